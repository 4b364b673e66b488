/- Contracts and plain laws of chapter 13, merged: Pf Ph Qb Pl. -/
import Derived.Test.YtkcdlbclodjjhaaGreatGaf
import Derived.Test.YtkcdlbclodjjhaaGreatGal
import Derived.Test.YtkcdlbclodjjhaaGreatGae
import Derived.Test.YtkcdlbclodjjhaaGreatGam
import Derived.Test.YtkcdlbclodjjhaaGreatGah
/- Contract of the ring's Times over a board, with or without room. (Printed by wip/tools/gen_pf.py.) -/
namespace Go.Proofs.YtkcdlbclodjjhaaGreat
open Go.RowKit

theorem pre_partF (b : Nat) : ∀ (l : List Nat) (s : List Gat × List Nat), s.1 <+: (l.foldl (partStep b) s).1
  | [], _ => List.prefix_rfl
  | a :: r, s => by
    rw [List.foldl_cons]
    exact (List.prefix_append s.1 _).trans (pre_partF b r (partStep b s a))
theorem pre_partSt (G : List Gat) (b : Nat) (l : List Nat) : G <+: (partSt G b l).1 := by unfold partSt; exact pre_partF b l (G, [])
theorem pre_times (G : List Gat) (vs ws : List Nat) : ∀ k, G <+: (timesSt G vs ws k).1
  | 0 => List.prefix_rfl
  | k + 1 => by
    have h1 := pre_times G vs ws k
    simp only [timesSt, timesStep]
    split
    · exact h1.trans (pre_partSt _ _ _)
    · exact (h1.trans (pre_partSt _ _ _)).trans ((List.prefix_append _ _).trans (pre_addSt _ _ _))
set_option maxHeartbeats 8000000 in
set_option maxRecDepth 100000 in
theorem times_any (B p : Nat) (hp : 1 < p) (sl : List Slo) (G : List Gat) (xs : List Exi) (v1 v2 v3 : Value) (vs ws : List Nat) (VA WA : Option Addr) (vc wc : Nat) (hlen : ws.length = vs.length) (hl : vs.length ≤ 65536) (hvs : ∀ x ∈ vs, x < G.length) (hws : ∀ x ∈ ws, x < G.length) (hcap : vs.length ≤ vc) (w : World) (h : IsB B p sl G xs v1 v2 v3 w) (hV : ∀ W v, Fr B v2 v w W → Reads W VA (nCells vs)) (hW : ∀ W v, Fr B v2 v w W → Reads W WA (nCells ws)) :
    Calls Tryz.prog 52 #[.iface 126 (.agg #[.pointer (some ⟨B, 0, none⟩)]), .slice VA vs.length vc, .slice WA vs.length wc] w fun e W' => (∃ v vo, e = .returned vo ∧ IsB B p sl (timesSt G vs ws vs.length).1 xs v1 v v3 W' ∧ Fr B v2 v w W' ∧ W'.ownsRow w.heap.size 3 1 vo vs.length (nCells (timesSt G vs ws vs.length).2)) ∨ Full (vs.length * (10 * vs.length + 1)) B p sl G xs v1 v2 v3 w e W' := by
  have mFixed := fun W => mFixed B W
  have mProduct := fun W => mProduct B W
  have nProduct := fun W => nProduct B W
  simp only [Nat.reduceAdd] at mFixed mProduct nProduct
  have HL := Lib.hid (timesSt_len G vs ws)
  have HVS := Lib.hid hvs; have HWS := Lib.hid hws; have HV := Lib.hid hV; have HW := Lib.hid hW; have HB := Lib.hid h; have HLT := Lib.hid h.lt; have HP := Lib.hid hp
  have HE := Lib.hid hlen
  have HH : Hid (timesSt G vs ws 0 = (G, [])) := Lib.hid rfl
  have HPR := Lib.hid (pre_times G vs ws)
  clear hvs hws hV hW h hp hlen
  go_enter Tryz.func52, Tryz.ntmps52
  go_wp2
  go_loopg [7, 17] vs.length (fun g o' i' wr => ∃ (k : Nat) (Gk : List Gat) (ok : List Nat) (vo vk : Value), k ≤ vs.length ∧ g = vs.length - k ∧ o' = vo ∧ i' = .int .i64 k ∧ Hid (timesSt G vs ws k = (Gk, ok)) ∧ wr.ownsRow w.heap.size 3 1 vo ok.length (nCells ok) ∧ IsB B p sl Gk xs v1 vk v3 wr ∧ Fr B v2 vk w wr)
  case atStart => exact ⟨0, G, [], .slice none 0 0, v2, Nat.zero_le _, rfl, rfl, rfl, HH, World.ownsRow_nil _ _ _ _, HB.out, Fr.refl _ _ _⟩
  case round =>
    rename World => wo
    obtain ⟨k, Gk, ok, vo, vk, hk, rfl, rfl, rfl, hst, hown, hIk, hFk⟩ := hrel
    have HOO := Lib.hid hown; have HIO := Lib.hid hIk; have HFO := Lib.hid hFk
    clear hown hIk hFk
    by_cases hlt : k < vs.length
    · have hlw : k < ws.length := by have := HE.out; omega
      obtain ⟨wad, hwa, q1⟩ := (HW.out _ _ HFO.out).nat k hlw
      obtain ⟨vad, hva, _⟩ := (HV.out _ _ HFO.out).nat k hlt
      have hL := HL.out k (by omega)
      rw [hst.out] at hL
      simp only at hL
      have hb := HWS.out _ (List.getElem_mem hlw)
      have hgd : ws.getD k 0 = ws[k] := getD_at hlw
      obtain ⟨m, hm⟩ : ∃ m, vs.length = m + k := ⟨vs.length - k, by omega⟩
      have hm0 : 0 < m := by omega
      have hsub : (vs.length : Int) - (k : Int) = (m : Int) := by omega
      have HK1 : Hid (timesSt G vs ws (k + 1) = timesStep vs (Gk, ok) k ws[k]) := Lib.hid (by show timesStep vs (timesSt G vs ws k) k (ws.getD k 0) = _; rw [hst.out, hgd])
      clear hgd
      generalize ws[k] = b at *
      have hLm : (vs.take m).length = m := by rw [List.length_take]; omega
      have hpl : vs.take (vs.length - k) = vs.take m := by rw [hm, Nat.add_sub_cancel]
      have hmul : (k + 1) * (10 * vs.length + 1) ≤ vs.length * (10 * vs.length + 1) := Nat.mul_le_mul_right _ (by omega)
      have hmul2 : (k + 1) * (10 * vs.length + 1) = k * (10 * vs.length + 1) + (10 * vs.length + 1) := Nat.succ_mul _ _
      have HG : Hid (Gk.length + 10 * m + 1 ≤ G.length + vs.length * (10 * vs.length + 1) ∧ G.length ≤ Gk.length ∧ ok.length = (if k = 0 then 0 else vs.length) ∧ (∀ x ∈ ok, x < Gk.length) ∧ b < G.length) := Lib.hid ⟨by omega, hL.2.1, hL.2.2.1, hL.2.2.2, hb⟩
      have HMK := Lib.hid hm
      have i3 : ¬ (vc : Int) < (m : Int) := by omega
      have HPL := Lib.hid hpl
      have HLM := Lib.hid hLm
      have HPS := Lib.hid (partSt_succ Gk b (vs.take m))
      have HPN := Lib.hid (partSt_len Gk b (vs.take m))
      have HWR : Hid (w.heap.size ≤ wo.heap.size) := Lib.hid HFO.out.size
      have hpk := HPR.out k
      rw [hst.out] at hpk
      have HPK : Hid (G <+: Gk) := Lib.hid hpk
      clear hL hb hpl hLm hmul hmul2 hst hm hpk
      have HVA := Lib.hid hva
      subst hva
      subst hwa
      have i1 : (0 : Int) ≤ (k : Int) := by omega
      have i2 : (k : Int) < (vs.length : Int) := by omega
      have i4 : ¬ (m : Int) < 0 := by omega
      go_wp2
      go_loopg [10, 29] m (fun g p' j' wr => ∃ (j : Nat) (Gj : List Gat) (pj : List Nat) (vp vj : Value), j ≤ m ∧ g = m - j ∧ p' = vp ∧ j' = .int .i64 j ∧ Hid (partSt Gk b ((vs.take m).take j) = (Gj, pj)) ∧ wr.ownsRow wo.heap.size 3 1 vp j (nCells pj) ∧ IsB B p sl Gj xs v1 vj v3 wr ∧ Fr B v2 vj w wr ∧ wr.ownsRow w.heap.size 3 1 u7 ok.length (nCells ok) ∧ wo.heap.size ≤ wr.heap.size)
      case atStart => exact ⟨0, Gk, [], .slice none 0 0, vk, Nat.zero_le _, rfl, rfl, rfl, Lib.hid rfl, World.ownsRow_nil _ _ _ _, HIO.out, HFO.out, HOO.out, Nat.le_refl _⟩
      case round =>
        obtain ⟨j, Gj, pj, vp, vj, hj, rfl, rfl, rfl, hpt, hown, hIj, hFj, hOj, hzj⟩ := hrel
        have HO0 := Lib.hid hown; have HI0 := Lib.hid hIj; have HF0 := Lib.hid hFj; have HV0 := Lib.hid hOj
        clear hown hIj hFj hOj
        by_cases hltj : j < m
        · have hjv : j < vs.length := by have := HMK.out; omega
          obtain ⟨vad', e1, q2⟩ := (HV.out _ _ HF0.out).nat j hjv
          injection e1 with e1
          subst e1
          have hpn := HPN.out j (by have := HLM.out; omega)
          have hps := HPS.out j (by have := HLM.out; omega)
          rw [hpt.out] at hpn hps
          simp only at hpn
          have hav := HVS.out _ (List.getElem_mem hjv)
          have hge : (vs.take m)[j]'(by have := HLM.out; omega) = vs[j] := by rw [List.getElem_take]
          rw [hge] at hps
          clear hge
          have hpj1 : G <+: Gj := HPK.out.trans (by have := pre_partSt Gk b ((vs.take m).take j); rwa [hpt.out] at this)
          have hg := HG.out
          have hm9 := HMK.out
          generalize vs[j] = a at *
          have hpr : Hid (Calls Tryz.prog 122 #[.agg #[.pointer (some ⟨B, 0, none⟩)], .int .i64 ((a : Nat) : Int), .int .i64 ((b : Nat) : Int)] wr fun e W' => (e = .returned (.int .i64 ((Gj.length : Nat) : Int)) ∧ ∃ v', IsB B p sl (Gj ++ [((5, ((a : Nat) : Int), ((b : Nat) : Int), 0) : Gat)]) xs v1 v' v3 W' ∧ Fr B v2 v' w W' ∧ W'.ownsRow wo.heap.size 3 1 u10 j (nCells pj) ∧ W'.ownsRow w.heap.size 3 1 u7 ok.length (nCells ok) ∧ wo.heap.size ≤ W'.heap.size) ∨ Full (vs.length * (10 * vs.length + 1)) B p sl G xs v1 v2 v3 w e W') :=
            Lib.hid (any_mono (product_any B p HP.out sl Gj xs v1 vj v3 a b (by omega) (by omega) wr HI0.out) (fun _ _ he => by
              obtain ⟨e1, v', h1, h2⟩ := he
              exact ⟨e1, v', h1, HF0.out.trans h2, h2.own_int HI0.out.h2 HO0.out (Nat.lt_of_lt_of_le HLT.out HWR.out), h2.own_int HI0.out.h2 HV0.out HLT.out, Nat.le_trans hzj h2.size⟩) HF0.out hpj1 (by omega))
          have HPT : Hid (partSt Gk b ((vs.take m).take (j + 1)) = (Gj ++ [((5, ((a : Nat) : Int), ((b : Nat) : Int), 0) : Gat)], pj ++ [Gj.length])) := Lib.hid hps
          clear hps hpn hav hg hm9 hpj1
          have j1 : (0 : Int) ≤ (j : Int) := by omega
          have j2 : (j : Int) < (m : Int) := by omega
          go_wp2_with (first | (go_at_call 122; refine hpr.out.mono ?_; intro e w1 he; rcases he with ⟨rfl, x1, hI, hF, hO, hV1, hz1⟩ | ⟨hk, rfl, he⟩; rotate_left; exact ⟨rfl, .inr ⟨hk, rfl, he⟩⟩; have HI1 := Lib.hid hI; have HF1 := Lib.hid hF; have HO1 := Lib.hid hO; have HV1 := Lib.hid hV1; have HZ1 := Lib.hid hz1; clear hI hF hO hV1 hz1) | (at_builtin; refine list_append_own (W0 := w1) (below_snoc (Below.refl _ _) _) wo.heap.size rfl _ _ 38 3 _ 8 rfl Tryz.underlying38 infoInt rfl (by decide) u10 j _ (.int .i64 ((Gj.length : Nat) : Int)) rfl _ rfl (by simp) rfl HO1.out (by have h5 := HZ1.out; omega) (by omega) ?_; intro v9 w9 hown9 hg9; have HO9 := Lib.hid hown9; have HI9 := Lib.hid (HI1.out.grown HB.out HO1.out HWR.out hg9); have HF9 := Lib.hid (HF1.out.grown HO1.out HWR.out hg9); have HZ9 := Lib.hid (Nat.le_trans HZ1.out hg9.size); have HV9 := Lib.hid (HV1.out.kept hg9 (own_apart HOO.out HO1.out (Nat.le_refl _))); clear hown9 hg9))
          go_roundg (m - (j + 1))
          case measure => omega
          case rel => exact ⟨j + 1, _, pj ++ [Gj.length], _, _, by omega, rfl, rfl, by go_num, HPT, by rw [nCells_snoc]; exact HO9.out, HI9.out, HF9.out, HV9.out, by have h5 := HZ9.out; omega⟩
        · obtain rfl : j = m := by omega
          have hpt' := hpt.out
          rw [List.take_of_length_le (by rw [HLM.out]; exact Nat.le_refl _)] at hpt'
          have hpa := partSt_all Gk b (vs.take j)
          rw [hpt', HLM.out] at hpa
          simp only at hpa
          have HPA := Lib.hid hpa
          have HPT := Lib.hid hpt'
          clear hpa hpt'
          by_cases hk0 : k = 0
          · have c1 : ((k : Int) == 0) = true := by simp [hk0]
            have HSU : Hid (timesSt G vs ws (k + 1) = (Gj, pj)) := Lib.hid (by rw [HK1.out]; unfold timesStep; rw [HPL.out]; simp only [HPT.out]; rw [if_pos hk0])
            clear i1
            go_wp2
            go_roundg (vs.length - (k + 1))
            case measure => omega
            case rel => exact ⟨k + 1, Gj, pj, _, _, by omega, rfl, rfl, by go_num, HSU, by rw [HPA.out.2.1]; exact own_lower HO0.out HWR.out, HI0.out, HF0.out⟩
          · have c1 : ((k : Int) == 0) = false := by simp; omega
            have hok := HG.out.2.2.1
            rw [if_neg hk0] at hok
            obtain ⟨g, cap, rfl, hgb, hcp⟩ := own_form HV0.out (by have := HMK.out; omega)
            obtain ⟨g2, cap2, rfl, hgb2, hcp2⟩ := own_form HO0.out hm0
            have i5 : (k : Int) ≤ (vs.length : Int) := by omega
            have i6 : ¬ (vs.length : Int) < (k : Int) := by omega
            have hdl : (ok.drop k).length = j := by rw [List.length_drop, hok]; have := HMK.out; omega
            have hpj := HPA.out.2.1
            have hGj := HPA.out.1
            have hgg := HG.out
            have hpj2 : G <+: Gj := HPK.out.trans (by have := pre_partSt Gk b (vs.take j); rwa [HPT.out] at this)
            have HX : Hid (∀ W, Below wr.heap.size wr W → Calls Tryz.prog 120 #[.agg #[.pointer (some ⟨B, 0, none⟩)], .int .u64 0] W fun e W' => (e = .returned (.int .i64 ((Gj.length : Nat) : Int)) ∧ ∃ v', IsB B p sl (Gj ++ conL 0) xs v1 v' v3 W' ∧ Fr B v2 v' w W' ∧ W'.ownsRow w.heap.size 3 1 (.slice (some ⟨g, 0, none⟩) ok.length cap) ok.length (nCells ok) ∧ W'.ownsRow wo.heap.size 3 1 (.slice (some ⟨g2, 0, none⟩) j cap2) j (nCells pj)) ∨ Full (vs.length * (10 * vs.length + 1)) B p sl G xs v1 v2 v3 w e W') :=
              Lib.hid fun W hb => (fixed_rowF B p HP.out sl Gj xs v1 v2 v3 0 (by omega) w W vj (HF0.out.below hb) (HI0.out.below hb) G _ hpj2 (by omega)).mono fun _ _ he => he.imp (fun he => ⟨he.1, by
                obtain ⟨_, v', h1, h2, h3⟩ := he
                exact ⟨v', h1, h2, h3 _ _ _ _ HLT.out (own_below HV0.out hb), h3 _ _ _ _ (Nat.lt_of_lt_of_le HLT.out HWR.out) (own_below HO0.out hb)⟩⟩) id
            have HAD : ∃ s, s = addSt (Gj ++ conL 0) Gj.length ((ok.drop k).zip pj) := ⟨_, rfl⟩
            obtain ⟨⟨Ga, oa, ca⟩, had⟩ := HAD
            have hal := addSt_all (Gj ++ conL 0) Gj.length ((ok.drop k).zip pj) (by simp [conL])
            rw [← had, List.length_zip, hdl, hpj, Nat.min_self] at hal
            simp only at hal
            have HA : Hid (∀ W v, IsB B p sl (Gj ++ conL 0) xs v1 v v3 W → Fr B v2 v w W → W.ownsRow w.heap.size 3 1 (.slice (some ⟨g, 0, none⟩) ok.length cap) ok.length (nCells ok) → W.ownsRow wo.heap.size 3 1 (.slice (some ⟨g2, 0, none⟩) j cap2) j (nCells pj) →
                Calls Tryz.prog 90 #[.iface 126 (.agg #[.pointer (some ⟨B, 0, none⟩)]), .slice (some ⟨g, k, none⟩) j (cap - k), .slice (some ⟨g2, 0, none⟩) j cap2, .int .i64 ((Gj.length : Nat) : Int)] W fun e W' => (∃ v' g3 c3, e = .returned (.tuple #[.slice (some ⟨g3, 0, none⟩) j c3, .int .i64 ((ca : Nat) : Int)]) ∧ IsB B p sl Ga xs v1 v' v3 W' ∧ Fr B v2 v' w W' ∧ W'.ownsRow w.heap.size 3 1 (.slice (some ⟨g, 0, none⟩) ok.length cap) ok.length (nCells ok) ∧ W'.ownsRow w.heap.size 3 1 (.slice (some ⟨g3, 0, none⟩) j c3) j (nCells oa)) ∨ Full (vs.length * (10 * vs.length + 1)) B p sl G xs v1 v2 v3 w e W') :=
              Lib.hid fun W v hI hF hO hP => by
                have hk1 : ∀ W' v', Fr B v v' W W' → Reads W' (some ⟨g, k, none⟩) (nCells (ok.drop k)) := fun W' v' hf => reads_drop (own_keep hI HLT.out hO W' v' hf)
                have h0 := add_any B p HP.out sl (Gj ++ conL 0) xs v1 v v3 (ok.drop k) pj (some ⟨g, k, none⟩) (some ⟨g2, 0, none⟩) (cap - k) cap2 Gj.length (by rw [hdl, hpj]) (by omega) (by simp [conL]) (fun x hx => by have := hgg.2.2.2.1 x (List.mem_of_mem_drop hx); simp [conL]; omega) (fun x hx => by have := HPA.out.2.2 x hx; simp [conL]; omega) W hI hk1 (own_keep hI (Nat.lt_of_lt_of_le HLT.out HWR.out) hP)
                rw [← had, hdl] at h0
                refine h0.mono fun _ _ he => ?_
                rcases he with ⟨v', vo, e1, h1, h2, h3⟩ | he
                rotate_left
                · exact .inr (he.chain hF (hpj2.trans (List.prefix_append _ _)) (by simp [conL]; omega))
                obtain ⟨g3, c3, rfl, hg3, hc3⟩ := own_form h3 hm0
                exact .inl ⟨v', g3, c3, e1, h1, hF.trans h2, h2.own_int hI.h2 hO HLT.out, own_lower h3 hF.size⟩
            have HSU : Hid (timesSt G vs ws (k + 1) = (Ga, ok.take k ++ oa)) := Lib.hid (by rw [HK1.out]; unfold timesStep; rw [HPL.out]; simp only [HPT.out]; rw [if_neg hk0, ← had])
            have HOA : Hid (oa.length = j) := Lib.hid hal.2.1
            have HTK : Hid ((ok.take k).length = k) := Lib.hid (by rw [List.length_take, hok]; omega)
            have HKV : Hid (k + j = vs.length) := Lib.hid (by have := HMK.out; omega)
            have hcpk : ¬ (cap : Int) < (k : Int) := by omega
            have hjk : vs.length - k = j := by have := HMK.out; omega
            have i7 : ¬ (cap : Int) < (vs.length : Int) := by omega
            have i8 : ¬ cap = k := by omega
            have HK0 : Hid (0 < k) := Lib.hid (by omega)
            have i9 : k ≤ vs.length := by omega
            have i10 : k ≤ cap := by omega
            rw [hok] at HX HA HV0 hcp ⊢
            have HOK := Lib.hid hok
            clear hpj2 hdl hpj hGj hgg had hal hok hk0 HI0 HF0 HO0 HV0 hgb hgb2 hcp hcp2
            go_upto_region 13 with fail
            go_region_held2 (fun _ => True) (trivial) (first | (go_at_call 120; refine (HX.out _ (by repeat (first | exact Below.refl _ _ | refine Below.drew ?_ | refine Below.alloc ?_ (by simp) _))).mono ?_; intro e w1 he; rcases he with ⟨rfl, x1, hI, hF, hO, hP⟩ | ⟨hk, rfl, he⟩; rotate_left; exact ⟨rfl, .inr ⟨hk, rfl, he⟩⟩; have HI1 := Lib.hid hI; have HF1 := Lib.hid hF; have HO1 := Lib.hid hO; have HP1 := Lib.hid hP; clear hI hF hO hP) | (go_at_call 90; refine (HA.out _ _ HI1.out HF1.out HO1.out HP1.out).mono ?_; intro e w2 he; rcases he with ⟨x2, g3, c3, rfl, hI, hF, hO, hP⟩ | ⟨hk, rfl, he⟩; rotate_left; exact ⟨rfl, .inr ⟨hk, rfl, he⟩⟩; have HI2 := Lib.hid hI; have HF2 := Lib.hid hF; have HO2 := Lib.hid hO; have HP2 := Lib.hid hP; clear hI hF hO hP))
            all_goals go_wp2_with (first
              | (at_builtin; refine app_slice w2.heap.size rfl _ _ 38 3 _ 8 rfl Tryz.underlying38 infoInt rfl (by decide) _ k (nCells (ok.take k)) (nCells oa) rfl ⟨g3, 0, none⟩ j c3 rfl (by unfold nCells; rw [List.length_map]; exact HOA.out) (reads_get (own_reads_at HP2.out) HBM.out) (one_nat _) HOM.out HSM.out (by have h5 := HKV.out; omega) ?_; intro v4 w4 hown4 hg4; have HO4 := Lib.hid hown4; have HI4 := Lib.hid ((HI2.out.below HBM.out).grown HB.out HOM.out HWM.out hg4); have HF4 := Lib.hid ((HF2.out.below HBM.out).grown HOM.out HWM.out hg4); clear hown4 hg4)
              | (at_builtin; refine app_slice w2.heap.size rfl _ _ 38 3 _ 8 rfl Tryz.underlying38 infoInt rfl (by decide) _ 0 [] (nCells (ok.take k)) rfl ⟨g, 0, none⟩ k cap rfl (by unfold nCells; rw [List.length_map]; exact HTK.out) (reads_get (reads_take (own_reads_at HO2.out)) ((Below.refl _ _).alloc (Nat.le_refl _) _)) (one_nat _) (own_empty w2 _) (by simp) (by omega) ?_; intro vm wm hownm hgm; have HBM := Lib.hid (((Below.refl w2.heap.size w2).alloc (Nat.le_refl _) (.cells #[] 3)).grown hgm (by simp) (fun q hq => by cases hq; exact Nat.le_refl _)); have HSM := Lib.hid HBM.out.size; have hownk : wm.ownsRow w2.heap.size 3 1 vm k (nCells (ok.take k)) := (by simpa using hownm); obtain ⟨gm, cm, rfl, _, _⟩ := own_form hownk HK0.out; have HOM := Lib.hid hownk; have HWM := Lib.hid HF2.out.size; clear hownm hgm hownk))
            all_goals go_roundg (vs.length - (k + 1))
            all_goals first
              | omega
              | exact ⟨k + 1, Ga, ok.take k ++ oa, _, _, by omega, rfl, rfl, by go_num, HSU, by rw [show (ok.take k ++ oa).length = k + j by rw [List.length_append, HTK.out, HOA.out], show nCells (ok.take k ++ oa) = nCells (ok.take k) ++ nCells oa by simp [nCells]]; exact own_lower HO4.out HWM.out, HI4.out, HF4.out⟩
    · obtain rfl : k = vs.length := by omega
      have HST := hst
      clear hst
      go_wp2
      go_ret
      have hol := (HL.out vs.length (Nat.le_refl _)).2.2.1
      rw [HST.out] at hol
      simp only at hol
      have hol2 : ok.length = vs.length := by
        rw [hol]; split
        · omega
        · rfl
      refine .inl ⟨vk, _, rfl, ?_, HFO.out, ?_⟩
      · rw [HST.out]; exact HIO.out
      · rw [HST.out]; rw [← hol2]; exact HOO.out
end Go.Proofs.YtkcdlbclodjjhaaGreat

/- Contract of the ring's Num over a board, with or without room. -/
namespace Go.Proofs.YtkcdlbclodjjhaaGreat
open Go.RowKit

/-- What Num lays, the word's last bit first. -/
def numStep (s : List Gat × Nat) (x : Nat) : List Gat × Nat := (s.1 ++ [((3, ((s.2 : Nat) : Int), ((s.2 : Nat) : Int), 0) : Gat), ((3, ((s.1.length : Nat) : Int), ((x : Nat) : Int), 0) : Gat)], s.1.length + 1)
def numSt (G : List Gat) (l : List Nat) : List Gat × Nat := l.foldl numStep (G ++ conL 0, G.length)
theorem numSt_succ (G : List Gat) (l : List Nat) (k : Nat) (h : k < l.length) : numSt G (l.take (k + 1)) = numStep (numSt G (l.take k)) l[k] := by
  unfold numSt
  rw [List.take_succ_eq_append_getElem h, List.foldl_append]
  rfl
theorem numSt_len (G : List Gat) (l : List Nat) : ∀ k, k ≤ l.length → (numSt G (l.take k)).1.length = G.length + 1 + 2 * k ∧ (numSt G (l.take k)).2 < (numSt G (l.take k)).1.length := by
  intro k
  induction k with
  | zero => intro _; exact ⟨by simp [numSt, conL], by simp [numSt, conL]⟩
  | succ k ih =>
    intro h
    obtain ⟨h1, _⟩ := ih (by omega)
    rw [numSt_succ G l k (by omega)]
    refine ⟨?_, ?_⟩
    · simp only [numStep, List.length_append, h1, List.length_cons, List.length_nil]; omega
    · simp only [numStep, List.length_append, List.length_cons, List.length_nil]; omega
theorem pre_numF : ∀ (l : List Nat) (s : List Gat × Nat), s.1 <+: (l.foldl numStep s).1
  | [], _ => List.prefix_rfl
  | a :: r, s => by
    rw [List.foldl_cons]
    exact (List.prefix_append s.1 _).trans (pre_numF r (numStep s a))
theorem pre_numSt (G : List Gat) (l : List Nat) : G <+: (numSt G l).1 := by unfold numSt; exact (List.prefix_append G (conL 0)).trans (pre_numF l (G ++ conL 0, G.length))
set_option maxHeartbeats 4000000 in
set_option maxRecDepth 100000 in
theorem num_any (B p : Nat) (hp : 1 < p) (sl : List Slo) (G : List Gat) (xs : List Exi) (v1 v2 v3 : Value) (ws : List Nat) (WA : Option Addr) (wc n : Nat) (hn : ws.length = n) (hl : n ≤ 65536) (hws : ∀ x ∈ ws, x < G.length) (w : World) (h : IsB B p sl G xs v1 v2 v3 w) (hW : ∀ W v, Fr B v2 v w W → Reads W WA (nCells ws)) :
    Calls Tryz.prog 75 #[.iface 126 (.agg #[.pointer (some ⟨B, 0, none⟩)]), .slice WA n wc] w fun e W' => (∃ v, e = .returned (.int .i64 (((numSt G ws.reverse).2 : Nat) : Int)) ∧ IsB B p sl (numSt G ws.reverse).1 xs v1 v v3 W' ∧ Fr B v2 v w W') ∨ Full (1 + 2 * n) B p sl G xs v1 v2 v3 w e W' := by
  have mFixed := fun W => mFixed B W
  have mSum := fun W => mSum B W
  have nSum := fun W => nSum B W
  simp only [Nat.reduceAdd] at mFixed mSum nSum
  have hrl : ws.reverse.length = n := by rw [List.length_reverse, hn]
  have HL := Lib.hid (numSt_len G ws.reverse)
  have HS := Lib.hid (numSt_succ G ws.reverse)
  have HPR := Lib.hid (fun k => pre_numSt G (ws.reverse.take k))
  have HWS := Lib.hid hws; have HW := Lib.hid hW; have HB := Lib.hid h; have HP := Lib.hid hp
  have HZ := Lib.hid hrl
  have HE := Lib.hid hn
  have HH : Hid (numSt G (ws.reverse.take 0) = (G ++ conL 0, G.length)) := Lib.hid rfl
  have HX : Hid (∀ W, Below w.heap.size w W → Calls Tryz.prog 120 #[.agg #[.pointer (some ⟨B, 0, none⟩)], .int .u64 0] W fun e W' => (e = .returned (.int .i64 ((G.length : Nat) : Int)) ∧ ∃ v', IsB B p sl (G ++ conL 0) xs v1 v' v3 W' ∧ Fr B v2 v' w W') ∨ Full (1 + 2 * n) B p sl G xs v1 v2 v3 w e W') :=
    Lib.hid fun W hb => fixed_row0 B p hp sl G xs v1 v2 v3 0 (by omega) w W hb h _ (by omega)
  clear hws hW h hp hrl hn
  go_enter Tryz.func75, Tryz.ntmps75
  go_wp2_with (go_at_call 120; refine (HX.out _ (Below.refl _ _)).mono ?_; intro e w1 he; rcases he with ⟨rfl, x1, hI, hF⟩ | ⟨hk, rfl, he⟩; rotate_left; exact ⟨rfl, .inr ⟨hk, rfl, he⟩⟩; have HI1 := Lib.hid hI; have HF1 := Lib.hid hF; clear hI hF)
  go_loopg [5, 6] n (fun g a' i' wr => ∃ (k : Nat) (Gk : List Gat) (ak : Nat) (vk : Value), k ≤ n ∧ g = n - k ∧ a' = .int .i64 ((ak : Nat) : Int) ∧ i' = .int .i64 ((n : Int) - (k : Int) - 1) ∧ Hid (numSt G (ws.reverse.take k) = (Gk, ak)) ∧ IsB B p sl Gk xs v1 vk v3 wr ∧ Fr B v2 vk w wr)
  case atStart => exact ⟨0, G ++ conL 0, G.length, x1, Nat.zero_le _, rfl, rfl, by go_num, HH, HI1.out, HF1.out⟩
  case round =>
    clear HI1 HF1
    obtain ⟨k, Gk, ak, vk, hk, rfl, rfl, hi, hst, hIk, hFk⟩ := hrel
    have HI0 := Lib.hid hIk; have HF0 := Lib.hid hFk
    clear hIk hFk
    by_cases hlt : k < n
    · obtain ⟨m, hm⟩ : ∃ m, n = m + k + 1 := ⟨n - k - 1, by omega⟩
      have hlm : m < ws.length := by have := HE.out; omega
      have hlz : k < ws.reverse.length := by rw [HZ.out]; exact hlt
      rw [show (n : Int) - (k : Int) - 1 = (m : Int) by omega] at hi
      subst hi
      obtain ⟨wad, hwa, q1⟩ := (HW.out _ _ HF0.out).nat m hlm
      have hcell : Hid (∀ W v, Fr B v2 v w W → W.cell? (wad.add m) = some (.int .i64 ((ws[m] : Nat) : Int))) := Lib.hid fun W v hF => by
        obtain ⟨wad', e1, e2⟩ := (HW.out _ _ hF).nat m hlm
        rw [hwa] at e1
        injection e1 with e1
        rw [e1]; exact e2
      have hsu := HS.out k hlz
      have hL := HL.out k (by omega)
      have hpr := HPR.out k
      rw [hst.out] at hsu hL hpr
      simp only at hL hpr
      obtain ⟨hL1, hL2⟩ := hL
      have hbv := HWS.out _ (List.getElem_mem hlm)
      have hge : ws.reverse[k] = ws[m] := by
        rw [List.getElem_reverse]
        congr 1
        have := HE.out
        omega
      rw [hge] at hsu
      clear hge
      have hp := HP.out
      generalize ws[m] = b at *
      have h1 : Hid (∀ W0 W v, IsB B p sl Gk xs v1 v v3 W0 → Fr B v2 v w W0 → Below W0.heap.size W0 W → Calls Tryz.prog 123 #[.agg #[.pointer (some ⟨B, 0, none⟩)], .int .i64 ((ak : Nat) : Int), .int .i64 ((ak : Nat) : Int)] W fun e W' => (e = .returned (.int .i64 ((Gk.length : Nat) : Int)) ∧ ∃ v', IsB B p sl (Gk ++ [((3, ((ak : Nat) : Int), ((ak : Nat) : Int), 0) : Gat)]) xs v1 v' v3 W' ∧ Fr B v2 v' w W') ∨ Full (1 + 2 * n) B p sl G xs v1 v2 v3 w e W') :=
        Lib.hid fun W0 W v hI hF hB => any_mono (sum_any B p hp sl Gk xs v1 v v3 ak ak hL2 hL2 W (hI.below hB)) (fun _ _ he => OkPost.chain (hF.below hB) he) (hF.below hB) hpr (by omega)
      have hx1 : (Gk ++ [((3, ((ak : Nat) : Int), ((ak : Nat) : Int), 0) : Gat)]).length = Gk.length + 1 := by simp
      have h2 : Hid (∀ W0 W v, IsB B p sl (Gk ++ [((3, ((ak : Nat) : Int), ((ak : Nat) : Int), 0) : Gat)]) xs v1 v v3 W0 → Fr B v2 v w W0 → Below W0.heap.size W0 W → Calls Tryz.prog 123 #[.agg #[.pointer (some ⟨B, 0, none⟩)], .int .i64 ((Gk.length : Nat) : Int), .int .i64 ((b : Nat) : Int)] W fun e W' => (e = .returned (.int .i64 ((Gk.length + 1 : Nat) : Int)) ∧ ∃ v', IsB B p sl (Gk ++ [((3, ((ak : Nat) : Int), ((ak : Nat) : Int), 0) : Gat), ((3, ((Gk.length : Nat) : Int), ((b : Nat) : Int), 0) : Gat)]) xs v1 v' v3 W' ∧ Fr B v2 v' w W') ∨ Full (1 + 2 * n) B p sl G xs v1 v2 v3 w e W') :=
        Lib.hid fun W0 W v hI hF hB => any_mono (sum_any B p hp sl _ xs v1 v v3 Gk.length b (by omega) (by omega) W (hI.below hB)) (fun _ _ he => by have h5 := OkPost.chain (hF.below hB) he; rw [hx1] at h5; simpa using h5) (hF.below hB) (hpr.trans (List.prefix_append _ _)) (by omega)
      have HSU : Hid (numSt G (ws.reverse.take (k + 1)) = (Gk ++ [((3, ((ak : Nat) : Int), ((ak : Nat) : Int), 0) : Gat), ((3, ((Gk.length : Nat) : Int), ((b : Nat) : Int), 0) : Gat)], Gk.length + 1)) := Lib.hid hsu
      clear hsu hL1 hL2 hbv hpr hp hx1
      generalize Gk ++ [((3, ((ak : Nat) : Int), ((ak : Nat) : Int), 0) : Gat), ((3, ((Gk.length : Nat) : Int), ((b : Nat) : Int), 0) : Gat)] = G2 at *
      generalize Gk ++ [((3, ((ak : Nat) : Int), ((ak : Nat) : Int), 0) : Gat)] = G1 at *
      subst hwa
      have i1 : (0 : Int) ≤ (m : Int) := by omega
      have i2 : (m : Int) < (n : Int) := by omega
      have HMI : Hid ((n : Int) - ((k + 1 : Nat) : Int) - 1 = (m : Int) - 1) := Lib.hid (by omega)
      clear hm
      go_upto_region 5 with fail
      go_region_held2 (fun W => W.cell? (wad.add m) = some (.int .i64 ((b : Nat) : Int))) ((first | exact hcell.out _ _ HF2.out | exact hcell.out _ _ (HF2.out.below (Below.refl _ _).drew) | exact hcell.out _ _ HF1.out | exact hcell.out _ _ (HF1.out.below (Below.refl _ _).drew) | exact hcell.out _ _ HF0.out | exact hcell.out _ _ (HF0.out.below (Below.refl _ _).drew))) (first | (go_at_call 123; refine (h2.out _ _ _ HI1.out HF1.out (by repeat (first | exact Below.refl _ _ | refine Below.drew ?_ | refine Below.alloc ?_ (by simp) _))).mono ?_; intro e w2 he; rcases he with ⟨rfl, x2, hI, hF⟩ | ⟨hk, rfl, he⟩; rotate_left; exact ⟨rfl, .inr ⟨hk, rfl, he⟩⟩; have HI2 := Lib.hid hI; have HF2 := Lib.hid hF; clear hI hF) | (go_at_call 123; refine (h1.out _ _ _ HI0.out HF0.out (by repeat (first | exact Below.refl _ _ | refine Below.drew ?_ | refine Below.alloc ?_ (by simp) _))).mono ?_; intro e w1 he; rcases he with ⟨rfl, x1, hI, hF⟩ | ⟨hk, rfl, he⟩; rotate_left; exact ⟨rfl, .inr ⟨hk, rfl, he⟩⟩; have HI1 := Lib.hid hI; have HF1 := Lib.hid hF; clear hI hF))
      all_goals go_wp2
      all_goals go_roundg (n - (k + 1))
      all_goals first
        | omega
        | exact ⟨k + 1, G2, Gk.length + 1, x2, by omega, rfl, rfl, by rw [HMI.out], HSU, HI2.out, HF2.out⟩
    · obtain rfl : k = n := by omega
      have hst' := hst.out
      rw [List.take_of_length_le (by rw [HZ.out]; exact Nat.le_refl _)] at hst'
      have HST := Lib.hid hst'
      clear hst'
      rw [show (k : Int) - (k : Int) - 1 = -1 by omega] at hi
      subst hi
      go_wp2
      go_ret
      refine .inl ⟨vk, ?_, ?_, HF0.out⟩
      · rw [HST.out]; rfl
      · rw [HST.out]; exact HI0.out
end Go.Proofs.YtkcdlbclodjjhaaGreat

/- Contracts of the reference's Places, Slot, Gate, Exit, Word, Words, Bits. -/
namespace Go.Proofs.YtkcdlbclodjjhaaGreat
open Go.RowKit

/-- What is wrong with places; with a word; with two words. -/
def placesErr (g : Nat) (l : List Int) : Int := if l.any (outside g) = true then 13 else 0
def wordErr (g : Nat) (ws : List Int) : Int := if ws.length < 1 ∨ 16 < ws.length then 3 else placesErr g ws
def wordsErr (g : Nat) (vs ws : List Int) : Int := if (vs.length < 1 ∨ 16 < vs.length) ∨ (ws.length < 1 ∨ 16 < ws.length) then 3 else if (vs ++ ws).any (outside g) = true then 13 else if vs.length = ws.length then 0 else 2
theorem wordsErr_self (g : Nat) (ws : List Int) : wordsErr g ws ws = wordErr g ws := by
  unfold wordsErr wordErr placesErr
  rw [List.any_append, Bool.or_self, if_pos rfl]
  by_cases h : ws.length < 1 ∨ 16 < ws.length
  · rw [if_pos (.inl h), if_pos h]
  · rw [if_neg (by omega), if_neg h]
/-- What is wrong with a slot, a gate, an exit that comes next. -/
def slotErr (sn gn : Nat) (x : Slo) : Int := if x.1 < 1 ∨ 13 < x.1 then 2 else if 256 ≤ sn ∨ 65536 ≤ gn then 3 else 0
def putErr (p sn gn : Nat) (g : Gat) : Int := if gErr p sn gn g ≠ 0 then gErr p sn gn g else if 65536 ≤ gn then 3 else 0
def tellErr (gn en : Nat) (x : Exi) : Int := if xErr gn x ≠ 0 then xErr gn x else if 4096 ≤ en then 3 else 0
set_option maxHeartbeats 1000000 in
set_option maxRecDepth 100000 in
theorem places_any (S Ga E : Option Addr) (sn sc gn gc en ec : Nat) (ls : List Int) (A : Option Addr) (c : Nat) (hl : ls.length ≤ 9223372036854775807) (w : World) (hA : Reads w A (iCells ls)) :
    Calls Tryz.prog 18 #[.agg #[.slice S sn sc, .slice Ga gn gc, .slice E en ec], .slice A ls.length c] w (GatePost (placesErr gn ls) w) := by
  have HA := Lib.hid hA
  clear hA
  go_enter Tryz.func18, Tryz.ntmps18
  go_wp2
  go_loopg [9] ls.length (fun g i' wr => ∃ k : Nat, k ≤ ls.length ∧ g = ls.length - k ∧ i' = .int .i64 k ∧ Hid ((ls.take k).any (outside gn) = false) ∧ Below w.heap.size w wr ∧ wr.heap[w.heap.size]? = some (.cells #[.slice S sn sc, .slice Ga gn gc, .slice E en ec] 36 (0, 0)))
  case atStart => exact ⟨0, Nat.zero_le _, rfl, rfl, Lib.hid rfl, (Below.refl _ _).alloc (Nat.le_refl _) _, heap_alloc_new w _⟩
  case round =>
    obtain ⟨k, hk, rfl, rfl, HP, hB, hbx⟩ := hrel
    have HB := Lib.hid hB
    obtain ⟨d0, d1, d2, g0, g1, g2⟩ := box_facts hbx
    have HX := Lib.hid hbx
    clear hB hbx
    by_cases hlt : k < ls.length
    · obtain ⟨ad, hva, q0⟩ := (HA.out.below HB.out).i k hlt
      have hmem := List.getElem_mem hlt
      have hsu : (ls.take (k + 1)).any (outside gn) = outside gn ls[k] := by
        rw [List.take_succ_eq_append_getElem hlt, List.any_append, HP.out]
        simp
      have hyes : outside gn ls[k] = true → placesErr gn ls = 13 := fun h => by
        unfold placesErr
        rw [if_pos (List.any_eq_true.2 ⟨_, hmem, h⟩)]
      have HY := Lib.hid hyes
      have HSU := Lib.hid hsu
      clear hsu hyes hmem
      generalize ls[k] = x at *
      subst hva
      have i1 : (0 : Int) ≤ (k : Int) := by omega
      have i2 : (k : Int) < (ls.length : Int) := by omega
      by_cases hx : x < 0
      · go_wp2
        go_ret
        exact ⟨ret_e (HY.out (by simp [outside, hx])).symm, HB.out⟩
      · by_cases hx2 : (gn : Int) ≤ x
        · go_wp2
          go_ret
          exact ⟨ret_e (HY.out (by simp [outside, hx2])).symm, HB.out⟩
        · go_wp2
          go_roundg (ls.length - (k + 1))
          case measure => omega
          case rel => exact ⟨k + 1, by omega, rfl, by go_num, Lib.hid (by rw [HSU.out]; simp [outside]; omega), HB.out, HX.out⟩
    · obtain rfl : k = ls.length := by omega
      have hp0 : placesErr gn ls = 0 := by
        have := HP.out
        rw [List.take_length] at this
        unfold placesErr
        rw [if_neg (by rw [this]; decide)]
      have HP0 := Lib.hid hp0
      clear hp0
      go_wp2
      go_ret
      exact ⟨ret_e HP0.out.symm, HB.out⟩
set_option maxRecDepth 100000 in
theorem rslot_any (S Ga E : Option Addr) (sn sc gn gc en ec : Nat) (x : Slo) (w : World) :
    Calls Tryz.prog 78 #[.agg #[.slice S sn sc, .slice Ga gn gc, .slice E en ec], .agg #[.int .i64 x.1, .bool x.2]] w (GatePost (slotErr sn gn x) w) := by
  obtain ⟨x1, x2⟩ := x
  have hb : Below w.heap.size w ((w.alloc (.cells #[.slice S sn sc, .slice Ga gn gc, .slice E en ec] 36)).alloc (.cells #[.int .i64 x1, .bool x2] 40)) := ((Below.refl _ _).alloc (Nat.le_refl _) _).alloc (by simp) _
  have HB := Lib.hid hb
  clear hb
  unfold slotErr
  simp only
  by_cases h1 : x1 < 1
  · rw [if_pos (.inl h1)]
    go_enter Tryz.func78, Tryz.ntmps78
    go_wp2
    go_ret
    exact ⟨rfl, HB.out⟩
  · by_cases h2 : (13 : Int) < x1
    · rw [if_pos (.inr h2)]
      go_enter Tryz.func78, Tryz.ntmps78
      go_wp2
      go_ret
      exact ⟨rfl, HB.out⟩
    · rw [if_neg (by omega)]
      by_cases h3 : 256 ≤ sn
      · have i3 : (256 : Int) ≤ (sn : Int) := by omega
        rw [if_pos (.inl h3)]
        go_enter Tryz.func78, Tryz.ntmps78
        go_wp2
        go_ret
        exact ⟨rfl, HB.out⟩
      · have i3 : ¬ (256 : Int) ≤ (sn : Int) := by omega
        by_cases h4 : 65536 ≤ gn
        · have i4 : (65536 : Int) ≤ (gn : Int) := by omega
          rw [if_pos (.inr h4)]
          go_enter Tryz.func78, Tryz.ntmps78
          go_wp2
          go_ret
          exact ⟨rfl, HB.out⟩
        · have i4 : ¬ (65536 : Int) ≤ (gn : Int) := by omega
          rw [if_neg (by omega)]
          go_enter Tryz.func78, Tryz.ntmps78
          go_wp2
          go_ret
          exact ⟨rfl, HB.out⟩
set_option maxRecDepth 100000 in
theorem rput_any (p : Nat) (hp : 0 < p) (S Ga E : Option Addr) (sn sc gn gc en ec : Nat) (g : Gat) (w : World) :
    Calls Tryz.prog 79 #[.int .u64 p, .agg #[.slice S sn sc, .slice Ga gn gc, .slice E en ec], .agg #[.int .i64 g.1, .int .i64 g.2.1, .int .i64 g.2.2.1, .int .u64 g.2.2.2]] w (GatePost (putErr p sn gn g) w) := by
  obtain ⟨g1, g2, g3, g4⟩ := g
  have hG : ∀ W, Below w.heap.size w W → Calls Tryz.prog 56 #[.int .u64 p, .int .i64 ((sn : Nat) : Int), .int .i64 ((gn : Nat) : Int), .agg #[.int .i64 g1, .int .i64 g2, .int .i64 g3, .int .u64 g4]] W fun e W' => e = .returned (.int .i64 (gErr p sn gn (g1, g2, g3, g4))) ∧ Below W.heap.size W W' := fun W _ => rgate_any p hp sn gn g1 g2 g3 g4 W
  obtain ⟨k0, k1, _, hb⟩ : ((w.alloc (.cells #[.slice S sn sc, .slice Ga gn gc, .slice E en ec] 36)).alloc (.cells #[.int .i64 g1, .int .i64 g2, .int .i64 g3, .int .u64 g4] 42)).heap[w.heap.size]? = some (.cells #[.slice S sn sc, .slice Ga gn gc, .slice E en ec] 36 (0, 0)) ∧ ((w.alloc (.cells #[.slice S sn sc, .slice Ga gn gc, .slice E en ec] 36)).alloc (.cells #[.int .i64 g1, .int .i64 g2, .int .i64 g3, .int .u64 g4] 42)).heap[w.heap.size + 1]? = some (.cells #[.int .i64 g1, .int .i64 g2, .int .i64 g3, .int .u64 g4] 42 (0, 0)) ∧ True ∧ Below w.heap.size w ((w.alloc (.cells #[.slice S sn sc, .slice Ga gn gc, .slice E en ec] 36)).alloc (.cells #[.int .i64 g1, .int .i64 g2, .int .i64 g3, .int .u64 g4] 42)) := by
    refine ⟨?_, ?_, trivial, ((Below.refl _ _).alloc (Nat.le_refl _) _).alloc (by simp) _⟩
    · rw [Below.heap_alloc _ _ _ (by simp)]; exact heap_alloc_new w _
    · have := heap_alloc_new (w.alloc (.cells #[.slice S sn sc, .slice Ga gn gc, .slice E en ec] 36)) (.cells #[.int .i64 g1, .int .i64 g2, .int .i64 g3, .int .u64 g4] 42); simpa using this
  have HK0 := Lib.hid k0
  have HB0 := Lib.hid hb
  unfold putErr
  generalize gErr p sn gn (g1, g2, g3, g4) = er at *
  obtain ⟨c0, c1, c2, c3⟩ := gbox k1
  obtain ⟨d0, d1, d2, _, _, _⟩ := box_facts k0
  have HG := Lib.hid hG
  clear hG k0 k1 hb
  by_cases he : er = 0
  · subst he
    rw [if_neg (by simp)]
    by_cases hf : 65536 ≤ gn
    · have i1 : (65536 : Int) ≤ (gn : Int) := by omega
      rw [if_pos hf]
      clear hf
      go_enter Tryz.func79, Tryz.ntmps79
      go_wp2_with (go_at_call 56; refine (HG.out _ HB0.out).mono ?_; rintro e w1 ⟨rfl, hb⟩; obtain ⟨e0, e1, e2, _, _, _⟩ := box_facts ((hb.block _ (Array.getElem?_eq_some_iff.1 HK0.out).1).trans HK0.out); have HB := Lib.hid (HB0.out.trans (hb.mono HB0.out.size)); clear hb)
      go_ret
      exact ⟨rfl, HB.out⟩
    · have i0 : (gn : Int) < 65536 := by omega
      have i1 : decide ((65536 : Int) ≤ (gn : Int)) = false := decide_eq_false (by omega)
      rw [if_neg hf]
      clear hf
      go_enter Tryz.func79, Tryz.ntmps79
      go_wp2_with (go_at_call 56; refine (HG.out _ HB0.out).mono ?_; rintro e w1 ⟨rfl, hb⟩; obtain ⟨e0, e1, e2, _, _, _⟩ := box_facts ((hb.block _ (Array.getElem?_eq_some_iff.1 HK0.out).1).trans HK0.out); have HB := Lib.hid (HB0.out.trans (hb.mono HB0.out.size)); clear hb)
      go_ret
      exact ⟨rfl, HB.out⟩
  · have i1 : (er == 0) = false := by simpa using he
    rw [if_pos he]
    go_enter Tryz.func79, Tryz.ntmps79
    go_wp2_with (go_at_call 56; refine (HG.out _ HB0.out).mono ?_; rintro e w1 ⟨rfl, hb⟩; have HB := Lib.hid (HB0.out.trans (hb.mono HB0.out.size)); clear hb)
    go_ret
    exact ⟨rfl, HB.out⟩
set_option maxRecDepth 100000 in
theorem rtell_any (S Ga E : Option Addr) (sn sc gn gc en ec : Nat) (x : Exi) (h1 : x.tl.length ≤ 9223372036854775807) (h2 : x.gl.length ≤ 9223372036854775807) (w : World) (hA : Reads w x.A (iCells x.tl)) (hB : Reads w x.B (iCells x.gl)) :
    Calls Tryz.prog 80 #[.agg #[.slice S sn sc, .slice Ga gn gc, .slice E en ec], .agg #[.slice x.A x.tl.length x.c, .slice x.B x.gl.length x.d]] w (GatePost (tellErr gn en x) w) := by
  have hG : ∀ W, Below w.heap.size w W → Calls Tryz.prog 57 #[.int .i64 ((gn : Nat) : Int), .agg #[.slice x.A x.tl.length x.c, .slice x.B x.gl.length x.d]] W fun e W' => e = .returned (.int .i64 (xErr gn x)) ∧ Below W.heap.size W W' := fun W hb => rexit_any gn x.tl x.gl x.A x.B x.c x.d h1 h2 W (hA.below hb) (hB.below hb)
  unfold tellErr
  generalize xErr gn x = er at *
  generalize x.tl.length = tn at *
  generalize x.gl.length = rn at *
  obtain ⟨tl, gl, XA, XB, xc, xd⟩ := x
  simp only at *
  clear hA hB h1 h2
  obtain ⟨k0, k1, hb⟩ : ((w.alloc (.cells #[.slice S sn sc, .slice Ga gn gc, .slice E en ec] 36)).alloc (.cells #[.slice XA tn xc, .slice XB rn xd] 44)).heap[w.heap.size]? = some (.cells #[.slice S sn sc, .slice Ga gn gc, .slice E en ec] 36 (0, 0)) ∧ ((w.alloc (.cells #[.slice S sn sc, .slice Ga gn gc, .slice E en ec] 36)).alloc (.cells #[.slice XA tn xc, .slice XB rn xd] 44)).heap[w.heap.size + 1]? = some (.cells #[.slice XA tn xc, .slice XB rn xd] 44 (0, 0)) ∧ Below w.heap.size w ((w.alloc (.cells #[.slice S sn sc, .slice Ga gn gc, .slice E en ec] 36)).alloc (.cells #[.slice XA tn xc, .slice XB rn xd] 44)) := by
    refine ⟨?_, ?_, ((Below.refl _ _).alloc (Nat.le_refl _) _).alloc (by simp) _⟩
    · rw [Below.heap_alloc _ _ _ (by simp)]; exact heap_alloc_new w _
    · have := heap_alloc_new (w.alloc (.cells #[.slice S sn sc, .slice Ga gn gc, .slice E en ec] 36)) (.cells #[.slice XA tn xc, .slice XB rn xd] 44); simpa using this
  have HK0 := Lib.hid k0
  have HB0 := Lib.hid hb
  have c0 : ((w.alloc (.cells #[.slice S sn sc, .slice Ga gn gc, .slice E en ec] 36)).alloc (.cells #[.slice XA tn xc, .slice XB rn xd] 44)).cell? ⟨w.heap.size + 1, 0, none⟩ = some (.slice XA tn xc) := cell_in k1
  have c1 : ((w.alloc (.cells #[.slice S sn sc, .slice Ga gn gc, .slice E en ec] 36)).alloc (.cells #[.slice XA tn xc, .slice XB rn xd] 44)).cell? ⟨w.heap.size + 1, 1, none⟩ = some (.slice XB rn xd) := cell_in k1
  obtain ⟨d0, d1, d2, _, _, _⟩ := box_facts k0
  have HG := Lib.hid hG
  clear hG k0 k1 hb
  by_cases he : er = 0
  · subst he
    rw [if_neg (by simp)]
    by_cases hf : 4096 ≤ en
    · have i1 : (4096 : Int) ≤ (en : Int) := by omega
      rw [if_pos hf]
      clear hf
      go_enter Tryz.func80, Tryz.ntmps80
      go_wp2_with (go_at_call 57; refine (HG.out _ HB0.out).mono ?_; rintro e w1 ⟨rfl, hb⟩; obtain ⟨e0, e1, e2, _, _, _⟩ := box_facts ((hb.block _ (Array.getElem?_eq_some_iff.1 HK0.out).1).trans HK0.out); have HB := Lib.hid (HB0.out.trans (hb.mono HB0.out.size)); clear hb)
      go_ret
      exact ⟨rfl, HB.out⟩
    · have i1 : ¬ (4096 : Int) ≤ (en : Int) := by omega
      rw [if_neg hf]
      clear hf
      go_enter Tryz.func80, Tryz.ntmps80
      go_wp2_with (go_at_call 57; refine (HG.out _ HB0.out).mono ?_; rintro e w1 ⟨rfl, hb⟩; obtain ⟨e0, e1, e2, _, _, _⟩ := box_facts ((hb.block _ (Array.getElem?_eq_some_iff.1 HK0.out).1).trans HK0.out); have HB := Lib.hid (HB0.out.trans (hb.mono HB0.out.size)); clear hb)
      go_ret
      exact ⟨rfl, HB.out⟩
  · have i1 : (er == 0) = false := by simpa using he
    rw [if_pos he]
    go_enter Tryz.func80, Tryz.ntmps80
    go_wp2_with (go_at_call 57; refine (HG.out _ HB0.out).mono ?_; rintro e w1 ⟨rfl, hb⟩; have HB := Lib.hid (HB0.out.trans (hb.mono HB0.out.size)); clear hb)
    go_ret
    exact ⟨rfl, HB.out⟩
end Go.Proofs.YtkcdlbclodjjhaaGreat

/- What words and the board's methods of words answer, by their arguments, with or without room. (Printed by wip/tools/gen_pl.py.) -/
namespace Go.Proofs.YtkcdlbclodjjhaaGreat
open Go.RowKit

def natsOf (l : List Int) : List Nat := l.map Int.toNat
theorem natsOf_len (l : List Int) : (natsOf l).length = l.length := by simp [natsOf]
theorem natsOf_cells {g : Nat} : ∀ {l : List Int}, l.any (outside g) = false → iCells l = nCells (natsOf l) ∧ ∀ x ∈ natsOf l, x < g
  | [], _ => ⟨rfl, by simp [natsOf]⟩
  | a :: r, h => by
    rw [List.any_cons, Bool.or_eq_false_iff] at h
    obtain ⟨h1, h2⟩ := natsOf_cells h.2
    have h3 := h.1
    simp only [outside, Bool.or_eq_false_iff, decide_eq_false_iff_not] at h3
    refine ⟨?_, ?_⟩
    · simp only [iCells, nCells, natsOf, List.map_cons] at h1 ⊢
      rw [h1, Int.toNat_of_nonneg (by omega)]
    · intro x hx
      simp only [natsOf, List.map_cons, List.mem_cons] at hx h2
      rcases hx with rfl | hx
      · omega
      · exact h2 x hx
/-- The board as before; the board with these gates. -/
def Back (B p : Nat) (sl : List Slo) (Gn : List Gat) (xs : List Exi) (v1 v2 v3 : Value) (w W' : World) : Prop := ∃ v, IsB B p sl Gn xs v1 v v3 W' ∧ Fr B v2 v w W'
theorem Back.of_below {B p : Nat} {sl : List Slo} {G : List Gat} {xs : List Exi} {v1 v2 v3 : Value} {w W : World} (h : IsB B p sl G xs v1 v2 v3 w) (hb : Below w.heap.size w W) : Back B p sl G xs v1 v2 v3 w W := ⟨v2, h.below hb, Fr.of_below hb⟩
def AnsI (er : Int) (K : Nat) (Gn : List Gat) (r : Nat) (B p : Nat) (sl : List Slo) (G : List Gat) (xs : List Exi) (v1 v2 v3 : Value) (w : World) (x : Value) (k : Int) (W' : World) : Prop :=
  (er ≠ 0 ∧ x = .int .i64 0 ∧ k = er ∧ Back B p sl G xs v1 v2 v3 w W') ∨ (er = 0 ∧ 65536 < G.length + K ∧ x = .int .i64 0 ∧ k = 3 ∧ Back B p sl G xs v1 v2 v3 w W') ∨ (er = 0 ∧ x = .int .i64 ((r : Nat) : Int) ∧ k = 0 ∧ Back B p sl Gn xs v1 v2 v3 w W')
def AnsW (er : Int) (K : Nat) (Gn : List Gat) (n : Nat) (r : List Nat) (B p : Nat) (sl : List Slo) (G : List Gat) (xs : List Exi) (v1 v2 v3 : Value) (w : World) (x : Value) (k : Int) (W' : World) : Prop :=
  (er ≠ 0 ∧ x = .slice none 0 0 ∧ k = er ∧ Back B p sl G xs v1 v2 v3 w W') ∨ (er = 0 ∧ 65536 < G.length + K ∧ x = .slice none 0 0 ∧ k = 3 ∧ Back B p sl G xs v1 v2 v3 w W') ∨ (er = 0 ∧ k = 0 ∧ Back B p sl Gn xs v1 v2 v3 w W' ∧ W'.ownsRow w.heap.size 3 1 x n (nCells r))
theorem isB_bad {B p : Nat} {sl : List Slo} {xs : List Exi} {v1 v2 v3 : Value} {W : World} (h : IsB B p sl [((0, 0, 0, -1) : Gat)] xs v1 v2 v3 W) : False := by
  have := h.hk _ List.mem_cons_self
  simp at this
theorem wordsI_ans (B p : Nat) (hp : 1 < p) (sl : List Slo) (G : List Gat) (xs : List Exi) (v1 v2 v3 : Value) (vs ws : List Int) (va wa : Option Addr) (vc wc : Nat) (F : FuncId) (caps : Array Value) (K : Nat) (Gn : List Gat) (r : Nat) (w : World) (h : IsB B p sl G xs v1 v2 v3 w) (hV : Reads w va (iCells vs)) (hW : Reads w wa (iCells ws))
    (hrun : ∀ (args : Array Value) (W : World), (callFunc F args).run Tryz.prog W = .ok (.enter F args) W)
    (HF : wordsErr G.length vs ws = 0 → ∀ W, Below w.heap.size w W → Calls Tryz.prog F (#[.iface 126 (.agg #[.pointer (some ⟨B, 0, none⟩)])] ++ caps) W fun e W' => (∃ v, e = .returned (.int .i64 ((r : Nat) : Int)) ∧ IsB B p sl Gn xs v1 v v3 W' ∧ Fr B v2 v W W') ∨ Full K B p sl G xs v1 v2 v3 W e W') :
    Calls Tryz.prog 53 #[.pointer (some ⟨B, 0, none⟩), .slice va vs.length vc, .slice wa ws.length wc, .func (.func F) #[] caps] w fun e W' => ∃ x k, e = .returned (.tuple #[x, .int .i64 k]) ∧ AnsI (wordsErr G.length vs ws) K Gn r B p sl G xs v1 v2 v3 w x k W' := by
  have q0 := (box4 h.hb).1
  by_cases hl : (vs.length < 1 ∨ 16 < vs.length) ∨ (ws.length < 1 ∨ 16 < ws.length)
  · have he : wordsErr G.length vs ws = 3 := by unfold wordsErr; rw [if_pos hl]
    exact (wordsI_len B p hp w q0 va wa vs.length ws.length vc wc hl F caps).mono fun e W' ⟨e1, e2⟩ => ⟨_, 3, e1, .inl ⟨by rw [he]; decide, rfl, he.symm, Back.of_below h e2⟩⟩
  · obtain ⟨av, rfl⟩ : ∃ a, va = some a := by
      rcases hV with h0 | ⟨a, h0, _⟩
      · have : vs = [] := by simpa [iCells] using h0
        subst this; simp at hl
      · exact ⟨a, h0⟩
    obtain ⟨aw, rfl⟩ : ∃ a, wa = some a := by
      rcases hW with h0 | ⟨a, h0, _⟩
      · have : ws = [] := by simpa [iCells] using h0
        subst this; simp at hl
      · exact ⟨a, h0⟩
    refine wordsI_gen B p hp w q0 vs ws vs.length ws.length rfl rfl (by omega) (by omega) (by omega) (by omega) av aw vc wc F caps hV hW _ fun W A c hb hA c0 c1 c2 => ?_
    have hIW := h.below hb
    have hlen : (vs ++ ws).length = vs.length + ws.length := List.length_append
    cases hr : (vs ++ ws).any (outside G.length) with
    | true =>
      have he : wordsErr G.length vs ws = 13 := by unfold wordsErr; rw [if_neg hl, if_pos hr]
      have h0 := doI_range B p hp sl G xs v1 v2 v3 (vs ++ ws) A c hr (by omega) (.func (.func 93) #[] #[.pointer (some ⟨w.heap.size, 0, none⟩), .pointer (some ⟨w.heap.size + 1, 0, none⟩), .pointer (some ⟨w.heap.size + 1 + 1, 0, none⟩)]) W hIW hA
      rw [hlen] at h0
      exact h0.mono fun e W' ⟨e1, e2⟩ => ⟨_, 13, e1, .inl ⟨by rw [he]; decide, rfl, he.symm, Back.of_below h (hb.trans (e2.mono hb.size))⟩⟩
    | false =>
      obtain ⟨n1, n2⟩ := natsOf_cells hr
      rw [n1] at hA
      have hlen2 : (natsOf (vs ++ ws)).length = vs.length + ws.length := by rw [natsOf_len, hlen]
      have hG0 : 0 < G.length := by
        have : 0 < (natsOf (vs ++ ws)).length := by omega
        have := n2 _ (List.getElem_mem this)
        omega
      by_cases heq : vs.length = ws.length
      · have he : wordsErr G.length vs ws = 0 := by unfold wordsErr; rw [if_neg hl, if_neg (by rw [hr]; decide), if_pos heq]
        have h0 := doI_any B p hp sl G xs v1 v2 v3 Gn (natsOf (vs ++ ws)) A c n2 (by omega) (fun q => q = 3 ∧ 65536 < G.length + K) hG0 93 #[.pointer (some ⟨w.heap.size, 0, none⟩), .pointer (some ⟨w.heap.size + 1, 0, none⟩), .pointer (some ⟨w.heap.size + 1 + 1, 0, none⟩)] ((r : Nat) : Int) W hIW hA (fun _ _ => by kernel_rfl) (fun W2 hb2 => innerI_any B p sl G xs v1 v2 v3 Gn vs.length (some av) (some aw) vc wc _ _ _ _ F caps ((r : Nat) : Int) W2 hrun ((hb2.cell (World.block_lt_of_cell? _ _ c0)).trans c0) (by rw [heq]; exact (hb2.cell (World.block_lt_of_cell? _ _ c1)).trans c1) ((hb2.cell (World.block_lt_of_cell? _ _ c2)).trans c2) ((HF he W2 (hb.trans (hb2.mono hb.size))).mono fun e W' hh => hh.imp id fun ⟨f1, f2, f3⟩ => ⟨3, ⟨rfl, f1⟩, f2, f3⟩))
        rw [hlen2] at h0
        refine h0.mono fun e W' hh => ?_
        rcases hh with ⟨v, e1, h3, h4⟩ | ⟨k, ⟨rfl, hk⟩, e1, v, h3, h4⟩
        · exact ⟨_, 0, e1, .inr (.inr ⟨he, rfl, rfl, v, h3, (Fr.of_below hb).trans h4⟩)⟩
        · exact ⟨_, 3, e1, .inr (.inl ⟨he, hk, rfl, rfl, v, h3, (Fr.of_below hb).trans h4⟩)⟩
      · have he : wordsErr G.length vs ws = 2 := by unfold wordsErr; rw [if_neg hl, if_neg (by rw [hr]; decide), if_neg heq]
        have h0 := doI_any B p hp sl G xs v1 v2 v3 [((0, 0, 0, -1) : Gat)] (natsOf (vs ++ ws)) A c n2 (by omega) (fun q => q = 2) hG0 93 #[.pointer (some ⟨w.heap.size, 0, none⟩), .pointer (some ⟨w.heap.size + 1, 0, none⟩), .pointer (some ⟨w.heap.size + 1 + 1, 0, none⟩)] 0 W hIW hA (fun _ _ => by kernel_rfl) (fun W2 hb2 => (innerI_un B p sl G xs v1 v2 v3 vs.length ws.length heq (some av) (some aw) vc wc _ _ (w.heap.size + 1 + 1) W2 (hIW.below hb2) ((hb2.cell (World.block_lt_of_cell? _ _ c0)).trans c0) ((hb2.cell (World.block_lt_of_cell? _ _ c1)).trans c1)).mono fun e W' hh => .inr hh)
        rw [hlen2] at h0
        refine h0.mono fun e W' hh => ?_
        rcases hh with ⟨v, e1, h3, h4⟩ | ⟨k, rfl, e1, v, h3, h4⟩
        · exact (isB_bad h3).elim
        · exact ⟨_, 2, e1, .inl ⟨by rw [he]; decide, rfl, he.symm, v, h3, (Fr.of_below hb).trans h4⟩⟩
theorem wordsW_ans (B p : Nat) (hp : 1 < p) (sl : List Slo) (G : List Gat) (xs : List Exi) (v1 v2 v3 : Value) (vs ws : List Int) (va wa : Option Addr) (vc wc : Nat) (F : FuncId) (caps : Array Value) (K : Nat) (Gn : List Gat) (n0 : Nat) (r : List Nat) (w : World) (h : IsB B p sl G xs v1 v2 v3 w) (hV : Reads w va (iCells vs)) (hW : Reads w wa (iCells ws))
    (hrun : ∀ (args : Array Value) (W : World), (callFunc F args).run Tryz.prog W = .ok (.enter F args) W)
    (HF : wordsErr G.length vs ws = 0 → ∀ W, Below w.heap.size w W → Calls Tryz.prog F (#[.iface 126 (.agg #[.pointer (some ⟨B, 0, none⟩)])] ++ caps) W fun e W' => (∃ vo v, e = .returned vo ∧ IsB B p sl Gn xs v1 v v3 W' ∧ Fr B v2 v W W' ∧ W'.ownsRow W.heap.size 3 1 vo n0 (nCells r)) ∨ Full K B p sl G xs v1 v2 v3 W e W') :
    Calls Tryz.prog 46 #[.pointer (some ⟨B, 0, none⟩), .slice va vs.length vc, .slice wa ws.length wc, .func (.func F) #[] caps] w fun e W' => ∃ x k, e = .returned (.tuple #[x, .int .i64 k]) ∧ AnsW (wordsErr G.length vs ws) K Gn n0 r B p sl G xs v1 v2 v3 w x k W' := by
  have q0 := (box4 h.hb).1
  by_cases hl : (vs.length < 1 ∨ 16 < vs.length) ∨ (ws.length < 1 ∨ 16 < ws.length)
  · have he : wordsErr G.length vs ws = 3 := by unfold wordsErr; rw [if_pos hl]
    exact (wordsW_len B p hp w q0 va wa vs.length ws.length vc wc hl F caps).mono fun e W' ⟨e1, e2⟩ => ⟨_, 3, e1, .inl ⟨by rw [he]; decide, rfl, he.symm, Back.of_below h e2⟩⟩
  · obtain ⟨av, rfl⟩ : ∃ a, va = some a := by
      rcases hV with h0 | ⟨a, h0, _⟩
      · have : vs = [] := by simpa [iCells] using h0
        subst this; simp at hl
      · exact ⟨a, h0⟩
    obtain ⟨aw, rfl⟩ : ∃ a, wa = some a := by
      rcases hW with h0 | ⟨a, h0, _⟩
      · have : ws = [] := by simpa [iCells] using h0
        subst this; simp at hl
      · exact ⟨a, h0⟩
    refine wordsW_gen B p hp w q0 vs ws vs.length ws.length rfl rfl (by omega) (by omega) (by omega) (by omega) av aw vc wc F caps hV hW _ fun W A c hb hA c0 c1 c2 => ?_
    have hIW := h.below hb
    have hlen : (vs ++ ws).length = vs.length + ws.length := List.length_append
    cases hr : (vs ++ ws).any (outside G.length) with
    | true =>
      have he : wordsErr G.length vs ws = 13 := by unfold wordsErr; rw [if_neg hl, if_pos hr]
      have h0 := doW_range B p hp sl G xs v1 v2 v3 (vs ++ ws) A c hr (by omega) (.func (.func 89) #[] #[.pointer (some ⟨w.heap.size, 0, none⟩), .pointer (some ⟨w.heap.size + 1, 0, none⟩), .pointer (some ⟨w.heap.size + 1 + 1, 0, none⟩)]) W hIW hA
      rw [hlen] at h0
      exact h0.mono fun e W' ⟨e1, e2⟩ => ⟨_, 13, e1, .inl ⟨by rw [he]; decide, rfl, he.symm, Back.of_below h (hb.trans (e2.mono hb.size))⟩⟩
    | false =>
      obtain ⟨n1, n2⟩ := natsOf_cells hr
      rw [n1] at hA
      have hlen2 : (natsOf (vs ++ ws)).length = vs.length + ws.length := by rw [natsOf_len, hlen]
      have hG0 : 0 < G.length := by
        have : 0 < (natsOf (vs ++ ws)).length := by omega
        have := n2 _ (List.getElem_mem this)
        omega
      by_cases heq : vs.length = ws.length
      · have he : wordsErr G.length vs ws = 0 := by unfold wordsErr; rw [if_neg hl, if_neg (by rw [hr]; decide), if_pos heq]
        have h0 := doW_any B p hp sl G xs v1 v2 v3 Gn (natsOf (vs ++ ws)) A c n2 (by omega) (fun q => q = 3 ∧ 65536 < G.length + K) hG0 89 #[.pointer (some ⟨w.heap.size, 0, none⟩), .pointer (some ⟨w.heap.size + 1, 0, none⟩), .pointer (some ⟨w.heap.size + 1 + 1, 0, none⟩)] n0 (nCells r) W hIW hA (fun _ _ => by kernel_rfl) (fun W2 hb2 => innerW_any B p sl G xs v1 v2 v3 Gn vs.length (some av) (some aw) vc wc _ _ _ _ F caps n0 (nCells r) W2 hrun ((hb2.cell (World.block_lt_of_cell? _ _ c0)).trans c0) (by rw [heq]; exact (hb2.cell (World.block_lt_of_cell? _ _ c1)).trans c1) ((hb2.cell (World.block_lt_of_cell? _ _ c2)).trans c2) ((HF he W2 (hb.trans (hb2.mono hb.size))).mono fun e W' hh => hh.imp id fun ⟨f1, f2, f3⟩ => ⟨3, ⟨rfl, f1⟩, f2, f3⟩))
        rw [hlen2] at h0
        refine h0.mono fun e W' hh => ?_
        rcases hh with ⟨vo, v, e1, h3, h4, h5⟩ | ⟨k, ⟨rfl, hk⟩, e1, v, h3, h4⟩
        · exact ⟨_, 0, e1, .inr (.inr ⟨he, rfl, ⟨v, h3, (Fr.of_below hb).trans h4⟩, own_lower h5 hb.size⟩)⟩
        · exact ⟨_, 3, e1, .inr (.inl ⟨he, hk, rfl, rfl, v, h3, (Fr.of_below hb).trans h4⟩)⟩
      · have he : wordsErr G.length vs ws = 2 := by unfold wordsErr; rw [if_neg hl, if_neg (by rw [hr]; decide), if_neg heq]
        have h0 := doW_any B p hp sl G xs v1 v2 v3 [((0, 0, 0, -1) : Gat)] (natsOf (vs ++ ws)) A c n2 (by omega) (fun q => q = 2) hG0 89 #[.pointer (some ⟨w.heap.size, 0, none⟩), .pointer (some ⟨w.heap.size + 1, 0, none⟩), .pointer (some ⟨w.heap.size + 1 + 1, 0, none⟩)] 0 [] W hIW hA (fun _ _ => by kernel_rfl) (fun W2 hb2 => (innerW_un B p sl G xs v1 v2 v3 vs.length ws.length heq (some av) (some aw) vc wc _ _ (w.heap.size + 1 + 1) W2 (hIW.below hb2) ((hb2.cell (World.block_lt_of_cell? _ _ c0)).trans c0) ((hb2.cell (World.block_lt_of_cell? _ _ c1)).trans c1)).mono fun e W' hh => .inr hh)
        rw [hlen2] at h0
        refine h0.mono fun e W' hh => ?_
        rcases hh with ⟨vo, v, e1, h3, h4, h5⟩ | ⟨k, rfl, e1, v, h3, h4⟩
        · exact (isB_bad h3).elim
        · exact ⟨_, 2, e1, .inl ⟨by rw [he]; decide, rfl, he.symm, v, h3, (Fr.of_below hb).trans h4⟩⟩
end Go.Proofs.YtkcdlbclodjjhaaGreat
