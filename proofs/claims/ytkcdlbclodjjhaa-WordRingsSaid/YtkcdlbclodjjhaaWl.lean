/- Contract of the ring's Times over a board, where there is room. (Printed by wip/tools/gen_times.py.) -/
import Derived.Test.YtkcdlbclodjjhaaWk
namespace Go.Proofs.Ytkcdlbclodjjhaa
open Go.RowKit

/-- What Times lays: a part, a round, all. -/
def partStep (b : Nat) (s : List Gat × List Nat) (a : Nat) : List Gat × List Nat := (s.1 ++ [((5, ((a : Nat) : Int), ((b : Nat) : Int), 0) : Gat)], s.2 ++ [s.1.length])
def partSt (G : List Gat) (b : Nat) (ns : List Nat) : List Gat × List Nat := ns.foldl (partStep b) (G, [])
theorem partSt_succ (G : List Gat) (b : Nat) (ns : List Nat) (k : Nat) (h : k < ns.length) : partSt G b (ns.take (k + 1)) = partStep b (partSt G b (ns.take k)) ns[k] := by
  unfold partSt
  rw [List.take_succ_eq_append_getElem h, List.foldl_append]
  rfl
theorem partSt_len (G : List Gat) (b : Nat) (ns : List Nat) : ∀ k, k ≤ ns.length → (partSt G b (ns.take k)).1.length = G.length + k ∧ (partSt G b (ns.take k)).2.length = k ∧ ∀ x ∈ (partSt G b (ns.take k)).2, x < (partSt G b (ns.take k)).1.length := by
  intro k
  induction k with
  | zero => intro _; exact ⟨rfl, rfl, by intro x hx; simp [partSt] at hx⟩
  | succ k ih =>
    intro h
    obtain ⟨h1, h2, h3⟩ := ih (by omega)
    rw [partSt_succ G b ns k (by omega)]
    refine ⟨?_, ?_, ?_⟩
    · simp only [partStep, List.length_append, h1, List.length_cons, List.length_nil]; omega
    · simp only [partStep, List.length_append, h2, List.length_cons, List.length_nil]
    · intro x hx
      simp only [partStep, List.length_append, List.length_cons, List.length_nil]
      rcases List.mem_append.1 hx with e | e
      · have := h3 x e; omega
      · have := List.mem_singleton.1 e; omega
def timesStep (vs : List Nat) (s : List Gat × List Nat) (k b : Nat) : List Gat × List Nat :=
  let pt := partSt s.1 b (vs.take (vs.length - k))
  if k = 0 then pt else
    let ad := addSt (pt.1 ++ conL 0) pt.1.length ((s.2.drop k).zip pt.2)
    (ad.1, s.2.take k ++ ad.2.1)
def timesSt (G : List Gat) (vs ws : List Nat) : Nat → List Gat × List Nat
  | 0 => (G, [])
  | k + 1 => timesStep vs (timesSt G vs ws k) k (ws.getD k 0)
theorem addSt_outs (G : List Gat) (c : Nat) (ps : List (Nat × Nat)) (_hc : c < G.length) : ∀ k, k ≤ ps.length → ∀ x ∈ (addSt G c (ps.take k)).2.1, x < (addSt G c (ps.take k)).1.length := by
  intro k
  induction k with
  | zero => intro _ x hx; simp [addSt] at hx
  | succ k ih =>
    intro h x hx
    have h3 := ih (by omega)
    rw [addSt_succ G c ps k (by omega)] at hx ⊢
    simp only [addStep, List.length_append] at hx ⊢
    simp only [addL, List.length_cons, List.length_nil]
    rcases List.mem_append.1 hx with e | e
    · have := h3 x e; omega
    · have := List.mem_singleton.1 e; omega
theorem addSt_all (G : List Gat) (c : Nat) (ps : List (Nat × Nat)) (hc : c < G.length) : (addSt G c ps).1.length = G.length + 9 * ps.length ∧ (addSt G c ps).2.1.length = ps.length ∧ (addSt G c ps).2.2 < (addSt G c ps).1.length ∧ ∀ x ∈ (addSt G c ps).2.1, x < (addSt G c ps).1.length := by
  have h1 := addSt_len G c ps hc ps.length (Nat.le_refl _)
  have h2 := addSt_outs G c ps hc ps.length (Nat.le_refl _)
  rw [List.take_length] at h1 h2
  exact ⟨h1.1, h1.2.1, h1.2.2, h2⟩
theorem partSt_all (G : List Gat) (b : Nat) (ns : List Nat) : (partSt G b ns).1.length = G.length + ns.length ∧ (partSt G b ns).2.length = ns.length ∧ ∀ x ∈ (partSt G b ns).2, x < (partSt G b ns).1.length := by
  have := partSt_len G b ns ns.length (Nat.le_refl _)
  rwa [List.take_length] at this
theorem timesSt_len (G : List Gat) (vs ws : List Nat) : ∀ k, k ≤ vs.length → (timesSt G vs ws k).1.length ≤ G.length + k * (10 * vs.length + 1) ∧ G.length ≤ (timesSt G vs ws k).1.length ∧ (timesSt G vs ws k).2.length = (if k = 0 then 0 else vs.length) ∧ ∀ x ∈ (timesSt G vs ws k).2, x < (timesSt G vs ws k).1.length := by
  intro k
  induction k with
  | zero => intro _; exact ⟨by simp [timesSt], by simp [timesSt], rfl, by intro x hx; simp [timesSt] at hx⟩
  | succ k ih =>
    intro h
    obtain ⟨h1, h0, h2, h3⟩ := ih (by omega)
    obtain ⟨p1, p2, p3⟩ := partSt_all (timesSt G vs ws k).1 (ws.getD k 0) (vs.take (vs.length - k))
    have hm : (vs.take (vs.length - k)).length = vs.length - k := by rw [List.length_take]; omega
    rw [hm] at p1 p2
    have hmul : (k + 1) * (10 * vs.length + 1) = k * (10 * vs.length + 1) + (10 * vs.length + 1) := Nat.succ_mul _ _
    simp only [timesSt, timesStep]
    by_cases hk : k = 0
    · subst hk
      simp only [if_true]
      refine ⟨by omega, by omega, by simp only [Nat.zero_add, Nat.one_ne_zero, if_false]; omega, p3⟩
    · rw [if_neg hk, if_neg (by omega)]
      rw [if_neg hk] at h2
      obtain ⟨a1, a2, a3, a4⟩ := addSt_all ((partSt (timesSt G vs ws k).1 (ws.getD k 0) (vs.take (vs.length - k))).1 ++ conL 0) (partSt (timesSt G vs ws k).1 (ws.getD k 0) (vs.take (vs.length - k))).1.length (((timesSt G vs ws k).2.drop k).zip (partSt (timesSt G vs ws k).1 (ws.getD k 0) (vs.take (vs.length - k))).2) (by simp [conL])
      have hz : (((timesSt G vs ws k).2.drop k).zip (partSt (timesSt G vs ws k).1 (ws.getD k 0) (vs.take (vs.length - k))).2).length = vs.length - k := by rw [List.length_zip, List.length_drop]; omega
      rw [hz, List.length_append] at a1
      rw [hz] at a2
      simp only [conL, List.length_cons, List.length_nil] at a1
      refine ⟨by simp only [conL]; omega, by simp only [conL]; omega, ?_, ?_⟩
      · rw [List.length_append, List.length_take]; simp only [conL] at a2 ⊢; omega
      · intro x hx
        rcases List.mem_append.1 hx with e | e
        · have := h3 x (List.mem_of_mem_take e); simp only [conL]; omega
        · exact a4 x e
theorem getD_at {l : List Nat} {k : Nat} (h : k < l.length) : l.getD k 0 = l[k] := by
  rw [List.getD_eq_getElem?_getD, List.getElem?_eq_getElem h]; rfl
theorem own_form {w : World} {base : Nat} {e : TypeId} {size n : Nat} {v : Value} {xs : List Value} (h : w.ownsRow base e size v n xs) (hn : 0 < n) : ∃ g cap, v = .slice (some ⟨g, 0, none⟩) n cap ∧ base ≤ g ∧ n ≤ cap := by
  rcases h.2 with ⟨_, h0⟩ | ⟨g, cap, cur, rfl, hb, _, hc, _⟩
  · omega
  · exact ⟨g, cap, rfl, hb, hc⟩
theorem own_empty (w : World) (e : TypeId) : (w.alloc (.cells #[] e)).ownsRow w.heap.size e 1 (.slice (some ⟨w.heap.size, 0, none⟩) 0 0) 0 [] :=
  ⟨rfl, .inr ⟨w.heap.size, 0, #[], rfl, Nat.le_refl _, heap_alloc_new w _, Nat.le_refl _, Nat.zero_le _, rfl, rfl⟩⟩
theorem reads_get {w W : World} {ad : Addr} {l : List Nat} (h : Reads w (some ad) (nCells l)) (hb : Below w.heap.size w W) : ∀ (j : Nat) (u : Value), (nCells l)[j]? = some u → W.cell? (ad.add j) = some u := fun j u hj => by
  rcases h.below hb with h | ⟨ad', h1, h2⟩
  · rw [h] at hj; simp at hj
  · injection h1 with h1; subst h1; exact h2 j u hj
theorem one_nat (l : List Nat) : ∀ u ∈ nCells l, u.oneCell' = true := by intro u hu; simp [nCells] at hu; obtain ⟨y, _, rfl⟩ := hu; rfl
theorem reads_drop {w : World} {g k : Nat} {l : List Nat} (h : Reads w (some ⟨g, 0, none⟩) (nCells l)) : Reads w (some ⟨g, k, none⟩) (nCells (l.drop k)) := by
  refine .inr ⟨_, rfl, fun j u hj => ?_⟩
  rcases h with h | ⟨ad, h1, h2⟩
  · have : l = [] := by simpa [nCells] using h
    subst this; simp [nCells] at hj
  · injection h1 with h1
    subst h1
    have hj2 : (nCells l)[k + j]? = some u := by rw [← hj]; simp [nCells, List.getElem?_drop]
    have := h2 (k + j) u hj2
    have e : ((⟨g, 0, none⟩ : Addr).add (k + j)) = (⟨g, k, none⟩ : Addr).add j := by unfold Addr.add; split <;> split <;> simp_all <;> omega
    rw [← e]; exact this
theorem reads_take {w : World} {A : Option Addr} {k : Nat} {l : List Nat} (h : Reads w A (nCells l)) : Reads w A (nCells (l.take k)) := by
  rcases h with h | ⟨ad, h1, h2⟩
  · have : l = [] := by simpa [nCells] using h
    subst this; exact .inl (by simp [nCells])
  · refine .inr ⟨ad, h1, fun j u hj => h2 j u ?_⟩
    have hj' : ((nCells l).take k)[j]? = some u := by rw [← hj]; simp [nCells, List.map_take]
    rw [List.getElem?_take] at hj'
    split at hj'
    · exact hj'
    · cases hj'
theorem own_apart {w W : World} {base base' : Nat} {e e' : TypeId} {size size' n n' : Nat} {v v' : Value} {xs xs' : List Value} (h : w.ownsRow base e size v n xs) (h' : W.ownsRow base' e' size' v' n' xs') (hb : w.heap.size ≤ base') : v.ownBlock = none ∨ v.ownBlock ≠ v'.ownBlock := by
  cases e1 : v.ownBlock with
  | none => exact .inl rfl
  | some q =>
    refine .inr fun e2 => ?_
    have h1 := (h.lt q e1).2
    have h2 := (h'.lt q e2.symm).1
    omega
set_option maxHeartbeats 8000000 in
set_option maxRecDepth 100000 in
theorem times_ok (B p : Nat) (hp : 1 < p) (sl : List Slo) (G : List Gat) (xs : List Exi) (v1 v2 v3 : Value) (vs ws : List Nat) (VA WA : Option Addr) (vc wc : Nat) (hlen : ws.length = vs.length) (hl : vs.length ≤ 65536) (hvs : ∀ x ∈ vs, x < G.length) (hws : ∀ x ∈ ws, x < G.length) (hcap : vs.length ≤ vc) (hf : G.length + vs.length * (10 * vs.length + 1) ≤ 65536) (w : World) (h : IsB B p sl G xs v1 v2 v3 w) (hV : ∀ W v, Fr B v2 v w W → Reads W VA (nCells vs)) (hW : ∀ W v, Fr B v2 v w W → Reads W WA (nCells ws)) :
    Calls Try.prog 60 #[.iface 115 (.agg #[.pointer (some ⟨B, 0, none⟩)]), .slice VA vs.length vc, .slice WA vs.length wc] w fun e W' => ∃ v vo, e = .returned vo ∧ IsB B p sl (timesSt G vs ws vs.length).1 xs v1 v v3 W' ∧ Fr B v2 v w W' ∧ W'.ownsRow w.heap.size 3 1 vo vs.length (nCells (timesSt G vs ws vs.length).2) := by
  have mFixed := fun W => mFixed B W
  have mProduct := fun W => mProduct B W
  have nProduct := fun W => nProduct B W
  simp only [Nat.reduceAdd] at mFixed mProduct nProduct
  have HL := Lib.hid (timesSt_len G vs ws)
  have HVS := Lib.hid hvs; have HWS := Lib.hid hws; have HV := Lib.hid hV; have HW := Lib.hid hW; have HB := Lib.hid h; have HF := Lib.hid hf; have HLT := Lib.hid h.lt; have HP := Lib.hid hp
  have HE := Lib.hid hlen
  have HH : Hid (timesSt G vs ws 0 = (G, [])) := Lib.hid rfl
  clear hvs hws hV hW h hf hp hlen
  go_enter Try.func60, Try.ntmps60
  go_wp2
  go_loopg [7, 17] vs.length (fun g o' i' wr => ∃ (k : Nat) (Gk : List Gat) (ok : List Nat) (vo vk : Value), k ≤ vs.length ∧ g = vs.length - k ∧ o' = vo ∧ i' = .int .i64 k ∧ Hid (timesSt G vs ws k = (Gk, ok)) ∧ wr.ownsRow w.heap.size 3 1 vo ok.length (nCells ok) ∧ IsB B p sl Gk xs v1 vk v3 wr ∧ Fr B v2 vk w wr)
  case atStart => exact ⟨0, G, [], .slice none 0 0, v2, Nat.zero_le _, rfl, rfl, rfl, HH, World.ownsRow_nil _ _ _ _, HB.out, Fr.refl _ _ _⟩
  case round =>
    rename World => wo
    obtain ⟨k, Gk, ok, vo, vk, hk, rfl, rfl, rfl, hst, hown, hIk, hFk⟩ := hrel
    have HOO := Lib.hid hown; have HIO := Lib.hid hIk; have HFO := Lib.hid hFk
    clear hown hIk hFk
    by_cases hlt : k < vs.length
    · have hlw : k < ws.length := by have := HE.out; omega
      obtain ⟨wad, hwa, q1⟩ := (HW.out _ _ HFO.out).nat k hlw
      obtain ⟨vad, hva, _⟩ := (HV.out _ _ HFO.out).nat k hlt
      have hL := HL.out k (by omega)
      rw [hst.out] at hL
      simp only at hL
      have hb := HWS.out _ (List.getElem_mem hlw)
      have hgd : ws.getD k 0 = ws[k] := getD_at hlw
      obtain ⟨m, hm⟩ : ∃ m, vs.length = m + k := ⟨vs.length - k, by omega⟩
      have hm0 : 0 < m := by omega
      have hsub : (vs.length : Int) - (k : Int) = (m : Int) := by omega
      have HK1 : Hid (timesSt G vs ws (k + 1) = timesStep vs (Gk, ok) k ws[k]) := Lib.hid (by show timesStep vs (timesSt G vs ws k) k (ws.getD k 0) = _; rw [hst.out, hgd])
      clear hgd
      generalize ws[k] = b at *
      have hLm : (vs.take m).length = m := by rw [List.length_take]; omega
      have hpl : vs.take (vs.length - k) = vs.take m := by rw [hm, Nat.add_sub_cancel]
      have hmul : (k + 1) * (10 * vs.length + 1) ≤ vs.length * (10 * vs.length + 1) := Nat.mul_le_mul_right _ (by omega)
      have hmul2 : (k + 1) * (10 * vs.length + 1) = k * (10 * vs.length + 1) + (10 * vs.length + 1) := Nat.succ_mul _ _
      have HG : Hid (Gk.length + 10 * m + 1 ≤ 65536 ∧ G.length ≤ Gk.length ∧ ok.length = (if k = 0 then 0 else vs.length) ∧ (∀ x ∈ ok, x < Gk.length) ∧ b < G.length) := Lib.hid ⟨by have := HF.out; omega, hL.2.1, hL.2.2.1, hL.2.2.2, hb⟩
      have HMK := Lib.hid hm
      have i3 : ¬ (vc : Int) < (m : Int) := by omega
      have HPL := Lib.hid hpl
      have HLM := Lib.hid hLm
      have HPS := Lib.hid (partSt_succ Gk b (vs.take m))
      have HPN := Lib.hid (partSt_len Gk b (vs.take m))
      have HWR : Hid (w.heap.size ≤ wo.heap.size) := Lib.hid HFO.out.size
      clear hL hb hpl hLm hmul hmul2 hst hm
      have HVA := Lib.hid hva
      subst hva
      subst hwa
      have i1 : (0 : Int) ≤ (k : Int) := by omega
      have i2 : (k : Int) < (vs.length : Int) := by omega
      have i4 : ¬ (m : Int) < 0 := by omega
      go_wp2
      go_loopg [10, 29] m (fun g p' j' wr => ∃ (j : Nat) (Gj : List Gat) (pj : List Nat) (vp vj : Value), j ≤ m ∧ g = m - j ∧ p' = vp ∧ j' = .int .i64 j ∧ Hid (partSt Gk b ((vs.take m).take j) = (Gj, pj)) ∧ wr.ownsRow wo.heap.size 3 1 vp j (nCells pj) ∧ IsB B p sl Gj xs v1 vj v3 wr ∧ Fr B v2 vj w wr ∧ wr.ownsRow w.heap.size 3 1 u7 ok.length (nCells ok) ∧ wo.heap.size ≤ wr.heap.size)
      case atStart => exact ⟨0, Gk, [], .slice none 0 0, vk, Nat.zero_le _, rfl, rfl, rfl, Lib.hid rfl, World.ownsRow_nil _ _ _ _, HIO.out, HFO.out, HOO.out, Nat.le_refl _⟩
      case round =>
        obtain ⟨j, Gj, pj, vp, vj, hj, rfl, rfl, rfl, hpt, hown, hIj, hFj, hOj, hzj⟩ := hrel
        have HO0 := Lib.hid hown; have HI0 := Lib.hid hIj; have HF0 := Lib.hid hFj; have HV0 := Lib.hid hOj
        clear hown hIj hFj hOj
        by_cases hltj : j < m
        · have hjv : j < vs.length := by have := HMK.out; omega
          obtain ⟨vad', e1, q2⟩ := (HV.out _ _ HF0.out).nat j hjv
          injection e1 with e1
          subst e1
          have hpn := HPN.out j (by have := HLM.out; omega)
          have hps := HPS.out j (by have := HLM.out; omega)
          rw [hpt.out] at hpn hps
          simp only at hpn
          have hav := HVS.out _ (List.getElem_mem hjv)
          have hge : (vs.take m)[j]'(by have := HLM.out; omega) = vs[j] := by rw [List.getElem_take]
          rw [hge] at hps
          clear hge
          have hg := HG.out
          have hm9 := HMK.out
          generalize vs[j] = a at *
          have hpr : Hid (Calls Try.prog 109 #[.agg #[.pointer (some ⟨B, 0, none⟩)], .int .i64 ((a : Nat) : Int), .int .i64 ((b : Nat) : Int)] wr fun e W' => e = .returned (.int .i64 ((Gj.length : Nat) : Int)) ∧ ∃ v', IsB B p sl (Gj ++ [((5, ((a : Nat) : Int), ((b : Nat) : Int), 0) : Gat)]) xs v1 v' v3 W' ∧ Fr B v2 v' w W' ∧ W'.ownsRow wo.heap.size 3 1 u10 j (nCells pj) ∧ W'.ownsRow w.heap.size 3 1 u7 ok.length (nCells ok) ∧ wo.heap.size ≤ W'.heap.size) :=
            Lib.hid ((product_ok B p (by have := HP.out; omega) sl Gj xs v1 vj v3 a b (by omega) (by omega) (by omega) wr HI0.out).mono fun _ _ he => by
              obtain ⟨e1, v', h1, h2⟩ := he
              exact ⟨e1, v', h1, HF0.out.trans h2, h2.own_int HI0.out.h2 HO0.out (Nat.lt_of_lt_of_le HLT.out HWR.out), h2.own_int HI0.out.h2 HV0.out HLT.out, Nat.le_trans hzj h2.size⟩)
          have HPT : Hid (partSt Gk b ((vs.take m).take (j + 1)) = (Gj ++ [((5, ((a : Nat) : Int), ((b : Nat) : Int), 0) : Gat)], pj ++ [Gj.length])) := Lib.hid hps
          clear hps hpn hav hg hm9
          have j1 : (0 : Int) ≤ (j : Int) := by omega
          have j2 : (j : Int) < (m : Int) := by omega
          go_wp2_with (first | (go_at_call 109; refine hpr.out.mono ?_; rintro e w1 ⟨rfl, x1, hI, hF, hO, hV1, hz1⟩; have HI1 := Lib.hid hI; have HF1 := Lib.hid hF; have HO1 := Lib.hid hO; have HV1 := Lib.hid hV1; have HZ1 := Lib.hid hz1; clear hI hF hO hV1 hz1) | (at_builtin; refine list_append_own (W0 := w1) (below_snoc (Below.refl _ _) _) wo.heap.size rfl _ _ 44 3 _ 8 rfl Try.underlying44 infoInt rfl (by decide) u10 j _ (.int .i64 ((Gj.length : Nat) : Int)) rfl _ rfl (by simp) rfl HO1.out (by have h5 := HZ1.out; omega) (by omega) ?_; intro v9 w9 hown9 hg9; have HO9 := Lib.hid hown9; have HI9 := Lib.hid (HI1.out.grown HB.out HO1.out HWR.out hg9); have HF9 := Lib.hid (HF1.out.grown HO1.out HWR.out hg9); have HZ9 := Lib.hid (Nat.le_trans HZ1.out hg9.size); have HV9 := Lib.hid (HV1.out.kept hg9 (own_apart HOO.out HO1.out (Nat.le_refl _))); clear hown9 hg9))
          go_roundg (m - (j + 1))
          case measure => omega
          case rel => exact ⟨j + 1, _, pj ++ [Gj.length], _, _, by omega, rfl, rfl, by go_num, HPT, by rw [nCells_snoc]; exact HO9.out, HI9.out, HF9.out, HV9.out, by have h5 := HZ9.out; omega⟩
        · obtain rfl : j = m := by omega
          have hpt' := hpt.out
          rw [List.take_of_length_le (by rw [HLM.out]; exact Nat.le_refl _)] at hpt'
          have hpa := partSt_all Gk b (vs.take j)
          rw [hpt', HLM.out] at hpa
          simp only at hpa
          have HPA := Lib.hid hpa
          have HPT := Lib.hid hpt'
          clear hpa hpt'
          by_cases hk0 : k = 0
          · have c1 : ((k : Int) == 0) = true := by simp [hk0]
            have HSU : Hid (timesSt G vs ws (k + 1) = (Gj, pj)) := Lib.hid (by rw [HK1.out]; unfold timesStep; rw [HPL.out]; simp only [HPT.out]; rw [if_pos hk0])
            clear i1
            go_wp2
            go_roundg (vs.length - (k + 1))
            case measure => omega
            case rel => exact ⟨k + 1, Gj, pj, _, _, by omega, rfl, rfl, by go_num, HSU, by rw [HPA.out.2.1]; exact own_lower HO0.out HWR.out, HI0.out, HF0.out⟩
          · have c1 : ((k : Int) == 0) = false := by simp; omega
            have hok := HG.out.2.2.1
            rw [if_neg hk0] at hok
            obtain ⟨g, cap, rfl, hgb, hcp⟩ := own_form HV0.out (by have := HMK.out; omega)
            obtain ⟨g2, cap2, rfl, hgb2, hcp2⟩ := own_form HO0.out hm0
            have i5 : (k : Int) ≤ (vs.length : Int) := by omega
            have i6 : ¬ (vs.length : Int) < (k : Int) := by omega
            have hdl : (ok.drop k).length = j := by rw [List.length_drop, hok]; have := HMK.out; omega
            have hpj := HPA.out.2.1
            have hGj := HPA.out.1
            have hgg := HG.out
            have HX : Hid (∀ W, Below wr.heap.size wr W → Calls Try.prog 107 #[.agg #[.pointer (some ⟨B, 0, none⟩)], .int .u64 0] W fun e W' => e = .returned (.int .i64 ((Gj.length : Nat) : Int)) ∧ ∃ v', IsB B p sl (Gj ++ conL 0) xs v1 v' v3 W' ∧ Fr B v2 v' w W' ∧ W'.ownsRow w.heap.size 3 1 (.slice (some ⟨g, 0, none⟩) ok.length cap) ok.length (nCells ok) ∧ W'.ownsRow wo.heap.size 3 1 (.slice (some ⟨g2, 0, none⟩) j cap2) j (nCells pj)) :=
              Lib.hid fun W hb => (fixed_row B p HP.out sl Gj xs v1 v2 v3 0 (by omega) (by omega) w W vj (HF0.out.below hb) (HI0.out.below hb)).mono fun _ _ he => ⟨he.1, by
                obtain ⟨_, v', h1, h2, h3⟩ := he
                exact ⟨v', h1, h2, h3 _ _ _ _ HLT.out (own_below HV0.out hb), h3 _ _ _ _ (Nat.lt_of_lt_of_le HLT.out HWR.out) (own_below HO0.out hb)⟩⟩
            have HAD : ∃ s, s = addSt (Gj ++ conL 0) Gj.length ((ok.drop k).zip pj) := ⟨_, rfl⟩
            obtain ⟨⟨Ga, oa, ca⟩, had⟩ := HAD
            have hal := addSt_all (Gj ++ conL 0) Gj.length ((ok.drop k).zip pj) (by simp [conL])
            rw [← had, List.length_zip, hdl, hpj, Nat.min_self] at hal
            simp only at hal
            have HA : Hid (∀ W v, IsB B p sl (Gj ++ conL 0) xs v1 v v3 W → Fr B v2 v w W → W.ownsRow w.heap.size 3 1 (.slice (some ⟨g, 0, none⟩) ok.length cap) ok.length (nCells ok) → W.ownsRow wo.heap.size 3 1 (.slice (some ⟨g2, 0, none⟩) j cap2) j (nCells pj) →
                Calls Try.prog 67 #[.iface 115 (.agg #[.pointer (some ⟨B, 0, none⟩)]), .slice (some ⟨g, k, none⟩) j (cap - k), .slice (some ⟨g2, 0, none⟩) j cap2, .int .i64 ((Gj.length : Nat) : Int)] W fun e W' => ∃ v' g3 c3, e = .returned (.tuple #[.slice (some ⟨g3, 0, none⟩) j c3, .int .i64 ((ca : Nat) : Int)]) ∧ IsB B p sl Ga xs v1 v' v3 W' ∧ Fr B v2 v' w W' ∧ W'.ownsRow w.heap.size 3 1 (.slice (some ⟨g, 0, none⟩) ok.length cap) ok.length (nCells ok) ∧ W'.ownsRow w.heap.size 3 1 (.slice (some ⟨g3, 0, none⟩) j c3) j (nCells oa)) :=
              Lib.hid fun W v hI hF hO hP => by
                have hk1 : ∀ W' v', Fr B v v' W W' → Reads W' (some ⟨g, k, none⟩) (nCells (ok.drop k)) := fun W' v' hf => reads_drop (own_keep hI HLT.out hO W' v' hf)
                have h0 := add_ok B p HP.out sl (Gj ++ conL 0) xs v1 v v3 (ok.drop k) pj (some ⟨g, k, none⟩) (some ⟨g2, 0, none⟩) (cap - k) cap2 Gj.length (by rw [hdl, hpj]) (by omega) (by simp [conL]) (fun x hx => by have := hgg.2.2.2.1 x (List.mem_of_mem_drop hx); simp [conL]; omega) (fun x hx => by have := HPA.out.2.2 x hx; simp [conL]; omega) (by simp [conL]; omega) W hI hk1 (own_keep hI (Nat.lt_of_lt_of_le HLT.out HWR.out) hP)
                rw [← had, hdl] at h0
                refine h0.mono fun _ _ he => ?_
                obtain ⟨v', vo, e1, h1, h2, h3⟩ := he
                obtain ⟨g3, c3, rfl, hg3, hc3⟩ := own_form h3 hm0
                exact ⟨v', g3, c3, e1, h1, hF.trans h2, h2.own_int hI.h2 hO HLT.out, own_lower h3 hF.size⟩
            have HSU : Hid (timesSt G vs ws (k + 1) = (Ga, ok.take k ++ oa)) := Lib.hid (by rw [HK1.out]; unfold timesStep; rw [HPL.out]; simp only [HPT.out]; rw [if_neg hk0, ← had])
            have HOA : Hid (oa.length = j) := Lib.hid hal.2.1
            have HTK : Hid ((ok.take k).length = k) := Lib.hid (by rw [List.length_take, hok]; omega)
            have HKV : Hid (k + j = vs.length) := Lib.hid (by have := HMK.out; omega)
            have hcpk : ¬ (cap : Int) < (k : Int) := by omega
            have hjk : vs.length - k = j := by have := HMK.out; omega
            have i7 : ¬ (cap : Int) < (vs.length : Int) := by omega
            have i8 : ¬ cap = k := by omega
            have HK0 : Hid (0 < k) := Lib.hid (by omega)
            have i9 : k ≤ vs.length := by omega
            have i10 : k ≤ cap := by omega
            rw [hok] at HX HA HV0 hcp ⊢
            have HOK := Lib.hid hok
            clear hdl hpj hGj hgg had hal hok hk0 HI0 HF0 HO0 HV0 hgb hgb2 hcp hcp2
            go_upto_region 13 with fail
            go_region_held3 (fun _ => True) (trivial) (first | (go_at_call 107; refine (HX.out _ (by repeat (first | exact Below.refl _ _ | refine Below.drew ?_ | refine Below.alloc ?_ (by simp) _))).mono ?_; rintro e w1 ⟨rfl, x1, hI, hF, hO, hP⟩; have HI1 := Lib.hid hI; have HF1 := Lib.hid hF; have HO1 := Lib.hid hO; have HP1 := Lib.hid hP; clear hI hF hO hP) | (go_at_call 67; refine (HA.out _ _ HI1.out HF1.out HO1.out HP1.out).mono ?_; rintro e w2 ⟨x2, g3, c3, rfl, hI, hF, hO, hP⟩; have HI2 := Lib.hid hI; have HF2 := Lib.hid hF; have HO2 := Lib.hid hO; have HP2 := Lib.hid hP; clear hI hF hO hP))
            all_goals go_wp2_with (first
              | (at_builtin; refine app_slice w2.heap.size rfl _ _ 44 3 _ 8 rfl Try.underlying44 infoInt rfl (by decide) _ k (nCells (ok.take k)) (nCells oa) rfl ⟨g3, 0, none⟩ j c3 rfl (by unfold nCells; rw [List.length_map]; exact HOA.out) (reads_get (own_reads_at HP2.out) HBM.out) (one_nat _) HOM.out HSM.out (by have h5 := HKV.out; omega) ?_; intro v4 w4 hown4 hg4; have HO4 := Lib.hid hown4; have HI4 := Lib.hid ((HI2.out.below HBM.out).grown HB.out HOM.out HWM.out hg4); have HF4 := Lib.hid ((HF2.out.below HBM.out).grown HOM.out HWM.out hg4); clear hown4 hg4)
              | (at_builtin; refine app_slice w2.heap.size rfl _ _ 44 3 _ 8 rfl Try.underlying44 infoInt rfl (by decide) _ 0 [] (nCells (ok.take k)) rfl ⟨g, 0, none⟩ k cap rfl (by unfold nCells; rw [List.length_map]; exact HTK.out) (reads_get (reads_take (own_reads_at HO2.out)) ((Below.refl _ _).alloc (Nat.le_refl _) _)) (one_nat _) (own_empty w2 _) (by simp) (by omega) ?_; intro vm wm hownm hgm; have HBM := Lib.hid (((Below.refl w2.heap.size w2).alloc (Nat.le_refl _) (.cells #[] 3)).grown hgm (by simp) (fun q hq => by cases hq; exact Nat.le_refl _)); have HSM := Lib.hid HBM.out.size; have hownk : wm.ownsRow w2.heap.size 3 1 vm k (nCells (ok.take k)) := (by simpa using hownm); obtain ⟨gm, cm, rfl, _, _⟩ := own_form hownk HK0.out; have HOM := Lib.hid hownk; have HWM := Lib.hid HF2.out.size; clear hownm hgm hownk))
            all_goals go_roundg (vs.length - (k + 1))
            all_goals first
              | omega
              | exact ⟨k + 1, Ga, ok.take k ++ oa, _, _, by omega, rfl, rfl, by go_num, HSU, by rw [show (ok.take k ++ oa).length = k + j by rw [List.length_append, HTK.out, HOA.out], show nCells (ok.take k ++ oa) = nCells (ok.take k) ++ nCells oa by simp [nCells]]; exact own_lower HO4.out HWM.out, HI4.out, HF4.out⟩
    · obtain rfl : k = vs.length := by omega
      have HST := hst
      clear hst
      go_wp2
      go_ret
      have hol := (HL.out vs.length (Nat.le_refl _)).2.2.1
      rw [HST.out] at hol
      simp only at hol
      have hol2 : ok.length = vs.length := by
        rw [hol]; split
        · omega
        · rfl
      refine ⟨vk, _, rfl, ?_, HFO.out, ?_⟩
      · rw [HST.out]; exact HIO.out
      · rw [HST.out]; rw [← hol2]; exact HOO.out
end Go.Proofs.Ytkcdlbclodjjhaa
