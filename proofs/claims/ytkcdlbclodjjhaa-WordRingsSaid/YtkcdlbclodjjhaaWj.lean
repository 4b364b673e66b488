/- Contract of the ring's add over a board, where there is room. (Printed by wip/tools/gen_add.py.) -/
import Derived.Test.YtkcdlbclodjjhaaWi
import Derived.Deep.DeepCutAuto
namespace Go.Proofs.Ytkcdlbclodjjhaa
open Go.RowKit

set_option maxHeartbeats 4000000 in
set_option maxRecDepth 100000 in
theorem add_ok (B p : Nat) (hp : 1 < p) (sl : List Slo) (G : List Gat) (xs : List Exi) (v1 v2 v3 : Value) (vs ws : List Nat) (VA WA : Option Addr) (vc wc c : Nat) (hlen : ws.length = vs.length) (hl : vs.length ≤ 65536) (hc : c < G.length) (hvs : ∀ x ∈ vs, x < G.length) (hws : ∀ x ∈ ws, x < G.length) (hf : G.length + 9 * vs.length ≤ 65536) (w : World) (h : IsB B p sl G xs v1 v2 v3 w)
    (hV : ∀ W v, Fr B v2 v w W → Reads W VA (nCells vs)) (hW : ∀ W v, Fr B v2 v w W → Reads W WA (nCells ws)) :
    Calls Try.prog 67 #[.iface 115 (.agg #[.pointer (some ⟨B, 0, none⟩)]), .slice VA vs.length vc, .slice WA vs.length wc, .int .i64 c] w fun e W' => ∃ v vo, e = .returned (.tuple #[vo, .int .i64 (((addSt G c (vs.zip ws)).2.2 : Nat) : Int)]) ∧ IsB B p sl (addSt G c (vs.zip ws)).1 xs v1 v v3 W' ∧ Fr B v2 v w W' ∧ W'.ownsRow w.heap.size 3 1 vo vs.length (nCells (addSt G c (vs.zip ws)).2.1) := by
  have mProduct := fun W => mProduct B W
  have mSum := fun W => mSum B W
  have mLess := fun W => mLess B W
  have nProduct := fun W => nProduct B W
  have nSum := fun W => nSum B W
  have nLess := fun W => nLess B W
  simp only [Nat.reduceAdd] at mProduct mSum mLess nProduct nSum nLess
  have hzl : (vs.zip ws).length = vs.length := by rw [List.length_zip, hlen]; omega
  have HL := Lib.hid (addSt_len G c (vs.zip ws) hc)
  have HS := Lib.hid (addSt_succ G c (vs.zip ws))
  have HVS := Lib.hid hvs; have HWS := Lib.hid hws; have HV := Lib.hid hV; have HW := Lib.hid hW; have HB := Lib.hid h; have HF := Lib.hid hf; have HLT := Lib.hid h.lt; have HC := Lib.hid hc; have HP := Lib.hid hp
  have HZ := Lib.hid hzl
  have HE := Lib.hid hlen
  have HH : Hid (addSt G c ((vs.zip ws).take 0) = (G, [], c)) := Lib.hid rfl
  clear hvs hws hV hW h hf hc hp hzl hlen
  go_enter Try.func67, Try.ntmps67
  go_wp2
  go_loopg [3, 10, 18] vs.length (fun g c' o' i' wr => ∃ (k : Nat) (Gk : List Gat) (ok : List Nat) (ck : Nat) (vo vk : Value), k ≤ vs.length ∧ g = vs.length - k ∧ c' = .int .i64 ((ck : Nat) : Int) ∧ o' = vo ∧ i' = .int .i64 k ∧ Hid (addSt G c ((vs.zip ws).take k) = (Gk, ok, ck)) ∧ wr.ownsRow w.heap.size 3 1 vo k (nCells ok) ∧ IsB B p sl Gk xs v1 vk v3 wr ∧ Fr B v2 vk w wr)
  case atStart => exact ⟨0, G, [], c, .slice none 0 0, v2, Nat.zero_le _, rfl, rfl, rfl, rfl, HH, World.ownsRow_nil _ _ _ _, HB.out, Fr.refl _ _ _⟩
  case round =>
    obtain ⟨k, Gk, ok, ck, vo, vk, hk, rfl, rfl, rfl, rfl, hst, hown, hIk, hFk⟩ := hrel
    have HO0 := Lib.hid hown; have HI0 := Lib.hid hIk; have HF0 := Lib.hid hFk
    clear hown hIk hFk
    by_cases hlt : k < vs.length
    · have hlz : k < (vs.zip ws).length := by rw [HZ.out]; exact hlt
      have hlw : k < ws.length := by have := HE.out; omega
      obtain ⟨vad, hva, q0⟩ := (HV.out _ _ HF0.out).nat k hlt
      obtain ⟨wad, hwa, q1⟩ := (HW.out _ _ HF0.out).nat k hlw
      have hcell : Hid (∀ W v, Fr B v2 v w W → W.cell? (wad.add k) = some (.int .i64 ((ws[k] : Nat) : Int))) := Lib.hid fun W v hF => by
        obtain ⟨wad', e1, e2⟩ := (HW.out _ _ hF).nat k hlw
        rw [hwa] at e1
        injection e1 with e1
        rw [e1]; exact e2
      have hsu := HS.out k hlz
      have hL := HL.out k (by omega)
      rw [hst.out] at hsu hL
      simp only at hL
      obtain ⟨hL1, hL2, hL3⟩ := hL
      have hav := HVS.out _ (List.getElem_mem hlt)
      have hbv := HWS.out _ (List.getElem_mem hlw)
      have hp := HP.out
      have hf := HF.out
      rw [List.getElem_zip] at hsu
      generalize vs[k] = a at *
      generalize ws[k] = b at *
      have ha : a < Gk.length := by omega
      have hb : b < Gk.length := by omega
      have hr : Gk.length + 9 ≤ 65536 := by omega
      clear hav hbv hf hL1 hL2
      have h1 := Lib.hid (bit1 B p hp sl Gk xs v1 v2 v3 w HLT.out a b ck ha hb hL3 hr u10 k (nCells ok))
      have h2 := Lib.hid (bit2 B p hp sl Gk xs v1 v2 v3 w HLT.out a b ck ha hb hL3 hr u10 k (nCells ok))
      have h3 := Lib.hid (bit3 B p hp sl Gk xs v1 v2 v3 w HLT.out a b ck ha hb hL3 hr u10 k (nCells ok))
      have h4 := Lib.hid (bit4 B p hp sl Gk xs v1 v2 v3 w HLT.out a b ck ha hb hL3 hr u10 k (nCells ok))
      have h5 := Lib.hid (bit5 B p hp sl Gk xs v1 v2 v3 w HLT.out a b ck ha hb hL3 hr u10 k (nCells ok))
      have h6 := Lib.hid (bit6 B p hp sl Gk xs v1 v2 v3 w HLT.out a b ck ha hb hL3 hr u10 k (nCells ok))
      have h7 := Lib.hid (bit7 B p hp sl Gk xs v1 v2 v3 w HLT.out a b ck ha hb hL3 hr u10 k (nCells ok))
      have h8 := Lib.hid (bit8 B p hp sl Gk xs v1 v2 v3 w HLT.out a b ck ha hb hL3 hr u10 k (nCells ok))
      have HA := Lib.hid ha; have HB2 := Lib.hid hb; have HC3 := Lib.hid hL3; have HR := Lib.hid hr
      have HI0' : Hid (IsB B p sl (bitG 0 Gk a b ck) xs v1 vk v3 wr) := Lib.hid (by rw [bitG_zero]; exact HI0.out)
      clear HI0
      have HI0 := HI0'
      clear HI0'
      have HSU : Hid (addSt G c ((vs.zip ws).take (k + 1)) = (bitG 9 Gk a b ck, ok ++ [Gk.length + 7], Gk.length + 8)) := Lib.hid hsu
      clear hsu ha hb hr hL3 hp
      subst hva
      have HWA := Lib.hid hwa
      subst hwa
      have i1 : (0 : Int) ≤ (k : Int) := by omega
      have i2 : (k : Int) < (vs.length : Int) := by omega
      go_upto_region 5 with fail
      go_region_held3 (fun W => W.cell? (wad.add k) = some (.int .i64 ((b : Nat) : Int))) ((first | exact hcell.out _ _ HF4.out | exact hcell.out _ _ (HF4.out.below (Below.refl _ _).drew) | exact hcell.out _ _ HF3.out | exact hcell.out _ _ (HF3.out.below (Below.refl _ _).drew) | exact hcell.out _ _ HF2.out | exact hcell.out _ _ (HF2.out.below (Below.refl _ _).drew) | exact hcell.out _ _ HF1.out | exact hcell.out _ _ (HF1.out.below (Below.refl _ _).drew) | exact hcell.out _ _ HF0.out | exact hcell.out _ _ (HF0.out.below (Below.refl _ _).drew))) (first | (go_at_call 109; refine (h1.out _ _ _ HI0.out HF0.out HO0.out (by repeat (first | exact Below.refl _ _ | refine Below.drew ?_ | refine Below.alloc ?_ (by simp) _))).mono ?_; rintro e w1 ⟨rfl, x1, hI, hF, hO⟩; have HI1 := Lib.hid hI; have HF1 := Lib.hid hF; have HO1 := Lib.hid hO; clear hI hF hO))
      go_upto_region 6 with fail
      go_cut [14] (fun s14 wx => s14 = .int .i64 ((Gk.length + 3 : Nat) : Int) ∧ ∃ x, IsB B p sl (bitG 4 Gk a b ck) xs v1 x v3 wx ∧ Fr B v2 x w wx ∧ wx.ownsRow w.heap.size 3 1 u10 k (nCells ok))
      case first =>
        go_region_held3 (fun W => W.cell? (wad.add k) = some (.int .i64 ((b : Nat) : Int))) ((first | exact hcell.out _ _ HF4.out | exact hcell.out _ _ (HF4.out.below (Below.refl _ _).drew) | exact hcell.out _ _ HF3.out | exact hcell.out _ _ (HF3.out.below (Below.refl _ _).drew) | exact hcell.out _ _ HF2.out | exact hcell.out _ _ (HF2.out.below (Below.refl _ _).drew) | exact hcell.out _ _ HF1.out | exact hcell.out _ _ (HF1.out.below (Below.refl _ _).drew) | exact hcell.out _ _ HF0.out | exact hcell.out _ _ (HF0.out.below (Below.refl _ _).drew))) (first | (go_at_call 108; refine (h4.out _ _ _ HI3.out HF3.out HO3.out (by repeat (first | exact Below.refl _ _ | refine Below.drew ?_ | refine Below.alloc ?_ (by simp) _))).mono ?_; rintro e w4 ⟨rfl, x4, hI, hF, hO⟩; have HI4 := Lib.hid hI; have HF4 := Lib.hid hF; have HO4 := Lib.hid hO; clear hI hF hO) | (go_at_call 110; refine (h3.out _ _ _ HI2.out HF2.out HO2.out (by repeat (first | exact Below.refl _ _ | refine Below.drew ?_ | refine Below.alloc ?_ (by simp) _))).mono ?_; rintro e w3 ⟨rfl, x3, hI, hF, hO⟩; have HI3 := Lib.hid hI; have HF3 := Lib.hid hF; have HO3 := Lib.hid hO; clear hI hF hO) | (go_at_call 110; refine (h2.out _ _ _ HI1.out HF1.out HO1.out (by repeat (first | exact Below.refl _ _ | refine Below.drew ?_ | refine Below.alloc ?_ (by simp) _))).mono ?_; rintro e w2 ⟨rfl, x2, hI, hF, hO⟩; have HI2 := Lib.hid hI; have HF2 := Lib.hid hF; have HO2 := Lib.hid hO; clear hI hF hO))
        all_goals (go_wp2_with fail; go_meet; exact ⟨rfl, x4, HI4.out, HF4.out, HO4.out⟩)
      case rest =>
      obtain ⟨rfl, x4, hI, hF, hO⟩ := hcut
      have HI4 := Lib.hid hI; have HF4 := Lib.hid hF; have HO4 := Lib.hid hO
      clear hI hF hO HI0 HF0 HO0 HI1 HF1 HO1
      go_wp2_with (first | (go_at_call 109; refine (h5.out _ _ _ HI4.out HF4.out HO4.out (by repeat (first | exact Below.refl _ _ | refine Below.drew ?_ | refine Below.alloc ?_ (by simp) _))).mono ?_; rintro e w5 ⟨rfl, x5, hI, hF, hO⟩; have HI5 := Lib.hid hI; have HF5 := Lib.hid hF; have HO5 := Lib.hid hO; clear hI hF hO))
      go_upto_region 8 with fail
      go_cut [10] (fun s10 wx => ∃ (x : Value) (vo : Value), s10 = vo ∧ IsB B p sl (bitG 8 Gk a b ck) xs v1 x v3 wx ∧ Fr B v2 x w wx ∧ wx.ownsRow w.heap.size 3 1 vo (k + 1) (nCells (ok ++ [Gk.length + 7])))
      case first =>
        go_region_held3 (fun _ => True) (trivial) (first | (go_at_call 108; refine (h8.out _ _ _ HI7.out HF7.out HO7.out (by repeat (first | exact Below.refl _ _ | refine Below.drew ?_ | refine Below.alloc ?_ (by simp) _))).mono ?_; rintro e w8 ⟨rfl, x8, hI, hF, hO⟩; have HI8 := Lib.hid hI; have HF8 := Lib.hid hF; have HO8 := Lib.hid hO; clear hI hF hO) | (go_at_call 110; refine (h7.out _ _ _ HI6.out HF6.out HO6.out (by repeat (first | exact Below.refl _ _ | refine Below.drew ?_ | refine Below.alloc ?_ (by simp) _))).mono ?_; rintro e w7 ⟨rfl, x7, hI, hF, hO⟩; have HI7 := Lib.hid hI; have HF7 := Lib.hid hF; have HO7 := Lib.hid hO; clear hI hF hO) | (go_at_call 110; refine (h6.out _ _ _ HI5.out HF5.out HO5.out (by repeat (first | exact Below.refl _ _ | refine Below.drew ?_ | refine Below.alloc ?_ (by simp) _))).mono ?_; rintro e w6 ⟨rfl, x6, hI, hF, hO⟩; have HI6 := Lib.hid hI; have HF6 := Lib.hid hF; have HO6 := Lib.hid hO; clear hI hF hO) | (refine step_append_own (W0 := w8) (by repeat (first | exact Below.refl _ _ | refine Below.drew ?_ | refine Below.alloc ?_ (by simp) _)) w.heap.size rfl _ _ 44 3 _ 8 rfl Try.underlying44 infoInt rfl (by decide) u10 k _ (.int .i64 ((Gk.length + 7 : Nat) : Int)) rfl _ rfl (by simp) rfl HO8.out (by have h5 := HF8.out.size; omega) (by omega) ?_; intro v9 w9 hown9 hg9; have HO9 := Lib.hid hown9; have HI9 := Lib.hid (HI8.out.grown HB.out HO8.out (Nat.le_refl _) hg9); have HF9 := Lib.hid (HF8.out.grown HO8.out (Nat.le_refl _) hg9); clear hown9 hg9))
        all_goals (go_wp2_with fail; go_meet; exact ⟨x8, v9, rfl, HI9.out, HF9.out, by rw [nCells_snoc]; exact HO9.out⟩)
      case rest =>
      obtain ⟨x8, vo9, rfl, hI, hF, hO⟩ := hcut
      have h9 := Lib.hid (bit9 B p HP.out sl Gk xs v1 v2 v3 w HLT.out a b ck HA.out HB2.out HC3.out HR.out _ (k + 1) (nCells (ok ++ [Gk.length + 7])) _ wc _ hI hF hO (Below.refl _ _))
      clear hI hF hO HI4 HF4 HO4 HI5 HF5 HO5
      go_wp2_with (first | (go_at_call 110; refine h9.out.mono ?_; rintro e w9 ⟨rfl, x9, hI, hF, hO⟩; have HI9 := Lib.hid hI; have HF9 := Lib.hid hF; have HO9 := Lib.hid hO; clear hI hF hO))
      go_roundg (vs.length - (k + 1))
      case measure => omega
      case rel => exact ⟨k + 1, bitG 9 Gk a b ck, ok ++ [Gk.length + 7], Gk.length + 8, _, x9, by omega, rfl, rfl, rfl, by go_num, HSU, HO9.out, HI9.out, HF9.out⟩
    · obtain rfl : k = vs.length := by omega
      have hst' := hst.out
      rw [List.take_of_length_le (by rw [HZ.out]; exact Nat.le_refl _)] at hst'
      have HST := Lib.hid hst'
      clear hst'
      go_wp2
      refine bodyPost_ret (v := .tuple #[u10, .int .i64 ((ck : Nat) : Int)]) (by simp [results, Try.results67, go_sem]) rfl ⟨vk, u10, ?_, ?_, HF0.out, ?_⟩
      · rw [HST.out]
      · rw [HST.out]; exact HI0.out
      · rw [HST.out]; exact HO0.out
end Go.Proofs.Ytkcdlbclodjjhaa
