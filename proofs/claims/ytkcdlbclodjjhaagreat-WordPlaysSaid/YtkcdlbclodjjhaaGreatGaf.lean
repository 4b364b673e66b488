/- Contracts and plain laws of chapter 13, merged: Wj Wk Wl. -/
import Derived.Test.YtkcdlbclodjjhaaGreatGae
import Derived.Deep.DeepCutAuto
/- Contract of the ring's add over a board, where there is room. (Printed by wip/tools/gen_add.py.) -/
namespace Go.Proofs.YtkcdlbclodjjhaaGreat
open Go.RowKit

set_option maxHeartbeats 4000000 in
set_option maxRecDepth 100000 in
theorem add_ok (B p : Nat) (hp : 1 < p) (sl : List Slo) (G : List Gat) (xs : List Exi) (v1 v2 v3 : Value) (vs ws : List Nat) (VA WA : Option Addr) (vc wc c : Nat) (hlen : ws.length = vs.length) (hl : vs.length ≤ 65536) (hc : c < G.length) (hvs : ∀ x ∈ vs, x < G.length) (hws : ∀ x ∈ ws, x < G.length) (hf : G.length + 9 * vs.length ≤ 65536) (w : World) (h : IsB B p sl G xs v1 v2 v3 w)
    (hV : ∀ W v, Fr B v2 v w W → Reads W VA (nCells vs)) (hW : ∀ W v, Fr B v2 v w W → Reads W WA (nCells ws)) :
    Calls Tryz.prog 90 #[.iface 126 (.agg #[.pointer (some ⟨B, 0, none⟩)]), .slice VA vs.length vc, .slice WA vs.length wc, .int .i64 c] w fun e W' => ∃ v vo, e = .returned (.tuple #[vo, .int .i64 (((addSt G c (vs.zip ws)).2.2 : Nat) : Int)]) ∧ IsB B p sl (addSt G c (vs.zip ws)).1 xs v1 v v3 W' ∧ Fr B v2 v w W' ∧ W'.ownsRow w.heap.size 3 1 vo vs.length (nCells (addSt G c (vs.zip ws)).2.1) := by
  have mProduct := fun W => mProduct B W
  have mSum := fun W => mSum B W
  have mLess := fun W => mLess B W
  have nProduct := fun W => nProduct B W
  have nSum := fun W => nSum B W
  have nLess := fun W => nLess B W
  simp only [Nat.reduceAdd] at mProduct mSum mLess nProduct nSum nLess
  have hzl : (vs.zip ws).length = vs.length := by rw [List.length_zip, hlen]; omega
  have HL := Lib.hid (addSt_len G c (vs.zip ws) hc)
  have HS := Lib.hid (addSt_succ G c (vs.zip ws))
  have HVS := Lib.hid hvs; have HWS := Lib.hid hws; have HV := Lib.hid hV; have HW := Lib.hid hW; have HB := Lib.hid h; have HF := Lib.hid hf; have HLT := Lib.hid h.lt; have HC := Lib.hid hc; have HP := Lib.hid hp
  have HZ := Lib.hid hzl
  have HE := Lib.hid hlen
  have HH : Hid (addSt G c ((vs.zip ws).take 0) = (G, [], c)) := Lib.hid rfl
  clear hvs hws hV hW h hf hc hp hzl hlen
  go_enter Tryz.func90, Tryz.ntmps90
  go_wp2
  go_loopg [3, 10, 18] vs.length (fun g c' o' i' wr => ∃ (k : Nat) (Gk : List Gat) (ok : List Nat) (ck : Nat) (vo vk : Value), k ≤ vs.length ∧ g = vs.length - k ∧ c' = .int .i64 ((ck : Nat) : Int) ∧ o' = vo ∧ i' = .int .i64 k ∧ Hid (addSt G c ((vs.zip ws).take k) = (Gk, ok, ck)) ∧ wr.ownsRow w.heap.size 3 1 vo k (nCells ok) ∧ IsB B p sl Gk xs v1 vk v3 wr ∧ Fr B v2 vk w wr)
  case atStart => exact ⟨0, G, [], c, .slice none 0 0, v2, Nat.zero_le _, rfl, rfl, rfl, rfl, HH, World.ownsRow_nil _ _ _ _, HB.out, Fr.refl _ _ _⟩
  case round =>
    obtain ⟨k, Gk, ok, ck, vo, vk, hk, rfl, rfl, rfl, rfl, hst, hown, hIk, hFk⟩ := hrel
    have HO0 := Lib.hid hown; have HI0 := Lib.hid hIk; have HF0 := Lib.hid hFk
    clear hown hIk hFk
    by_cases hlt : k < vs.length
    · have hlz : k < (vs.zip ws).length := by rw [HZ.out]; exact hlt
      have hlw : k < ws.length := by have := HE.out; omega
      obtain ⟨vad, hva, q0⟩ := (HV.out _ _ HF0.out).nat k hlt
      obtain ⟨wad, hwa, q1⟩ := (HW.out _ _ HF0.out).nat k hlw
      have hcell : Hid (∀ W v, Fr B v2 v w W → W.cell? (wad.add k) = some (.int .i64 ((ws[k] : Nat) : Int))) := Lib.hid fun W v hF => by
        obtain ⟨wad', e1, e2⟩ := (HW.out _ _ hF).nat k hlw
        rw [hwa] at e1
        injection e1 with e1
        rw [e1]; exact e2
      have hsu := HS.out k hlz
      have hL := HL.out k (by omega)
      rw [hst.out] at hsu hL
      simp only at hL
      obtain ⟨hL1, hL2, hL3⟩ := hL
      have hav := HVS.out _ (List.getElem_mem hlt)
      have hbv := HWS.out _ (List.getElem_mem hlw)
      have hp := HP.out
      have hf := HF.out
      rw [List.getElem_zip] at hsu
      generalize vs[k] = a at *
      generalize ws[k] = b at *
      have ha : a < Gk.length := by omega
      have hb : b < Gk.length := by omega
      have hr : Gk.length + 9 ≤ 65536 := by omega
      clear hav hbv hf hL1 hL2
      have h1 := Lib.hid (bit1 B p hp sl Gk xs v1 v2 v3 w HLT.out a b ck ha hb hL3 hr u10 k (nCells ok))
      have h2 := Lib.hid (bit2 B p hp sl Gk xs v1 v2 v3 w HLT.out a b ck ha hb hL3 hr u10 k (nCells ok))
      have h3 := Lib.hid (bit3 B p hp sl Gk xs v1 v2 v3 w HLT.out a b ck ha hb hL3 hr u10 k (nCells ok))
      have h4 := Lib.hid (bit4 B p hp sl Gk xs v1 v2 v3 w HLT.out a b ck ha hb hL3 hr u10 k (nCells ok))
      have h5 := Lib.hid (bit5 B p hp sl Gk xs v1 v2 v3 w HLT.out a b ck ha hb hL3 hr u10 k (nCells ok))
      have h6 := Lib.hid (bit6 B p hp sl Gk xs v1 v2 v3 w HLT.out a b ck ha hb hL3 hr u10 k (nCells ok))
      have h7 := Lib.hid (bit7 B p hp sl Gk xs v1 v2 v3 w HLT.out a b ck ha hb hL3 hr u10 k (nCells ok))
      have h8 := Lib.hid (bit8 B p hp sl Gk xs v1 v2 v3 w HLT.out a b ck ha hb hL3 hr u10 k (nCells ok))
      have HA := Lib.hid ha; have HB2 := Lib.hid hb; have HC3 := Lib.hid hL3; have HR := Lib.hid hr
      have HI0' : Hid (IsB B p sl (bitG 0 Gk a b ck) xs v1 vk v3 wr) := Lib.hid (by rw [bitG_zero]; exact HI0.out)
      clear HI0
      have HI0 := HI0'
      clear HI0'
      have HSU : Hid (addSt G c ((vs.zip ws).take (k + 1)) = (bitG 9 Gk a b ck, ok ++ [Gk.length + 7], Gk.length + 8)) := Lib.hid hsu
      clear hsu ha hb hr hL3 hp
      subst hva
      have HWA := Lib.hid hwa
      subst hwa
      have i1 : (0 : Int) ≤ (k : Int) := by omega
      have i2 : (k : Int) < (vs.length : Int) := by omega
      go_upto_region 5 with fail
      go_region_held3 (fun W => W.cell? (wad.add k) = some (.int .i64 ((b : Nat) : Int))) ((first | exact hcell.out _ _ HF4.out | exact hcell.out _ _ (HF4.out.below (Below.refl _ _).drew) | exact hcell.out _ _ HF3.out | exact hcell.out _ _ (HF3.out.below (Below.refl _ _).drew) | exact hcell.out _ _ HF2.out | exact hcell.out _ _ (HF2.out.below (Below.refl _ _).drew) | exact hcell.out _ _ HF1.out | exact hcell.out _ _ (HF1.out.below (Below.refl _ _).drew) | exact hcell.out _ _ HF0.out | exact hcell.out _ _ (HF0.out.below (Below.refl _ _).drew))) (first | (go_at_call 122; refine (h1.out _ _ _ HI0.out HF0.out HO0.out (by repeat (first | exact Below.refl _ _ | refine Below.drew ?_ | refine Below.alloc ?_ (by simp) _))).mono ?_; rintro e w1 ⟨rfl, x1, hI, hF, hO⟩; have HI1 := Lib.hid hI; have HF1 := Lib.hid hF; have HO1 := Lib.hid hO; clear hI hF hO))
      go_upto_region 6 with fail
      go_cut [14] (fun s14 wx => s14 = .int .i64 ((Gk.length + 3 : Nat) : Int) ∧ ∃ x, IsB B p sl (bitG 4 Gk a b ck) xs v1 x v3 wx ∧ Fr B v2 x w wx ∧ wx.ownsRow w.heap.size 3 1 u10 k (nCells ok))
      case first =>
        go_region_held3 (fun W => W.cell? (wad.add k) = some (.int .i64 ((b : Nat) : Int))) ((first | exact hcell.out _ _ HF4.out | exact hcell.out _ _ (HF4.out.below (Below.refl _ _).drew) | exact hcell.out _ _ HF3.out | exact hcell.out _ _ (HF3.out.below (Below.refl _ _).drew) | exact hcell.out _ _ HF2.out | exact hcell.out _ _ (HF2.out.below (Below.refl _ _).drew) | exact hcell.out _ _ HF1.out | exact hcell.out _ _ (HF1.out.below (Below.refl _ _).drew) | exact hcell.out _ _ HF0.out | exact hcell.out _ _ (HF0.out.below (Below.refl _ _).drew))) (first | (go_at_call 121; refine (h4.out _ _ _ HI3.out HF3.out HO3.out (by repeat (first | exact Below.refl _ _ | refine Below.drew ?_ | refine Below.alloc ?_ (by simp) _))).mono ?_; rintro e w4 ⟨rfl, x4, hI, hF, hO⟩; have HI4 := Lib.hid hI; have HF4 := Lib.hid hF; have HO4 := Lib.hid hO; clear hI hF hO) | (go_at_call 123; refine (h3.out _ _ _ HI2.out HF2.out HO2.out (by repeat (first | exact Below.refl _ _ | refine Below.drew ?_ | refine Below.alloc ?_ (by simp) _))).mono ?_; rintro e w3 ⟨rfl, x3, hI, hF, hO⟩; have HI3 := Lib.hid hI; have HF3 := Lib.hid hF; have HO3 := Lib.hid hO; clear hI hF hO) | (go_at_call 123; refine (h2.out _ _ _ HI1.out HF1.out HO1.out (by repeat (first | exact Below.refl _ _ | refine Below.drew ?_ | refine Below.alloc ?_ (by simp) _))).mono ?_; rintro e w2 ⟨rfl, x2, hI, hF, hO⟩; have HI2 := Lib.hid hI; have HF2 := Lib.hid hF; have HO2 := Lib.hid hO; clear hI hF hO))
        all_goals (go_wp2_with fail; go_meet; exact ⟨rfl, x4, HI4.out, HF4.out, HO4.out⟩)
      case rest =>
      obtain ⟨rfl, x4, hI, hF, hO⟩ := hcut
      have HI4 := Lib.hid hI; have HF4 := Lib.hid hF; have HO4 := Lib.hid hO
      clear hI hF hO HI0 HF0 HO0 HI1 HF1 HO1
      go_wp2_with (first | (go_at_call 122; refine (h5.out _ _ _ HI4.out HF4.out HO4.out (by repeat (first | exact Below.refl _ _ | refine Below.drew ?_ | refine Below.alloc ?_ (by simp) _))).mono ?_; rintro e w5 ⟨rfl, x5, hI, hF, hO⟩; have HI5 := Lib.hid hI; have HF5 := Lib.hid hF; have HO5 := Lib.hid hO; clear hI hF hO))
      go_upto_region 8 with fail
      go_cut [10] (fun s10 wx => ∃ (x : Value) (vo : Value), s10 = vo ∧ IsB B p sl (bitG 8 Gk a b ck) xs v1 x v3 wx ∧ Fr B v2 x w wx ∧ wx.ownsRow w.heap.size 3 1 vo (k + 1) (nCells (ok ++ [Gk.length + 7])))
      case first =>
        go_region_held3 (fun _ => True) (trivial) (first | (go_at_call 121; refine (h8.out _ _ _ HI7.out HF7.out HO7.out (by repeat (first | exact Below.refl _ _ | refine Below.drew ?_ | refine Below.alloc ?_ (by simp) _))).mono ?_; rintro e w8 ⟨rfl, x8, hI, hF, hO⟩; have HI8 := Lib.hid hI; have HF8 := Lib.hid hF; have HO8 := Lib.hid hO; clear hI hF hO) | (go_at_call 123; refine (h7.out _ _ _ HI6.out HF6.out HO6.out (by repeat (first | exact Below.refl _ _ | refine Below.drew ?_ | refine Below.alloc ?_ (by simp) _))).mono ?_; rintro e w7 ⟨rfl, x7, hI, hF, hO⟩; have HI7 := Lib.hid hI; have HF7 := Lib.hid hF; have HO7 := Lib.hid hO; clear hI hF hO) | (go_at_call 123; refine (h6.out _ _ _ HI5.out HF5.out HO5.out (by repeat (first | exact Below.refl _ _ | refine Below.drew ?_ | refine Below.alloc ?_ (by simp) _))).mono ?_; rintro e w6 ⟨rfl, x6, hI, hF, hO⟩; have HI6 := Lib.hid hI; have HF6 := Lib.hid hF; have HO6 := Lib.hid hO; clear hI hF hO) | (refine step_append_own (W0 := w8) (by repeat (first | exact Below.refl _ _ | refine Below.drew ?_ | refine Below.alloc ?_ (by simp) _)) w.heap.size rfl _ _ 38 3 _ 8 rfl Tryz.underlying38 infoInt rfl (by decide) u10 k _ (.int .i64 ((Gk.length + 7 : Nat) : Int)) rfl _ rfl (by simp) rfl HO8.out (by have h5 := HF8.out.size; omega) (by omega) ?_; intro v9 w9 hown9 hg9; have HO9 := Lib.hid hown9; have HI9 := Lib.hid (HI8.out.grown HB.out HO8.out (Nat.le_refl _) hg9); have HF9 := Lib.hid (HF8.out.grown HO8.out (Nat.le_refl _) hg9); clear hown9 hg9))
        all_goals (go_wp2_with fail; go_meet; exact ⟨x8, v9, rfl, HI9.out, HF9.out, by rw [nCells_snoc]; exact HO9.out⟩)
      case rest =>
      obtain ⟨x8, vo9, rfl, hI, hF, hO⟩ := hcut
      have h9 := Lib.hid (bit9 B p HP.out sl Gk xs v1 v2 v3 w HLT.out a b ck HA.out HB2.out HC3.out HR.out _ (k + 1) (nCells (ok ++ [Gk.length + 7])) _ wc _ hI hF hO (Below.refl _ _))
      clear hI hF hO HI4 HF4 HO4 HI5 HF5 HO5
      go_wp2_with (first | (go_at_call 123; refine h9.out.mono ?_; rintro e w9 ⟨rfl, x9, hI, hF, hO⟩; have HI9 := Lib.hid hI; have HF9 := Lib.hid hF; have HO9 := Lib.hid hO; clear hI hF hO))
      go_roundg (vs.length - (k + 1))
      case measure => omega
      case rel => exact ⟨k + 1, bitG 9 Gk a b ck, ok ++ [Gk.length + 7], Gk.length + 8, _, x9, by omega, rfl, rfl, rfl, by go_num, HSU, HO9.out, HI9.out, HF9.out⟩
    · obtain rfl : k = vs.length := by omega
      have hst' := hst.out
      rw [List.take_of_length_le (by rw [HZ.out]; exact Nat.le_refl _)] at hst'
      have HST := Lib.hid hst'
      clear hst'
      go_wp2
      refine bodyPost_ret (v := .tuple #[u10, .int .i64 ((ck : Nat) : Int)]) (by simp [results, Tryz.results90, go_sem]) rfl ⟨vk, u10, ?_, ?_, HF0.out, ?_⟩
      · rw [HST.out]
      · rw [HST.out]; exact HI0.out
      · rw [HST.out]; exact HO0.out
end Go.Proofs.YtkcdlbclodjjhaaGreat

/- Contracts of the ring's turned, Plus, Minus, Below, Same over a board, where there is room. (Printed by wip/tools/gen_wk.py.) -/
namespace Go.Proofs.YtkcdlbclodjjhaaGreat
open Go.RowKit

def conL (k : Nat) : List Gat := [((2, 0, 0, ((k : Nat) : Int)) : Gat)]
def turnStep (s : List Gat × List Nat) (a : Nat) : List Gat × List Nat := (s.1 ++ notL s.1.length a, s.2 ++ [s.1.length + 1])
def turnSt (G : List Gat) (ws : List Nat) : List Gat × List Nat := ws.foldl turnStep (G, [])
theorem turnSt_succ (G : List Gat) (ws : List Nat) (k : Nat) (h : k < ws.length) : turnSt G (ws.take (k + 1)) = turnStep (turnSt G (ws.take k)) ws[k] := by
  unfold turnSt
  rw [List.take_succ_eq_append_getElem h, List.foldl_append]
  rfl
theorem turnSt_len (G : List Gat) (ws : List Nat) : ∀ k, k ≤ ws.length → (turnSt G (ws.take k)).1.length = G.length + 2 * k ∧ (turnSt G (ws.take k)).2.length = k ∧ ∀ x ∈ (turnSt G (ws.take k)).2, x < (turnSt G (ws.take k)).1.length := by
  intro k
  induction k with
  | zero => intro _; exact ⟨rfl, rfl, by intro x hx; simp [turnSt] at hx⟩
  | succ k ih =>
    intro h
    obtain ⟨h1, h2, h3⟩ := ih (by omega)
    rw [turnSt_succ G ws k (by omega)]
    refine ⟨?_, ?_, ?_⟩
    · simp only [turnStep, List.length_append, h1]; simp only [notL, List.length_cons, List.length_nil]; omega
    · simp only [turnStep, List.length_append, h2, List.length_cons, List.length_nil]
    · intro x hx
      simp only [turnStep, List.length_append]
      simp only [notL, List.length_cons, List.length_nil]
      rcases List.mem_append.1 hx with e | e
      · have := h3 x e; omega
      · have := List.mem_singleton.1 e; omega
theorem turnSt_all (G : List Gat) (ws : List Nat) : (turnSt G ws).1.length = G.length + 2 * ws.length ∧ (turnSt G ws).2.length = ws.length ∧ ∀ x ∈ (turnSt G ws).2, x < (turnSt G ws).1.length := by
  have := turnSt_len G ws ws.length (Nat.le_refl _)
  rwa [List.take_length] at this
theorem OkPost.row {B p : Nat} {sl : List Slo} {G G' : List Gat} {xs : List Exi} {v1 v2 v3 v : Value} {w W : World} {r : Value} {e : Ending} {W' : World} (h : OkPost B p sl G' xs v1 v v3 W r e W') (hF : Fr B v2 v w W) (hI : IsB B p sl G xs v1 v v3 W) {base k : Nat} {vo : Value} {cs : List Value} (hO : W.ownsRow base 3 1 vo k cs) (hB : B < base) :
    e = .returned r ∧ ∃ v', IsB B p sl G' xs v1 v' v3 W' ∧ Fr B v2 v' w W' ∧ W'.ownsRow base 3 1 vo k cs := by
  obtain ⟨e1, v', h1, h2⟩ := h
  exact ⟨e1, v', h1, hF.trans h2, h2.own_int hI.h2 hO hB⟩
set_option maxHeartbeats 2000000 in
set_option maxRecDepth 100000 in
theorem turned_ok (B p : Nat) (hp : 1 < p) (sl : List Slo) (G : List Gat) (xs : List Exi) (v1 v2 v3 : Value) (ws : List Nat) (WA : Option Addr) (wc n : Nat) (hn : ws.length = n) (hl : n ≤ 65536) (hws : ∀ x ∈ ws, x < G.length) (hf : G.length + 2 * n ≤ 65535) (w : World) (h : IsB B p sl G xs v1 v2 v3 w) (hW : ∀ W v, Fr B v2 v w W → Reads W WA (nCells ws)) :
    Calls Tryz.prog 91 #[.iface 126 (.agg #[.pointer (some ⟨B, 0, none⟩)]), .slice WA n wc] w fun e W' => ∃ v vo, e = .returned vo ∧ IsB B p sl (turnSt G ws).1 xs v1 v v3 W' ∧ Fr B v2 v w W' ∧ W'.ownsRow w.heap.size 3 1 vo n (nCells (turnSt G ws).2) := by
  subst hn
  have HL := Lib.hid (turnSt_len G ws)
  have HS := Lib.hid (turnSt_succ G ws)
  have HWS := Lib.hid hws; have HW := Lib.hid hW; have HB := Lib.hid h; have HF := Lib.hid hf; have HLT := Lib.hid h.lt; have HP := Lib.hid hp
  have HH : Hid (turnSt G (ws.take 0) = (G, [])) := Lib.hid rfl
  clear hws hW h hf hp
  go_enter Tryz.func91, Tryz.ntmps91
  go_wp2
  go_loopg [5, 10] ws.length (fun g o' i' wr => ∃ (k : Nat) (Gk : List Gat) (ok : List Nat) (vo vk : Value), k ≤ ws.length ∧ g = ws.length - k ∧ o' = vo ∧ i' = .int .i64 k ∧ Hid (turnSt G (ws.take k) = (Gk, ok)) ∧ wr.ownsRow w.heap.size 3 1 vo k (nCells ok) ∧ IsB B p sl Gk xs v1 vk v3 wr ∧ Fr B v2 vk w wr)
  case atStart => exact ⟨0, G, [], .slice none 0 0, v2, Nat.zero_le _, rfl, rfl, rfl, HH, World.ownsRow_nil _ _ _ _, HB.out, Fr.refl _ _ _⟩
  case round =>
    obtain ⟨k, Gk, ok, vo, vk, hk, rfl, rfl, rfl, hst, hown, hIk, hFk⟩ := hrel
    have HO0 := Lib.hid hown; have HI0 := Lib.hid hIk; have HF0 := Lib.hid hFk
    clear hown hIk hFk
    by_cases hlt : k < ws.length
    · obtain ⟨wad, hwa, q1⟩ := (HW.out _ _ HF0.out).nat k hlt
      have hsu := HS.out k hlt
      have hL := HL.out k (by omega)
      rw [hst.out] at hsu hL
      simp only at hL
      have hbv := HWS.out _ (List.getElem_mem hlt)
      have hf := HF.out
      generalize ws[k] = b at *
      have HN : Hid (Calls Tryz.prog 65 #[.iface 126 (.agg #[.pointer (some ⟨B, 0, none⟩)]), .int .i64 ((b : Nat) : Int)] wr fun e W' => e = .returned (.int .i64 ((Gk.length + 1 : Nat) : Int)) ∧ ∃ v', IsB B p sl (Gk ++ notL Gk.length b) xs v1 v' v3 W' ∧ Fr B v2 v' w W' ∧ W'.ownsRow w.heap.size 3 1 u5 k (nCells ok)) :=
        Lib.hid ((not_ok B p HP.out sl Gk xs v1 vk v3 b (by omega) (by omega) wr HI0.out).mono fun _ _ he => OkPost.row he HF0.out HI0.out HO0.out HLT.out)
      have HSU : Hid (turnSt G (ws.take (k + 1)) = (Gk ++ notL Gk.length b, ok ++ [Gk.length + 1])) := Lib.hid hsu
      clear hsu hL hbv hf
      subst hwa
      have i1 : (0 : Int) ≤ (k : Int) := by omega
      have i2 : (k : Int) < (ws.length : Int) := by omega
      go_wp2_with (first | (go_at_call 65; refine HN.out.mono ?_; rintro e w1 ⟨rfl, x1, hI, hF, hO⟩; have HI1 := Lib.hid hI; have HF1 := Lib.hid hF; have HO1 := Lib.hid hO; clear hI hF hO) | (at_builtin; refine list_append_own (W0 := w1) (below_snoc (Below.refl _ _) _) w.heap.size rfl _ _ 38 3 _ 8 rfl Tryz.underlying38 infoInt rfl (by decide) u5 k _ (.int .i64 ((Gk.length + 1 : Nat) : Int)) rfl _ rfl (by simp) rfl HO1.out (by have h5 := HF1.out.size; omega) (by omega) ?_; intro v9 w9 hown9 hg9; have HO9 := Lib.hid hown9; have HI9 := Lib.hid (HI1.out.grown HB.out HO1.out (Nat.le_refl _) hg9); have HF9 := Lib.hid (HF1.out.grown HO1.out (Nat.le_refl _) hg9); clear hown9 hg9))
      go_roundg (ws.length - (k + 1))
      case measure => omega
      case rel => exact ⟨k + 1, _, ok ++ [Gk.length + 1], _, _, by omega, rfl, rfl, by go_num, HSU, by rw [nCells_snoc]; exact HO9.out, HI9.out, HF9.out⟩
    · obtain rfl : k = ws.length := by omega
      have hst' := hst.out
      rw [List.take_length] at hst'
      have HST := Lib.hid hst'
      clear hst'
      go_wp2
      go_ret
      refine ⟨vk, _, rfl, ?_, HF0.out, ?_⟩
      · rw [HST.out]; exact HI0.out
      · rw [HST.out]; exact HO0.out
theorem own_lower {w : World} {base base' : Nat} {e : TypeId} {size n : Nat} {v : Value} {xs : List Value} (h : w.ownsRow base e size v n xs) (hb : base' ≤ base) : w.ownsRow base' e size v n xs := by
  refine ⟨h.1, ?_⟩
  rcases h.2 with h2 | ⟨g, cap, cur, hv, hg, r⟩
  · exact .inl h2
  · exact .inr ⟨g, cap, cur, hv, Nat.le_trans hb hg, r⟩
/-- What Plus, Minus and Below lay. -/
def plusSt (G : List Gat) (vs ws : List Nat) : List Gat × List Nat × Nat := addSt (G ++ conL 0) G.length (vs.zip ws)
def minusSt (G : List Gat) (vs ws : List Nat) : List Gat × List Nat × Nat := addSt ((turnSt G ws).1 ++ conL 1) (turnSt G ws).1.length (vs.zip (turnSt G ws).2)
def belowSt (G : List Gat) (vs ws : List Nat) : List Gat × Nat := ((minusSt G vs ws).1 ++ notL (minusSt G vs ws).1.length (minusSt G vs ws).2.2, (minusSt G vs ws).1.length + 1)
theorem fixed_row (B p : Nat) (hp : 1 < p) (sl : List Slo) (G : List Gat) (xs : List Exi) (v1 v2 v3 : Value) (k : Nat) (hk : k < 2) (hf : G.length < 65536) (w W : World) (v : Value) (hF : Fr B v2 v w W) (hI : IsB B p sl G xs v1 v v3 W) :
    Calls Tryz.prog 120 #[.agg #[.pointer (some ⟨B, 0, none⟩)], .int .u64 ((k : Nat) : Int)] W fun e W' => e = .returned (.int .i64 ((G.length : Nat) : Int)) ∧ ∃ v', IsB B p sl (G ++ conL k) xs v1 v' v3 W' ∧ Fr B v2 v' w W' ∧ ∀ (base m : Nat) (vo : Value) (cs : List Value), B < base → W.ownsRow base 3 1 vo m cs → W'.ownsRow base 3 1 vo m cs :=
  (fixed_ok B p (by omega) sl G xs v1 v v3 k (by omega) hf W hI).mono fun _ _ he => by
    obtain ⟨e1, v', h1, h2⟩ := he
    exact ⟨e1, v', h1, hF.trans h2, fun base m vo cs hb ho => h2.own_int hI.h2 ho hb⟩
theorem own_nat {w : World} {base n : Nat} {v : Value} {l : List Nat} (h : w.ownsRow base 3 1 v n (nCells l)) : ∃ A c, v = .slice A n c ∧ Reads w A (nCells l) := own_reads h
theorem own_keep {B base n : Nat} {v2 : Value} {W : World} {p : Nat} {sl : List Slo} {G : List Gat} {xs : List Exi} {v1 v3 : Value} (hI : IsB B p sl G xs v1 v2 v3 W) (hB : B < base) {A : Option Addr} {c : Nat} {l : List Nat} (h : W.ownsRow base 3 1 (.slice A n c) n (nCells l)) : ∀ W' v, Fr B v2 v W W' → Reads W' A (nCells l) :=
  fun _ _ hF => own_reads_at (hF.own_int hI.h2 h hB)
set_option maxHeartbeats 2000000 in
set_option maxRecDepth 100000 in
theorem plus_ok (B p : Nat) (hp : 1 < p) (sl : List Slo) (G : List Gat) (xs : List Exi) (v1 v2 v3 : Value) (vs ws : List Nat) (VA WA : Option Addr) (vc wc : Nat) (hlen : ws.length = vs.length) (hl : vs.length ≤ 65536) (hvs : ∀ x ∈ vs, x < G.length) (hws : ∀ x ∈ ws, x < G.length) (hf : G.length + 1 + 9 * vs.length ≤ 65536) (w : World) (h : IsB B p sl G xs v1 v2 v3 w) (hV : ∀ W v, Fr B v2 v w W → Reads W VA (nCells vs)) (hW : ∀ W v, Fr B v2 v w W → Reads W WA (nCells ws)) :
    Calls Tryz.prog 48 #[.iface 126 (.agg #[.pointer (some ⟨B, 0, none⟩)]), .slice VA vs.length vc, .slice WA vs.length wc] w (fun e W' => ∃ v vo, e = .returned vo ∧ IsB B p sl (plusSt G vs ws).1 xs v1 v v3 W' ∧ Fr B v2 v w W' ∧ W'.ownsRow w.heap.size 3 1 vo vs.length (nCells (plusSt G vs ws).2.1)) := by
  have mFixed := fun W => mFixed B W
  simp only [Nat.reduceAdd] at mFixed
  have HX : Hid (∀ W, Below w.heap.size w W → Calls Tryz.prog 120 #[.agg #[.pointer (some ⟨B, 0, none⟩)], .int .u64 0] W fun e W' => e = .returned (.int .i64 ((G.length : Nat) : Int)) ∧ ∃ v', IsB B p sl (G ++ conL 0) xs v1 v' v3 W' ∧ Fr B v2 v' w W') :=
    Lib.hid fun W hb => (fixed_row B p hp sl G xs v1 v2 v3 0 (by omega) (by omega) w W v2 (Fr.of_below hb) (h.below hb)).mono fun _ _ he => ⟨he.1, by obtain ⟨_, v', h1, h2, _⟩ := he; exact ⟨v', h1, h2⟩⟩
  have HA : Hid (∀ W v, IsB B p sl (G ++ conL 0) xs v1 v v3 W → Fr B v2 v w W → Calls Tryz.prog 90 #[.iface 126 (.agg #[.pointer (some ⟨B, 0, none⟩)]), .slice VA vs.length vc, .slice WA vs.length wc, .int .i64 ((G.length : Nat) : Int)] W fun e W' => ∃ v' vo, e = .returned (.tuple #[vo, .int .i64 (((plusSt G vs ws).2.2 : Nat) : Int)]) ∧ IsB B p sl (plusSt G vs ws).1 xs v1 v' v3 W' ∧ Fr B v2 v' w W' ∧ W'.ownsRow w.heap.size 3 1 vo vs.length (nCells (plusSt G vs ws).2.1)) :=
    Lib.hid fun W v hI hF => (add_ok B p hp sl (G ++ conL 0) xs v1 v v3 vs ws VA WA vc wc G.length hlen hl (by simp [conL]) (fun x hx => by have := hvs x hx; simp [conL]; omega) (fun x hx => by have := hws x hx; simp [conL]; omega) (by simp [conL]; omega) W hI (fun W' v' hf' => hV W' v' (hF.trans hf')) (fun W' v' hf' => hW W' v' (hF.trans hf'))).mono fun _ _ he => by
      obtain ⟨v', vo, e1, h1, h2, h3⟩ := he
      exact ⟨v', vo, e1, h1, hF.trans h2, own_lower h3 hF.size⟩
  clear hvs hws hV hW h hf hp hlen
  go_enter Tryz.func48, Tryz.ntmps48
  go_wp2_with (first | (go_at_call 120; refine (HX.out _ (Below.refl _ _)).mono ?_; rintro e w1 ⟨rfl, x1, hI, hF⟩; have HI1 := Lib.hid hI; have HF1 := Lib.hid hF; clear hI hF) | (go_at_call 90; refine (HA.out _ _ HI1.out HF1.out).mono ?_; rintro e w2 ⟨x2, vo, rfl, he⟩; have HE := Lib.hid he; clear he))
  go_ret
  exact ⟨_, vo, rfl, HE.out⟩
set_option maxHeartbeats 2000000 in
set_option maxRecDepth 100000 in
theorem minus_ok (B p : Nat) (hp : 1 < p) (sl : List Slo) (G : List Gat) (xs : List Exi) (v1 v2 v3 : Value) (vs ws : List Nat) (VA WA : Option Addr) (vc wc : Nat) (hlen : ws.length = vs.length) (hl : vs.length ≤ 65536) (hvs : ∀ x ∈ vs, x < G.length) (hws : ∀ x ∈ ws, x < G.length) (hf : G.length + 1 + 11 * vs.length ≤ 65536) (w : World) (h : IsB B p sl G xs v1 v2 v3 w) (hV : ∀ W v, Fr B v2 v w W → Reads W VA (nCells vs)) (hW : ∀ W v, Fr B v2 v w W → Reads W WA (nCells ws)) :
    Calls Tryz.prog 50 #[.iface 126 (.agg #[.pointer (some ⟨B, 0, none⟩)]), .slice VA vs.length vc, .slice WA vs.length wc] w (fun e W' => ∃ v vo, e = .returned vo ∧ IsB B p sl (minusSt G vs ws).1 xs v1 v v3 W' ∧ Fr B v2 v w W' ∧ W'.ownsRow w.heap.size 3 1 vo vs.length (nCells (minusSt G vs ws).2.1)) := by
  have mFixed := fun W => mFixed B W
  simp only [Nat.reduceAdd] at mFixed
  obtain ⟨tl1, tl2, tl3⟩ := turnSt_all G ws
  have HT : Hid (∀ W, Below w.heap.size w W → Calls Tryz.prog 91 #[.iface 126 (.agg #[.pointer (some ⟨B, 0, none⟩)]), .slice WA vs.length wc] W fun e W' => ∃ vo, e = .returned vo ∧ ∃ v', IsB B p sl (turnSt G ws).1 xs v1 v' v3 W' ∧ Fr B v2 v' w W' ∧ W'.ownsRow w.heap.size 3 1 vo vs.length (nCells (turnSt G ws).2)) :=
    Lib.hid fun W hb => (turned_ok B p hp sl G xs v1 v2 v3 ws WA wc vs.length hlen hl hws (by omega) W (h.below hb) (fun W' v' hf' => hW W' v' ((Fr.of_below hb).trans hf'))).mono fun _ _ he => by
      obtain ⟨v', vo, e1, h1, h2, h3⟩ := he
      exact ⟨vo, e1, v', h1, (Fr.of_below hb).trans h2, own_lower h3 hb.size⟩
  have HX : Hid (∀ W v, IsB B p sl (turnSt G ws).1 xs v1 v v3 W → Fr B v2 v w W → Calls Tryz.prog 120 #[.agg #[.pointer (some ⟨B, 0, none⟩)], .int .u64 1] W fun e W' => e = .returned (.int .i64 (((turnSt G ws).1.length : Nat) : Int)) ∧ ∃ v', IsB B p sl ((turnSt G ws).1 ++ conL 1) xs v1 v' v3 W' ∧ Fr B v2 v' w W' ∧ ∀ (base m : Nat) (vo : Value) (cs : List Value), B < base → W.ownsRow base 3 1 vo m cs → W'.ownsRow base 3 1 vo m cs) :=
    Lib.hid fun W v hI hF => fixed_row B p hp sl _ xs v1 v2 v3 1 (by omega) (by omega) w W v hF hI
  have HA : Hid (∀ W v TA tc, IsB B p sl ((turnSt G ws).1 ++ conL 1) xs v1 v v3 W → Fr B v2 v w W → W.ownsRow w.heap.size 3 1 (.slice TA vs.length tc) vs.length (nCells (turnSt G ws).2) → Calls Tryz.prog 90 #[.iface 126 (.agg #[.pointer (some ⟨B, 0, none⟩)]), .slice VA vs.length vc, .slice TA vs.length tc, .int .i64 (((turnSt G ws).1.length : Nat) : Int)] W fun e W' => ∃ v' vo, e = .returned (.tuple #[vo, .int .i64 (((minusSt G vs ws).2.2 : Nat) : Int)]) ∧ IsB B p sl (minusSt G vs ws).1 xs v1 v' v3 W' ∧ Fr B v2 v' w W' ∧ W'.ownsRow w.heap.size 3 1 vo vs.length (nCells (minusSt G vs ws).2.1)) :=
    Lib.hid fun W v TA tc hI hF hO => (add_ok B p hp sl _ xs v1 v v3 vs (turnSt G ws).2 VA TA vc tc (turnSt G ws).1.length (by omega) hl (by simp [conL]) (fun x hx => by have := hvs x hx; simp [conL]; omega) (fun x hx => by have := tl3 x hx; simp [conL]; omega) (by simp [conL]; omega) W hI (fun W' v' hf' => hV W' v' (hF.trans hf')) (own_keep hI h.lt hO)).mono fun _ _ he => by
      obtain ⟨v', vo, e1, h1, h2, h3⟩ := he
      exact ⟨v', vo, e1, h1, hF.trans h2, own_lower h3 hF.size⟩
  have HLT := Lib.hid h.lt
  clear hvs hws hV hW h hf hp hlen tl1 tl2 tl3
  go_enter Tryz.func50, Tryz.ntmps50
  go_wp2_with (first | (go_at_call 91; refine (HT.out _ (Below.refl _ _)).mono ?_; rintro e w1 ⟨vt, rfl, x1, hI, hF, hO⟩; obtain ⟨TA, tc, rfl, _⟩ := own_nat hO; have HI1 := Lib.hid hI; have HF1 := Lib.hid hF; have HO1 := Lib.hid hO; clear hI hF hO) | (go_at_call 120; refine (HX.out _ _ HI1.out HF1.out).mono ?_; rintro e w2 ⟨rfl, x2, hI, hF, hO⟩; have HI2 := Lib.hid hI; have HF2 := Lib.hid hF; have HO2 := Lib.hid (hO _ _ _ _ HLT.out HO1.out); clear hI hF hO) | (go_at_call 90; refine (HA.out _ _ _ _ HI2.out HF2.out HO2.out).mono ?_; rintro e w3 ⟨x3, vo, rfl, he⟩; have HE := Lib.hid he; clear he))
  go_ret
  exact ⟨_, vo, rfl, HE.out⟩
set_option maxHeartbeats 2000000 in
set_option maxRecDepth 100000 in
theorem below_ok (B p : Nat) (hp : 1 < p) (sl : List Slo) (G : List Gat) (xs : List Exi) (v1 v2 v3 : Value) (vs ws : List Nat) (VA WA : Option Addr) (vc wc : Nat) (hlen : ws.length = vs.length) (hl : vs.length ≤ 65536) (hvs : ∀ x ∈ vs, x < G.length) (hws : ∀ x ∈ ws, x < G.length) (hf : G.length + 3 + 11 * vs.length ≤ 65536) (w : World) (h : IsB B p sl G xs v1 v2 v3 w) (hV : ∀ W v, Fr B v2 v w W → Reads W VA (nCells vs)) (hW : ∀ W v, Fr B v2 v w W → Reads W WA (nCells ws)) :
    Calls Tryz.prog 55 #[.iface 126 (.agg #[.pointer (some ⟨B, 0, none⟩)]), .slice VA vs.length vc, .slice WA vs.length wc] w (fun e W' => ∃ v, e = .returned (.int .i64 (((belowSt G vs ws).2 : Nat) : Int)) ∧ IsB B p sl (belowSt G vs ws).1 xs v1 v v3 W' ∧ Fr B v2 v w W') := by
  have mFixed := fun W => mFixed B W
  simp only [Nat.reduceAdd] at mFixed
  obtain ⟨tl1, tl2, tl3⟩ := turnSt_all G ws
  have HT : Hid (∀ W, Below w.heap.size w W → Calls Tryz.prog 91 #[.iface 126 (.agg #[.pointer (some ⟨B, 0, none⟩)]), .slice WA vs.length wc] W fun e W' => ∃ vo, e = .returned vo ∧ ∃ v', IsB B p sl (turnSt G ws).1 xs v1 v' v3 W' ∧ Fr B v2 v' w W' ∧ W'.ownsRow w.heap.size 3 1 vo vs.length (nCells (turnSt G ws).2)) :=
    Lib.hid fun W hb => (turned_ok B p hp sl G xs v1 v2 v3 ws WA wc vs.length hlen hl hws (by omega) W (h.below hb) (fun W' v' hf' => hW W' v' ((Fr.of_below hb).trans hf'))).mono fun _ _ he => by
      obtain ⟨v', vo, e1, h1, h2, h3⟩ := he
      exact ⟨vo, e1, v', h1, (Fr.of_below hb).trans h2, own_lower h3 hb.size⟩
  have HX : Hid (∀ W v, IsB B p sl (turnSt G ws).1 xs v1 v v3 W → Fr B v2 v w W → Calls Tryz.prog 120 #[.agg #[.pointer (some ⟨B, 0, none⟩)], .int .u64 1] W fun e W' => e = .returned (.int .i64 (((turnSt G ws).1.length : Nat) : Int)) ∧ ∃ v', IsB B p sl ((turnSt G ws).1 ++ conL 1) xs v1 v' v3 W' ∧ Fr B v2 v' w W' ∧ ∀ (base m : Nat) (vo : Value) (cs : List Value), B < base → W.ownsRow base 3 1 vo m cs → W'.ownsRow base 3 1 vo m cs) :=
    Lib.hid fun W v hI hF => fixed_row B p hp sl _ xs v1 v2 v3 1 (by omega) (by omega) w W v hF hI
  have HA : Hid (∀ W v TA tc, IsB B p sl ((turnSt G ws).1 ++ conL 1) xs v1 v v3 W → Fr B v2 v w W → W.ownsRow w.heap.size 3 1 (.slice TA vs.length tc) vs.length (nCells (turnSt G ws).2) → Calls Tryz.prog 90 #[.iface 126 (.agg #[.pointer (some ⟨B, 0, none⟩)]), .slice VA vs.length vc, .slice TA vs.length tc, .int .i64 (((turnSt G ws).1.length : Nat) : Int)] W fun e W' => ∃ v' vo, e = .returned (.tuple #[vo, .int .i64 (((minusSt G vs ws).2.2 : Nat) : Int)]) ∧ IsB B p sl (minusSt G vs ws).1 xs v1 v' v3 W' ∧ Fr B v2 v' w W' ∧ W'.ownsRow w.heap.size 3 1 vo vs.length (nCells (minusSt G vs ws).2.1)) :=
    Lib.hid fun W v TA tc hI hF hO => (add_ok B p hp sl _ xs v1 v v3 vs (turnSt G ws).2 VA TA vc tc (turnSt G ws).1.length (by omega) hl (by simp [conL]) (fun x hx => by have := hvs x hx; simp [conL]; omega) (fun x hx => by have := tl3 x hx; simp [conL]; omega) (by simp [conL]; omega) W hI (fun W' v' hf' => hV W' v' (hF.trans hf')) (own_keep hI h.lt hO)).mono fun _ _ he => by
      obtain ⟨v', vo, e1, h1, h2, h3⟩ := he
      exact ⟨v', vo, e1, h1, hF.trans h2, own_lower h3 hF.size⟩
  have hml := (addSt_len ((turnSt G ws).1 ++ conL 1) (turnSt G ws).1.length (vs.zip (turnSt G ws).2) (by simp [conL])) (vs.zip (turnSt G ws).2).length (Nat.le_refl _)
  rw [List.take_length] at hml
  obtain ⟨ml1, ml2, ml3⟩ := hml
  have hzl : (vs.zip (turnSt G ws).2).length = vs.length := by rw [List.length_zip]; omega
  have HN : Hid (∀ W v, IsB B p sl (minusSt G vs ws).1 xs v1 v v3 W → Fr B v2 v w W → Calls Tryz.prog 65 #[.iface 126 (.agg #[.pointer (some ⟨B, 0, none⟩)]), .int .i64 (((minusSt G vs ws).2.2 : Nat) : Int)] W fun e W' => e = .returned (.int .i64 (((belowSt G vs ws).2 : Nat) : Int)) ∧ ∃ v', IsB B p sl (belowSt G vs ws).1 xs v1 v' v3 W' ∧ Fr B v2 v' w W') :=
    Lib.hid fun W v hI hF => (not_ok B p hp sl _ xs v1 v v3 (minusSt G vs ws).2.2 ml3 (by rw [ml1, hzl]; simp [conL]; omega) W hI).mono fun _ _ he => he.chain hF
  clear ml1 ml2 ml3 hzl
  have HLT := Lib.hid h.lt
  clear hvs hws hV hW h hf hp hlen tl1 tl2 tl3
  go_enter Tryz.func55, Tryz.ntmps55
  go_wp2_with (first | (go_at_call 91; refine (HT.out _ (Below.refl _ _)).mono ?_; rintro e w1 ⟨vt, rfl, x1, hI, hF, hO⟩; obtain ⟨TA, tc, rfl, _⟩ := own_nat hO; have HI1 := Lib.hid hI; have HF1 := Lib.hid hF; have HO1 := Lib.hid hO; clear hI hF hO) | (go_at_call 120; refine (HX.out _ _ HI1.out HF1.out).mono ?_; rintro e w2 ⟨rfl, x2, hI, hF, hO⟩; have HI2 := Lib.hid hI; have HF2 := Lib.hid hF; have HO2 := Lib.hid (hO _ _ _ _ HLT.out HO1.out); clear hI hF hO) | (go_at_call 90; refine (HA.out _ _ _ _ HI2.out HF2.out HO2.out).mono ?_; rintro e w3 ⟨x3, vo, rfl, he⟩; have HE := Lib.hid he; clear he) | (go_at_call 65; refine (HN.out _ _ HE.out.1 HE.out.2.1).mono ?_; rintro e w4 ⟨rfl, he4⟩; have HE4 := Lib.hid he4; clear he4))
  go_ret
  obtain ⟨x4, h1, h2⟩ := HE4.out
  exact ⟨x4, rfl, h1, h2⟩
/-- What Same lays. -/
def sameStep (s : List Gat × Nat) (q : Nat × Nat) : List Gat × Nat := (s.1 ++ xorL s.1.length q.1 q.2 ++ notL (s.1.length + 4) (s.1.length + 3) ++ [((5, ((s.2 : Nat) : Int), ((s.1.length + 5 : Nat) : Int), 0) : Gat)], s.1.length + 6)
def sameSt (G : List Gat) (ps : List (Nat × Nat)) : List Gat × Nat := ps.foldl sameStep (G ++ conL 1, G.length)
theorem sameSt_succ (G : List Gat) (ps : List (Nat × Nat)) (k : Nat) (h : k < ps.length) : sameSt G (ps.take (k + 1)) = sameStep (sameSt G (ps.take k)) ps[k] := by
  unfold sameSt
  rw [List.take_succ_eq_append_getElem h, List.foldl_append]
  rfl
theorem sameSt_len (G : List Gat) (ps : List (Nat × Nat)) : ∀ k, k ≤ ps.length → (sameSt G (ps.take k)).1.length = G.length + 1 + 7 * k ∧ (sameSt G (ps.take k)).2 < (sameSt G (ps.take k)).1.length := by
  intro k
  induction k with
  | zero => intro _; exact ⟨by simp [sameSt, conL], by simp [sameSt, conL]⟩
  | succ k ih =>
    intro h
    obtain ⟨h1, _⟩ := ih (by omega)
    rw [sameSt_succ G ps k (by omega)]
    refine ⟨?_, ?_⟩
    · simp only [sameStep, List.length_append, h1]; simp only [xorL, notL, List.length_cons, List.length_nil]; omega
    · simp only [sameStep, List.length_append]; simp only [xorL, notL, List.length_cons, List.length_nil]; omega
end Go.Proofs.YtkcdlbclodjjhaaGreat

/- Contract of the ring's Times over a board, where there is room. (Printed by wip/tools/gen_times.py.) -/
namespace Go.Proofs.YtkcdlbclodjjhaaGreat
open Go.RowKit

/-- What Times lays: a part, a round, all. -/
def partStep (b : Nat) (s : List Gat × List Nat) (a : Nat) : List Gat × List Nat := (s.1 ++ [((5, ((a : Nat) : Int), ((b : Nat) : Int), 0) : Gat)], s.2 ++ [s.1.length])
def partSt (G : List Gat) (b : Nat) (ns : List Nat) : List Gat × List Nat := ns.foldl (partStep b) (G, [])
theorem partSt_succ (G : List Gat) (b : Nat) (ns : List Nat) (k : Nat) (h : k < ns.length) : partSt G b (ns.take (k + 1)) = partStep b (partSt G b (ns.take k)) ns[k] := by
  unfold partSt
  rw [List.take_succ_eq_append_getElem h, List.foldl_append]
  rfl
theorem partSt_len (G : List Gat) (b : Nat) (ns : List Nat) : ∀ k, k ≤ ns.length → (partSt G b (ns.take k)).1.length = G.length + k ∧ (partSt G b (ns.take k)).2.length = k ∧ ∀ x ∈ (partSt G b (ns.take k)).2, x < (partSt G b (ns.take k)).1.length := by
  intro k
  induction k with
  | zero => intro _; exact ⟨rfl, rfl, by intro x hx; simp [partSt] at hx⟩
  | succ k ih =>
    intro h
    obtain ⟨h1, h2, h3⟩ := ih (by omega)
    rw [partSt_succ G b ns k (by omega)]
    refine ⟨?_, ?_, ?_⟩
    · simp only [partStep, List.length_append, h1, List.length_cons, List.length_nil]; omega
    · simp only [partStep, List.length_append, h2, List.length_cons, List.length_nil]
    · intro x hx
      simp only [partStep, List.length_append, List.length_cons, List.length_nil]
      rcases List.mem_append.1 hx with e | e
      · have := h3 x e; omega
      · have := List.mem_singleton.1 e; omega
def timesStep (vs : List Nat) (s : List Gat × List Nat) (k b : Nat) : List Gat × List Nat :=
  let pt := partSt s.1 b (vs.take (vs.length - k))
  if k = 0 then pt else
    let ad := addSt (pt.1 ++ conL 0) pt.1.length ((s.2.drop k).zip pt.2)
    (ad.1, s.2.take k ++ ad.2.1)
def timesSt (G : List Gat) (vs ws : List Nat) : Nat → List Gat × List Nat
  | 0 => (G, [])
  | k + 1 => timesStep vs (timesSt G vs ws k) k (ws.getD k 0)
theorem addSt_outs (G : List Gat) (c : Nat) (ps : List (Nat × Nat)) (_hc : c < G.length) : ∀ k, k ≤ ps.length → ∀ x ∈ (addSt G c (ps.take k)).2.1, x < (addSt G c (ps.take k)).1.length := by
  intro k
  induction k with
  | zero => intro _ x hx; simp [addSt] at hx
  | succ k ih =>
    intro h x hx
    have h3 := ih (by omega)
    rw [addSt_succ G c ps k (by omega)] at hx ⊢
    simp only [addStep, List.length_append] at hx ⊢
    simp only [addL, List.length_cons, List.length_nil]
    rcases List.mem_append.1 hx with e | e
    · have := h3 x e; omega
    · have := List.mem_singleton.1 e; omega
theorem addSt_all (G : List Gat) (c : Nat) (ps : List (Nat × Nat)) (hc : c < G.length) : (addSt G c ps).1.length = G.length + 9 * ps.length ∧ (addSt G c ps).2.1.length = ps.length ∧ (addSt G c ps).2.2 < (addSt G c ps).1.length ∧ ∀ x ∈ (addSt G c ps).2.1, x < (addSt G c ps).1.length := by
  have h1 := addSt_len G c ps hc ps.length (Nat.le_refl _)
  have h2 := addSt_outs G c ps hc ps.length (Nat.le_refl _)
  rw [List.take_length] at h1 h2
  exact ⟨h1.1, h1.2.1, h1.2.2, h2⟩
theorem partSt_all (G : List Gat) (b : Nat) (ns : List Nat) : (partSt G b ns).1.length = G.length + ns.length ∧ (partSt G b ns).2.length = ns.length ∧ ∀ x ∈ (partSt G b ns).2, x < (partSt G b ns).1.length := by
  have := partSt_len G b ns ns.length (Nat.le_refl _)
  rwa [List.take_length] at this
theorem timesSt_len (G : List Gat) (vs ws : List Nat) : ∀ k, k ≤ vs.length → (timesSt G vs ws k).1.length ≤ G.length + k * (10 * vs.length + 1) ∧ G.length ≤ (timesSt G vs ws k).1.length ∧ (timesSt G vs ws k).2.length = (if k = 0 then 0 else vs.length) ∧ ∀ x ∈ (timesSt G vs ws k).2, x < (timesSt G vs ws k).1.length := by
  intro k
  induction k with
  | zero => intro _; exact ⟨by simp [timesSt], by simp [timesSt], rfl, by intro x hx; simp [timesSt] at hx⟩
  | succ k ih =>
    intro h
    obtain ⟨h1, h0, h2, h3⟩ := ih (by omega)
    obtain ⟨p1, p2, p3⟩ := partSt_all (timesSt G vs ws k).1 (ws.getD k 0) (vs.take (vs.length - k))
    have hm : (vs.take (vs.length - k)).length = vs.length - k := by rw [List.length_take]; omega
    rw [hm] at p1 p2
    have hmul : (k + 1) * (10 * vs.length + 1) = k * (10 * vs.length + 1) + (10 * vs.length + 1) := Nat.succ_mul _ _
    simp only [timesSt, timesStep]
    by_cases hk : k = 0
    · subst hk
      simp only [if_true]
      refine ⟨by omega, by omega, by simp only [Nat.zero_add, Nat.one_ne_zero, if_false]; omega, p3⟩
    · rw [if_neg hk, if_neg (by omega)]
      rw [if_neg hk] at h2
      obtain ⟨a1, a2, a3, a4⟩ := addSt_all ((partSt (timesSt G vs ws k).1 (ws.getD k 0) (vs.take (vs.length - k))).1 ++ conL 0) (partSt (timesSt G vs ws k).1 (ws.getD k 0) (vs.take (vs.length - k))).1.length (((timesSt G vs ws k).2.drop k).zip (partSt (timesSt G vs ws k).1 (ws.getD k 0) (vs.take (vs.length - k))).2) (by simp [conL])
      have hz : (((timesSt G vs ws k).2.drop k).zip (partSt (timesSt G vs ws k).1 (ws.getD k 0) (vs.take (vs.length - k))).2).length = vs.length - k := by rw [List.length_zip, List.length_drop]; omega
      rw [hz, List.length_append] at a1
      rw [hz] at a2
      simp only [conL, List.length_cons, List.length_nil] at a1
      refine ⟨by simp only [conL]; omega, by simp only [conL]; omega, ?_, ?_⟩
      · rw [List.length_append, List.length_take]; simp only [conL] at a2 ⊢; omega
      · intro x hx
        rcases List.mem_append.1 hx with e | e
        · have := h3 x (List.mem_of_mem_take e); simp only [conL]; omega
        · exact a4 x e
theorem getD_at {l : List Nat} {k : Nat} (h : k < l.length) : l.getD k 0 = l[k] := by
  rw [List.getD_eq_getElem?_getD, List.getElem?_eq_getElem h]; rfl
theorem own_form {w : World} {base : Nat} {e : TypeId} {size n : Nat} {v : Value} {xs : List Value} (h : w.ownsRow base e size v n xs) (hn : 0 < n) : ∃ g cap, v = .slice (some ⟨g, 0, none⟩) n cap ∧ base ≤ g ∧ n ≤ cap := by
  rcases h.2 with ⟨_, h0⟩ | ⟨g, cap, cur, rfl, hb, _, hc, _⟩
  · omega
  · exact ⟨g, cap, rfl, hb, hc⟩
theorem own_empty (w : World) (e : TypeId) : (w.alloc (.cells #[] e)).ownsRow w.heap.size e 1 (.slice (some ⟨w.heap.size, 0, none⟩) 0 0) 0 [] :=
  ⟨rfl, .inr ⟨w.heap.size, 0, #[], rfl, Nat.le_refl _, heap_alloc_new w _, Nat.le_refl _, Nat.zero_le _, rfl, rfl⟩⟩
theorem reads_get {w W : World} {ad : Addr} {l : List Nat} (h : Reads w (some ad) (nCells l)) (hb : Below w.heap.size w W) : ∀ (j : Nat) (u : Value), (nCells l)[j]? = some u → W.cell? (ad.add j) = some u := fun j u hj => by
  rcases h.below hb with h | ⟨ad', h1, h2⟩
  · rw [h] at hj; simp at hj
  · injection h1 with h1; subst h1; exact h2 j u hj
theorem one_nat (l : List Nat) : ∀ u ∈ nCells l, u.oneCell' = true := by intro u hu; simp [nCells] at hu; obtain ⟨y, _, rfl⟩ := hu; rfl
theorem reads_drop {w : World} {g k : Nat} {l : List Nat} (h : Reads w (some ⟨g, 0, none⟩) (nCells l)) : Reads w (some ⟨g, k, none⟩) (nCells (l.drop k)) := by
  refine .inr ⟨_, rfl, fun j u hj => ?_⟩
  rcases h with h | ⟨ad, h1, h2⟩
  · have : l = [] := by simpa [nCells] using h
    subst this; simp [nCells] at hj
  · injection h1 with h1
    subst h1
    have hj2 : (nCells l)[k + j]? = some u := by rw [← hj]; simp [nCells, List.getElem?_drop]
    have := h2 (k + j) u hj2
    have e : ((⟨g, 0, none⟩ : Addr).add (k + j)) = (⟨g, k, none⟩ : Addr).add j := by unfold Addr.add; split <;> split <;> simp_all <;> omega
    rw [← e]; exact this
theorem reads_take {w : World} {A : Option Addr} {k : Nat} {l : List Nat} (h : Reads w A (nCells l)) : Reads w A (nCells (l.take k)) := by
  rcases h with h | ⟨ad, h1, h2⟩
  · have : l = [] := by simpa [nCells] using h
    subst this; exact .inl (by simp [nCells])
  · refine .inr ⟨ad, h1, fun j u hj => h2 j u ?_⟩
    have hj' : ((nCells l).take k)[j]? = some u := by rw [← hj]; simp [nCells, List.map_take]
    rw [List.getElem?_take] at hj'
    split at hj'
    · exact hj'
    · cases hj'
theorem own_apart {w W : World} {base base' : Nat} {e e' : TypeId} {size size' n n' : Nat} {v v' : Value} {xs xs' : List Value} (h : w.ownsRow base e size v n xs) (h' : W.ownsRow base' e' size' v' n' xs') (hb : w.heap.size ≤ base') : v.ownBlock = none ∨ v.ownBlock ≠ v'.ownBlock := by
  cases e1 : v.ownBlock with
  | none => exact .inl rfl
  | some q =>
    refine .inr fun e2 => ?_
    have h1 := (h.lt q e1).2
    have h2 := (h'.lt q e2.symm).1
    omega
set_option maxHeartbeats 8000000 in
set_option maxRecDepth 100000 in
theorem times_ok (B p : Nat) (hp : 1 < p) (sl : List Slo) (G : List Gat) (xs : List Exi) (v1 v2 v3 : Value) (vs ws : List Nat) (VA WA : Option Addr) (vc wc : Nat) (hlen : ws.length = vs.length) (hl : vs.length ≤ 65536) (hvs : ∀ x ∈ vs, x < G.length) (hws : ∀ x ∈ ws, x < G.length) (hcap : vs.length ≤ vc) (hf : G.length + vs.length * (10 * vs.length + 1) ≤ 65536) (w : World) (h : IsB B p sl G xs v1 v2 v3 w) (hV : ∀ W v, Fr B v2 v w W → Reads W VA (nCells vs)) (hW : ∀ W v, Fr B v2 v w W → Reads W WA (nCells ws)) :
    Calls Tryz.prog 52 #[.iface 126 (.agg #[.pointer (some ⟨B, 0, none⟩)]), .slice VA vs.length vc, .slice WA vs.length wc] w fun e W' => ∃ v vo, e = .returned vo ∧ IsB B p sl (timesSt G vs ws vs.length).1 xs v1 v v3 W' ∧ Fr B v2 v w W' ∧ W'.ownsRow w.heap.size 3 1 vo vs.length (nCells (timesSt G vs ws vs.length).2) := by
  have mFixed := fun W => mFixed B W
  have mProduct := fun W => mProduct B W
  have nProduct := fun W => nProduct B W
  simp only [Nat.reduceAdd] at mFixed mProduct nProduct
  have HL := Lib.hid (timesSt_len G vs ws)
  have HVS := Lib.hid hvs; have HWS := Lib.hid hws; have HV := Lib.hid hV; have HW := Lib.hid hW; have HB := Lib.hid h; have HF := Lib.hid hf; have HLT := Lib.hid h.lt; have HP := Lib.hid hp
  have HE := Lib.hid hlen
  have HH : Hid (timesSt G vs ws 0 = (G, [])) := Lib.hid rfl
  clear hvs hws hV hW h hf hp hlen
  go_enter Tryz.func52, Tryz.ntmps52
  go_wp2
  go_loopg [7, 17] vs.length (fun g o' i' wr => ∃ (k : Nat) (Gk : List Gat) (ok : List Nat) (vo vk : Value), k ≤ vs.length ∧ g = vs.length - k ∧ o' = vo ∧ i' = .int .i64 k ∧ Hid (timesSt G vs ws k = (Gk, ok)) ∧ wr.ownsRow w.heap.size 3 1 vo ok.length (nCells ok) ∧ IsB B p sl Gk xs v1 vk v3 wr ∧ Fr B v2 vk w wr)
  case atStart => exact ⟨0, G, [], .slice none 0 0, v2, Nat.zero_le _, rfl, rfl, rfl, HH, World.ownsRow_nil _ _ _ _, HB.out, Fr.refl _ _ _⟩
  case round =>
    rename World => wo
    obtain ⟨k, Gk, ok, vo, vk, hk, rfl, rfl, rfl, hst, hown, hIk, hFk⟩ := hrel
    have HOO := Lib.hid hown; have HIO := Lib.hid hIk; have HFO := Lib.hid hFk
    clear hown hIk hFk
    by_cases hlt : k < vs.length
    · have hlw : k < ws.length := by have := HE.out; omega
      obtain ⟨wad, hwa, q1⟩ := (HW.out _ _ HFO.out).nat k hlw
      obtain ⟨vad, hva, _⟩ := (HV.out _ _ HFO.out).nat k hlt
      have hL := HL.out k (by omega)
      rw [hst.out] at hL
      simp only at hL
      have hb := HWS.out _ (List.getElem_mem hlw)
      have hgd : ws.getD k 0 = ws[k] := getD_at hlw
      obtain ⟨m, hm⟩ : ∃ m, vs.length = m + k := ⟨vs.length - k, by omega⟩
      have hm0 : 0 < m := by omega
      have hsub : (vs.length : Int) - (k : Int) = (m : Int) := by omega
      have HK1 : Hid (timesSt G vs ws (k + 1) = timesStep vs (Gk, ok) k ws[k]) := Lib.hid (by show timesStep vs (timesSt G vs ws k) k (ws.getD k 0) = _; rw [hst.out, hgd])
      clear hgd
      generalize ws[k] = b at *
      have hLm : (vs.take m).length = m := by rw [List.length_take]; omega
      have hpl : vs.take (vs.length - k) = vs.take m := by rw [hm, Nat.add_sub_cancel]
      have hmul : (k + 1) * (10 * vs.length + 1) ≤ vs.length * (10 * vs.length + 1) := Nat.mul_le_mul_right _ (by omega)
      have hmul2 : (k + 1) * (10 * vs.length + 1) = k * (10 * vs.length + 1) + (10 * vs.length + 1) := Nat.succ_mul _ _
      have HG : Hid (Gk.length + 10 * m + 1 ≤ 65536 ∧ G.length ≤ Gk.length ∧ ok.length = (if k = 0 then 0 else vs.length) ∧ (∀ x ∈ ok, x < Gk.length) ∧ b < G.length) := Lib.hid ⟨by have := HF.out; omega, hL.2.1, hL.2.2.1, hL.2.2.2, hb⟩
      have HMK := Lib.hid hm
      have i3 : ¬ (vc : Int) < (m : Int) := by omega
      have HPL := Lib.hid hpl
      have HLM := Lib.hid hLm
      have HPS := Lib.hid (partSt_succ Gk b (vs.take m))
      have HPN := Lib.hid (partSt_len Gk b (vs.take m))
      have HWR : Hid (w.heap.size ≤ wo.heap.size) := Lib.hid HFO.out.size
      clear hL hb hpl hLm hmul hmul2 hst hm
      have HVA := Lib.hid hva
      subst hva
      subst hwa
      have i1 : (0 : Int) ≤ (k : Int) := by omega
      have i2 : (k : Int) < (vs.length : Int) := by omega
      have i4 : ¬ (m : Int) < 0 := by omega
      go_wp2
      go_loopg [10, 29] m (fun g p' j' wr => ∃ (j : Nat) (Gj : List Gat) (pj : List Nat) (vp vj : Value), j ≤ m ∧ g = m - j ∧ p' = vp ∧ j' = .int .i64 j ∧ Hid (partSt Gk b ((vs.take m).take j) = (Gj, pj)) ∧ wr.ownsRow wo.heap.size 3 1 vp j (nCells pj) ∧ IsB B p sl Gj xs v1 vj v3 wr ∧ Fr B v2 vj w wr ∧ wr.ownsRow w.heap.size 3 1 u7 ok.length (nCells ok) ∧ wo.heap.size ≤ wr.heap.size)
      case atStart => exact ⟨0, Gk, [], .slice none 0 0, vk, Nat.zero_le _, rfl, rfl, rfl, Lib.hid rfl, World.ownsRow_nil _ _ _ _, HIO.out, HFO.out, HOO.out, Nat.le_refl _⟩
      case round =>
        obtain ⟨j, Gj, pj, vp, vj, hj, rfl, rfl, rfl, hpt, hown, hIj, hFj, hOj, hzj⟩ := hrel
        have HO0 := Lib.hid hown; have HI0 := Lib.hid hIj; have HF0 := Lib.hid hFj; have HV0 := Lib.hid hOj
        clear hown hIj hFj hOj
        by_cases hltj : j < m
        · have hjv : j < vs.length := by have := HMK.out; omega
          obtain ⟨vad', e1, q2⟩ := (HV.out _ _ HF0.out).nat j hjv
          injection e1 with e1
          subst e1
          have hpn := HPN.out j (by have := HLM.out; omega)
          have hps := HPS.out j (by have := HLM.out; omega)
          rw [hpt.out] at hpn hps
          simp only at hpn
          have hav := HVS.out _ (List.getElem_mem hjv)
          have hge : (vs.take m)[j]'(by have := HLM.out; omega) = vs[j] := by rw [List.getElem_take]
          rw [hge] at hps
          clear hge
          have hg := HG.out
          have hm9 := HMK.out
          generalize vs[j] = a at *
          have hpr : Hid (Calls Tryz.prog 122 #[.agg #[.pointer (some ⟨B, 0, none⟩)], .int .i64 ((a : Nat) : Int), .int .i64 ((b : Nat) : Int)] wr fun e W' => e = .returned (.int .i64 ((Gj.length : Nat) : Int)) ∧ ∃ v', IsB B p sl (Gj ++ [((5, ((a : Nat) : Int), ((b : Nat) : Int), 0) : Gat)]) xs v1 v' v3 W' ∧ Fr B v2 v' w W' ∧ W'.ownsRow wo.heap.size 3 1 u10 j (nCells pj) ∧ W'.ownsRow w.heap.size 3 1 u7 ok.length (nCells ok) ∧ wo.heap.size ≤ W'.heap.size) :=
            Lib.hid ((product_ok B p (by have := HP.out; omega) sl Gj xs v1 vj v3 a b (by omega) (by omega) (by omega) wr HI0.out).mono fun _ _ he => by
              obtain ⟨e1, v', h1, h2⟩ := he
              exact ⟨e1, v', h1, HF0.out.trans h2, h2.own_int HI0.out.h2 HO0.out (Nat.lt_of_lt_of_le HLT.out HWR.out), h2.own_int HI0.out.h2 HV0.out HLT.out, Nat.le_trans hzj h2.size⟩)
          have HPT : Hid (partSt Gk b ((vs.take m).take (j + 1)) = (Gj ++ [((5, ((a : Nat) : Int), ((b : Nat) : Int), 0) : Gat)], pj ++ [Gj.length])) := Lib.hid hps
          clear hps hpn hav hg hm9
          have j1 : (0 : Int) ≤ (j : Int) := by omega
          have j2 : (j : Int) < (m : Int) := by omega
          go_wp2_with (first | (go_at_call 122; refine hpr.out.mono ?_; rintro e w1 ⟨rfl, x1, hI, hF, hO, hV1, hz1⟩; have HI1 := Lib.hid hI; have HF1 := Lib.hid hF; have HO1 := Lib.hid hO; have HV1 := Lib.hid hV1; have HZ1 := Lib.hid hz1; clear hI hF hO hV1 hz1) | (at_builtin; refine list_append_own (W0 := w1) (below_snoc (Below.refl _ _) _) wo.heap.size rfl _ _ 38 3 _ 8 rfl Tryz.underlying38 infoInt rfl (by decide) u10 j _ (.int .i64 ((Gj.length : Nat) : Int)) rfl _ rfl (by simp) rfl HO1.out (by have h5 := HZ1.out; omega) (by omega) ?_; intro v9 w9 hown9 hg9; have HO9 := Lib.hid hown9; have HI9 := Lib.hid (HI1.out.grown HB.out HO1.out HWR.out hg9); have HF9 := Lib.hid (HF1.out.grown HO1.out HWR.out hg9); have HZ9 := Lib.hid (Nat.le_trans HZ1.out hg9.size); have HV9 := Lib.hid (HV1.out.kept hg9 (own_apart HOO.out HO1.out (Nat.le_refl _))); clear hown9 hg9))
          go_roundg (m - (j + 1))
          case measure => omega
          case rel => exact ⟨j + 1, _, pj ++ [Gj.length], _, _, by omega, rfl, rfl, by go_num, HPT, by rw [nCells_snoc]; exact HO9.out, HI9.out, HF9.out, HV9.out, by have h5 := HZ9.out; omega⟩
        · obtain rfl : j = m := by omega
          have hpt' := hpt.out
          rw [List.take_of_length_le (by rw [HLM.out]; exact Nat.le_refl _)] at hpt'
          have hpa := partSt_all Gk b (vs.take j)
          rw [hpt', HLM.out] at hpa
          simp only at hpa
          have HPA := Lib.hid hpa
          have HPT := Lib.hid hpt'
          clear hpa hpt'
          by_cases hk0 : k = 0
          · have c1 : ((k : Int) == 0) = true := by simp [hk0]
            have HSU : Hid (timesSt G vs ws (k + 1) = (Gj, pj)) := Lib.hid (by rw [HK1.out]; unfold timesStep; rw [HPL.out]; simp only [HPT.out]; rw [if_pos hk0])
            clear i1
            go_wp2
            go_roundg (vs.length - (k + 1))
            case measure => omega
            case rel => exact ⟨k + 1, Gj, pj, _, _, by omega, rfl, rfl, by go_num, HSU, by rw [HPA.out.2.1]; exact own_lower HO0.out HWR.out, HI0.out, HF0.out⟩
          · have c1 : ((k : Int) == 0) = false := by simp; omega
            have hok := HG.out.2.2.1
            rw [if_neg hk0] at hok
            obtain ⟨g, cap, rfl, hgb, hcp⟩ := own_form HV0.out (by have := HMK.out; omega)
            obtain ⟨g2, cap2, rfl, hgb2, hcp2⟩ := own_form HO0.out hm0
            have i5 : (k : Int) ≤ (vs.length : Int) := by omega
            have i6 : ¬ (vs.length : Int) < (k : Int) := by omega
            have hdl : (ok.drop k).length = j := by rw [List.length_drop, hok]; have := HMK.out; omega
            have hpj := HPA.out.2.1
            have hGj := HPA.out.1
            have hgg := HG.out
            have HX : Hid (∀ W, Below wr.heap.size wr W → Calls Tryz.prog 120 #[.agg #[.pointer (some ⟨B, 0, none⟩)], .int .u64 0] W fun e W' => e = .returned (.int .i64 ((Gj.length : Nat) : Int)) ∧ ∃ v', IsB B p sl (Gj ++ conL 0) xs v1 v' v3 W' ∧ Fr B v2 v' w W' ∧ W'.ownsRow w.heap.size 3 1 (.slice (some ⟨g, 0, none⟩) ok.length cap) ok.length (nCells ok) ∧ W'.ownsRow wo.heap.size 3 1 (.slice (some ⟨g2, 0, none⟩) j cap2) j (nCells pj)) :=
              Lib.hid fun W hb => (fixed_row B p HP.out sl Gj xs v1 v2 v3 0 (by omega) (by omega) w W vj (HF0.out.below hb) (HI0.out.below hb)).mono fun _ _ he => ⟨he.1, by
                obtain ⟨_, v', h1, h2, h3⟩ := he
                exact ⟨v', h1, h2, h3 _ _ _ _ HLT.out (own_below HV0.out hb), h3 _ _ _ _ (Nat.lt_of_lt_of_le HLT.out HWR.out) (own_below HO0.out hb)⟩⟩
            have HAD : ∃ s, s = addSt (Gj ++ conL 0) Gj.length ((ok.drop k).zip pj) := ⟨_, rfl⟩
            obtain ⟨⟨Ga, oa, ca⟩, had⟩ := HAD
            have hal := addSt_all (Gj ++ conL 0) Gj.length ((ok.drop k).zip pj) (by simp [conL])
            rw [← had, List.length_zip, hdl, hpj, Nat.min_self] at hal
            simp only at hal
            have HA : Hid (∀ W v, IsB B p sl (Gj ++ conL 0) xs v1 v v3 W → Fr B v2 v w W → W.ownsRow w.heap.size 3 1 (.slice (some ⟨g, 0, none⟩) ok.length cap) ok.length (nCells ok) → W.ownsRow wo.heap.size 3 1 (.slice (some ⟨g2, 0, none⟩) j cap2) j (nCells pj) →
                Calls Tryz.prog 90 #[.iface 126 (.agg #[.pointer (some ⟨B, 0, none⟩)]), .slice (some ⟨g, k, none⟩) j (cap - k), .slice (some ⟨g2, 0, none⟩) j cap2, .int .i64 ((Gj.length : Nat) : Int)] W fun e W' => ∃ v' g3 c3, e = .returned (.tuple #[.slice (some ⟨g3, 0, none⟩) j c3, .int .i64 ((ca : Nat) : Int)]) ∧ IsB B p sl Ga xs v1 v' v3 W' ∧ Fr B v2 v' w W' ∧ W'.ownsRow w.heap.size 3 1 (.slice (some ⟨g, 0, none⟩) ok.length cap) ok.length (nCells ok) ∧ W'.ownsRow w.heap.size 3 1 (.slice (some ⟨g3, 0, none⟩) j c3) j (nCells oa)) :=
              Lib.hid fun W v hI hF hO hP => by
                have hk1 : ∀ W' v', Fr B v v' W W' → Reads W' (some ⟨g, k, none⟩) (nCells (ok.drop k)) := fun W' v' hf => reads_drop (own_keep hI HLT.out hO W' v' hf)
                have h0 := add_ok B p HP.out sl (Gj ++ conL 0) xs v1 v v3 (ok.drop k) pj (some ⟨g, k, none⟩) (some ⟨g2, 0, none⟩) (cap - k) cap2 Gj.length (by rw [hdl, hpj]) (by omega) (by simp [conL]) (fun x hx => by have := hgg.2.2.2.1 x (List.mem_of_mem_drop hx); simp [conL]; omega) (fun x hx => by have := HPA.out.2.2 x hx; simp [conL]; omega) (by simp [conL]; omega) W hI hk1 (own_keep hI (Nat.lt_of_lt_of_le HLT.out HWR.out) hP)
                rw [← had, hdl] at h0
                refine h0.mono fun _ _ he => ?_
                obtain ⟨v', vo, e1, h1, h2, h3⟩ := he
                obtain ⟨g3, c3, rfl, hg3, hc3⟩ := own_form h3 hm0
                exact ⟨v', g3, c3, e1, h1, hF.trans h2, h2.own_int hI.h2 hO HLT.out, own_lower h3 hF.size⟩
            have HSU : Hid (timesSt G vs ws (k + 1) = (Ga, ok.take k ++ oa)) := Lib.hid (by rw [HK1.out]; unfold timesStep; rw [HPL.out]; simp only [HPT.out]; rw [if_neg hk0, ← had])
            have HOA : Hid (oa.length = j) := Lib.hid hal.2.1
            have HTK : Hid ((ok.take k).length = k) := Lib.hid (by rw [List.length_take, hok]; omega)
            have HKV : Hid (k + j = vs.length) := Lib.hid (by have := HMK.out; omega)
            have hcpk : ¬ (cap : Int) < (k : Int) := by omega
            have hjk : vs.length - k = j := by have := HMK.out; omega
            have i7 : ¬ (cap : Int) < (vs.length : Int) := by omega
            have i8 : ¬ cap = k := by omega
            have HK0 : Hid (0 < k) := Lib.hid (by omega)
            have i9 : k ≤ vs.length := by omega
            have i10 : k ≤ cap := by omega
            rw [hok] at HX HA HV0 hcp ⊢
            have HOK := Lib.hid hok
            clear hdl hpj hGj hgg had hal hok hk0 HI0 HF0 HO0 HV0 hgb hgb2 hcp hcp2
            go_upto_region 13 with fail
            go_region_held3 (fun _ => True) (trivial) (first | (go_at_call 120; refine (HX.out _ (by repeat (first | exact Below.refl _ _ | refine Below.drew ?_ | refine Below.alloc ?_ (by simp) _))).mono ?_; rintro e w1 ⟨rfl, x1, hI, hF, hO, hP⟩; have HI1 := Lib.hid hI; have HF1 := Lib.hid hF; have HO1 := Lib.hid hO; have HP1 := Lib.hid hP; clear hI hF hO hP) | (go_at_call 90; refine (HA.out _ _ HI1.out HF1.out HO1.out HP1.out).mono ?_; rintro e w2 ⟨x2, g3, c3, rfl, hI, hF, hO, hP⟩; have HI2 := Lib.hid hI; have HF2 := Lib.hid hF; have HO2 := Lib.hid hO; have HP2 := Lib.hid hP; clear hI hF hO hP))
            all_goals go_wp2_with (first
              | (at_builtin; refine app_slice w2.heap.size rfl _ _ 38 3 _ 8 rfl Tryz.underlying38 infoInt rfl (by decide) _ k (nCells (ok.take k)) (nCells oa) rfl ⟨g3, 0, none⟩ j c3 rfl (by unfold nCells; rw [List.length_map]; exact HOA.out) (reads_get (own_reads_at HP2.out) HBM.out) (one_nat _) HOM.out HSM.out (by have h5 := HKV.out; omega) ?_; intro v4 w4 hown4 hg4; have HO4 := Lib.hid hown4; have HI4 := Lib.hid ((HI2.out.below HBM.out).grown HB.out HOM.out HWM.out hg4); have HF4 := Lib.hid ((HF2.out.below HBM.out).grown HOM.out HWM.out hg4); clear hown4 hg4)
              | (at_builtin; refine app_slice w2.heap.size rfl _ _ 38 3 _ 8 rfl Tryz.underlying38 infoInt rfl (by decide) _ 0 [] (nCells (ok.take k)) rfl ⟨g, 0, none⟩ k cap rfl (by unfold nCells; rw [List.length_map]; exact HTK.out) (reads_get (reads_take (own_reads_at HO2.out)) ((Below.refl _ _).alloc (Nat.le_refl _) _)) (one_nat _) (own_empty w2 _) (by simp) (by omega) ?_; intro vm wm hownm hgm; have HBM := Lib.hid (((Below.refl w2.heap.size w2).alloc (Nat.le_refl _) (.cells #[] 3)).grown hgm (by simp) (fun q hq => by cases hq; exact Nat.le_refl _)); have HSM := Lib.hid HBM.out.size; have hownk : wm.ownsRow w2.heap.size 3 1 vm k (nCells (ok.take k)) := (by simpa using hownm); obtain ⟨gm, cm, rfl, _, _⟩ := own_form hownk HK0.out; have HOM := Lib.hid hownk; have HWM := Lib.hid HF2.out.size; clear hownm hgm hownk))
            all_goals go_roundg (vs.length - (k + 1))
            all_goals first
              | omega
              | exact ⟨k + 1, Ga, ok.take k ++ oa, _, _, by omega, rfl, rfl, by go_num, HSU, by rw [show (ok.take k ++ oa).length = k + j by rw [List.length_append, HTK.out, HOA.out], show nCells (ok.take k ++ oa) = nCells (ok.take k) ++ nCells oa by simp [nCells]]; exact own_lower HO4.out HWM.out, HI4.out, HF4.out⟩
    · obtain rfl : k = vs.length := by omega
      have HST := hst
      clear hst
      go_wp2
      go_ret
      have hol := (HL.out vs.length (Nat.le_refl _)).2.2.1
      rw [HST.out] at hol
      simp only at hol
      have hol2 : ok.length = vs.length := by
        rw [hol]; split
        · omega
        · rfl
      refine ⟨vk, _, rfl, ?_, HFO.out, ?_⟩
      · rw [HST.out]; exact HIO.out
      · rw [HST.out]; rw [← hol2]; exact HOO.out
end Go.Proofs.YtkcdlbclodjjhaaGreat
