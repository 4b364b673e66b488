/- Contracts of the reader's next. -/
import Derived.Test.YtaccooeodimdaaaDoorTokE
import Derived.Test.YtaccooeodimdaaaDoorTokF
namespace Go.Proofs.YtaccooeodimdaaaDoor
open Go.RowKit

/-- The word that begins at i: its kind, its text, where it ends; none: no word begins so. -/
def rawTok (s : ByteArray) (i : Nat) : Option (Int × ByteArray × Nat) :=
  let c : Int := ((s.data.toList.getD i 0).toNat : Int)
  if isLetter c then some (1, s.extract i (spanEnd isWithin s.data.toList i), spanEnd isWithin s.data.toList i)
  else if isDigit c then some (2, s.extract i (spanEnd isDigit s.data.toList i), spanEnd isDigit s.data.toList i)
  else if Lib.hasPrefix (s.data.toList.drop i) [61, 61] then some (3, ⟨#[61, 61]⟩, i + 2)
  else if isSign c then some (3, s.extract i (i + 1), i + 1)
  else none
def nextErr (k : Int) (l : List UInt8) (a : Int) : Int := if chkTok k l a = 0 then 0 else 3
def NextPost (b : Nat) (s : ByteArray) (i : Nat) (w : World) (e : Ending) (w' : World) : Prop :=
  ∃ k t j err, e = .returned (.tuple #[.agg #[.int .i64 k, .string t, .int .i64 i], .int .i64 err]) ∧ IsR w' b s j ∧ w.grownBy w' (some b) ∧
    ((rawTok s i = none ∧ err = 4 ∧ j = i) ∨ (rawTok s i = some (k, t, j) ∧ err = nextErr k t.data.toList i))
theorem chk_cases (k : Int) (l : List UInt8) (a : Int) : chkTok k l a = 0 ∨ chkTok k l a = 4 := by unfold chkTok; split <;> simp
theorem getD_i {s : ByteArray} {i : Nat} (h : i < s.size) : (s.data.toList.getD i 0) = s[i] := by
  rw [List.getD_eq_getElem?_getD, List.getElem?_eq_getElem (by rw [data_len]; exact h)]; rfl
theorem getD_box {w : World} {b : Nat} {o1 o2 : Obj} {s : ByteArray} {i : Nat} (h : IsR w b s i) : IsR ((w.alloc o1).alloc o2) b s i := by
  have hb : b < w.heap.size := (Array.getElem?_eq_some_iff.1 h).1
  have h' : w.heap[b]? = _ := h
  unfold IsR
  rw [Below.heap_alloc _ _ _ (by simp; omega), Below.heap_alloc _ _ _ hb]
  exact h'

theorem heap_new2 (w : World) (o1 o2 : Obj) (nq : Nat) : (((w.alloc o1).alloc o2).drewN nq).heap[w.heap.size]? = some o1 ∧ (((w.alloc o1).alloc o2).drewN nq).heap[w.heap.size + 1]? = some o2 := by
  refine ⟨?_, ?_⟩
  · show ((w.alloc o1).alloc o2).heap[w.heap.size]? = _
    rw [Below.heap_alloc _ _ _ (by simp)]
    exact heap_alloc_new w o1
  · have := heap_alloc_new (w.alloc o1) o2
    simpa using this
/-- What is known of the two boxes behind a call that turns block b alone. -/
theorem boxes {w w1 : World} {o1 o2 : Obj} {nq b : Nat} (hb : b < w.heap.size) (hg : (((w.alloc o1).alloc o2).drewN nq).grownBy w1 (some b)) : w1.heap[w.heap.size]? = some o1 ∧ w1.heap[w.heap.size + 1]? = some o2 := by
  have h := heap_new2 w o1 o2 nq
  have hs : (((w.alloc o1).alloc o2).drewN nq).heap.size = w.heap.size + 2 := by simp
  exact ⟨(hg.block _ (by omega) (by intro h; injection h; omega)).trans h.1, (hg.block _ (by omega) (by intro h; injection h; omega)).trans h.2⟩
theorem cells3 {w : World} {g : Nat} {x y z : Value} {t : TypeId} (h : w.heap[g]? = some (.cells #[x, y, z] t (0, 0))) :
    w.cell? ⟨g, 0, none⟩ = some x ∧ w.cell? ⟨g, 1, none⟩ = some y ∧ w.cell? ⟨g, 2, none⟩ = some z ∧ w.frozen? ⟨g, 0, none⟩ = false ∧ w.frozen? ⟨g, 1, none⟩ = false ∧ w.frozen? ⟨g, 2, none⟩ = false := by
  refine ⟨by rw [cell_of_row w g 0 _ _ _ h]; rfl, by rw [cell_of_row w g 1 _ _ _ h]; rfl, by rw [cell_of_row w g 2 _ _ _ h]; rfl, ?_, ?_, ?_⟩ <;> simp [World.frozen?, h]

theorem set2 {w : World} {g : Nat} {x y z : Value} {t : TypeId} (h : w.heap[g]? = some (.cells #[x, y, z] t (0, 0))) (x' y' : Value) : ((w.setCell ⟨g, 0, none⟩ x').setCell ⟨g, 1, none⟩ y').heap[g]? = some (.cells #[x', y', z] t (0, 0)) := by
  simp [World.setCell, Array.getElem?_modify, h]
theorem set2_far {w : World} {g k : Nat} {o : Obj} (h : w.heap[k]? = some o) (hne : k ≠ g) (x' y' : Value) : ((w.setCell ⟨g, 0, none⟩ x').setCell ⟨g, 1, none⟩ y').heap[k]? = some o := by
  rw [Below.heap_setCell _ _ _ _ hne, Below.heap_setCell _ _ _ _ hne]; exact h
theorem set3_far {w : World} {g k : Nat} {o : Obj} (h : w.heap[k]? = some o) (hne : k ≠ g) (x y z : Value) : (((w.setCell ⟨g, 0, none⟩ x).setCell ⟨g, 1, none⟩ y).setCell ⟨g, 2, none⟩ z).heap[k]? = some o := by
  rw [Below.heap_setCell _ _ _ _ hne, Below.heap_setCell _ _ _ _ hne, Below.heap_setCell _ _ _ _ hne]; exact h
theorem grown_far {w w' : World} {b g : Nat} (h : w.grownBy w' (some b)) (hg : w.heap.size ≤ g) (j : Nat) (u : Value) : w.grownBy (w'.setCell ⟨g, j, none⟩ u) (some b) :=
  ⟨h.os, h.tape, h.output, by simpa [World.setCell] using h.size, fun k hk hne => by rw [Below.heap_setCell _ _ _ _ (by simp; omega)]; exact h.block k hk hne⟩
theorem grown_below {w w1 w2 : World} {b : Nat} (h : w.grownBy w1 (some b)) (k : Below w1.heap.size w1 w2) : w.grownBy w2 (some b) :=
  ⟨k.os.trans h.os, k.tape.trans h.tape, k.output.trans h.output, Nat.le_trans h.size k.size, fun i hi hne => (k.block i (Nat.lt_of_lt_of_le hi h.size)).trans (h.block i hi hne)⟩
theorem grown_start (w : World) (o1 o2 : Obj) (nq b : Nat) : w.grownBy (((w.alloc o1).alloc o2).drewN nq) (some b) :=
  grown_drewN (World.grownBy.trans (World.grownBy_alloc w o1 _) (World.grownBy_alloc _ o2 _)) nq
theorem err_good {k : Int} {l : List UInt8} {a : Int} (h : chkTok k l a = 0) : (0 : Int) = nextErr k l a := by unfold nextErr; rw [if_pos h]
theorem err_bad {k : Int} {l : List UInt8} {a : Int} (h : chkTok k l a = 4) : (3 : Int) = nextErr k l a := by unfold nextErr; rw [if_neg (by omega)]

set_option maxRecDepth 100000 in
theorem next_letter (b : Nat) (s : ByteArray) (hs : s.size ≤ 9223372036854775807) (i : Nat) (hi : i < s.size) (w : World) (hR : IsR w b s i) (hL : isLetter (s[i].toNat : Int) = true) :
    Calls Tryd.prog 28 #[.pointer (some ⟨b, 0, none⟩)] w (NextPost b s i w) := by
  have hc0 := hR.c0
  have hc1 := hR.c1
  have hb : b < w.heap.size := (Array.getElem?_eq_some_iff.1 hR).1
  have HR := Lib.hid hR; clear hR
  have hlet := fun W => letter_any (s[i].toNat : Int) W
  rw [hL] at hlet
  have HT := Lib.hid hlet; clear hlet
  have hraw : rawTok s i = some (1, s.extract i (spanEnd isWithin s.data.toList i), spanEnd isWithin s.data.toList i) := by unfold rawTok; rw [getD_i hi]; simp only [*, if_true]
  have HW := Lib.hid hraw; clear hraw
  have HS := Lib.hid hs; clear hs
  clear hL
  have hk : ∀ W, Calls Tryd.prog 16 #[.agg #[.int .i64 1, .string (s.extract i (spanEnd isWithin s.data.toList i)), .int .i64 i]] W fun e w' => e = .returned (.int .i64 (chkTok 1 (s.extract i (spanEnd isWithin s.data.toList i)).data.toList i)) ∧ Below W.heap.size W w' := fun W => check_any 1 (s.extract i (spanEnd isWithin s.data.toList i)) (by have := HS.out; rw [ByteArray.size_extract]; omega) i W
  go_enter Tryd.func28, Tryd.ntmps28
  go_wp2
  go_quiet (fail)
  go_wp2_with (first | (go_at_call 40; refine (HT.out _).mono ?_; rintro e w' ⟨rfl, rfl⟩))
  refine (run_any _ _ saysWithin b s (by have := HS.out; omega) i (by omega) _ ((getD_box HR.out).drewN _)).mono ?_
  rintro e w1 ⟨rfl, hR1, hg1⟩
  obtain ⟨hx1, hx2⟩ := boxes hb hg1
  obtain ⟨c10, c11, c12, f10, f11, f12⟩ := cells3 hx1
  obtain ⟨c20, c21, c22, f20, f21, f22⟩ := cells3 hx2
  have hz : w.heap.size + 1 < w1.heap.size := (Array.getElem?_eq_some_iff.1 hx2).1
  have HX := Lib.hid (And.intro hx1 hx2); clear hx1 hx2
  have HG1 := Lib.hid (World.grownBy.trans (grown_start w _ _ _ b) hg1); clear hg1
  have HR1 := Lib.hid hR1; clear hR1 hc0 hc1
  rcases chk_cases 1 (s.extract i (spanEnd isWithin s.data.toList i)).data.toList i with hc | hc
  · rw [hc] at hk
    have HK := Lib.hid hk; clear hk
    have HC := Lib.hid hc; clear hc
    go_wp2_with fail
    refine (HK.out _).mono ?_
    rintro e w2 ⟨rfl, hb2⟩
    have hx3 := (hb2.block (w.heap.size + 1) (by simp [World.setCell]; omega)).trans (set2 HX.out.2 _ _)
    have hx4 := (hb2.block w.heap.size (by simp [World.setCell]; omega)).trans (set2_far HX.out.1 (by omega) _ _)
    have hx5 := (hb2.block b (by simp [World.setCell]; omega)).trans (set2_far (show w1.heap[b]? = _ from HR1.out) (by omega) _ _)
    obtain ⟨d10, d11, d12, g10, g11, g12⟩ := cells3 hx4
    obtain ⟨d20, d21, d22, g20, g21, g22⟩ := cells3 hx3
    have hf := grown_below (grown_far (grown_far HG1.out (by omega) _ _) (by omega) _ _) hb2
    have HF := Lib.hid hf; clear hf
    have HX5 := Lib.hid hx5; clear hx5 hx3 hx4 hb2
    go_wp2
    refine bodyPost_ret (v := .tuple #[.agg #[.int .i64 1, .string (s.extract i (spanEnd isWithin s.data.toList i)), .int .i64 i], .int .i64 0]) ?_ rfl ⟨1, _, _, _, rfl, ?_, grown_far (grown_far (grown_far HF.out (Nat.le_refl _) _ _) (Nat.le_refl _) _ _) (Nat.le_refl _) _ _, .inr ⟨HW.out, err_good HC.out⟩⟩
    · simp [results, Tryd.results28, go_sem, d10, d11, d12]
    · exact set3_far HX5.out (by omega) _ _ _
  · rw [hc] at hk
    have HK := Lib.hid hk; clear hk
    have HC := Lib.hid hc; clear hc
    go_wp2_with fail
    refine (HK.out _).mono ?_
    rintro e w2 ⟨rfl, hb2⟩
    have hx3 := (hb2.block (w.heap.size + 1) (by simp [World.setCell]; omega)).trans (set2 HX.out.2 _ _)
    have hx4 := (hb2.block w.heap.size (by simp [World.setCell]; omega)).trans (set2_far HX.out.1 (by omega) _ _)
    have hx5 := (hb2.block b (by simp [World.setCell]; omega)).trans (set2_far (show w1.heap[b]? = _ from HR1.out) (by omega) _ _)
    obtain ⟨d10, d11, d12, g10, g11, g12⟩ := cells3 hx4
    obtain ⟨d20, d21, d22, g20, g21, g22⟩ := cells3 hx3
    have hf := grown_below (grown_far (grown_far HG1.out (by omega) _ _) (by omega) _ _) hb2
    have HF := Lib.hid hf; clear hf
    have HX5 := Lib.hid hx5; clear hx5 hx3 hx4 hb2
    go_wp2
    refine bodyPost_ret (v := .tuple #[.agg #[.int .i64 1, .string (s.extract i (spanEnd isWithin s.data.toList i)), .int .i64 i], .int .i64 3]) ?_ rfl ⟨1, _, _, _, rfl, ?_, grown_far (grown_far (grown_far HF.out (Nat.le_refl _) _ _) (Nat.le_refl _) _ _) (Nat.le_refl _) _ _, .inr ⟨HW.out, err_bad HC.out⟩⟩
    · simp [results, Tryd.results28, go_sem, d10, d11, d12]
    · exact set3_far HX5.out (by omega) _ _ _

set_option maxRecDepth 100000 in
theorem next_digit (b : Nat) (s : ByteArray) (hs : s.size ≤ 9223372036854775807) (i : Nat) (hi : i < s.size) (w : World) (hR : IsR w b s i) (hL : isLetter (s[i].toNat : Int) = false) (hD : isDigit (s[i].toNat : Int) = true) :
    Calls Tryd.prog 28 #[.pointer (some ⟨b, 0, none⟩)] w (NextPost b s i w) := by
  have hc0 := hR.c0
  have hc1 := hR.c1
  have hb : b < w.heap.size := (Array.getElem?_eq_some_iff.1 hR).1
  have HR := Lib.hid hR; clear hR
  have hlet := fun W => letter_any (s[i].toNat : Int) W
  rw [hL] at hlet
  have HT := Lib.hid hlet; clear hlet
  have hdig := fun W => digit_any (s[i].toNat : Int) W
  rw [hD] at hdig
  have HD := Lib.hid hdig; clear hdig
  have hraw : rawTok s i = some (2, s.extract i (spanEnd isDigit s.data.toList i), spanEnd isDigit s.data.toList i) := by unfold rawTok; rw [getD_i hi]; simp only [*, if_true, if_false, Bool.false_eq_true]
  have HW := Lib.hid hraw; clear hraw
  have HS := Lib.hid hs; clear hs
  clear hL hD
  have hk : ∀ W, Calls Tryd.prog 16 #[.agg #[.int .i64 2, .string (s.extract i (spanEnd isDigit s.data.toList i)), .int .i64 i]] W fun e w' => e = .returned (.int .i64 (chkTok 2 (s.extract i (spanEnd isDigit s.data.toList i)).data.toList i)) ∧ Below W.heap.size W w' := fun W => check_any 2 (s.extract i (spanEnd isDigit s.data.toList i)) (by have := HS.out; rw [ByteArray.size_extract]; omega) i W
  go_enter Tryd.func28, Tryd.ntmps28
  go_wp2
  go_quiet (fail)
  go_wp2_with (first | (go_at_call 40; refine (HT.out _).mono ?_; rintro e w' ⟨rfl, rfl⟩) | (go_at_call 36; refine (HD.out _).mono ?_; rintro e w' ⟨rfl, rfl⟩))
  refine (run_any _ _ enters36 b s (by have := HS.out; omega) i (by omega) _ ((getD_box HR.out).drewN _)).mono ?_
  rintro e w1 ⟨rfl, hR1, hg1⟩
  obtain ⟨hx1, hx2⟩ := boxes hb hg1
  obtain ⟨c10, c11, c12, f10, f11, f12⟩ := cells3 hx1
  obtain ⟨c20, c21, c22, f20, f21, f22⟩ := cells3 hx2
  have hz : w.heap.size + 1 < w1.heap.size := (Array.getElem?_eq_some_iff.1 hx2).1
  have HX := Lib.hid (And.intro hx1 hx2); clear hx1 hx2
  have HG1 := Lib.hid (World.grownBy.trans (grown_start w _ _ _ b) hg1); clear hg1
  have HR1 := Lib.hid hR1; clear hR1 hc0 hc1
  rcases chk_cases 2 (s.extract i (spanEnd isDigit s.data.toList i)).data.toList i with hc | hc
  · rw [hc] at hk
    have HK := Lib.hid hk; clear hk
    have HC := Lib.hid hc; clear hc
    go_wp2_with fail
    refine (HK.out _).mono ?_
    rintro e w2 ⟨rfl, hb2⟩
    have hx3 := (hb2.block (w.heap.size + 1) (by simp [World.setCell]; omega)).trans (set2 HX.out.2 _ _)
    have hx4 := (hb2.block w.heap.size (by simp [World.setCell]; omega)).trans (set2_far HX.out.1 (by omega) _ _)
    have hx5 := (hb2.block b (by simp [World.setCell]; omega)).trans (set2_far (show w1.heap[b]? = _ from HR1.out) (by omega) _ _)
    obtain ⟨d10, d11, d12, g10, g11, g12⟩ := cells3 hx4
    obtain ⟨d20, d21, d22, g20, g21, g22⟩ := cells3 hx3
    have hf := grown_below (grown_far (grown_far HG1.out (by omega) _ _) (by omega) _ _) hb2
    have HF := Lib.hid hf; clear hf
    have HX5 := Lib.hid hx5; clear hx5 hx3 hx4 hb2
    go_wp2
    refine bodyPost_ret (v := .tuple #[.agg #[.int .i64 2, .string (s.extract i (spanEnd isDigit s.data.toList i)), .int .i64 i], .int .i64 0]) ?_ rfl ⟨2, _, _, _, rfl, ?_, grown_far (grown_far (grown_far HF.out (Nat.le_refl _) _ _) (Nat.le_refl _) _ _) (Nat.le_refl _) _ _, .inr ⟨HW.out, err_good HC.out⟩⟩
    · simp [results, Tryd.results28, go_sem, d10, d11, d12]
    · exact set3_far HX5.out (by omega) _ _ _
  · rw [hc] at hk
    have HK := Lib.hid hk; clear hk
    have HC := Lib.hid hc; clear hc
    go_wp2_with fail
    refine (HK.out _).mono ?_
    rintro e w2 ⟨rfl, hb2⟩
    have hx3 := (hb2.block (w.heap.size + 1) (by simp [World.setCell]; omega)).trans (set2 HX.out.2 _ _)
    have hx4 := (hb2.block w.heap.size (by simp [World.setCell]; omega)).trans (set2_far HX.out.1 (by omega) _ _)
    have hx5 := (hb2.block b (by simp [World.setCell]; omega)).trans (set2_far (show w1.heap[b]? = _ from HR1.out) (by omega) _ _)
    obtain ⟨d10, d11, d12, g10, g11, g12⟩ := cells3 hx4
    obtain ⟨d20, d21, d22, g20, g21, g22⟩ := cells3 hx3
    have hf := grown_below (grown_far (grown_far HG1.out (by omega) _ _) (by omega) _ _) hb2
    have HF := Lib.hid hf; clear hf
    have HX5 := Lib.hid hx5; clear hx5 hx3 hx4 hb2
    go_wp2
    refine bodyPost_ret (v := .tuple #[.agg #[.int .i64 2, .string (s.extract i (spanEnd isDigit s.data.toList i)), .int .i64 i], .int .i64 3]) ?_ rfl ⟨2, _, _, _, rfl, ?_, grown_far (grown_far (grown_far HF.out (Nat.le_refl _) _ _) (Nat.le_refl _) _ _) (Nat.le_refl _) _ _, .inr ⟨HW.out, err_bad HC.out⟩⟩
    · simp [results, Tryd.results28, go_sem, d10, d11, d12]
    · exact set3_far HX5.out (by omega) _ _ _
end Go.Proofs.YtaccooeodimdaaaDoor
