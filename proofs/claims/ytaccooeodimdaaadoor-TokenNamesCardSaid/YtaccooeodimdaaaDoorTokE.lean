/- Contract of token's Check. -/
import Derived.Test.YtaccooeodimdaaaDoorTokD
namespace Go.Proofs.YtaccooeodimdaaaDoor
open Go.RowKit

def tokV (k : Int) (s : ByteArray) (a : Int) : Value := .agg #[.int .i64 k, .string s, .int .i64 a]
def ChkPost (k : Int) (s : ByteArray) (a : Int) (w : World) (e : Ending) (w' : World) : Prop := e = .returned (.int .i64 (chkTok k s.data.toList a)) ∧ Below w.heap.size w w'
theorem ret_i {a b : Int} (h : a = b) : Ending.returned (.int .i64 a) = .returned (.int .i64 b) := by rw [h]
theorem chk_bad {k : Int} {l : List UInt8} {a : Int} (h : okTok k l = false ∨ a < 0) : (4 : Int) = chkTok k l a := by unfold chkTok; rw [if_pos h]
theorem chk_good {k : Int} {l : List UInt8} {a : Int} (h : okTok k l = true) (h2 : ¬ a < 0) : (0 : Int) = chkTok k l a := by unfold chkTok; rw [if_neg (by simp [h]; omega)]
theorem below_box {w w1 : World} {o : Obj} (h : Below (w.alloc o).heap.size (w.alloc o) w1) : Below w.heap.size w w1 := ((Below.refl _ _).alloc (Nat.le_refl _) _).trans (h.mono (by simp))

set_option maxRecDepth 100000 in
theorem check_name (s : ByteArray) (hs : s.size ≤ 9223372036854775807) (a : Int) (w : World) : Calls Tryd.prog 16 #[.agg #[.int .i64 1, .string s, .int .i64 a]] w (ChkPost 1 s a w) := by
  have hk := fun W => isName_any s (by omega) W
  rcases Bool.eq_false_or_eq_true (isNameL s.data.toList) with hq | hq
  all_goals
    rw [hq] at hk
    have HK := Lib.hid hk; clear hk
    have ho : okTok 1 s.data.toList = isNameL s.data.toList := rfl
    rw [hq] at ho
    have HO := Lib.hid ho; clear ho hq hs
    by_cases h0 : a < 0
    all_goals
      go_enter Tryd.func16, Tryd.ntmps16
      go_wp2_with (go_at_call 23; refine (HK.out _).mono ?_; rintro e w1 ⟨rfl, hb⟩; have hc := hb.cell (p := ⟨w.heap.size, 2, none⟩) (by simp); have HB := Lib.hid hb; clear hb)
      go_ret
      refine ⟨ret_i ?_, below_box (Hid.out ‹_›)⟩
      first | exact chk_bad (.inl HO.out) | exact chk_bad (.inr h0) | exact chk_good HO.out (by omega)
set_option maxRecDepth 100000 in
theorem check_number (s : ByteArray) (hs : s.size ≤ 9223372036854775807) (a : Int) (w : World) : Calls Tryd.prog 16 #[.agg #[.int .i64 2, .string s, .int .i64 a]] w (ChkPost 2 s a w) := by
  have hk := fun W => number_any s hs W
  have HK := Lib.hid hk; clear hk
  rcases Bool.eq_false_or_eq_true ((numOf s.data.toList).2 == 0) with hq | hq
  all_goals
    have ho : okTok 2 s.data.toList = ((numOf s.data.toList).2 == 0) := by rw [Bool.eq_iff_iff]; simp [okTok]
    have HO := Lib.hid (ho.trans hq); clear ho hs
    by_cases h0 : a < 0
    all_goals
      go_enter Tryd.func16, Tryd.ntmps16
      go_wp2_with (go_at_call 19; refine (HK.out _).mono ?_; rintro e w1 ⟨rfl, hb⟩; have hc := hb.cell (p := ⟨w.heap.size, 2, none⟩) (by simp); have HB := Lib.hid hb; clear hb)
      go_ret
      refine ⟨ret_i ?_, below_box (Hid.out ‹_›)⟩
      first | exact chk_bad (.inl HO.out) | exact chk_bad (.inr h0) | exact chk_good HO.out (by omega)
set_option maxRecDepth 100000 in
theorem check_else (k : Int) (h1 : (k == 1) = false) (h2 : (k == 2) = false) (h3 : (k == 3) = false) (s : ByteArray) (a : Int) (w : World) : Calls Tryd.prog 16 #[.agg #[.int .i64 k, .string s, .int .i64 a]] w (ChkPost k s a w) := by
  go_enter Tryd.func16, Tryd.ntmps16
  go_wp2
  go_ret
  exact ⟨ret_i (chk_bad (.inl (by simp at h1 h2 h3; simp [okTok, h1, h2, h3]))), (Below.refl _ _).alloc (Nat.le_refl _) _⟩
set_option maxRecDepth 100000 in
theorem check_sign (s : ByteArray) (a : Int) (w : World) : Calls Tryd.prog 16 #[.agg #[.int .i64 3, .string s, .int .i64 a]] w (ChkPost 3 s a w) := by
  have hl := data_len s
  have HL := Lib.hid hl; clear hl
  rcases Bool.eq_false_or_eq_true (s.toList == [61, 61]) with he | he
  · have ho : okTok 3 s.data.toList = true := by rw [ByteArray.toList_eq] at he; simp [okTok, he]
    have HO := Lib.hid ho; clear ho
    by_cases h0 : a < 0
    all_goals
      go_enter Tryd.func16, Tryd.ntmps16
      go_wp2
      go_ret
      refine ⟨ret_i ?_, (Below.refl _ _).alloc (Nat.le_refl _) _⟩
      first | exact chk_bad (.inl HO.out) | exact chk_bad (.inr h0) | exact chk_good HO.out (by omega)
  · have hn : (s.data.toList == [61, 61]) = false := by rw [← ByteArray.toList_eq]; exact he
    have HN := Lib.hid hn; clear hn
    rcases Bool.eq_false_or_eq_true ((s.size : Int) == 1) with h1 | h1
    · have hp : 0 < s.size := by simp at h1; omega
      have hg := getD_zero hp
      have HG := Lib.hid hg; clear hg
      have hk := fun W => sign_any (s[0].toNat : Int) W
      rcases Bool.eq_false_or_eq_true (isSign (s[0].toNat : Int)) with hq | hq
      all_goals
        rw [hq] at hk
        have HK := Lib.hid hk; clear hk
        have ho : okTok 3 s.data.toList = isSign (s[0].toNat : Int) := by
          unfold okTok
          rw [if_neg (by decide), if_neg (by decide), if_pos rfl, HN.out, HG.out, HL.out]
          have : s.size = 1 := by simp at h1; omega
          simp [this]
        rw [hq] at ho
        have HO := Lib.hid ho; clear ho hq
        by_cases h0 : a < 0
        all_goals
          go_enter Tryd.func16, Tryd.ntmps16
          go_wp2_with (go_at_call 31; refine (HK.out _).mono ?_; rintro e w1 ⟨rfl, rfl⟩)
          go_ret
          refine ⟨ret_i ?_, (Below.refl _ _).alloc (Nat.le_refl _) _⟩
          first | exact chk_bad (.inl HO.out) | exact chk_bad (.inr h0) | exact chk_good HO.out (by omega)
    · have ho : okTok 3 s.data.toList = false := by
        unfold okTok
        rw [if_neg (by decide), if_neg (by decide), if_pos rfl, HN.out, HL.out]
        have : s.size ≠ 1 := by simp at h1; omega
        simp [this]
      have HO := Lib.hid ho; clear ho
      go_enter Tryd.func16, Tryd.ntmps16
      go_wp2
      go_ret
      exact ⟨ret_i (chk_bad (.inl HO.out)), (Below.refl _ _).alloc (Nat.le_refl _) _⟩
theorem check_any (k : Int) (s : ByteArray) (hs : s.size ≤ 9223372036854775807) (a : Int) (w : World) : Calls Tryd.prog 16 #[.agg #[.int .i64 k, .string s, .int .i64 a]] w (ChkPost k s a w) := by
  rcases Bool.eq_false_or_eq_true (k == 1) with h1 | h1
  · obtain rfl : k = 1 := by simpa using h1
    exact check_name s hs a w
  rcases Bool.eq_false_or_eq_true (k == 2) with h2 | h2
  · obtain rfl : k = 2 := by simpa using h2
    exact check_number s hs a w
  rcases Bool.eq_false_or_eq_true (k == 3) with h3 | h3
  · obtain rfl : k = 3 := by simpa using h3
    exact check_sign s a w
  exact check_else k h1 h2 h3 s a w
end Go.Proofs.YtaccooeodimdaaaDoor
