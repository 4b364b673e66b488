/- Contracts of token's Number, IsName, sign and Check. -/
import Derived.Test.YtaccooeodimdaaaDoorTokB
import Derived.Test.YtaccooeodimdaaaDoorShelf
import Derived.Lib.ParseIntB
namespace Go.Proofs.YtaccooeodimdaaaDoor
open Go.RowKit

def numVal (l : List UInt8) : Nat := l.foldl (fun n c => 10 * n + (c.toNat - 48)) 0
def allDig (l : List UInt8) : Bool := l.all fun c => isDigit (c.toNat : Int)
/-- The value of a number's text, or the error. -/
def numOf (l : List UInt8) : Nat × Int := if l = [] ∨ allDig l = false then (0, 4) else if 10 < l.length then (0, 3) else if 4294967295 < numVal l then (0, 3) else (numVal l, 0)
def isNameL (l : List UInt8) : Bool := decide (0 < l.length) && decide (l.length ≤ 24) && isLetter ((l.getD 0 0).toNat : Int) && l.all fun c => isWithin (c.toNat : Int)
def signs1 : List UInt8 := [40, 41, 91, 93, 123, 125, 44, 58, 59, 61, 60, 43, 45, 42, 38, 124, 94, 33]
def isSign (c : Int) : Bool := decide (0 ≤ Lib.indexByte signs1 c.toNat.toUInt8)
/-- What token.Check says of a word. -/
def okTok (kind : Int) (l : List UInt8) : Bool :=
  if kind = 1 then isNameL l else if kind = 2 then decide ((numOf l).2 = 0) else if kind = 3 then (l == [61, 61]) || (decide (l.length = 1) && isSign ((l.getD 0 0).toNat : Int)) else false
def chkTok (kind : Int) (l : List UInt8) (at_ : Int) : Int := if okTok kind l = false ∨ at_ < 0 then 4 else 0

theorem fold_le (l : List UInt8) : ∀ n, (∀ c ∈ l, c.toNat ≤ 57) → l.foldl (fun n (c : UInt8) => 10 * n + (c.toNat - 48)) n ≤ n * 10 ^ l.length + (10 ^ l.length - 1) := by
  induction l with
  | nil => intro n _; simp
  | cons c r ih =>
    intro n h
    have h1 := ih (10 * n + (c.toNat - 48)) (fun d hd => h d (List.mem_cons_of_mem _ hd))
    have h2 := h c (List.mem_cons_self ..)
    rw [List.foldl_cons, List.length_cons, Nat.pow_succ]
    refine Nat.le_trans h1 ?_
    have h3 : c.toNat - 48 ≤ 9 := by omega
    have h5 : 0 < 10 ^ r.length := Nat.pow_pos (by omega)
    generalize 10 ^ r.length = P at *
    have h4 := Nat.mul_le_mul_right P h3
    have e1 : (10 * n + (c.toNat - 48)) * P = n * (P * 10) + (c.toNat - 48) * P := by rw [Nat.add_mul, Nat.mul_comm 10 n, Nat.mul_assoc, Nat.mul_comm 10]
    omega
theorem dig_iff (c : UInt8) : isDigit (c.toNat : Int) = true ↔ 48 ≤ c.toNat ∧ c.toNat ≤ 57 := by
  simp [isDigit]; omega
theorem parse_go (l : List UInt8) : ∀ n, allDig l = true → n * 10 ^ l.length + (10 ^ l.length - 1) < 18446744073709551610 → Lib.parseUintM (2 ^ 64 - 1) n l = .ok (l.foldl (fun n c => 10 * n + (c.toNat - 48)) n) := by
  induction l with
  | nil => intro n _ _; rfl
  | cons c r ih =>
    intro n h hb
    have hc : 48 ≤ c.toNat ∧ c.toNat ≤ 57 := (dig_iff c).1 (by simp [allDig] at h; exact h.1)
    have hr : allDig r = true := by simp [allDig] at h ⊢; exact h.2
    rw [List.length_cons, Nat.pow_succ] at hb
    have h5 : 0 < 10 ^ r.length := Nat.pow_pos (by omega)
    have e1 : n * (10 ^ r.length * 10) = n * 10 * 10 ^ r.length := by rw [Nat.mul_comm (10 ^ r.length) 10, ← Nat.mul_assoc]
    have h6 : n * 10 * 1 ≤ n * 10 * 10 ^ r.length := Nat.mul_le_mul_left _ h5
    have h7 : (n * 10 + (c.toNat - 48)) * 10 ^ r.length ≤ (n * 10 + 9) * 10 ^ r.length := Nat.mul_le_mul_right _ (by omega)
    rw [Nat.add_mul _ 9] at h7
    unfold Lib.parseUintM
    rw [if_pos hc, if_neg (by omega), if_neg (by omega), ih _ hr (by omega), List.foldl_cons, Nat.mul_comm n 10]
theorem numVal_lt (l : List UInt8) (h : allDig l = true) (hl : l.length ≤ 10) : numVal l < 10000000000 := by
  have h1 := fold_le l 0 (fun c hc => by
    have := (List.all_eq_true.1 h) c hc
    exact ((dig_iff c).1 this).2)
  have h2 : 10 ^ l.length ≤ 10 ^ 10 := Nat.pow_le_pow_right (by omega) hl
  unfold numVal
  omega
theorem parse_ok (l : List UInt8) (h0 : l ≠ []) (h : allDig l = true) (hl : l.length ≤ 10) : Lib.parseUintB 64 l = .ok (numVal l) := by
  have h2 : 10 ^ l.length ≤ 10 ^ 10 := Nat.pow_le_pow_right (by omega) hl
  unfold Lib.parseUintB numVal
  rw [if_neg h0, parse_go l 0 h (by omega)]

theorem enters36 : Says 36 isDigit := ⟨fun _ _ => by kernel_rfl, digit_any⟩
theorem saysWithin : Says 41 isWithin := ⟨fun _ _ => by kernel_rfl, within_any⟩
theorem saysBlank : Says 46 isBlank := ⟨fun _ _ => by kernel_rfl, blank_any⟩

def NumPost (s : ByteArray) (w : World) (e : Ending) (w' : World) : Prop := e = .returned (.tuple #[.int .u64 (numOf s.data.toList).1, .int .i64 (numOf s.data.toList).2]) ∧ Below w.heap.size w w'
theorem ret_num {l : List UInt8} {a b : Int} (h1 : ((numOf l).1 : Int) = a) (h2 : (numOf l).2 = b) : Ending.returned (.tuple #[.int .u64 a, .int .i64 b]) = .returned (.tuple #[.int .u64 (numOf l).1, .int .i64 (numOf l).2]) := by rw [h1, h2]
theorem size_pos {s : ByteArray} (h : s.data.toList ≠ []) : s.toList.isEmpty = false := by
  rw [ByteArray.toList_eq]; cases hl : s.data.toList with | nil => exact absurd hl h | cons _ _ => rfl
theorem toList_ne {s : ByteArray} (h : s.data.toList ≠ []) : ¬ s.toList = [] := by rw [ByteArray.toList_eq]; exact h

theorem below_or {w w1 w2 : World} {e : TypeId} {s : ByteArray} (hb : Below w.heap.size w w1) (h : w2 = w1 ∨ w2 = Lib.bytesWorld w1 e s) : Below w.heap.size w w2 := by
  rcases h with rfl | rfl
  · exact hb
  · exact hb.trans ((Lib.bytesWorld_below _ _ _).mono hb.size)

set_option maxRecDepth 100000 in
theorem number_any (s : ByteArray) (hs : s.size ≤ 9223372036854775807) (w : World) : Calls Tryd.prog 19 #[.string s] w (NumPost s w) := by
  have hs' : s.size ≤ 9223372036854775807 := by omega
  have hl := data_len s
  by_cases h0 : s.data.toList = []
  · have he : s = ⟨#[]⟩ := by cases s with | mk d => cases d with | mk l => cases l <;> simp_all
    subst he
    go_enter Tryd.func19, Tryd.ntmps19
    go_wp2
    go_ret2
    exact ⟨rfl, Below.refl _ _⟩
  · have g1 := size_pos h0
    have g2 := toList_ne h0
    have HL := Lib.hid hl; clear hl
    have HS := Lib.hid hs; clear hs
    have HS' := Lib.hid hs'; clear hs'
    have H0 := Lib.hid h0; clear h0
    rcases Bool.eq_false_or_eq_true (allDig s.data.toList) with hq | hq
    · have ha := all_any _ _ enters36 s HS'.out w
      rw [show (s.data.toList.all fun c => isDigit (c.toNat : Int)) = true from hq] at ha
      have HA := Lib.hid ha; clear ha
      have HQ := Lib.hid hq; clear hq
      by_cases h10 : 10 < s.size
      · go_enter Tryd.func19, Tryd.ntmps19
        go_wp2_with (go_at_call 35; refine HA.out.mono ?_; rintro e w' ⟨rfl, hb⟩)
        go_ret2
        refine ⟨ret_num ?_ ?_, ‹_›⟩ <;> unfold numOf <;> rw [if_neg (by simp [H0.out, HQ.out]), if_pos (by rw [HL.out]; exact h10)] <;> rfl
      · have hs6 : s.size ≤ 9223372036854775806 := by omega
        have HS6 := Lib.hid hs6; clear hs6
        have hp := parse_ok s.data.toList H0.out HQ.out (by rw [HL.out]; omega)
        have HP := Lib.hid hp; clear hp
        by_cases hm : 4294967295 < numVal s.data.toList
        · have hm' : (4294967295 : Int) < (numVal s.data.toList : Int) := by omega
          go_enter Tryd.func19, Tryd.ntmps19
          go_wp2_with (first | (go_at_call 35; refine HA.out.mono ?_; rintro e w1 ⟨rfl, hb⟩) | (go_at_call 37; refine (Tryd.strconv_ParseUint_10_at64_ok s HS6.out _ HP.out _).mono ?_; rintro e w2 ⟨rfl, hx⟩; have HX := Lib.hid hx; clear hx))
          go_ret2
          refine ⟨ret_num ?_ ?_, below_or ‹Below _ _ _› HX.out⟩ <;> unfold numOf <;> rw [if_neg (by simp [H0.out, HQ.out]), if_neg (by rw [HL.out]; exact h10), if_pos hm] <;> rfl
        · have hm' : (numVal s.data.toList : Int) ≤ (4294967295 : Int) := by omega
          go_enter Tryd.func19, Tryd.ntmps19
          go_wp2_with (first | (go_at_call 35; refine HA.out.mono ?_; rintro e w1 ⟨rfl, hb⟩) | (go_at_call 37; refine (Tryd.strconv_ParseUint_10_at64_ok s HS6.out _ HP.out _).mono ?_; rintro e w2 ⟨rfl, hx⟩; have HX := Lib.hid hx; clear hx))
          go_ret2
          refine ⟨ret_num ?_ ?_, below_or ‹Below _ _ _› HX.out⟩ <;> unfold numOf <;> rw [if_neg (by simp [H0.out, HQ.out]), if_neg (by rw [HL.out]; exact h10), if_neg hm]
    · have ha := all_any _ _ enters36 s HS'.out w
      rw [show (s.data.toList.all fun c => isDigit (c.toNat : Int)) = false from hq] at ha
      have HA := Lib.hid ha; clear ha
      have HQ := Lib.hid hq; clear hq
      go_enter Tryd.func19, Tryd.ntmps19
      go_wp2_with (go_at_call 35; refine HA.out.mono ?_; rintro e w' ⟨rfl, hb⟩)
      go_ret2
      refine ⟨ret_num ?_ ?_, ‹_›⟩ <;> unfold numOf <;> rw [if_pos (.inr HQ.out)] <;> rfl

set_option maxRecDepth 100000 in
theorem sign_any (c : Int) (w : World) : Calls Tryd.prog 31 #[.int .u8 c] w fun e w' => e = .returned (.bool (isSign c)) ∧ w = w' := by
  go_enter Tryd.func31, Tryd.ntmps31
  go_wp2_with (go_at_call 52; refine (Tryd.strings_IndexByte _ _ _).mono ?_; rintro e w' ⟨rfl, rfl⟩)
  go_ret
  exact ⟨rfl, rfl⟩

def BPost (b : Bool) (w : World) (e : Ending) (w' : World) : Prop := e = .returned (.bool b) ∧ Below w.heap.size w w'
theorem name_no {l : List UInt8} (h : ¬ (0 < l.length ∧ l.length ≤ 24)) : isNameL l = false := by
  unfold isNameL
  by_cases h1 : 0 < l.length
  · have : ¬ l.length ≤ 24 := fun h2 => h ⟨h1, h2⟩
    simp [this]
  · simp [h1]
theorem getD_zero {s : ByteArray} (h : 0 < s.size) : (s.data.toList.getD 0 0) = s[0] := by
  rw [List.getD_eq_getElem?_getD, List.getElem?_eq_getElem (by rw [data_len]; exact h)]; rfl

set_option maxRecDepth 100000 in
theorem isName_any (s : ByteArray) (hs : s.size ≤ 9223372036854775807) (w : World) : Calls Tryd.prog 23 #[.string s] w (BPost (isNameL s.data.toList) w) := by
  have hl := data_len s
  have HL := Lib.hid hl; clear hl
  have ha := all_any _ _ saysWithin s hs w
  have HA := Lib.hid ha; clear ha
  have HS := Lib.hid hs; clear hs
  by_cases h0 : 0 < s.size
  · by_cases h24 : s.size ≤ 24
    · have hg := getD_zero h0
      have HG := Lib.hid hg; clear hg
      rcases Bool.eq_false_or_eq_true (isLetter (s[0].toNat : Int)) with hq | hq
      · have hlet := letter_any (s[0].toNat : Int) w
        rw [hq] at hlet
        have HT := Lib.hid hlet; clear hlet
        have HQ := Lib.hid hq; clear hq
        go_enter Tryd.func23, Tryd.ntmps23
        go_wp2_with (first | (go_at_call 40; refine HT.out.mono ?_; rintro e w1 ⟨rfl, rfl⟩) | (go_at_call 35; refine HA.out.mono ?_; rintro e w1 ⟨rfl, hb⟩))
        go_ret
        refine ⟨ret_b ?_, ‹Below _ _ _›⟩
        unfold isNameL
        rw [HL.out, HG.out, HQ.out]
        simp [h0, h24]
      · have hlet := letter_any (s[0].toNat : Int) w
        rw [hq] at hlet
        have HT := Lib.hid hlet; clear hlet
        have HQ := Lib.hid hq; clear hq
        go_enter Tryd.func23, Tryd.ntmps23
        go_wp2_with (first | (go_at_call 40; refine HT.out.mono ?_; rintro e w1 ⟨rfl, rfl⟩))
        go_ret
        refine ⟨ret_b ?_, Below.refl _ _⟩
        unfold isNameL
        rw [HL.out, HG.out, HQ.out]
        simp
    · go_enter Tryd.func23, Tryd.ntmps23
      go_wp2
      go_ret
      exact ⟨ret_b (name_no (by rw [HL.out]; omega)).symm, Below.refl _ _⟩
  · go_enter Tryd.func23, Tryd.ntmps23
    go_wp2
    go_ret
    exact ⟨ret_b (name_no (by rw [HL.out]; omega)).symm, Below.refl _ _⟩
end Go.Proofs.YtaccooeodimdaaaDoor
