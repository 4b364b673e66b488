/- Contracts of the reference's word. -/
import Derived.Test.YtaccooeodimdaaaDoorTokK
namespace Go.Proofs.YtaccooeodimdaaaDoor
open Go.RowKit

theorem span_list (p : Int → Bool) (s : ByteArray) (i : Nat) : (s.extract i (spanEnd p s.data.toList i)).data.toList = (s.data.toList.drop i).takeWhile fun c => p (c.toNat : Int) := by
  rw [Lib.extract_data]
  unfold spanEnd
  rw [show i + ((s.data.toList.drop i).takeWhile fun c => p (c.toNat : Int)).length - i = ((s.data.toList.drop i).takeWhile fun c => p (c.toNat : Int)).length by omega]
  exact (List.prefix_iff_eq_take.1 (List.takeWhile_prefix _)).symm
theorem span_len (p : Int → Bool) (l : List UInt8) (i : Nat) : ((l.drop i).takeWhile fun c => p (c.toNat : Int)).length = spanEnd p l i - i := by unfold spanEnd; omega
theorem all_takeWhile (p : UInt8 → Bool) (l : List UInt8) : (l.takeWhile p).all p = true := by
  induction l with
  | nil => rfl
  | cons x r ih =>
    rw [List.takeWhile_cons]
    split
    · rename_i h; rw [List.all_cons, h, ih]; rfl
    · rfl
theorem name_span (s : ByteArray) (i : Nat) (hi : i < s.size) (hL : isLetter (s[i].toNat : Int) = true) : isNameL (s.extract i (spanEnd isWithin s.data.toList i)).data.toList = decide (spanEnd isWithin s.data.toList i - i ≤ 24) := by
  have hlt : i < s.data.toList.length := by rw [data_len]; exact hi
  rw [span_list]
  unfold isNameL
  rw [span_len, all_takeWhile]
  have h1 := spanEnd_yes isWithin s.data.toList i hlt (by show isWithin (s[i].toNat : Int) = true; simp [isWithin, hL])
  have h2 := spanEnd_ge isWithin s.data.toList (i + 1)
  have h3 : ((s.data.toList.drop i).takeWhile fun c => isWithin (c.toNat : Int)).getD 0 0 = s[i] := by
    rw [List.drop_eq_getElem_cons hlt, List.takeWhile_cons, if_pos (by show isWithin (s[i].toNat : Int) = true; simp [isWithin, hL])]
    rfl
  rw [h3, hL]
  have h4 : 0 < spanEnd isWithin s.data.toList i - i := by omega
  simp [h4]
theorem num_span (s : ByteArray) (i : Nat) (hi : i < s.size) (hD : isDigit (s[i].toNat : Int) = true) : (numOf (s.extract i (spanEnd isDigit s.data.toList i)).data.toList).2 = 0 ∨ (numOf (s.extract i (spanEnd isDigit s.data.toList i)).data.toList).2 = 3 := by
  have hlt : i < s.data.toList.length := by rw [data_len]; exact hi
  rw [span_list]
  have h1 : ((s.data.toList.drop i).takeWhile fun c => isDigit (c.toNat : Int)) ≠ [] := by
    rw [List.drop_eq_getElem_cons hlt, List.takeWhile_cons, if_pos (by exact hD)]
    simp
  have h2 : allDig ((s.data.toList.drop i).takeWhile fun c => isDigit (c.toNat : Int)) = true := all_takeWhile _ _
  unfold numOf
  rw [if_neg (by simp [h1, h2])]
  split
  · exact .inr rfl
  split
  · exact .inr rfl
  · exact .inl rfl
theorem nextErr_ok {k : Int} {l : List UInt8} {i : Nat} (h : okTok k l = true) : nextErr k l i = 0 := by
  unfold nextErr chkTok
  rw [if_pos (if_neg (by simp [h]))]
theorem nextErr_no {k : Int} {l : List UInt8} {i : Nat} (h : okTok k l = false) : nextErr k l i = 3 := by
  unfold nextErr chkTok
  rw [if_neg]
  rw [if_pos (.inl h)]
  decide

/-- What the reference's word hands back. -/
def WordPost (s : ByteArray) (i : Nat) (w : World) (e : Ending) (w' : World) : Prop :=
  ∃ k t, ∃ p : Int, ∃ err, e = .returned (.tuple #[.agg #[.int .i64 k, .string t, .int .i64 p], .int .i64 err]) ∧ Below w.heap.size w w' ∧
    ((rawTok s i = none ∧ err = 4) ∨ (∃ j, rawTok s i = some (k, t, j) ∧ nextErr k t.data.toList i = 0 ∧ err = 0 ∧ p = i ∧ j = i + t.size) ∨ (∃ k' t' j, rawTok s i = some (k', t', j) ∧ nextErr k' t'.data.toList i ≠ 0 ∧ err = 3))

theorem span_size (p : Int → Bool) (s : ByteArray) (i : Nat) : (s.extract i (spanEnd p s.data.toList i)).size = spanEnd p s.data.toList i - i := by
  rw [← data_len, span_list, span_len]
theorem raw_letter (s : ByteArray) (i : Nat) (hi : i < s.size) (hL : isLetter (s[i].toNat : Int) = true) : rawTok s i = some (1, s.extract i (spanEnd isWithin s.data.toList i), spanEnd isWithin s.data.toList i) := by
  unfold rawTok; rw [getD_i hi]; simp only [hL, if_true]
theorem raw_digit (s : ByteArray) (i : Nat) (hi : i < s.size) (hL : isLetter (s[i].toNat : Int) = false) (hD : isDigit (s[i].toNat : Int) = true) : rawTok s i = some (2, s.extract i (spanEnd isDigit s.data.toList i), spanEnd isDigit s.data.toList i) := by
  unfold rawTok; rw [getD_i hi]; simp only [hL, hD, if_true, if_false, Bool.false_eq_true]

theorem post_letter_ok {s : ByteArray} {i : Nat} {w w' : World} (hi : i < s.size) (hL : isLetter (s[i].toNat : Int) = true) {q : Nat} (hq : q = spanEnd isWithin s.data.toList i) (h24 : q - i ≤ 24) (hb : Below w.heap.size w w') :
    WordPost s i w (.returned (.tuple #[.agg #[.int .i64 1, .string (s.extract i q), .int .i64 i], .int .i64 0])) w' := by
  subst hq
  have h1 := spanEnd_ge isWithin s.data.toList i
  exact ⟨1, _, i, 0, rfl, hb, .inr (.inl ⟨_, raw_letter s i hi hL, nextErr_ok (by show isNameL _ = true; rw [name_span s i hi hL]; simp; omega), rfl, rfl, by rw [span_size]; omega⟩)⟩
theorem post_letter_bad {s : ByteArray} {i : Nat} {w w' : World} (hi : i < s.size) (hL : isLetter (s[i].toNat : Int) = true) {q : Nat} (hq : q = spanEnd isWithin s.data.toList i) (h24 : ¬ q - i ≤ 24) (hb : Below w.heap.size w w') :
    WordPost s i w (.returned (.tuple #[.agg #[.int .i64 0, .string ⟨#[]⟩, .int .i64 0], .int .i64 3])) w' := by
  subst hq
  exact ⟨0, _, 0, 3, rfl, hb, .inr (.inr ⟨_, _, _, raw_letter s i hi hL, by rw [nextErr_no (by show isNameL _ = false; rw [name_span s i hi hL]; simp; omega)]; decide, rfl⟩)⟩
theorem post_digit_ok {s : ByteArray} {i : Nat} {w w' : World} (hi : i < s.size) (hL : isLetter (s[i].toNat : Int) = false) (hD : isDigit (s[i].toNat : Int) = true) {q : Nat} (hq : q = spanEnd isDigit s.data.toList i) (h0 : (numOf (s.extract i q).data.toList).2 = 0) (hb : Below w.heap.size w w') :
    WordPost s i w (.returned (.tuple #[.agg #[.int .i64 2, .string (s.extract i q), .int .i64 i], .int .i64 0])) w' := by
  subst hq
  have h1 := spanEnd_ge isDigit s.data.toList i
  exact ⟨2, _, i, 0, rfl, hb, .inr (.inl ⟨_, raw_digit s i hi hL hD, nextErr_ok (by show decide (_ = _) = true; rw [h0]; rfl), rfl, rfl, by rw [span_size]; omega⟩)⟩
theorem post_digit_bad {s : ByteArray} {i : Nat} {w w' : World} (hi : i < s.size) (hL : isLetter (s[i].toNat : Int) = false) (hD : isDigit (s[i].toNat : Int) = true) {q : Nat} (hq : q = spanEnd isDigit s.data.toList i) (h0 : (numOf (s.extract i q).data.toList).2 = 3) (hb : Below w.heap.size w w') :
    WordPost s i w (.returned (.tuple #[.agg #[.int .i64 0, .string ⟨#[]⟩, .int .i64 0], .int .i64 3])) w' := by
  subst hq
  exact ⟨0, _, 0, 3, rfl, hb, .inr (.inr ⟨_, _, _, raw_digit s i hi hL hD, by rw [nextErr_no (by show decide (_ = _) = false; rw [h0]; rfl)]; decide, rfl⟩)⟩
theorem below1 {w : World} {o : Obj} : Below w.heap.size w (w.alloc o) := (Below.refl _ _).alloc (Nat.le_refl _) _

set_option maxHeartbeats 1000000 in
set_option maxRecDepth 100000 in
theorem rword_letter (s : ByteArray) (hs : s.size ≤ 9223372036854775807) (i : Nat) (hi : i < s.size) (w : World) (hL : isLetter (s[i].toNat : Int) = true) : Calls Tryd.prog 29 #[.string s, .int .i64 i] w (WordPost s i w) := by
  have hl := data_len s
  have HL := Lib.hid hl; clear hl
  have hlt' : i < s.data.toList.length := by rw [HL.out]; exact hi
  have h1 := spanEnd_ge isWithin s.data.toList i
  have h2 := spanEnd_le isWithin s.data.toList i (by omega)
  rw [HL.out] at h2
  obtain ⟨_, h2⟩ := h2
  have hlet := fun W => rletter_any (s[i].toNat : Int) W
  rw [hL] at hlet
  have HT := Lib.hid hlet; clear hlet
  have HLET := Lib.hid hL; clear hL
  go_enter Tryd.func29, Tryd.ntmps29
  go_wp2_with (go_at_call 42; refine (HT.out _).mono ?_; rintro e w1 ⟨rfl, rfl⟩)
  go_loopg [6] (s.size - i) (fun g a wr => ∃ q : Nat, q ≤ s.size ∧ i ≤ q ∧ g = s.size - q ∧ a = .int .i64 q ∧ Hid (spanEnd isWithin s.data.toList q = spanEnd isWithin s.data.toList i) ∧ w.alloc (.cells #[.int .i64 0, .string ⟨#[]⟩, .int .i64 0] 32) = wr)
  case atStart => exact ⟨i, by omega, by omega, rfl, rfl, rfl, rfl⟩
  case round =>
    obtain ⟨q, hq, hiq, rfl, rfl, hsq, rfl⟩ := hrel
    by_cases hql : q < s.size
    · have hql' : q < s.data.toList.length := by rw [HL.out]; exact hql
      have hlq := fun W => rletter_any (s[q].toNat : Int) W
      have hdq := fun W => rdigit_any (s[q].toNat : Int) W
      rcases Bool.eq_false_or_eq_true (isWithin (s[q].toNat : Int)) with hw | hw
      · have hst := spanEnd_yes isWithin s.data.toList q hql' hw
        have HE := Lib.hid (hst.symm.trans hsq.out); clear hst hsq
        rcases Bool.eq_false_or_eq_true (isLetter (s[q].toNat : Int)) with hl2 | hl2
        · rw [hl2] at hlq
          have HQ := Lib.hid hlq; clear hlq hl2 hdq hw
          go_wp2_with (go_at_call 42; refine (HQ.out _).mono ?_; rintro e w1 ⟨rfl, rfl⟩)
          go_roundg (s.size - (q + 1))
          case measure => omega
          case rel => exact ⟨q + 1, by omega, by omega, rfl, by go_num, HE.out, rfl⟩
        · rw [hl2] at hlq
          have HQ := Lib.hid hlq; clear hlq
          rcases Bool.eq_false_or_eq_true (isDigit (s[q].toNat : Int)) with hd2 | hd2
          · rw [hd2] at hdq
            have HD := Lib.hid hdq; clear hdq hl2 hd2 hw
            go_wp2_with (first | (go_at_call 42; refine (HQ.out _).mono ?_; rintro e w1 ⟨rfl, rfl⟩) | (go_at_call 38; refine (HD.out _).mono ?_; rintro e w1 ⟨rfl, rfl⟩))
            go_roundg (s.size - (q + 1))
            case measure => omega
            case rel => exact ⟨q + 1, by omega, by omega, rfl, by go_num, HE.out, rfl⟩
          · rw [hd2] at hdq
            have HD := Lib.hid hdq; clear hdq
            have h95 : ((s[q].toNat : Int) == 95) = true := by unfold isWithin at hw; rw [hl2, hd2] at hw; simpa using hw
            clear hl2 hd2 hw
            go_wp2_with (first | (go_at_call 42; refine (HQ.out _).mono ?_; rintro e w1 ⟨rfl, rfl⟩) | (go_at_call 38; refine (HD.out _).mono ?_; rintro e w1 ⟨rfl, rfl⟩))
            go_roundg (s.size - (q + 1))
            case measure => omega
            case rel => exact ⟨q + 1, by omega, by omega, rfl, by go_num, HE.out, rfl⟩
      · have hst := spanEnd_no isWithin s.data.toList q hql' hw
        have HE := Lib.hid (hst.symm.trans hsq.out); clear hst hsq
        have hl2 : isLetter (s[q].toNat : Int) = false := by unfold isWithin at hw; simp at hw; exact hw.1.1
        have hd2 : isDigit (s[q].toNat : Int) = false := by unfold isWithin at hw; simp at hw; exact hw.1.2
        have h95 : ((s[q].toNat : Int) == 95) = false := by unfold isWithin at hw; simp at hw; simpa using hw.2
        rw [hl2] at hlq
        have HQ := Lib.hid hlq; clear hlq
        rw [hd2] at hdq
        have HD := Lib.hid hdq; clear hdq hl2 hd2 hw
        by_cases h24 : q - i ≤ 24
        · have h24' : (q : Int) - (i : Int) ≤ 24 := by omega
          go_wp2_with (first | (go_at_call 42; refine (HQ.out _).mono ?_; rintro e w1 ⟨rfl, rfl⟩) | (go_at_call 38; refine (HD.out _).mono ?_; rintro e w1 ⟨rfl, rfl⟩))
          exact bodyPost_ret (v := .tuple #[.agg #[.int .i64 1, .string (s.extract i q), .int .i64 i], .int .i64 0]) (by simp [results, Tryd.results29, go_sem]) rfl (post_letter_ok hi HLET.out HE.out h24 below1)
        · have h24' : 24 < (q : Int) - (i : Int) := by omega
          go_wp2_with (first | (go_at_call 42; refine (HQ.out _).mono ?_; rintro e w1 ⟨rfl, rfl⟩) | (go_at_call 38; refine (HD.out _).mono ?_; rintro e w1 ⟨rfl, rfl⟩))
          exact bodyPost_ret (v := .tuple #[.agg #[.int .i64 0, .string ⟨#[]⟩, .int .i64 0], .int .i64 3]) (by simp [results, Tryd.results29, go_sem]) rfl (post_letter_bad hi HLET.out HE.out h24 below1)
    · obtain rfl : q = s.size := by omega
      have hst := spanEnd_out isWithin s.data.toList s.size (by rw [HL.out]; omega)
      have HE := Lib.hid (hst.symm.trans hsq.out); clear hst hsq
      by_cases h24 : s.size - i ≤ 24
      · have h24' : (s.size : Int) - (i : Int) ≤ 24 := by omega
        go_wp2
        exact bodyPost_ret (v := .tuple #[.agg #[.int .i64 1, .string (s.extract i s.size), .int .i64 i], .int .i64 0]) (by simp [results, Tryd.results29, go_sem]) rfl (post_letter_ok hi HLET.out HE.out h24 below1)
      · have h24' : 24 < (s.size : Int) - (i : Int) := by omega
        go_wp2
        exact bodyPost_ret (v := .tuple #[.agg #[.int .i64 0, .string ⟨#[]⟩, .int .i64 0], .int .i64 3]) (by simp [results, Tryd.results29, go_sem]) rfl (post_letter_bad hi HLET.out HE.out h24 below1)
end Go.Proofs.YtaccooeodimdaaaDoor
