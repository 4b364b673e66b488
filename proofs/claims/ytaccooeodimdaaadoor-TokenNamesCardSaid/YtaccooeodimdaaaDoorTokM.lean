/- Contracts of the reference's word: numbers and signs. -/
import Derived.Test.YtaccooeodimdaaaDoorTokL
namespace Go.Proofs.YtaccooeodimdaaaDoor
open Go.RowKit

set_option maxHeartbeats 1000000 in
set_option maxRecDepth 100000 in
theorem rword_digit (s : ByteArray) (hs : s.size ≤ 9223372036854775807) (i : Nat) (hi : i < s.size) (w : World) (hL : isLetter (s[i].toNat : Int) = false) (hD : isDigit (s[i].toNat : Int) = true) : Calls Tryd.prog 29 #[.string s, .int .i64 i] w (WordPost s i w) := by
  have hl := data_len s
  have HL := Lib.hid hl; clear hl
  have hlt' : i < s.data.toList.length := by rw [HL.out]; exact hi
  have h1 := spanEnd_ge isDigit s.data.toList i
  have h2 := spanEnd_le isDigit s.data.toList i (by omega)
  rw [HL.out] at h2
  obtain ⟨_, h2⟩ := h2
  have hlet := fun W => rletter_any (s[i].toNat : Int) W
  rw [hL] at hlet
  have HT := Lib.hid hlet; clear hlet
  have hdig := fun W => rdigit_any (s[i].toNat : Int) W
  rw [hD] at hdig
  have HG := Lib.hid hdig; clear hdig
  have HLET := Lib.hid hL; clear hL
  have HDIG := Lib.hid hD; clear hD
  go_enter Tryd.func29, Tryd.ntmps29
  go_wp2_with (first | (go_at_call 42; refine (HT.out _).mono ?_; rintro e w1 ⟨rfl, rfl⟩) | (go_at_call 38; refine (HG.out _).mono ?_; rintro e w1 ⟨rfl, rfl⟩))
  go_loopg [6] (s.size - i) (fun g a wr => ∃ q : Nat, q ≤ s.size ∧ i ≤ q ∧ g = s.size - q ∧ a = .int .i64 q ∧ Hid (spanEnd isDigit s.data.toList q = spanEnd isDigit s.data.toList i) ∧ w.alloc (.cells #[.int .i64 0, .string ⟨#[]⟩, .int .i64 0] 32) = wr)
  case atStart => exact ⟨i, by omega, by omega, rfl, rfl, rfl, rfl⟩
  case round =>
    obtain ⟨q, hq, hiq, rfl, rfl, hsq, rfl⟩ := hrel
    by_cases hql : q < s.size
    · have hql' : q < s.data.toList.length := by rw [HL.out]; exact hql
      have hdq := fun W => rdigit_any (s[q].toNat : Int) W
      rcases Bool.eq_false_or_eq_true (isDigit (s[q].toNat : Int)) with hd2 | hd2
      · have hst := spanEnd_yes isDigit s.data.toList q hql' hd2
        have HE := Lib.hid (hst.symm.trans hsq.out); clear hst hsq
        rw [hd2] at hdq
        have HD := Lib.hid hdq; clear hdq hd2
        go_wp2_with (go_at_call 38; refine (HD.out _).mono ?_; rintro e w1 ⟨rfl, rfl⟩)
        go_roundg (s.size - (q + 1))
        case measure => omega
        case rel => exact ⟨q + 1, by omega, by omega, rfl, by go_num, HE.out, rfl⟩
      · have hst := spanEnd_no isDigit s.data.toList q hql' hd2
        have HE := Lib.hid (hst.symm.trans hsq.out); clear hst hsq
        rw [hd2] at hdq
        have HD := Lib.hid hdq; clear hdq hd2
        have hnum := fun W => rnumber_any (s.extract i q) (by rw [ByteArray.size_extract]; omega) W
        have HN := Lib.hid hnum; clear hnum
        have h03 := num_span s i hi HDIG.out
        rw [← HE.out] at h03
        rcases h03 with h0 | h3
        · have h0' : ((numOf (s.extract i q).data.toList).2 == 0) = true := by simpa using h0
          have H0 := Lib.hid h0; clear h0
          go_wp2_with (first | (go_at_call 38; refine (HD.out _).mono ?_; rintro e w1 ⟨rfl, rfl⟩) | (go_at_call 20; refine (HN.out _).mono ?_; rintro e w1 ⟨rfl, rfl⟩; rw [H0.out]))
          exact bodyPost_ret (v := .tuple #[.agg #[.int .i64 2, .string (s.extract i q), .int .i64 i], .int .i64 0]) (by simp [results, Tryd.results29, go_sem]) rfl (post_digit_ok hi HLET.out HDIG.out HE.out H0.out below1)
        · have H3 := Lib.hid h3; clear h3
          go_wp2_with (first | (go_at_call 38; refine (HD.out _).mono ?_; rintro e w1 ⟨rfl, rfl⟩) | (go_at_call 20; refine (HN.out _).mono ?_; rintro e w1 ⟨rfl, rfl⟩; rw [H3.out]))
          exact bodyPost_ret (v := .tuple #[.agg #[.int .i64 0, .string ⟨#[]⟩, .int .i64 0], .int .i64 3]) (by simp [results, Tryd.results29, go_sem]) rfl (post_digit_bad hi HLET.out HDIG.out HE.out H3.out below1)
    · obtain rfl : q = s.size := by omega
      have hst := spanEnd_out isDigit s.data.toList s.size (by rw [HL.out]; omega)
      have HE := Lib.hid (hst.symm.trans hsq.out); clear hst hsq
      have hnum := fun W => rnumber_any (s.extract i s.size) (by rw [ByteArray.size_extract]; omega) W
      have HN := Lib.hid hnum; clear hnum
      have h03 := num_span s i hi HDIG.out
      rw [← HE.out] at h03
      rcases h03 with h0 | h3
      · have H0 := Lib.hid h0; clear h0
        go_wp2_with (first | (go_at_call 20; refine (HN.out _).mono ?_; rintro e w1 ⟨rfl, rfl⟩; rw [H0.out]))
        exact bodyPost_ret (v := .tuple #[.agg #[.int .i64 2, .string (s.extract i s.size), .int .i64 i], .int .i64 0]) (by simp [results, Tryd.results29, go_sem]) rfl (post_digit_ok hi HLET.out HDIG.out HE.out H0.out below1)
      · have H3 := Lib.hid h3; clear h3
        go_wp2_with (first | (go_at_call 20; refine (HN.out _).mono ?_; rintro e w1 ⟨rfl, rfl⟩; rw [H3.out]))
        exact bodyPost_ret (v := .tuple #[.agg #[.int .i64 0, .string ⟨#[]⟩, .int .i64 0], .int .i64 3]) (by simp [results, Tryd.results29, go_sem]) rfl (post_digit_bad hi HLET.out HDIG.out HE.out H3.out below1)

/-- The reference's signs, as it lists them. -/
def rsigns : List ByteArray := [⟨#[61, 61]⟩, ⟨#[40]⟩, ⟨#[41]⟩, ⟨#[91]⟩, ⟨#[93]⟩, ⟨#[123]⟩, ⟨#[125]⟩, ⟨#[44]⟩, ⟨#[58]⟩, ⟨#[59]⟩, ⟨#[61]⟩, ⟨#[60]⟩, ⟨#[43]⟩, ⟨#[45]⟩, ⟨#[42]⟩, ⟨#[38]⟩, ⟨#[124]⟩, ⟨#[94]⟩, ⟨#[33]⟩]
def signCells : Array Value := (rsigns.map Value.string).toArray
set_option maxRecDepth 100000 in
theorem rsigns_any (w : World) : Calls Tryd.prog 33 #[] w fun e w' => e = .returned (.slice (some ⟨w.heap.size, 0, none⟩) 19 19) ∧ w.alloc (.cells signCells 9) = w' := by
  go_enter Tryd.func33, Tryd.ntmps33
  go_wp2
  go_ret
  exact ⟨rfl, rfl⟩
end Go.Proofs.YtaccooeodimdaaaDoor
