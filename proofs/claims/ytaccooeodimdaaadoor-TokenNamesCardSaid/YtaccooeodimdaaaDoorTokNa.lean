/- Plain law of decimal digits: they are the number's numeral. -/
import Derived.Test.YtaccooeodimdaaaDoorTokDg
namespace Go.Proofs.YtaccooeodimdaaaDoor
open Go.RowKit

theorem dec_facts : ∀ (k u : Nat), u < 10 ^ (k + 1) → (Lib.decDigits u).length ≤ k + 1 ∧ Lib.decDigits u ≠ [] ∧ allDig (Lib.decDigits u) = true ∧ numVal (Lib.decDigits u) = u := by
  intro k
  induction k with
  | zero =>
    intro u h
    have h10 : u < 10 := by simpa using h
    rw [Lib.decDigits_one h10]
    refine ⟨by simp, by simp, ?_, ?_⟩
    · simp [allDig, isDigit]; omega
    · simp [numVal]; omega
  | succ k ih =>
    intro u h
    by_cases h10 : u < 10
    · rw [Lib.decDigits_one h10]
      refine ⟨by simp, by simp, ?_, ?_⟩
      · simp [allDig, isDigit]; omega
      · simp [numVal]; omega
    · obtain ⟨a1, a2, a3, a4⟩ := ih (u / 10) (by rw [Nat.pow_succ] at h; omega)
      rw [Lib.decDigits.eq_1 u, dif_neg h10]
      refine ⟨by simp; omega, by simp, ?_, ?_⟩
      · unfold allDig at *
        rw [List.all_append, a3]
        simp [isDigit]; omega
      · unfold numVal at *
        rw [List.foldl_append, a4]
        simp; omega
theorem num_dec (u : Nat) (hu : u < 18446744073709551616) : numOf (Lib.decDigits u) = if 4294967295 < u then (0, 3) else (u, 0) := by
  obtain ⟨_, a2, a3, a4⟩ := dec_facts 19 u (by omega)
  unfold numOf
  rw [if_neg (by simp [a2, a3]), a4]
  by_cases h : 4294967295 < u
  · rw [if_pos h]
    split <;> rfl
  · obtain ⟨a1, _⟩ := dec_facts 9 u (by omega)
    rw [if_neg (by omega), if_neg h]
end Go.Proofs.YtaccooeodimdaaaDoor
