/- Contracts of package token's classes of bytes. -/
import Derived.Test.YtaccooeodimdaaaDoorProg
import Derived.WalkKit
import Derived.WalkLawsBesides
import Derived.WalkSpells
import Derived.Lib.Hide
import Derived.Deep.QuietTactic
import Derived.BigQuiet
namespace Go.Proofs.YtaccooeodimdaaaDoor
open Go.RowKit

theorem ret_b {a b : Bool} (h : a = b) : Ending.returned (.bool a) = .returned (.bool b) := by rw [h]

/-- What a byte is, as the program's text has it. -/
def isLetter (c : Int) : Bool := decide (97 ≤ c) && decide (c ≤ 122)
def isDigit (c : Int) : Bool := decide (48 ≤ c) && decide (c ≤ 57)
def isBlank (c : Int) : Bool := c == 32 || c == 9 || c == 10 || c == 13
def isWithin (c : Int) : Bool := isLetter c || isDigit c || c == 95

theorem letter_any (c : Int) (w : World) : Calls Tryd.prog 40 #[.int .u8 c] w fun e w' => e = .returned (.bool (isLetter c)) ∧ w = w' := by
  by_cases h1 : 97 ≤ c
  · go_enter Tryd.func40, Tryd.ntmps40
    go_wp2
    go_ret
    exact ⟨ret_b (by simp [isLetter, h1]), rfl⟩
  · have h1' : c < 97 := by omega
    go_enter Tryd.func40, Tryd.ntmps40
    go_wp2
    go_ret
    exact ⟨ret_b (by simp [isLetter]; omega), rfl⟩
theorem digit_any (c : Int) (w : World) : Calls Tryd.prog 36 #[.int .u8 c] w fun e w' => e = .returned (.bool (isDigit c)) ∧ w = w' := by
  by_cases h1 : 48 ≤ c
  · go_enter Tryd.func36, Tryd.ntmps36
    go_wp2
    go_ret
    exact ⟨ret_b (by simp [isDigit, h1]), rfl⟩
  · have h1' : c < 48 := by omega
    go_enter Tryd.func36, Tryd.ntmps36
    go_wp2
    go_ret
    exact ⟨ret_b (by simp [isDigit]; omega), rfl⟩
theorem blank_any (c : Int) (w : World) : Calls Tryd.prog 46 #[.int .u8 c] w fun e w' => e = .returned (.bool (isBlank c)) ∧ w = w' := by
  rcases Bool.eq_false_or_eq_true (c == 32) with h1 | h1 <;> rcases Bool.eq_false_or_eq_true (c == 9) with h2 | h2 <;> rcases Bool.eq_false_or_eq_true (c == 10) with h3 | h3
  all_goals
    go_enter Tryd.func46, Tryd.ntmps46
    go_wp2
    go_ret
    exact ⟨ret_b (by simp [isBlank, h1, h2, h3]), rfl⟩
theorem within_any (c : Int) (w : World) : Calls Tryd.prog 41 #[.int .u8 c] w fun e w' => e = .returned (.bool (isWithin c)) ∧ w = w' := by
  rcases Bool.eq_false_or_eq_true (isLetter c) with h1 | h1 <;> rcases Bool.eq_false_or_eq_true (isDigit c) with h2 | h2
  all_goals
    go_enter Tryd.func41, Tryd.ntmps41
    go_wp2_with (first | (go_at_call 40; refine (letter_any _ _).mono ?_; rintro e w' ⟨rfl, rfl⟩) | (go_at_call 36; refine (digit_any _ _).mono ?_; rintro e w' ⟨rfl, rfl⟩))
    go_ret
    exact ⟨ret_b (by simp [isWithin, h1, h2]), rfl⟩
end Go.Proofs.YtaccooeodimdaaaDoor
