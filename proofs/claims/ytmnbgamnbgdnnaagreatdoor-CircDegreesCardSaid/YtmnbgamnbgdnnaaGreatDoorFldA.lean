/- Primes from 3 to the greatest that is allowed: what field.Is and the reference's Is answer. -/
import Derived.WalkKit
import Derived.ProofKit
import Derived.Deep.LoopGhost
import Derived.Deep.CutBlock
import Derived.Below
import Derived.Lib.Hide
import Derived.Test.YtmnbgamnbgdnnaaGreatDoorProg
namespace Go.Proofs.YtmnbgamnbgdnnaaGreatDoor
open Go.RowKit

/-- p is a prime from 3 to 65537. -/
def isP (p : Nat) : Bool := decide (3 ≤ p) && decide (p ≤ 65537) && (List.range p).all fun d => decide (d < 2) || decide (p < d * d) || decide (p % d ≠ 0)
theorem isP_iff (p : Nat) : isP p = true ↔ 3 ≤ p ∧ p ≤ 65537 ∧ ∀ d, 2 ≤ d → d * d ≤ p → p % d ≠ 0 := by
  simp only [isP, Bool.and_eq_true, decide_eq_true_eq, List.all_eq_true, List.mem_range, Bool.or_eq_true, and_assoc]
  refine and_congr_right fun h3 => and_congr_right fun hm => ⟨fun h d h2 hd => ?_, fun h d hd => ?_⟩
  · have hlt : d < p := by
      rcases Nat.lt_or_ge d p with h1 | h1
      · exact h1
      · have := Nat.mul_le_mul h1 h2; omega
    rcases h d hlt with (h1 | h1) | h1
    · omega
    · omega
    · exact h1
  · by_cases h2 : d < 2
    · exact .inl (.inl h2)
    · by_cases h4 : p < d * d
      · exact .inl (.inr h4)
      · exact .inr (h d (by omega) (by omega))
theorem isP_div {p d : Nat} (h2 : 2 ≤ d) (hd : d * d ≤ p) (h0 : p % d = 0) : isP p = false := by
  rw [Bool.eq_false_iff]
  intro h
  exact ((isP_iff p).1 h).2.2 d h2 hd h0
/-- An odd number has no even divisor: the odd ones are enough. -/
theorem isP_odd {p : Nat} (h3 : 3 ≤ p) (hm : p ≤ 65537) (h2 : p % 2 = 1) (h : ∀ d, 2 ≤ d → d % 2 = 1 → d * d ≤ p → p % d ≠ 0) : isP p = true := by
  rw [isP_iff]
  refine ⟨h3, hm, fun d hd hdd h0 => ?_⟩
  by_cases ho : d % 2 = 1
  · exact h d hd ho hdd h0
  · have hdv : 2 ∣ p := Nat.dvd_trans (Nat.dvd_of_mod_eq_zero (by omega)) (Nat.dvd_of_mod_eq_zero h0)
    have := Nat.mod_eq_zero_of_dvd hdv
    omega
theorem sq_facts' {d : Nat} (h : d ≤ 259) : ∃ q, q = d * d ∧ IntKind.u64.wrap ((d : Int) * (d : Int)) = (q : Int) := by
  have := Nat.mul_le_mul h h
  refine ⟨_, rfl, ?_⟩
  rw [← Int.natCast_mul]
  exact IntWalk.u64_in _ (by omega)
theorem sq_facts {d : Nat} (h : d ≤ 258) : ∃ q, q = d * d ∧ IntKind.u64.wrap ((d : Int) * (d : Int)) = (q : Int) := sq_facts' (by omega)
theorem sq_small {d p : Nat} (h : d * d ≤ p) (hp : p ≤ 65537) : d ≤ 257 := by
  rcases Nat.lt_or_ge d 258 with h1 | h1
  · omega
  · have := Nat.mul_le_mul h1 h1; omega
theorem ret_bl {a b : Bool} (h : a = b) : Ending.returned (.bool a) = .returned (.bool b) := by rw [h]
def BRet (b : Bool) (w : World) (e : Ending) (w' : World) : Prop := e = .returned (.bool b) ∧ w = w'
set_option maxHeartbeats 1000000 in
set_option maxRecDepth 100000 in
theorem rIs_any (p : Nat) (hp : p < 18446744073709551616) (w : World) : Calls Tryz.prog 39 #[.int .u64 p] w (BRet (isP p) w) := by
  have ip : (p : Int) ≤ 18446744073709551615 := by omega
  by_cases h3 : p < 3
  · have i3 : (p : Int) < 3 := by omega
    have hr : isP p = false := by simp [isP]; omega
    go_enter Tryz.func39, Tryz.ntmps39
    go_wp2
    go_ret
    exact ⟨ret_bl hr.symm, rfl⟩
  by_cases hm : 65537 < p
  · have i3 : (3 : Int) ≤ p := by omega
    have im : (65537 : Int) < p := by omega
    have hr : isP p = false := by simp [isP]; omega
    go_enter Tryz.func39, Tryz.ntmps39
    go_wp2
    go_ret
    exact ⟨ret_bl hr.symm, rfl⟩
  have i3 : (3 : Int) ≤ p := by omega
  have im : (p : Int) ≤ 65537 := by omega
  go_enter Tryz.func39, Tryz.ntmps39
  go_wp2
  go_loopg [3] 298 (fun g v wr => ∃ d : Nat, 2 ≤ d ∧ d ≤ 258 ∧ g = 300 - d ∧ v = .int .u64 d ∧ Hid (∀ e, 2 ≤ e → e < d → p % e ≠ 0) ∧ w = wr)
  case atStart => exact ⟨2, by omega, by omega, rfl, rfl, (fun e h1 h2 => by omega), rfl⟩
  case round =>
    obtain ⟨d, hd2, hd8, rfl, rfl, hno, rfl⟩ := hrel
    obtain ⟨q, hq, hw⟩ := sq_facts hd8
    by_cases hle : q ≤ p
    · have hle' : (q : Int) ≤ (p : Int) := by omega
      have hdq : d * d ≤ p := by omega
      have HDQ := Lib.hid hdq; clear hdq
      have HQ := Lib.hid hq; clear hq
      by_cases h0 : p % d = 0
      · have i0 : ((p : Int) % (d : Int) == 0) = true := by rw [beq_iff_eq]; omega
        have HR := Lib.hid (isP_div hd2 HDQ.out h0)
        clear hno h0
        go_wp2
        go_ret
        exact ⟨ret_bl HR.out.symm, rfl⟩
      · have i0 : ((p : Int) % (d : Int) == 0) = false := by rw [beq_eq_false_iff_ne]; omega
        have hd7 : d ≤ 257 := sq_small HDQ.out (by omega)
        have HN : Hid (∀ e, 2 ≤ e → e < d + 1 → p % e ≠ 0) := Lib.hid fun e h1 h2 => by
          rcases Nat.lt_or_ge e d with h4 | h4
          · exact hno.out e h1 h4
          · obtain rfl : e = d := by omega
            exact h0
        clear hno h0
        go_wp2
        go_roundg (300 - (d + 1))
        case measure => omega
        case rel => exact ⟨d + 1, by omega, by omega, rfl, by go_num, HN.out, rfl⟩
    · have hgt' : (p : Int) < (q : Int) := by omega
      have hr : isP p = true := by
        rw [isP_iff]
        refine ⟨by omega, by omega, fun e he hee => hno.out e he ?_⟩
        rcases Nat.lt_or_ge e d with h4 | h4
        · exact h4
        · have := Nat.mul_le_mul h4 h4; omega
      have HR := Lib.hid hr; clear hr hno hq
      go_wp2
      go_ret
      exact ⟨ret_bl HR.out.symm, rfl⟩
set_option maxHeartbeats 1000000 in
set_option maxRecDepth 100000 in
theorem is_any (p : Nat) (hp : p < 18446744073709551616) (w : World) : Calls Tryz.prog 34 #[.int .u64 p] w (BRet (isP p) w) := by
  have ip : (p : Int) ≤ 18446744073709551615 := by omega
  by_cases h3 : p < 3
  · have i3 : (p : Int) < 3 := by omega
    have hr : isP p = false := by simp [isP]; omega
    go_enter Tryz.func34, Tryz.ntmps34
    go_wp2
    go_ret
    exact ⟨ret_bl hr.symm, rfl⟩
  by_cases hm : 65537 < p
  · have i3 : (3 : Int) ≤ p := by omega
    have im : (65537 : Int) < p := by omega
    have hr : isP p = false := by simp [isP]; omega
    go_enter Tryz.func34, Tryz.ntmps34
    go_wp2
    go_ret
    exact ⟨ret_bl hr.symm, rfl⟩
  have i3 : (3 : Int) ≤ p := by omega
  have im : (p : Int) ≤ 65537 := by omega
  by_cases h2 : p % 2 = 0
  · have i2 : ((p : Int) % 2 == 0) = true := by rw [beq_iff_eq]; omega
    have hr : isP p = false := by
      by_cases h4 : 4 ≤ p
      · exact isP_div (d := 2) (by omega) (by omega) h2
      · omega
    go_enter Tryz.func34, Tryz.ntmps34
    go_wp2
    go_ret
    exact ⟨ret_bl hr.symm, rfl⟩
  have i2 : ((p : Int) % 2 == 0) = false := by rw [beq_eq_false_iff_ne]; omega
  go_enter Tryz.func34, Tryz.ntmps34
  go_wp2
  go_loopg [3] 297 (fun g v wr => ∃ d : Nat, 3 ≤ d ∧ d ≤ 259 ∧ d % 2 = 1 ∧ g = 300 - d ∧ v = .int .u64 d ∧ Hid (∀ e, 2 ≤ e → e % 2 = 1 → e < d → p % e ≠ 0) ∧ w = wr)
  case atStart => exact ⟨3, by omega, by omega, by omega, rfl, rfl, (fun e h1 h2 h3 => by omega), rfl⟩
  case round =>
    obtain ⟨d, hd2, hd8, hodd, rfl, rfl, hno, rfl⟩ := hrel
    obtain ⟨q, hq, hw⟩ := sq_facts' hd8
    by_cases hle : q ≤ p
    · have hle' : (q : Int) ≤ (p : Int) := by omega
      have hdq : d * d ≤ p := by omega
      have HDQ := Lib.hid hdq; clear hdq
      have HQ := Lib.hid hq; clear hq
      by_cases h0 : p % d = 0
      · have i0 : ((p : Int) % (d : Int) == 0) = true := by rw [beq_iff_eq]; omega
        have HR := Lib.hid (isP_div (by omega) HDQ.out h0)
        clear hno h0
        go_wp2
        go_ret
        exact ⟨ret_bl HR.out.symm, rfl⟩
      · have i0 : ((p : Int) % (d : Int) == 0) = false := by rw [beq_eq_false_iff_ne]; omega
        have hd7 : d ≤ 257 := sq_small HDQ.out (by omega)
        have HN : Hid (∀ e, 2 ≤ e → e % 2 = 1 → e < d + 2 → p % e ≠ 0) := Lib.hid fun e h1 h2 h3 => by
          rcases Nat.lt_or_ge e d with h4 | h4
          · exact hno.out e h1 h2 h4
          · obtain rfl : e = d := by omega
            exact h0
        clear hno h0
        go_wp2
        go_roundg (300 - (d + 2))
        case measure => omega
        case rel => exact ⟨d + 2, by omega, by omega, by omega, rfl, by go_num, HN.out, rfl⟩
    · have hgt' : (p : Int) < (q : Int) := by omega
      have hr : isP p = true := isP_odd (by omega) (by omega) (by omega) fun e he ho hee => hno.out e he ho (by
        rcases Nat.lt_or_ge e d with h4 | h4
        · exact h4
        · have := Nat.mul_le_mul h4 h4; omega)
      have HR := Lib.hid hr; clear hr hno hq
      go_wp2
      go_ret
      exact ⟨ret_bl HR.out.symm, rfl⟩
end Go.Proofs.YtmnbgamnbgdnnaaGreatDoor
