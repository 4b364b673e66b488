/- Contracts of sums, differences and products of a prime's numbers. -/
import Derived.Test.YtmnbgamnbgdnnaaGreatDoorFldA
namespace Go.Proofs.YtmnbgamnbgdnnaaGreatDoor
open Go.RowKit

theorem ret_u {x y : Int} (h : x = y) : Ending.returned (.int .u64 x) = .returned (.int .u64 y) := by rw [h]
theorem mul_facts {p a b : Nat} (hp : p ≤ 65537) (ha : a ≤ p) (hb : b ≤ p) : ∃ q, q = a * b ∧ q ≤ 4295098369 ∧ IntKind.u64.wrap ((a : Int) * (b : Int)) = (q : Int) := by
  have := Nat.mul_le_mul (Nat.le_trans ha hp) (Nat.le_trans hb hp)
  refine ⟨_, rfl, this, ?_⟩
  rw [← Int.natCast_mul]
  exact IntWalk.u64_in _ (by omega)
section
variable (p a b : Nat) (h0 : 0 < p) (hp : p ≤ 65537) (ha : a < p) (hb : b < p) (w : World)
include h0 hp ha hb
set_option maxRecDepth 100000 in
theorem radd_any : Calls Tryz.prog 28 #[.int .u64 p, .int .u64 a, .int .u64 b] w fun e w' => e = .returned (.int .u64 ((a + b) % p : Nat)) ∧ w = w' := by
  go_enter Tryz.func28, Tryz.ntmps28
  go_wp2
  go_ret
  exact ⟨ret_u (by simp), rfl⟩
set_option maxRecDepth 100000 in
theorem rsub_any : Calls Tryz.prog 47 #[.int .u64 p, .int .u64 a, .int .u64 b] w fun e w' => e = .returned (.int .u64 ((a + p - b) % p : Nat)) ∧ w = w' := by
  have hs : ((a + p - b : Nat) : Int) = (a : Int) + p - b := by omega
  go_enter Tryz.func47, Tryz.ntmps47
  go_wp2
  go_ret
  exact ⟨ret_u (by rw [Int.natCast_emod, hs]), rfl⟩
set_option maxRecDepth 100000 in
theorem rmul_any : Calls Tryz.prog 48 #[.int .u64 p, .int .u64 a, .int .u64 b] w fun e w' => e = .returned (.int .u64 (a * b % p : Nat)) ∧ w = w' := by
  obtain ⟨q, hq, hq1, hw⟩ := mul_facts hp (Nat.le_of_lt ha) (Nat.le_of_lt hb)
  rw [← hq]
  clear hq
  go_enter Tryz.func48, Tryz.ntmps48
  go_wp2
  go_ret
  exact ⟨ret_u (by simp), rfl⟩
set_option maxRecDepth 100000 in
theorem mul_any : Calls Tryz.prog 98 #[.int .u64 p, .int .u64 a, .int .u64 b] w fun e w' => e = .returned (.int .u64 (a * b % p : Nat)) ∧ w = w' := by
  obtain ⟨q, hq, hq1, hw⟩ := mul_facts hp (Nat.le_of_lt ha) (Nat.le_of_lt hb)
  rw [← hq]
  clear hq
  go_enter Tryz.func98, Tryz.ntmps98
  go_wp2
  go_ret
  exact ⟨ret_u (by simp), rfl⟩
set_option maxRecDepth 100000 in
theorem times_any : Calls Tryz.prog 83 #[.int .u64 p, .int .u64 a, .int .u64 b] w fun e w' => e = .returned (.int .u64 (a * b % p : Nat)) ∧ w = w' := by
  have HM := Lib.hid (mul_any p a b h0 hp ha hb w)
  go_enter Tryz.func83, Tryz.ntmps83
  go_wp2_with (go_at_call 98; refine HM.out.mono ?_; rintro e w1 ⟨rfl, rfl⟩)
  go_ret
  exact ⟨rfl, rfl⟩
set_option maxRecDepth 100000 in
theorem plus_any : Calls Tryz.prog 81 #[.int .u64 p, .int .u64 a, .int .u64 b] w fun e w' => e = .returned (.int .u64 ((a + b) % p : Nat)) ∧ w = w' := by
  by_cases h : a + b < p
  · have i1 : (a : Int) + b < p := by omega
    have hm : (a + b) % p = a + b := Nat.mod_eq_of_lt h
    go_enter Tryz.func81, Tryz.ntmps81
    go_wp2
    go_ret
    exact ⟨ret_u (by rw [hm]; simp), rfl⟩
  · have i1 : (p : Int) ≤ (a : Int) + b := by omega
    have hm : (a + b) % p = a + b - p := by rw [Nat.mod_eq_sub_mod (by omega), Nat.mod_eq_of_lt (by omega)]
    go_enter Tryz.func81, Tryz.ntmps81
    go_wp2
    go_ret
    exact ⟨ret_u (by rw [hm]; omega), rfl⟩
end
theorem sub_facts {p a b : Nat} (h0 : 0 < p) (hb : b < p) : ∃ r : Nat, ((p : Int) - b) % p = r ∧ r < p ∧ (a + r) % p = (a + p - b) % p := by
  refine ⟨(p - b) % p, ?_, Nat.mod_lt _ h0, ?_⟩
  · rw [Int.natCast_emod, Int.ofNat_sub (Nat.le_of_lt hb)]
  · rw [Nat.add_mod, Nat.mod_mod, ← Nat.add_mod, Nat.add_sub_assoc (Nat.le_of_lt hb)]
set_option maxRecDepth 100000 in
theorem minus_any (p a b : Nat) (h0 : 0 < p) (hp : p ≤ 65537) (ha : a < p) (hb : b < p) (w : World) : Calls Tryz.prog 82 #[.int .u64 p, .int .u64 a, .int .u64 b] w fun e w' => e = .returned (.int .u64 ((a + p - b) % p : Nat)) ∧ w = w' := by
  obtain ⟨r, e1, hr, e2⟩ := sub_facts (a := a) h0 hb
  have hpl := plus_any p a r h0 hp ha hr w
  rw [e2] at hpl
  have HP := Lib.hid hpl
  clear hpl e2
  go_enter Tryz.func82, Tryz.ntmps82
  go_wp2_with (go_at_call 81; refine HP.out.mono ?_; rintro e w1 ⟨rfl, rfl⟩)
  go_ret
  exact ⟨rfl, rfl⟩
end Go.Proofs.YtmnbgamnbgdnnaaGreatDoor
