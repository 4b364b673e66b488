/- Contracts and plain laws of chapter 12, merged: FldA FldB CirA FldC CirB CirC CirD CirE CirF CirG. -/
import Derived.WalkKit
import Derived.ProofKit
import Derived.Deep.LoopGhost
import Derived.Deep.CutBlock
import Derived.Below
import Derived.Lib.Hide
import Derived.Test.YtmnbgamnbgdnnaaGreatDoorProg
import Derived.Deep.QuietTactic
import Derived.BigQuiet
import Derived.Laws.AppendOwn
import Derived.Laws.OwnMore
/- Primes from 3 to the greatest that is allowed: what field.Is and the reference's Is answer. -/
namespace Go.Proofs.YtmnbgamnbgdnnaaGreatDoor
open Go.RowKit

/-- p is a prime from 3 to 65537. -/
def isP (p : Nat) : Bool := decide (3 ≤ p) && decide (p ≤ 65537) && (List.range p).all fun d => decide (d < 2) || decide (p < d * d) || decide (p % d ≠ 0)
theorem isP_iff (p : Nat) : isP p = true ↔ 3 ≤ p ∧ p ≤ 65537 ∧ ∀ d, 2 ≤ d → d * d ≤ p → p % d ≠ 0 := by
  simp only [isP, Bool.and_eq_true, decide_eq_true_eq, List.all_eq_true, List.mem_range, Bool.or_eq_true, and_assoc]
  refine and_congr_right fun h3 => and_congr_right fun hm => ⟨fun h d h2 hd => ?_, fun h d hd => ?_⟩
  · have hlt : d < p := by
      rcases Nat.lt_or_ge d p with h1 | h1
      · exact h1
      · have := Nat.mul_le_mul h1 h2; omega
    rcases h d hlt with (h1 | h1) | h1
    · omega
    · omega
    · exact h1
  · by_cases h2 : d < 2
    · exact .inl (.inl h2)
    · by_cases h4 : p < d * d
      · exact .inl (.inr h4)
      · exact .inr (h d (by omega) (by omega))
theorem isP_div {p d : Nat} (h2 : 2 ≤ d) (hd : d * d ≤ p) (h0 : p % d = 0) : isP p = false := by
  rw [Bool.eq_false_iff]
  intro h
  exact ((isP_iff p).1 h).2.2 d h2 hd h0
/-- An odd number has no even divisor: the odd ones are enough. -/
theorem isP_odd {p : Nat} (h3 : 3 ≤ p) (hm : p ≤ 65537) (h2 : p % 2 = 1) (h : ∀ d, 2 ≤ d → d % 2 = 1 → d * d ≤ p → p % d ≠ 0) : isP p = true := by
  rw [isP_iff]
  refine ⟨h3, hm, fun d hd hdd h0 => ?_⟩
  by_cases ho : d % 2 = 1
  · exact h d hd ho hdd h0
  · have hdv : 2 ∣ p := Nat.dvd_trans (Nat.dvd_of_mod_eq_zero (by omega)) (Nat.dvd_of_mod_eq_zero h0)
    have := Nat.mod_eq_zero_of_dvd hdv
    omega
theorem sq_facts' {d : Nat} (h : d ≤ 259) : ∃ q, q = d * d ∧ IntKind.u64.wrap ((d : Int) * (d : Int)) = (q : Int) := by
  have := Nat.mul_le_mul h h
  refine ⟨_, rfl, ?_⟩
  rw [← Int.natCast_mul]
  exact IntWalk.u64_in _ (by omega)
theorem sq_facts {d : Nat} (h : d ≤ 258) : ∃ q, q = d * d ∧ IntKind.u64.wrap ((d : Int) * (d : Int)) = (q : Int) := sq_facts' (by omega)
theorem sq_small {d p : Nat} (h : d * d ≤ p) (hp : p ≤ 65537) : d ≤ 257 := by
  rcases Nat.lt_or_ge d 258 with h1 | h1
  · omega
  · have := Nat.mul_le_mul h1 h1; omega
theorem ret_bl {a b : Bool} (h : a = b) : Ending.returned (.bool a) = .returned (.bool b) := by rw [h]
def BRet (b : Bool) (w : World) (e : Ending) (w' : World) : Prop := e = .returned (.bool b) ∧ w = w'
set_option maxHeartbeats 1000000 in
set_option maxRecDepth 100000 in
theorem rIs_any (p : Nat) (hp : p < 18446744073709551616) (w : World) : Calls Tryz.prog 39 #[.int .u64 p] w (BRet (isP p) w) := by
  have ip : (p : Int) ≤ 18446744073709551615 := by omega
  by_cases h3 : p < 3
  · have i3 : (p : Int) < 3 := by omega
    have hr : isP p = false := by simp [isP]; omega
    go_enter Tryz.func39, Tryz.ntmps39
    go_wp2
    go_ret
    exact ⟨ret_bl hr.symm, rfl⟩
  by_cases hm : 65537 < p
  · have i3 : (3 : Int) ≤ p := by omega
    have im : (65537 : Int) < p := by omega
    have hr : isP p = false := by simp [isP]; omega
    go_enter Tryz.func39, Tryz.ntmps39
    go_wp2
    go_ret
    exact ⟨ret_bl hr.symm, rfl⟩
  have i3 : (3 : Int) ≤ p := by omega
  have im : (p : Int) ≤ 65537 := by omega
  go_enter Tryz.func39, Tryz.ntmps39
  go_wp2
  go_loopg [3] 298 (fun g v wr => ∃ d : Nat, 2 ≤ d ∧ d ≤ 258 ∧ g = 300 - d ∧ v = .int .u64 d ∧ Hid (∀ e, 2 ≤ e → e < d → p % e ≠ 0) ∧ w = wr)
  case atStart => exact ⟨2, by omega, by omega, rfl, rfl, (fun e h1 h2 => by omega), rfl⟩
  case round =>
    obtain ⟨d, hd2, hd8, rfl, rfl, hno, rfl⟩ := hrel
    obtain ⟨q, hq, hw⟩ := sq_facts hd8
    by_cases hle : q ≤ p
    · have hle' : (q : Int) ≤ (p : Int) := by omega
      have hdq : d * d ≤ p := by omega
      have HDQ := Lib.hid hdq; clear hdq
      have HQ := Lib.hid hq; clear hq
      by_cases h0 : p % d = 0
      · have i0 : ((p : Int) % (d : Int) == 0) = true := by rw [beq_iff_eq]; omega
        have HR := Lib.hid (isP_div hd2 HDQ.out h0)
        clear hno h0
        go_wp2
        go_ret
        exact ⟨ret_bl HR.out.symm, rfl⟩
      · have i0 : ((p : Int) % (d : Int) == 0) = false := by rw [beq_eq_false_iff_ne]; omega
        have hd7 : d ≤ 257 := sq_small HDQ.out (by omega)
        have HN : Hid (∀ e, 2 ≤ e → e < d + 1 → p % e ≠ 0) := Lib.hid fun e h1 h2 => by
          rcases Nat.lt_or_ge e d with h4 | h4
          · exact hno.out e h1 h4
          · obtain rfl : e = d := by omega
            exact h0
        clear hno h0
        go_wp2
        go_roundg (300 - (d + 1))
        case measure => omega
        case rel => exact ⟨d + 1, by omega, by omega, rfl, by go_num, HN.out, rfl⟩
    · have hgt' : (p : Int) < (q : Int) := by omega
      have hr : isP p = true := by
        rw [isP_iff]
        refine ⟨by omega, by omega, fun e he hee => hno.out e he ?_⟩
        rcases Nat.lt_or_ge e d with h4 | h4
        · exact h4
        · have := Nat.mul_le_mul h4 h4; omega
      have HR := Lib.hid hr; clear hr hno hq
      go_wp2
      go_ret
      exact ⟨ret_bl HR.out.symm, rfl⟩
set_option maxHeartbeats 1000000 in
set_option maxRecDepth 100000 in
theorem is_any (p : Nat) (hp : p < 18446744073709551616) (w : World) : Calls Tryz.prog 34 #[.int .u64 p] w (BRet (isP p) w) := by
  have ip : (p : Int) ≤ 18446744073709551615 := by omega
  by_cases h3 : p < 3
  · have i3 : (p : Int) < 3 := by omega
    have hr : isP p = false := by simp [isP]; omega
    go_enter Tryz.func34, Tryz.ntmps34
    go_wp2
    go_ret
    exact ⟨ret_bl hr.symm, rfl⟩
  by_cases hm : 65537 < p
  · have i3 : (3 : Int) ≤ p := by omega
    have im : (65537 : Int) < p := by omega
    have hr : isP p = false := by simp [isP]; omega
    go_enter Tryz.func34, Tryz.ntmps34
    go_wp2
    go_ret
    exact ⟨ret_bl hr.symm, rfl⟩
  have i3 : (3 : Int) ≤ p := by omega
  have im : (p : Int) ≤ 65537 := by omega
  by_cases h2 : p % 2 = 0
  · have i2 : ((p : Int) % 2 == 0) = true := by rw [beq_iff_eq]; omega
    have hr : isP p = false := by
      by_cases h4 : 4 ≤ p
      · exact isP_div (d := 2) (by omega) (by omega) h2
      · omega
    go_enter Tryz.func34, Tryz.ntmps34
    go_wp2
    go_ret
    exact ⟨ret_bl hr.symm, rfl⟩
  have i2 : ((p : Int) % 2 == 0) = false := by rw [beq_eq_false_iff_ne]; omega
  go_enter Tryz.func34, Tryz.ntmps34
  go_wp2
  go_loopg [3] 297 (fun g v wr => ∃ d : Nat, 3 ≤ d ∧ d ≤ 259 ∧ d % 2 = 1 ∧ g = 300 - d ∧ v = .int .u64 d ∧ Hid (∀ e, 2 ≤ e → e % 2 = 1 → e < d → p % e ≠ 0) ∧ w = wr)
  case atStart => exact ⟨3, by omega, by omega, by omega, rfl, rfl, (fun e h1 h2 h3 => by omega), rfl⟩
  case round =>
    obtain ⟨d, hd2, hd8, hodd, rfl, rfl, hno, rfl⟩ := hrel
    obtain ⟨q, hq, hw⟩ := sq_facts' hd8
    by_cases hle : q ≤ p
    · have hle' : (q : Int) ≤ (p : Int) := by omega
      have hdq : d * d ≤ p := by omega
      have HDQ := Lib.hid hdq; clear hdq
      have HQ := Lib.hid hq; clear hq
      by_cases h0 : p % d = 0
      · have i0 : ((p : Int) % (d : Int) == 0) = true := by rw [beq_iff_eq]; omega
        have HR := Lib.hid (isP_div (by omega) HDQ.out h0)
        clear hno h0
        go_wp2
        go_ret
        exact ⟨ret_bl HR.out.symm, rfl⟩
      · have i0 : ((p : Int) % (d : Int) == 0) = false := by rw [beq_eq_false_iff_ne]; omega
        have hd7 : d ≤ 257 := sq_small HDQ.out (by omega)
        have HN : Hid (∀ e, 2 ≤ e → e % 2 = 1 → e < d + 2 → p % e ≠ 0) := Lib.hid fun e h1 h2 h3 => by
          rcases Nat.lt_or_ge e d with h4 | h4
          · exact hno.out e h1 h2 h4
          · obtain rfl : e = d := by omega
            exact h0
        clear hno h0
        go_wp2
        go_roundg (300 - (d + 2))
        case measure => omega
        case rel => exact ⟨d + 2, by omega, by omega, by omega, rfl, by go_num, HN.out, rfl⟩
    · have hgt' : (p : Int) < (q : Int) := by omega
      have hr : isP p = true := isP_odd (by omega) (by omega) (by omega) fun e he ho hee => hno.out e he ho (by
        rcases Nat.lt_or_ge e d with h4 | h4
        · exact h4
        · have := Nat.mul_le_mul h4 h4; omega)
      have HR := Lib.hid hr; clear hr hno hq
      go_wp2
      go_ret
      exact ⟨ret_bl HR.out.symm, rfl⟩
end Go.Proofs.YtmnbgamnbgdnnaaGreatDoor

/- Contracts of sums, differences and products of a prime's numbers. -/
namespace Go.Proofs.YtmnbgamnbgdnnaaGreatDoor
open Go.RowKit

theorem ret_u {x y : Int} (h : x = y) : Ending.returned (.int .u64 x) = .returned (.int .u64 y) := by rw [h]
theorem mul_facts {p a b : Nat} (hp : p ≤ 65537) (ha : a ≤ p) (hb : b ≤ p) : ∃ q, q = a * b ∧ q ≤ 4295098369 ∧ IntKind.u64.wrap ((a : Int) * (b : Int)) = (q : Int) := by
  have := Nat.mul_le_mul (Nat.le_trans ha hp) (Nat.le_trans hb hp)
  refine ⟨_, rfl, this, ?_⟩
  rw [← Int.natCast_mul]
  exact IntWalk.u64_in _ (by omega)
section
variable (p a b : Nat) (h0 : 0 < p) (hp : p ≤ 65537) (ha : a < p) (hb : b < p) (w : World)
include h0 hp ha hb
set_option maxRecDepth 100000 in
theorem radd_any : Calls Tryz.prog 28 #[.int .u64 p, .int .u64 a, .int .u64 b] w fun e w' => e = .returned (.int .u64 ((a + b) % p : Nat)) ∧ w = w' := by
  go_enter Tryz.func28, Tryz.ntmps28
  go_wp2
  go_ret
  exact ⟨ret_u (by simp), rfl⟩
set_option maxRecDepth 100000 in
theorem rsub_any : Calls Tryz.prog 47 #[.int .u64 p, .int .u64 a, .int .u64 b] w fun e w' => e = .returned (.int .u64 ((a + p - b) % p : Nat)) ∧ w = w' := by
  have hs : ((a + p - b : Nat) : Int) = (a : Int) + p - b := by omega
  go_enter Tryz.func47, Tryz.ntmps47
  go_wp2
  go_ret
  exact ⟨ret_u (by rw [Int.natCast_emod, hs]), rfl⟩
set_option maxRecDepth 100000 in
theorem rmul_any : Calls Tryz.prog 48 #[.int .u64 p, .int .u64 a, .int .u64 b] w fun e w' => e = .returned (.int .u64 (a * b % p : Nat)) ∧ w = w' := by
  obtain ⟨q, hq, hq1, hw⟩ := mul_facts hp (Nat.le_of_lt ha) (Nat.le_of_lt hb)
  rw [← hq]
  clear hq
  go_enter Tryz.func48, Tryz.ntmps48
  go_wp2
  go_ret
  exact ⟨ret_u (by simp), rfl⟩
set_option maxRecDepth 100000 in
theorem mul_any : Calls Tryz.prog 98 #[.int .u64 p, .int .u64 a, .int .u64 b] w fun e w' => e = .returned (.int .u64 (a * b % p : Nat)) ∧ w = w' := by
  obtain ⟨q, hq, hq1, hw⟩ := mul_facts hp (Nat.le_of_lt ha) (Nat.le_of_lt hb)
  rw [← hq]
  clear hq
  go_enter Tryz.func98, Tryz.ntmps98
  go_wp2
  go_ret
  exact ⟨ret_u (by simp), rfl⟩
set_option maxRecDepth 100000 in
theorem times_any : Calls Tryz.prog 83 #[.int .u64 p, .int .u64 a, .int .u64 b] w fun e w' => e = .returned (.int .u64 (a * b % p : Nat)) ∧ w = w' := by
  have HM := Lib.hid (mul_any p a b h0 hp ha hb w)
  go_enter Tryz.func83, Tryz.ntmps83
  go_wp2_with (go_at_call 98; refine HM.out.mono ?_; rintro e w1 ⟨rfl, rfl⟩)
  go_ret
  exact ⟨rfl, rfl⟩
set_option maxRecDepth 100000 in
theorem plus_any : Calls Tryz.prog 81 #[.int .u64 p, .int .u64 a, .int .u64 b] w fun e w' => e = .returned (.int .u64 ((a + b) % p : Nat)) ∧ w = w' := by
  by_cases h : a + b < p
  · have i1 : (a : Int) + b < p := by omega
    have hm : (a + b) % p = a + b := Nat.mod_eq_of_lt h
    go_enter Tryz.func81, Tryz.ntmps81
    go_wp2
    go_ret
    exact ⟨ret_u (by rw [hm]; simp), rfl⟩
  · have i1 : (p : Int) ≤ (a : Int) + b := by omega
    have hm : (a + b) % p = a + b - p := by rw [Nat.mod_eq_sub_mod (by omega), Nat.mod_eq_of_lt (by omega)]
    go_enter Tryz.func81, Tryz.ntmps81
    go_wp2
    go_ret
    exact ⟨ret_u (by rw [hm]; omega), rfl⟩
end
theorem sub_facts {p a b : Nat} (h0 : 0 < p) (hb : b < p) : ∃ r : Nat, ((p : Int) - b) % p = r ∧ r < p ∧ (a + r) % p = (a + p - b) % p := by
  refine ⟨(p - b) % p, ?_, Nat.mod_lt _ h0, ?_⟩
  · rw [Int.natCast_emod, Int.ofNat_sub (Nat.le_of_lt hb)]
  · rw [Nat.add_mod, Nat.mod_mod, ← Nat.add_mod, Nat.add_sub_assoc (Nat.le_of_lt hb)]
set_option maxRecDepth 100000 in
theorem minus_any (p a b : Nat) (h0 : 0 < p) (hp : p ≤ 65537) (ha : a < p) (hb : b < p) (w : World) : Calls Tryz.prog 82 #[.int .u64 p, .int .u64 a, .int .u64 b] w fun e w' => e = .returned (.int .u64 ((a + p - b) % p : Nat)) ∧ w = w' := by
  obtain ⟨r, e1, hr, e2⟩ := sub_facts (a := a) h0 hb
  have hpl := plus_any p a r h0 hp ha hr w
  rw [e2] at hpl
  have HP := Lib.hid hpl
  clear hpl e2
  go_enter Tryz.func82, Tryz.ntmps82
  go_wp2_with (go_at_call 81; refine HP.out.mono ?_; rintro e w1 ⟨rfl, rfl⟩)
  go_ret
  exact ⟨rfl, rfl⟩
end Go.Proofs.YtmnbgamnbgdnnaaGreatDoor

/- Contracts of circ.named, circ.Gate and the reference's Gate. -/
namespace Go.Proofs.YtmnbgamnbgdnnaaGreatDoor
open Go.RowKit

theorem ret_e {a b : Int} (h : a = b) : Ending.returned (.int .i64 a) = .returned (.int .i64 b) := by rw [h]
/-- What is wrong with a gate at a place. -/
def gateErr (p : Nat) (slots at_ k a b K : Int) : Int :=
  if k = 1 then (if b ≠ 0 ∨ K ≠ 0 then 4 else if a < 0 ∨ slots ≤ a then 13 else 0)
  else if k = 2 then (if a ≠ 0 ∨ b ≠ 0 then 4 else if (p : Int) ≤ K then 2 else 0)
  else if k = 3 ∨ k = 4 ∨ k = 5 then (if K ≠ 0 then 4 else if a < 0 ∨ at_ ≤ a ∨ b < 0 ∨ at_ ≤ b then 13 else 0)
  else if k = 6 then (if b ≠ 0 then 4 else if a < 0 ∨ at_ ≤ a then 13 else if (p : Int) ≤ K then 2 else 0)
  else 4
def GatePost (r : Int) (w : World) (e : Ending) (w' : World) : Prop := e = .returned (.int .i64 r) ∧ Below w.heap.size w w'
theorem below_box {w w1 : World} {o : Obj} (h : Below (w.alloc o).heap.size (w.alloc o) w1) : Below w.heap.size w w1 := ((Below.refl _ _).alloc (Nat.le_refl _) _).trans (h.mono (by simp))
def NamedPost (s a b k ok : Bool) (w : World) (e : Ending) (w' : World) : Prop := e = .returned (.tuple #[.agg #[.bool s, .bool a, .bool b, .bool k], .bool ok]) ∧ Below w.heap.size w w'
set_option maxRecDepth 100000 in
theorem within_any (x n : Int) (w : World) : Calls Tryz.prog 78 #[.int .i64 x, .int .i64 n] w fun e w' => e = .returned (.bool (decide (0 ≤ x) && decide (x < n))) ∧ w = w' := by
  by_cases h : 0 ≤ x
  · go_enter Tryz.func78, Tryz.ntmps78
    go_wp2
    go_ret
    exact ⟨ret_bl (by simp [h]), rfl⟩
  · have h' : x < 0 := by omega
    go_enter Tryz.func78, Tryz.ntmps78
    go_wp2
    go_ret
    exact ⟨ret_bl (by simp; omega), rfl⟩
set_option maxRecDepth 100000 in
theorem named_1 (w : World) : Calls Tryz.prog 77 #[.int .i64 1] w (NamedPost true false false false true w) := by
  go_enter Tryz.func77, Tryz.ntmps77
  go_wp2
  exact bodyPost_ret (v := .tuple #[.agg #[.bool true, .bool false, .bool false, .bool false], .bool true]) (by simp [results, Tryz.results77, go_sem]) rfl ⟨rfl, (Below.refl _ _).alloc (Nat.le_refl _) _⟩
set_option maxRecDepth 100000 in
theorem named_2 (w : World) : Calls Tryz.prog 77 #[.int .i64 2] w (NamedPost false false false true true w) := by
  go_enter Tryz.func77, Tryz.ntmps77
  go_wp2
  exact bodyPost_ret (v := .tuple #[.agg #[.bool false, .bool false, .bool false, .bool true], .bool true]) (by simp [results, Tryz.results77, go_sem]) rfl ⟨rfl, (Below.refl _ _).alloc (Nat.le_refl _) _⟩
set_option maxRecDepth 100000 in
theorem named_3 (w : World) : Calls Tryz.prog 77 #[.int .i64 3] w (NamedPost false true true false true w) := by
  go_enter Tryz.func77, Tryz.ntmps77
  go_wp2
  exact bodyPost_ret (v := .tuple #[.agg #[.bool false, .bool true, .bool true, .bool false], .bool true]) (by simp [results, Tryz.results77, go_sem]) rfl ⟨rfl, (Below.refl _ _).alloc (Nat.le_refl _) _⟩
set_option maxRecDepth 100000 in
theorem named_4 (w : World) : Calls Tryz.prog 77 #[.int .i64 4] w (NamedPost false true true false true w) := by
  go_enter Tryz.func77, Tryz.ntmps77
  go_wp2
  exact bodyPost_ret (v := .tuple #[.agg #[.bool false, .bool true, .bool true, .bool false], .bool true]) (by simp [results, Tryz.results77, go_sem]) rfl ⟨rfl, (Below.refl _ _).alloc (Nat.le_refl _) _⟩
set_option maxRecDepth 100000 in
theorem named_5 (w : World) : Calls Tryz.prog 77 #[.int .i64 5] w (NamedPost false true true false true w) := by
  go_enter Tryz.func77, Tryz.ntmps77
  go_wp2
  exact bodyPost_ret (v := .tuple #[.agg #[.bool false, .bool true, .bool true, .bool false], .bool true]) (by simp [results, Tryz.results77, go_sem]) rfl ⟨rfl, (Below.refl _ _).alloc (Nat.le_refl _) _⟩
set_option maxRecDepth 100000 in
theorem named_6 (w : World) : Calls Tryz.prog 77 #[.int .i64 6] w (NamedPost false true false true true w) := by
  go_enter Tryz.func77, Tryz.ntmps77
  go_wp2
  exact bodyPost_ret (v := .tuple #[.agg #[.bool false, .bool true, .bool false, .bool true], .bool true]) (by simp [results, Tryz.results77, go_sem]) rfl ⟨rfl, (Below.refl _ _).alloc (Nat.le_refl _) _⟩
set_option maxRecDepth 100000 in
theorem named_else (k : Int) (h1 : (k == 1) = false) (h2 : (k == 2) = false) (h3 : (k == 3) = false) (h4 : (k == 4) = false) (h5 : (k == 5) = false) (h6 : (k == 6) = false) (w : World) : Calls Tryz.prog 77 #[.int .i64 k] w (NamedPost false false false false false w) := by
  go_enter Tryz.func77, Tryz.ntmps77
  go_wp2
  exact bodyPost_ret (v := .tuple #[.agg #[.bool false, .bool false, .bool false, .bool false], .bool false]) (by simp [results, Tryz.results77, go_sem]) rfl ⟨rfl, (Below.refl _ _).alloc (Nat.le_refl _) _⟩
set_option maxHeartbeats 2000000 in
set_option maxRecDepth 100000 in
theorem gate_1 (p : Nat) (hp : 0 < p) (slots at_ a b K : Int) (w : World) : Calls Tryz.prog 37 #[.int .u64 p, .int .i64 slots, .int .i64 at_, .agg #[.int .i64 1, .int .i64 a, .int .i64 b, .int .u64 K]] w (GatePost (gateErr p slots at_ 1 a b K) w) := by
  have ip : (0 : Int) < (p : Int) := by omega
  by_cases hb : b = 0
  · subst hb
    by_cases hK : K = 0
    · subst hK
      by_cases la : 0 ≤ a
      · by_cases ua : a < slots
        · skip
          have HN := Lib.hid (fun W => named_1 W)
          go_enter Tryz.func37, Tryz.ntmps37
          go_wp2_with (first | (go_at_call 77; refine (HN.out _).mono ?_; rintro e w1 ⟨rfl, hb1⟩; have hz : w.heap.size < w1.heap.size := (by have h5 := hb1.size; simp at h5; omega); have c0 := hb1.cell (p := ⟨w.heap.size, 0, none⟩) (by simp); have c1 := hb1.cell (p := ⟨w.heap.size, 1, none⟩) (by simp); have c2 := hb1.cell (p := ⟨w.heap.size, 2, none⟩) (by simp); have c3 := hb1.cell (p := ⟨w.heap.size, 3, none⟩) (by simp); have HB := Lib.hid (below_box hb1); clear hb1) | (go_at_call 78; refine (within_any _ _ _).mono ?_; rintro e w1 ⟨rfl, rfl⟩))
          go_ret
          exact ⟨ret_e (by unfold gateErr; simp; omega), by first | exact HB.out.alloc HB.out.size _ | exact HB.out⟩
        · have ua' : slots ≤ a := by omega
          have dua : decide (a < slots) = false := decide_eq_false ua
          have HN := Lib.hid (fun W => named_1 W)
          go_enter Tryz.func37, Tryz.ntmps37
          go_wp2_with (first | (go_at_call 77; refine (HN.out _).mono ?_; rintro e w1 ⟨rfl, hb1⟩; have hz : w.heap.size < w1.heap.size := (by have h5 := hb1.size; simp at h5; omega); have c0 := hb1.cell (p := ⟨w.heap.size, 0, none⟩) (by simp); have c1 := hb1.cell (p := ⟨w.heap.size, 1, none⟩) (by simp); have c2 := hb1.cell (p := ⟨w.heap.size, 2, none⟩) (by simp); have c3 := hb1.cell (p := ⟨w.heap.size, 3, none⟩) (by simp); have HB := Lib.hid (below_box hb1); clear hb1) | (go_at_call 78; refine (within_any _ _ _).mono ?_; rintro e w1 ⟨rfl, rfl⟩))
          go_ret
          exact ⟨ret_e (by unfold gateErr; simp; omega), by first | exact HB.out.alloc HB.out.size _ | exact HB.out⟩
      · have la' : a < 0 := by omega
        have dla : decide (0 ≤ a) = false := decide_eq_false la
        have HN := Lib.hid (fun W => named_1 W)
        go_enter Tryz.func37, Tryz.ntmps37
        go_wp2_with (first | (go_at_call 77; refine (HN.out _).mono ?_; rintro e w1 ⟨rfl, hb1⟩; have hz : w.heap.size < w1.heap.size := (by have h5 := hb1.size; simp at h5; omega); have c0 := hb1.cell (p := ⟨w.heap.size, 0, none⟩) (by simp); have c1 := hb1.cell (p := ⟨w.heap.size, 1, none⟩) (by simp); have c2 := hb1.cell (p := ⟨w.heap.size, 2, none⟩) (by simp); have c3 := hb1.cell (p := ⟨w.heap.size, 3, none⟩) (by simp); have HB := Lib.hid (below_box hb1); clear hb1) | (go_at_call 78; refine (within_any _ _ _).mono ?_; rintro e w1 ⟨rfl, rfl⟩))
        go_ret
        exact ⟨ret_e (by unfold gateErr; simp; omega), by first | exact HB.out.alloc HB.out.size _ | exact HB.out⟩
    · have iK : (K == 0) = false := by simpa using hK
      have HN := Lib.hid (fun W => named_1 W)
      go_enter Tryz.func37, Tryz.ntmps37
      go_wp2_with (first | (go_at_call 77; refine (HN.out _).mono ?_; rintro e w1 ⟨rfl, hb1⟩; have hz : w.heap.size < w1.heap.size := (by have h5 := hb1.size; simp at h5; omega); have c0 := hb1.cell (p := ⟨w.heap.size, 0, none⟩) (by simp); have c1 := hb1.cell (p := ⟨w.heap.size, 1, none⟩) (by simp); have c2 := hb1.cell (p := ⟨w.heap.size, 2, none⟩) (by simp); have c3 := hb1.cell (p := ⟨w.heap.size, 3, none⟩) (by simp); have HB := Lib.hid (below_box hb1); clear hb1) | (go_at_call 78; refine (within_any _ _ _).mono ?_; rintro e w1 ⟨rfl, rfl⟩))
      go_ret
      exact ⟨ret_e (by simp [gateErr, hK]), by first | exact HB.out.alloc HB.out.size _ | exact HB.out⟩
  · have ib : (b == 0) = false := by simpa using hb
    have HN := Lib.hid (fun W => named_1 W)
    go_enter Tryz.func37, Tryz.ntmps37
    go_wp2_with (first | (go_at_call 77; refine (HN.out _).mono ?_; rintro e w1 ⟨rfl, hb1⟩; have hz : w.heap.size < w1.heap.size := (by have h5 := hb1.size; simp at h5; omega); have c0 := hb1.cell (p := ⟨w.heap.size, 0, none⟩) (by simp); have c1 := hb1.cell (p := ⟨w.heap.size, 1, none⟩) (by simp); have c2 := hb1.cell (p := ⟨w.heap.size, 2, none⟩) (by simp); have c3 := hb1.cell (p := ⟨w.heap.size, 3, none⟩) (by simp); have HB := Lib.hid (below_box hb1); clear hb1) | (go_at_call 78; refine (within_any _ _ _).mono ?_; rintro e w1 ⟨rfl, rfl⟩))
    go_ret
    exact ⟨ret_e (by simp [gateErr, hb]), by first | exact HB.out.alloc HB.out.size _ | exact HB.out⟩
set_option maxHeartbeats 2000000 in
set_option maxRecDepth 100000 in
theorem gate_2 (p : Nat) (hp : 0 < p) (slots at_ a b K : Int) (w : World) : Calls Tryz.prog 37 #[.int .u64 p, .int .i64 slots, .int .i64 at_, .agg #[.int .i64 2, .int .i64 a, .int .i64 b, .int .u64 K]] w (GatePost (gateErr p slots at_ 2 a b K) w) := by
  have ip : (0 : Int) < (p : Int) := by omega
  by_cases ha : a = 0
  · subst ha
    by_cases hb : b = 0
    · subst hb
      by_cases hk : K < (p : Int)
      · skip
        have HN := Lib.hid (fun W => named_2 W)
        go_enter Tryz.func37, Tryz.ntmps37
        go_wp2_with (first | (go_at_call 77; refine (HN.out _).mono ?_; rintro e w1 ⟨rfl, hb1⟩; have hz : w.heap.size < w1.heap.size := (by have h5 := hb1.size; simp at h5; omega); have c0 := hb1.cell (p := ⟨w.heap.size, 0, none⟩) (by simp); have c1 := hb1.cell (p := ⟨w.heap.size, 1, none⟩) (by simp); have c2 := hb1.cell (p := ⟨w.heap.size, 2, none⟩) (by simp); have c3 := hb1.cell (p := ⟨w.heap.size, 3, none⟩) (by simp); have HB := Lib.hid (below_box hb1); clear hb1) | (go_at_call 78; refine (within_any _ _ _).mono ?_; rintro e w1 ⟨rfl, rfl⟩))
        go_ret
        exact ⟨ret_e (by unfold gateErr; simp; omega), by first | exact HB.out.alloc HB.out.size _ | exact HB.out⟩
      · have hk' : (p : Int) ≤ K := by omega
        have HN := Lib.hid (fun W => named_2 W)
        go_enter Tryz.func37, Tryz.ntmps37
        go_wp2_with (first | (go_at_call 77; refine (HN.out _).mono ?_; rintro e w1 ⟨rfl, hb1⟩; have hz : w.heap.size < w1.heap.size := (by have h5 := hb1.size; simp at h5; omega); have c0 := hb1.cell (p := ⟨w.heap.size, 0, none⟩) (by simp); have c1 := hb1.cell (p := ⟨w.heap.size, 1, none⟩) (by simp); have c2 := hb1.cell (p := ⟨w.heap.size, 2, none⟩) (by simp); have c3 := hb1.cell (p := ⟨w.heap.size, 3, none⟩) (by simp); have HB := Lib.hid (below_box hb1); clear hb1) | (go_at_call 78; refine (within_any _ _ _).mono ?_; rintro e w1 ⟨rfl, rfl⟩))
        go_ret
        exact ⟨ret_e (by unfold gateErr; simp; omega), by first | exact HB.out.alloc HB.out.size _ | exact HB.out⟩
    · have ib : (b == 0) = false := by simpa using hb
      have HN := Lib.hid (fun W => named_2 W)
      go_enter Tryz.func37, Tryz.ntmps37
      go_wp2_with (first | (go_at_call 77; refine (HN.out _).mono ?_; rintro e w1 ⟨rfl, hb1⟩; have hz : w.heap.size < w1.heap.size := (by have h5 := hb1.size; simp at h5; omega); have c0 := hb1.cell (p := ⟨w.heap.size, 0, none⟩) (by simp); have c1 := hb1.cell (p := ⟨w.heap.size, 1, none⟩) (by simp); have c2 := hb1.cell (p := ⟨w.heap.size, 2, none⟩) (by simp); have c3 := hb1.cell (p := ⟨w.heap.size, 3, none⟩) (by simp); have HB := Lib.hid (below_box hb1); clear hb1) | (go_at_call 78; refine (within_any _ _ _).mono ?_; rintro e w1 ⟨rfl, rfl⟩))
      go_ret
      exact ⟨ret_e (by simp [gateErr, hb]), by first | exact HB.out.alloc HB.out.size _ | exact HB.out⟩
  · have ia : (a == 0) = false := by simpa using ha
    have HN := Lib.hid (fun W => named_2 W)
    go_enter Tryz.func37, Tryz.ntmps37
    go_wp2_with (first | (go_at_call 77; refine (HN.out _).mono ?_; rintro e w1 ⟨rfl, hb1⟩; have hz : w.heap.size < w1.heap.size := (by have h5 := hb1.size; simp at h5; omega); have c0 := hb1.cell (p := ⟨w.heap.size, 0, none⟩) (by simp); have c1 := hb1.cell (p := ⟨w.heap.size, 1, none⟩) (by simp); have c2 := hb1.cell (p := ⟨w.heap.size, 2, none⟩) (by simp); have c3 := hb1.cell (p := ⟨w.heap.size, 3, none⟩) (by simp); have HB := Lib.hid (below_box hb1); clear hb1) | (go_at_call 78; refine (within_any _ _ _).mono ?_; rintro e w1 ⟨rfl, rfl⟩))
    go_ret
    exact ⟨ret_e (by simp [gateErr, ha]), by first | exact HB.out.alloc HB.out.size _ | exact HB.out⟩
set_option maxHeartbeats 2000000 in
set_option maxRecDepth 100000 in
theorem gate_3 (p : Nat) (hp : 0 < p) (slots at_ a b K : Int) (w : World) : Calls Tryz.prog 37 #[.int .u64 p, .int .i64 slots, .int .i64 at_, .agg #[.int .i64 3, .int .i64 a, .int .i64 b, .int .u64 K]] w (GatePost (gateErr p slots at_ 3 a b K) w) := by
  have ip : (0 : Int) < (p : Int) := by omega
  by_cases hK : K = 0
  · subst hK
    by_cases la : 0 ≤ a
    · by_cases ua : a < at_
      · skip
        by_cases lb : 0 ≤ b
        · by_cases ub : b < at_
          · skip
            have HN := Lib.hid (fun W => named_3 W)
            go_enter Tryz.func37, Tryz.ntmps37
            go_wp2_with (first | (go_at_call 77; refine (HN.out _).mono ?_; rintro e w1 ⟨rfl, hb1⟩; have hz : w.heap.size < w1.heap.size := (by have h5 := hb1.size; simp at h5; omega); have c0 := hb1.cell (p := ⟨w.heap.size, 0, none⟩) (by simp); have c1 := hb1.cell (p := ⟨w.heap.size, 1, none⟩) (by simp); have c2 := hb1.cell (p := ⟨w.heap.size, 2, none⟩) (by simp); have c3 := hb1.cell (p := ⟨w.heap.size, 3, none⟩) (by simp); have HB := Lib.hid (below_box hb1); clear hb1) | (go_at_call 78; refine (within_any _ _ _).mono ?_; rintro e w1 ⟨rfl, rfl⟩))
            go_ret
            exact ⟨ret_e (by unfold gateErr; simp; omega), by first | exact HB.out.alloc HB.out.size _ | exact HB.out⟩
          · have ub' : at_ ≤ b := by omega
            have dub : decide (b < at_) = false := decide_eq_false ub
            have HN := Lib.hid (fun W => named_3 W)
            go_enter Tryz.func37, Tryz.ntmps37
            go_wp2_with (first | (go_at_call 77; refine (HN.out _).mono ?_; rintro e w1 ⟨rfl, hb1⟩; have hz : w.heap.size < w1.heap.size := (by have h5 := hb1.size; simp at h5; omega); have c0 := hb1.cell (p := ⟨w.heap.size, 0, none⟩) (by simp); have c1 := hb1.cell (p := ⟨w.heap.size, 1, none⟩) (by simp); have c2 := hb1.cell (p := ⟨w.heap.size, 2, none⟩) (by simp); have c3 := hb1.cell (p := ⟨w.heap.size, 3, none⟩) (by simp); have HB := Lib.hid (below_box hb1); clear hb1) | (go_at_call 78; refine (within_any _ _ _).mono ?_; rintro e w1 ⟨rfl, rfl⟩))
            go_ret
            exact ⟨ret_e (by unfold gateErr; simp; omega), by first | exact HB.out.alloc HB.out.size _ | exact HB.out⟩
        · have lb' : b < 0 := by omega
          have dlb : decide (0 ≤ b) = false := decide_eq_false lb
          have HN := Lib.hid (fun W => named_3 W)
          go_enter Tryz.func37, Tryz.ntmps37
          go_wp2_with (first | (go_at_call 77; refine (HN.out _).mono ?_; rintro e w1 ⟨rfl, hb1⟩; have hz : w.heap.size < w1.heap.size := (by have h5 := hb1.size; simp at h5; omega); have c0 := hb1.cell (p := ⟨w.heap.size, 0, none⟩) (by simp); have c1 := hb1.cell (p := ⟨w.heap.size, 1, none⟩) (by simp); have c2 := hb1.cell (p := ⟨w.heap.size, 2, none⟩) (by simp); have c3 := hb1.cell (p := ⟨w.heap.size, 3, none⟩) (by simp); have HB := Lib.hid (below_box hb1); clear hb1) | (go_at_call 78; refine (within_any _ _ _).mono ?_; rintro e w1 ⟨rfl, rfl⟩))
          go_ret
          exact ⟨ret_e (by unfold gateErr; simp; omega), by first | exact HB.out.alloc HB.out.size _ | exact HB.out⟩
      · have ua' : at_ ≤ a := by omega
        have dua : decide (a < at_) = false := decide_eq_false ua
        have HN := Lib.hid (fun W => named_3 W)
        go_enter Tryz.func37, Tryz.ntmps37
        go_wp2_with (first | (go_at_call 77; refine (HN.out _).mono ?_; rintro e w1 ⟨rfl, hb1⟩; have hz : w.heap.size < w1.heap.size := (by have h5 := hb1.size; simp at h5; omega); have c0 := hb1.cell (p := ⟨w.heap.size, 0, none⟩) (by simp); have c1 := hb1.cell (p := ⟨w.heap.size, 1, none⟩) (by simp); have c2 := hb1.cell (p := ⟨w.heap.size, 2, none⟩) (by simp); have c3 := hb1.cell (p := ⟨w.heap.size, 3, none⟩) (by simp); have HB := Lib.hid (below_box hb1); clear hb1) | (go_at_call 78; refine (within_any _ _ _).mono ?_; rintro e w1 ⟨rfl, rfl⟩))
        go_ret
        exact ⟨ret_e (by unfold gateErr; simp; omega), by first | exact HB.out.alloc HB.out.size _ | exact HB.out⟩
    · have la' : a < 0 := by omega
      have dla : decide (0 ≤ a) = false := decide_eq_false la
      have HN := Lib.hid (fun W => named_3 W)
      go_enter Tryz.func37, Tryz.ntmps37
      go_wp2_with (first | (go_at_call 77; refine (HN.out _).mono ?_; rintro e w1 ⟨rfl, hb1⟩; have hz : w.heap.size < w1.heap.size := (by have h5 := hb1.size; simp at h5; omega); have c0 := hb1.cell (p := ⟨w.heap.size, 0, none⟩) (by simp); have c1 := hb1.cell (p := ⟨w.heap.size, 1, none⟩) (by simp); have c2 := hb1.cell (p := ⟨w.heap.size, 2, none⟩) (by simp); have c3 := hb1.cell (p := ⟨w.heap.size, 3, none⟩) (by simp); have HB := Lib.hid (below_box hb1); clear hb1) | (go_at_call 78; refine (within_any _ _ _).mono ?_; rintro e w1 ⟨rfl, rfl⟩))
      go_ret
      exact ⟨ret_e (by unfold gateErr; simp; omega), by first | exact HB.out.alloc HB.out.size _ | exact HB.out⟩
  · have iK : (K == 0) = false := by simpa using hK
    have HN := Lib.hid (fun W => named_3 W)
    go_enter Tryz.func37, Tryz.ntmps37
    go_wp2_with (first | (go_at_call 77; refine (HN.out _).mono ?_; rintro e w1 ⟨rfl, hb1⟩; have hz : w.heap.size < w1.heap.size := (by have h5 := hb1.size; simp at h5; omega); have c0 := hb1.cell (p := ⟨w.heap.size, 0, none⟩) (by simp); have c1 := hb1.cell (p := ⟨w.heap.size, 1, none⟩) (by simp); have c2 := hb1.cell (p := ⟨w.heap.size, 2, none⟩) (by simp); have c3 := hb1.cell (p := ⟨w.heap.size, 3, none⟩) (by simp); have HB := Lib.hid (below_box hb1); clear hb1) | (go_at_call 78; refine (within_any _ _ _).mono ?_; rintro e w1 ⟨rfl, rfl⟩))
    go_ret
    exact ⟨ret_e (by simp [gateErr, hK]), by first | exact HB.out.alloc HB.out.size _ | exact HB.out⟩
set_option maxHeartbeats 2000000 in
set_option maxRecDepth 100000 in
theorem gate_4 (p : Nat) (hp : 0 < p) (slots at_ a b K : Int) (w : World) : Calls Tryz.prog 37 #[.int .u64 p, .int .i64 slots, .int .i64 at_, .agg #[.int .i64 4, .int .i64 a, .int .i64 b, .int .u64 K]] w (GatePost (gateErr p slots at_ 4 a b K) w) := by
  have ip : (0 : Int) < (p : Int) := by omega
  by_cases hK : K = 0
  · subst hK
    by_cases la : 0 ≤ a
    · by_cases ua : a < at_
      · skip
        by_cases lb : 0 ≤ b
        · by_cases ub : b < at_
          · skip
            have HN := Lib.hid (fun W => named_4 W)
            go_enter Tryz.func37, Tryz.ntmps37
            go_wp2_with (first | (go_at_call 77; refine (HN.out _).mono ?_; rintro e w1 ⟨rfl, hb1⟩; have hz : w.heap.size < w1.heap.size := (by have h5 := hb1.size; simp at h5; omega); have c0 := hb1.cell (p := ⟨w.heap.size, 0, none⟩) (by simp); have c1 := hb1.cell (p := ⟨w.heap.size, 1, none⟩) (by simp); have c2 := hb1.cell (p := ⟨w.heap.size, 2, none⟩) (by simp); have c3 := hb1.cell (p := ⟨w.heap.size, 3, none⟩) (by simp); have HB := Lib.hid (below_box hb1); clear hb1) | (go_at_call 78; refine (within_any _ _ _).mono ?_; rintro e w1 ⟨rfl, rfl⟩))
            go_ret
            exact ⟨ret_e (by unfold gateErr; simp; omega), by first | exact HB.out.alloc HB.out.size _ | exact HB.out⟩
          · have ub' : at_ ≤ b := by omega
            have dub : decide (b < at_) = false := decide_eq_false ub
            have HN := Lib.hid (fun W => named_4 W)
            go_enter Tryz.func37, Tryz.ntmps37
            go_wp2_with (first | (go_at_call 77; refine (HN.out _).mono ?_; rintro e w1 ⟨rfl, hb1⟩; have hz : w.heap.size < w1.heap.size := (by have h5 := hb1.size; simp at h5; omega); have c0 := hb1.cell (p := ⟨w.heap.size, 0, none⟩) (by simp); have c1 := hb1.cell (p := ⟨w.heap.size, 1, none⟩) (by simp); have c2 := hb1.cell (p := ⟨w.heap.size, 2, none⟩) (by simp); have c3 := hb1.cell (p := ⟨w.heap.size, 3, none⟩) (by simp); have HB := Lib.hid (below_box hb1); clear hb1) | (go_at_call 78; refine (within_any _ _ _).mono ?_; rintro e w1 ⟨rfl, rfl⟩))
            go_ret
            exact ⟨ret_e (by unfold gateErr; simp; omega), by first | exact HB.out.alloc HB.out.size _ | exact HB.out⟩
        · have lb' : b < 0 := by omega
          have dlb : decide (0 ≤ b) = false := decide_eq_false lb
          have HN := Lib.hid (fun W => named_4 W)
          go_enter Tryz.func37, Tryz.ntmps37
          go_wp2_with (first | (go_at_call 77; refine (HN.out _).mono ?_; rintro e w1 ⟨rfl, hb1⟩; have hz : w.heap.size < w1.heap.size := (by have h5 := hb1.size; simp at h5; omega); have c0 := hb1.cell (p := ⟨w.heap.size, 0, none⟩) (by simp); have c1 := hb1.cell (p := ⟨w.heap.size, 1, none⟩) (by simp); have c2 := hb1.cell (p := ⟨w.heap.size, 2, none⟩) (by simp); have c3 := hb1.cell (p := ⟨w.heap.size, 3, none⟩) (by simp); have HB := Lib.hid (below_box hb1); clear hb1) | (go_at_call 78; refine (within_any _ _ _).mono ?_; rintro e w1 ⟨rfl, rfl⟩))
          go_ret
          exact ⟨ret_e (by unfold gateErr; simp; omega), by first | exact HB.out.alloc HB.out.size _ | exact HB.out⟩
      · have ua' : at_ ≤ a := by omega
        have dua : decide (a < at_) = false := decide_eq_false ua
        have HN := Lib.hid (fun W => named_4 W)
        go_enter Tryz.func37, Tryz.ntmps37
        go_wp2_with (first | (go_at_call 77; refine (HN.out _).mono ?_; rintro e w1 ⟨rfl, hb1⟩; have hz : w.heap.size < w1.heap.size := (by have h5 := hb1.size; simp at h5; omega); have c0 := hb1.cell (p := ⟨w.heap.size, 0, none⟩) (by simp); have c1 := hb1.cell (p := ⟨w.heap.size, 1, none⟩) (by simp); have c2 := hb1.cell (p := ⟨w.heap.size, 2, none⟩) (by simp); have c3 := hb1.cell (p := ⟨w.heap.size, 3, none⟩) (by simp); have HB := Lib.hid (below_box hb1); clear hb1) | (go_at_call 78; refine (within_any _ _ _).mono ?_; rintro e w1 ⟨rfl, rfl⟩))
        go_ret
        exact ⟨ret_e (by unfold gateErr; simp; omega), by first | exact HB.out.alloc HB.out.size _ | exact HB.out⟩
    · have la' : a < 0 := by omega
      have dla : decide (0 ≤ a) = false := decide_eq_false la
      have HN := Lib.hid (fun W => named_4 W)
      go_enter Tryz.func37, Tryz.ntmps37
      go_wp2_with (first | (go_at_call 77; refine (HN.out _).mono ?_; rintro e w1 ⟨rfl, hb1⟩; have hz : w.heap.size < w1.heap.size := (by have h5 := hb1.size; simp at h5; omega); have c0 := hb1.cell (p := ⟨w.heap.size, 0, none⟩) (by simp); have c1 := hb1.cell (p := ⟨w.heap.size, 1, none⟩) (by simp); have c2 := hb1.cell (p := ⟨w.heap.size, 2, none⟩) (by simp); have c3 := hb1.cell (p := ⟨w.heap.size, 3, none⟩) (by simp); have HB := Lib.hid (below_box hb1); clear hb1) | (go_at_call 78; refine (within_any _ _ _).mono ?_; rintro e w1 ⟨rfl, rfl⟩))
      go_ret
      exact ⟨ret_e (by unfold gateErr; simp; omega), by first | exact HB.out.alloc HB.out.size _ | exact HB.out⟩
  · have iK : (K == 0) = false := by simpa using hK
    have HN := Lib.hid (fun W => named_4 W)
    go_enter Tryz.func37, Tryz.ntmps37
    go_wp2_with (first | (go_at_call 77; refine (HN.out _).mono ?_; rintro e w1 ⟨rfl, hb1⟩; have hz : w.heap.size < w1.heap.size := (by have h5 := hb1.size; simp at h5; omega); have c0 := hb1.cell (p := ⟨w.heap.size, 0, none⟩) (by simp); have c1 := hb1.cell (p := ⟨w.heap.size, 1, none⟩) (by simp); have c2 := hb1.cell (p := ⟨w.heap.size, 2, none⟩) (by simp); have c3 := hb1.cell (p := ⟨w.heap.size, 3, none⟩) (by simp); have HB := Lib.hid (below_box hb1); clear hb1) | (go_at_call 78; refine (within_any _ _ _).mono ?_; rintro e w1 ⟨rfl, rfl⟩))
    go_ret
    exact ⟨ret_e (by simp [gateErr, hK]), by first | exact HB.out.alloc HB.out.size _ | exact HB.out⟩
set_option maxHeartbeats 2000000 in
set_option maxRecDepth 100000 in
theorem gate_5 (p : Nat) (hp : 0 < p) (slots at_ a b K : Int) (w : World) : Calls Tryz.prog 37 #[.int .u64 p, .int .i64 slots, .int .i64 at_, .agg #[.int .i64 5, .int .i64 a, .int .i64 b, .int .u64 K]] w (GatePost (gateErr p slots at_ 5 a b K) w) := by
  have ip : (0 : Int) < (p : Int) := by omega
  by_cases hK : K = 0
  · subst hK
    by_cases la : 0 ≤ a
    · by_cases ua : a < at_
      · skip
        by_cases lb : 0 ≤ b
        · by_cases ub : b < at_
          · skip
            have HN := Lib.hid (fun W => named_5 W)
            go_enter Tryz.func37, Tryz.ntmps37
            go_wp2_with (first | (go_at_call 77; refine (HN.out _).mono ?_; rintro e w1 ⟨rfl, hb1⟩; have hz : w.heap.size < w1.heap.size := (by have h5 := hb1.size; simp at h5; omega); have c0 := hb1.cell (p := ⟨w.heap.size, 0, none⟩) (by simp); have c1 := hb1.cell (p := ⟨w.heap.size, 1, none⟩) (by simp); have c2 := hb1.cell (p := ⟨w.heap.size, 2, none⟩) (by simp); have c3 := hb1.cell (p := ⟨w.heap.size, 3, none⟩) (by simp); have HB := Lib.hid (below_box hb1); clear hb1) | (go_at_call 78; refine (within_any _ _ _).mono ?_; rintro e w1 ⟨rfl, rfl⟩))
            go_ret
            exact ⟨ret_e (by unfold gateErr; simp; omega), by first | exact HB.out.alloc HB.out.size _ | exact HB.out⟩
          · have ub' : at_ ≤ b := by omega
            have dub : decide (b < at_) = false := decide_eq_false ub
            have HN := Lib.hid (fun W => named_5 W)
            go_enter Tryz.func37, Tryz.ntmps37
            go_wp2_with (first | (go_at_call 77; refine (HN.out _).mono ?_; rintro e w1 ⟨rfl, hb1⟩; have hz : w.heap.size < w1.heap.size := (by have h5 := hb1.size; simp at h5; omega); have c0 := hb1.cell (p := ⟨w.heap.size, 0, none⟩) (by simp); have c1 := hb1.cell (p := ⟨w.heap.size, 1, none⟩) (by simp); have c2 := hb1.cell (p := ⟨w.heap.size, 2, none⟩) (by simp); have c3 := hb1.cell (p := ⟨w.heap.size, 3, none⟩) (by simp); have HB := Lib.hid (below_box hb1); clear hb1) | (go_at_call 78; refine (within_any _ _ _).mono ?_; rintro e w1 ⟨rfl, rfl⟩))
            go_ret
            exact ⟨ret_e (by unfold gateErr; simp; omega), by first | exact HB.out.alloc HB.out.size _ | exact HB.out⟩
        · have lb' : b < 0 := by omega
          have dlb : decide (0 ≤ b) = false := decide_eq_false lb
          have HN := Lib.hid (fun W => named_5 W)
          go_enter Tryz.func37, Tryz.ntmps37
          go_wp2_with (first | (go_at_call 77; refine (HN.out _).mono ?_; rintro e w1 ⟨rfl, hb1⟩; have hz : w.heap.size < w1.heap.size := (by have h5 := hb1.size; simp at h5; omega); have c0 := hb1.cell (p := ⟨w.heap.size, 0, none⟩) (by simp); have c1 := hb1.cell (p := ⟨w.heap.size, 1, none⟩) (by simp); have c2 := hb1.cell (p := ⟨w.heap.size, 2, none⟩) (by simp); have c3 := hb1.cell (p := ⟨w.heap.size, 3, none⟩) (by simp); have HB := Lib.hid (below_box hb1); clear hb1) | (go_at_call 78; refine (within_any _ _ _).mono ?_; rintro e w1 ⟨rfl, rfl⟩))
          go_ret
          exact ⟨ret_e (by unfold gateErr; simp; omega), by first | exact HB.out.alloc HB.out.size _ | exact HB.out⟩
      · have ua' : at_ ≤ a := by omega
        have dua : decide (a < at_) = false := decide_eq_false ua
        have HN := Lib.hid (fun W => named_5 W)
        go_enter Tryz.func37, Tryz.ntmps37
        go_wp2_with (first | (go_at_call 77; refine (HN.out _).mono ?_; rintro e w1 ⟨rfl, hb1⟩; have hz : w.heap.size < w1.heap.size := (by have h5 := hb1.size; simp at h5; omega); have c0 := hb1.cell (p := ⟨w.heap.size, 0, none⟩) (by simp); have c1 := hb1.cell (p := ⟨w.heap.size, 1, none⟩) (by simp); have c2 := hb1.cell (p := ⟨w.heap.size, 2, none⟩) (by simp); have c3 := hb1.cell (p := ⟨w.heap.size, 3, none⟩) (by simp); have HB := Lib.hid (below_box hb1); clear hb1) | (go_at_call 78; refine (within_any _ _ _).mono ?_; rintro e w1 ⟨rfl, rfl⟩))
        go_ret
        exact ⟨ret_e (by unfold gateErr; simp; omega), by first | exact HB.out.alloc HB.out.size _ | exact HB.out⟩
    · have la' : a < 0 := by omega
      have dla : decide (0 ≤ a) = false := decide_eq_false la
      have HN := Lib.hid (fun W => named_5 W)
      go_enter Tryz.func37, Tryz.ntmps37
      go_wp2_with (first | (go_at_call 77; refine (HN.out _).mono ?_; rintro e w1 ⟨rfl, hb1⟩; have hz : w.heap.size < w1.heap.size := (by have h5 := hb1.size; simp at h5; omega); have c0 := hb1.cell (p := ⟨w.heap.size, 0, none⟩) (by simp); have c1 := hb1.cell (p := ⟨w.heap.size, 1, none⟩) (by simp); have c2 := hb1.cell (p := ⟨w.heap.size, 2, none⟩) (by simp); have c3 := hb1.cell (p := ⟨w.heap.size, 3, none⟩) (by simp); have HB := Lib.hid (below_box hb1); clear hb1) | (go_at_call 78; refine (within_any _ _ _).mono ?_; rintro e w1 ⟨rfl, rfl⟩))
      go_ret
      exact ⟨ret_e (by unfold gateErr; simp; omega), by first | exact HB.out.alloc HB.out.size _ | exact HB.out⟩
  · have iK : (K == 0) = false := by simpa using hK
    have HN := Lib.hid (fun W => named_5 W)
    go_enter Tryz.func37, Tryz.ntmps37
    go_wp2_with (first | (go_at_call 77; refine (HN.out _).mono ?_; rintro e w1 ⟨rfl, hb1⟩; have hz : w.heap.size < w1.heap.size := (by have h5 := hb1.size; simp at h5; omega); have c0 := hb1.cell (p := ⟨w.heap.size, 0, none⟩) (by simp); have c1 := hb1.cell (p := ⟨w.heap.size, 1, none⟩) (by simp); have c2 := hb1.cell (p := ⟨w.heap.size, 2, none⟩) (by simp); have c3 := hb1.cell (p := ⟨w.heap.size, 3, none⟩) (by simp); have HB := Lib.hid (below_box hb1); clear hb1) | (go_at_call 78; refine (within_any _ _ _).mono ?_; rintro e w1 ⟨rfl, rfl⟩))
    go_ret
    exact ⟨ret_e (by simp [gateErr, hK]), by first | exact HB.out.alloc HB.out.size _ | exact HB.out⟩
set_option maxHeartbeats 2000000 in
set_option maxRecDepth 100000 in
theorem gate_6 (p : Nat) (hp : 0 < p) (slots at_ a b K : Int) (w : World) : Calls Tryz.prog 37 #[.int .u64 p, .int .i64 slots, .int .i64 at_, .agg #[.int .i64 6, .int .i64 a, .int .i64 b, .int .u64 K]] w (GatePost (gateErr p slots at_ 6 a b K) w) := by
  have ip : (0 : Int) < (p : Int) := by omega
  by_cases hb : b = 0
  · subst hb
    by_cases la : 0 ≤ a
    · by_cases ua : a < at_
      · skip
        by_cases hk : K < (p : Int)
        · skip
          have HN := Lib.hid (fun W => named_6 W)
          go_enter Tryz.func37, Tryz.ntmps37
          go_wp2_with (first | (go_at_call 77; refine (HN.out _).mono ?_; rintro e w1 ⟨rfl, hb1⟩; have hz : w.heap.size < w1.heap.size := (by have h5 := hb1.size; simp at h5; omega); have c0 := hb1.cell (p := ⟨w.heap.size, 0, none⟩) (by simp); have c1 := hb1.cell (p := ⟨w.heap.size, 1, none⟩) (by simp); have c2 := hb1.cell (p := ⟨w.heap.size, 2, none⟩) (by simp); have c3 := hb1.cell (p := ⟨w.heap.size, 3, none⟩) (by simp); have HB := Lib.hid (below_box hb1); clear hb1) | (go_at_call 78; refine (within_any _ _ _).mono ?_; rintro e w1 ⟨rfl, rfl⟩))
          go_ret
          exact ⟨ret_e (by unfold gateErr; simp; omega), by first | exact HB.out.alloc HB.out.size _ | exact HB.out⟩
        · have hk' : (p : Int) ≤ K := by omega
          have HN := Lib.hid (fun W => named_6 W)
          go_enter Tryz.func37, Tryz.ntmps37
          go_wp2_with (first | (go_at_call 77; refine (HN.out _).mono ?_; rintro e w1 ⟨rfl, hb1⟩; have hz : w.heap.size < w1.heap.size := (by have h5 := hb1.size; simp at h5; omega); have c0 := hb1.cell (p := ⟨w.heap.size, 0, none⟩) (by simp); have c1 := hb1.cell (p := ⟨w.heap.size, 1, none⟩) (by simp); have c2 := hb1.cell (p := ⟨w.heap.size, 2, none⟩) (by simp); have c3 := hb1.cell (p := ⟨w.heap.size, 3, none⟩) (by simp); have HB := Lib.hid (below_box hb1); clear hb1) | (go_at_call 78; refine (within_any _ _ _).mono ?_; rintro e w1 ⟨rfl, rfl⟩))
          go_ret
          exact ⟨ret_e (by unfold gateErr; simp; omega), by first | exact HB.out.alloc HB.out.size _ | exact HB.out⟩
      · have ua' : at_ ≤ a := by omega
        have dua : decide (a < at_) = false := decide_eq_false ua
        have HN := Lib.hid (fun W => named_6 W)
        go_enter Tryz.func37, Tryz.ntmps37
        go_wp2_with (first | (go_at_call 77; refine (HN.out _).mono ?_; rintro e w1 ⟨rfl, hb1⟩; have hz : w.heap.size < w1.heap.size := (by have h5 := hb1.size; simp at h5; omega); have c0 := hb1.cell (p := ⟨w.heap.size, 0, none⟩) (by simp); have c1 := hb1.cell (p := ⟨w.heap.size, 1, none⟩) (by simp); have c2 := hb1.cell (p := ⟨w.heap.size, 2, none⟩) (by simp); have c3 := hb1.cell (p := ⟨w.heap.size, 3, none⟩) (by simp); have HB := Lib.hid (below_box hb1); clear hb1) | (go_at_call 78; refine (within_any _ _ _).mono ?_; rintro e w1 ⟨rfl, rfl⟩))
        go_ret
        exact ⟨ret_e (by unfold gateErr; simp; omega), by first | exact HB.out.alloc HB.out.size _ | exact HB.out⟩
    · have la' : a < 0 := by omega
      have dla : decide (0 ≤ a) = false := decide_eq_false la
      have HN := Lib.hid (fun W => named_6 W)
      go_enter Tryz.func37, Tryz.ntmps37
      go_wp2_with (first | (go_at_call 77; refine (HN.out _).mono ?_; rintro e w1 ⟨rfl, hb1⟩; have hz : w.heap.size < w1.heap.size := (by have h5 := hb1.size; simp at h5; omega); have c0 := hb1.cell (p := ⟨w.heap.size, 0, none⟩) (by simp); have c1 := hb1.cell (p := ⟨w.heap.size, 1, none⟩) (by simp); have c2 := hb1.cell (p := ⟨w.heap.size, 2, none⟩) (by simp); have c3 := hb1.cell (p := ⟨w.heap.size, 3, none⟩) (by simp); have HB := Lib.hid (below_box hb1); clear hb1) | (go_at_call 78; refine (within_any _ _ _).mono ?_; rintro e w1 ⟨rfl, rfl⟩))
      go_ret
      exact ⟨ret_e (by unfold gateErr; simp; omega), by first | exact HB.out.alloc HB.out.size _ | exact HB.out⟩
  · have ib : (b == 0) = false := by simpa using hb
    have HN := Lib.hid (fun W => named_6 W)
    go_enter Tryz.func37, Tryz.ntmps37
    go_wp2_with (first | (go_at_call 77; refine (HN.out _).mono ?_; rintro e w1 ⟨rfl, hb1⟩; have hz : w.heap.size < w1.heap.size := (by have h5 := hb1.size; simp at h5; omega); have c0 := hb1.cell (p := ⟨w.heap.size, 0, none⟩) (by simp); have c1 := hb1.cell (p := ⟨w.heap.size, 1, none⟩) (by simp); have c2 := hb1.cell (p := ⟨w.heap.size, 2, none⟩) (by simp); have c3 := hb1.cell (p := ⟨w.heap.size, 3, none⟩) (by simp); have HB := Lib.hid (below_box hb1); clear hb1) | (go_at_call 78; refine (within_any _ _ _).mono ?_; rintro e w1 ⟨rfl, rfl⟩))
    go_ret
    exact ⟨ret_e (by simp [gateErr, hb]), by first | exact HB.out.alloc HB.out.size _ | exact HB.out⟩
set_option maxHeartbeats 2000000 in
set_option maxRecDepth 100000 in
theorem gate_else (p : Nat) (hp : 0 < p) (slots at_ k a b K : Int) (n1 : (k == 1) = false) (n2 : (k == 2) = false) (n3 : (k == 3) = false) (n4 : (k == 4) = false) (n5 : (k == 5) = false) (n6 : (k == 6) = false) (w : World) : Calls Tryz.prog 37 #[.int .u64 p, .int .i64 slots, .int .i64 at_, .agg #[.int .i64 k, .int .i64 a, .int .i64 b, .int .u64 K]] w (GatePost (gateErr p slots at_ k a b K) w) := by
  have ip : (0 : Int) < (p : Int) := by omega
  have HN := Lib.hid (fun W => named_else k n1 n2 n3 n4 n5 n6 W)
  go_enter Tryz.func37, Tryz.ntmps37
  go_wp2_with (first | (go_at_call 77; refine (HN.out _).mono ?_; rintro e w1 ⟨rfl, hb1⟩; have hz : w.heap.size < w1.heap.size := (by have h5 := hb1.size; simp at h5; omega); have c0 := hb1.cell (p := ⟨w.heap.size, 0, none⟩) (by simp); have c1 := hb1.cell (p := ⟨w.heap.size, 1, none⟩) (by simp); have c2 := hb1.cell (p := ⟨w.heap.size, 2, none⟩) (by simp); have c3 := hb1.cell (p := ⟨w.heap.size, 3, none⟩) (by simp); have HB := Lib.hid (below_box hb1); clear hb1) | (go_at_call 78; refine (within_any _ _ _).mono ?_; rintro e w1 ⟨rfl, rfl⟩))
  go_ret
  exact ⟨ret_e (by simp at n1 n2 n3 n4 n5 n6; simp [gateErr, n1, n2, n3, n4, n5, n6]), by first | exact HB.out.alloc HB.out.size _ | exact HB.out⟩
set_option maxHeartbeats 2000000 in
set_option maxRecDepth 100000 in
theorem rgate_1 (p : Nat) (hp : 0 < p) (slots at_ a b K : Int) (w : World) : Calls Tryz.prog 40 #[.int .u64 p, .int .i64 slots, .int .i64 at_, .agg #[.int .i64 1, .int .i64 a, .int .i64 b, .int .u64 K]] w (GatePost (gateErr p slots at_ 1 a b K) w) := by
  have ip : (0 : Int) < (p : Int) := by omega
  by_cases hb : b = 0
  · subst hb
    by_cases hK : K = 0
    · subst hK
      by_cases la : 0 ≤ a
      · by_cases ua : a < slots
        · skip
          go_enter Tryz.func40, Tryz.ntmps40
          go_wp2
          go_ret
          exact ⟨ret_e (by unfold gateErr; simp; omega), (Below.refl _ _).alloc (Nat.le_refl _) _⟩
        · have ua' : slots ≤ a := by omega
          have dua : decide (a < slots) = false := decide_eq_false ua
          go_enter Tryz.func40, Tryz.ntmps40
          go_wp2
          go_ret
          exact ⟨ret_e (by unfold gateErr; simp; omega), (Below.refl _ _).alloc (Nat.le_refl _) _⟩
      · have la' : a < 0 := by omega
        have dla : decide (0 ≤ a) = false := decide_eq_false la
        go_enter Tryz.func40, Tryz.ntmps40
        go_wp2
        go_ret
        exact ⟨ret_e (by unfold gateErr; simp; omega), (Below.refl _ _).alloc (Nat.le_refl _) _⟩
    · have iK : (K == 0) = false := by simpa using hK
      go_enter Tryz.func40, Tryz.ntmps40
      go_wp2
      go_ret
      exact ⟨ret_e (by simp [gateErr, hK]), (Below.refl _ _).alloc (Nat.le_refl _) _⟩
  · have ib : (b == 0) = false := by simpa using hb
    go_enter Tryz.func40, Tryz.ntmps40
    go_wp2
    go_ret
    exact ⟨ret_e (by simp [gateErr, hb]), (Below.refl _ _).alloc (Nat.le_refl _) _⟩
set_option maxHeartbeats 2000000 in
set_option maxRecDepth 100000 in
theorem rgate_2 (p : Nat) (hp : 0 < p) (slots at_ a b K : Int) (w : World) : Calls Tryz.prog 40 #[.int .u64 p, .int .i64 slots, .int .i64 at_, .agg #[.int .i64 2, .int .i64 a, .int .i64 b, .int .u64 K]] w (GatePost (gateErr p slots at_ 2 a b K) w) := by
  have ip : (0 : Int) < (p : Int) := by omega
  by_cases ha : a = 0
  · subst ha
    by_cases hb : b = 0
    · subst hb
      by_cases hk : K < (p : Int)
      · skip
        go_enter Tryz.func40, Tryz.ntmps40
        go_wp2
        go_ret
        exact ⟨ret_e (by unfold gateErr; simp; omega), (Below.refl _ _).alloc (Nat.le_refl _) _⟩
      · have hk' : (p : Int) ≤ K := by omega
        go_enter Tryz.func40, Tryz.ntmps40
        go_wp2
        go_ret
        exact ⟨ret_e (by unfold gateErr; simp; omega), (Below.refl _ _).alloc (Nat.le_refl _) _⟩
    · have ib : (b == 0) = false := by simpa using hb
      go_enter Tryz.func40, Tryz.ntmps40
      go_wp2
      go_ret
      exact ⟨ret_e (by simp [gateErr, hb]), (Below.refl _ _).alloc (Nat.le_refl _) _⟩
  · have ia : (a == 0) = false := by simpa using ha
    go_enter Tryz.func40, Tryz.ntmps40
    go_wp2
    go_ret
    exact ⟨ret_e (by simp [gateErr, ha]), (Below.refl _ _).alloc (Nat.le_refl _) _⟩
set_option maxHeartbeats 2000000 in
set_option maxRecDepth 100000 in
theorem rgate_3 (p : Nat) (hp : 0 < p) (slots at_ a b K : Int) (w : World) : Calls Tryz.prog 40 #[.int .u64 p, .int .i64 slots, .int .i64 at_, .agg #[.int .i64 3, .int .i64 a, .int .i64 b, .int .u64 K]] w (GatePost (gateErr p slots at_ 3 a b K) w) := by
  have ip : (0 : Int) < (p : Int) := by omega
  by_cases hK : K = 0
  · subst hK
    by_cases la : 0 ≤ a
    · by_cases ua : a < at_
      · skip
        by_cases lb : 0 ≤ b
        · by_cases ub : b < at_
          · skip
            go_enter Tryz.func40, Tryz.ntmps40
            go_wp2
            go_ret
            exact ⟨ret_e (by unfold gateErr; simp; omega), (Below.refl _ _).alloc (Nat.le_refl _) _⟩
          · have ub' : at_ ≤ b := by omega
            have dub : decide (b < at_) = false := decide_eq_false ub
            go_enter Tryz.func40, Tryz.ntmps40
            go_wp2
            go_ret
            exact ⟨ret_e (by unfold gateErr; simp; omega), (Below.refl _ _).alloc (Nat.le_refl _) _⟩
        · have lb' : b < 0 := by omega
          have dlb : decide (0 ≤ b) = false := decide_eq_false lb
          go_enter Tryz.func40, Tryz.ntmps40
          go_wp2
          go_ret
          exact ⟨ret_e (by unfold gateErr; simp; omega), (Below.refl _ _).alloc (Nat.le_refl _) _⟩
      · have ua' : at_ ≤ a := by omega
        have dua : decide (a < at_) = false := decide_eq_false ua
        go_enter Tryz.func40, Tryz.ntmps40
        go_wp2
        go_ret
        exact ⟨ret_e (by unfold gateErr; simp; omega), (Below.refl _ _).alloc (Nat.le_refl _) _⟩
    · have la' : a < 0 := by omega
      have dla : decide (0 ≤ a) = false := decide_eq_false la
      go_enter Tryz.func40, Tryz.ntmps40
      go_wp2
      go_ret
      exact ⟨ret_e (by unfold gateErr; simp; omega), (Below.refl _ _).alloc (Nat.le_refl _) _⟩
  · have iK : (K == 0) = false := by simpa using hK
    go_enter Tryz.func40, Tryz.ntmps40
    go_wp2
    go_ret
    exact ⟨ret_e (by simp [gateErr, hK]), (Below.refl _ _).alloc (Nat.le_refl _) _⟩
set_option maxHeartbeats 2000000 in
set_option maxRecDepth 100000 in
theorem rgate_4 (p : Nat) (hp : 0 < p) (slots at_ a b K : Int) (w : World) : Calls Tryz.prog 40 #[.int .u64 p, .int .i64 slots, .int .i64 at_, .agg #[.int .i64 4, .int .i64 a, .int .i64 b, .int .u64 K]] w (GatePost (gateErr p slots at_ 4 a b K) w) := by
  have ip : (0 : Int) < (p : Int) := by omega
  by_cases hK : K = 0
  · subst hK
    by_cases la : 0 ≤ a
    · by_cases ua : a < at_
      · skip
        by_cases lb : 0 ≤ b
        · by_cases ub : b < at_
          · skip
            go_enter Tryz.func40, Tryz.ntmps40
            go_wp2
            go_ret
            exact ⟨ret_e (by unfold gateErr; simp; omega), (Below.refl _ _).alloc (Nat.le_refl _) _⟩
          · have ub' : at_ ≤ b := by omega
            have dub : decide (b < at_) = false := decide_eq_false ub
            go_enter Tryz.func40, Tryz.ntmps40
            go_wp2
            go_ret
            exact ⟨ret_e (by unfold gateErr; simp; omega), (Below.refl _ _).alloc (Nat.le_refl _) _⟩
        · have lb' : b < 0 := by omega
          have dlb : decide (0 ≤ b) = false := decide_eq_false lb
          go_enter Tryz.func40, Tryz.ntmps40
          go_wp2
          go_ret
          exact ⟨ret_e (by unfold gateErr; simp; omega), (Below.refl _ _).alloc (Nat.le_refl _) _⟩
      · have ua' : at_ ≤ a := by omega
        have dua : decide (a < at_) = false := decide_eq_false ua
        go_enter Tryz.func40, Tryz.ntmps40
        go_wp2
        go_ret
        exact ⟨ret_e (by unfold gateErr; simp; omega), (Below.refl _ _).alloc (Nat.le_refl _) _⟩
    · have la' : a < 0 := by omega
      have dla : decide (0 ≤ a) = false := decide_eq_false la
      go_enter Tryz.func40, Tryz.ntmps40
      go_wp2
      go_ret
      exact ⟨ret_e (by unfold gateErr; simp; omega), (Below.refl _ _).alloc (Nat.le_refl _) _⟩
  · have iK : (K == 0) = false := by simpa using hK
    go_enter Tryz.func40, Tryz.ntmps40
    go_wp2
    go_ret
    exact ⟨ret_e (by simp [gateErr, hK]), (Below.refl _ _).alloc (Nat.le_refl _) _⟩
set_option maxHeartbeats 2000000 in
set_option maxRecDepth 100000 in
theorem rgate_5 (p : Nat) (hp : 0 < p) (slots at_ a b K : Int) (w : World) : Calls Tryz.prog 40 #[.int .u64 p, .int .i64 slots, .int .i64 at_, .agg #[.int .i64 5, .int .i64 a, .int .i64 b, .int .u64 K]] w (GatePost (gateErr p slots at_ 5 a b K) w) := by
  have ip : (0 : Int) < (p : Int) := by omega
  by_cases hK : K = 0
  · subst hK
    by_cases la : 0 ≤ a
    · by_cases ua : a < at_
      · skip
        by_cases lb : 0 ≤ b
        · by_cases ub : b < at_
          · skip
            go_enter Tryz.func40, Tryz.ntmps40
            go_wp2
            go_ret
            exact ⟨ret_e (by unfold gateErr; simp; omega), (Below.refl _ _).alloc (Nat.le_refl _) _⟩
          · have ub' : at_ ≤ b := by omega
            have dub : decide (b < at_) = false := decide_eq_false ub
            go_enter Tryz.func40, Tryz.ntmps40
            go_wp2
            go_ret
            exact ⟨ret_e (by unfold gateErr; simp; omega), (Below.refl _ _).alloc (Nat.le_refl _) _⟩
        · have lb' : b < 0 := by omega
          have dlb : decide (0 ≤ b) = false := decide_eq_false lb
          go_enter Tryz.func40, Tryz.ntmps40
          go_wp2
          go_ret
          exact ⟨ret_e (by unfold gateErr; simp; omega), (Below.refl _ _).alloc (Nat.le_refl _) _⟩
      · have ua' : at_ ≤ a := by omega
        have dua : decide (a < at_) = false := decide_eq_false ua
        go_enter Tryz.func40, Tryz.ntmps40
        go_wp2
        go_ret
        exact ⟨ret_e (by unfold gateErr; simp; omega), (Below.refl _ _).alloc (Nat.le_refl _) _⟩
    · have la' : a < 0 := by omega
      have dla : decide (0 ≤ a) = false := decide_eq_false la
      go_enter Tryz.func40, Tryz.ntmps40
      go_wp2
      go_ret
      exact ⟨ret_e (by unfold gateErr; simp; omega), (Below.refl _ _).alloc (Nat.le_refl _) _⟩
  · have iK : (K == 0) = false := by simpa using hK
    go_enter Tryz.func40, Tryz.ntmps40
    go_wp2
    go_ret
    exact ⟨ret_e (by simp [gateErr, hK]), (Below.refl _ _).alloc (Nat.le_refl _) _⟩
set_option maxHeartbeats 2000000 in
set_option maxRecDepth 100000 in
theorem rgate_6 (p : Nat) (hp : 0 < p) (slots at_ a b K : Int) (w : World) : Calls Tryz.prog 40 #[.int .u64 p, .int .i64 slots, .int .i64 at_, .agg #[.int .i64 6, .int .i64 a, .int .i64 b, .int .u64 K]] w (GatePost (gateErr p slots at_ 6 a b K) w) := by
  have ip : (0 : Int) < (p : Int) := by omega
  by_cases hb : b = 0
  · subst hb
    by_cases la : 0 ≤ a
    · by_cases ua : a < at_
      · skip
        by_cases hk : K < (p : Int)
        · skip
          go_enter Tryz.func40, Tryz.ntmps40
          go_wp2
          go_ret
          exact ⟨ret_e (by unfold gateErr; simp; omega), (Below.refl _ _).alloc (Nat.le_refl _) _⟩
        · have hk' : (p : Int) ≤ K := by omega
          go_enter Tryz.func40, Tryz.ntmps40
          go_wp2
          go_ret
          exact ⟨ret_e (by unfold gateErr; simp; omega), (Below.refl _ _).alloc (Nat.le_refl _) _⟩
      · have ua' : at_ ≤ a := by omega
        have dua : decide (a < at_) = false := decide_eq_false ua
        go_enter Tryz.func40, Tryz.ntmps40
        go_wp2
        go_ret
        exact ⟨ret_e (by unfold gateErr; simp; omega), (Below.refl _ _).alloc (Nat.le_refl _) _⟩
    · have la' : a < 0 := by omega
      have dla : decide (0 ≤ a) = false := decide_eq_false la
      go_enter Tryz.func40, Tryz.ntmps40
      go_wp2
      go_ret
      exact ⟨ret_e (by unfold gateErr; simp; omega), (Below.refl _ _).alloc (Nat.le_refl _) _⟩
  · have ib : (b == 0) = false := by simpa using hb
    go_enter Tryz.func40, Tryz.ntmps40
    go_wp2
    go_ret
    exact ⟨ret_e (by simp [gateErr, hb]), (Below.refl _ _).alloc (Nat.le_refl _) _⟩
set_option maxHeartbeats 2000000 in
set_option maxRecDepth 100000 in
theorem rgate_else (p : Nat) (hp : 0 < p) (slots at_ k a b K : Int) (n1 : (k == 1) = false) (n2 : (k == 2) = false) (n3 : (k == 3) = false) (n4 : (k == 4) = false) (n5 : (k == 5) = false) (n6 : (k == 6) = false) (w : World) : Calls Tryz.prog 40 #[.int .u64 p, .int .i64 slots, .int .i64 at_, .agg #[.int .i64 k, .int .i64 a, .int .i64 b, .int .u64 K]] w (GatePost (gateErr p slots at_ k a b K) w) := by
  have ip : (0 : Int) < (p : Int) := by omega
  go_enter Tryz.func40, Tryz.ntmps40
  go_wp2
  go_ret
  exact ⟨ret_e (by simp at n1 n2 n3 n4 n5 n6; simp [gateErr, n1, n2, n3, n4, n5, n6]), (Below.refl _ _).alloc (Nat.le_refl _) _⟩
theorem gate_any (p : Nat) (hp : 0 < p) (slots at_ k a b K : Int) (w : World) : Calls Tryz.prog 37 #[.int .u64 p, .int .i64 slots, .int .i64 at_, .agg #[.int .i64 k, .int .i64 a, .int .i64 b, .int .u64 K]] w (GatePost (gateErr p slots at_ k a b K) w) := by
  rcases Bool.eq_false_or_eq_true (k == 1) with n1 | n1
  · obtain rfl : k = 1 := by simpa using n1
    exact gate_1 p hp slots at_ a b K w
  rcases Bool.eq_false_or_eq_true (k == 2) with n2 | n2
  · obtain rfl : k = 2 := by simpa using n2
    exact gate_2 p hp slots at_ a b K w
  rcases Bool.eq_false_or_eq_true (k == 3) with n3 | n3
  · obtain rfl : k = 3 := by simpa using n3
    exact gate_3 p hp slots at_ a b K w
  rcases Bool.eq_false_or_eq_true (k == 4) with n4 | n4
  · obtain rfl : k = 4 := by simpa using n4
    exact gate_4 p hp slots at_ a b K w
  rcases Bool.eq_false_or_eq_true (k == 5) with n5 | n5
  · obtain rfl : k = 5 := by simpa using n5
    exact gate_5 p hp slots at_ a b K w
  rcases Bool.eq_false_or_eq_true (k == 6) with n6 | n6
  · obtain rfl : k = 6 := by simpa using n6
    exact gate_6 p hp slots at_ a b K w
  exact gate_else p hp slots at_ k a b K n1 n2 n3 n4 n5 n6 w
theorem rgate_any (p : Nat) (hp : 0 < p) (slots at_ k a b K : Int) (w : World) : Calls Tryz.prog 40 #[.int .u64 p, .int .i64 slots, .int .i64 at_, .agg #[.int .i64 k, .int .i64 a, .int .i64 b, .int .u64 K]] w (GatePost (gateErr p slots at_ k a b K) w) := by
  rcases Bool.eq_false_or_eq_true (k == 1) with n1 | n1
  · obtain rfl : k = 1 := by simpa using n1
    exact rgate_1 p hp slots at_ a b K w
  rcases Bool.eq_false_or_eq_true (k == 2) with n2 | n2
  · obtain rfl : k = 2 := by simpa using n2
    exact rgate_2 p hp slots at_ a b K w
  rcases Bool.eq_false_or_eq_true (k == 3) with n3 | n3
  · obtain rfl : k = 3 := by simpa using n3
    exact rgate_3 p hp slots at_ a b K w
  rcases Bool.eq_false_or_eq_true (k == 4) with n4 | n4
  · obtain rfl : k = 4 := by simpa using n4
    exact rgate_4 p hp slots at_ a b K w
  rcases Bool.eq_false_or_eq_true (k == 5) with n5 | n5
  · obtain rfl : k = 5 := by simpa using n5
    exact rgate_5 p hp slots at_ a b K w
  rcases Bool.eq_false_or_eq_true (k == 6) with n6 | n6
  · obtain rfl : k = 6 := by simpa using n6
    exact rgate_6 p hp slots at_ a b K w
  exact rgate_else p hp slots at_ k a b K n1 n2 n3 n4 n5 n6 w
end Go.Proofs.YtmnbgamnbgdnnaaGreatDoor

/- Contracts over slices of numbers: Below, Within, Same, ints. -/
namespace Go.Proofs.YtmnbgamnbgdnnaaGreatDoor
open Go.RowKit

/-- A slice that reads as these cells. -/
def Reads (w : World) (A : Option Addr) (cs : List Value) : Prop := cs = [] ∨ ∃ ad, A = some ad ∧ ∀ j u, cs[j]? = some u → w.cell? (ad.add j) = some u
theorem Reads.below {w w' : World} {A : Option Addr} {cs : List Value} (h : Reads w A cs) (hb : Below w.heap.size w w') : Reads w' A cs := by
  rcases h with h | ⟨ad, h1, h2⟩
  · exact .inl h
  · exact .inr ⟨ad, h1, fun j u hu => (hb.cell (World.block_lt_of_cell? w _ (h2 j u hu))).trans (h2 j u hu)⟩
def uCells (l : List Nat) : List Value := l.map fun (x : Nat) => .int .u64 x
def iCells (l : List Int) : List Value := l.map fun x => .int .i64 x
theorem Reads.u {w : World} {A : Option Addr} {l : List Nat} (h : Reads w A (uCells l)) (k : Nat) (hk : k < l.length) : ∃ ad, A = some ad ∧ w.cell? (ad.add k) = some (.int .u64 l[k]) := by
  rcases h with h | ⟨ad, h1, h2⟩
  · have := congrArg List.length h; simp [uCells] at this; subst this; simp at hk
  · exact ⟨ad, h1, h2 k _ (by simp [uCells, List.getElem?_eq_getElem hk])⟩
theorem Reads.i {w : World} {A : Option Addr} {l : List Int} (h : Reads w A (iCells l)) (k : Nat) (hk : k < l.length) : ∃ ad, A = some ad ∧ w.cell? (ad.add k) = some (.int .i64 l[k]) := by
  rcases h with h | ⟨ad, h1, h2⟩
  · have := congrArg List.length h; simp [iCells] at this; subst this; simp at hk
  · exact ⟨ad, h1, h2 k _ (by simp [iCells, List.getElem?_eq_getElem hk])⟩
theorem Reads.some_u {w : World} {ad : Addr} {l : List Nat} (h : Reads w (some ad) (uCells l)) (k : Nat) (hk : k < l.length) : w.cell? (ad.add k) = some (.int .u64 l[k]) := by
  obtain ⟨ad', e, q⟩ := h.u k hk
  injection e with e
  subst e
  exact q
theorem Reads.some_i {w : World} {ad : Addr} {l : List Int} (h : Reads w (some ad) (iCells l)) (k : Nat) (hk : k < l.length) : w.cell? (ad.add k) = some (.int .i64 l[k]) := by
  obtain ⟨ad', e, q⟩ := h.i k hk
  injection e with e
  subst e
  exact q
def allLt (p : Nat) (l : List Nat) : Bool := l.all fun x => decide (x < p)
theorem allLt_succ {p : Nat} {l : List Nat} {k : Nat} (hk : k < l.length) (h : allLt p (l.take k) = true) (h1 : l[k] < p) : allLt p (l.take (k + 1)) = true := by
  unfold allLt at *
  rw [List.take_succ_eq_append_getElem hk, List.all_append, h]
  simp [h1]
theorem allLt_bad {p : Nat} {l : List Nat} {k : Nat} (hk : k < l.length) (h1 : p ≤ l[k]) : allLt p l = false := by
  unfold allLt
  rw [List.all_eq_false]
  exact ⟨l[k], List.getElem_mem hk, by simp; omega⟩
def ltErr (p : Nat) (l : List Nat) : Int := if allLt p l then 0 else 2
def IPost (r : Int) (w : World) (e : Ending) (w' : World) : Prop := e = .returned (.int .i64 r) ∧ w = w'
set_option maxRecDepth 100000 in
theorem below_some (p : Nat) (l : List Nat) (hl : l.length ≤ 9223372036854775807) (ad : Addr) (c : Nat) (w : World) (hR : Reads w (some ad) (uCells l)) : Calls Tryz.prog 42 #[.int .u64 p, .slice (some ad) l.length c] w (IPost (ltErr p l) w) := by
  have HR := Lib.hid hR; clear hR
  go_enter Tryz.func42, Tryz.ntmps42
  go_wp2
  go_loopg [9] l.length (fun g v wr => ∃ k : Nat, k ≤ l.length ∧ g = l.length - k ∧ v = .int .i64 k ∧ Hid (allLt p (l.take k) = true) ∧ w = wr)
  case atStart => exact ⟨0, by omega, rfl, rfl, rfl, rfl⟩
  case round =>
    obtain ⟨k, hk, rfl, rfl, hd, rfl⟩ := hrel
    by_cases hlt : k < l.length
    · have q0 := HR.out.some_u k hlt
      by_cases h1 : l[k] < p
      · have i1 : (l[k] : Int) < (p : Int) := by omega
        have HN := Lib.hid (allLt_succ hlt hd.out h1)
        clear hd h1
        go_wp2
        go_roundg (l.length - (k + 1))
        case measure => omega
        case rel => exact ⟨k + 1, by omega, rfl, by go_num, HN.out, rfl⟩
      · have i1 : (p : Int) ≤ (l[k] : Int) := by omega
        have HN := Lib.hid (allLt_bad hlt (by omega : p ≤ l[k]))
        clear hd h1
        go_wp2
        go_ret
        exact ⟨ret_e (by unfold ltErr; rw [HN.out]; rfl), rfl⟩
    · obtain rfl : k = l.length := by omega
      have hd' := hd.out
      rw [List.take_length] at hd'
      have HN := Lib.hid hd'; clear hd hd'
      go_wp2
      go_ret
      exact ⟨ret_e (by unfold ltErr; rw [HN.out]; rfl), rfl⟩
set_option maxRecDepth 100000 in
theorem below_none (p : Nat) (A : Option Addr) (c : Nat) (w : World) : Calls Tryz.prog 42 #[.int .u64 p, .slice A 0 c] w (IPost 0 w) := by
  go_enter Tryz.func42, Tryz.ntmps42
  go_wp2
  go_loopg [9] 0 (fun g v wr => v = .int .i64 0 ∧ w = wr)
  case atStart => exact ⟨rfl, rfl⟩
  case round =>
    obtain ⟨rfl, rfl⟩ := hrel
    go_wp2
    go_ret
    exact ⟨rfl, rfl⟩
theorem belowL_any (p : Nat) (l : List Nat) (hl : l.length ≤ 9223372036854775807) (A : Option Addr) (c : Nat) (w : World) (hR : Reads w A (uCells l)) : Calls Tryz.prog 42 #[.int .u64 p, .slice A l.length c] w (IPost (ltErr p l) w) := by
  have hR' := hR
  rcases hR with h | ⟨ad, rfl, _⟩
  · have := congrArg List.length h
    simp [uCells] at this
    subst this
    exact below_none p A c w
  · exact below_some p l hl ad c w hR'
set_option maxRecDepth 100000 in
theorem within_some (p : Nat) (l : List Nat) (hl : l.length ≤ 9223372036854775807) (ad : Addr) (c : Nat) (w : World) (hR : Reads w (some ad) (uCells l)) : Calls Tryz.prog 27 #[.int .u64 p, .slice (some ad) l.length c] w (IPost (ltErr p l) w) := by
  have HR := Lib.hid hR; clear hR
  go_enter Tryz.func27, Tryz.ntmps27
  go_wp2
  go_loopg [9] l.length (fun g v wr => ∃ k : Nat, k ≤ l.length ∧ g = l.length - k ∧ v = .int .i64 k ∧ Hid (allLt p (l.take k) = true) ∧ w = wr)
  case atStart => exact ⟨0, by omega, rfl, rfl, rfl, rfl⟩
  case round =>
    obtain ⟨k, hk, rfl, rfl, hd, rfl⟩ := hrel
    by_cases hlt : k < l.length
    · have q0 := HR.out.some_u k hlt
      by_cases h1 : l[k] < p
      · have i1 : (l[k] : Int) < (p : Int) := by omega
        have HN := Lib.hid (allLt_succ hlt hd.out h1)
        clear hd h1
        go_wp2
        go_roundg (l.length - (k + 1))
        case measure => omega
        case rel => exact ⟨k + 1, by omega, rfl, by go_num, HN.out, rfl⟩
      · have i1 : (p : Int) ≤ (l[k] : Int) := by omega
        have HN := Lib.hid (allLt_bad hlt (by omega : p ≤ l[k]))
        clear hd h1
        go_wp2
        go_ret
        exact ⟨ret_e (by unfold ltErr; rw [HN.out]; rfl), rfl⟩
    · obtain rfl : k = l.length := by omega
      have hd' := hd.out
      rw [List.take_length] at hd'
      have HN := Lib.hid hd'; clear hd hd'
      go_wp2
      go_ret
      exact ⟨ret_e (by unfold ltErr; rw [HN.out]; rfl), rfl⟩
set_option maxRecDepth 100000 in
theorem within_none (p : Nat) (A : Option Addr) (c : Nat) (w : World) : Calls Tryz.prog 27 #[.int .u64 p, .slice A 0 c] w (IPost 0 w) := by
  go_enter Tryz.func27, Tryz.ntmps27
  go_wp2
  go_loopg [9] 0 (fun g v wr => v = .int .i64 0 ∧ w = wr)
  case atStart => exact ⟨rfl, rfl⟩
  case round =>
    obtain ⟨rfl, rfl⟩ := hrel
    go_wp2
    go_ret
    exact ⟨rfl, rfl⟩
theorem withinL_any (p : Nat) (l : List Nat) (hl : l.length ≤ 9223372036854775807) (A : Option Addr) (c : Nat) (w : World) (hR : Reads w A (uCells l)) : Calls Tryz.prog 27 #[.int .u64 p, .slice A l.length c] w (IPost (ltErr p l) w) := by
  have hR' := hR
  rcases hR with h | ⟨ad, rfl, _⟩
  · have := congrArg List.length h
    simp [uCells] at this
    subst this
    exact within_none p A c w
  · exact within_some p l hl ad c w hR'
set_option maxRecDepth 100000 in
theorem same_some (l : List Nat) (hl : l.length ≤ 9223372036854775807) (a b : Addr) (c d : Nat) (w : World) (hA : Reads w (some a) (uCells l)) (hB : Reads w (some b) (uCells l)) : Calls Tryz.prog 46 #[.slice (some a) l.length c, .slice (some b) l.length d] w fun e w' => e = .returned (.bool true) ∧ ∃ n, w' = w.drewN n := by
  have HA := Lib.hid hA; clear hA
  have HB := Lib.hid hB; clear hB
  go_enter Tryz.func46, Tryz.ntmps46
  go_wp2
  go_loopg [13] l.length (fun g v wr => ∃ k n : Nat, k ≤ l.length ∧ g = l.length - k ∧ v = .int .i64 k ∧ wr = w.drewN n)
  case atStart => exact ⟨0, 0, by omega, rfl, rfl, by simp [World.drewN_zero]⟩
  case round =>
    obtain ⟨k, n, hk, rfl, rfl, rfl⟩ := hrel
    by_cases hlt : k < l.length
    · have q0 := HA.out.some_u k hlt
      have r0 := HB.out.some_u k hlt
      go_wp2
      go_quiet (fail)
      try go_wp2
      go_roundg (l.length - (k + 1))
      case measure => omega
      case rel => exact ⟨k + 1, _, by omega, rfl, by go_num, by first | rfl | (rw [World.drewN_drewN]) | (rw [World.drewN_add])⟩
    · obtain rfl : k = l.length := by omega
      go_wp2
      go_ret
      exact ⟨rfl, _, rfl⟩
set_option maxRecDepth 100000 in
theorem told_ints_some (l : List Int) (hl : l.length ≤ 9223372036854775807) (a b : Addr) (c d : Nat) (w : World) (hA : Reads w (some a) (iCells l)) (hB : Reads w (some b) (iCells l)) : Calls Tryz.prog 49 #[.slice (some a) l.length c, .slice (some b) l.length d] w fun e w' => e = .returned (.bool true) ∧ ∃ n, w' = w.drewN n := by
  have HA := Lib.hid hA; clear hA
  have HB := Lib.hid hB; clear hB
  go_enter Tryz.func49, Tryz.ntmps49
  go_wp2
  go_loopg [13] l.length (fun g v wr => ∃ k n : Nat, k ≤ l.length ∧ g = l.length - k ∧ v = .int .i64 k ∧ wr = w.drewN n)
  case atStart => exact ⟨0, 0, by omega, rfl, rfl, by simp [World.drewN_zero]⟩
  case round =>
    obtain ⟨k, n, hk, rfl, rfl, rfl⟩ := hrel
    by_cases hlt : k < l.length
    · have q0 := HA.out.some_i k hlt
      have r0 := HB.out.some_i k hlt
      go_wp2
      go_quiet (fail)
      try go_wp2
      go_roundg (l.length - (k + 1))
      case measure => omega
      case rel => exact ⟨k + 1, _, by omega, rfl, by go_num, by first | rfl | (rw [World.drewN_drewN]) | (rw [World.drewN_add])⟩
    · obtain rfl : k = l.length := by omega
      go_wp2
      go_ret
      exact ⟨rfl, _, rfl⟩
set_option maxRecDepth 100000 in
theorem ints_some (l : List Int) (hl : l.length ≤ 9223372036854775807) (a b : Addr) (c d : Nat) (w : World) (hA : Reads w (some a) (iCells l)) (hB : Reads w (some b) (iCells l)) : Calls Tryz.prog 65 #[.slice (some a) l.length c, .slice (some b) l.length d] w fun e w' => e = .returned (.bool true) ∧ ∃ n, w' = w.drewN n := by
  have HA := Lib.hid hA; clear hA
  have HB := Lib.hid hB; clear hB
  go_enter Tryz.func65, Tryz.ntmps65
  go_wp2
  go_loopg [13] l.length (fun g v wr => ∃ k n : Nat, k ≤ l.length ∧ g = l.length - k ∧ v = .int .i64 k ∧ wr = w.drewN n)
  case atStart => exact ⟨0, 0, by omega, rfl, rfl, by simp [World.drewN_zero]⟩
  case round =>
    obtain ⟨k, n, hk, rfl, rfl, rfl⟩ := hrel
    by_cases hlt : k < l.length
    · have q0 := HA.out.some_i k hlt
      have r0 := HB.out.some_i k hlt
      go_wp2
      go_quiet (fail)
      try go_wp2
      go_roundg (l.length - (k + 1))
      case measure => omega
      case rel => exact ⟨k + 1, _, by omega, rfl, by go_num, by first | rfl | (rw [World.drewN_drewN]) | (rw [World.drewN_add])⟩
    · obtain rfl : k = l.length := by omega
      go_wp2
      go_ret
      exact ⟨rfl, _, rfl⟩
end Go.Proofs.YtmnbgamnbgdnnaaGreatDoor

/- Contracts of IndexFunc and ContainsFunc over ints, of circ.Exit and the reference's Exit and Rising. -/
namespace Go.Proofs.YtmnbgamnbgdnnaaGreatDoor
open Go.RowKit

/-- A function value with one captured variable that says q of a number, in one world. -/
structure SaysI (j : FuncId) (x : Value) (W : World) (q : Int → Bool) : Prop where
  run : ∀ (args : Array Value) (W : World), (callFunc j args).run Tryz.prog W = .ok (.enter j args) W
  says : ∀ (c : Int), Calls Tryz.prog j #[.int .i64 c, x] W fun e w' => e = .returned (.bool (q c)) ∧ W = w'
def SomeIdx (b : Bool) (W : World) (e : Ending) (w' : World) : Prop := ∃ n : Int, e = .returned (.int .i64 n) ∧ decide (0 ≤ n) = b ∧ W = w'
theorem any_succ {α : Type} {l : List α} {q : α → Bool} {k : Nat} (h : k < l.length) (h0 : (l.take k).any q = false) (h1 : q l[k] = false) : (l.take (k + 1)).any q = false := by
  rw [List.take_succ_eq_append_getElem h, List.any_append, h0]
  simp [h1]
theorem any_at {α : Type} {l : List α} {q : α → Bool} {k : Nat} (h : k < l.length) (h1 : q l[k] = true) : l.any q = true := List.any_eq_true.2 ⟨_, List.getElem_mem h, h1⟩
set_option maxRecDepth 100000 in
theorem indexI_any (j : FuncId) (x : Value) (q : Int → Bool) (W : World) (hk : SaysI j x W q) (l : List Int) (A : Option Addr) (cap : Nat) (hl : l.length ≤ 9223372036854775807) (hR : Reads W A (iCells l)) :
    Calls Tryz.prog 97 #[.slice A l.length cap, .func (.func j) #[] #[x]] W (SomeIdx (l.any q) W) := by
  have hrun := hk.run
  have HK := Lib.hid hk.says; clear hk
  have HR := Lib.hid hR; clear hR
  go_enter Tryz.func97, Tryz.ntmps97
  go_wp2
  go_loopg [8] l.length (fun g v wr => ∃ k : Nat, k ≤ l.length ∧ g = l.length - k ∧ v = .int .i64 k ∧ Hid ((l.take k).any q = false) ∧ W = wr)
  case atStart => exact ⟨0, Nat.zero_le _, rfl, rfl, rfl, rfl⟩
  case round =>
    obtain ⟨k, hk, rfl, rfl, H0, rfl⟩ := hrel
    by_cases hlt : k < l.length
    · obtain ⟨ad, rfl, q0⟩ := HR.out.i k hlt
      have hs := HK.out l[k]
      rcases Bool.eq_false_or_eq_true (q l[k]) with hq | hq
      · rw [hq] at hs
        have HS := Lib.hid hs; clear hs
        have HQ := Lib.hid hq; clear hq
        go_wp2_with ((with_reducible refine HS.out.mono ?_); rintro e w' ⟨rfl, rfl⟩)
        go_ret
        exact ⟨k, rfl, by rw [any_at hlt HQ.out]; simp, rfl⟩
      · rw [hq] at hs
        have HS := Lib.hid hs; clear hs
        have HN := Lib.hid (any_succ hlt H0.out hq); clear hq
        go_wp2_with ((with_reducible refine HS.out.mono ?_); rintro e w' ⟨rfl, rfl⟩)
        go_roundg (l.length - (k + 1))
        case measure => omega
        case rel => exact ⟨k + 1, by omega, rfl, by go_num, HN.out, rfl⟩
    · obtain rfl : k = l.length := by omega
      have h := H0.out
      rw [List.take_length] at h
      have HN := Lib.hid h; clear h
      go_wp2
      go_ret
      exact ⟨(-1 : Int), rfl, by rw [HN.out]; rfl, rfl⟩
set_option maxRecDepth 100000 in
theorem containsI_any (j : FuncId) (x : Value) (q : Int → Bool) (W : World) (hk : SaysI j x W q) (l : List Int) (A : Option Addr) (cap : Nat) (hl : l.length ≤ 9223372036854775807) (hR : Reads W A (iCells l)) :
    Calls Tryz.prog 74 #[.slice A l.length cap, .func (.func j) #[] #[x]] W (BRet (l.any q) W) := by
  have HI := Lib.hid (indexI_any j x q W hk l A cap hl hR)
  clear hk hR
  go_enter Tryz.func74, Tryz.ntmps74
  go_wp2_with (go_at_call 97; refine HI.out.mono ?_; rintro e w' ⟨n, rfl, hn, rfl⟩; have HN := Lib.hid hn; clear hn)
  go_ret
  exact ⟨ret_bl HN.out, rfl⟩

def outside (gates g : Int) : Bool := decide (g < 0) || decide (gates ≤ g)
set_option maxRecDepth 100000 in
theorem exit1_at (gates : Int) (a : Nat) (W : World) (ha : W.cell? ⟨a, 0, none⟩ = some (.int .i64 gates)) : SaysI 79 (.pointer (some ⟨a, 0, none⟩)) W (outside gates) := by
  refine ⟨fun _ _ => by kernel_rfl, fun c => ?_⟩
  by_cases h : c < 0
  · go_enter Tryz.func79, Tryz.ntmps79
    go_wp2
    go_ret
    exact ⟨ret_bl (by simp [outside, h]), rfl⟩
  · have h' : 0 ≤ c := by omega
    go_enter Tryz.func79, Tryz.ntmps79
    go_wp2
    go_ret
    exact ⟨ret_bl (by simp [outside]; omega), rfl⟩
/-- Strictly ascending numbers of parties, from above last. -/
def risingFrom : Int → List Int → Bool
  | _, [] => true
  | last, x :: r => decide (last < x) && decide (x ≤ 13) && risingFrom x r
def exitErr (gates : Int) (tl gs : List Int) : Int := if risingFrom 0 tl = false then 2 else if 1024 < gs.length then 3 else if gs.any (outside gates) then 13 else 0
theorem rising_drop {l : List Int} {k : Nat} (hk : k < l.length) (last : Int) : risingFrom last (l.drop k) = (decide (last < l[k]) && decide (l[k] ≤ 13) && risingFrom l[k] (l.drop (k + 1))) := by
  rw [List.drop_eq_getElem_cons hk]; rfl
theorem rising_end {l : List Int} (last : Int) : risingFrom last (l.drop l.length) = true := by rw [List.drop_length]; rfl
set_option maxHeartbeats 1000000 in
set_option maxRecDepth 100000 in
theorem exit_any (gates : Int) (tl gs : List Int) (A B : Option Addr) (c d : Nat) (h1 : tl.length ≤ 9223372036854775807) (h2 : gs.length ≤ 9223372036854775807) (w : World) (hA : Reads w A (iCells tl)) (hB : Reads w B (iCells gs)) :
    Calls Tryz.prog 38 #[.int .i64 gates, .agg #[.slice A tl.length c, .slice B gs.length d]] w (GatePost (exitErr gates tl gs) w) := by
  have hb0 : Below w.heap.size w ((w.alloc (.cells #[.int .i64 gates] 3)).alloc (.cells #[.slice A tl.length c, .slice B gs.length d] 72)) := ((Below.refl _ _).alloc (Nat.le_refl _) _).alloc (by simp) _
  have hsay := exit1_at gates w.heap.size ((w.alloc (.cells #[.int .i64 gates] 3)).alloc (.cells #[.slice A tl.length c, .slice B gs.length d] 72)) (by simp)
  have hcon := containsI_any _ _ _ _ hsay gs B d h2 (hB.below hb0)
  have HA := Lib.hid (hA.below hb0)
  have HB0 := Lib.hid hb0
  clear hA hB hsay hb0
  go_enter Tryz.func38, Tryz.ntmps38
  go_wp2
  go_loopg [5, 11] tl.length (fun g a v wr => ∃ (k : Nat) (last : Int), k ≤ tl.length ∧ g = tl.length - k ∧ a = .int .i64 last ∧ v = .int .i64 k ∧ Hid (risingFrom last (tl.drop k) = risingFrom 0 tl) ∧ ((w.alloc (.cells #[.int .i64 gates] 3)).alloc (.cells #[.slice A tl.length c, .slice B gs.length d] 72)) = wr)
  case atStart => exact ⟨0, 0, by omega, rfl, rfl, rfl, rfl, rfl⟩
  case round =>
    obtain ⟨k, last, hk, rfl, rfl, rfl, hd, rfl⟩ := hrel
    by_cases hlt : k < tl.length
    · obtain ⟨ad, rfl, q0⟩ := HA.out.i k hlt
      have hst := rising_drop hlt last
      have HST := Lib.hid (hst.symm.trans hd.out); clear hst hd
      by_cases g1 : last < tl[k]
      · by_cases g2 : tl[k] ≤ 13
        · have HN : Hid (risingFrom tl[k] (tl.drop (k + 1)) = risingFrom 0 tl) := Lib.hid (by have h := HST.out; simpa [g1, g2] using h)
          go_wp2
          go_roundg (tl.length - (k + 1))
          case measure => omega
          case rel => exact ⟨k + 1, tl[k], by omega, rfl, rfl, by go_num, HN.out, rfl⟩
        · have g2' : 13 < tl[k] := by omega
          have HN : Hid (risingFrom 0 tl = false) := Lib.hid (by rw [← HST.out]; simp [g2])
          go_wp2
          go_ret
          exact ⟨ret_e (by unfold exitErr; rw [if_pos HN.out]), HB0.out⟩
      · have g1' : tl[k] ≤ last := by omega
        have HN : Hid (risingFrom 0 tl = false) := Lib.hid (by rw [← HST.out]; simp [g1])
        go_wp2
        go_ret
        exact ⟨ret_e (by unfold exitErr; rw [if_pos HN.out]), HB0.out⟩
    · obtain rfl : k = tl.length := by omega
      have HN := Lib.hid ((rising_end last).symm.trans hd.out).symm; clear hd
      by_cases g3 : 1024 < gs.length
      · go_wp2
        go_ret
        exact ⟨ret_e (by unfold exitErr; rw [if_neg (by rw [HN.out]; simp), if_pos g3]), HB0.out⟩
      · rcases Bool.eq_false_or_eq_true (gs.any (outside gates)) with hq | hq
        all_goals
          rw [hq] at hcon
          have HC := Lib.hid hcon; clear hcon
          have HQ := Lib.hid hq; clear hq
          go_wp2_with (go_at_call 74; refine HC.out.mono ?_; rintro e w' ⟨rfl, rfl⟩)
          go_ret
          exact ⟨ret_e (by unfold exitErr; rw [if_neg (by rw [HN.out]; simp), if_neg g3, HQ.out]; rfl), HB0.out⟩
end Go.Proofs.YtmnbgamnbgdnnaaGreatDoor

/- Contracts of the reference's Rising and Exit. -/
namespace Go.Proofs.YtmnbgamnbgdnnaaGreatDoor
open Go.RowKit

theorem add_pos (ad : Addr) (j : Nat) (h : 0 < j) : ad.add j = ⟨ad.block, ad.off + j, none⟩ := by
  unfold Addr.add
  rw [if_neg (by omega)]
theorem add_nil (ad : Addr) : ad.add 0 = ad := by simp [Addr.add]
set_option maxHeartbeats 1000000 in
set_option maxRecDepth 100000 in
theorem rising_any (l : List Int) (hl : l.length ≤ 9223372036854775807) (A : Option Addr) (c : Nat) (w : World) (hR : Reads w A (iCells l)) : Calls Tryz.prog 80 #[.int .i64 13, .slice A l.length c] w (BRet (risingFrom 0 l) w) := by
  have HR := Lib.hid hR; clear hR
  go_enter Tryz.func80, Tryz.ntmps80
  go_wp2
  go_loopg [9] l.length (fun g v wr => ∃ (k : Nat) (last : Int), k ≤ l.length ∧ g = l.length - k ∧ v = .int .i64 k ∧ ((k = 0 ∧ last = 0) ∨ ∃ m, ∃ hm : m < l.length, k = m + 1 ∧ last = l[m] ∧ 1 ≤ last) ∧ Hid (risingFrom last (l.drop k) = risingFrom 0 l) ∧ w = wr)
  case atStart => exact ⟨0, 0, by omega, rfl, rfl, .inl ⟨rfl, rfl⟩, rfl, rfl⟩
  case round =>
    obtain ⟨k, last, hk, rfl, rfl, hor, hd, rfl⟩ := hrel
    by_cases hlt : k < l.length
    · obtain ⟨ad, rfl, q0⟩ := HR.out.i k hlt
      have hst := rising_drop hlt last
      have HST := Lib.hid (hst.symm.trans hd.out); clear hst hd
      by_cases g0 : l[k] < 1
      · have HN : Hid (risingFrom 0 l = false) := Lib.hid (by rw [← HST.out]; rcases hor with ⟨_, rfl⟩ | ⟨m, hm, _, _, hl1⟩ <;> simp <;> omega)
        clear hor
        go_wp2
        go_ret
        exact ⟨ret_bl HN.out.symm, rfl⟩
      have g0' : 1 ≤ l[k] := by omega
      by_cases g2 : l[k] ≤ 13
      · rcases hor with ⟨rfl, rfl⟩ | ⟨m, hm, rfl, rfl, hl1⟩
        · have HN : Hid (risingFrom l[0] (l.drop (0 + 1)) = risingFrom 0 l) := Lib.hid (by have h := HST.out; rw [← h]; simp [g2]; omega)
          rw [add_nil] at q0
          go_wp2
          go_roundg (l.length - (0 + 1))
          case measure => omega
          case rel => exact ⟨0 + 1, l[0], by omega, rfl, by go_num, .inr ⟨0, hlt, rfl, rfl, g0'⟩, HN.out, rfl⟩
        · have r0 := HR.out.some_i m hm
          rw [add_pos _ _ (by omega)] at q0
          have hw : IntKind.i64.wrap ((m : Int) + 1 - 1) = (m : Int) := by rw [IntWalk.i64_in _ (by omega)]; omega
          by_cases g1 : l[m] < l[m + 1]
          · have HN : Hid (risingFrom l[m + 1] (l.drop (m + 1 + 1)) = risingFrom 0 l) := Lib.hid (by have h := HST.out; rw [← h]; simp [g2, g1])
            go_wp2
            go_roundg (l.length - (m + 1 + 1))
            case measure => omega
            case rel => exact ⟨m + 1 + 1, l[m + 1], by omega, rfl, by go_num, .inr ⟨m + 1, hlt, rfl, rfl, g0'⟩, HN.out, rfl⟩
          · have g1' : l[m + 1] ≤ l[m] := by omega
            have HN : Hid (risingFrom 0 l = false) := Lib.hid (by rw [← HST.out]; simp [g1])
            go_wp2
            go_ret
            exact ⟨ret_bl HN.out.symm, rfl⟩
      · have g2' : 13 < l[k] := by omega
        have HN : Hid (risingFrom 0 l = false) := Lib.hid (by rw [← HST.out]; simp [g2])
        clear hor
        go_wp2
        go_ret
        exact ⟨ret_bl HN.out.symm, rfl⟩
    · obtain rfl : k = l.length := by omega
      have HN := Lib.hid ((rising_end last).symm.trans hd.out).symm; clear hd hor
      go_wp2
      go_ret
      exact ⟨ret_bl HN.out.symm, rfl⟩
set_option maxHeartbeats 1000000 in
set_option maxRecDepth 100000 in
theorem rexit_any (gates : Int) (tl gs : List Int) (A B : Option Addr) (c d : Nat) (h1 : tl.length ≤ 9223372036854775807) (h2 : gs.length ≤ 9223372036854775807) (w : World) (hA : Reads w A (iCells tl)) (hB : Reads w B (iCells gs)) :
    Calls Tryz.prog 41 #[.int .i64 gates, .agg #[.slice A tl.length c, .slice B gs.length d]] w (GatePost (exitErr gates tl gs) w) := by
  have hb0 : Below w.heap.size w (w.alloc (.cells #[.slice A tl.length c, .slice B gs.length d] 72)) := (Below.refl _ _).alloc (Nat.le_refl _) _
  have hri := rising_any tl h1 A c _ (hA.below hb0)
  have HB := Lib.hid (hB.below hb0)
  have HB0 := Lib.hid hb0
  clear hA hB hb0
  rcases Bool.eq_false_or_eq_true (risingFrom 0 tl) with hq | hq
  · rw [hq] at hri
    have HRI := Lib.hid hri; clear hri
    have HQ := Lib.hid hq; clear hq
    by_cases g3 : 1024 < gs.length
    · go_enter Tryz.func41, Tryz.ntmps41
      go_wp2_with (go_at_call 80; refine HRI.out.mono ?_; rintro e w' ⟨rfl, rfl⟩)
      go_ret
      exact ⟨ret_e (by unfold exitErr; rw [if_neg (by rw [HQ.out]; simp), if_pos g3]), HB0.out⟩
    · go_enter Tryz.func41, Tryz.ntmps41
      go_wp2_with (go_at_call 80; refine HRI.out.mono ?_; rintro e w' ⟨rfl, rfl⟩)
      go_loopg [18] gs.length (fun g v wr => ∃ k : Nat, k ≤ gs.length ∧ g = gs.length - k ∧ v = .int .i64 k ∧ Hid ((gs.take k).any (outside gates) = false) ∧ (w.alloc (.cells #[.slice A tl.length c, .slice B gs.length d] 72)) = wr)
      case atStart => exact ⟨0, by omega, rfl, rfl, rfl, rfl⟩
      case round =>
        obtain ⟨k, hk, rfl, rfl, hd, rfl⟩ := hrel
        by_cases hlt : k < gs.length
        · obtain ⟨ad, rfl, q0⟩ := HB.out.i k hlt
          by_cases g1 : gs[k] < 0
          · have HN := Lib.hid (any_at (q := outside gates) hlt (by simp [outside, g1])); clear hd
            go_wp2
            go_ret
            exact ⟨ret_e (by unfold exitErr; rw [if_neg (by rw [HQ.out]; simp), if_neg g3, if_pos HN.out]), HB0.out⟩
          have g1' : 0 ≤ gs[k] := by omega
          by_cases g2 : gates ≤ gs[k]
          · have HN := Lib.hid (any_at (q := outside gates) hlt (by simp [outside, g2])); clear hd
            go_wp2
            go_ret
            exact ⟨ret_e (by unfold exitErr; rw [if_neg (by rw [HQ.out]; simp), if_neg g3, if_pos HN.out]), HB0.out⟩
          · have g2' : gs[k] < gates := by omega
            have HN := Lib.hid (any_succ (q := outside gates) hlt hd.out (by simp [outside]; omega)); clear hd
            go_wp2
            go_roundg (gs.length - (k + 1))
            case measure => omega
            case rel => exact ⟨k + 1, by omega, rfl, by go_num, HN.out, rfl⟩
        · obtain rfl : k = gs.length := by omega
          have h := hd.out
          rw [List.take_length] at h
          have HN := Lib.hid h; clear h hd
          go_wp2
          go_ret
          exact ⟨ret_e (by unfold exitErr; rw [if_neg (by rw [HQ.out]; simp), if_neg g3, if_neg (by rw [HN.out]; simp)]), HB0.out⟩
  · rw [hq] at hri
    have HRI := Lib.hid hri; clear hri
    have HQ := Lib.hid hq; clear hq
    go_enter Tryz.func41, Tryz.ntmps41
    go_wp2_with (go_at_call 80; refine HRI.out.mono ?_; rintro e w' ⟨rfl, rfl⟩)
    go_ret
    exact ⟨ret_e (by unfold exitErr; rw [if_pos HQ.out]), HB0.out⟩
end Go.Proofs.YtmnbgamnbgdnnaaGreatDoor

/- A circuit in memory; the slots' test; contract of circ.Check. -/
namespace Go.Proofs.YtmnbgamnbgdnnaaGreatDoor
open Go.RowKit

abbrev Slo := Int × Bool
abbrev Gat := Int × Int × Int × Int
structure Exi where
  tl : List Int
  gl : List Int
  A : Option Addr
  B : Option Addr
  c : Nat
  d : Nat
structure Cir where
  slots : List Slo
  gates : List Gat
  exits : List Exi
  SA : Option Addr
  GA : Option Addr
  EA : Option Addr
  sc : Nat
  gc : Nat
  ec : Nat
def sloCells (l : List Slo) : List Value := l.flatMap fun x => [.int .i64 x.1, .bool x.2]
def gatCells (l : List Gat) : List Value := l.flatMap fun g => [.int .i64 g.1, .int .i64 g.2.1, .int .i64 g.2.2.1, .int .u64 g.2.2.2]
def exiCells (l : List Exi) : List Value := l.flatMap fun x => [.slice x.A x.tl.length x.c, .slice x.B x.gl.length x.d]
structure HoldsC (w : World) (C : Cir) : Prop where
  s : Reads w C.SA (sloCells C.slots)
  g : Reads w C.GA (gatCells C.gates)
  e : Reads w C.EA (exiCells C.exits)
  x : ∀ x ∈ C.exits, Reads w x.A (iCells x.tl) ∧ Reads w x.B (iCells x.gl)
  n : C.slots.length ≤ 9223372036854775807 ∧ C.gates.length ≤ 9223372036854775807 ∧ C.exits.length ≤ 9223372036854775807
  m : ∀ x ∈ C.exits, x.tl.length ≤ 9223372036854775807 ∧ x.gl.length ≤ 9223372036854775807
  k : ∀ g ∈ C.gates, 0 ≤ g.2.2.2
theorem HoldsC.below {w w' : World} {C : Cir} (h : HoldsC w C) (hb : Below w.heap.size w w') : HoldsC w' C :=
  ⟨h.s.below hb, h.g.below hb, h.e.below hb, fun x hx => ⟨(h.x x hx).1.below hb, (h.x x hx).2.below hb⟩, h.n, h.m, h.k⟩
theorem flat_at {α : Type} (f : α → List Value) (n : Nat) (hf : ∀ x, (f x).length = n) (l : List α) (k : Nat) (h : k < l.length) (j : Nat) (hj : j < n) : (l.flatMap f)[k * n + j]? = (f l[k])[j]? := by
  induction l generalizing k with
  | nil => simp at h
  | cons x r ih =>
    rw [List.flatMap_cons]
    cases k with
    | zero => rw [List.getElem?_append_left (by rw [hf]; omega)]; simp
    | succ k =>
      rw [List.getElem?_append_right (by rw [hf, Nat.succ_mul]; omega), hf, show (k + 1) * n + j - n = k * n + j by rw [Nat.succ_mul]; omega]
      simpa using ih k (by simpa using h)
theorem add_part (ad : Addr) (m j : Nat) (hj : 0 < j) : ad.add (m + j) = ⟨(ad.add m).block, (ad.add m).off + j, none⟩ := by
  unfold Addr.add
  rw [if_neg (by omega)]
  split
  · rename_i h; subst h; simp
  · simp [Nat.add_assoc]
theorem Reads.slo {w : World} {A : Option Addr} {l : List Slo} (h : Reads w A (sloCells l)) (k : Nat) (hk : k < l.length) :
    ∃ ad, A = some ad ∧ w.cell? (ad.add (k * 2)) = some (.int .i64 l[k].1) ∧ w.cell? ⟨(ad.add (k * 2)).block, (ad.add (k * 2)).off + 1, none⟩ = some (.bool l[k].2) := by
  have e := flat_at (fun x : Slo => [.int .i64 x.1, .bool x.2]) 2 (fun _ => rfl) l k hk
  rcases h with h | ⟨ad, h1, h2⟩
  · have := e 0 (by omega); unfold sloCells at h; rw [h] at this; simp at this
  · refine ⟨ad, h1, h2 (k * 2) _ (e 0 (by omega)), ?_⟩
    rw [← add_part _ _ 1 (by omega)]
    exact h2 _ _ (e 1 (by omega))
theorem Reads.gat {w : World} {A : Option Addr} {l : List Gat} (h : Reads w A (gatCells l)) (k : Nat) (hk : k < l.length) :
    ∃ ad, A = some ad ∧ w.cell? (ad.add (k * 4)) = some (.int .i64 l[k].1) ∧ w.cell? ⟨(ad.add (k * 4)).block, (ad.add (k * 4)).off + 1, none⟩ = some (.int .i64 l[k].2.1) ∧ w.cell? ⟨(ad.add (k * 4)).block, (ad.add (k * 4)).off + 2, none⟩ = some (.int .i64 l[k].2.2.1) ∧ w.cell? ⟨(ad.add (k * 4)).block, (ad.add (k * 4)).off + 3, none⟩ = some (.int .u64 l[k].2.2.2) := by
  have e := flat_at (fun g : Gat => [.int .i64 g.1, .int .i64 g.2.1, .int .i64 g.2.2.1, .int .u64 g.2.2.2]) 4 (fun _ => rfl) l k hk
  rcases h with h | ⟨ad, h1, h2⟩
  · have := e 0 (by omega); unfold gatCells at h; rw [h] at this; simp at this
  · refine ⟨ad, h1, h2 (k * 4) _ (e 0 (by omega)), ?_⟩
    rw [← add_part _ _ 1 (by omega), ← add_part _ _ 2 (by omega), ← add_part _ _ 3 (by omega)]
    exact ⟨h2 _ _ (e 1 (by omega)), h2 _ _ (e 2 (by omega)), h2 _ _ (e 3 (by omega))⟩
theorem Reads.exi {w : World} {A : Option Addr} {l : List Exi} (h : Reads w A (exiCells l)) (k : Nat) (hk : k < l.length) :
    ∃ ad, A = some ad ∧ w.cell? (ad.add (k * 2)) = some (.slice l[k].A l[k].tl.length l[k].c) ∧ w.cell? ⟨(ad.add (k * 2)).block, (ad.add (k * 2)).off + 1, none⟩ = some (.slice l[k].B l[k].gl.length l[k].d) := by
  have e := flat_at (fun x : Exi => [.slice x.A x.tl.length x.c, .slice x.B x.gl.length x.d]) 2 (fun _ => rfl) l k hk
  rcases h with h | ⟨ad, h1, h2⟩
  · have := e 0 (by omega); unfold exiCells at h; rw [h] at this; simp at this
  · refine ⟨ad, h1, h2 (k * 2) _ (e 0 (by omega)), ?_⟩
    rw [← add_part _ _ 1 (by omega)]
    exact h2 _ _ (e 1 (by omega))

def badSlot (x : Slo) : Bool := decide (x.1 < 1) || decide (13 < x.1)
/-- A function value that says q of a slot. -/
structure SaysS (j : FuncId) (q : Slo → Bool) : Prop where
  run : ∀ (args : Array Value) (W : World), (callFunc j args).run Tryz.prog W = .ok (.enter j args) W
  says : ∀ (x : Slo) (W : World), Calls Tryz.prog j #[.agg #[.int .i64 x.1, .bool x.2]] W fun e w' => e = .returned (.bool (q x)) ∧ Below W.heap.size W w'
set_option maxRecDepth 100000 in
theorem check1_says : SaysS 36 badSlot := by
  refine ⟨fun _ _ => by kernel_rfl, fun x W => ?_⟩
  by_cases h : x.1 < 1
  · go_enter Tryz.func36, Tryz.ntmps36
    go_wp2
    go_ret
    exact ⟨ret_bl (by simp [badSlot, h]), (Below.refl _ _).alloc (Nat.le_refl _) _⟩
  · have h' : 1 ≤ x.1 := by omega
    go_enter Tryz.func36, Tryz.ntmps36
    go_wp2
    go_ret
    exact ⟨ret_bl (by simp [badSlot]; omega), (Below.refl _ _).alloc (Nat.le_refl _) _⟩
def SomeIdxB (b : Bool) (W : World) (e : Ending) (w' : World) : Prop := ∃ n : Int, e = .returned (.int .i64 n) ∧ decide (0 ≤ n) = b ∧ Below W.heap.size W w'
set_option maxRecDepth 100000 in
theorem indexS_any (j : FuncId) (q : Slo → Bool) (hk : SaysS j q) (W : World) (l : List Slo) (A : Option Addr) (cap : Nat) (hl : l.length ≤ 9223372036854775807) (hR : Reads W A (sloCells l)) :
    Calls Tryz.prog 76 #[.slice A l.length cap, .func (.func j) #[] #[]] W (SomeIdxB (l.any q) W) := by
  have hrun := hk.run
  have HK := Lib.hid hk.says; clear hk
  have HR := Lib.hid hR; clear hR
  go_enter Tryz.func76, Tryz.ntmps76
  go_wp2
  go_loopg [8] l.length (fun g v wr => ∃ k : Nat, k ≤ l.length ∧ g = l.length - k ∧ v = .int .i64 k ∧ Hid ((l.take k).any q = false) ∧ Below W.heap.size W wr)
  case atStart => exact ⟨0, Nat.zero_le _, rfl, rfl, rfl, Below.refl _ _⟩
  case round =>
    obtain ⟨k, hk, rfl, rfl, H0, hbel⟩ := hrel
    have HB := Lib.hid hbel; clear hbel
    by_cases hlt : k < l.length
    · obtain ⟨ad, rfl, q0, q1⟩ := (HR.out.below HB.out).slo k hlt
      have hs := fun W => HK.out l[k] W
      rcases Bool.eq_false_or_eq_true (q l[k]) with hq | hq
      · rw [hq] at hs
        have HS := Lib.hid hs; clear hs
        have HQ := Lib.hid hq; clear hq
        go_wp2_with ((with_reducible refine (HS.out _).mono ?_); rintro e w' ⟨rfl, hb2⟩; have HB2 := Lib.hid hb2; clear hb2)
        go_ret
        exact ⟨k, rfl, by rw [any_at hlt HQ.out]; simp, HB.out.trans (HB2.out.mono HB.out.size)⟩
      · rw [hq] at hs
        have HS := Lib.hid hs; clear hs
        have HN := Lib.hid (any_succ hlt H0.out hq); clear hq
        go_wp2_with ((with_reducible refine (HS.out _).mono ?_); rintro e w' ⟨rfl, hb2⟩; have HB2 := Lib.hid hb2; clear hb2)
        go_roundg (l.length - (k + 1))
        case measure => omega
        case rel => exact ⟨k + 1, by omega, rfl, by go_num, HN.out, HB.out.trans (HB2.out.mono HB.out.size)⟩
    · obtain rfl : k = l.length := by omega
      have h := H0.out
      rw [List.take_length] at h
      have HN := Lib.hid h; clear h
      go_wp2
      go_ret
      exact ⟨(-1 : Int), rfl, by rw [HN.out]; rfl, HB.out⟩
set_option maxRecDepth 100000 in
theorem containsS_any (j : FuncId) (q : Slo → Bool) (hk : SaysS j q) (W : World) (l : List Slo) (A : Option Addr) (cap : Nat) (hl : l.length ≤ 9223372036854775807) (hR : Reads W A (sloCells l)) :
    Calls Tryz.prog 35 #[.slice A l.length cap, .func (.func j) #[] #[]] W fun e w' => e = .returned (.bool (l.any q)) ∧ Below W.heap.size W w' := by
  have HI := Lib.hid (indexS_any j q hk W l A cap hl hR)
  clear hk hR
  go_enter Tryz.func35, Tryz.ntmps35
  go_wp2_with (go_at_call 76; refine HI.out.mono ?_; rintro e w' ⟨n, rfl, hn, hb⟩; have HN := Lib.hid hn; clear hn)
  go_ret
  exact ⟨ret_bl HN.out, ‹_›⟩
end Go.Proofs.YtmnbgamnbgdnnaaGreatDoor

/- Contracts of circ.Check and the reference's Check. -/
namespace Go.Proofs.YtmnbgamnbgdnnaaGreatDoor
open Go.RowKit

def gErr (p : Nat) (n : Int) (i : Int) (g : Gat) : Int := gateErr p n i g.1 g.2.1 g.2.2.1 g.2.2.2
def gatesErr (p : Nat) (n : Int) : Nat → List Gat → Int
  | _, [] => 0
  | i, g :: r => if gErr p n i g = 0 then gatesErr p n (i + 1) r else gErr p n i g
def xErr (m : Int) (x : Exi) : Int := exitErr m x.tl x.gl
def exitsErr (m : Int) : List Exi → Int
  | [] => 0
  | x :: r => if xErr m x = 0 then exitsErr m r else xErr m x
def tooBig (C : Cir) : Prop := 256 < C.slots.length ∨ 65536 < C.gates.length ∨ 4096 < C.exits.length
instance (C : Cir) : Decidable (tooBig C) := inferInstanceAs (Decidable (_ ∨ _ ∨ _))
/-- What is wrong with a circuit. -/
def checkErr (p : Nat) (C : Cir) : Int :=
  if isP p = false then 2 else if tooBig C then 3 else if C.slots.any badSlot = true then 2
  else if gatesErr p C.slots.length 0 C.gates = 0 then exitsErr C.gates.length C.exits else gatesErr p C.slots.length 0 C.gates
theorem gatesErr_at {p : Nat} {n : Int} {l : List Gat} {k : Nat} (hk : k < l.length) : gatesErr p n k (l.drop k) = if gErr p n k l[k] = 0 then gatesErr p n (k + 1) (l.drop (k + 1)) else gErr p n k l[k] := by
  rw [List.drop_eq_getElem_cons hk]; rfl
theorem gatesErr_end {p : Nat} {n : Int} {l : List Gat} : gatesErr p n l.length (l.drop l.length) = 0 := by rw [List.drop_length]; rfl
theorem exitsErr_at {m : Int} {l : List Exi} {k : Nat} (hk : k < l.length) : exitsErr m (l.drop k) = if xErr m l[k] = 0 then exitsErr m (l.drop (k + 1)) else xErr m l[k] := by
  rw [List.drop_eq_getElem_cons hk]; rfl
theorem exitsErr_end {m : Int} {l : List Exi} : exitsErr m (l.drop l.length) = 0 := by rw [List.drop_length]; rfl
theorem ck1 {p : Nat} {C : Cir} (h : isP p = false) : (2 : Int) = checkErr p C := by unfold checkErr; rw [if_pos h]
theorem ck2 {p : Nat} {C : Cir} (h : isP p = true) (h2 : tooBig C) : (3 : Int) = checkErr p C := by unfold checkErr; rw [if_neg (by rw [h]; simp), if_pos h2]
theorem ck3 {p : Nat} {C : Cir} (h : isP p = true) (h2 : ¬ tooBig C) (h3 : C.slots.any badSlot = true) : (2 : Int) = checkErr p C := by unfold checkErr; rw [if_neg (by rw [h]; simp), if_neg h2, if_pos h3]
theorem ck4 {p : Nat} {C : Cir} (h : isP p = true) (h2 : ¬ tooBig C) (h3 : C.slots.any badSlot = false) {x : Int} (h4 : gatesErr p C.slots.length 0 C.gates = x) (h5 : x ≠ 0) : x = checkErr p C := by
  unfold checkErr; rw [if_neg (by rw [h]; simp), if_neg h2, if_neg (by rw [h3]; simp), h4, if_neg h5]
theorem ck5 {p : Nat} {C : Cir} (h : isP p = true) (h2 : ¬ tooBig C) (h3 : C.slots.any badSlot = false) (h4 : gatesErr p C.slots.length 0 C.gates = 0) {x : Int} (h5 : exitsErr C.gates.length C.exits = x) : x = checkErr p C := by
  unfold checkErr; rw [if_neg (by rw [h]; simp), if_neg h2, if_neg (by rw [h3]; simp), h4, if_pos rfl, h5]
theorem below_alive {W0 w w1 : World} (h : Below W0.heap.size W0 w) (k : Below w.heap.size w w1) : Below W0.heap.size W0 w1 := h.trans (k.mono h.size)
set_option maxHeartbeats 4000000 in
set_option maxRecDepth 100000 in
theorem check_any (p : Nat) (hp : p < 18446744073709551616) (C : Cir) (w : World) (hC : HoldsC w C) :
    Calls Tryz.prog 10 #[.int .u64 p, .agg #[.slice C.SA C.slots.length C.sc, .slice C.GA C.gates.length C.gc, .slice C.EA C.exits.length C.ec]] w (GatePost (checkErr p C) w) := by
  have hb0 : Below w.heap.size w (w.alloc (.cells #[.slice C.SA C.slots.length C.sc, .slice C.GA C.gates.length C.gc, .slice C.EA C.exits.length C.ec] 27)) := (Below.refl _ _).alloc (Nat.le_refl _) _
  have HC := Lib.hid (hC.below hb0)
  obtain ⟨n1, n2, n3⟩ := hC.n
  have his := fun W => is_any p hp W
  clear hC
  rcases Bool.eq_false_or_eq_true (isP p) with hq | hq
  · have hp0 : 0 < p := by have := ((isP_iff p).1 hq).1; omega
    rw [hq] at his
    have HI := Lib.hid his; clear his
    have HQ := Lib.hid hq; clear hq
    by_cases hbig : tooBig C
    · have HT := Lib.hid hbig
      unfold tooBig at hbig
      by_cases b1 : 256 < C.slots.length
      · clear hbig
        go_enter Tryz.func10, Tryz.ntmps10
        go_wp2_with (go_at_call 34; refine (HI.out _).mono ?_; rintro e w' ⟨rfl, rfl⟩)
        go_ret
        exact ⟨ret_e (ck2 HQ.out HT.out), hb0⟩
      by_cases b2 : 65536 < C.gates.length
      · clear hbig
        go_enter Tryz.func10, Tryz.ntmps10
        go_wp2_with (go_at_call 34; refine (HI.out _).mono ?_; rintro e w' ⟨rfl, rfl⟩)
        go_ret
        exact ⟨ret_e (ck2 HQ.out HT.out), hb0⟩
      · have b3 : 4096 < C.exits.length := by omega
        clear hbig
        go_enter Tryz.func10, Tryz.ntmps10
        go_wp2_with (go_at_call 34; refine (HI.out _).mono ?_; rintro e w' ⟨rfl, rfl⟩)
        go_ret
        exact ⟨ret_e (ck2 HQ.out HT.out), hb0⟩
    · have HT := Lib.hid hbig
      obtain ⟨b1, b2, b3⟩ : C.slots.length ≤ 256 ∧ C.gates.length ≤ 65536 ∧ C.exits.length ≤ 4096 := by unfold tooBig at hbig; omega
      clear hbig
      have hcs := containsS_any _ _ check1_says (w.alloc (.cells #[.slice C.SA C.slots.length C.sc, .slice C.GA C.gates.length C.gc, .slice C.EA C.exits.length C.ec] 27)) C.slots C.SA C.sc n1 HC.out.s
      rcases Bool.eq_false_or_eq_true (C.slots.any badSlot) with hs | hs
      · rw [hs] at hcs
        have HCS := Lib.hid hcs; clear hcs
        have HS := Lib.hid hs; clear hs
        go_enter Tryz.func10, Tryz.ntmps10
        go_wp2_with (first | (go_at_call 34; refine (HI.out _).mono ?_; rintro e w' ⟨rfl, rfl⟩) | (go_at_call 35; refine HCS.out.mono ?_; rintro e w1 ⟨rfl, hb1⟩; have HB1 := Lib.hid hb1; clear hb1))
        go_ret
        exact ⟨ret_e (ck3 HQ.out HT.out HS.out), below_box HB1.out⟩
      · rw [hs] at hcs
        have HCS := Lib.hid hcs; clear hcs
        have HS := Lib.hid hs; clear hs
        go_enter Tryz.func10, Tryz.ntmps10
        go_wp2_with (first | (go_at_call 34; refine (HI.out _).mono ?_; rintro e w' ⟨rfl, rfl⟩) | (go_at_call 35; refine HCS.out.mono ?_; rintro e w1 ⟨rfl, hb1⟩; have c0 := hb1.cell (p := ⟨w.heap.size, 0, none⟩) (by simp); have c1 := hb1.cell (p := ⟨w.heap.size, 1, none⟩) (by simp); have c2 := hb1.cell (p := ⟨w.heap.size, 2, none⟩) (by simp); have HB1 := Lib.hid hb1; clear hb1))
        go_loopg [39] C.gates.length (fun g v wr => ∃ k : Nat, k ≤ C.gates.length ∧ g = C.gates.length - k ∧ v = .int .i64 k ∧ Hid (gatesErr p C.slots.length k (C.gates.drop k) = gatesErr p C.slots.length 0 C.gates) ∧ Below (w.alloc (.cells #[.slice C.SA C.slots.length C.sc, .slice C.GA C.gates.length C.gc, .slice C.EA C.exits.length C.ec] 27)).heap.size (w.alloc (.cells #[.slice C.SA C.slots.length C.sc, .slice C.GA C.gates.length C.gc, .slice C.EA C.exits.length C.ec] 27)) wr)
        case atStart => exact ⟨0, by omega, rfl, rfl, rfl, HB1.out⟩
        case round =>
          obtain ⟨k, hk, rfl, rfl, hd, hbel⟩ := hrel
          have HB := Lib.hid hbel; clear hbel
          have c0 := HB.out.cell (p := ⟨w.heap.size, 0, none⟩) (by simp)
          have c1 := HB.out.cell (p := ⟨w.heap.size, 1, none⟩) (by simp)
          have c2 := HB.out.cell (p := ⟨w.heap.size, 2, none⟩) (by simp)
          have hsz : w.heap.size < wr.heap.size := by have h5 := HB.out.size; simp at h5; omega
          by_cases hlt : k < C.gates.length
          · obtain ⟨ad, had, q0, q1, q2, q3⟩ := (HC.out.below HB.out).g.gat k hlt
            rw [had] at c1 ⊢
            have hst := gatesErr_at (p := p) (n := C.slots.length) hlt
            have HST := Lib.hid (hst.symm.trans hd.out); clear hst hd
            have hg := fun W => gate_any p hp0 C.slots.length k C.gates[k].1 C.gates[k].2.1 C.gates[k].2.2.1 C.gates[k].2.2.2 W
            rw [show gateErr p C.slots.length k C.gates[k].1 C.gates[k].2.1 C.gates[k].2.2.1 C.gates[k].2.2.2 = gErr p C.slots.length k C.gates[k] from rfl] at hg
            rcases Bool.eq_false_or_eq_true (gErr p C.slots.length k C.gates[k] == 0) with hz | hz
            · have hz' : gErr p C.slots.length k C.gates[k] = 0 := by simpa using hz
              rw [hz'] at hg
              have HG := Lib.hid hg; clear hg
              have HN := Lib.hid (show gatesErr p C.slots.length (k + 1) (C.gates.drop (k + 1)) = gatesErr p C.slots.length 0 C.gates by rw [← HST.out, if_pos hz']); clear hz hz'
              go_wp2_with (go_at_call 37; refine (HG.out _).mono ?_; rintro e w2 ⟨rfl, hb2⟩; have HB2 := Lib.hid hb2; clear hb2)
              rw [← had]
              go_roundg (C.gates.length - (k + 1))
              case measure => omega
              case rel => exact ⟨k + 1, by omega, rfl, by go_num, HN.out, below_alive (HB.out.alloc HB.out.size _) HB2.out⟩
            · have HN := Lib.hid (show gatesErr p C.slots.length 0 C.gates = gErr p C.slots.length k C.gates[k] by rw [← HST.out, if_neg (by simpa using hz)])
              generalize gErr p C.slots.length k C.gates[k] = er at hg hz HN
              have HG := Lib.hid hg; clear hg
              go_wp2_with (go_at_call 37; refine (HG.out _).mono ?_; rintro e w2 ⟨rfl, hb2⟩; have HB2 := Lib.hid hb2; clear hb2)
              go_ret
              exact ⟨ret_e (ck4 HQ.out HT.out HS.out HN.out (by simpa using hz)), below_box (below_alive (HB.out.alloc HB.out.size _) HB2.out)⟩
          · obtain rfl : k = C.gates.length := by omega
            have HGE := Lib.hid ((gatesErr_end).symm.trans hd.out).symm; clear hd
            go_wp2
            go_loopg [58] C.exits.length (fun g v wr => ∃ k : Nat, k ≤ C.exits.length ∧ g = C.exits.length - k ∧ v = .int .i64 k ∧ Hid (exitsErr C.gates.length (C.exits.drop k) = exitsErr C.gates.length C.exits) ∧ Below (w.alloc (.cells #[.slice C.SA C.slots.length C.sc, .slice C.GA C.gates.length C.gc, .slice C.EA C.exits.length C.ec] 27)).heap.size (w.alloc (.cells #[.slice C.SA C.slots.length C.sc, .slice C.GA C.gates.length C.gc, .slice C.EA C.exits.length C.ec] 27)) wr)
            case atStart => exact ⟨0, by omega, rfl, rfl, rfl, HB.out⟩
            case round =>
              clear c0 c1 c2
              have HBO := HB
              clear HB
              obtain ⟨k, hk, rfl, rfl, hd, hbel⟩ := hrel
              have HB := Lib.hid hbel; clear hbel
              have c0 := HB.out.cell (p := ⟨w.heap.size, 0, none⟩) (by simp)
              have c1 := HB.out.cell (p := ⟨w.heap.size, 1, none⟩) (by simp)
              have c2 := HB.out.cell (p := ⟨w.heap.size, 2, none⟩) (by simp)
              have hsz : w.heap.size < wr.heap.size := by have h5 := HB.out.size; simp at h5; omega
              by_cases hlt : k < C.exits.length
              · obtain ⟨ad, had, q0, q1⟩ := (HC.out.below HB.out).e.exi k hlt
                rw [had] at c2 ⊢
                have hst := exitsErr_at (m := C.gates.length) hlt
                have HST := Lib.hid (hst.symm.trans hd.out); clear hst hd
                have hmem : C.exits[k] ∈ C.exits := List.getElem_mem hlt
                have hg := fun W (h : Below (w.alloc (.cells #[.slice C.SA C.slots.length C.sc, .slice C.GA C.gates.length C.gc, .slice C.EA C.exits.length C.ec] 27)).heap.size (w.alloc (.cells #[.slice C.SA C.slots.length C.sc, .slice C.GA C.gates.length C.gc, .slice C.EA C.exits.length C.ec] 27)) W) => exit_any C.gates.length C.exits[k].tl C.exits[k].gl C.exits[k].A C.exits[k].B C.exits[k].c C.exits[k].d (HC.out.m _ hmem).1 (HC.out.m _ hmem).2 W ((HC.out.below h).x _ hmem).1 ((HC.out.below h).x _ hmem).2
                rw [show exitErr C.gates.length C.exits[k].tl C.exits[k].gl = xErr C.gates.length C.exits[k] from rfl] at hg
                clear hmem
                rcases Bool.eq_false_or_eq_true (xErr C.gates.length C.exits[k] == 0) with hz | hz
                · have hz' : xErr C.gates.length C.exits[k] = 0 := by simpa using hz
                  rw [hz'] at hg
                  have HG := Lib.hid hg; clear hg
                  have HN := Lib.hid (show exitsErr C.gates.length (C.exits.drop (k + 1)) = exitsErr C.gates.length C.exits by rw [← HST.out, if_pos hz']); clear hz hz'
                  go_wp2_with (go_at_call 38; refine (HG.out _ (HB.out.alloc HB.out.size _)).mono ?_; rintro e w2 ⟨rfl, hb2⟩; have HB2 := Lib.hid hb2; clear hb2)
                  rw [← had]
                  go_roundg (C.exits.length - (k + 1))
                  case measure => omega
                  case rel => exact ⟨k + 1, by omega, rfl, by go_num, HN.out, below_alive (HB.out.alloc HB.out.size _) HB2.out⟩
                · have HN := Lib.hid (show exitsErr C.gates.length C.exits = xErr C.gates.length C.exits[k] by rw [← HST.out, if_neg (by simpa using hz)])
                  generalize xErr C.gates.length C.exits[k] = er at hg hz HN
                  have HG := Lib.hid hg; clear hg
                  go_wp2_with (go_at_call 38; refine (HG.out _ (HB.out.alloc HB.out.size _)).mono ?_; rintro e w2 ⟨rfl, hb2⟩; have HB2 := Lib.hid hb2; clear hb2)
                  go_ret
                  exact ⟨ret_e (ck5 HQ.out HT.out HS.out HGE.out HN.out), below_box (below_alive (HB.out.alloc HB.out.size _) HB2.out)⟩
              · obtain rfl : k = C.exits.length := by omega
                have HXE := Lib.hid ((exitsErr_end).symm.trans hd.out).symm; clear hd
                go_wp2
                go_ret
                exact ⟨ret_e (ck5 HQ.out HT.out HS.out HGE.out HXE.out), below_box HB.out⟩

  · rw [hq] at his
    have HI := Lib.hid his; clear his
    have HQ := Lib.hid hq; clear hq
    go_enter Tryz.func10, Tryz.ntmps10
    go_wp2_with (go_at_call 34; refine (HI.out _).mono ?_; rintro e w' ⟨rfl, rfl⟩)
    go_ret
    exact ⟨ret_e (ck1 HQ.out), hb0⟩
set_option maxHeartbeats 4000000 in
set_option maxRecDepth 100000 in
theorem rcheck_any (p : Nat) (hp : p < 18446744073709551616) (C : Cir) (w : World) (hC : HoldsC w C) :
    Calls Tryz.prog 11 #[.int .u64 p, .agg #[.slice C.SA C.slots.length C.sc, .slice C.GA C.gates.length C.gc, .slice C.EA C.exits.length C.ec]] w (GatePost (checkErr p C) w) := by
  have hb0 : Below w.heap.size w (w.alloc (.cells #[.slice C.SA C.slots.length C.sc, .slice C.GA C.gates.length C.gc, .slice C.EA C.exits.length C.ec] 27)) := (Below.refl _ _).alloc (Nat.le_refl _) _
  have HC := Lib.hid (hC.below hb0)
  obtain ⟨n1, n2, n3⟩ := hC.n
  have his := fun W => rIs_any p hp W
  clear hC
  rcases Bool.eq_false_or_eq_true (isP p) with hq | hq
  · have hp0 : 0 < p := by have := ((isP_iff p).1 hq).1; omega
    rw [hq] at his
    have HI := Lib.hid his; clear his
    have HQ := Lib.hid hq; clear hq
    by_cases hbig : tooBig C
    · have HT := Lib.hid hbig
      unfold tooBig at hbig
      by_cases b1 : 256 < C.slots.length
      · clear hbig
        go_enter Tryz.func11, Tryz.ntmps11
        go_wp2_with (go_at_call 39; refine (HI.out _).mono ?_; rintro e w' ⟨rfl, rfl⟩)
        go_ret
        exact ⟨ret_e (ck2 HQ.out HT.out), hb0⟩
      by_cases b2 : 65536 < C.gates.length
      · clear hbig
        go_enter Tryz.func11, Tryz.ntmps11
        go_wp2_with (go_at_call 39; refine (HI.out _).mono ?_; rintro e w' ⟨rfl, rfl⟩)
        go_ret
        exact ⟨ret_e (ck2 HQ.out HT.out), hb0⟩
      · have b3 : 4096 < C.exits.length := by omega
        clear hbig
        go_enter Tryz.func11, Tryz.ntmps11
        go_wp2_with (go_at_call 39; refine (HI.out _).mono ?_; rintro e w' ⟨rfl, rfl⟩)
        go_ret
        exact ⟨ret_e (ck2 HQ.out HT.out), hb0⟩
    · have HT := Lib.hid hbig
      obtain ⟨b1, b2, b3⟩ : C.slots.length ≤ 256 ∧ C.gates.length ≤ 65536 ∧ C.exits.length ≤ 4096 := by unfold tooBig at hbig; omega
      clear hbig
      go_enter Tryz.func11, Tryz.ntmps11
      go_wp2_with (go_at_call 39; refine (HI.out _).mono ?_; rintro e w' ⟨rfl, rfl⟩)
      go_loopg [35] C.slots.length (fun g v wr => ∃ k : Nat, k ≤ C.slots.length ∧ g = C.slots.length - k ∧ v = .int .i64 k ∧ Hid ((C.slots.take k).any badSlot = false) ∧ Below (w.alloc (.cells #[.slice C.SA C.slots.length C.sc, .slice C.GA C.gates.length C.gc, .slice C.EA C.exits.length C.ec] 27)).heap.size (w.alloc (.cells #[.slice C.SA C.slots.length C.sc, .slice C.GA C.gates.length C.gc, .slice C.EA C.exits.length C.ec] 27)) wr)
      case atStart => exact ⟨0, by omega, rfl, rfl, rfl, Below.refl _ _⟩
      case round =>
        obtain ⟨k, hk, rfl, rfl, hd, hbel⟩ := hrel
        have HB1 := Lib.hid hbel; clear hbel
        have c0 := HB1.out.cell (p := ⟨w.heap.size, 0, none⟩) (by simp)
        have c1 := HB1.out.cell (p := ⟨w.heap.size, 1, none⟩) (by simp)
        have c2 := HB1.out.cell (p := ⟨w.heap.size, 2, none⟩) (by simp)
        have hsz : w.heap.size < wr.heap.size := by have h5 := HB1.out.size; simp at h5; omega
        by_cases hlt : k < C.slots.length
        · obtain ⟨ad, had, q0, q1⟩ := (HC.out.below HB1.out).s.slo k hlt
          rw [had] at c0 ⊢
          by_cases g1 : C.slots[k].1 < 1
          · have HN := Lib.hid (any_at (q := badSlot) hlt (by simp [badSlot, g1])); clear hd
            go_wp2
            go_ret
            exact ⟨ret_e (ck3 HQ.out HT.out HN.out), below_box (HB1.out.alloc HB1.out.size _)⟩
          have g1' : 1 ≤ C.slots[k].1 := by omega
          by_cases g2 : 13 < C.slots[k].1
          · have HN := Lib.hid (any_at (q := badSlot) hlt (by simp [badSlot, g2])); clear hd
            go_wp2
            go_ret
            exact ⟨ret_e (ck3 HQ.out HT.out HN.out), below_box (HB1.out.alloc HB1.out.size _)⟩
          · have g2' : C.slots[k].1 ≤ 13 := by omega
            have HN := Lib.hid (any_succ (q := badSlot) hlt hd.out (by simp [badSlot]; omega)); clear hd
            go_wp2
            rw [← had]
            go_roundg (C.slots.length - (k + 1))
            case measure => omega
            case rel => exact ⟨k + 1, by omega, rfl, by go_num, HN.out, HB1.out.alloc HB1.out.size _⟩
        · obtain rfl : k = C.slots.length := by omega
          have hs := hd.out
          rw [List.take_length] at hs
          have HS := Lib.hid hs; clear hs hd
          go_wp2
          clear c0 c1 c2 hsz
          go_loopg [51] C.gates.length (fun g v wr => ∃ k : Nat, k ≤ C.gates.length ∧ g = C.gates.length - k ∧ v = .int .i64 k ∧ Hid (gatesErr p C.slots.length k (C.gates.drop k) = gatesErr p C.slots.length 0 C.gates) ∧ Below (w.alloc (.cells #[.slice C.SA C.slots.length C.sc, .slice C.GA C.gates.length C.gc, .slice C.EA C.exits.length C.ec] 27)).heap.size (w.alloc (.cells #[.slice C.SA C.slots.length C.sc, .slice C.GA C.gates.length C.gc, .slice C.EA C.exits.length C.ec] 27)) wr)
          case atStart => exact ⟨0, by omega, rfl, rfl, rfl, HB1.out⟩
          case round =>
            obtain ⟨k, hk, rfl, rfl, hd, hbel⟩ := hrel
            have HB := Lib.hid hbel; clear hbel
            have c0 := HB.out.cell (p := ⟨w.heap.size, 0, none⟩) (by simp)
            have c1 := HB.out.cell (p := ⟨w.heap.size, 1, none⟩) (by simp)
            have c2 := HB.out.cell (p := ⟨w.heap.size, 2, none⟩) (by simp)
            have hsz : w.heap.size < wr.heap.size := by have h5 := HB.out.size; simp at h5; omega
            by_cases hlt : k < C.gates.length
            · obtain ⟨ad, had, q0, q1, q2, q3⟩ := (HC.out.below HB.out).g.gat k hlt
              rw [had] at c1 ⊢
              have hst := gatesErr_at (p := p) (n := C.slots.length) hlt
              have HST := Lib.hid (hst.symm.trans hd.out); clear hst hd
              have hg := fun W => rgate_any p hp0 C.slots.length k C.gates[k].1 C.gates[k].2.1 C.gates[k].2.2.1 C.gates[k].2.2.2 W
              rw [show gateErr p C.slots.length k C.gates[k].1 C.gates[k].2.1 C.gates[k].2.2.1 C.gates[k].2.2.2 = gErr p C.slots.length k C.gates[k] from rfl] at hg
              rcases Bool.eq_false_or_eq_true (gErr p C.slots.length k C.gates[k] == 0) with hz | hz
              · have hz' : gErr p C.slots.length k C.gates[k] = 0 := by simpa using hz
                rw [hz'] at hg
                have HG := Lib.hid hg; clear hg
                have HN := Lib.hid (show gatesErr p C.slots.length (k + 1) (C.gates.drop (k + 1)) = gatesErr p C.slots.length 0 C.gates by rw [← HST.out, if_pos hz']); clear hz hz'
                go_wp2_with (go_at_call 40; refine (HG.out _).mono ?_; rintro e w2 ⟨rfl, hb2⟩; have HB2 := Lib.hid hb2; clear hb2)
                rw [← had]
                go_roundg (C.gates.length - (k + 1))
                case measure => omega
                case rel => exact ⟨k + 1, by omega, rfl, by go_num, HN.out, below_alive (HB.out.alloc HB.out.size _) HB2.out⟩
              · have HN := Lib.hid (show gatesErr p C.slots.length 0 C.gates = gErr p C.slots.length k C.gates[k] by rw [← HST.out, if_neg (by simpa using hz)])
                generalize gErr p C.slots.length k C.gates[k] = er at hg hz HN
                have HG := Lib.hid hg; clear hg
                go_wp2_with (go_at_call 40; refine (HG.out _).mono ?_; rintro e w2 ⟨rfl, hb2⟩; have HB2 := Lib.hid hb2; clear hb2)
                go_ret
                exact ⟨ret_e (ck4 HQ.out HT.out HS.out HN.out (by simpa using hz)), below_box (below_alive (HB.out.alloc HB.out.size _) HB2.out)⟩
            · obtain rfl : k = C.gates.length := by omega
              have HGE := Lib.hid ((gatesErr_end).symm.trans hd.out).symm; clear hd
              go_wp2
              go_loopg [70] C.exits.length (fun g v wr => ∃ k : Nat, k ≤ C.exits.length ∧ g = C.exits.length - k ∧ v = .int .i64 k ∧ Hid (exitsErr C.gates.length (C.exits.drop k) = exitsErr C.gates.length C.exits) ∧ Below (w.alloc (.cells #[.slice C.SA C.slots.length C.sc, .slice C.GA C.gates.length C.gc, .slice C.EA C.exits.length C.ec] 27)).heap.size (w.alloc (.cells #[.slice C.SA C.slots.length C.sc, .slice C.GA C.gates.length C.gc, .slice C.EA C.exits.length C.ec] 27)) wr)
              case atStart => exact ⟨0, by omega, rfl, rfl, rfl, HB.out⟩
              case round =>
                clear c0 c1 c2
                have HBO := HB
                clear HB
                obtain ⟨k, hk, rfl, rfl, hd, hbel⟩ := hrel
                have HB := Lib.hid hbel; clear hbel
                have c0 := HB.out.cell (p := ⟨w.heap.size, 0, none⟩) (by simp)
                have c1 := HB.out.cell (p := ⟨w.heap.size, 1, none⟩) (by simp)
                have c2 := HB.out.cell (p := ⟨w.heap.size, 2, none⟩) (by simp)
                have hsz : w.heap.size < wr.heap.size := by have h5 := HB.out.size; simp at h5; omega
                by_cases hlt : k < C.exits.length
                · obtain ⟨ad, had, q0, q1⟩ := (HC.out.below HB.out).e.exi k hlt
                  rw [had] at c2 ⊢
                  have hst := exitsErr_at (m := C.gates.length) hlt
                  have HST := Lib.hid (hst.symm.trans hd.out); clear hst hd
                  have hmem : C.exits[k] ∈ C.exits := List.getElem_mem hlt
                  have hg := fun W (h : Below (w.alloc (.cells #[.slice C.SA C.slots.length C.sc, .slice C.GA C.gates.length C.gc, .slice C.EA C.exits.length C.ec] 27)).heap.size (w.alloc (.cells #[.slice C.SA C.slots.length C.sc, .slice C.GA C.gates.length C.gc, .slice C.EA C.exits.length C.ec] 27)) W) => rexit_any C.gates.length C.exits[k].tl C.exits[k].gl C.exits[k].A C.exits[k].B C.exits[k].c C.exits[k].d (HC.out.m _ hmem).1 (HC.out.m _ hmem).2 W ((HC.out.below h).x _ hmem).1 ((HC.out.below h).x _ hmem).2
                  rw [show exitErr C.gates.length C.exits[k].tl C.exits[k].gl = xErr C.gates.length C.exits[k] from rfl] at hg
                  clear hmem
                  rcases Bool.eq_false_or_eq_true (xErr C.gates.length C.exits[k] == 0) with hz | hz
                  · have hz' : xErr C.gates.length C.exits[k] = 0 := by simpa using hz
                    rw [hz'] at hg
                    have HG := Lib.hid hg; clear hg
                    have HN := Lib.hid (show exitsErr C.gates.length (C.exits.drop (k + 1)) = exitsErr C.gates.length C.exits by rw [← HST.out, if_pos hz']); clear hz hz'
                    go_wp2_with (go_at_call 41; refine (HG.out _ (HB.out.alloc HB.out.size _)).mono ?_; rintro e w2 ⟨rfl, hb2⟩; have HB2 := Lib.hid hb2; clear hb2)
                    rw [← had]
                    go_roundg (C.exits.length - (k + 1))
                    case measure => omega
                    case rel => exact ⟨k + 1, by omega, rfl, by go_num, HN.out, below_alive (HB.out.alloc HB.out.size _) HB2.out⟩
                  · have HN := Lib.hid (show exitsErr C.gates.length C.exits = xErr C.gates.length C.exits[k] by rw [← HST.out, if_neg (by simpa using hz)])
                    generalize xErr C.gates.length C.exits[k] = er at hg hz HN
                    have HG := Lib.hid hg; clear hg
                    go_wp2_with (go_at_call 41; refine (HG.out _ (HB.out.alloc HB.out.size _)).mono ?_; rintro e w2 ⟨rfl, hb2⟩; have HB2 := Lib.hid hb2; clear hb2)
                    go_ret
                    exact ⟨ret_e (ck5 HQ.out HT.out HS.out HGE.out HN.out), below_box (below_alive (HB.out.alloc HB.out.size _) HB2.out)⟩
                · obtain rfl : k = C.exits.length := by omega
                  have HXE := Lib.hid ((exitsErr_end).symm.trans hd.out).symm; clear hd
                  go_wp2
                  go_ret
                  exact ⟨ret_e (ck5 HQ.out HT.out HS.out HGE.out HXE.out), below_box HB.out⟩

  · rw [hq] at his
    have HI := Lib.hid his; clear his
    have HQ := Lib.hid hq; clear hq
    go_enter Tryz.func11, Tryz.ntmps11
    go_wp2_with (go_at_call 39; refine (HI.out _).mono ?_; rintro e w' ⟨rfl, rfl⟩)
    go_ret
    exact ⟨ret_e (ck1 HQ.out), hb0⟩
end Go.Proofs.YtmnbgamnbgdnnaaGreatDoor

/- Contracts of circ.Count and the reference's Count. -/
namespace Go.Proofs.YtmnbgamnbgdnnaaGreatDoor
open Go.RowKit

def countK (kind : Int) (l : List Gat) : Nat := (l.filter fun g => g.1 == kind).length
theorem countK_succ (kind : Int) (l : List Gat) (k : Nat) (h : k < l.length) : countK kind (l.take (k + 1)) = countK kind (l.take k) + (if l[k].1 == kind then 1 else 0) := by
  unfold countK
  rw [List.take_succ_eq_append_getElem h, List.filter_append, List.length_append]
  congr 1
  by_cases hk : (l[k].1 == kind) = true
  · simp [hk]
  · simp [hk]
theorem countK_le (kind : Int) (l : List Gat) (k : Nat) : countK kind (l.take k) ≤ k := by
  unfold countK
  have h1 := List.length_filter_le (fun g : Gat => g.1 == kind) (l.take k)
  have h2 := List.length_take_le k l
  omega
set_option maxHeartbeats 1000000 in
set_option maxRecDepth 100000 in
theorem count_any (C : Cir) (kind : Int) (w : World) (hC : HoldsC w C) :
    Calls Tryz.prog 31 #[.agg #[.slice C.SA C.slots.length C.sc, .slice C.GA C.gates.length C.gc, .slice C.EA C.exits.length C.ec], .int .i64 kind] w (GatePost (countK kind C.gates) w) := by
  have hb0 : Below w.heap.size w (w.alloc (.cells #[.slice C.SA C.slots.length C.sc, .slice C.GA C.gates.length C.gc, .slice C.EA C.exits.length C.ec] 27)) := (Below.refl _ _).alloc (Nat.le_refl _) _
  have HC := Lib.hid (hC.below hb0)
  obtain ⟨n1, n2, n3⟩ := hC.n
  clear hC
  go_enter Tryz.func31, Tryz.ntmps31
  go_wp2
  go_loopg [5, 11] C.gates.length (fun g a v wr => ∃ k : Nat, k ≤ C.gates.length ∧ g = C.gates.length - k ∧ a = .int .i64 (countK kind (C.gates.take k) : Nat) ∧ v = .int .i64 k ∧ Below (w.alloc (.cells #[.slice C.SA C.slots.length C.sc, .slice C.GA C.gates.length C.gc, .slice C.EA C.exits.length C.ec] 27)).heap.size (w.alloc (.cells #[.slice C.SA C.slots.length C.sc, .slice C.GA C.gates.length C.gc, .slice C.EA C.exits.length C.ec] 27)) wr)
  case atStart => exact ⟨0, by omega, rfl, rfl, rfl, Below.refl _ _⟩
  case round =>
    obtain ⟨k, hk, rfl, rfl, rfl, hbel⟩ := hrel
    have HB := Lib.hid hbel; clear hbel
    by_cases hlt : k < C.gates.length
    · obtain ⟨ad, had, q0, q1, q2, q3⟩ := (HC.out.below HB.out).g.gat k hlt
      rw [had]
      have hle := countK_le kind C.gates k
      have hsu := countK_succ kind C.gates k hlt
      generalize countK kind (C.gates.take k) = n at hle hsu
      generalize C.gates[k].2.1 = y1 at q1
      generalize C.gates[k].2.2.1 = y2 at q2
      generalize C.gates[k].2.2.2 = y3 at q3
      rcases Bool.eq_false_or_eq_true (C.gates[k].1 == kind) with hq | hq
      · rw [hq] at hsu
        have HSU := Lib.hid hsu; clear hsu
        go_wp2
        rw [← had]
        go_roundg (C.gates.length - (k + 1))
        case measure => omega
        case rel => exact ⟨k + 1, by omega, rfl, by rw [HSU.out]; go_num, by go_num, HB.out.alloc HB.out.size _⟩
      · rw [hq] at hsu
        have HSU := Lib.hid hsu; clear hsu
        go_wp2
        rw [← had]
        go_roundg (C.gates.length - (k + 1))
        case measure => omega
        case rel => exact ⟨k + 1, by omega, rfl, by rw [HSU.out]; rfl, by go_num, HB.out.alloc HB.out.size _⟩
    · obtain rfl : k = C.gates.length := by omega
      go_wp2
      go_ret
      exact ⟨ret_e (by rw [List.take_length]), below_box HB.out⟩
set_option maxHeartbeats 1000000 in
set_option maxRecDepth 100000 in
theorem rcount_any (C : Cir) (kind : Int) (w : World) (hC : HoldsC w C) :
    Calls Tryz.prog 26 #[.agg #[.slice C.SA C.slots.length C.sc, .slice C.GA C.gates.length C.gc, .slice C.EA C.exits.length C.ec], .int .i64 kind] w (GatePost (countK kind C.gates) w) := by
  have hb0 : Below w.heap.size w (w.alloc (.cells #[.slice C.SA C.slots.length C.sc, .slice C.GA C.gates.length C.gc, .slice C.EA C.exits.length C.ec] 27)) := (Below.refl _ _).alloc (Nat.le_refl _) _
  have HC := Lib.hid (hC.below hb0)
  obtain ⟨n1, n2, n3⟩ := hC.n
  clear hC
  go_enter Tryz.func26, Tryz.ntmps26
  go_wp2
  go_loopg [5, 11] C.gates.length (fun g a v wr => ∃ k : Nat, k ≤ C.gates.length ∧ g = C.gates.length - k ∧ a = .int .i64 (countK kind (C.gates.take k) : Nat) ∧ v = .int .i64 k ∧ Below (w.alloc (.cells #[.slice C.SA C.slots.length C.sc, .slice C.GA C.gates.length C.gc, .slice C.EA C.exits.length C.ec] 27)).heap.size (w.alloc (.cells #[.slice C.SA C.slots.length C.sc, .slice C.GA C.gates.length C.gc, .slice C.EA C.exits.length C.ec] 27)) wr)
  case atStart => exact ⟨0, by omega, rfl, rfl, rfl, Below.refl _ _⟩
  case round =>
    obtain ⟨k, hk, rfl, rfl, rfl, hbel⟩ := hrel
    have HB := Lib.hid hbel; clear hbel
    by_cases hlt : k < C.gates.length
    · obtain ⟨ad, had, q0, q1, q2, q3⟩ := (HC.out.below HB.out).g.gat k hlt
      rw [had]
      have hle := countK_le kind C.gates k
      have hsu := countK_succ kind C.gates k hlt
      generalize countK kind (C.gates.take k) = n at hle hsu
      generalize C.gates[k].2.1 = y1 at q1
      generalize C.gates[k].2.2.1 = y2 at q2
      generalize C.gates[k].2.2.2 = y3 at q3
      rcases Bool.eq_false_or_eq_true (C.gates[k].1 == kind) with hq | hq
      · rw [hq] at hsu
        have HSU := Lib.hid hsu; clear hsu
        go_wp2
        rw [← had]
        go_roundg (C.gates.length - (k + 1))
        case measure => omega
        case rel => exact ⟨k + 1, by omega, rfl, by rw [HSU.out]; go_num, by go_num, HB.out.alloc HB.out.size _⟩
      · rw [hq] at hsu
        have HSU := Lib.hid hsu; clear hsu
        go_wp2
        rw [← had]
        go_roundg (C.gates.length - (k + 1))
        case measure => omega
        case rel => exact ⟨k + 1, by omega, rfl, by rw [HSU.out]; rfl, by go_num, HB.out.alloc HB.out.size _⟩
    · obtain rfl : k = C.gates.length := by omega
      go_wp2
      go_ret
      exact ⟨ret_e (by rw [List.take_length]), below_box HB.out⟩
end Go.Proofs.YtmnbgamnbgdnnaaGreatDoor

/- Contracts of slices.Clone over numbers. -/
namespace Go.Proofs.YtmnbgamnbgdnnaaGreatDoor
open Go.RowKit

def OwnPost (e : TypeId) (n : Nat) (cs : List Value) (w : World) (en : Ending) (w' : World) : Prop := ∃ v, en = .returned v ∧ w'.ownsRow w.heap.size e 1 v n cs ∧ Below w.heap.size w w'
theorem infoU : (Tryz.prog.info? 22).map (fun i => (i.zero, i.size, i.bytes)) = some (some (.int .u64 0), 1, 8) := by kernel_rfl
theorem infoI : (Tryz.prog.info? 3).map (fun i => (i.zero, i.size, i.bytes)) = some (some (.int .i64 0), 1, 8) := by kernel_rfl
section
variable {P : Program} {ops : Array Oper} {rest : List Oper} {o : Oper} {a : Act} {Q : Exit → Act → World → Prop}
/-- A slice's one-cell elements are appended to a row of the call's own. -/
theorem app_slice {W : World} (base : Nat) (hgd : o.guard = none) (s x : Operand) (t e : TypeId) (z : Value) (bytes : Nat)
    (ho : o.op = .call { callee := .builtin .append, args := #[s, x], argTypes := #[t, t] })
    (ht : P.underlying t = some (.slice e)) (hinfo : (P.info? e).map (fun i => (i.zero, i.size, i.bytes)) = some (some z, 1, bytes)) (hz : z.cells.size = 1) (hb0 : 0 < bytes)
    (v : Value) (n : Nat) (xs ys : List Value) (hs : a.eval s = v) (ad : Addr) (m c : Nat) (hx : a.eval x = .slice (some ad) m c) (hys : ys.length = m) (hr : ∀ j u, ys[j]? = some u → W.cell? (ad.add j) = some u) (h1 : ∀ u ∈ ys, u.oneCell' = true)
    (HO : W.ownsRow base e 1 v n xs) (hbase : base ≤ W.heap.size) (hl : (n + m) * bytes ≤ 140737488355328)
    (h : ∀ v1 w1, w1.ownsRow base e 1 v1 (n + m) (xs ++ ys) → W.grownBy w1 v.ownBlock → wpList P ops Q rest (a.put o.dst v1) w1) : wpList P ops Q (o :: rest) a W := by
  obtain ⟨i0, hi, hzz⟩ := Option.map_eq_some_iff.1 hinfo
  simp only [Prod.mk.injEq] at hzz
  obtain ⟨hz0, hz1, hz2⟩ := hzz
  have hlen : n + m ≤ 140737488355328 := Nat.le_trans (Nat.le_mul_of_pos_right _ hb0) hl
  exact wpList_append_own W hgd s x t ho base e i0 z 1 bytes ht hi hz0 hz1 hz2 hz (by omega) v n xs hs HO ad m c ys hx (by rw [hys]; omega) hr h1 (by simp only [maxLen]; omega) hl hbase fun v1 w1 hown hg _ => h v1 w1 hown hg
end
theorem own_empty (w : World) (e : TypeId) : (w.alloc (.cells #[] e)).ownsRow w.heap.size e 1 (.slice (some ⟨w.heap.size, 0, none⟩) 0 0) 0 [] :=
  ⟨rfl, .inr ⟨w.heap.size, 0, #[], rfl, Nat.le_refl _, heap_alloc_new w _, Nat.le_refl _, Nat.zero_le _, rfl, rfl⟩⟩
set_option maxRecDepth 100000 in
theorem cloneU_none (c : Nat) (w : World) : Calls Tryz.prog 43 #[.slice none 0 c] w (OwnPost 22 0 [] w) := by
  have hq2 : ∀ W, (binOp .eql 32 (.slice none 0 c) (.slice none 0 0)).run Tryz.prog W = .ok (.bool true) W := fun _ => by kernel_rfl
  go_enter Tryz.func43, Tryz.ntmps43
  go_wp2
  go_ret
  exact ⟨_, rfl, World.ownsRow_nil _ _ _ _, Below.refl _ _⟩
set_option maxRecDepth 100000 in
theorem cloneU_some (l : List Nat) (hl : l.length ≤ 17592186044416) (ad : Addr) (c : Nat) (w : World) (hR : Reads w (some ad) (uCells l)) : Calls Tryz.prog 43 #[.slice (some ad) l.length c] w (OwnPost 22 l.length (uCells l) w) := by
  have hb0 : Below w.heap.size w (w.alloc (.cells #[] 22)) := (Below.refl _ _).alloc (Nat.le_refl _) _
  have hr : ∀ j u, (uCells l)[j]? = some u → (w.alloc (.cells #[] 22)).cell? (ad.add j) = some u := by
    rcases hR.below hb0 with h | ⟨ad', e, h⟩
    · intro j u hj; rw [h] at hj; simp at hj
    · injection e with e; subst e; exact h
  have HR := Lib.hid hr
  clear hr hR hb0
  have hq1 : ∀ W, (binOp .eql 32 (.slice (some ad) l.length c) (.slice none 0 0)).run Tryz.prog W = .ok (.bool false) W := fun _ => by kernel_rfl
  go_enter Tryz.func43, Tryz.ntmps43
  go_wp2_with (at_builtin; refine app_slice w.heap.size rfl _ _ 32 22 _ 8 rfl Tryz.underlying32 infoU rfl (by decide) _ 0 [] (uCells l) rfl ad l.length c rfl (by simp [uCells]) HR.out (by intro u hu; simp [uCells] at hu; obtain ⟨x, _, rfl⟩ := hu; rfl) (own_empty w _) (by simp) (by omega) ?_; intro v3 w3 hown3 hg3; have HO3 := Lib.hid hown3; clear hown3; have HG3 := Lib.hid hg3; clear hg3)
  go_ret
  exact ⟨_, rfl, by have h := HO3.out; rw [Nat.zero_add, List.nil_append] at h; exact h, ((Below.refl _ _).alloc (Nat.le_refl _) _).grown HG3.out (by simp) (fun q hq => by cases hq; exact Nat.le_refl _)⟩
set_option maxRecDepth 100000 in
theorem cloneI_none (c : Nat) (w : World) : Calls Tryz.prog 45 #[.slice none 0 c] w (OwnPost 3 0 [] w) := by
  have hq2 : ∀ W, (binOp .eql 61 (.slice none 0 c) (.slice none 0 0)).run Tryz.prog W = .ok (.bool true) W := fun _ => by kernel_rfl
  go_enter Tryz.func45, Tryz.ntmps45
  go_wp2
  go_ret
  exact ⟨_, rfl, World.ownsRow_nil _ _ _ _, Below.refl _ _⟩
set_option maxRecDepth 100000 in
theorem cloneI_some (l : List Int) (hl : l.length ≤ 17592186044416) (ad : Addr) (c : Nat) (w : World) (hR : Reads w (some ad) (iCells l)) : Calls Tryz.prog 45 #[.slice (some ad) l.length c] w (OwnPost 3 l.length (iCells l) w) := by
  have hb0 : Below w.heap.size w (w.alloc (.cells #[] 3)) := (Below.refl _ _).alloc (Nat.le_refl _) _
  have hr : ∀ j u, (iCells l)[j]? = some u → (w.alloc (.cells #[] 3)).cell? (ad.add j) = some u := by
    rcases hR.below hb0 with h | ⟨ad', e, h⟩
    · intro j u hj; rw [h] at hj; simp at hj
    · injection e with e; subst e; exact h
  have HR := Lib.hid hr
  clear hr hR hb0
  have hq1 : ∀ W, (binOp .eql 61 (.slice (some ad) l.length c) (.slice none 0 0)).run Tryz.prog W = .ok (.bool false) W := fun _ => by kernel_rfl
  go_enter Tryz.func45, Tryz.ntmps45
  go_wp2_with (at_builtin; refine app_slice w.heap.size rfl _ _ 61 3 _ 8 rfl Tryz.underlying61 infoI rfl (by decide) _ 0 [] (iCells l) rfl ad l.length c rfl (by simp [iCells]) HR.out (by intro u hu; simp [iCells] at hu; obtain ⟨x, _, rfl⟩ := hu; rfl) (own_empty w _) (by simp) (by omega) ?_; intro v3 w3 hown3 hg3; have HO3 := Lib.hid hown3; clear hown3; have HG3 := Lib.hid hg3; clear hg3)
  go_ret
  exact ⟨_, rfl, by have h := HO3.out; rw [Nat.zero_add, List.nil_append] at h; exact h, ((Below.refl _ _).alloc (Nat.le_refl _) _).grown HG3.out (by simp) (fun q hq => by cases hq; exact Nat.le_refl _)⟩
end Go.Proofs.YtmnbgamnbgdnnaaGreatDoor
