/- Contracts and plain laws of chapter 12, those that chapter 13 needs (kept by wip/tools/trim13.py). -/
import Derived.Test.YtkcdlbclodjjhaaGreatProg
import Derived.WalkKit
import Derived.ProofKit
import Derived.Deep.LoopGhost
import Derived.Deep.CutBlock
import Derived.Below
import Derived.Lib.Hide
import Derived.Deep.QuietTactic
import Derived.BigQuiet
import Derived.Laws.AppendOwn
import Derived.Laws.OwnMore
import Derived.Laws.MakeOwn
import Derived.Deep.AppendLies
import Derived.Laws.StructEq
namespace Go.Proofs.YtkcdlbclodjjhaaGreat
open Go.RowKit

/- Primes from 3 to the greatest that is allowed: what field.Is and the reference's Is answer. -/

/-- p is a prime from 3 to 65537. -/
def isP (p : Nat) : Bool := decide (3 ≤ p) && decide (p ≤ 65537) && (List.range p).all fun d => decide (d < 2) || decide (p < d * d) || decide (p % d ≠ 0)
theorem isP_iff (p : Nat) : isP p = true ↔ 3 ≤ p ∧ p ≤ 65537 ∧ ∀ d, 2 ≤ d → d * d ≤ p → p % d ≠ 0 := by
  simp only [isP, Bool.and_eq_true, decide_eq_true_eq, List.all_eq_true, List.mem_range, Bool.or_eq_true, and_assoc]
  refine and_congr_right fun h3 => and_congr_right fun hm => ⟨fun h d h2 hd => ?_, fun h d hd => ?_⟩
  · have hlt : d < p := by
      rcases Nat.lt_or_ge d p with h1 | h1
      · exact h1
      · have := Nat.mul_le_mul h1 h2; omega
    rcases h d hlt with (h1 | h1) | h1
    · omega
    · omega
    · exact h1
  · by_cases h2 : d < 2
    · exact .inl (.inl h2)
    · by_cases h4 : p < d * d
      · exact .inl (.inr h4)
      · exact .inr (h d (by omega) (by omega))
theorem isP_div {p d : Nat} (h2 : 2 ≤ d) (hd : d * d ≤ p) (h0 : p % d = 0) : isP p = false := by
  rw [Bool.eq_false_iff]
  intro h
  exact ((isP_iff p).1 h).2.2 d h2 hd h0
/-- An odd number has no even divisor: the odd ones are enough. -/
theorem isP_odd {p : Nat} (h3 : 3 ≤ p) (hm : p ≤ 65537) (h2 : p % 2 = 1) (h : ∀ d, 2 ≤ d → d % 2 = 1 → d * d ≤ p → p % d ≠ 0) : isP p = true := by
  rw [isP_iff]
  refine ⟨h3, hm, fun d hd hdd h0 => ?_⟩
  by_cases ho : d % 2 = 1
  · exact h d hd ho hdd h0
  · have hdv : 2 ∣ p := Nat.dvd_trans (Nat.dvd_of_mod_eq_zero (by omega)) (Nat.dvd_of_mod_eq_zero h0)
    have := Nat.mod_eq_zero_of_dvd hdv
    omega
theorem sq_facts' {d : Nat} (h : d ≤ 259) : ∃ q, q = d * d ∧ IntKind.u64.wrap ((d : Int) * (d : Int)) = (q : Int) := by
  have := Nat.mul_le_mul h h
  refine ⟨_, rfl, ?_⟩
  rw [← Int.natCast_mul]
  exact IntWalk.u64_in _ (by omega)
theorem sq_facts {d : Nat} (h : d ≤ 258) : ∃ q, q = d * d ∧ IntKind.u64.wrap ((d : Int) * (d : Int)) = (q : Int) := sq_facts' (by omega)
theorem sq_small {d p : Nat} (h : d * d ≤ p) (hp : p ≤ 65537) : d ≤ 257 := by
  rcases Nat.lt_or_ge d 258 with h1 | h1
  · omega
  · have := Nat.mul_le_mul h1 h1; omega
theorem ret_bl {a b : Bool} (h : a = b) : Ending.returned (.bool a) = .returned (.bool b) := by rw [h]
def BRet (b : Bool) (w : World) (e : Ending) (w' : World) : Prop := e = .returned (.bool b) ∧ w = w'
set_option maxHeartbeats 1000000 in
set_option maxRecDepth 100000 in
theorem rIs_any (p : Nat) (hp : p < 18446744073709551616) (w : World) : Calls Tryz.prog 5 #[.int .u64 p] w (BRet (isP p) w) := by
  have ip : (p : Int) ≤ 18446744073709551615 := by omega
  by_cases h3 : p < 3
  · have i3 : (p : Int) < 3 := by omega
    have hr : isP p = false := by simp [isP]; omega
    go_enter Tryz.func5, Tryz.ntmps5
    go_wp2
    go_ret
    exact ⟨ret_bl hr.symm, rfl⟩
  by_cases hm : 65537 < p
  · have i3 : (3 : Int) ≤ p := by omega
    have im : (65537 : Int) < p := by omega
    have hr : isP p = false := by simp [isP]; omega
    go_enter Tryz.func5, Tryz.ntmps5
    go_wp2
    go_ret
    exact ⟨ret_bl hr.symm, rfl⟩
  have i3 : (3 : Int) ≤ p := by omega
  have im : (p : Int) ≤ 65537 := by omega
  go_enter Tryz.func5, Tryz.ntmps5
  go_wp2
  go_loopg [3] 298 (fun g v wr => ∃ d : Nat, 2 ≤ d ∧ d ≤ 258 ∧ g = 300 - d ∧ v = .int .u64 d ∧ Hid (∀ e, 2 ≤ e → e < d → p % e ≠ 0) ∧ w = wr)
  case atStart => exact ⟨2, by omega, by omega, rfl, rfl, (fun e h1 h2 => by omega), rfl⟩
  case round =>
    obtain ⟨d, hd2, hd8, rfl, rfl, hno, rfl⟩ := hrel
    obtain ⟨q, hq, hw⟩ := sq_facts hd8
    by_cases hle : q ≤ p
    · have hle' : (q : Int) ≤ (p : Int) := by omega
      have hdq : d * d ≤ p := by omega
      have HDQ := Lib.hid hdq; clear hdq
      have HQ := Lib.hid hq; clear hq
      by_cases h0 : p % d = 0
      · have i0 : ((p : Int) % (d : Int) == 0) = true := by rw [beq_iff_eq]; omega
        have HR := Lib.hid (isP_div hd2 HDQ.out h0)
        clear hno h0
        go_wp2
        go_ret
        exact ⟨ret_bl HR.out.symm, rfl⟩
      · have i0 : ((p : Int) % (d : Int) == 0) = false := by rw [beq_eq_false_iff_ne]; omega
        have hd7 : d ≤ 257 := sq_small HDQ.out (by omega)
        have HN : Hid (∀ e, 2 ≤ e → e < d + 1 → p % e ≠ 0) := Lib.hid fun e h1 h2 => by
          rcases Nat.lt_or_ge e d with h4 | h4
          · exact hno.out e h1 h4
          · obtain rfl : e = d := by omega
            exact h0
        clear hno h0
        go_wp2
        go_roundg (300 - (d + 1))
        case measure => omega
        case rel => exact ⟨d + 1, by omega, by omega, rfl, by go_num, HN.out, rfl⟩
    · have hgt' : (p : Int) < (q : Int) := by omega
      have hr : isP p = true := by
        rw [isP_iff]
        refine ⟨by omega, by omega, fun e he hee => hno.out e he ?_⟩
        rcases Nat.lt_or_ge e d with h4 | h4
        · exact h4
        · have := Nat.mul_le_mul h4 h4; omega
      have HR := Lib.hid hr; clear hr hno hq
      go_wp2
      go_ret
      exact ⟨ret_bl HR.out.symm, rfl⟩
set_option maxHeartbeats 1000000 in
set_option maxRecDepth 100000 in
theorem is_any (p : Nat) (hp : p < 18446744073709551616) (w : World) : Calls Tryz.prog 11 #[.int .u64 p] w (BRet (isP p) w) := by
  have ip : (p : Int) ≤ 18446744073709551615 := by omega
  by_cases h3 : p < 3
  · have i3 : (p : Int) < 3 := by omega
    have hr : isP p = false := by simp [isP]; omega
    go_enter Tryz.func11, Tryz.ntmps11
    go_wp2
    go_ret
    exact ⟨ret_bl hr.symm, rfl⟩
  by_cases hm : 65537 < p
  · have i3 : (3 : Int) ≤ p := by omega
    have im : (65537 : Int) < p := by omega
    have hr : isP p = false := by simp [isP]; omega
    go_enter Tryz.func11, Tryz.ntmps11
    go_wp2
    go_ret
    exact ⟨ret_bl hr.symm, rfl⟩
  have i3 : (3 : Int) ≤ p := by omega
  have im : (p : Int) ≤ 65537 := by omega
  by_cases h2 : p % 2 = 0
  · have i2 : ((p : Int) % 2 == 0) = true := by rw [beq_iff_eq]; omega
    have hr : isP p = false := by
      by_cases h4 : 4 ≤ p
      · exact isP_div (d := 2) (by omega) (by omega) h2
      · omega
    go_enter Tryz.func11, Tryz.ntmps11
    go_wp2
    go_ret
    exact ⟨ret_bl hr.symm, rfl⟩
  have i2 : ((p : Int) % 2 == 0) = false := by rw [beq_eq_false_iff_ne]; omega
  go_enter Tryz.func11, Tryz.ntmps11
  go_wp2
  go_loopg [3] 297 (fun g v wr => ∃ d : Nat, 3 ≤ d ∧ d ≤ 259 ∧ d % 2 = 1 ∧ g = 300 - d ∧ v = .int .u64 d ∧ Hid (∀ e, 2 ≤ e → e % 2 = 1 → e < d → p % e ≠ 0) ∧ w = wr)
  case atStart => exact ⟨3, by omega, by omega, by omega, rfl, rfl, (fun e h1 h2 h3 => by omega), rfl⟩
  case round =>
    obtain ⟨d, hd2, hd8, hodd, rfl, rfl, hno, rfl⟩ := hrel
    obtain ⟨q, hq, hw⟩ := sq_facts' hd8
    by_cases hle : q ≤ p
    · have hle' : (q : Int) ≤ (p : Int) := by omega
      have hdq : d * d ≤ p := by omega
      have HDQ := Lib.hid hdq; clear hdq
      have HQ := Lib.hid hq; clear hq
      by_cases h0 : p % d = 0
      · have i0 : ((p : Int) % (d : Int) == 0) = true := by rw [beq_iff_eq]; omega
        have HR := Lib.hid (isP_div (by omega) HDQ.out h0)
        clear hno h0
        go_wp2
        go_ret
        exact ⟨ret_bl HR.out.symm, rfl⟩
      · have i0 : ((p : Int) % (d : Int) == 0) = false := by rw [beq_eq_false_iff_ne]; omega
        have hd7 : d ≤ 257 := sq_small HDQ.out (by omega)
        have HN : Hid (∀ e, 2 ≤ e → e % 2 = 1 → e < d + 2 → p % e ≠ 0) := Lib.hid fun e h1 h2 h3 => by
          rcases Nat.lt_or_ge e d with h4 | h4
          · exact hno.out e h1 h2 h4
          · obtain rfl : e = d := by omega
            exact h0
        clear hno h0
        go_wp2
        go_roundg (300 - (d + 2))
        case measure => omega
        case rel => exact ⟨d + 2, by omega, by omega, by omega, rfl, by go_num, HN.out, rfl⟩
    · have hgt' : (p : Int) < (q : Int) := by omega
      have hr : isP p = true := isP_odd (by omega) (by omega) (by omega) fun e he ho hee => hno.out e he ho (by
        rcases Nat.lt_or_ge e d with h4 | h4
        · exact h4
        · have := Nat.mul_le_mul h4 h4; omega)
      have HR := Lib.hid hr; clear hr hno hq
      go_wp2
      go_ret
      exact ⟨ret_bl HR.out.symm, rfl⟩
/- Contracts of sums, differences and products of a prime's numbers. -/

theorem ret_u {x y : Int} (h : x = y) : Ending.returned (.int .u64 x) = .returned (.int .u64 y) := by rw [h]
theorem mul_facts {p a b : Nat} (hp : p ≤ 65537) (ha : a ≤ p) (hb : b ≤ p) : ∃ q, q = a * b ∧ q ≤ 4295098369 ∧ IntKind.u64.wrap ((a : Int) * (b : Int)) = (q : Int) := by
  have := Nat.mul_le_mul (Nat.le_trans ha hp) (Nat.le_trans hb hp)
  refine ⟨_, rfl, this, ?_⟩
  rw [← Int.natCast_mul]
  exact IntWalk.u64_in _ (by omega)
section
variable (p a b : Nat) (h0 : 0 < p) (hp : p ≤ 65537) (ha : a < p) (hb : b < p) (w : World)
include h0 hp ha hb
set_option maxRecDepth 100000 in
theorem radd_any : Calls Tryz.prog 58 #[.int .u64 p, .int .u64 a, .int .u64 b] w fun e w' => e = .returned (.int .u64 ((a + b) % p : Nat)) ∧ w = w' := by
  go_enter Tryz.func58, Tryz.ntmps58
  go_wp2
  go_ret
  exact ⟨ret_u (by simp), rfl⟩
end
section
variable (p a b : Nat) (h0 : 0 < p) (hp : p ≤ 65537) (ha : a < p) (hb : b < p) (w : World)
include h0 hp ha hb
set_option maxRecDepth 100000 in
theorem rsub_any : Calls Tryz.prog 59 #[.int .u64 p, .int .u64 a, .int .u64 b] w fun e w' => e = .returned (.int .u64 ((a + p - b) % p : Nat)) ∧ w = w' := by
  have hs : ((a + p - b : Nat) : Int) = (a : Int) + p - b := by omega
  go_enter Tryz.func59, Tryz.ntmps59
  go_wp2
  go_ret
  exact ⟨ret_u (by rw [Int.natCast_emod, hs]), rfl⟩
end
section
variable (p a b : Nat) (h0 : 0 < p) (hp : p ≤ 65537) (ha : a < p) (hb : b < p) (w : World)
include h0 hp ha hb
set_option maxRecDepth 100000 in
theorem rmul_any : Calls Tryz.prog 60 #[.int .u64 p, .int .u64 a, .int .u64 b] w fun e w' => e = .returned (.int .u64 (a * b % p : Nat)) ∧ w = w' := by
  obtain ⟨q, hq, hq1, hw⟩ := mul_facts hp (Nat.le_of_lt ha) (Nat.le_of_lt hb)
  rw [← hq]
  clear hq
  go_enter Tryz.func60, Tryz.ntmps60
  go_wp2
  go_ret
  exact ⟨ret_u (by simp), rfl⟩
end
/- Contracts over slices of numbers: Below, Within, Same, ints. -/

/-- A slice that reads as these cells. -/
def Reads (w : World) (A : Option Addr) (cs : List Value) : Prop := cs = [] ∨ ∃ ad, A = some ad ∧ ∀ j u, cs[j]? = some u → w.cell? (ad.add j) = some u
theorem Reads.below {w w' : World} {A : Option Addr} {cs : List Value} (h : Reads w A cs) (hb : Below w.heap.size w w') : Reads w' A cs := by
  rcases h with h | ⟨ad, h1, h2⟩
  · exact .inl h
  · exact .inr ⟨ad, h1, fun j u hu => (hb.cell (World.block_lt_of_cell? w _ (h2 j u hu))).trans (h2 j u hu)⟩
def uCells (l : List Nat) : List Value := l.map fun (x : Nat) => .int .u64 x
def iCells (l : List Int) : List Value := l.map fun x => .int .i64 x
theorem Reads.u {w : World} {A : Option Addr} {l : List Nat} (h : Reads w A (uCells l)) (k : Nat) (hk : k < l.length) : ∃ ad, A = some ad ∧ w.cell? (ad.add k) = some (.int .u64 l[k]) := by
  rcases h with h | ⟨ad, h1, h2⟩
  · have := congrArg List.length h; simp [uCells] at this; subst this; simp at hk
  · exact ⟨ad, h1, h2 k _ (by simp [uCells, List.getElem?_eq_getElem hk])⟩
theorem Reads.i {w : World} {A : Option Addr} {l : List Int} (h : Reads w A (iCells l)) (k : Nat) (hk : k < l.length) : ∃ ad, A = some ad ∧ w.cell? (ad.add k) = some (.int .i64 l[k]) := by
  rcases h with h | ⟨ad, h1, h2⟩
  · have := congrArg List.length h; simp [iCells] at this; subst this; simp at hk
  · exact ⟨ad, h1, h2 k _ (by simp [iCells, List.getElem?_eq_getElem hk])⟩
theorem Reads.some_u {w : World} {ad : Addr} {l : List Nat} (h : Reads w (some ad) (uCells l)) (k : Nat) (hk : k < l.length) : w.cell? (ad.add k) = some (.int .u64 l[k]) := by
  obtain ⟨ad', e, q⟩ := h.u k hk
  injection e with e
  subst e
  exact q
theorem Reads.some_i {w : World} {ad : Addr} {l : List Int} (h : Reads w (some ad) (iCells l)) (k : Nat) (hk : k < l.length) : w.cell? (ad.add k) = some (.int .i64 l[k]) := by
  obtain ⟨ad', e, q⟩ := h.i k hk
  injection e with e
  subst e
  exact q
def allLt (p : Nat) (l : List Nat) : Bool := l.all fun x => decide (x < p)
/- Contracts of circ.named, circ.Gate and the reference's Gate. -/

theorem ret_e {a b : Int} (h : a = b) : Ending.returned (.int .i64 a) = .returned (.int .i64 b) := by rw [h]
/-- What is wrong with a gate at a place. -/
def gateErr (p : Nat) (slots at_ k a b K : Int) : Int :=
  if k = 1 then (if b ≠ 0 ∨ K ≠ 0 then 4 else if a < 0 ∨ slots ≤ a then 13 else 0)
  else if k = 2 then (if a ≠ 0 ∨ b ≠ 0 then 4 else if (p : Int) ≤ K then 2 else 0)
  else if k = 3 ∨ k = 4 ∨ k = 5 then (if K ≠ 0 then 4 else if a < 0 ∨ at_ ≤ a ∨ b < 0 ∨ at_ ≤ b then 13 else 0)
  else if k = 6 then (if b ≠ 0 then 4 else if a < 0 ∨ at_ ≤ a then 13 else if (p : Int) ≤ K then 2 else 0)
  else 4
def GatePost (r : Int) (w : World) (e : Ending) (w' : World) : Prop := e = .returned (.int .i64 r) ∧ Below w.heap.size w w'
theorem below_box {w w1 : World} {o : Obj} (h : Below (w.alloc o).heap.size (w.alloc o) w1) : Below w.heap.size w w1 := ((Below.refl _ _).alloc (Nat.le_refl _) _).trans (h.mono (by simp))
def NamedPost (s a b k ok : Bool) (w : World) (e : Ending) (w' : World) : Prop := e = .returned (.tuple #[.agg #[.bool s, .bool a, .bool b, .bool k], .bool ok]) ∧ Below w.heap.size w w'
end Go.Proofs.YtkcdlbclodjjhaaGreat
