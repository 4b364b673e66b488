/- The walk of WordRings. (Printed by wip/tools/gen_rgh.py.) -/
import Derived.Test.YtkcdlbclodjjhaaRgg
import Derived.Test.YtkcdlbclodjjhaaRgk
import Derived.Test.YtkcdlbclodjjhaaWv
namespace Go.Proofs.Ytkcdlbclodjjhaa
open Go.RowKit

theorem Wb.zero {w : World} {B p n : Nat} {W : World} (hI : IsB B p [] [] [] nilS nilS nilS W) (hb : Below B w W) : Wb w B p n 0 [] [] W := ⟨[], [], ⟨⟨nilS, hI⟩, hb, by simp⟩, Nat.le_refl _, fits_nil p, by simp, by simp⟩
theorem own_fresh3 (w : World) (e : TypeId) (a b c : Value) : (w.alloc (.cells #[a, b, c] e)).ownsRow w.heap.size e 1 (.slice (some ⟨w.heap.size, 0, none⟩) 3 3) 3 [a, b, c] :=
  ⟨rfl, .inr ⟨w.heap.size, 3, #[a, b, c], rfl, Nat.le_refl _, heap_alloc_new w _, Nat.le_refl _, by decide, rfl, rfl⟩⟩
attribute [local irreducible] Wb Wl

theorem ring_laws {M A1 A2 A3 A4 A5 A6 A7 A8 A9 A10 A11 A12 A13 A14 A15 A16 A17 A18 q0 q1 q2 : Nat} (hM : 0 < M) (e1 : A1 = q0 % M) (e2 : A2 = q1 % M) (_e3 : A3 = q2 % M) (e4 : A4 = (A1 + A2) % M) (e5 : A5 = (A2 + A1) % M) (e6 : A6 = (A1 + A2) % M) (e7 : A7 = (A6 + A3) % M) (e8 : A8 = (A2 + A3) % M) (e9 : A9 = (A1 + A8) % M) (e10 : A10 = (A2 + A3) % M) (e11 : A11 = A1 * A10 % M) (e12 : A12 = A1 * A2 % M) (e13 : A13 = A1 * A3 % M) (e14 : A14 = (A12 + A13) % M) (e15 : A15 = A1 * A2 % M) (e16 : A16 = A2 * A1 % M) (e17 : A17 = (A1 + A2) % M) (e18 : A18 = (A17 + M - A2) % M) : A4 = A5 ∧ A7 = A9 ∧ A11 = A14 ∧ A15 = A16 ∧ A18 = A1 := by
  have l1 : A1 < M := by rw [e1]; exact Nat.mod_lt _ hM
  have l2 : A2 < M := by rw [e2]; exact Nat.mod_lt _ hM
  clear e1 e2
  refine ⟨by rw [e4, e5, Nat.add_comm], by rw [e7, e9, e6, e8, Nat.mod_add_mod, Nat.add_mod_mod, Nat.add_assoc], by rw [e11, e14, e10, e12, e13, Nat.mul_mod_mod, ← Nat.add_mod, Nat.mul_add], by rw [e15, e16, Nat.mul_comm], ?_⟩
  rw [e18, e17]
  by_cases h : A1 + A2 < M
  · rw [Nat.mod_eq_of_lt h, show A1 + A2 + M - A2 = A1 + M by omega, Nat.add_mod_right, Nat.mod_eq_of_lt l1]
  · have t : (A1 + A2) % M = A1 + A2 - M := by rw [Nat.mod_eq_sub_mod (by omega), Nat.mod_eq_of_lt (by omega)]
    rw [t, show A1 + A2 - M + M - A2 = A1 by omega, Nat.mod_eq_of_lt l1]
theorem isP_two {p : Nat} (h : isP p = true) : 2 < p := by
  have := (isP_iff p).1 h
  omega
set_option maxRecDepth 100000 in
theorem rings_bad (p k q0 q1 q2 : Nat) (hp : p < 18446744073709551616) (_hk : k < 256) (_h0 : q0 < 65536) (_h1 : q1 < 65536) (_h2 : q2 < 65536) (w : World) (hP : isP p = false) :
    Calls Try.prog 4 #[.int .u64 ((p : Nat) : Int), .int .u8 ((k : Nat) : Int), .agg #[.int .u16 ((q0 : Nat) : Int), .int .u16 ((q1 : Nat) : Int), .int .u16 ((q2 : Nat) : Int)]] w fun e W' => e = .returned (.bool true) ∧ Below w.heap.size w W' := by
  have HN := Lib.hid (fun W => new_bad p hp hP W)
  clear hP
  go_enter Try.func4, Try.ntmps4
  go_wp2_with (first | (go_at_call 6; refine (HN.out _).mono ?_; rintro e w0 ⟨rfl, rfl⟩) | (go_at_call 11; refine (alive_any _).mono ?_; rintro e wa ⟨rfl, hb⟩; have HBa := Lib.hid hb; clear hb))
  go_ret
  exact ⟨rfl, ((Below.refl _ _).alloc (Nat.le_refl _) _).trans (HBa.out.mono (by simp))⟩
set_option maxHeartbeats 8000000 in
set_option maxRecDepth 100000 in
theorem rings_ok (p k q0 q1 q2 : Nat) (hp : p < 18446744073709551616) (hk : k < 256) (h0 : q0 < 65536) (h1 : q1 < 65536) (h2 : q2 < 65536) (w : World) (hP : isP p = true) :
    Calls Try.prog 4 #[.int .u64 ((p : Nat) : Int), .int .u8 ((k : Nat) : Int), .agg #[.int .u16 ((q0 : Nat) : Int), .int .u16 ((q1 : Nat) : Int), .int .u16 ((q2 : Nat) : Int)]] w fun e W' => e = .returned (.bool true) ∧ Below w.heap.size w W' := by
  have hp2 := isP_two hP
  have HP := Lib.hid hP
  obtain ⟨n, hnk⟩ : ∃ n, n = k % 16 + 1 := ⟨_, rfl⟩
  have hn1 : 1 ≤ n := by omega
  have hn2 : n ≤ 16 := by omega
  have hnn : n * (10 * n + 1) ≤ 2576 := Nat.mul_le_mul hn2 (by omega : 10 * n + 1 ≤ 161)
  have hkw : ((k : Nat) : Int) % 16 + 1 = ((n : Nat) : Int) := by omega
  obtain ⟨y0, y1, y2⟩ : (fun W => W.cell? ⟨w.heap.size, 0, none⟩ = some (.int .u16 ((q0 : Nat) : Int)) ∧ W.cell? ⟨w.heap.size, 1, none⟩ = some (.int .u16 ((q1 : Nat) : Int)) ∧ W.cell? ⟨w.heap.size, 2, none⟩ = some (.int .u16 ((q2 : Nat) : Int))) (w.alloc (.cells #[.int .u16 ((q0 : Nat) : Int), .int .u16 ((q1 : Nat) : Int), .int .u16 ((q2 : Nat) : Int)] 43)) := ⟨cell_in (heap_alloc_new w (.cells #[.int .u16 ((q0 : Nat) : Int), .int .u16 ((q1 : Nat) : Int), .int .u16 ((q2 : Nat) : Int)] 43)), cell_in (heap_alloc_new w (.cells #[.int .u16 ((q0 : Nat) : Int), .int .u16 ((q1 : Nat) : Int), .int .u16 ((q2 : Nat) : Int)] 43)), cell_in (heap_alloc_new w (.cells #[.int .u16 ((q0 : Nat) : Int), .int .u16 ((q1 : Nat) : Int), .int .u16 ((q2 : Nat) : Int)] 43))⟩
  have hbq : Below w.heap.size w (w.alloc (.cells #[.int .u16 ((q0 : Nat) : Int), .int .u16 ((q1 : Nat) : Int), .int .u16 ((q2 : Nat) : Int)] 43)) := (Below.refl _ _).alloc (Nat.le_refl _) _
  have hszq : (w.alloc (.cells #[.int .u16 ((q0 : Nat) : Int), .int .u16 ((q1 : Nat) : Int), .int .u16 ((q2 : Nat) : Int)] 43)).heap.size = w.heap.size + 1 := by simp
  generalize hw1 : w.alloc (.cells #[.int .u16 ((q0 : Nat) : Int), .int .u16 ((q1 : Nat) : Int), .int .u16 ((q2 : Nat) : Int)] 43) = w1 at *
  obtain ⟨B, hB⟩ : ∃ B, B = w1.heap.size := ⟨_, rfl⟩
  have HN : Hid (Calls Try.prog 6 #[.int .u64 p] w1 fun e W' => e = .returned (.tuple #[.pointer (some ⟨B, 0, none⟩), .int .i64 0]) ∧ Wb w1 B p n 0 [] [] W') :=
    Lib.hid (by subst hB; exact (new_ok p hp hP w1).mono fun _ _ he => ⟨he.1, Wb.zero he.2.1 he.2.2⟩)
  have hSQ : ∀ W, Below B w1 W → (fun W => W.cell? ⟨w.heap.size, 0, none⟩ = some (.int .u16 ((q0 : Nat) : Int)) ∧ W.cell? ⟨w.heap.size, 1, none⟩ = some (.int .u16 ((q1 : Nat) : Int)) ∧ W.cell? ⟨w.heap.size, 2, none⟩ = some (.int .u16 ((q2 : Nat) : Int))) W := fun W hb => by
    have hl : w.heap.size < B := by omega
    exact ⟨(hb.cell hl).trans y0, (hb.cell hl).trans y1, (hb.cell hl).trans y2⟩
  have HSQ := Lib.hid hSQ
  have HBQ := Lib.hid hbq
  have HLB : Hid (w.heap.size < B) := Lib.hid (by omega)
  have HLW : Hid (B = w1.heap.size) := Lib.hid hB
  obtain ⟨N18, eN⟩ : ∃ N, N = ((((((((((((((((((0 + n) + n) + n) + (1 + 9 * n)) + (1 + 9 * n)) + (1 + 9 * n)) + (1 + 9 * n)) + (1 + 9 * n)) + (1 + 9 * n)) + (1 + 9 * n)) + (n * (10 * n + 1))) + (n * (10 * n + 1))) + (n * (10 * n + 1))) + (1 + 9 * n)) + (n * (10 * n + 1))) + (n * (10 * n + 1))) + (1 + 9 * n)) + (1 + 11 * n)) := ⟨_, rfl⟩
  obtain ⟨A1, e1⟩ : ∃ a, a = q0 % 2 ^ n := ⟨_, rfl⟩
  obtain ⟨A2, e2⟩ : ∃ a, a = q1 % 2 ^ n := ⟨_, rfl⟩
  obtain ⟨A3, e3⟩ : ∃ a, a = q2 % 2 ^ n := ⟨_, rfl⟩
  obtain ⟨A4, e4⟩ : ∃ a, a = (A1 + A2) % 2 ^ n := ⟨_, rfl⟩
  obtain ⟨A5, e5⟩ : ∃ a, a = (A2 + A1) % 2 ^ n := ⟨_, rfl⟩
  obtain ⟨A6, e6⟩ : ∃ a, a = (A1 + A2) % 2 ^ n := ⟨_, rfl⟩
  obtain ⟨A7, e7⟩ : ∃ a, a = (A6 + A3) % 2 ^ n := ⟨_, rfl⟩
  obtain ⟨A8, e8⟩ : ∃ a, a = (A2 + A3) % 2 ^ n := ⟨_, rfl⟩
  obtain ⟨A9, e9⟩ : ∃ a, a = (A1 + A8) % 2 ^ n := ⟨_, rfl⟩
  obtain ⟨A10, e10⟩ : ∃ a, a = (A2 + A3) % 2 ^ n := ⟨_, rfl⟩
  obtain ⟨A11, e11⟩ : ∃ a, a = A1 * A10 % 2 ^ n := ⟨_, rfl⟩
  obtain ⟨A12, e12⟩ : ∃ a, a = A1 * A2 % 2 ^ n := ⟨_, rfl⟩
  obtain ⟨A13, e13⟩ : ∃ a, a = A1 * A3 % 2 ^ n := ⟨_, rfl⟩
  obtain ⟨A14, e14⟩ : ∃ a, a = (A12 + A13) % 2 ^ n := ⟨_, rfl⟩
  obtain ⟨A15, e15⟩ : ∃ a, a = A1 * A2 % 2 ^ n := ⟨_, rfl⟩
  obtain ⟨A16, e16⟩ : ∃ a, a = A2 * A1 % 2 ^ n := ⟨_, rfl⟩
  obtain ⟨A17, e17⟩ : ∃ a, a = (A1 + A2) % 2 ^ n := ⟨_, rfl⟩
  obtain ⟨A18, e18⟩ : ∃ a, a = (A17 + 2 ^ n - A2) % 2 ^ n := ⟨_, rfl⟩
  have H1 : Hid (∀ (W : World), Wb w1 B p n 0 [] [] W → Calls Try.prog 12 #[.pointer (some ⟨B, 0, none⟩), .int .i64 ((n : Nat) : Int), .int .u64 ((q0 : Nat) : Int)] W fun e W' => ∃ g1 c1, e = .returned (.slice (some ⟨g1, 0, none⟩) n c1) ∧ Wb w1 B p n (0 + n) [(.slice (some ⟨g1, 0, none⟩) n c1, A1)] [] W') :=
    Lib.hid fun W hS => by rw [e1]; exact (hS.of hp2 hn2 q0 (by omega) (by omega)).mono fun _ _ he => by obtain ⟨vo, e1, h⟩ := he; obtain ⟨g, c, rfl⟩ := h.form List.mem_cons_self hn1; exact ⟨g, c, e1, h⟩
  have H2 : Hid (∀ (W : World) (g1 c1 : Nat), Wb w1 B p n (0 + n) [(.slice (some ⟨g1, 0, none⟩) n c1, A1)] [] W → Calls Try.prog 12 #[.pointer (some ⟨B, 0, none⟩), .int .i64 ((n : Nat) : Int), .int .u64 ((q1 : Nat) : Int)] W fun e W' => ∃ g2 c2, e = .returned (.slice (some ⟨g2, 0, none⟩) n c2) ∧ Wb w1 B p n ((0 + n) + n) [(.slice (some ⟨g2, 0, none⟩) n c2, A2), (.slice (some ⟨g1, 0, none⟩) n c1, A1)] [] W') :=
    Lib.hid fun W g1 c1 hS => by rw [e2]; exact (hS.of hp2 hn2 q1 (by omega) (by omega)).mono fun _ _ he => by obtain ⟨vo, e1, h⟩ := he; obtain ⟨g, c, rfl⟩ := h.form List.mem_cons_self hn1; exact ⟨g, c, e1, h⟩
  have H3 : Hid (∀ (W : World) (g2 c2 g1 c1 : Nat), Wb w1 B p n ((0 + n) + n) [(.slice (some ⟨g2, 0, none⟩) n c2, A2), (.slice (some ⟨g1, 0, none⟩) n c1, A1)] [] W → Calls Try.prog 12 #[.pointer (some ⟨B, 0, none⟩), .int .i64 ((n : Nat) : Int), .int .u64 ((q2 : Nat) : Int)] W fun e W' => ∃ g3 c3, e = .returned (.slice (some ⟨g3, 0, none⟩) n c3) ∧ Wb w1 B p n (((0 + n) + n) + n) [(.slice (some ⟨g3, 0, none⟩) n c3, A3), (.slice (some ⟨g2, 0, none⟩) n c2, A2), (.slice (some ⟨g1, 0, none⟩) n c1, A1)] [] W') :=
    Lib.hid fun W g2 c2 g1 c1 hS => by rw [e3]; exact (hS.of hp2 hn2 q2 (by omega) (by omega)).mono fun _ _ he => by obtain ⟨vo, e1, h⟩ := he; obtain ⟨g, c, rfl⟩ := h.form List.mem_cons_self hn1; exact ⟨g, c, e1, h⟩
  have H4 : Hid (∀ (W : World) (g3 c3 g2 c2 g1 c1 : Nat), Wb w1 B p n (((0 + n) + n) + n) [(.slice (some ⟨g3, 0, none⟩) n c3, A3), (.slice (some ⟨g2, 0, none⟩) n c2, A2), (.slice (some ⟨g1, 0, none⟩) n c1, A1)] [] W → Calls Try.prog 13 #[.pointer (some ⟨B, 0, none⟩), .slice (some ⟨g1, 0, none⟩) n c1, .slice (some ⟨g2, 0, none⟩) n c2] W fun e W' => ∃ g4 c4, e = .returned (.slice (some ⟨g4, 0, none⟩) n c4) ∧ Wb w1 B p n ((((0 + n) + n) + n) + (1 + 9 * n)) [(.slice (some ⟨g4, 0, none⟩) n c4, A4), (.slice (some ⟨g3, 0, none⟩) n c3, A3), (.slice (some ⟨g2, 0, none⟩) n c2, A2), (.slice (some ⟨g1, 0, none⟩) n c1, A1)] [] W') :=
    Lib.hid fun W g3 c3 g2 c2 g1 c1 hS => by rw [e4]; exact (hS.plusL (va := .slice (some ⟨g1, 0, none⟩) n c1) (wa := .slice (some ⟨g2, 0, none⟩) n c2) (m1 := A1) (m2 := A2) hp2 hn1 hn2 (by simp) (by simp) (by omega)).mono fun _ _ he => by obtain ⟨vo, e1, h⟩ := he; obtain ⟨g, c, rfl⟩ := h.form List.mem_cons_self hn1; exact ⟨g, c, e1, h⟩
  have H5 : Hid (∀ (W : World) (g4 c4 g3 c3 g2 c2 g1 c1 : Nat), Wb w1 B p n ((((0 + n) + n) + n) + (1 + 9 * n)) [(.slice (some ⟨g4, 0, none⟩) n c4, A4), (.slice (some ⟨g3, 0, none⟩) n c3, A3), (.slice (some ⟨g2, 0, none⟩) n c2, A2), (.slice (some ⟨g1, 0, none⟩) n c1, A1)] [] W → Calls Try.prog 13 #[.pointer (some ⟨B, 0, none⟩), .slice (some ⟨g2, 0, none⟩) n c2, .slice (some ⟨g1, 0, none⟩) n c1] W fun e W' => ∃ g5 c5, e = .returned (.slice (some ⟨g5, 0, none⟩) n c5) ∧ Wb w1 B p n (((((0 + n) + n) + n) + (1 + 9 * n)) + (1 + 9 * n)) [(.slice (some ⟨g5, 0, none⟩) n c5, A5), (.slice (some ⟨g4, 0, none⟩) n c4, A4), (.slice (some ⟨g3, 0, none⟩) n c3, A3), (.slice (some ⟨g2, 0, none⟩) n c2, A2), (.slice (some ⟨g1, 0, none⟩) n c1, A1)] [] W') :=
    Lib.hid fun W g4 c4 g3 c3 g2 c2 g1 c1 hS => by rw [e5]; exact (hS.plusL (va := .slice (some ⟨g2, 0, none⟩) n c2) (wa := .slice (some ⟨g1, 0, none⟩) n c1) (m1 := A2) (m2 := A1) hp2 hn1 hn2 (by simp) (by simp) (by omega)).mono fun _ _ he => by obtain ⟨vo, e1, h⟩ := he; obtain ⟨g, c, rfl⟩ := h.form List.mem_cons_self hn1; exact ⟨g, c, e1, h⟩
  have H6 : Hid (∀ (W : World) (g5 c5 g4 c4 g3 c3 g2 c2 g1 c1 : Nat), Wb w1 B p n (((((0 + n) + n) + n) + (1 + 9 * n)) + (1 + 9 * n)) [(.slice (some ⟨g5, 0, none⟩) n c5, A5), (.slice (some ⟨g4, 0, none⟩) n c4, A4), (.slice (some ⟨g3, 0, none⟩) n c3, A3), (.slice (some ⟨g2, 0, none⟩) n c2, A2), (.slice (some ⟨g1, 0, none⟩) n c1, A1)] [] W → Calls Try.prog 13 #[.pointer (some ⟨B, 0, none⟩), .slice (some ⟨g1, 0, none⟩) n c1, .slice (some ⟨g2, 0, none⟩) n c2] W fun e W' => ∃ g6 c6, e = .returned (.slice (some ⟨g6, 0, none⟩) n c6) ∧ Wb w1 B p n ((((((0 + n) + n) + n) + (1 + 9 * n)) + (1 + 9 * n)) + (1 + 9 * n)) [(.slice (some ⟨g6, 0, none⟩) n c6, A6), (.slice (some ⟨g5, 0, none⟩) n c5, A5), (.slice (some ⟨g4, 0, none⟩) n c4, A4), (.slice (some ⟨g3, 0, none⟩) n c3, A3), (.slice (some ⟨g2, 0, none⟩) n c2, A2), (.slice (some ⟨g1, 0, none⟩) n c1, A1)] [] W') :=
    Lib.hid fun W g5 c5 g4 c4 g3 c3 g2 c2 g1 c1 hS => by rw [e6]; exact (hS.plusL (va := .slice (some ⟨g1, 0, none⟩) n c1) (wa := .slice (some ⟨g2, 0, none⟩) n c2) (m1 := A1) (m2 := A2) hp2 hn1 hn2 (by simp) (by simp) (by omega)).mono fun _ _ he => by obtain ⟨vo, e1, h⟩ := he; obtain ⟨g, c, rfl⟩ := h.form List.mem_cons_self hn1; exact ⟨g, c, e1, h⟩
  have H7 : Hid (∀ (W : World) (g6 c6 g5 c5 g4 c4 g3 c3 g2 c2 g1 c1 : Nat), Wb w1 B p n ((((((0 + n) + n) + n) + (1 + 9 * n)) + (1 + 9 * n)) + (1 + 9 * n)) [(.slice (some ⟨g6, 0, none⟩) n c6, A6), (.slice (some ⟨g5, 0, none⟩) n c5, A5), (.slice (some ⟨g4, 0, none⟩) n c4, A4), (.slice (some ⟨g3, 0, none⟩) n c3, A3), (.slice (some ⟨g2, 0, none⟩) n c2, A2), (.slice (some ⟨g1, 0, none⟩) n c1, A1)] [] W → Calls Try.prog 13 #[.pointer (some ⟨B, 0, none⟩), .slice (some ⟨g6, 0, none⟩) n c6, .slice (some ⟨g3, 0, none⟩) n c3] W fun e W' => ∃ g7 c7, e = .returned (.slice (some ⟨g7, 0, none⟩) n c7) ∧ Wb w1 B p n (((((((0 + n) + n) + n) + (1 + 9 * n)) + (1 + 9 * n)) + (1 + 9 * n)) + (1 + 9 * n)) [(.slice (some ⟨g7, 0, none⟩) n c7, A7), (.slice (some ⟨g6, 0, none⟩) n c6, A6), (.slice (some ⟨g5, 0, none⟩) n c5, A5), (.slice (some ⟨g4, 0, none⟩) n c4, A4), (.slice (some ⟨g3, 0, none⟩) n c3, A3), (.slice (some ⟨g2, 0, none⟩) n c2, A2), (.slice (some ⟨g1, 0, none⟩) n c1, A1)] [] W') :=
    Lib.hid fun W g6 c6 g5 c5 g4 c4 g3 c3 g2 c2 g1 c1 hS => by rw [e7]; exact (hS.plusL (va := .slice (some ⟨g6, 0, none⟩) n c6) (wa := .slice (some ⟨g3, 0, none⟩) n c3) (m1 := A6) (m2 := A3) hp2 hn1 hn2 (by simp) (by simp) (by omega)).mono fun _ _ he => by obtain ⟨vo, e1, h⟩ := he; obtain ⟨g, c, rfl⟩ := h.form List.mem_cons_self hn1; exact ⟨g, c, e1, h⟩
  have H8 : Hid (∀ (W : World) (g7 c7 g6 c6 g5 c5 g4 c4 g3 c3 g2 c2 g1 c1 : Nat), Wb w1 B p n (((((((0 + n) + n) + n) + (1 + 9 * n)) + (1 + 9 * n)) + (1 + 9 * n)) + (1 + 9 * n)) [(.slice (some ⟨g7, 0, none⟩) n c7, A7), (.slice (some ⟨g6, 0, none⟩) n c6, A6), (.slice (some ⟨g5, 0, none⟩) n c5, A5), (.slice (some ⟨g4, 0, none⟩) n c4, A4), (.slice (some ⟨g3, 0, none⟩) n c3, A3), (.slice (some ⟨g2, 0, none⟩) n c2, A2), (.slice (some ⟨g1, 0, none⟩) n c1, A1)] [] W → Calls Try.prog 13 #[.pointer (some ⟨B, 0, none⟩), .slice (some ⟨g2, 0, none⟩) n c2, .slice (some ⟨g3, 0, none⟩) n c3] W fun e W' => ∃ g8 c8, e = .returned (.slice (some ⟨g8, 0, none⟩) n c8) ∧ Wb w1 B p n ((((((((0 + n) + n) + n) + (1 + 9 * n)) + (1 + 9 * n)) + (1 + 9 * n)) + (1 + 9 * n)) + (1 + 9 * n)) [(.slice (some ⟨g8, 0, none⟩) n c8, A8), (.slice (some ⟨g7, 0, none⟩) n c7, A7), (.slice (some ⟨g6, 0, none⟩) n c6, A6), (.slice (some ⟨g5, 0, none⟩) n c5, A5), (.slice (some ⟨g4, 0, none⟩) n c4, A4), (.slice (some ⟨g3, 0, none⟩) n c3, A3), (.slice (some ⟨g2, 0, none⟩) n c2, A2), (.slice (some ⟨g1, 0, none⟩) n c1, A1)] [] W') :=
    Lib.hid fun W g7 c7 g6 c6 g5 c5 g4 c4 g3 c3 g2 c2 g1 c1 hS => by rw [e8]; exact (hS.plusL (va := .slice (some ⟨g2, 0, none⟩) n c2) (wa := .slice (some ⟨g3, 0, none⟩) n c3) (m1 := A2) (m2 := A3) hp2 hn1 hn2 (by simp) (by simp) (by omega)).mono fun _ _ he => by obtain ⟨vo, e1, h⟩ := he; obtain ⟨g, c, rfl⟩ := h.form List.mem_cons_self hn1; exact ⟨g, c, e1, h⟩
  have H9 : Hid (∀ (W : World) (g8 c8 g7 c7 g6 c6 g5 c5 g4 c4 g3 c3 g2 c2 g1 c1 : Nat), Wb w1 B p n ((((((((0 + n) + n) + n) + (1 + 9 * n)) + (1 + 9 * n)) + (1 + 9 * n)) + (1 + 9 * n)) + (1 + 9 * n)) [(.slice (some ⟨g8, 0, none⟩) n c8, A8), (.slice (some ⟨g7, 0, none⟩) n c7, A7), (.slice (some ⟨g6, 0, none⟩) n c6, A6), (.slice (some ⟨g5, 0, none⟩) n c5, A5), (.slice (some ⟨g4, 0, none⟩) n c4, A4), (.slice (some ⟨g3, 0, none⟩) n c3, A3), (.slice (some ⟨g2, 0, none⟩) n c2, A2), (.slice (some ⟨g1, 0, none⟩) n c1, A1)] [] W → Calls Try.prog 13 #[.pointer (some ⟨B, 0, none⟩), .slice (some ⟨g1, 0, none⟩) n c1, .slice (some ⟨g8, 0, none⟩) n c8] W fun e W' => ∃ g9 c9, e = .returned (.slice (some ⟨g9, 0, none⟩) n c9) ∧ Wb w1 B p n (((((((((0 + n) + n) + n) + (1 + 9 * n)) + (1 + 9 * n)) + (1 + 9 * n)) + (1 + 9 * n)) + (1 + 9 * n)) + (1 + 9 * n)) [(.slice (some ⟨g9, 0, none⟩) n c9, A9), (.slice (some ⟨g8, 0, none⟩) n c8, A8), (.slice (some ⟨g7, 0, none⟩) n c7, A7), (.slice (some ⟨g6, 0, none⟩) n c6, A6), (.slice (some ⟨g5, 0, none⟩) n c5, A5), (.slice (some ⟨g4, 0, none⟩) n c4, A4), (.slice (some ⟨g3, 0, none⟩) n c3, A3), (.slice (some ⟨g2, 0, none⟩) n c2, A2), (.slice (some ⟨g1, 0, none⟩) n c1, A1)] [] W') :=
    Lib.hid fun W g8 c8 g7 c7 g6 c6 g5 c5 g4 c4 g3 c3 g2 c2 g1 c1 hS => by rw [e9]; exact (hS.plusL (va := .slice (some ⟨g1, 0, none⟩) n c1) (wa := .slice (some ⟨g8, 0, none⟩) n c8) (m1 := A1) (m2 := A8) hp2 hn1 hn2 (by simp) (by simp) (by omega)).mono fun _ _ he => by obtain ⟨vo, e1, h⟩ := he; obtain ⟨g, c, rfl⟩ := h.form List.mem_cons_self hn1; exact ⟨g, c, e1, h⟩
  have H10 : Hid (∀ (W : World) (g9 c9 g8 c8 g7 c7 g6 c6 g5 c5 g4 c4 g3 c3 g2 c2 g1 c1 : Nat), Wb w1 B p n (((((((((0 + n) + n) + n) + (1 + 9 * n)) + (1 + 9 * n)) + (1 + 9 * n)) + (1 + 9 * n)) + (1 + 9 * n)) + (1 + 9 * n)) [(.slice (some ⟨g9, 0, none⟩) n c9, A9), (.slice (some ⟨g8, 0, none⟩) n c8, A8), (.slice (some ⟨g7, 0, none⟩) n c7, A7), (.slice (some ⟨g6, 0, none⟩) n c6, A6), (.slice (some ⟨g5, 0, none⟩) n c5, A5), (.slice (some ⟨g4, 0, none⟩) n c4, A4), (.slice (some ⟨g3, 0, none⟩) n c3, A3), (.slice (some ⟨g2, 0, none⟩) n c2, A2), (.slice (some ⟨g1, 0, none⟩) n c1, A1)] [] W → Calls Try.prog 13 #[.pointer (some ⟨B, 0, none⟩), .slice (some ⟨g2, 0, none⟩) n c2, .slice (some ⟨g3, 0, none⟩) n c3] W fun e W' => ∃ g10 c10, e = .returned (.slice (some ⟨g10, 0, none⟩) n c10) ∧ Wb w1 B p n ((((((((((0 + n) + n) + n) + (1 + 9 * n)) + (1 + 9 * n)) + (1 + 9 * n)) + (1 + 9 * n)) + (1 + 9 * n)) + (1 + 9 * n)) + (1 + 9 * n)) [(.slice (some ⟨g10, 0, none⟩) n c10, A10), (.slice (some ⟨g9, 0, none⟩) n c9, A9), (.slice (some ⟨g8, 0, none⟩) n c8, A8), (.slice (some ⟨g7, 0, none⟩) n c7, A7), (.slice (some ⟨g6, 0, none⟩) n c6, A6), (.slice (some ⟨g5, 0, none⟩) n c5, A5), (.slice (some ⟨g4, 0, none⟩) n c4, A4), (.slice (some ⟨g3, 0, none⟩) n c3, A3), (.slice (some ⟨g2, 0, none⟩) n c2, A2), (.slice (some ⟨g1, 0, none⟩) n c1, A1)] [] W') :=
    Lib.hid fun W g9 c9 g8 c8 g7 c7 g6 c6 g5 c5 g4 c4 g3 c3 g2 c2 g1 c1 hS => by rw [e10]; exact (hS.plusL (va := .slice (some ⟨g2, 0, none⟩) n c2) (wa := .slice (some ⟨g3, 0, none⟩) n c3) (m1 := A2) (m2 := A3) hp2 hn1 hn2 (by simp) (by simp) (by omega)).mono fun _ _ he => by obtain ⟨vo, e1, h⟩ := he; obtain ⟨g, c, rfl⟩ := h.form List.mem_cons_self hn1; exact ⟨g, c, e1, h⟩
  have H11 : Hid (∀ (W : World) (g10 c10 g9 c9 g8 c8 g7 c7 g6 c6 g5 c5 g4 c4 g3 c3 g2 c2 g1 c1 : Nat), Wb w1 B p n ((((((((((0 + n) + n) + n) + (1 + 9 * n)) + (1 + 9 * n)) + (1 + 9 * n)) + (1 + 9 * n)) + (1 + 9 * n)) + (1 + 9 * n)) + (1 + 9 * n)) [(.slice (some ⟨g10, 0, none⟩) n c10, A10), (.slice (some ⟨g9, 0, none⟩) n c9, A9), (.slice (some ⟨g8, 0, none⟩) n c8, A8), (.slice (some ⟨g7, 0, none⟩) n c7, A7), (.slice (some ⟨g6, 0, none⟩) n c6, A6), (.slice (some ⟨g5, 0, none⟩) n c5, A5), (.slice (some ⟨g4, 0, none⟩) n c4, A4), (.slice (some ⟨g3, 0, none⟩) n c3, A3), (.slice (some ⟨g2, 0, none⟩) n c2, A2), (.slice (some ⟨g1, 0, none⟩) n c1, A1)] [] W → Calls Try.prog 14 #[.pointer (some ⟨B, 0, none⟩), .slice (some ⟨g1, 0, none⟩) n c1, .slice (some ⟨g10, 0, none⟩) n c10] W fun e W' => ∃ g11 c11, e = .returned (.slice (some ⟨g11, 0, none⟩) n c11) ∧ Wb w1 B p n (((((((((((0 + n) + n) + n) + (1 + 9 * n)) + (1 + 9 * n)) + (1 + 9 * n)) + (1 + 9 * n)) + (1 + 9 * n)) + (1 + 9 * n)) + (1 + 9 * n)) + (n * (10 * n + 1))) [(.slice (some ⟨g11, 0, none⟩) n c11, A11), (.slice (some ⟨g10, 0, none⟩) n c10, A10), (.slice (some ⟨g9, 0, none⟩) n c9, A9), (.slice (some ⟨g8, 0, none⟩) n c8, A8), (.slice (some ⟨g7, 0, none⟩) n c7, A7), (.slice (some ⟨g6, 0, none⟩) n c6, A6), (.slice (some ⟨g5, 0, none⟩) n c5, A5), (.slice (some ⟨g4, 0, none⟩) n c4, A4), (.slice (some ⟨g3, 0, none⟩) n c3, A3), (.slice (some ⟨g2, 0, none⟩) n c2, A2), (.slice (some ⟨g1, 0, none⟩) n c1, A1)] [] W') :=
    Lib.hid fun W g10 c10 g9 c9 g8 c8 g7 c7 g6 c6 g5 c5 g4 c4 g3 c3 g2 c2 g1 c1 hS => by rw [e11]; exact (hS.timesL (va := .slice (some ⟨g1, 0, none⟩) n c1) (wa := .slice (some ⟨g10, 0, none⟩) n c10) (m1 := A1) (m2 := A10) hp2 hn1 hn2 (by simp) (by simp) (by omega)).mono fun _ _ he => by obtain ⟨vo, e1, h⟩ := he; obtain ⟨g, c, rfl⟩ := h.form List.mem_cons_self hn1; exact ⟨g, c, e1, h⟩
  have H12 : Hid (∀ (W : World) (g11 c11 g10 c10 g9 c9 g8 c8 g7 c7 g6 c6 g5 c5 g4 c4 g3 c3 g2 c2 g1 c1 : Nat), Wb w1 B p n (((((((((((0 + n) + n) + n) + (1 + 9 * n)) + (1 + 9 * n)) + (1 + 9 * n)) + (1 + 9 * n)) + (1 + 9 * n)) + (1 + 9 * n)) + (1 + 9 * n)) + (n * (10 * n + 1))) [(.slice (some ⟨g11, 0, none⟩) n c11, A11), (.slice (some ⟨g10, 0, none⟩) n c10, A10), (.slice (some ⟨g9, 0, none⟩) n c9, A9), (.slice (some ⟨g8, 0, none⟩) n c8, A8), (.slice (some ⟨g7, 0, none⟩) n c7, A7), (.slice (some ⟨g6, 0, none⟩) n c6, A6), (.slice (some ⟨g5, 0, none⟩) n c5, A5), (.slice (some ⟨g4, 0, none⟩) n c4, A4), (.slice (some ⟨g3, 0, none⟩) n c3, A3), (.slice (some ⟨g2, 0, none⟩) n c2, A2), (.slice (some ⟨g1, 0, none⟩) n c1, A1)] [] W → Calls Try.prog 14 #[.pointer (some ⟨B, 0, none⟩), .slice (some ⟨g1, 0, none⟩) n c1, .slice (some ⟨g2, 0, none⟩) n c2] W fun e W' => ∃ g12 c12, e = .returned (.slice (some ⟨g12, 0, none⟩) n c12) ∧ Wb w1 B p n ((((((((((((0 + n) + n) + n) + (1 + 9 * n)) + (1 + 9 * n)) + (1 + 9 * n)) + (1 + 9 * n)) + (1 + 9 * n)) + (1 + 9 * n)) + (1 + 9 * n)) + (n * (10 * n + 1))) + (n * (10 * n + 1))) [(.slice (some ⟨g12, 0, none⟩) n c12, A12), (.slice (some ⟨g11, 0, none⟩) n c11, A11), (.slice (some ⟨g10, 0, none⟩) n c10, A10), (.slice (some ⟨g9, 0, none⟩) n c9, A9), (.slice (some ⟨g8, 0, none⟩) n c8, A8), (.slice (some ⟨g7, 0, none⟩) n c7, A7), (.slice (some ⟨g6, 0, none⟩) n c6, A6), (.slice (some ⟨g5, 0, none⟩) n c5, A5), (.slice (some ⟨g4, 0, none⟩) n c4, A4), (.slice (some ⟨g3, 0, none⟩) n c3, A3), (.slice (some ⟨g2, 0, none⟩) n c2, A2), (.slice (some ⟨g1, 0, none⟩) n c1, A1)] [] W') :=
    Lib.hid fun W g11 c11 g10 c10 g9 c9 g8 c8 g7 c7 g6 c6 g5 c5 g4 c4 g3 c3 g2 c2 g1 c1 hS => by rw [e12]; exact (hS.timesL (va := .slice (some ⟨g1, 0, none⟩) n c1) (wa := .slice (some ⟨g2, 0, none⟩) n c2) (m1 := A1) (m2 := A2) hp2 hn1 hn2 (by simp) (by simp) (by omega)).mono fun _ _ he => by obtain ⟨vo, e1, h⟩ := he; obtain ⟨g, c, rfl⟩ := h.form List.mem_cons_self hn1; exact ⟨g, c, e1, h⟩
  have H13 : Hid (∀ (W : World) (g12 c12 g11 c11 g10 c10 g9 c9 g8 c8 g7 c7 g6 c6 g5 c5 g4 c4 g3 c3 g2 c2 g1 c1 : Nat), Wb w1 B p n ((((((((((((0 + n) + n) + n) + (1 + 9 * n)) + (1 + 9 * n)) + (1 + 9 * n)) + (1 + 9 * n)) + (1 + 9 * n)) + (1 + 9 * n)) + (1 + 9 * n)) + (n * (10 * n + 1))) + (n * (10 * n + 1))) [(.slice (some ⟨g12, 0, none⟩) n c12, A12), (.slice (some ⟨g11, 0, none⟩) n c11, A11), (.slice (some ⟨g10, 0, none⟩) n c10, A10), (.slice (some ⟨g9, 0, none⟩) n c9, A9), (.slice (some ⟨g8, 0, none⟩) n c8, A8), (.slice (some ⟨g7, 0, none⟩) n c7, A7), (.slice (some ⟨g6, 0, none⟩) n c6, A6), (.slice (some ⟨g5, 0, none⟩) n c5, A5), (.slice (some ⟨g4, 0, none⟩) n c4, A4), (.slice (some ⟨g3, 0, none⟩) n c3, A3), (.slice (some ⟨g2, 0, none⟩) n c2, A2), (.slice (some ⟨g1, 0, none⟩) n c1, A1)] [] W → Calls Try.prog 14 #[.pointer (some ⟨B, 0, none⟩), .slice (some ⟨g1, 0, none⟩) n c1, .slice (some ⟨g3, 0, none⟩) n c3] W fun e W' => ∃ g13 c13, e = .returned (.slice (some ⟨g13, 0, none⟩) n c13) ∧ Wb w1 B p n (((((((((((((0 + n) + n) + n) + (1 + 9 * n)) + (1 + 9 * n)) + (1 + 9 * n)) + (1 + 9 * n)) + (1 + 9 * n)) + (1 + 9 * n)) + (1 + 9 * n)) + (n * (10 * n + 1))) + (n * (10 * n + 1))) + (n * (10 * n + 1))) [(.slice (some ⟨g13, 0, none⟩) n c13, A13), (.slice (some ⟨g12, 0, none⟩) n c12, A12), (.slice (some ⟨g11, 0, none⟩) n c11, A11), (.slice (some ⟨g10, 0, none⟩) n c10, A10), (.slice (some ⟨g9, 0, none⟩) n c9, A9), (.slice (some ⟨g8, 0, none⟩) n c8, A8), (.slice (some ⟨g7, 0, none⟩) n c7, A7), (.slice (some ⟨g6, 0, none⟩) n c6, A6), (.slice (some ⟨g5, 0, none⟩) n c5, A5), (.slice (some ⟨g4, 0, none⟩) n c4, A4), (.slice (some ⟨g3, 0, none⟩) n c3, A3), (.slice (some ⟨g2, 0, none⟩) n c2, A2), (.slice (some ⟨g1, 0, none⟩) n c1, A1)] [] W') :=
    Lib.hid fun W g12 c12 g11 c11 g10 c10 g9 c9 g8 c8 g7 c7 g6 c6 g5 c5 g4 c4 g3 c3 g2 c2 g1 c1 hS => by rw [e13]; exact (hS.timesL (va := .slice (some ⟨g1, 0, none⟩) n c1) (wa := .slice (some ⟨g3, 0, none⟩) n c3) (m1 := A1) (m2 := A3) hp2 hn1 hn2 (by simp) (by simp) (by omega)).mono fun _ _ he => by obtain ⟨vo, e1, h⟩ := he; obtain ⟨g, c, rfl⟩ := h.form List.mem_cons_self hn1; exact ⟨g, c, e1, h⟩
  have H14 : Hid (∀ (W : World) (g13 c13 g12 c12 g11 c11 g10 c10 g9 c9 g8 c8 g7 c7 g6 c6 g5 c5 g4 c4 g3 c3 g2 c2 g1 c1 : Nat), Wb w1 B p n (((((((((((((0 + n) + n) + n) + (1 + 9 * n)) + (1 + 9 * n)) + (1 + 9 * n)) + (1 + 9 * n)) + (1 + 9 * n)) + (1 + 9 * n)) + (1 + 9 * n)) + (n * (10 * n + 1))) + (n * (10 * n + 1))) + (n * (10 * n + 1))) [(.slice (some ⟨g13, 0, none⟩) n c13, A13), (.slice (some ⟨g12, 0, none⟩) n c12, A12), (.slice (some ⟨g11, 0, none⟩) n c11, A11), (.slice (some ⟨g10, 0, none⟩) n c10, A10), (.slice (some ⟨g9, 0, none⟩) n c9, A9), (.slice (some ⟨g8, 0, none⟩) n c8, A8), (.slice (some ⟨g7, 0, none⟩) n c7, A7), (.slice (some ⟨g6, 0, none⟩) n c6, A6), (.slice (some ⟨g5, 0, none⟩) n c5, A5), (.slice (some ⟨g4, 0, none⟩) n c4, A4), (.slice (some ⟨g3, 0, none⟩) n c3, A3), (.slice (some ⟨g2, 0, none⟩) n c2, A2), (.slice (some ⟨g1, 0, none⟩) n c1, A1)] [] W → Calls Try.prog 13 #[.pointer (some ⟨B, 0, none⟩), .slice (some ⟨g12, 0, none⟩) n c12, .slice (some ⟨g13, 0, none⟩) n c13] W fun e W' => ∃ g14 c14, e = .returned (.slice (some ⟨g14, 0, none⟩) n c14) ∧ Wb w1 B p n ((((((((((((((0 + n) + n) + n) + (1 + 9 * n)) + (1 + 9 * n)) + (1 + 9 * n)) + (1 + 9 * n)) + (1 + 9 * n)) + (1 + 9 * n)) + (1 + 9 * n)) + (n * (10 * n + 1))) + (n * (10 * n + 1))) + (n * (10 * n + 1))) + (1 + 9 * n)) [(.slice (some ⟨g14, 0, none⟩) n c14, A14), (.slice (some ⟨g13, 0, none⟩) n c13, A13), (.slice (some ⟨g12, 0, none⟩) n c12, A12), (.slice (some ⟨g11, 0, none⟩) n c11, A11), (.slice (some ⟨g10, 0, none⟩) n c10, A10), (.slice (some ⟨g9, 0, none⟩) n c9, A9), (.slice (some ⟨g8, 0, none⟩) n c8, A8), (.slice (some ⟨g7, 0, none⟩) n c7, A7), (.slice (some ⟨g6, 0, none⟩) n c6, A6), (.slice (some ⟨g5, 0, none⟩) n c5, A5), (.slice (some ⟨g4, 0, none⟩) n c4, A4), (.slice (some ⟨g3, 0, none⟩) n c3, A3), (.slice (some ⟨g2, 0, none⟩) n c2, A2), (.slice (some ⟨g1, 0, none⟩) n c1, A1)] [] W') :=
    Lib.hid fun W g13 c13 g12 c12 g11 c11 g10 c10 g9 c9 g8 c8 g7 c7 g6 c6 g5 c5 g4 c4 g3 c3 g2 c2 g1 c1 hS => by rw [e14]; exact (hS.plusL (va := .slice (some ⟨g12, 0, none⟩) n c12) (wa := .slice (some ⟨g13, 0, none⟩) n c13) (m1 := A12) (m2 := A13) hp2 hn1 hn2 (by simp) (by simp) (by omega)).mono fun _ _ he => by obtain ⟨vo, e1, h⟩ := he; obtain ⟨g, c, rfl⟩ := h.form List.mem_cons_self hn1; exact ⟨g, c, e1, h⟩
  have H15 : Hid (∀ (W : World) (g14 c14 g13 c13 g12 c12 g11 c11 g10 c10 g9 c9 g8 c8 g7 c7 g6 c6 g5 c5 g4 c4 g3 c3 g2 c2 g1 c1 : Nat), Wb w1 B p n ((((((((((((((0 + n) + n) + n) + (1 + 9 * n)) + (1 + 9 * n)) + (1 + 9 * n)) + (1 + 9 * n)) + (1 + 9 * n)) + (1 + 9 * n)) + (1 + 9 * n)) + (n * (10 * n + 1))) + (n * (10 * n + 1))) + (n * (10 * n + 1))) + (1 + 9 * n)) [(.slice (some ⟨g14, 0, none⟩) n c14, A14), (.slice (some ⟨g13, 0, none⟩) n c13, A13), (.slice (some ⟨g12, 0, none⟩) n c12, A12), (.slice (some ⟨g11, 0, none⟩) n c11, A11), (.slice (some ⟨g10, 0, none⟩) n c10, A10), (.slice (some ⟨g9, 0, none⟩) n c9, A9), (.slice (some ⟨g8, 0, none⟩) n c8, A8), (.slice (some ⟨g7, 0, none⟩) n c7, A7), (.slice (some ⟨g6, 0, none⟩) n c6, A6), (.slice (some ⟨g5, 0, none⟩) n c5, A5), (.slice (some ⟨g4, 0, none⟩) n c4, A4), (.slice (some ⟨g3, 0, none⟩) n c3, A3), (.slice (some ⟨g2, 0, none⟩) n c2, A2), (.slice (some ⟨g1, 0, none⟩) n c1, A1)] [] W → Calls Try.prog 14 #[.pointer (some ⟨B, 0, none⟩), .slice (some ⟨g1, 0, none⟩) n c1, .slice (some ⟨g2, 0, none⟩) n c2] W fun e W' => ∃ g15 c15, e = .returned (.slice (some ⟨g15, 0, none⟩) n c15) ∧ Wb w1 B p n (((((((((((((((0 + n) + n) + n) + (1 + 9 * n)) + (1 + 9 * n)) + (1 + 9 * n)) + (1 + 9 * n)) + (1 + 9 * n)) + (1 + 9 * n)) + (1 + 9 * n)) + (n * (10 * n + 1))) + (n * (10 * n + 1))) + (n * (10 * n + 1))) + (1 + 9 * n)) + (n * (10 * n + 1))) [(.slice (some ⟨g15, 0, none⟩) n c15, A15), (.slice (some ⟨g14, 0, none⟩) n c14, A14), (.slice (some ⟨g13, 0, none⟩) n c13, A13), (.slice (some ⟨g12, 0, none⟩) n c12, A12), (.slice (some ⟨g11, 0, none⟩) n c11, A11), (.slice (some ⟨g10, 0, none⟩) n c10, A10), (.slice (some ⟨g9, 0, none⟩) n c9, A9), (.slice (some ⟨g8, 0, none⟩) n c8, A8), (.slice (some ⟨g7, 0, none⟩) n c7, A7), (.slice (some ⟨g6, 0, none⟩) n c6, A6), (.slice (some ⟨g5, 0, none⟩) n c5, A5), (.slice (some ⟨g4, 0, none⟩) n c4, A4), (.slice (some ⟨g3, 0, none⟩) n c3, A3), (.slice (some ⟨g2, 0, none⟩) n c2, A2), (.slice (some ⟨g1, 0, none⟩) n c1, A1)] [] W') :=
    Lib.hid fun W g14 c14 g13 c13 g12 c12 g11 c11 g10 c10 g9 c9 g8 c8 g7 c7 g6 c6 g5 c5 g4 c4 g3 c3 g2 c2 g1 c1 hS => by rw [e15]; exact (hS.timesL (va := .slice (some ⟨g1, 0, none⟩) n c1) (wa := .slice (some ⟨g2, 0, none⟩) n c2) (m1 := A1) (m2 := A2) hp2 hn1 hn2 (by simp) (by simp) (by omega)).mono fun _ _ he => by obtain ⟨vo, e1, h⟩ := he; obtain ⟨g, c, rfl⟩ := h.form List.mem_cons_self hn1; exact ⟨g, c, e1, h⟩
  have H16 : Hid (∀ (W : World) (g15 c15 g14 c14 g13 c13 g12 c12 g11 c11 g10 c10 g9 c9 g8 c8 g7 c7 g6 c6 g5 c5 g4 c4 g3 c3 g2 c2 g1 c1 : Nat), Wb w1 B p n (((((((((((((((0 + n) + n) + n) + (1 + 9 * n)) + (1 + 9 * n)) + (1 + 9 * n)) + (1 + 9 * n)) + (1 + 9 * n)) + (1 + 9 * n)) + (1 + 9 * n)) + (n * (10 * n + 1))) + (n * (10 * n + 1))) + (n * (10 * n + 1))) + (1 + 9 * n)) + (n * (10 * n + 1))) [(.slice (some ⟨g15, 0, none⟩) n c15, A15), (.slice (some ⟨g14, 0, none⟩) n c14, A14), (.slice (some ⟨g13, 0, none⟩) n c13, A13), (.slice (some ⟨g12, 0, none⟩) n c12, A12), (.slice (some ⟨g11, 0, none⟩) n c11, A11), (.slice (some ⟨g10, 0, none⟩) n c10, A10), (.slice (some ⟨g9, 0, none⟩) n c9, A9), (.slice (some ⟨g8, 0, none⟩) n c8, A8), (.slice (some ⟨g7, 0, none⟩) n c7, A7), (.slice (some ⟨g6, 0, none⟩) n c6, A6), (.slice (some ⟨g5, 0, none⟩) n c5, A5), (.slice (some ⟨g4, 0, none⟩) n c4, A4), (.slice (some ⟨g3, 0, none⟩) n c3, A3), (.slice (some ⟨g2, 0, none⟩) n c2, A2), (.slice (some ⟨g1, 0, none⟩) n c1, A1)] [] W → Calls Try.prog 14 #[.pointer (some ⟨B, 0, none⟩), .slice (some ⟨g2, 0, none⟩) n c2, .slice (some ⟨g1, 0, none⟩) n c1] W fun e W' => ∃ g16 c16, e = .returned (.slice (some ⟨g16, 0, none⟩) n c16) ∧ Wb w1 B p n ((((((((((((((((0 + n) + n) + n) + (1 + 9 * n)) + (1 + 9 * n)) + (1 + 9 * n)) + (1 + 9 * n)) + (1 + 9 * n)) + (1 + 9 * n)) + (1 + 9 * n)) + (n * (10 * n + 1))) + (n * (10 * n + 1))) + (n * (10 * n + 1))) + (1 + 9 * n)) + (n * (10 * n + 1))) + (n * (10 * n + 1))) [(.slice (some ⟨g16, 0, none⟩) n c16, A16), (.slice (some ⟨g15, 0, none⟩) n c15, A15), (.slice (some ⟨g14, 0, none⟩) n c14, A14), (.slice (some ⟨g13, 0, none⟩) n c13, A13), (.slice (some ⟨g12, 0, none⟩) n c12, A12), (.slice (some ⟨g11, 0, none⟩) n c11, A11), (.slice (some ⟨g10, 0, none⟩) n c10, A10), (.slice (some ⟨g9, 0, none⟩) n c9, A9), (.slice (some ⟨g8, 0, none⟩) n c8, A8), (.slice (some ⟨g7, 0, none⟩) n c7, A7), (.slice (some ⟨g6, 0, none⟩) n c6, A6), (.slice (some ⟨g5, 0, none⟩) n c5, A5), (.slice (some ⟨g4, 0, none⟩) n c4, A4), (.slice (some ⟨g3, 0, none⟩) n c3, A3), (.slice (some ⟨g2, 0, none⟩) n c2, A2), (.slice (some ⟨g1, 0, none⟩) n c1, A1)] [] W') :=
    Lib.hid fun W g15 c15 g14 c14 g13 c13 g12 c12 g11 c11 g10 c10 g9 c9 g8 c8 g7 c7 g6 c6 g5 c5 g4 c4 g3 c3 g2 c2 g1 c1 hS => by rw [e16]; exact (hS.timesL (va := .slice (some ⟨g2, 0, none⟩) n c2) (wa := .slice (some ⟨g1, 0, none⟩) n c1) (m1 := A2) (m2 := A1) hp2 hn1 hn2 (by simp) (by simp) (by omega)).mono fun _ _ he => by obtain ⟨vo, e1, h⟩ := he; obtain ⟨g, c, rfl⟩ := h.form List.mem_cons_self hn1; exact ⟨g, c, e1, h⟩
  have H17 : Hid (∀ (W : World) (g16 c16 g15 c15 g14 c14 g13 c13 g12 c12 g11 c11 g10 c10 g9 c9 g8 c8 g7 c7 g6 c6 g5 c5 g4 c4 g3 c3 g2 c2 g1 c1 : Nat), Wb w1 B p n ((((((((((((((((0 + n) + n) + n) + (1 + 9 * n)) + (1 + 9 * n)) + (1 + 9 * n)) + (1 + 9 * n)) + (1 + 9 * n)) + (1 + 9 * n)) + (1 + 9 * n)) + (n * (10 * n + 1))) + (n * (10 * n + 1))) + (n * (10 * n + 1))) + (1 + 9 * n)) + (n * (10 * n + 1))) + (n * (10 * n + 1))) [(.slice (some ⟨g16, 0, none⟩) n c16, A16), (.slice (some ⟨g15, 0, none⟩) n c15, A15), (.slice (some ⟨g14, 0, none⟩) n c14, A14), (.slice (some ⟨g13, 0, none⟩) n c13, A13), (.slice (some ⟨g12, 0, none⟩) n c12, A12), (.slice (some ⟨g11, 0, none⟩) n c11, A11), (.slice (some ⟨g10, 0, none⟩) n c10, A10), (.slice (some ⟨g9, 0, none⟩) n c9, A9), (.slice (some ⟨g8, 0, none⟩) n c8, A8), (.slice (some ⟨g7, 0, none⟩) n c7, A7), (.slice (some ⟨g6, 0, none⟩) n c6, A6), (.slice (some ⟨g5, 0, none⟩) n c5, A5), (.slice (some ⟨g4, 0, none⟩) n c4, A4), (.slice (some ⟨g3, 0, none⟩) n c3, A3), (.slice (some ⟨g2, 0, none⟩) n c2, A2), (.slice (some ⟨g1, 0, none⟩) n c1, A1)] [] W → Calls Try.prog 13 #[.pointer (some ⟨B, 0, none⟩), .slice (some ⟨g1, 0, none⟩) n c1, .slice (some ⟨g2, 0, none⟩) n c2] W fun e W' => ∃ g17 c17, e = .returned (.slice (some ⟨g17, 0, none⟩) n c17) ∧ Wb w1 B p n (((((((((((((((((0 + n) + n) + n) + (1 + 9 * n)) + (1 + 9 * n)) + (1 + 9 * n)) + (1 + 9 * n)) + (1 + 9 * n)) + (1 + 9 * n)) + (1 + 9 * n)) + (n * (10 * n + 1))) + (n * (10 * n + 1))) + (n * (10 * n + 1))) + (1 + 9 * n)) + (n * (10 * n + 1))) + (n * (10 * n + 1))) + (1 + 9 * n)) [(.slice (some ⟨g17, 0, none⟩) n c17, A17), (.slice (some ⟨g16, 0, none⟩) n c16, A16), (.slice (some ⟨g15, 0, none⟩) n c15, A15), (.slice (some ⟨g14, 0, none⟩) n c14, A14), (.slice (some ⟨g13, 0, none⟩) n c13, A13), (.slice (some ⟨g12, 0, none⟩) n c12, A12), (.slice (some ⟨g11, 0, none⟩) n c11, A11), (.slice (some ⟨g10, 0, none⟩) n c10, A10), (.slice (some ⟨g9, 0, none⟩) n c9, A9), (.slice (some ⟨g8, 0, none⟩) n c8, A8), (.slice (some ⟨g7, 0, none⟩) n c7, A7), (.slice (some ⟨g6, 0, none⟩) n c6, A6), (.slice (some ⟨g5, 0, none⟩) n c5, A5), (.slice (some ⟨g4, 0, none⟩) n c4, A4), (.slice (some ⟨g3, 0, none⟩) n c3, A3), (.slice (some ⟨g2, 0, none⟩) n c2, A2), (.slice (some ⟨g1, 0, none⟩) n c1, A1)] [] W') :=
    Lib.hid fun W g16 c16 g15 c15 g14 c14 g13 c13 g12 c12 g11 c11 g10 c10 g9 c9 g8 c8 g7 c7 g6 c6 g5 c5 g4 c4 g3 c3 g2 c2 g1 c1 hS => by rw [e17]; exact (hS.plusL (va := .slice (some ⟨g1, 0, none⟩) n c1) (wa := .slice (some ⟨g2, 0, none⟩) n c2) (m1 := A1) (m2 := A2) hp2 hn1 hn2 (by simp) (by simp) (by omega)).mono fun _ _ he => by obtain ⟨vo, e1, h⟩ := he; obtain ⟨g, c, rfl⟩ := h.form List.mem_cons_self hn1; exact ⟨g, c, e1, h⟩
  have H18 : Hid (∀ (W : World) (g17 c17 g16 c16 g15 c15 g14 c14 g13 c13 g12 c12 g11 c11 g10 c10 g9 c9 g8 c8 g7 c7 g6 c6 g5 c5 g4 c4 g3 c3 g2 c2 g1 c1 : Nat), Wb w1 B p n (((((((((((((((((0 + n) + n) + n) + (1 + 9 * n)) + (1 + 9 * n)) + (1 + 9 * n)) + (1 + 9 * n)) + (1 + 9 * n)) + (1 + 9 * n)) + (1 + 9 * n)) + (n * (10 * n + 1))) + (n * (10 * n + 1))) + (n * (10 * n + 1))) + (1 + 9 * n)) + (n * (10 * n + 1))) + (n * (10 * n + 1))) + (1 + 9 * n)) [(.slice (some ⟨g17, 0, none⟩) n c17, A17), (.slice (some ⟨g16, 0, none⟩) n c16, A16), (.slice (some ⟨g15, 0, none⟩) n c15, A15), (.slice (some ⟨g14, 0, none⟩) n c14, A14), (.slice (some ⟨g13, 0, none⟩) n c13, A13), (.slice (some ⟨g12, 0, none⟩) n c12, A12), (.slice (some ⟨g11, 0, none⟩) n c11, A11), (.slice (some ⟨g10, 0, none⟩) n c10, A10), (.slice (some ⟨g9, 0, none⟩) n c9, A9), (.slice (some ⟨g8, 0, none⟩) n c8, A8), (.slice (some ⟨g7, 0, none⟩) n c7, A7), (.slice (some ⟨g6, 0, none⟩) n c6, A6), (.slice (some ⟨g5, 0, none⟩) n c5, A5), (.slice (some ⟨g4, 0, none⟩) n c4, A4), (.slice (some ⟨g3, 0, none⟩) n c3, A3), (.slice (some ⟨g2, 0, none⟩) n c2, A2), (.slice (some ⟨g1, 0, none⟩) n c1, A1)] [] W → Calls Try.prog 15 #[.pointer (some ⟨B, 0, none⟩), .slice (some ⟨g17, 0, none⟩) n c17, .slice (some ⟨g2, 0, none⟩) n c2] W fun e W' => ∃ g18 c18, e = .returned (.slice (some ⟨g18, 0, none⟩) n c18) ∧ Wb w1 B p n N18 [(.slice (some ⟨g18, 0, none⟩) n c18, A18), (.slice (some ⟨g17, 0, none⟩) n c17, A17), (.slice (some ⟨g16, 0, none⟩) n c16, A16), (.slice (some ⟨g15, 0, none⟩) n c15, A15), (.slice (some ⟨g14, 0, none⟩) n c14, A14), (.slice (some ⟨g13, 0, none⟩) n c13, A13), (.slice (some ⟨g12, 0, none⟩) n c12, A12), (.slice (some ⟨g11, 0, none⟩) n c11, A11), (.slice (some ⟨g10, 0, none⟩) n c10, A10), (.slice (some ⟨g9, 0, none⟩) n c9, A9), (.slice (some ⟨g8, 0, none⟩) n c8, A8), (.slice (some ⟨g7, 0, none⟩) n c7, A7), (.slice (some ⟨g6, 0, none⟩) n c6, A6), (.slice (some ⟨g5, 0, none⟩) n c5, A5), (.slice (some ⟨g4, 0, none⟩) n c4, A4), (.slice (some ⟨g3, 0, none⟩) n c3, A3), (.slice (some ⟨g2, 0, none⟩) n c2, A2), (.slice (some ⟨g1, 0, none⟩) n c1, A1)] [] W') :=
    Lib.hid fun W g17 c17 g16 c16 g15 c15 g14 c14 g13 c13 g12 c12 g11 c11 g10 c10 g9 c9 g8 c8 g7 c7 g6 c6 g5 c5 g4 c4 g3 c3 g2 c2 g1 c1 hS => by rw [e18] ; rw [eN]; exact (hS.minusL (va := .slice (some ⟨g17, 0, none⟩) n c17) (wa := .slice (some ⟨g2, 0, none⟩) n c2) (m1 := A17) (m2 := A2) hp2 hn1 hn2 (by simp) (by simp) (by omega)).mono fun _ _ he => by obtain ⟨vo, e1, h⟩ := he; obtain ⟨g, c, rfl⟩ := h.form List.mem_cons_self hn1; exact ⟨g, c, e1, h⟩
  have HEN : Hid (N18 + 5 * (1 + 7 * n) + 2 * (3 + 11 * n) + (1 + 7 * n) ≤ 65536) := Lib.hid (by omega)
  have HEV : Hid (A4 = A5 ∧ A7 = A9 ∧ A11 = A14 ∧ A15 = A16 ∧ A18 = A1) := Lib.hid (ring_laws (Nat.two_pow_pos n) e1 e2 e3 e4 e5 e6 e7 e8 e9 e10 e11 e12 e13 e14 e15 e16 e17 e18)
  clear e1 e2 e3 e4 e5 e6 e7 e8 e9 e10 e11 e12 e13 e14 e15 e16 e17 e18 eN hSQ hbq hnk hP hnn hB hszq
  go_enter Try.func4, Try.ntmps4
  go_wp2_with (first | (go_at_call 6; refine HN.out.mono ?_; rintro e w0x ⟨rfl, hS⟩; have HS0 := Lib.hid hS; clear hS))
  have x0 : IntKind.u64.wrap ((q0 : Nat) : Int) = ((q0 : Nat) : Int) := by rw [IntKind.wrap_u64]; omega
  have x1 : IntKind.u64.wrap ((q1 : Nat) : Int) = ((q1 : Nat) : Int) := by rw [IntKind.wrap_u64]; omega
  have x2 : IntKind.u64.wrap ((q2 : Nat) : Int) = ((q2 : Nat) : Int) := by rw [IntKind.wrap_u64]; omega
  try rw [hkw]
  go_region_held3 (fun W => W.cell? ⟨w.heap.size, 0, none⟩ = some (.int .u16 ((q0 : Nat) : Int)) ∧ W.cell? ⟨w.heap.size, 1, none⟩ = some (.int .u16 ((q1 : Nat) : Int)) ∧ W.cell? ⟨w.heap.size, 2, none⟩ = some (.int .u16 ((q2 : Nat) : Int))) (with_reducible first | exact HSQ.out _ HS3.out.low | exact HSQ.out _ HS2.out.low | exact HSQ.out _ HS1.out.low | exact HSQ.out _ HS0.out.low | exact HSQ.out _ HS0.out.low.drew) (first | (go_at_call 12; with_reducible refine (H3.out _ _ _ _ _ (by with_reducible first | exact HS2.out | exact HS2.out.below (Below.refl _ _).drew)).mono ?_; rintro e w3x ⟨g3, c3, rfl, hS⟩; have HS3 := Lib.hid hS; clear hS) | (go_at_call 12; with_reducible refine (H2.out _ _ _ (by with_reducible first | exact HS1.out | exact HS1.out.below (Below.refl _ _).drew)).mono ?_; rintro e w2x ⟨g2, c2, rfl, hS⟩; have HS2 := Lib.hid hS; clear hS) | (go_at_call 12; with_reducible refine (H1.out _ (by with_reducible first | exact HS0.out | exact HS0.out.below (Below.refl _ _).drew)).mono ?_; rintro e w1x ⟨g1, c1, rfl, hS⟩; have HS1 := Lib.hid hS; clear hS))
  clear HSQ y0 y1 y2 x0 x1 x2 H1 H2 H3 HN HS0 HS1 HS2 h0 h1 h2
  go_upto_region 6 with fail
  go_cut [13] (fun s13 wx => ∃ (b g18 c18 g17 c17 g16 c16 g15 c15 g14 c14 g13 c13 g12 c12 g11 c11 g10 c10 g9 c9 g8 c8 g7 c7 g6 c6 g5 c5 g4 c4 : Nat), s13 = .slice (some ⟨b, 0, none⟩) 5 5 ∧ B < b ∧ wx.heap[b]? = some (.cells #[.slice (some ⟨g4, 0, none⟩) n c4, .slice (some ⟨g5, 0, none⟩) n c5, .slice (some ⟨g7, 0, none⟩) n c7, .slice (some ⟨g9, 0, none⟩) n c9, .slice (some ⟨g11, 0, none⟩) n c11, .slice (some ⟨g14, 0, none⟩) n c14, .slice (some ⟨g15, 0, none⟩) n c15, .slice (some ⟨g16, 0, none⟩) n c16, .slice (some ⟨g18, 0, none⟩) n c18, .slice (some ⟨g1, 0, none⟩) n c1] 47 (0, 0)) ∧ Wb w1 B p n N18 [(.slice (some ⟨g18, 0, none⟩) n c18, A18), (.slice (some ⟨g17, 0, none⟩) n c17, A17), (.slice (some ⟨g16, 0, none⟩) n c16, A16), (.slice (some ⟨g15, 0, none⟩) n c15, A15), (.slice (some ⟨g14, 0, none⟩) n c14, A14), (.slice (some ⟨g13, 0, none⟩) n c13, A13), (.slice (some ⟨g12, 0, none⟩) n c12, A12), (.slice (some ⟨g11, 0, none⟩) n c11, A11), (.slice (some ⟨g10, 0, none⟩) n c10, A10), (.slice (some ⟨g9, 0, none⟩) n c9, A9), (.slice (some ⟨g8, 0, none⟩) n c8, A8), (.slice (some ⟨g7, 0, none⟩) n c7, A7), (.slice (some ⟨g6, 0, none⟩) n c6, A6), (.slice (some ⟨g5, 0, none⟩) n c5, A5), (.slice (some ⟨g4, 0, none⟩) n c4, A4), (.slice (some ⟨g3, 0, none⟩) n c3, A3), (.slice (some ⟨g2, 0, none⟩) n c2, A2), (.slice (some ⟨g1, 0, none⟩) n c1, A1)] [] wx)
  case first =>
    go_wp2_with (first | (go_at_call 15; with_reducible refine (H18.out _ _ _ _ _ _ _ _ _ _ _ _ _ _ _ _ _ _ _ _ _ _ _ _ _ _ _ _ _ _ _ _ _ _ _ (by with_reducible first | exact HS17.out | exact HS17.out.below (Below.refl _ _).drew)).mono ?_; rintro e w18x ⟨g18, c18, rfl, hS⟩; have HS18 := Lib.hid hS; clear hS) | (go_at_call 13; with_reducible refine (H17.out _ _ _ _ _ _ _ _ _ _ _ _ _ _ _ _ _ _ _ _ _ _ _ _ _ _ _ _ _ _ _ _ _ (by with_reducible first | exact HS16.out | exact HS16.out.below (Below.refl _ _).drew)).mono ?_; rintro e w17x ⟨g17, c17, rfl, hS⟩; have HS17 := Lib.hid hS; clear hS) | (go_at_call 14; with_reducible refine (H16.out _ _ _ _ _ _ _ _ _ _ _ _ _ _ _ _ _ _ _ _ _ _ _ _ _ _ _ _ _ _ _ (by with_reducible first | exact HS15.out | exact HS15.out.below (Below.refl _ _).drew)).mono ?_; rintro e w16x ⟨g16, c16, rfl, hS⟩; have HS16 := Lib.hid hS; clear hS) | (go_at_call 14; with_reducible refine (H15.out _ _ _ _ _ _ _ _ _ _ _ _ _ _ _ _ _ _ _ _ _ _ _ _ _ _ _ _ _ (by with_reducible first | exact HS14.out | exact HS14.out.below (Below.refl _ _).drew)).mono ?_; rintro e w15x ⟨g15, c15, rfl, hS⟩; have HS15 := Lib.hid hS; clear hS) | (go_at_call 13; with_reducible refine (H14.out _ _ _ _ _ _ _ _ _ _ _ _ _ _ _ _ _ _ _ _ _ _ _ _ _ _ _ (by with_reducible first | exact HS13.out | exact HS13.out.below (Below.refl _ _).drew)).mono ?_; rintro e w14x ⟨g14, c14, rfl, hS⟩; have HS14 := Lib.hid hS; clear hS) | (go_at_call 14; with_reducible refine (H13.out _ _ _ _ _ _ _ _ _ _ _ _ _ _ _ _ _ _ _ _ _ _ _ _ _ (by with_reducible first | exact HS12.out | exact HS12.out.below (Below.refl _ _).drew)).mono ?_; rintro e w13x ⟨g13, c13, rfl, hS⟩; have HS13 := Lib.hid hS; clear hS) | (go_at_call 14; with_reducible refine (H12.out _ _ _ _ _ _ _ _ _ _ _ _ _ _ _ _ _ _ _ _ _ _ _ (by with_reducible first | exact HS11.out | exact HS11.out.below (Below.refl _ _).drew)).mono ?_; rintro e w12x ⟨g12, c12, rfl, hS⟩; have HS12 := Lib.hid hS; clear hS) | (go_at_call 14; with_reducible refine (H11.out _ _ _ _ _ _ _ _ _ _ _ _ _ _ _ _ _ _ _ _ _ (by with_reducible first | exact HS10.out | exact HS10.out.below (Below.refl _ _).drew)).mono ?_; rintro e w11x ⟨g11, c11, rfl, hS⟩; have HS11 := Lib.hid hS; clear hS) | (go_at_call 13; with_reducible refine (H10.out _ _ _ _ _ _ _ _ _ _ _ _ _ _ _ _ _ _ _ (by with_reducible first | exact HS9.out | exact HS9.out.below (Below.refl _ _).drew)).mono ?_; rintro e w10x ⟨g10, c10, rfl, hS⟩; have HS10 := Lib.hid hS; clear hS) | (go_at_call 13; with_reducible refine (H9.out _ _ _ _ _ _ _ _ _ _ _ _ _ _ _ _ _ (by with_reducible first | exact HS8.out | exact HS8.out.below (Below.refl _ _).drew)).mono ?_; rintro e w9x ⟨g9, c9, rfl, hS⟩; have HS9 := Lib.hid hS; clear hS) | (go_at_call 13; with_reducible refine (H8.out _ _ _ _ _ _ _ _ _ _ _ _ _ _ _ (by with_reducible first | exact HS7.out | exact HS7.out.below (Below.refl _ _).drew)).mono ?_; rintro e w8x ⟨g8, c8, rfl, hS⟩; have HS8 := Lib.hid hS; clear hS) | (go_at_call 13; with_reducible refine (H7.out _ _ _ _ _ _ _ _ _ _ _ _ _ (by with_reducible first | exact HS6.out | exact HS6.out.below (Below.refl _ _).drew)).mono ?_; rintro e w7x ⟨g7, c7, rfl, hS⟩; have HS7 := Lib.hid hS; clear hS) | (go_at_call 13; with_reducible refine (H6.out _ _ _ _ _ _ _ _ _ _ _ (by with_reducible first | exact HS5.out | exact HS5.out.below (Below.refl _ _).drew)).mono ?_; rintro e w6x ⟨g6, c6, rfl, hS⟩; have HS6 := Lib.hid hS; clear hS) | (go_at_call 13; with_reducible refine (H5.out _ _ _ _ _ _ _ _ _ (by with_reducible first | exact HS4.out | exact HS4.out.below (Below.refl _ _).drew)).mono ?_; rintro e w5x ⟨g5, c5, rfl, hS⟩; have HS5 := Lib.hid hS; clear hS) | (go_at_call 13; with_reducible refine (H4.out _ _ _ _ _ _ _ (by with_reducible first | exact HS3.out | exact HS3.out.below (Below.refl _ _).drew)).mono ?_; rintro e w4x ⟨g4, c4, rfl, hS⟩; have HS4 := Lib.hid hS; clear hS))
    go_meet
    exact ⟨_, _, _, _, _, _, _, _, _, _, _, _, _, _, _, _, _, _, _, _, _, _, _, _, _, _, _, _, _, _, _, rfl, HS18.out.lt, heap_alloc_new _ _, HS18.out.below ((Below.refl _ _).alloc (Nat.le_refl _) _)⟩
  case rest =>
  obtain ⟨b, g18, c18, g17, c17, g16, c16, g15, c15, g14, c14, g13, c13, g12, c12, g11, c11, g10, c10, g9, c9, g8, c8, g7, c7, g6, c6, g5, c5, g4, c4, rfl, hbB, hbx, hS⟩ := hcut
  obtain ⟨pd, hpd⟩ : ∃ pd : Addr, pd = ⟨b, 0, none⟩ := ⟨_, rfl⟩
  rw [← hpd]
  have HWL := Lib.hid hS.start
  have hblt : b < wc.heap.size := (Array.getElem?_eq_some_iff.1 hbx).1
  have HLOW := Lib.hid hS.low
  have HBX := Lib.hid hbx
  have HRD : Hid (∀ W : World, W.heap[b]? = some (.cells #[.slice (some ⟨g4, 0, none⟩) n c4, .slice (some ⟨g5, 0, none⟩) n c5, .slice (some ⟨g7, 0, none⟩) n c7, .slice (some ⟨g9, 0, none⟩) n c9, .slice (some ⟨g11, 0, none⟩) n c11, .slice (some ⟨g14, 0, none⟩) n c14, .slice (some ⟨g15, 0, none⟩) n c15, .slice (some ⟨g16, 0, none⟩) n c16, .slice (some ⟨g18, 0, none⟩) n c18, .slice (some ⟨g1, 0, none⟩) n c1] 47 (0, 0)) → Reads W (some pd) (([(.slice (some ⟨g4, 0, none⟩) n c4, .slice (some ⟨g5, 0, none⟩) n c5), (.slice (some ⟨g7, 0, none⟩) n c7, .slice (some ⟨g9, 0, none⟩) n c9), (.slice (some ⟨g11, 0, none⟩) n c11, .slice (some ⟨g14, 0, none⟩) n c14), (.slice (some ⟨g15, 0, none⟩) n c15, .slice (some ⟨g16, 0, none⟩) n c16), (.slice (some ⟨g18, 0, none⟩) n c18, .slice (some ⟨g1, 0, none⟩) n c1)] : List (Value × Value)).flatMap fun x => [x.1, x.2])) := Lib.hid fun W h => .inr ⟨pd, rfl, by
    subst hpd
    intro j u hj
    simp only [List.flatMap_cons, List.flatMap_nil, List.cons_append, List.nil_append, List.append_nil] at hj
    have hj2 : j < 10 := by have := (List.getElem?_eq_some_iff.1 hj).1; simpa using this
    have hc : j = 0 ∨ j = 1 ∨ j = 2 ∨ j = 3 ∨ j = 4 ∨ j = 5 ∨ j = 6 ∨ j = 7 ∨ j = 8 ∨ j = 9 := by omega
    rcases hc with rfl | rfl | rfl | rfl | rfl | rfl | rfl | rfl | rfl | rfl <;> (simp at hj; subst hj; simp [World.cell?, Addr.add, h])⟩
  have HPP : Hid (∀ x ∈ ([(.slice (some ⟨g4, 0, none⟩) n c4, .slice (some ⟨g5, 0, none⟩) n c5), (.slice (some ⟨g7, 0, none⟩) n c7, .slice (some ⟨g9, 0, none⟩) n c9), (.slice (some ⟨g11, 0, none⟩) n c11, .slice (some ⟨g14, 0, none⟩) n c14), (.slice (some ⟨g15, 0, none⟩) n c15, .slice (some ⟨g16, 0, none⟩) n c16), (.slice (some ⟨g18, 0, none⟩) n c18, .slice (some ⟨g1, 0, none⟩) n c1)] : List (Value × Value)), ∃ ga ca gb cb m, x = ((.slice (some ⟨ga, 0, none⟩) n ca : Value), (.slice (some ⟨gb, 0, none⟩) n cb : Value)) ∧ (x.1, m) ∈ ([(.slice (some ⟨g18, 0, none⟩) n c18, A18), (.slice (some ⟨g17, 0, none⟩) n c17, A17), (.slice (some ⟨g16, 0, none⟩) n c16, A16), (.slice (some ⟨g15, 0, none⟩) n c15, A15), (.slice (some ⟨g14, 0, none⟩) n c14, A14), (.slice (some ⟨g13, 0, none⟩) n c13, A13), (.slice (some ⟨g12, 0, none⟩) n c12, A12), (.slice (some ⟨g11, 0, none⟩) n c11, A11), (.slice (some ⟨g10, 0, none⟩) n c10, A10), (.slice (some ⟨g9, 0, none⟩) n c9, A9), (.slice (some ⟨g8, 0, none⟩) n c8, A8), (.slice (some ⟨g7, 0, none⟩) n c7, A7), (.slice (some ⟨g6, 0, none⟩) n c6, A6), (.slice (some ⟨g5, 0, none⟩) n c5, A5), (.slice (some ⟨g4, 0, none⟩) n c4, A4), (.slice (some ⟨g3, 0, none⟩) n c3, A3), (.slice (some ⟨g2, 0, none⟩) n c2, A2), (.slice (some ⟨g1, 0, none⟩) n c1, A1)] : List (Value × Nat)) ∧ (x.2, m) ∈ ([(.slice (some ⟨g18, 0, none⟩) n c18, A18), (.slice (some ⟨g17, 0, none⟩) n c17, A17), (.slice (some ⟨g16, 0, none⟩) n c16, A16), (.slice (some ⟨g15, 0, none⟩) n c15, A15), (.slice (some ⟨g14, 0, none⟩) n c14, A14), (.slice (some ⟨g13, 0, none⟩) n c13, A13), (.slice (some ⟨g12, 0, none⟩) n c12, A12), (.slice (some ⟨g11, 0, none⟩) n c11, A11), (.slice (some ⟨g10, 0, none⟩) n c10, A10), (.slice (some ⟨g9, 0, none⟩) n c9, A9), (.slice (some ⟨g8, 0, none⟩) n c8, A8), (.slice (some ⟨g7, 0, none⟩) n c7, A7), (.slice (some ⟨g6, 0, none⟩) n c6, A6), (.slice (some ⟨g5, 0, none⟩) n c5, A5), (.slice (some ⟨g4, 0, none⟩) n c4, A4), (.slice (some ⟨g3, 0, none⟩) n c3, A3), (.slice (some ⟨g2, 0, none⟩) n c2, A2), (.slice (some ⟨g1, 0, none⟩) n c1, A1)] : List (Value × Nat))) := Lib.hid (by
    obtain ⟨E0, E1, E2, E3, E4⟩ := HEV.out
    intro x hx
    simp only [List.mem_cons, List.not_mem_nil, or_false] at hx
    rcases hx with rfl | rfl | rfl | rfl | rfl
    · exact ⟨_, _, _, _, A4, rfl, by simp, by rw [E0]; simp⟩
    · exact ⟨_, _, _, _, A7, rfl, by simp, by rw [E1]; simp⟩
    · exact ⟨_, _, _, _, A11, rfl, by simp, by rw [E2]; simp⟩
    · exact ⟨_, _, _, _, A15, rfl, by simp, by rw [E3]; simp⟩
    · exact ⟨_, _, _, _, A18, rfl, by simp, by rw [E4]; simp⟩
  )
  obtain ⟨PL, hPL⟩ : ∃ l, l = ([(.slice (some ⟨g4, 0, none⟩) n c4, .slice (some ⟨g5, 0, none⟩) n c5), (.slice (some ⟨g7, 0, none⟩) n c7, .slice (some ⟨g9, 0, none⟩) n c9), (.slice (some ⟨g11, 0, none⟩) n c11, .slice (some ⟨g14, 0, none⟩) n c14), (.slice (some ⟨g15, 0, none⟩) n c15, .slice (some ⟨g16, 0, none⟩) n c16), (.slice (some ⟨g18, 0, none⟩) n c18, .slice (some ⟨g1, 0, none⟩) n c1)] : List (Value × Value)) := ⟨_, rfl⟩
  obtain ⟨RW, hRW⟩ : ∃ l, l = ([(.slice (some ⟨g18, 0, none⟩) n c18, A18), (.slice (some ⟨g17, 0, none⟩) n c17, A17), (.slice (some ⟨g16, 0, none⟩) n c16, A16), (.slice (some ⟨g15, 0, none⟩) n c15, A15), (.slice (some ⟨g14, 0, none⟩) n c14, A14), (.slice (some ⟨g13, 0, none⟩) n c13, A13), (.slice (some ⟨g12, 0, none⟩) n c12, A12), (.slice (some ⟨g11, 0, none⟩) n c11, A11), (.slice (some ⟨g10, 0, none⟩) n c10, A10), (.slice (some ⟨g9, 0, none⟩) n c9, A9), (.slice (some ⟨g8, 0, none⟩) n c8, A8), (.slice (some ⟨g7, 0, none⟩) n c7, A7), (.slice (some ⟨g6, 0, none⟩) n c6, A6), (.slice (some ⟨g5, 0, none⟩) n c5, A5), (.slice (some ⟨g4, 0, none⟩) n c4, A4), (.slice (some ⟨g3, 0, none⟩) n c3, A3), (.slice (some ⟨g2, 0, none⟩) n c2, A2), (.slice (some ⟨g1, 0, none⟩) n c1, A1)] : List (Value × Nat)) := ⟨_, rfl⟩
  obtain ⟨BX, hBX⟩ : ∃ o, o = (Obj.cells #[.slice (some ⟨g4, 0, none⟩) n c4, .slice (some ⟨g5, 0, none⟩) n c5, .slice (some ⟨g7, 0, none⟩) n c7, .slice (some ⟨g9, 0, none⟩) n c9, .slice (some ⟨g11, 0, none⟩) n c11, .slice (some ⟨g14, 0, none⟩) n c14, .slice (some ⟨g15, 0, none⟩) n c15, .slice (some ⟨g16, 0, none⟩) n c16, .slice (some ⟨g18, 0, none⟩) n c18, .slice (some ⟨g1, 0, none⟩) n c1] 47 (0, 0)) := ⟨_, rfl⟩
  have hr1 : (.slice (some ⟨g1, 0, none⟩) n c1, A1) ∈ RW := by rw [hRW]; simp
  have hr2 : (.slice (some ⟨g2, 0, none⟩) n c2, A2) ∈ RW := by rw [hRW]; simp
  have hl5 : PL.length = 5 := by rw [hPL]; rfl
  rw [← hPL, ← hBX] at HRD
  rw [← hPL, ← hRW] at HPP
  rw [← hRW] at HWL
  rw [← hBX] at HBX
  clear hPL hRW hS hbx HS3 H4 H5 H6 H7 H8 H9 H10 H11 H12 H13 H14 H15 H16 H17 H18
  have HFR : Hid (∀ (W W' : World), (∀ b cs, b ≠ B → W.heap[b]? = some (.cells cs 47 (0, 0)) → W'.heap[b]? = some (.cells cs 47 (0, 0))) → W.heap[b]? = some BX → W'.heap[b]? = some BX) := Lib.hid fun W W' h1 h2 => by rw [hBX] at h2 ⊢; exact h1 b _ (by omega) h2
  clear hBX hpd
  go_wp2
  go_loopg [14, 122] 5 (fun g s' i' wr => ∃ (j : Nat) (ls : List Nat) (bs : List (Nat × Nat)) (v : Value), j ≤ 5 ∧ g = 5 - j ∧ v = s' ∧ i' = .int .i64 j ∧ ls.length = j ∧ Hid (∀ i ∈ ls, (i, 1) ∈ bs) ∧ Hid (Wl wc B p n (N18 + j * (1 + 7 * n)) RW bs v ls wr) ∧ Hid (wr.heap[b]? = some BX))
  case atStart => exact ⟨0, [], [], nilS, by omega, rfl, rfl, rfl, rfl, Lib.hid (by simp), Lib.hid (by have := HWL.out; rwa [show N18 + 0 * (1 + 7 * n) = N18 by omega]), HBX⟩
  case round =>
    obtain ⟨j, ls, bs, v, hj, rfl, rfl, rfl, hlen, HLS, HW, HBXj⟩ := hrel
    by_cases hlt : j < 5
    · obtain ⟨q0, q1⟩ := pair_at (HRD.out wr HBXj.out) j (by omega)
      obtain ⟨ga, ca, gb, cb, m, ex, hm1, hm2⟩ := HPP.out (PL[j]'(by omega)) (List.getElem_mem _)
      rw [ex] at q0 q1 hm1 hm2
      simp only at q0 q1 hm1 hm2
      have i1 : (0 : Int) ≤ (j : Int) := by omega
      have i2 : (j : Int) < 5 := by omega
      have hNj : N18 + j * (1 + 7 * n) + (1 + 7 * n) ≤ 65536 := by
        have t1 := HEN.out
        have t2 : (j + 1) * (1 + 7 * n) ≤ 5 * (1 + 7 * n) := Nat.mul_le_mul_right _ (by omega)
        rw [Nat.succ_mul] at t2
        omega
      have HSM : Hid (∀ W, Wl wc B p n (N18 + j * (1 + 7 * n)) RW bs v ls W → Calls Try.prog 16 #[.pointer (some ⟨B, 0, none⟩), .slice (some ⟨ga, 0, none⟩) n ca, .slice (some ⟨gb, 0, none⟩) n cb] W fun e W' => ∃ i : Nat, e = .returned (.tuple #[.int .i64 ((i : Nat) : Int), .int .i64 0]) ∧ Wl wc B p n (N18 + j * (1 + 7 * n) + (1 + 7 * n)) RW ((i, if m = m then 1 else 0) :: bs) v ls W' ∧ ∀ b cs, b ≠ B → W.heap[b]? = some (.cells cs 47 (0, 0)) → W'.heap[b]? = some (.cells cs 47 (0, 0))) := Lib.hid fun W h => h.same hp2 hn1 hn2 hm1 hm2 hNj
      clear ex hm1 hm2 hNj
      have hbl : b < wr.heap.size := (Array.getElem?_eq_some_iff.1 HBXj.out).1
      go_wp2_with (first
        | (go_at_call 16; with_reducible refine (HSM.out _ (HW.out.below ((Below.refl _ _).alloc (Nat.le_refl _) _))).mono ?_; rintro e ws ⟨i, rfl, hW1, hfr⟩; have HO1 := Lib.hid hW1.own; have HZ1 := Lib.hid hW1.low.size; have HW1 := Lib.hid hW1; have HB1 := Lib.hid (HFR.out _ _ hfr (by rw [Below.heap_alloc _ _ _ hbl]; exact HBXj.out)); clear hW1 hfr)
        | (at_builtin; refine list_append_own (W0 := ws) (below_snoc (Below.refl _ _) _) wc.heap.size rfl _ _ 44 3 _ 8 rfl Try.underlying44 infoInt rfl (by decide) v ls.length _ (.int .i64 ((i : Nat) : Int)) rfl _ rfl (by simp) rfl HO1.out HZ1.out (by omega) ?_; intro v9 w9 hown9 hg9; have HW9 := Lib.hid (HW1.out.app hown9 hg9); have HB9 := Lib.hid ((hg9.block b (Array.getElem?_eq_some_iff.1 HB1.out).1 (own_past HO1.out hblt)).trans HB1.out); clear hown9 hg9))
      go_roundg (5 - (j + 1))
      case measure => omega
      case rel =>
        refine ⟨j + 1, ls ++ [i], _, v9, by omega, rfl, rfl, by go_num, by simp [hlen], Lib.hid ?_, Lib.hid (?_ : Wl wc B p n (N18 + (j + 1) * (1 + 7 * n)) RW ((i, 1) :: bs) v9 (ls ++ [i]) _), HB9⟩
        · intro x hx
          rcases List.mem_append.1 hx with hx | hx
          · exact List.mem_cons_of_mem _ (HLS.out x hx)
          · rw [List.mem_singleton.1 hx]; exact List.mem_cons_self
        · have t := HW9.out
          rw [if_pos True.intro] at t
          have e : N18 + j * (1 + 7 * n) + (1 + 7 * n) = N18 + (j + 1) * (1 + 7 * n) := by rw [Nat.add_mul, Nat.one_mul, Nat.add_assoc]
          rwa [e] at t
    · obtain rfl : j = 5 := by omega
      have hls := HLS.out
      obtain ⟨N5, hN5⟩ : ∃ N, N = N18 + 5 * (1 + 7 * n) := ⟨_, rfl⟩
      rw [← hN5] at HW
      have b1 : N5 + (3 + 11 * n) ≤ 65536 := by have := HEN.out; omega
      have b2 : N5 + (3 + 11 * n) + (3 + 11 * n) ≤ 65536 := by have := HEN.out; omega
      have b3 : N5 + (3 + 11 * n) + (3 + 11 * n) + (1 + 7 * n) ≤ 65536 := by have := HEN.out; omega
      have HL1 : Hid (∀ W, Wl wc B p n N5 RW bs v ls W → Calls Try.prog 17 #[.pointer (some ⟨B, 0, none⟩), .slice (some ⟨g1, 0, none⟩) n c1, .slice (some ⟨g2, 0, none⟩) n c2] W fun e W' => ∃ i1 : Nat, e = .returned (.tuple #[.int .i64 ((i1 : Nat) : Int), .int .i64 0]) ∧ Wl wc B p n (N5 + (3 + 11 * n)) RW ((i1, if A1 < A2 then 1 else 0) :: bs) v ls W') := Lib.hid fun W h => h.less hp2 hn1 hn2 hr1 hr2 b1
      have HL2 : Hid (∀ W i1, Wl wc B p n (N5 + (3 + 11 * n)) RW ((i1, if A1 < A2 then 1 else 0) :: bs) v ls W → Calls Try.prog 17 #[.pointer (some ⟨B, 0, none⟩), .slice (some ⟨g2, 0, none⟩) n c2, .slice (some ⟨g1, 0, none⟩) n c1] W fun e W' => ∃ i2 : Nat, e = .returned (.tuple #[.int .i64 ((i2 : Nat) : Int), .int .i64 0]) ∧ Wl wc B p n (N5 + (3 + 11 * n) + (3 + 11 * n)) RW ((i2, if A2 < A1 then 1 else 0) :: (i1, if A1 < A2 then 1 else 0) :: bs) v ls W') := Lib.hid fun W i1 h => h.less hp2 hn1 hn2 hr2 hr1 b2
      have HL3 : Hid (∀ W i1 i2, Wl wc B p n (N5 + (3 + 11 * n) + (3 + 11 * n)) RW ((i2, if A2 < A1 then 1 else 0) :: (i1, if A1 < A2 then 1 else 0) :: bs) v ls W → Calls Try.prog 16 #[.pointer (some ⟨B, 0, none⟩), .slice (some ⟨g1, 0, none⟩) n c1, .slice (some ⟨g2, 0, none⟩) n c2] W fun e W' => ∃ i3 : Nat, e = .returned (.tuple #[.int .i64 ((i3 : Nat) : Int), .int .i64 0]) ∧ Wl wc B p n (N5 + (3 + 11 * n) + (3 + 11 * n) + (1 + 7 * n)) RW ((i3, if A1 = A2 then 1 else 0) :: (i2, if A2 < A1 then 1 else 0) :: (i1, if A1 < A2 then 1 else 0) :: bs) v ls W') := Lib.hid fun W i1 i2 h => (h.same hp2 hn1 hn2 hr1 hr2 b3).mono fun _ _ he => by obtain ⟨i3, e1, h1, _⟩ := he; exact ⟨i3, e1, h1⟩
      have hp0 : 0 < p := by omega
      have HQ : Hid (∀ W i1 i2 i3, Wl wc B p n (N5 + (3 + 11 * n) + (3 + 11 * n) + (1 + 7 * n)) RW ((i3, if A1 = A2 then 1 else 0) :: (i2, if A2 < A1 then 1 else 0) :: (i1, if A1 < A2 then 1 else 0) :: bs) v ls W → Calls Try.prog 10 #[.pointer (some ⟨B, 0, none⟩)] W fun e W' => _) := Lib.hid fun W i1 i2 i3 h => Wl.circuit hp0 h b3
      have HO0 := Lib.hid HW.out.own
      clear b1 b2 hN5
      go_wp2_with (first
        | (go_at_call 10; with_reducible refine (HQ.out _ _ _ _ HK3.out).mono ?_; rintro e w4 ⟨G, S, Ga, sc, gc, rfl, hC, hGN, hF, hbs, hb⟩; have HC := Lib.hid hC; have HF := Lib.hid hF; have HBS := Lib.hid hbs; have HGN := Lib.hid hGN; have HOv := Lib.hid (own_below HK3.out.own hb); have HLv := Lib.hid (HK3.out.low.trans (hb.mono (Nat.le_trans (Nat.le_of_lt hbB) (Nat.le_trans (Nat.le_of_lt hblt) HK3.out.low.size)))); clear hC hGN hF hbs hb)
        | (go_at_call 16; with_reducible refine (HL3.out _ _ _ HK2.out).mono ?_; rintro e w3 ⟨i3, rfl, hK⟩; have HK3 := Lib.hid hK; clear hK)
        | (go_at_call 17; with_reducible refine (HL2.out _ _ HK1.out).mono ?_; rintro e w2 ⟨i2, rfl, hK⟩; have HK2 := Lib.hid hK; clear hK)
        | (go_at_call 17; with_reducible refine (HL1.out _ HW.out).mono ?_; rintro e w1 ⟨i1, rfl, hK⟩; have HK1 := Lib.hid hK; clear hK))
      have hov := HOv.out
      rw [hlen] at hov
      obtain ⟨gs, cs, rfl, _, _⟩ := own_form hov (by omega)
      have hbW : Below w4.heap.size w4 (w4.alloc (.cells #[.slice S 0 sc, .slice Ga G.length gc, nilS] 39)) := (Below.refl _ _).alloc (Nat.le_refl _) _
      have hbx5 := heap_alloc_new w4 (.cells #[.slice S 0 sc, .slice Ga G.length gc, nilS] 39)
      have hB4 : B ≤ w4.heap.size := Nat.le_trans (Nat.le_of_lt hbB) (Nat.le_trans (Nat.le_of_lt hblt) HLv.out.size)
      generalize hw5 : w4.alloc (.cells #[.slice S 0 sc, .slice Ga G.length gc, nilS] 39) = w5 at *
      have RS := Lib.hid (own_reads_at (own_below hov hbW))
      have HC5 := Lib.hid (HC.out.below hbW)
      have HL5 := Lib.hid (HLv.out.trans (hbW.mono hB4))
      obtain ⟨c0, c1, c2, f0, f1, f2⟩ := box_facts hbx5
      have l4 : w4.heap.size < w5.heap.size := (Array.getElem?_eq_some_iff.1 hbx5).1
      have HCE : Hid (∀ W, Below w5.heap.size w5 W → (fun W => W.cell? ⟨w4.heap.size, 0, none⟩ = some (.slice S 0 sc) ∧ W.cell? ⟨w4.heap.size, 1, none⟩ = some (.slice Ga G.length gc) ∧ W.cell? ⟨w4.heap.size, 2, none⟩ = some nilS) W) := Lib.hid fun W hb => ⟨(hb.cell l4).trans c0, (hb.cell l4).trans c1, (hb.cell l4).trans c2⟩
      have hGl : G.length ≤ 65536 := Nat.le_trans HGN.out b3
      have HCK : Hid (∀ W, Below w5.heap.size w5 W → Calls Try.prog 18 #[.int .u64 p, .agg #[.slice S 0 sc, .slice Ga G.length gc, nilS]] W fun e W' => e = .returned (.int .i64 0) ∧ Below w5.heap.size w5 W') :=
        Lib.hid fun W hb => (rcheck_any p hp ⟨[], G, [], S, Ga, none, sc, gc, 0⟩ W (HC5.out.below hb)).mono fun _ _ he => by
          obtain ⟨e1, e2⟩ := he
          rw [check_fit HP.out hGl HF.out] at e1
          exact ⟨e1, hb.trans (e2.mono hb.size)⟩
      have HPL : Hid (∀ W A c, Below w5.heap.size w5 W → Reads W A (nCells (i1 :: i2 :: i3 :: ls)) → Calls Try.prog 19 #[.agg #[.slice S 0 sc, .slice Ga G.length gc, nilS], .slice A 8 c] W fun e W' => e = .returned (.int .i64 0) ∧ Below w5.heap.size w5 W') :=
        Lib.hid fun W A c hb hA => (places_ok S Ga none 0 sc G.length gc 0 0 (i1 :: i2 :: i3 :: ls) A c 8 (by simp [hlen]) (by decide) (by
          intro x hx
          simp only [List.mem_cons] at hx
          rcases hx with rfl | rfl | rfl | hx
          · exact (HBS.out (x, _) (List.mem_cons_of_mem _ (List.mem_cons_of_mem _ List.mem_cons_self))).1
          · exact (HBS.out (x, _) (List.mem_cons_of_mem _ List.mem_cons_self)).1
          · exact (HBS.out (x, _) List.mem_cons_self).1
          · exact (HBS.out (x, 1) (List.mem_cons_of_mem _ (List.mem_cons_of_mem _ (List.mem_cons_of_mem _ (hls x hx))))).1) W hA).mono fun _ _ he => ⟨he.1, hb.trans (he.2.mono hb.size)⟩
      clear hov hbW hbx5 hw5 HC HK1 HK2 HK3 HL1 HL2 HL3 HQ HW HWL HRD HPP HFR HBX HOv HLv HO0
      go_region_held3 (fun W => W.cell? ⟨w4.heap.size, 0, none⟩ = some (.slice S 0 sc) ∧ W.cell? ⟨w4.heap.size, 1, none⟩ = some (.slice Ga G.length gc) ∧ W.cell? ⟨w4.heap.size, 2, none⟩ = some nilS) (first | exact HCE.out _ (Below.refl _ _).drew | exact HCE.out _ HBp.out | exact HCE.out _ HB3.out | exact HCE.out _ (HBk.out.alloc HBk.out.size _) | exact HCE.out _ HBk.out) (first
        | (go_at_call 18; refine (HCK.out _ (Below.refl _ _).drew).mono ?_; rintro e wk ⟨rfl, hb⟩; have HBk := Lib.hid hb; clear hb)
        | (go_at_call 19; refine (HPL.out _ _ _ HB3.out HR3.out).mono ?_; rintro e wp ⟨rfl, hb⟩; have HBp := Lib.hid hb; clear hb)
        | (refine step_app_slice wk.heap.size (by rfl) _ _ 44 3 _ 8 rfl Try.underlying44 infoInt rfl (by decide) _ 3 [.int .i64 ((i1 : Nat) : Int), .int .i64 ((i2 : Nat) : Int), .int .i64 ((i3 : Nat) : Int)] (nCells ls) rfl ⟨gs, 0, none⟩ 5 cs rfl (by unfold nCells; rw [List.length_map]; exact hlen) (reads_get RS.out (HBk.out.alloc HBk.out.size _)) (one_nat _) (own_fresh3 wk _ _ _ _) (by simp) (by decide) ?_; intro va1 wa1 hown hg; have hown' : wa1.ownsRow wk.heap.size 3 1 va1 8 (nCells (i1 :: i2 :: i3 :: ls)) := (by simpa [nCells] using hown); obtain ⟨A3, ca3, rfl, hrd⟩ := own_nat hown'; have HR3 := Lib.hid hrd; have HB3 := Lib.hid ((HBk.out.alloc HBk.out.size (.cells #[.int .i64 ((i1 : Nat) : Int), .int .i64 ((i2 : Nat) : Int), .int .i64 ((i3 : Nat) : Int)] 3)).grown hg (by have h5 := HBk.out.size; simp; omega) (fun q hq => by cases hq; exact HBk.out.size)); clear hown hown' hg hrd))
      obtain ⟨c0, c1, c2⟩ := HCE.out wp HBp.out
      have hG0 : i3 < G.length := (HBS.out (i3, _) List.mem_cons_self).1
      have hVL : (valsL p [] G).length = G.length := vals_len p G
      have HVV : Hid (Calls Try.prog 20 #[.int .u64 p, .agg #[.slice S 0 sc, .slice Ga G.length gc, nilS], .slice none 0 0] wp fun e W' => ∃ vad vc, e = .returned (.slice (some vad) G.length vc) ∧ Reads W' (some vad) (uCells (valsL p [] G)) ∧ Below w5.heap.size w5 W') :=
        Lib.hid ((rvalues_any p (by omega) ((isP_iff p).1 HP.out).2.1 ⟨[], G, [], S, Ga, none, sc, gc, 0⟩ [] rfl HF.out hGl none 0 wp (HC5.out.below HBp.out) (.inl rfl)).mono fun _ _ he => by
          obtain ⟨v, e1, h2, h3⟩ := he
          obtain ⟨g, c, rfl, _, _⟩ := own_form h2 (by simp only; omega)
          exact ⟨_, c, e1, own_reads_at h2, HBp.out.trans (h3.mono HBp.out.size)⟩)
      have HVB : Hid (∀ b ∈ ((i3, if A1 = A2 then 1 else 0) :: (i2, if A2 < A1 then 1 else 0) :: (i1, if A1 < A2 then 1 else 0) :: bs : List (Nat × Nat)), b.1 < G.length ∧ ∃ h : b.1 < (valsL p [] G).length, (valsL p [] G)[b.1] = b.2) := Lib.hid fun b hb => by
        obtain ⟨q1, q2⟩ := HBS.out b hb
        have h : b.1 < (valsL p [] G).length := by rw [hVL]; exact q1
        exact ⟨q1, h, by rw [← getD_at h]; exact q2⟩
      generalize valsL p [] G = V at *
      clear HCK HPL HCE hVL hG0
      go_wp2_with (go_at_call 20; with_reducible refine HVV.out.mono ?_; rintro e wv ⟨vad, vc, rfl, hV, hB⟩; have HV := Lib.hid hV; have HBv := Lib.hid hB; clear hV hB)
      generalize hsad : (⟨gs, 0, none⟩ : Addr) = sad at *
      go_loopg [189] 5 (fun g i' wr => ∃ (j : Nat), j ≤ 5 ∧ g = 5 - j ∧ i' = .int .i64 j ∧ wv = wr)
      case atStart => exact ⟨0, by omega, rfl, rfl, rfl⟩
      case round =>
        obtain ⟨j, hj, rfl, rfl, rfl⟩ := hrel
        by_cases hlt : j < 5
        · obtain ⟨ad, hva, q0⟩ := (RS.out.below HBv.out).nat j (by omega)
          obtain ⟨l1, l2, l3⟩ := HVB.out _ (List.mem_cons_of_mem _ (List.mem_cons_of_mem _ (List.mem_cons_of_mem _ (hls _ (List.getElem_mem (show j < ls.length by omega))))))
          obtain ⟨vad', hvv, q1⟩ := HV.out.uat _ l2
          injection hva with hva
          injection hvv with hvv
          subst hva hvv
          rw [l3] at q1
          simp only at q1 l1
          generalize ls[j] = x at *
          have i1 : (0 : Int) ≤ (j : Int) := by omega
          have i2 : (j : Int) < 5 := by omega
          have i3 : (0 : Int) ≤ (x : Int) := by omega
          have i4 : (x : Int) < (G.length : Int) := by omega
          go_wp2
          go_roundg (5 - (j + 1))
          case measure => omega
          case rel => exact ⟨j + 1, by omega, rfl, by go_num, rfl⟩
        · obtain rfl : j = 5 := by omega
          obtain ⟨a1, a2, a3⟩ := HVB.out (i1, _) (List.mem_cons_of_mem _ (List.mem_cons_of_mem _ List.mem_cons_self))
          obtain ⟨b1, b2, b3⟩ := HVB.out (i2, _) (List.mem_cons_of_mem _ List.mem_cons_self)
          obtain ⟨d1, d2, d3⟩ := HVB.out (i3, _) List.mem_cons_self
          simp only at a1 b1 d1
          obtain ⟨ad1, e1, p1⟩ := HV.out.uat _ a2
          obtain ⟨ad2, e2, p2⟩ := HV.out.uat _ b2
          obtain ⟨ad3, e3, p3⟩ := HV.out.uat _ d2
          injection e1 with e1
          injection e2 with e2
          injection e3 with e3
          subst e1 e2 e3
          rw [a3] at p1
          rw [b3] at p2
          rw [d3] at p3
          have hr : ((if A1 < A2 then 1 else 0) = 1 ∧ (if A2 < A1 then 1 else 0) = 0 ∧ (if A1 = A2 then 1 else 0) = 0) ∨ ((if A1 < A2 then 1 else 0) = 0 ∧ (if A2 < A1 then 1 else 0) = 1 ∧ (if A1 = A2 then 1 else 0) = 0) ∨ ((if A1 < A2 then 1 else 0) = 0 ∧ (if A2 < A1 then 1 else 0) = 0 ∧ (if A1 = A2 then 1 else 0) = 1) := by
            rcases Nat.lt_trichotomy A1 A2 with h | h | h
            · rw [if_pos h, if_neg (by omega), if_neg (by omega)]; exact .inl ⟨rfl, rfl, rfl⟩
            · rw [if_neg (by omega), if_neg (by omega), if_pos h]; exact .inr (.inr ⟨rfl, rfl, rfl⟩)
            · rw [if_neg (by omega), if_pos h, if_neg (by omega)]; exact .inr (.inl ⟨rfl, rfl, rfl⟩)
          have x1 : (0 : Int) ≤ (i1 : Int) := by omega
          have x2 : (i1 : Int) < (G.length : Int) := by omega
          have x3 : (0 : Int) ≤ (i2 : Int) := by omega
          have x4 : (i2 : Int) < (G.length : Int) := by omega
          have x5 : (0 : Int) ≤ (i3 : Int) := by omega
          have x6 : (i3 : Int) < (G.length : Int) := by omega
          have hB5 : B ≤ w5.heap.size := Nat.le_trans (Nat.le_of_eq HLW.out) (Nat.le_trans HLOW.out.size HL5.out.size)
          have HL := Lib.hid (HBQ.out.trans (((HLOW.out.trans HL5.out).trans (HBv.out.mono hB5)).mono (Nat.le_of_lt HLB.out)))
          have HLZ := Lib.hid HL.out.size
          simp only at p1 p2 p3
          clear a2 a3 b2 b3 d2 d3 HVB HV HBS hls hB5
          rcases hr with ⟨r1, r2, r3⟩ | ⟨r1, r2, r3⟩ | ⟨r1, r2, r3⟩
          · rw [r1] at p1
            rw [r2] at p2
            rw [r3] at p3
            clear r1 r2 r3
            have HCE : Hid (∀ W, Below wv.heap.size wv W → (fun W => W.cell? (vad.add i1) = some (.int .u64 ((1 : Nat) : Int)) ∧ W.cell? (vad.add i2) = some (.int .u64 ((0 : Nat) : Int)) ∧ W.cell? (vad.add i3) = some (.int .u64 ((0 : Nat) : Int))) W) := Lib.hid fun W hb => ⟨(hb.cell (World.block_lt_of_cell? _ _ p1)).trans p1, (hb.cell (World.block_lt_of_cell? _ _ p2)).trans p2, (hb.cell (World.block_lt_of_cell? _ _ p3)).trans p3⟩
            go_upto_region 29 with fail
            go_region_held3 (fun W => W.cell? (vad.add i1) = some (.int .u64 ((1 : Nat) : Int)) ∧ W.cell? (vad.add i2) = some (.int .u64 ((0 : Nat) : Int)) ∧ W.cell? (vad.add i3) = some (.int .u64 ((0 : Nat) : Int))) (first | exact HCE.out _ (Below.refl _ _).drew | exact HCE.out _ HBa.out) (first
              | (go_at_call 11; refine (alive_any _).mono ?_; rintro e wa ⟨rfl, hb⟩; have HBa := Lib.hid ((Below.refl wv.heap.size wv).drew.trans (hb.mono (Nat.le_refl _))); clear hb))
            all_goals (try go_wp2)
            all_goals go_ret
            all_goals exact ⟨rfl, HL.out.trans (HBa.out.mono HLZ.out)⟩
          · rw [r1] at p1
            rw [r2] at p2
            rw [r3] at p3
            clear r1 r2 r3
            have HCE : Hid (∀ W, Below wv.heap.size wv W → (fun W => W.cell? (vad.add i1) = some (.int .u64 ((0 : Nat) : Int)) ∧ W.cell? (vad.add i2) = some (.int .u64 ((1 : Nat) : Int)) ∧ W.cell? (vad.add i3) = some (.int .u64 ((0 : Nat) : Int))) W) := Lib.hid fun W hb => ⟨(hb.cell (World.block_lt_of_cell? _ _ p1)).trans p1, (hb.cell (World.block_lt_of_cell? _ _ p2)).trans p2, (hb.cell (World.block_lt_of_cell? _ _ p3)).trans p3⟩
            go_upto_region 29 with fail
            go_region_held3 (fun W => W.cell? (vad.add i1) = some (.int .u64 ((0 : Nat) : Int)) ∧ W.cell? (vad.add i2) = some (.int .u64 ((1 : Nat) : Int)) ∧ W.cell? (vad.add i3) = some (.int .u64 ((0 : Nat) : Int))) (first | exact HCE.out _ (Below.refl _ _).drew | exact HCE.out _ HBa.out) (first
              | (go_at_call 11; refine (alive_any _).mono ?_; rintro e wa ⟨rfl, hb⟩; have HBa := Lib.hid ((Below.refl wv.heap.size wv).drew.trans (hb.mono (Nat.le_refl _))); clear hb))
            all_goals (try go_wp2)
            all_goals go_ret
            all_goals exact ⟨rfl, HL.out.trans (HBa.out.mono HLZ.out)⟩
          · rw [r1] at p1
            rw [r2] at p2
            rw [r3] at p3
            clear r1 r2 r3
            have HCE : Hid (∀ W, Below wv.heap.size wv W → (fun W => W.cell? (vad.add i1) = some (.int .u64 ((0 : Nat) : Int)) ∧ W.cell? (vad.add i2) = some (.int .u64 ((0 : Nat) : Int)) ∧ W.cell? (vad.add i3) = some (.int .u64 ((1 : Nat) : Int))) W) := Lib.hid fun W hb => ⟨(hb.cell (World.block_lt_of_cell? _ _ p1)).trans p1, (hb.cell (World.block_lt_of_cell? _ _ p2)).trans p2, (hb.cell (World.block_lt_of_cell? _ _ p3)).trans p3⟩
            go_upto_region 29 with fail
            go_region_held3 (fun W => W.cell? (vad.add i1) = some (.int .u64 ((0 : Nat) : Int)) ∧ W.cell? (vad.add i2) = some (.int .u64 ((0 : Nat) : Int)) ∧ W.cell? (vad.add i3) = some (.int .u64 ((1 : Nat) : Int))) (first | exact HCE.out _ (Below.refl _ _).drew | exact HCE.out _ HBa.out) (first
              | (go_at_call 11; refine (alive_any _).mono ?_; rintro e wa ⟨rfl, hb⟩; have HBa := Lib.hid ((Below.refl wv.heap.size wv).drew.trans (hb.mono (Nat.le_refl _))); clear hb))
            all_goals (try go_wp2)
            all_goals go_ret
            all_goals exact ⟨rfl, HL.out.trans (HBa.out.mono HLZ.out)⟩
end Go.Proofs.Ytkcdlbclodjjhaa
