/- Contract of circ.Of: the value of a gate, by those of lesser ones. -/
import Derived.Test.YtmnbgamnbgdnnaaGreatDoorCirH
namespace Go.Proofs.YtmnbgamnbgdnnaaGreatDoor
open Go.RowKit

def UPost (r : Nat) (w : World) (e : Ending) (w' : World) : Prop := e = .returned (.int .u64 r) ∧ Below w.heap.size w w'
theorem below_drewN {B : Nat} {a w : World} (h : Below B a w) (n : Nat) : Below B a (w.drewN n) := ⟨h.os, h.tape, h.output, h.size, h.block⟩
set_option maxHeartbeats 1000000 in
set_option maxRecDepth 100000 in
theorem of_1 (p : Nat) (h0 : 0 < p) (hp : p ≤ 65537) (I V : List Nat) (A B : Option Addr) (c d a b K : Nat) (w : World) (hA : Reads w A (uCells I)) (ha : a < I.length) :
    Calls Tryz.prog 44 #[.int .u64 p, .agg #[.int .i64 1, .int .i64 a, .int .i64 b, .int .u64 K], .slice A I.length c, .slice B V.length d] w (UPost (I[a]) w) := by
  obtain ⟨ad, rfl, q0⟩ := (hA.below ((Below.refl _ _).alloc (Nat.le_refl _) (.cells #[.int .i64 1, .int .i64 a, .int .i64 b, .int .u64 K] 69))).u a ha
  have i1 : (a : Int) < (I.length : Int) := by omega
  go_enter Tryz.func44, Tryz.ntmps44
  go_wp2
  go_ret
  exact ⟨rfl, (Below.refl _ _).alloc (Nat.le_refl _) _⟩
set_option maxHeartbeats 1000000 in
set_option maxRecDepth 100000 in
theorem of_2 (p : Nat) (h0 : 0 < p) (hp : p ≤ 65537) (I V : List Nat) (A B : Option Addr) (c d a b K : Nat) (w : World) :
    Calls Tryz.prog 44 #[.int .u64 p, .agg #[.int .i64 2, .int .i64 a, .int .i64 b, .int .u64 K], .slice A I.length c, .slice B V.length d] w (UPost (K) w) := by
  go_enter Tryz.func44, Tryz.ntmps44
  go_wp2
  go_ret
  exact ⟨rfl, (Below.refl _ _).alloc (Nat.le_refl _) _⟩
set_option maxHeartbeats 1000000 in
set_option maxRecDepth 100000 in
theorem of_3 (p : Nat) (h0 : 0 < p) (hp : p ≤ 65537) (I V : List Nat) (A B : Option Addr) (c d a b K : Nat) (w : World) (hB : Reads w B (uCells V)) (ha : a < V.length) (hb : b < V.length) (va : V[a] < p) (vb : V[b] < p) :
    Calls Tryz.prog 44 #[.int .u64 p, .agg #[.int .i64 3, .int .i64 a, .int .i64 b, .int .u64 K], .slice A I.length c, .slice B V.length d] w (UPost ((V[a] + V[b]) % p) w) := by
  have hB' := hB.below ((Below.refl _ _).alloc (Nat.le_refl _) (.cells #[.int .i64 3, .int .i64 a, .int .i64 b, .int .u64 K] 69))
  obtain ⟨ad, rfl, q0⟩ := hB'.u a ha
  have r0 := hB'.some_u b hb
  have i1 : (a : Int) < (V.length : Int) := by omega
  have i2 : (b : Int) < (V.length : Int) := by omega
  have hc := fun W => plus_any p V[a] V[b] h0 hp va vb W
  generalize V[a] = x at *
  generalize V[b] = y at *
  have HC := Lib.hid hc; clear hc hB hB'
  go_enter Tryz.func44, Tryz.ntmps44
  go_wp2
  go_quiet ((exact Calls.quiet_of_same ((HC.out _).mono fun _ _ h => ⟨h.1, h.2.symm⟩)))
  go_wp2
  go_ret
  exact ⟨rfl, below_drewN ((Below.refl _ _).alloc (Nat.le_refl _) _) _⟩
set_option maxHeartbeats 1000000 in
set_option maxRecDepth 100000 in
theorem of_4 (p : Nat) (h0 : 0 < p) (hp : p ≤ 65537) (I V : List Nat) (A B : Option Addr) (c d a b K : Nat) (w : World) (hB : Reads w B (uCells V)) (ha : a < V.length) (hb : b < V.length) (va : V[a] < p) (vb : V[b] < p) :
    Calls Tryz.prog 44 #[.int .u64 p, .agg #[.int .i64 4, .int .i64 a, .int .i64 b, .int .u64 K], .slice A I.length c, .slice B V.length d] w (UPost ((V[a] + p - V[b]) % p) w) := by
  have hB' := hB.below ((Below.refl _ _).alloc (Nat.le_refl _) (.cells #[.int .i64 4, .int .i64 a, .int .i64 b, .int .u64 K] 69))
  obtain ⟨ad, rfl, q0⟩ := hB'.u a ha
  have r0 := hB'.some_u b hb
  have i1 : (a : Int) < (V.length : Int) := by omega
  have i2 : (b : Int) < (V.length : Int) := by omega
  have hc := fun W => minus_any p V[a] V[b] h0 hp va vb W
  generalize V[a] = x at *
  generalize V[b] = y at *
  have HC := Lib.hid hc; clear hc hB hB'
  go_enter Tryz.func44, Tryz.ntmps44
  go_wp2
  go_quiet ((exact Calls.quiet_of_same ((HC.out _).mono fun _ _ h => ⟨h.1, h.2.symm⟩)))
  go_wp2
  go_ret
  exact ⟨rfl, below_drewN ((Below.refl _ _).alloc (Nat.le_refl _) _) _⟩
set_option maxHeartbeats 1000000 in
set_option maxRecDepth 100000 in
theorem of_5 (p : Nat) (h0 : 0 < p) (hp : p ≤ 65537) (I V : List Nat) (A B : Option Addr) (c d a b K : Nat) (w : World) (hB : Reads w B (uCells V)) (ha : a < V.length) (hb : b < V.length) (va : V[a] < p) (vb : V[b] < p) :
    Calls Tryz.prog 44 #[.int .u64 p, .agg #[.int .i64 5, .int .i64 a, .int .i64 b, .int .u64 K], .slice A I.length c, .slice B V.length d] w (UPost (V[a] * V[b] % p) w) := by
  have hB' := hB.below ((Below.refl _ _).alloc (Nat.le_refl _) (.cells #[.int .i64 5, .int .i64 a, .int .i64 b, .int .u64 K] 69))
  obtain ⟨ad, rfl, q0⟩ := hB'.u a ha
  have r0 := hB'.some_u b hb
  have i1 : (a : Int) < (V.length : Int) := by omega
  have i2 : (b : Int) < (V.length : Int) := by omega
  have hc := fun W => times_any p V[a] V[b] h0 hp va vb W
  generalize V[a] = x at *
  generalize V[b] = y at *
  have HC := Lib.hid hc; clear hc hB hB'
  go_enter Tryz.func44, Tryz.ntmps44
  go_wp2
  go_quiet ((exact Calls.quiet_of_same ((HC.out _).mono fun _ _ h => ⟨h.1, h.2.symm⟩)))
  go_wp2
  go_ret
  exact ⟨rfl, below_drewN ((Below.refl _ _).alloc (Nat.le_refl _) _) _⟩
set_option maxHeartbeats 1000000 in
set_option maxRecDepth 100000 in
theorem of_6 (p : Nat) (h0 : 0 < p) (hp : p ≤ 65537) (I V : List Nat) (A B : Option Addr) (c d a b K : Nat) (w : World) (hB : Reads w B (uCells V)) (ha : a < V.length) (va : V[a] < p) (vb : K < p) :
    Calls Tryz.prog 44 #[.int .u64 p, .agg #[.int .i64 6, .int .i64 a, .int .i64 b, .int .u64 K], .slice A I.length c, .slice B V.length d] w (UPost (V[a] * K % p) w) := by
  have hB' := hB.below ((Below.refl _ _).alloc (Nat.le_refl _) (.cells #[.int .i64 6, .int .i64 a, .int .i64 b, .int .u64 K] 69))
  obtain ⟨ad, rfl, q0⟩ := hB'.u a ha
  have i1 : (a : Int) < (V.length : Int) := by omega
  have hc := fun W => times_any p V[a] K h0 hp va vb W
  generalize V[a] = x at *
  have HC := Lib.hid hc; clear hc hB hB'
  go_enter Tryz.func44, Tryz.ntmps44
  go_wp2
  go_quiet ((exact Calls.quiet_of_same ((HC.out _).mono fun _ _ h => ⟨h.1, h.2.symm⟩)))
  go_wp2
  go_ret
  exact ⟨rfl, below_drewN ((Below.refl _ _).alloc (Nat.le_refl _) _) _⟩
end Go.Proofs.YtmnbgamnbgdnnaaGreatDoor
