/- Contracts of the law's gates, products, bit. (Printed by wip/tools/gen_qa.py.) -/
import Derived.Test.YtkcdlbclodjjhaaGreatGae
namespace Go.Proofs.YtkcdlbclodjjhaaGreat
open Go.RowKit

/-- How many gates, how many products a call may add. -/
def gatesN (m k : Nat) : Nat := if m = 2 then 0 else if m = 0 ∨ m = 1 ∨ m = 3 then 1 else if m = 12 then 16 * k * k else if m = 9 ∨ m = 10 ∨ m = 11 ∨ m = 13 ∨ m = 14 then 16 * k else 16
def prodN (m k : Nat) : Nat := if m = 1 ∨ m = 5 ∨ m = 6 ∨ m = 7 ∨ m = 8 then 1 else if m = 10 ∨ m = 11 then 2 * k else if m = 12 then 2 * k * k else if m = 13 ∨ m = 14 then 3 * k else 0
set_option maxRecDepth 100000 in
theorem gates_0 (a b c k s1 g1 g2 g3 g4 : Int) (s2 : Bool) (VA WA TA GA : Option Addr) (vn vc wn wc tn tc gn gc : Nat) (w : World) (_hk : vn ≤ 16 ∨ 0 < 9) :
    Calls Tryz.prog 38 #[.agg #[.int .i64 0, .int .i64 a, .int .i64 b, .int .i64 c, .int .u64 k, .slice VA vn vc, .slice WA wn wc, .int .i64 s1, .bool s2, .int .i64 g1, .int .i64 g2, .int .i64 g3, .int .u64 g4, .slice TA tn tc, .slice GA gn gc]] w fun e W' => e = .returned (.int .i64 ((gatesN 0 vn : Nat) : Int)) ∧ Below w.heap.size w W' := by
  have hb := (Below.refl w.heap.size w).alloc (Nat.le_refl _) (.cells #[.int .i64 0, .int .i64 a, .int .i64 b, .int .i64 c, .int .u64 k, .slice VA vn vc, .slice WA wn wc, .int .i64 s1, .bool s2, .int .i64 g1, .int .i64 g2, .int .i64 g3, .int .u64 g4, .slice TA tn tc, .slice GA gn gc] 46)
  have k0 := heap_alloc_new w (.cells #[.int .i64 0, .int .i64 a, .int .i64 b, .int .i64 c, .int .u64 k, .slice VA vn vc, .slice WA wn wc, .int .i64 s1, .bool s2, .int .i64 g1, .int .i64 g2, .int .i64 g3, .int .u64 g4, .slice TA tn tc, .slice GA gn gc] 46)
  have q0 : World.cell? _ ⟨w.heap.size, 0, none⟩ = some (.int .i64 0) := cell_in k0
  have q5 : World.cell? _ ⟨w.heap.size, 5, none⟩ = some (.slice VA vn vc) := cell_in k0
  have HB := Lib.hid hb
  clear hb k0
  go_enter Tryz.func38, Tryz.ntmps38
  go_wp2
  go_ret
  exact ⟨rfl, HB.out⟩
set_option maxRecDepth 100000 in
theorem gates_1 (a b c k s1 g1 g2 g3 g4 : Int) (s2 : Bool) (VA WA TA GA : Option Addr) (vn vc wn wc tn tc gn gc : Nat) (w : World) (_hk : vn ≤ 16 ∨ 1 < 9) :
    Calls Tryz.prog 38 #[.agg #[.int .i64 1, .int .i64 a, .int .i64 b, .int .i64 c, .int .u64 k, .slice VA vn vc, .slice WA wn wc, .int .i64 s1, .bool s2, .int .i64 g1, .int .i64 g2, .int .i64 g3, .int .u64 g4, .slice TA tn tc, .slice GA gn gc]] w fun e W' => e = .returned (.int .i64 ((gatesN 1 vn : Nat) : Int)) ∧ Below w.heap.size w W' := by
  have hb := (Below.refl w.heap.size w).alloc (Nat.le_refl _) (.cells #[.int .i64 1, .int .i64 a, .int .i64 b, .int .i64 c, .int .u64 k, .slice VA vn vc, .slice WA wn wc, .int .i64 s1, .bool s2, .int .i64 g1, .int .i64 g2, .int .i64 g3, .int .u64 g4, .slice TA tn tc, .slice GA gn gc] 46)
  have k0 := heap_alloc_new w (.cells #[.int .i64 1, .int .i64 a, .int .i64 b, .int .i64 c, .int .u64 k, .slice VA vn vc, .slice WA wn wc, .int .i64 s1, .bool s2, .int .i64 g1, .int .i64 g2, .int .i64 g3, .int .u64 g4, .slice TA tn tc, .slice GA gn gc] 46)
  have q0 : World.cell? _ ⟨w.heap.size, 0, none⟩ = some (.int .i64 1) := cell_in k0
  have q5 : World.cell? _ ⟨w.heap.size, 5, none⟩ = some (.slice VA vn vc) := cell_in k0
  have HB := Lib.hid hb
  clear hb k0
  go_enter Tryz.func38, Tryz.ntmps38
  go_wp2
  go_ret
  exact ⟨rfl, HB.out⟩
set_option maxRecDepth 100000 in
theorem gates_2 (a b c k s1 g1 g2 g3 g4 : Int) (s2 : Bool) (VA WA TA GA : Option Addr) (vn vc wn wc tn tc gn gc : Nat) (w : World) (_hk : vn ≤ 16 ∨ 2 < 9) :
    Calls Tryz.prog 38 #[.agg #[.int .i64 2, .int .i64 a, .int .i64 b, .int .i64 c, .int .u64 k, .slice VA vn vc, .slice WA wn wc, .int .i64 s1, .bool s2, .int .i64 g1, .int .i64 g2, .int .i64 g3, .int .u64 g4, .slice TA tn tc, .slice GA gn gc]] w fun e W' => e = .returned (.int .i64 ((gatesN 2 vn : Nat) : Int)) ∧ Below w.heap.size w W' := by
  have hb := (Below.refl w.heap.size w).alloc (Nat.le_refl _) (.cells #[.int .i64 2, .int .i64 a, .int .i64 b, .int .i64 c, .int .u64 k, .slice VA vn vc, .slice WA wn wc, .int .i64 s1, .bool s2, .int .i64 g1, .int .i64 g2, .int .i64 g3, .int .u64 g4, .slice TA tn tc, .slice GA gn gc] 46)
  have k0 := heap_alloc_new w (.cells #[.int .i64 2, .int .i64 a, .int .i64 b, .int .i64 c, .int .u64 k, .slice VA vn vc, .slice WA wn wc, .int .i64 s1, .bool s2, .int .i64 g1, .int .i64 g2, .int .i64 g3, .int .u64 g4, .slice TA tn tc, .slice GA gn gc] 46)
  have q0 : World.cell? _ ⟨w.heap.size, 0, none⟩ = some (.int .i64 2) := cell_in k0
  have q5 : World.cell? _ ⟨w.heap.size, 5, none⟩ = some (.slice VA vn vc) := cell_in k0
  have HB := Lib.hid hb
  clear hb k0
  go_enter Tryz.func38, Tryz.ntmps38
  go_wp2
  go_ret
  exact ⟨rfl, HB.out⟩
set_option maxRecDepth 100000 in
theorem gates_3 (a b c k s1 g1 g2 g3 g4 : Int) (s2 : Bool) (VA WA TA GA : Option Addr) (vn vc wn wc tn tc gn gc : Nat) (w : World) (_hk : vn ≤ 16 ∨ 3 < 9) :
    Calls Tryz.prog 38 #[.agg #[.int .i64 3, .int .i64 a, .int .i64 b, .int .i64 c, .int .u64 k, .slice VA vn vc, .slice WA wn wc, .int .i64 s1, .bool s2, .int .i64 g1, .int .i64 g2, .int .i64 g3, .int .u64 g4, .slice TA tn tc, .slice GA gn gc]] w fun e W' => e = .returned (.int .i64 ((gatesN 3 vn : Nat) : Int)) ∧ Below w.heap.size w W' := by
  have hb := (Below.refl w.heap.size w).alloc (Nat.le_refl _) (.cells #[.int .i64 3, .int .i64 a, .int .i64 b, .int .i64 c, .int .u64 k, .slice VA vn vc, .slice WA wn wc, .int .i64 s1, .bool s2, .int .i64 g1, .int .i64 g2, .int .i64 g3, .int .u64 g4, .slice TA tn tc, .slice GA gn gc] 46)
  have k0 := heap_alloc_new w (.cells #[.int .i64 3, .int .i64 a, .int .i64 b, .int .i64 c, .int .u64 k, .slice VA vn vc, .slice WA wn wc, .int .i64 s1, .bool s2, .int .i64 g1, .int .i64 g2, .int .i64 g3, .int .u64 g4, .slice TA tn tc, .slice GA gn gc] 46)
  have q0 : World.cell? _ ⟨w.heap.size, 0, none⟩ = some (.int .i64 3) := cell_in k0
  have q5 : World.cell? _ ⟨w.heap.size, 5, none⟩ = some (.slice VA vn vc) := cell_in k0
  have HB := Lib.hid hb
  clear hb k0
  go_enter Tryz.func38, Tryz.ntmps38
  go_wp2
  go_ret
  exact ⟨rfl, HB.out⟩
set_option maxRecDepth 100000 in
theorem gates_4 (a b c k s1 g1 g2 g3 g4 : Int) (s2 : Bool) (VA WA TA GA : Option Addr) (vn vc wn wc tn tc gn gc : Nat) (w : World) (_hk : vn ≤ 16 ∨ 4 < 9) :
    Calls Tryz.prog 38 #[.agg #[.int .i64 4, .int .i64 a, .int .i64 b, .int .i64 c, .int .u64 k, .slice VA vn vc, .slice WA wn wc, .int .i64 s1, .bool s2, .int .i64 g1, .int .i64 g2, .int .i64 g3, .int .u64 g4, .slice TA tn tc, .slice GA gn gc]] w fun e W' => e = .returned (.int .i64 ((gatesN 4 vn : Nat) : Int)) ∧ Below w.heap.size w W' := by
  have hb := (Below.refl w.heap.size w).alloc (Nat.le_refl _) (.cells #[.int .i64 4, .int .i64 a, .int .i64 b, .int .i64 c, .int .u64 k, .slice VA vn vc, .slice WA wn wc, .int .i64 s1, .bool s2, .int .i64 g1, .int .i64 g2, .int .i64 g3, .int .u64 g4, .slice TA tn tc, .slice GA gn gc] 46)
  have k0 := heap_alloc_new w (.cells #[.int .i64 4, .int .i64 a, .int .i64 b, .int .i64 c, .int .u64 k, .slice VA vn vc, .slice WA wn wc, .int .i64 s1, .bool s2, .int .i64 g1, .int .i64 g2, .int .i64 g3, .int .u64 g4, .slice TA tn tc, .slice GA gn gc] 46)
  have q0 : World.cell? _ ⟨w.heap.size, 0, none⟩ = some (.int .i64 4) := cell_in k0
  have q5 : World.cell? _ ⟨w.heap.size, 5, none⟩ = some (.slice VA vn vc) := cell_in k0
  have HB := Lib.hid hb
  clear hb k0
  go_enter Tryz.func38, Tryz.ntmps38
  go_wp2
  go_ret
  exact ⟨rfl, HB.out⟩
set_option maxRecDepth 100000 in
theorem gates_5 (a b c k s1 g1 g2 g3 g4 : Int) (s2 : Bool) (VA WA TA GA : Option Addr) (vn vc wn wc tn tc gn gc : Nat) (w : World) (_hk : vn ≤ 16 ∨ 5 < 9) :
    Calls Tryz.prog 38 #[.agg #[.int .i64 5, .int .i64 a, .int .i64 b, .int .i64 c, .int .u64 k, .slice VA vn vc, .slice WA wn wc, .int .i64 s1, .bool s2, .int .i64 g1, .int .i64 g2, .int .i64 g3, .int .u64 g4, .slice TA tn tc, .slice GA gn gc]] w fun e W' => e = .returned (.int .i64 ((gatesN 5 vn : Nat) : Int)) ∧ Below w.heap.size w W' := by
  have hb := (Below.refl w.heap.size w).alloc (Nat.le_refl _) (.cells #[.int .i64 5, .int .i64 a, .int .i64 b, .int .i64 c, .int .u64 k, .slice VA vn vc, .slice WA wn wc, .int .i64 s1, .bool s2, .int .i64 g1, .int .i64 g2, .int .i64 g3, .int .u64 g4, .slice TA tn tc, .slice GA gn gc] 46)
  have k0 := heap_alloc_new w (.cells #[.int .i64 5, .int .i64 a, .int .i64 b, .int .i64 c, .int .u64 k, .slice VA vn vc, .slice WA wn wc, .int .i64 s1, .bool s2, .int .i64 g1, .int .i64 g2, .int .i64 g3, .int .u64 g4, .slice TA tn tc, .slice GA gn gc] 46)
  have q0 : World.cell? _ ⟨w.heap.size, 0, none⟩ = some (.int .i64 5) := cell_in k0
  have q5 : World.cell? _ ⟨w.heap.size, 5, none⟩ = some (.slice VA vn vc) := cell_in k0
  have HB := Lib.hid hb
  clear hb k0
  go_enter Tryz.func38, Tryz.ntmps38
  go_wp2
  go_ret
  exact ⟨rfl, HB.out⟩
set_option maxRecDepth 100000 in
theorem gates_6 (a b c k s1 g1 g2 g3 g4 : Int) (s2 : Bool) (VA WA TA GA : Option Addr) (vn vc wn wc tn tc gn gc : Nat) (w : World) (_hk : vn ≤ 16 ∨ 6 < 9) :
    Calls Tryz.prog 38 #[.agg #[.int .i64 6, .int .i64 a, .int .i64 b, .int .i64 c, .int .u64 k, .slice VA vn vc, .slice WA wn wc, .int .i64 s1, .bool s2, .int .i64 g1, .int .i64 g2, .int .i64 g3, .int .u64 g4, .slice TA tn tc, .slice GA gn gc]] w fun e W' => e = .returned (.int .i64 ((gatesN 6 vn : Nat) : Int)) ∧ Below w.heap.size w W' := by
  have hb := (Below.refl w.heap.size w).alloc (Nat.le_refl _) (.cells #[.int .i64 6, .int .i64 a, .int .i64 b, .int .i64 c, .int .u64 k, .slice VA vn vc, .slice WA wn wc, .int .i64 s1, .bool s2, .int .i64 g1, .int .i64 g2, .int .i64 g3, .int .u64 g4, .slice TA tn tc, .slice GA gn gc] 46)
  have k0 := heap_alloc_new w (.cells #[.int .i64 6, .int .i64 a, .int .i64 b, .int .i64 c, .int .u64 k, .slice VA vn vc, .slice WA wn wc, .int .i64 s1, .bool s2, .int .i64 g1, .int .i64 g2, .int .i64 g3, .int .u64 g4, .slice TA tn tc, .slice GA gn gc] 46)
  have q0 : World.cell? _ ⟨w.heap.size, 0, none⟩ = some (.int .i64 6) := cell_in k0
  have q5 : World.cell? _ ⟨w.heap.size, 5, none⟩ = some (.slice VA vn vc) := cell_in k0
  have HB := Lib.hid hb
  clear hb k0
  go_enter Tryz.func38, Tryz.ntmps38
  go_wp2
  go_ret
  exact ⟨rfl, HB.out⟩
set_option maxRecDepth 100000 in
theorem gates_7 (a b c k s1 g1 g2 g3 g4 : Int) (s2 : Bool) (VA WA TA GA : Option Addr) (vn vc wn wc tn tc gn gc : Nat) (w : World) (_hk : vn ≤ 16 ∨ 7 < 9) :
    Calls Tryz.prog 38 #[.agg #[.int .i64 7, .int .i64 a, .int .i64 b, .int .i64 c, .int .u64 k, .slice VA vn vc, .slice WA wn wc, .int .i64 s1, .bool s2, .int .i64 g1, .int .i64 g2, .int .i64 g3, .int .u64 g4, .slice TA tn tc, .slice GA gn gc]] w fun e W' => e = .returned (.int .i64 ((gatesN 7 vn : Nat) : Int)) ∧ Below w.heap.size w W' := by
  have hb := (Below.refl w.heap.size w).alloc (Nat.le_refl _) (.cells #[.int .i64 7, .int .i64 a, .int .i64 b, .int .i64 c, .int .u64 k, .slice VA vn vc, .slice WA wn wc, .int .i64 s1, .bool s2, .int .i64 g1, .int .i64 g2, .int .i64 g3, .int .u64 g4, .slice TA tn tc, .slice GA gn gc] 46)
  have k0 := heap_alloc_new w (.cells #[.int .i64 7, .int .i64 a, .int .i64 b, .int .i64 c, .int .u64 k, .slice VA vn vc, .slice WA wn wc, .int .i64 s1, .bool s2, .int .i64 g1, .int .i64 g2, .int .i64 g3, .int .u64 g4, .slice TA tn tc, .slice GA gn gc] 46)
  have q0 : World.cell? _ ⟨w.heap.size, 0, none⟩ = some (.int .i64 7) := cell_in k0
  have q5 : World.cell? _ ⟨w.heap.size, 5, none⟩ = some (.slice VA vn vc) := cell_in k0
  have HB := Lib.hid hb
  clear hb k0
  go_enter Tryz.func38, Tryz.ntmps38
  go_wp2
  go_ret
  exact ⟨rfl, HB.out⟩
set_option maxRecDepth 100000 in
theorem gates_8 (a b c k s1 g1 g2 g3 g4 : Int) (s2 : Bool) (VA WA TA GA : Option Addr) (vn vc wn wc tn tc gn gc : Nat) (w : World) (_hk : vn ≤ 16 ∨ 8 < 9) :
    Calls Tryz.prog 38 #[.agg #[.int .i64 8, .int .i64 a, .int .i64 b, .int .i64 c, .int .u64 k, .slice VA vn vc, .slice WA wn wc, .int .i64 s1, .bool s2, .int .i64 g1, .int .i64 g2, .int .i64 g3, .int .u64 g4, .slice TA tn tc, .slice GA gn gc]] w fun e W' => e = .returned (.int .i64 ((gatesN 8 vn : Nat) : Int)) ∧ Below w.heap.size w W' := by
  have hb := (Below.refl w.heap.size w).alloc (Nat.le_refl _) (.cells #[.int .i64 8, .int .i64 a, .int .i64 b, .int .i64 c, .int .u64 k, .slice VA vn vc, .slice WA wn wc, .int .i64 s1, .bool s2, .int .i64 g1, .int .i64 g2, .int .i64 g3, .int .u64 g4, .slice TA tn tc, .slice GA gn gc] 46)
  have k0 := heap_alloc_new w (.cells #[.int .i64 8, .int .i64 a, .int .i64 b, .int .i64 c, .int .u64 k, .slice VA vn vc, .slice WA wn wc, .int .i64 s1, .bool s2, .int .i64 g1, .int .i64 g2, .int .i64 g3, .int .u64 g4, .slice TA tn tc, .slice GA gn gc] 46)
  have q0 : World.cell? _ ⟨w.heap.size, 0, none⟩ = some (.int .i64 8) := cell_in k0
  have q5 : World.cell? _ ⟨w.heap.size, 5, none⟩ = some (.slice VA vn vc) := cell_in k0
  have HB := Lib.hid hb
  clear hb k0
  go_enter Tryz.func38, Tryz.ntmps38
  go_wp2
  go_ret
  exact ⟨rfl, HB.out⟩
set_option maxRecDepth 100000 in
theorem gates_9 (a b c k s1 g1 g2 g3 g4 : Int) (s2 : Bool) (VA WA TA GA : Option Addr) (vn vc wn wc tn tc gn gc : Nat) (w : World) (_hk : vn ≤ 16 ∨ 9 < 9) :
    Calls Tryz.prog 38 #[.agg #[.int .i64 9, .int .i64 a, .int .i64 b, .int .i64 c, .int .u64 k, .slice VA vn vc, .slice WA wn wc, .int .i64 s1, .bool s2, .int .i64 g1, .int .i64 g2, .int .i64 g3, .int .u64 g4, .slice TA tn tc, .slice GA gn gc]] w fun e W' => e = .returned (.int .i64 ((gatesN 9 vn : Nat) : Int)) ∧ Below w.heap.size w W' := by
  have hb := (Below.refl w.heap.size w).alloc (Nat.le_refl _) (.cells #[.int .i64 9, .int .i64 a, .int .i64 b, .int .i64 c, .int .u64 k, .slice VA vn vc, .slice WA wn wc, .int .i64 s1, .bool s2, .int .i64 g1, .int .i64 g2, .int .i64 g3, .int .u64 g4, .slice TA tn tc, .slice GA gn gc] 46)
  have k0 := heap_alloc_new w (.cells #[.int .i64 9, .int .i64 a, .int .i64 b, .int .i64 c, .int .u64 k, .slice VA vn vc, .slice WA wn wc, .int .i64 s1, .bool s2, .int .i64 g1, .int .i64 g2, .int .i64 g3, .int .u64 g4, .slice TA tn tc, .slice GA gn gc] 46)
  have q0 : World.cell? _ ⟨w.heap.size, 0, none⟩ = some (.int .i64 9) := cell_in k0
  have q5 : World.cell? _ ⟨w.heap.size, 5, none⟩ = some (.slice VA vn vc) := cell_in k0
  have HB := Lib.hid hb
  clear hb k0
  have hv : vn ≤ 16 := by omega
  go_enter Tryz.func38, Tryz.ntmps38
  go_wp2
  go_ret
  exact ⟨by go_num, HB.out⟩
set_option maxRecDepth 100000 in
theorem gates_10 (a b c k s1 g1 g2 g3 g4 : Int) (s2 : Bool) (VA WA TA GA : Option Addr) (vn vc wn wc tn tc gn gc : Nat) (w : World) (_hk : vn ≤ 16 ∨ 10 < 9) :
    Calls Tryz.prog 38 #[.agg #[.int .i64 10, .int .i64 a, .int .i64 b, .int .i64 c, .int .u64 k, .slice VA vn vc, .slice WA wn wc, .int .i64 s1, .bool s2, .int .i64 g1, .int .i64 g2, .int .i64 g3, .int .u64 g4, .slice TA tn tc, .slice GA gn gc]] w fun e W' => e = .returned (.int .i64 ((gatesN 10 vn : Nat) : Int)) ∧ Below w.heap.size w W' := by
  have hb := (Below.refl w.heap.size w).alloc (Nat.le_refl _) (.cells #[.int .i64 10, .int .i64 a, .int .i64 b, .int .i64 c, .int .u64 k, .slice VA vn vc, .slice WA wn wc, .int .i64 s1, .bool s2, .int .i64 g1, .int .i64 g2, .int .i64 g3, .int .u64 g4, .slice TA tn tc, .slice GA gn gc] 46)
  have k0 := heap_alloc_new w (.cells #[.int .i64 10, .int .i64 a, .int .i64 b, .int .i64 c, .int .u64 k, .slice VA vn vc, .slice WA wn wc, .int .i64 s1, .bool s2, .int .i64 g1, .int .i64 g2, .int .i64 g3, .int .u64 g4, .slice TA tn tc, .slice GA gn gc] 46)
  have q0 : World.cell? _ ⟨w.heap.size, 0, none⟩ = some (.int .i64 10) := cell_in k0
  have q5 : World.cell? _ ⟨w.heap.size, 5, none⟩ = some (.slice VA vn vc) := cell_in k0
  have HB := Lib.hid hb
  clear hb k0
  have hv : vn ≤ 16 := by omega
  go_enter Tryz.func38, Tryz.ntmps38
  go_wp2
  go_ret
  exact ⟨by go_num, HB.out⟩
set_option maxRecDepth 100000 in
theorem gates_11 (a b c k s1 g1 g2 g3 g4 : Int) (s2 : Bool) (VA WA TA GA : Option Addr) (vn vc wn wc tn tc gn gc : Nat) (w : World) (_hk : vn ≤ 16 ∨ 11 < 9) :
    Calls Tryz.prog 38 #[.agg #[.int .i64 11, .int .i64 a, .int .i64 b, .int .i64 c, .int .u64 k, .slice VA vn vc, .slice WA wn wc, .int .i64 s1, .bool s2, .int .i64 g1, .int .i64 g2, .int .i64 g3, .int .u64 g4, .slice TA tn tc, .slice GA gn gc]] w fun e W' => e = .returned (.int .i64 ((gatesN 11 vn : Nat) : Int)) ∧ Below w.heap.size w W' := by
  have hb := (Below.refl w.heap.size w).alloc (Nat.le_refl _) (.cells #[.int .i64 11, .int .i64 a, .int .i64 b, .int .i64 c, .int .u64 k, .slice VA vn vc, .slice WA wn wc, .int .i64 s1, .bool s2, .int .i64 g1, .int .i64 g2, .int .i64 g3, .int .u64 g4, .slice TA tn tc, .slice GA gn gc] 46)
  have k0 := heap_alloc_new w (.cells #[.int .i64 11, .int .i64 a, .int .i64 b, .int .i64 c, .int .u64 k, .slice VA vn vc, .slice WA wn wc, .int .i64 s1, .bool s2, .int .i64 g1, .int .i64 g2, .int .i64 g3, .int .u64 g4, .slice TA tn tc, .slice GA gn gc] 46)
  have q0 : World.cell? _ ⟨w.heap.size, 0, none⟩ = some (.int .i64 11) := cell_in k0
  have q5 : World.cell? _ ⟨w.heap.size, 5, none⟩ = some (.slice VA vn vc) := cell_in k0
  have HB := Lib.hid hb
  clear hb k0
  have hv : vn ≤ 16 := by omega
  go_enter Tryz.func38, Tryz.ntmps38
  go_wp2
  go_ret
  exact ⟨by go_num, HB.out⟩
set_option maxRecDepth 100000 in
theorem gates_12 (a b c k s1 g1 g2 g3 g4 : Int) (s2 : Bool) (VA WA TA GA : Option Addr) (vn vc wn wc tn tc gn gc : Nat) (w : World) (_hk : vn ≤ 16 ∨ 12 < 9) :
    Calls Tryz.prog 38 #[.agg #[.int .i64 12, .int .i64 a, .int .i64 b, .int .i64 c, .int .u64 k, .slice VA vn vc, .slice WA wn wc, .int .i64 s1, .bool s2, .int .i64 g1, .int .i64 g2, .int .i64 g3, .int .u64 g4, .slice TA tn tc, .slice GA gn gc]] w fun e W' => e = .returned (.int .i64 ((gatesN 12 vn : Nat) : Int)) ∧ Below w.heap.size w W' := by
  have hb := (Below.refl w.heap.size w).alloc (Nat.le_refl _) (.cells #[.int .i64 12, .int .i64 a, .int .i64 b, .int .i64 c, .int .u64 k, .slice VA vn vc, .slice WA wn wc, .int .i64 s1, .bool s2, .int .i64 g1, .int .i64 g2, .int .i64 g3, .int .u64 g4, .slice TA tn tc, .slice GA gn gc] 46)
  have k0 := heap_alloc_new w (.cells #[.int .i64 12, .int .i64 a, .int .i64 b, .int .i64 c, .int .u64 k, .slice VA vn vc, .slice WA wn wc, .int .i64 s1, .bool s2, .int .i64 g1, .int .i64 g2, .int .i64 g3, .int .u64 g4, .slice TA tn tc, .slice GA gn gc] 46)
  have q0 : World.cell? _ ⟨w.heap.size, 0, none⟩ = some (.int .i64 12) := cell_in k0
  have q5 : World.cell? _ ⟨w.heap.size, 5, none⟩ = some (.slice VA vn vc) := cell_in k0
  have HB := Lib.hid hb
  clear hb k0
  have hv : vn ≤ 16 := by omega
  have hm : vn * vn ≤ 16 * 16 := Nat.mul_le_mul hv hv
  have e : wrap64 (16 * (vn : Int) * (vn : Int)) = ((gatesN 12 vn : Nat) : Int) := by
    have h1 : (16 * (vn : Int) * (vn : Int)) = ((16 * vn * vn : Nat) : Int) := by simp
    rw [h1]
    show wrap64 _ = ((16 * vn * vn : Nat) : Int)
    have h2 : 16 * vn * vn ≤ 4096 := by rw [Nat.mul_assoc]; omega
    generalize 16 * vn * vn = q at *
    unfold wrap64
    omega
  go_enter Tryz.func38, Tryz.ntmps38
  go_wp2
  go_ret
  exact ⟨by rw [← e]; rfl, HB.out⟩
set_option maxRecDepth 100000 in
theorem gates_13 (a b c k s1 g1 g2 g3 g4 : Int) (s2 : Bool) (VA WA TA GA : Option Addr) (vn vc wn wc tn tc gn gc : Nat) (w : World) (_hk : vn ≤ 16 ∨ 13 < 9) :
    Calls Tryz.prog 38 #[.agg #[.int .i64 13, .int .i64 a, .int .i64 b, .int .i64 c, .int .u64 k, .slice VA vn vc, .slice WA wn wc, .int .i64 s1, .bool s2, .int .i64 g1, .int .i64 g2, .int .i64 g3, .int .u64 g4, .slice TA tn tc, .slice GA gn gc]] w fun e W' => e = .returned (.int .i64 ((gatesN 13 vn : Nat) : Int)) ∧ Below w.heap.size w W' := by
  have hb := (Below.refl w.heap.size w).alloc (Nat.le_refl _) (.cells #[.int .i64 13, .int .i64 a, .int .i64 b, .int .i64 c, .int .u64 k, .slice VA vn vc, .slice WA wn wc, .int .i64 s1, .bool s2, .int .i64 g1, .int .i64 g2, .int .i64 g3, .int .u64 g4, .slice TA tn tc, .slice GA gn gc] 46)
  have k0 := heap_alloc_new w (.cells #[.int .i64 13, .int .i64 a, .int .i64 b, .int .i64 c, .int .u64 k, .slice VA vn vc, .slice WA wn wc, .int .i64 s1, .bool s2, .int .i64 g1, .int .i64 g2, .int .i64 g3, .int .u64 g4, .slice TA tn tc, .slice GA gn gc] 46)
  have q0 : World.cell? _ ⟨w.heap.size, 0, none⟩ = some (.int .i64 13) := cell_in k0
  have q5 : World.cell? _ ⟨w.heap.size, 5, none⟩ = some (.slice VA vn vc) := cell_in k0
  have HB := Lib.hid hb
  clear hb k0
  have hv : vn ≤ 16 := by omega
  go_enter Tryz.func38, Tryz.ntmps38
  go_wp2
  go_ret
  exact ⟨by go_num, HB.out⟩
set_option maxRecDepth 100000 in
theorem gates_14 (a b c k s1 g1 g2 g3 g4 : Int) (s2 : Bool) (VA WA TA GA : Option Addr) (vn vc wn wc tn tc gn gc : Nat) (w : World) (_hk : vn ≤ 16 ∨ 14 < 9) :
    Calls Tryz.prog 38 #[.agg #[.int .i64 14, .int .i64 a, .int .i64 b, .int .i64 c, .int .u64 k, .slice VA vn vc, .slice WA wn wc, .int .i64 s1, .bool s2, .int .i64 g1, .int .i64 g2, .int .i64 g3, .int .u64 g4, .slice TA tn tc, .slice GA gn gc]] w fun e W' => e = .returned (.int .i64 ((gatesN 14 vn : Nat) : Int)) ∧ Below w.heap.size w W' := by
  have hb := (Below.refl w.heap.size w).alloc (Nat.le_refl _) (.cells #[.int .i64 14, .int .i64 a, .int .i64 b, .int .i64 c, .int .u64 k, .slice VA vn vc, .slice WA wn wc, .int .i64 s1, .bool s2, .int .i64 g1, .int .i64 g2, .int .i64 g3, .int .u64 g4, .slice TA tn tc, .slice GA gn gc] 46)
  have k0 := heap_alloc_new w (.cells #[.int .i64 14, .int .i64 a, .int .i64 b, .int .i64 c, .int .u64 k, .slice VA vn vc, .slice WA wn wc, .int .i64 s1, .bool s2, .int .i64 g1, .int .i64 g2, .int .i64 g3, .int .u64 g4, .slice TA tn tc, .slice GA gn gc] 46)
  have q0 : World.cell? _ ⟨w.heap.size, 0, none⟩ = some (.int .i64 14) := cell_in k0
  have q5 : World.cell? _ ⟨w.heap.size, 5, none⟩ = some (.slice VA vn vc) := cell_in k0
  have HB := Lib.hid hb
  clear hb k0
  have hv : vn ≤ 16 := by omega
  go_enter Tryz.func38, Tryz.ntmps38
  go_wp2
  go_ret
  exact ⟨by go_num, HB.out⟩
theorem gates_any (m : Nat) (hm : m < 15) (a b c k s1 g1 g2 g3 g4 : Int) (s2 : Bool) (VA WA TA GA : Option Addr) (vn vc wn wc tn tc gn gc : Nat) (w : World) (hk : vn ≤ 16 ∨ m < 9) :
    Calls Tryz.prog 38 #[.agg #[.int .i64 ((m : Nat) : Int), .int .i64 a, .int .i64 b, .int .i64 c, .int .u64 k, .slice VA vn vc, .slice WA wn wc, .int .i64 s1, .bool s2, .int .i64 g1, .int .i64 g2, .int .i64 g3, .int .u64 g4, .slice TA tn tc, .slice GA gn gc]] w fun e W' => e = .returned (.int .i64 ((gatesN m vn : Nat) : Int)) ∧ Below w.heap.size w W' := by
  have hc : m = 0 ∨ m = 1 ∨ m = 2 ∨ m = 3 ∨ m = 4 ∨ m = 5 ∨ m = 6 ∨ m = 7 ∨ m = 8 ∨ m = 9 ∨ m = 10 ∨ m = 11 ∨ m = 12 ∨ m = 13 ∨ m = 14 := by omega
  rcases hc with rfl | rfl | rfl | rfl | rfl | rfl | rfl | rfl | rfl | rfl | rfl | rfl | rfl | rfl | rfl
  · exact gates_0 a b c k s1 g1 g2 g3 g4 s2 VA WA TA GA vn vc wn wc tn tc gn gc w hk
  · exact gates_1 a b c k s1 g1 g2 g3 g4 s2 VA WA TA GA vn vc wn wc tn tc gn gc w hk
  · exact gates_2 a b c k s1 g1 g2 g3 g4 s2 VA WA TA GA vn vc wn wc tn tc gn gc w hk
  · exact gates_3 a b c k s1 g1 g2 g3 g4 s2 VA WA TA GA vn vc wn wc tn tc gn gc w hk
  · exact gates_4 a b c k s1 g1 g2 g3 g4 s2 VA WA TA GA vn vc wn wc tn tc gn gc w hk
  · exact gates_5 a b c k s1 g1 g2 g3 g4 s2 VA WA TA GA vn vc wn wc tn tc gn gc w hk
  · exact gates_6 a b c k s1 g1 g2 g3 g4 s2 VA WA TA GA vn vc wn wc tn tc gn gc w hk
  · exact gates_7 a b c k s1 g1 g2 g3 g4 s2 VA WA TA GA vn vc wn wc tn tc gn gc w hk
  · exact gates_8 a b c k s1 g1 g2 g3 g4 s2 VA WA TA GA vn vc wn wc tn tc gn gc w hk
  · exact gates_9 a b c k s1 g1 g2 g3 g4 s2 VA WA TA GA vn vc wn wc tn tc gn gc w hk
  · exact gates_10 a b c k s1 g1 g2 g3 g4 s2 VA WA TA GA vn vc wn wc tn tc gn gc w hk
  · exact gates_11 a b c k s1 g1 g2 g3 g4 s2 VA WA TA GA vn vc wn wc tn tc gn gc w hk
  · exact gates_12 a b c k s1 g1 g2 g3 g4 s2 VA WA TA GA vn vc wn wc tn tc gn gc w hk
  · exact gates_13 a b c k s1 g1 g2 g3 g4 s2 VA WA TA GA vn vc wn wc tn tc gn gc w hk
  · exact gates_14 a b c k s1 g1 g2 g3 g4 s2 VA WA TA GA vn vc wn wc tn tc gn gc w hk
set_option maxRecDepth 100000 in
theorem products_0 (a b c k s1 g1 g2 g3 g4 : Int) (s2 : Bool) (VA WA TA GA : Option Addr) (vn vc wn wc tn tc gn gc : Nat) (w : World) (_hk : vn ≤ 16 ∨ 0 < 9) :
    Calls Tryz.prog 42 #[.agg #[.int .i64 0, .int .i64 a, .int .i64 b, .int .i64 c, .int .u64 k, .slice VA vn vc, .slice WA wn wc, .int .i64 s1, .bool s2, .int .i64 g1, .int .i64 g2, .int .i64 g3, .int .u64 g4, .slice TA tn tc, .slice GA gn gc]] w fun e W' => e = .returned (.int .i64 ((prodN 0 vn : Nat) : Int)) ∧ Below w.heap.size w W' := by
  have hb := (Below.refl w.heap.size w).alloc (Nat.le_refl _) (.cells #[.int .i64 0, .int .i64 a, .int .i64 b, .int .i64 c, .int .u64 k, .slice VA vn vc, .slice WA wn wc, .int .i64 s1, .bool s2, .int .i64 g1, .int .i64 g2, .int .i64 g3, .int .u64 g4, .slice TA tn tc, .slice GA gn gc] 46)
  have k0 := heap_alloc_new w (.cells #[.int .i64 0, .int .i64 a, .int .i64 b, .int .i64 c, .int .u64 k, .slice VA vn vc, .slice WA wn wc, .int .i64 s1, .bool s2, .int .i64 g1, .int .i64 g2, .int .i64 g3, .int .u64 g4, .slice TA tn tc, .slice GA gn gc] 46)
  have q0 : World.cell? _ ⟨w.heap.size, 0, none⟩ = some (.int .i64 0) := cell_in k0
  have q5 : World.cell? _ ⟨w.heap.size, 5, none⟩ = some (.slice VA vn vc) := cell_in k0
  have HB := Lib.hid hb
  clear hb k0
  go_enter Tryz.func42, Tryz.ntmps42
  go_wp2
  go_ret
  exact ⟨rfl, HB.out⟩
set_option maxRecDepth 100000 in
theorem products_1 (a b c k s1 g1 g2 g3 g4 : Int) (s2 : Bool) (VA WA TA GA : Option Addr) (vn vc wn wc tn tc gn gc : Nat) (w : World) (_hk : vn ≤ 16 ∨ 1 < 9) :
    Calls Tryz.prog 42 #[.agg #[.int .i64 1, .int .i64 a, .int .i64 b, .int .i64 c, .int .u64 k, .slice VA vn vc, .slice WA wn wc, .int .i64 s1, .bool s2, .int .i64 g1, .int .i64 g2, .int .i64 g3, .int .u64 g4, .slice TA tn tc, .slice GA gn gc]] w fun e W' => e = .returned (.int .i64 ((prodN 1 vn : Nat) : Int)) ∧ Below w.heap.size w W' := by
  have hb := (Below.refl w.heap.size w).alloc (Nat.le_refl _) (.cells #[.int .i64 1, .int .i64 a, .int .i64 b, .int .i64 c, .int .u64 k, .slice VA vn vc, .slice WA wn wc, .int .i64 s1, .bool s2, .int .i64 g1, .int .i64 g2, .int .i64 g3, .int .u64 g4, .slice TA tn tc, .slice GA gn gc] 46)
  have k0 := heap_alloc_new w (.cells #[.int .i64 1, .int .i64 a, .int .i64 b, .int .i64 c, .int .u64 k, .slice VA vn vc, .slice WA wn wc, .int .i64 s1, .bool s2, .int .i64 g1, .int .i64 g2, .int .i64 g3, .int .u64 g4, .slice TA tn tc, .slice GA gn gc] 46)
  have q0 : World.cell? _ ⟨w.heap.size, 0, none⟩ = some (.int .i64 1) := cell_in k0
  have q5 : World.cell? _ ⟨w.heap.size, 5, none⟩ = some (.slice VA vn vc) := cell_in k0
  have HB := Lib.hid hb
  clear hb k0
  go_enter Tryz.func42, Tryz.ntmps42
  go_wp2
  go_ret
  exact ⟨rfl, HB.out⟩
set_option maxRecDepth 100000 in
theorem products_2 (a b c k s1 g1 g2 g3 g4 : Int) (s2 : Bool) (VA WA TA GA : Option Addr) (vn vc wn wc tn tc gn gc : Nat) (w : World) (_hk : vn ≤ 16 ∨ 2 < 9) :
    Calls Tryz.prog 42 #[.agg #[.int .i64 2, .int .i64 a, .int .i64 b, .int .i64 c, .int .u64 k, .slice VA vn vc, .slice WA wn wc, .int .i64 s1, .bool s2, .int .i64 g1, .int .i64 g2, .int .i64 g3, .int .u64 g4, .slice TA tn tc, .slice GA gn gc]] w fun e W' => e = .returned (.int .i64 ((prodN 2 vn : Nat) : Int)) ∧ Below w.heap.size w W' := by
  have hb := (Below.refl w.heap.size w).alloc (Nat.le_refl _) (.cells #[.int .i64 2, .int .i64 a, .int .i64 b, .int .i64 c, .int .u64 k, .slice VA vn vc, .slice WA wn wc, .int .i64 s1, .bool s2, .int .i64 g1, .int .i64 g2, .int .i64 g3, .int .u64 g4, .slice TA tn tc, .slice GA gn gc] 46)
  have k0 := heap_alloc_new w (.cells #[.int .i64 2, .int .i64 a, .int .i64 b, .int .i64 c, .int .u64 k, .slice VA vn vc, .slice WA wn wc, .int .i64 s1, .bool s2, .int .i64 g1, .int .i64 g2, .int .i64 g3, .int .u64 g4, .slice TA tn tc, .slice GA gn gc] 46)
  have q0 : World.cell? _ ⟨w.heap.size, 0, none⟩ = some (.int .i64 2) := cell_in k0
  have q5 : World.cell? _ ⟨w.heap.size, 5, none⟩ = some (.slice VA vn vc) := cell_in k0
  have HB := Lib.hid hb
  clear hb k0
  go_enter Tryz.func42, Tryz.ntmps42
  go_wp2
  go_ret
  exact ⟨rfl, HB.out⟩
set_option maxRecDepth 100000 in
theorem products_3 (a b c k s1 g1 g2 g3 g4 : Int) (s2 : Bool) (VA WA TA GA : Option Addr) (vn vc wn wc tn tc gn gc : Nat) (w : World) (_hk : vn ≤ 16 ∨ 3 < 9) :
    Calls Tryz.prog 42 #[.agg #[.int .i64 3, .int .i64 a, .int .i64 b, .int .i64 c, .int .u64 k, .slice VA vn vc, .slice WA wn wc, .int .i64 s1, .bool s2, .int .i64 g1, .int .i64 g2, .int .i64 g3, .int .u64 g4, .slice TA tn tc, .slice GA gn gc]] w fun e W' => e = .returned (.int .i64 ((prodN 3 vn : Nat) : Int)) ∧ Below w.heap.size w W' := by
  have hb := (Below.refl w.heap.size w).alloc (Nat.le_refl _) (.cells #[.int .i64 3, .int .i64 a, .int .i64 b, .int .i64 c, .int .u64 k, .slice VA vn vc, .slice WA wn wc, .int .i64 s1, .bool s2, .int .i64 g1, .int .i64 g2, .int .i64 g3, .int .u64 g4, .slice TA tn tc, .slice GA gn gc] 46)
  have k0 := heap_alloc_new w (.cells #[.int .i64 3, .int .i64 a, .int .i64 b, .int .i64 c, .int .u64 k, .slice VA vn vc, .slice WA wn wc, .int .i64 s1, .bool s2, .int .i64 g1, .int .i64 g2, .int .i64 g3, .int .u64 g4, .slice TA tn tc, .slice GA gn gc] 46)
  have q0 : World.cell? _ ⟨w.heap.size, 0, none⟩ = some (.int .i64 3) := cell_in k0
  have q5 : World.cell? _ ⟨w.heap.size, 5, none⟩ = some (.slice VA vn vc) := cell_in k0
  have HB := Lib.hid hb
  clear hb k0
  go_enter Tryz.func42, Tryz.ntmps42
  go_wp2
  go_ret
  exact ⟨rfl, HB.out⟩
set_option maxRecDepth 100000 in
theorem products_4 (a b c k s1 g1 g2 g3 g4 : Int) (s2 : Bool) (VA WA TA GA : Option Addr) (vn vc wn wc tn tc gn gc : Nat) (w : World) (_hk : vn ≤ 16 ∨ 4 < 9) :
    Calls Tryz.prog 42 #[.agg #[.int .i64 4, .int .i64 a, .int .i64 b, .int .i64 c, .int .u64 k, .slice VA vn vc, .slice WA wn wc, .int .i64 s1, .bool s2, .int .i64 g1, .int .i64 g2, .int .i64 g3, .int .u64 g4, .slice TA tn tc, .slice GA gn gc]] w fun e W' => e = .returned (.int .i64 ((prodN 4 vn : Nat) : Int)) ∧ Below w.heap.size w W' := by
  have hb := (Below.refl w.heap.size w).alloc (Nat.le_refl _) (.cells #[.int .i64 4, .int .i64 a, .int .i64 b, .int .i64 c, .int .u64 k, .slice VA vn vc, .slice WA wn wc, .int .i64 s1, .bool s2, .int .i64 g1, .int .i64 g2, .int .i64 g3, .int .u64 g4, .slice TA tn tc, .slice GA gn gc] 46)
  have k0 := heap_alloc_new w (.cells #[.int .i64 4, .int .i64 a, .int .i64 b, .int .i64 c, .int .u64 k, .slice VA vn vc, .slice WA wn wc, .int .i64 s1, .bool s2, .int .i64 g1, .int .i64 g2, .int .i64 g3, .int .u64 g4, .slice TA tn tc, .slice GA gn gc] 46)
  have q0 : World.cell? _ ⟨w.heap.size, 0, none⟩ = some (.int .i64 4) := cell_in k0
  have q5 : World.cell? _ ⟨w.heap.size, 5, none⟩ = some (.slice VA vn vc) := cell_in k0
  have HB := Lib.hid hb
  clear hb k0
  go_enter Tryz.func42, Tryz.ntmps42
  go_wp2
  go_ret
  exact ⟨rfl, HB.out⟩
set_option maxRecDepth 100000 in
theorem products_5 (a b c k s1 g1 g2 g3 g4 : Int) (s2 : Bool) (VA WA TA GA : Option Addr) (vn vc wn wc tn tc gn gc : Nat) (w : World) (_hk : vn ≤ 16 ∨ 5 < 9) :
    Calls Tryz.prog 42 #[.agg #[.int .i64 5, .int .i64 a, .int .i64 b, .int .i64 c, .int .u64 k, .slice VA vn vc, .slice WA wn wc, .int .i64 s1, .bool s2, .int .i64 g1, .int .i64 g2, .int .i64 g3, .int .u64 g4, .slice TA tn tc, .slice GA gn gc]] w fun e W' => e = .returned (.int .i64 ((prodN 5 vn : Nat) : Int)) ∧ Below w.heap.size w W' := by
  have hb := (Below.refl w.heap.size w).alloc (Nat.le_refl _) (.cells #[.int .i64 5, .int .i64 a, .int .i64 b, .int .i64 c, .int .u64 k, .slice VA vn vc, .slice WA wn wc, .int .i64 s1, .bool s2, .int .i64 g1, .int .i64 g2, .int .i64 g3, .int .u64 g4, .slice TA tn tc, .slice GA gn gc] 46)
  have k0 := heap_alloc_new w (.cells #[.int .i64 5, .int .i64 a, .int .i64 b, .int .i64 c, .int .u64 k, .slice VA vn vc, .slice WA wn wc, .int .i64 s1, .bool s2, .int .i64 g1, .int .i64 g2, .int .i64 g3, .int .u64 g4, .slice TA tn tc, .slice GA gn gc] 46)
  have q0 : World.cell? _ ⟨w.heap.size, 0, none⟩ = some (.int .i64 5) := cell_in k0
  have q5 : World.cell? _ ⟨w.heap.size, 5, none⟩ = some (.slice VA vn vc) := cell_in k0
  have HB := Lib.hid hb
  clear hb k0
  go_enter Tryz.func42, Tryz.ntmps42
  go_wp2
  go_ret
  exact ⟨rfl, HB.out⟩
set_option maxRecDepth 100000 in
theorem products_6 (a b c k s1 g1 g2 g3 g4 : Int) (s2 : Bool) (VA WA TA GA : Option Addr) (vn vc wn wc tn tc gn gc : Nat) (w : World) (_hk : vn ≤ 16 ∨ 6 < 9) :
    Calls Tryz.prog 42 #[.agg #[.int .i64 6, .int .i64 a, .int .i64 b, .int .i64 c, .int .u64 k, .slice VA vn vc, .slice WA wn wc, .int .i64 s1, .bool s2, .int .i64 g1, .int .i64 g2, .int .i64 g3, .int .u64 g4, .slice TA tn tc, .slice GA gn gc]] w fun e W' => e = .returned (.int .i64 ((prodN 6 vn : Nat) : Int)) ∧ Below w.heap.size w W' := by
  have hb := (Below.refl w.heap.size w).alloc (Nat.le_refl _) (.cells #[.int .i64 6, .int .i64 a, .int .i64 b, .int .i64 c, .int .u64 k, .slice VA vn vc, .slice WA wn wc, .int .i64 s1, .bool s2, .int .i64 g1, .int .i64 g2, .int .i64 g3, .int .u64 g4, .slice TA tn tc, .slice GA gn gc] 46)
  have k0 := heap_alloc_new w (.cells #[.int .i64 6, .int .i64 a, .int .i64 b, .int .i64 c, .int .u64 k, .slice VA vn vc, .slice WA wn wc, .int .i64 s1, .bool s2, .int .i64 g1, .int .i64 g2, .int .i64 g3, .int .u64 g4, .slice TA tn tc, .slice GA gn gc] 46)
  have q0 : World.cell? _ ⟨w.heap.size, 0, none⟩ = some (.int .i64 6) := cell_in k0
  have q5 : World.cell? _ ⟨w.heap.size, 5, none⟩ = some (.slice VA vn vc) := cell_in k0
  have HB := Lib.hid hb
  clear hb k0
  go_enter Tryz.func42, Tryz.ntmps42
  go_wp2
  go_ret
  exact ⟨rfl, HB.out⟩
set_option maxRecDepth 100000 in
theorem products_7 (a b c k s1 g1 g2 g3 g4 : Int) (s2 : Bool) (VA WA TA GA : Option Addr) (vn vc wn wc tn tc gn gc : Nat) (w : World) (_hk : vn ≤ 16 ∨ 7 < 9) :
    Calls Tryz.prog 42 #[.agg #[.int .i64 7, .int .i64 a, .int .i64 b, .int .i64 c, .int .u64 k, .slice VA vn vc, .slice WA wn wc, .int .i64 s1, .bool s2, .int .i64 g1, .int .i64 g2, .int .i64 g3, .int .u64 g4, .slice TA tn tc, .slice GA gn gc]] w fun e W' => e = .returned (.int .i64 ((prodN 7 vn : Nat) : Int)) ∧ Below w.heap.size w W' := by
  have hb := (Below.refl w.heap.size w).alloc (Nat.le_refl _) (.cells #[.int .i64 7, .int .i64 a, .int .i64 b, .int .i64 c, .int .u64 k, .slice VA vn vc, .slice WA wn wc, .int .i64 s1, .bool s2, .int .i64 g1, .int .i64 g2, .int .i64 g3, .int .u64 g4, .slice TA tn tc, .slice GA gn gc] 46)
  have k0 := heap_alloc_new w (.cells #[.int .i64 7, .int .i64 a, .int .i64 b, .int .i64 c, .int .u64 k, .slice VA vn vc, .slice WA wn wc, .int .i64 s1, .bool s2, .int .i64 g1, .int .i64 g2, .int .i64 g3, .int .u64 g4, .slice TA tn tc, .slice GA gn gc] 46)
  have q0 : World.cell? _ ⟨w.heap.size, 0, none⟩ = some (.int .i64 7) := cell_in k0
  have q5 : World.cell? _ ⟨w.heap.size, 5, none⟩ = some (.slice VA vn vc) := cell_in k0
  have HB := Lib.hid hb
  clear hb k0
  go_enter Tryz.func42, Tryz.ntmps42
  go_wp2
  go_ret
  exact ⟨rfl, HB.out⟩
set_option maxRecDepth 100000 in
theorem products_8 (a b c k s1 g1 g2 g3 g4 : Int) (s2 : Bool) (VA WA TA GA : Option Addr) (vn vc wn wc tn tc gn gc : Nat) (w : World) (_hk : vn ≤ 16 ∨ 8 < 9) :
    Calls Tryz.prog 42 #[.agg #[.int .i64 8, .int .i64 a, .int .i64 b, .int .i64 c, .int .u64 k, .slice VA vn vc, .slice WA wn wc, .int .i64 s1, .bool s2, .int .i64 g1, .int .i64 g2, .int .i64 g3, .int .u64 g4, .slice TA tn tc, .slice GA gn gc]] w fun e W' => e = .returned (.int .i64 ((prodN 8 vn : Nat) : Int)) ∧ Below w.heap.size w W' := by
  have hb := (Below.refl w.heap.size w).alloc (Nat.le_refl _) (.cells #[.int .i64 8, .int .i64 a, .int .i64 b, .int .i64 c, .int .u64 k, .slice VA vn vc, .slice WA wn wc, .int .i64 s1, .bool s2, .int .i64 g1, .int .i64 g2, .int .i64 g3, .int .u64 g4, .slice TA tn tc, .slice GA gn gc] 46)
  have k0 := heap_alloc_new w (.cells #[.int .i64 8, .int .i64 a, .int .i64 b, .int .i64 c, .int .u64 k, .slice VA vn vc, .slice WA wn wc, .int .i64 s1, .bool s2, .int .i64 g1, .int .i64 g2, .int .i64 g3, .int .u64 g4, .slice TA tn tc, .slice GA gn gc] 46)
  have q0 : World.cell? _ ⟨w.heap.size, 0, none⟩ = some (.int .i64 8) := cell_in k0
  have q5 : World.cell? _ ⟨w.heap.size, 5, none⟩ = some (.slice VA vn vc) := cell_in k0
  have HB := Lib.hid hb
  clear hb k0
  go_enter Tryz.func42, Tryz.ntmps42
  go_wp2
  go_ret
  exact ⟨rfl, HB.out⟩
set_option maxRecDepth 100000 in
theorem products_9 (a b c k s1 g1 g2 g3 g4 : Int) (s2 : Bool) (VA WA TA GA : Option Addr) (vn vc wn wc tn tc gn gc : Nat) (w : World) (_hk : vn ≤ 16 ∨ 9 < 9) :
    Calls Tryz.prog 42 #[.agg #[.int .i64 9, .int .i64 a, .int .i64 b, .int .i64 c, .int .u64 k, .slice VA vn vc, .slice WA wn wc, .int .i64 s1, .bool s2, .int .i64 g1, .int .i64 g2, .int .i64 g3, .int .u64 g4, .slice TA tn tc, .slice GA gn gc]] w fun e W' => e = .returned (.int .i64 ((prodN 9 vn : Nat) : Int)) ∧ Below w.heap.size w W' := by
  have hb := (Below.refl w.heap.size w).alloc (Nat.le_refl _) (.cells #[.int .i64 9, .int .i64 a, .int .i64 b, .int .i64 c, .int .u64 k, .slice VA vn vc, .slice WA wn wc, .int .i64 s1, .bool s2, .int .i64 g1, .int .i64 g2, .int .i64 g3, .int .u64 g4, .slice TA tn tc, .slice GA gn gc] 46)
  have k0 := heap_alloc_new w (.cells #[.int .i64 9, .int .i64 a, .int .i64 b, .int .i64 c, .int .u64 k, .slice VA vn vc, .slice WA wn wc, .int .i64 s1, .bool s2, .int .i64 g1, .int .i64 g2, .int .i64 g3, .int .u64 g4, .slice TA tn tc, .slice GA gn gc] 46)
  have q0 : World.cell? _ ⟨w.heap.size, 0, none⟩ = some (.int .i64 9) := cell_in k0
  have q5 : World.cell? _ ⟨w.heap.size, 5, none⟩ = some (.slice VA vn vc) := cell_in k0
  have HB := Lib.hid hb
  clear hb k0
  go_enter Tryz.func42, Tryz.ntmps42
  go_wp2
  go_ret
  exact ⟨rfl, HB.out⟩
set_option maxRecDepth 100000 in
theorem products_10 (a b c k s1 g1 g2 g3 g4 : Int) (s2 : Bool) (VA WA TA GA : Option Addr) (vn vc wn wc tn tc gn gc : Nat) (w : World) (_hk : vn ≤ 16 ∨ 10 < 9) :
    Calls Tryz.prog 42 #[.agg #[.int .i64 10, .int .i64 a, .int .i64 b, .int .i64 c, .int .u64 k, .slice VA vn vc, .slice WA wn wc, .int .i64 s1, .bool s2, .int .i64 g1, .int .i64 g2, .int .i64 g3, .int .u64 g4, .slice TA tn tc, .slice GA gn gc]] w fun e W' => e = .returned (.int .i64 ((prodN 10 vn : Nat) : Int)) ∧ Below w.heap.size w W' := by
  have hb := (Below.refl w.heap.size w).alloc (Nat.le_refl _) (.cells #[.int .i64 10, .int .i64 a, .int .i64 b, .int .i64 c, .int .u64 k, .slice VA vn vc, .slice WA wn wc, .int .i64 s1, .bool s2, .int .i64 g1, .int .i64 g2, .int .i64 g3, .int .u64 g4, .slice TA tn tc, .slice GA gn gc] 46)
  have k0 := heap_alloc_new w (.cells #[.int .i64 10, .int .i64 a, .int .i64 b, .int .i64 c, .int .u64 k, .slice VA vn vc, .slice WA wn wc, .int .i64 s1, .bool s2, .int .i64 g1, .int .i64 g2, .int .i64 g3, .int .u64 g4, .slice TA tn tc, .slice GA gn gc] 46)
  have q0 : World.cell? _ ⟨w.heap.size, 0, none⟩ = some (.int .i64 10) := cell_in k0
  have q5 : World.cell? _ ⟨w.heap.size, 5, none⟩ = some (.slice VA vn vc) := cell_in k0
  have HB := Lib.hid hb
  clear hb k0
  have hv : vn ≤ 16 := by omega
  go_enter Tryz.func42, Tryz.ntmps42
  go_wp2
  go_ret
  exact ⟨by go_num, HB.out⟩
set_option maxRecDepth 100000 in
theorem products_11 (a b c k s1 g1 g2 g3 g4 : Int) (s2 : Bool) (VA WA TA GA : Option Addr) (vn vc wn wc tn tc gn gc : Nat) (w : World) (_hk : vn ≤ 16 ∨ 11 < 9) :
    Calls Tryz.prog 42 #[.agg #[.int .i64 11, .int .i64 a, .int .i64 b, .int .i64 c, .int .u64 k, .slice VA vn vc, .slice WA wn wc, .int .i64 s1, .bool s2, .int .i64 g1, .int .i64 g2, .int .i64 g3, .int .u64 g4, .slice TA tn tc, .slice GA gn gc]] w fun e W' => e = .returned (.int .i64 ((prodN 11 vn : Nat) : Int)) ∧ Below w.heap.size w W' := by
  have hb := (Below.refl w.heap.size w).alloc (Nat.le_refl _) (.cells #[.int .i64 11, .int .i64 a, .int .i64 b, .int .i64 c, .int .u64 k, .slice VA vn vc, .slice WA wn wc, .int .i64 s1, .bool s2, .int .i64 g1, .int .i64 g2, .int .i64 g3, .int .u64 g4, .slice TA tn tc, .slice GA gn gc] 46)
  have k0 := heap_alloc_new w (.cells #[.int .i64 11, .int .i64 a, .int .i64 b, .int .i64 c, .int .u64 k, .slice VA vn vc, .slice WA wn wc, .int .i64 s1, .bool s2, .int .i64 g1, .int .i64 g2, .int .i64 g3, .int .u64 g4, .slice TA tn tc, .slice GA gn gc] 46)
  have q0 : World.cell? _ ⟨w.heap.size, 0, none⟩ = some (.int .i64 11) := cell_in k0
  have q5 : World.cell? _ ⟨w.heap.size, 5, none⟩ = some (.slice VA vn vc) := cell_in k0
  have HB := Lib.hid hb
  clear hb k0
  have hv : vn ≤ 16 := by omega
  go_enter Tryz.func42, Tryz.ntmps42
  go_wp2
  go_ret
  exact ⟨by go_num, HB.out⟩
set_option maxRecDepth 100000 in
theorem products_12 (a b c k s1 g1 g2 g3 g4 : Int) (s2 : Bool) (VA WA TA GA : Option Addr) (vn vc wn wc tn tc gn gc : Nat) (w : World) (_hk : vn ≤ 16 ∨ 12 < 9) :
    Calls Tryz.prog 42 #[.agg #[.int .i64 12, .int .i64 a, .int .i64 b, .int .i64 c, .int .u64 k, .slice VA vn vc, .slice WA wn wc, .int .i64 s1, .bool s2, .int .i64 g1, .int .i64 g2, .int .i64 g3, .int .u64 g4, .slice TA tn tc, .slice GA gn gc]] w fun e W' => e = .returned (.int .i64 ((prodN 12 vn : Nat) : Int)) ∧ Below w.heap.size w W' := by
  have hb := (Below.refl w.heap.size w).alloc (Nat.le_refl _) (.cells #[.int .i64 12, .int .i64 a, .int .i64 b, .int .i64 c, .int .u64 k, .slice VA vn vc, .slice WA wn wc, .int .i64 s1, .bool s2, .int .i64 g1, .int .i64 g2, .int .i64 g3, .int .u64 g4, .slice TA tn tc, .slice GA gn gc] 46)
  have k0 := heap_alloc_new w (.cells #[.int .i64 12, .int .i64 a, .int .i64 b, .int .i64 c, .int .u64 k, .slice VA vn vc, .slice WA wn wc, .int .i64 s1, .bool s2, .int .i64 g1, .int .i64 g2, .int .i64 g3, .int .u64 g4, .slice TA tn tc, .slice GA gn gc] 46)
  have q0 : World.cell? _ ⟨w.heap.size, 0, none⟩ = some (.int .i64 12) := cell_in k0
  have q5 : World.cell? _ ⟨w.heap.size, 5, none⟩ = some (.slice VA vn vc) := cell_in k0
  have HB := Lib.hid hb
  clear hb k0
  have hv : vn ≤ 16 := by omega
  have hm : vn * vn ≤ 16 * 16 := Nat.mul_le_mul hv hv
  have e : wrap64 (2 * (vn : Int) * (vn : Int)) = ((prodN 12 vn : Nat) : Int) := by
    have h1 : (2 * (vn : Int) * (vn : Int)) = ((2 * vn * vn : Nat) : Int) := by simp
    rw [h1]
    show wrap64 _ = ((2 * vn * vn : Nat) : Int)
    have h2 : 2 * vn * vn ≤ 4096 := by rw [Nat.mul_assoc]; omega
    generalize 2 * vn * vn = q at *
    unfold wrap64
    omega
  go_enter Tryz.func42, Tryz.ntmps42
  go_wp2
  go_ret
  exact ⟨by rw [← e]; rfl, HB.out⟩
set_option maxRecDepth 100000 in
theorem products_13 (a b c k s1 g1 g2 g3 g4 : Int) (s2 : Bool) (VA WA TA GA : Option Addr) (vn vc wn wc tn tc gn gc : Nat) (w : World) (_hk : vn ≤ 16 ∨ 13 < 9) :
    Calls Tryz.prog 42 #[.agg #[.int .i64 13, .int .i64 a, .int .i64 b, .int .i64 c, .int .u64 k, .slice VA vn vc, .slice WA wn wc, .int .i64 s1, .bool s2, .int .i64 g1, .int .i64 g2, .int .i64 g3, .int .u64 g4, .slice TA tn tc, .slice GA gn gc]] w fun e W' => e = .returned (.int .i64 ((prodN 13 vn : Nat) : Int)) ∧ Below w.heap.size w W' := by
  have hb := (Below.refl w.heap.size w).alloc (Nat.le_refl _) (.cells #[.int .i64 13, .int .i64 a, .int .i64 b, .int .i64 c, .int .u64 k, .slice VA vn vc, .slice WA wn wc, .int .i64 s1, .bool s2, .int .i64 g1, .int .i64 g2, .int .i64 g3, .int .u64 g4, .slice TA tn tc, .slice GA gn gc] 46)
  have k0 := heap_alloc_new w (.cells #[.int .i64 13, .int .i64 a, .int .i64 b, .int .i64 c, .int .u64 k, .slice VA vn vc, .slice WA wn wc, .int .i64 s1, .bool s2, .int .i64 g1, .int .i64 g2, .int .i64 g3, .int .u64 g4, .slice TA tn tc, .slice GA gn gc] 46)
  have q0 : World.cell? _ ⟨w.heap.size, 0, none⟩ = some (.int .i64 13) := cell_in k0
  have q5 : World.cell? _ ⟨w.heap.size, 5, none⟩ = some (.slice VA vn vc) := cell_in k0
  have HB := Lib.hid hb
  clear hb k0
  have hv : vn ≤ 16 := by omega
  go_enter Tryz.func42, Tryz.ntmps42
  go_wp2
  go_ret
  exact ⟨by go_num, HB.out⟩
set_option maxRecDepth 100000 in
theorem products_14 (a b c k s1 g1 g2 g3 g4 : Int) (s2 : Bool) (VA WA TA GA : Option Addr) (vn vc wn wc tn tc gn gc : Nat) (w : World) (_hk : vn ≤ 16 ∨ 14 < 9) :
    Calls Tryz.prog 42 #[.agg #[.int .i64 14, .int .i64 a, .int .i64 b, .int .i64 c, .int .u64 k, .slice VA vn vc, .slice WA wn wc, .int .i64 s1, .bool s2, .int .i64 g1, .int .i64 g2, .int .i64 g3, .int .u64 g4, .slice TA tn tc, .slice GA gn gc]] w fun e W' => e = .returned (.int .i64 ((prodN 14 vn : Nat) : Int)) ∧ Below w.heap.size w W' := by
  have hb := (Below.refl w.heap.size w).alloc (Nat.le_refl _) (.cells #[.int .i64 14, .int .i64 a, .int .i64 b, .int .i64 c, .int .u64 k, .slice VA vn vc, .slice WA wn wc, .int .i64 s1, .bool s2, .int .i64 g1, .int .i64 g2, .int .i64 g3, .int .u64 g4, .slice TA tn tc, .slice GA gn gc] 46)
  have k0 := heap_alloc_new w (.cells #[.int .i64 14, .int .i64 a, .int .i64 b, .int .i64 c, .int .u64 k, .slice VA vn vc, .slice WA wn wc, .int .i64 s1, .bool s2, .int .i64 g1, .int .i64 g2, .int .i64 g3, .int .u64 g4, .slice TA tn tc, .slice GA gn gc] 46)
  have q0 : World.cell? _ ⟨w.heap.size, 0, none⟩ = some (.int .i64 14) := cell_in k0
  have q5 : World.cell? _ ⟨w.heap.size, 5, none⟩ = some (.slice VA vn vc) := cell_in k0
  have HB := Lib.hid hb
  clear hb k0
  have hv : vn ≤ 16 := by omega
  go_enter Tryz.func42, Tryz.ntmps42
  go_wp2
  go_ret
  exact ⟨by go_num, HB.out⟩
theorem products_any (m : Nat) (hm : m < 15) (a b c k s1 g1 g2 g3 g4 : Int) (s2 : Bool) (VA WA TA GA : Option Addr) (vn vc wn wc tn tc gn gc : Nat) (w : World) (hk : vn ≤ 16 ∨ m < 9) :
    Calls Tryz.prog 42 #[.agg #[.int .i64 ((m : Nat) : Int), .int .i64 a, .int .i64 b, .int .i64 c, .int .u64 k, .slice VA vn vc, .slice WA wn wc, .int .i64 s1, .bool s2, .int .i64 g1, .int .i64 g2, .int .i64 g3, .int .u64 g4, .slice TA tn tc, .slice GA gn gc]] w fun e W' => e = .returned (.int .i64 ((prodN m vn : Nat) : Int)) ∧ Below w.heap.size w W' := by
  have hc : m = 0 ∨ m = 1 ∨ m = 2 ∨ m = 3 ∨ m = 4 ∨ m = 5 ∨ m = 6 ∨ m = 7 ∨ m = 8 ∨ m = 9 ∨ m = 10 ∨ m = 11 ∨ m = 12 ∨ m = 13 ∨ m = 14 := by omega
  rcases hc with rfl | rfl | rfl | rfl | rfl | rfl | rfl | rfl | rfl | rfl | rfl | rfl | rfl | rfl | rfl
  · exact products_0 a b c k s1 g1 g2 g3 g4 s2 VA WA TA GA vn vc wn wc tn tc gn gc w hk
  · exact products_1 a b c k s1 g1 g2 g3 g4 s2 VA WA TA GA vn vc wn wc tn tc gn gc w hk
  · exact products_2 a b c k s1 g1 g2 g3 g4 s2 VA WA TA GA vn vc wn wc tn tc gn gc w hk
  · exact products_3 a b c k s1 g1 g2 g3 g4 s2 VA WA TA GA vn vc wn wc tn tc gn gc w hk
  · exact products_4 a b c k s1 g1 g2 g3 g4 s2 VA WA TA GA vn vc wn wc tn tc gn gc w hk
  · exact products_5 a b c k s1 g1 g2 g3 g4 s2 VA WA TA GA vn vc wn wc tn tc gn gc w hk
  · exact products_6 a b c k s1 g1 g2 g3 g4 s2 VA WA TA GA vn vc wn wc tn tc gn gc w hk
  · exact products_7 a b c k s1 g1 g2 g3 g4 s2 VA WA TA GA vn vc wn wc tn tc gn gc w hk
  · exact products_8 a b c k s1 g1 g2 g3 g4 s2 VA WA TA GA vn vc wn wc tn tc gn gc w hk
  · exact products_9 a b c k s1 g1 g2 g3 g4 s2 VA WA TA GA vn vc wn wc tn tc gn gc w hk
  · exact products_10 a b c k s1 g1 g2 g3 g4 s2 VA WA TA GA vn vc wn wc tn tc gn gc w hk
  · exact products_11 a b c k s1 g1 g2 g3 g4 s2 VA WA TA GA vn vc wn wc tn tc gn gc w hk
  · exact products_12 a b c k s1 g1 g2 g3 g4 s2 VA WA TA GA vn vc wn wc tn tc gn gc w hk
  · exact products_13 a b c k s1 g1 g2 g3 g4 s2 VA WA TA GA vn vc wn wc tn tc gn gc w hk
  · exact products_14 a b c k s1 g1 g2 g3 g4 s2 VA WA TA GA vn vc wn wc tn tc gn gc w hk
set_option maxRecDepth 100000 in
theorem bit_any (q : Bool) (w : World) : Calls Tryz.prog 85 #[.bool q] w fun e W' => e = .returned (.int .u64 ((if q = true then 1 else 0 : Nat) : Int)) ∧ w = W' := by
  cases q
  · go_enter Tryz.func85, Tryz.ntmps85
    go_wp2
    go_ret
    exact ⟨rfl, rfl⟩
  · go_enter Tryz.func85, Tryz.ntmps85
    go_wp2
    go_ret
    exact ⟨rfl, rfl⟩
end Go.Proofs.YtkcdlbclodjjhaaGreat
