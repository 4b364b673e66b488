/- The law's step, over what its callees answer. (Printed by wip/tools/gen_sb.py.) -/
import Derived.Test.YtkcdlbclodjjhaaGreatGae
import Derived.Deep.RegionHeld3
import Derived.Deep.QuietTactic
import Derived.BigQuiet
import Derived.Test.YtkcdlbclodjjhaaGreatGah
namespace Go.Proofs.YtkcdlbclodjjhaaGreat
open Go.RowKit

theorem four_boxes (w : World) (a b c d : Obj) : (((((w.alloc a).alloc b).alloc c).alloc d).heap[w.heap.size]? = some a) ∧ (((((w.alloc a).alloc b).alloc c).alloc d).heap[w.heap.size + 1]? = some b) ∧ (((((w.alloc a).alloc b).alloc c).alloc d).heap[w.heap.size + 1 + 1]? = some c) ∧ (((((w.alloc a).alloc b).alloc c).alloc d).heap[w.heap.size + 1 + 1 + 1]? = some d) ∧ Below w.heap.size w ((((w.alloc a).alloc b).alloc c).alloc d) := by
  refine ⟨?_, ?_, ?_, ?_, ((((Below.refl _ _).alloc (Nat.le_refl _) _).alloc (by simp) _).alloc (by simp; try omega) _).alloc (by simp; try omega) _⟩
  · rw [Below.heap_alloc _ _ _ (by simp; try omega), Below.heap_alloc _ _ _ (by simp; try omega), Below.heap_alloc _ _ _ (by simp)]; exact heap_alloc_new w _
  · rw [Below.heap_alloc _ _ _ (by simp; try omega), Below.heap_alloc _ _ _ (by simp)]; have := heap_alloc_new (w.alloc a) b; simpa using this
  · rw [Below.heap_alloc _ _ _ (by simp)]; have := heap_alloc_new ((w.alloc a).alloc b) c; simpa using this
  · have := heap_alloc_new (((w.alloc a).alloc b).alloc c) d; simpa using this
theorem one_read (W : World) (v : Value) (t : TypeId) : Reads (W.alloc (.cells #[v] t)) (some ⟨W.heap.size, 0, none⟩) [v] :=
  .inr ⟨_, rfl, fun j u h => by
    cases j with
    | zero => cases h; exact cell_in (heap_alloc_new W _)
    | succ j => cases h⟩
theorem ret_true {b : Bool} (h : b = true) : Ending.returned (.bool b) = .returned (.bool true) := by rw [h]
/-- What a call answers that turns nothing. -/
def RetB (v : Value) (W : World) (e : Ending) (W' : World) : Prop := e = .returned v ∧ Below W.heap.size W W'
theorem cell_blS {w W : World} {a : Addr} {v : Value} (h : w.cell? a = some v) (hb : Below w.heap.size w W) : W.cell? a = some v := (hb.cell (World.block_lt_of_cell? _ _ h)).trans h

set_option maxHeartbeats 8000000 in
set_option maxRecDepth 100000 in
theorem step_good (p : Nat) (SA GA EA SB GB EB VA WA TA UA X IA : Option Addr) (sn sc gn gc en ec sm sd gm gd em ed vn vc wn wc tn tc un uc n cx il ic : Nat) (m a b c k s1 g1 g2 g3 g4 at_ : Int) (s2 : Bool) (w : World) (gN pN : Nat) (cd cc : Int) (hlg : ((gm : Nat) : Int) - ((gn : Nat) : Int) ≤ ((gN : Nat) : Int)) (hlc : cd - cc ≤ ((pN : Nat) : Int)) (hcw : 0 ≤ cc ∧ cc ≤ 65536 ∧ 0 ≤ cd ∧ cd ≤ 65536) (hgw : gn ≤ 65536 ∧ gm ≤ 65536) (hm : 0 ≤ m ∧ m < 15) (hsl : m ≠ 0 → sm = sn) (hel : m ≠ 2 → em = en) (hil : sm ≤ il ∧ il ≤ ic) (hIA : ∃ ad, IA = some ad) (hn : (10 ≤ m ∧ m ≤ 12 → n = vn ∧ 0 < vn) ∧ (m < 10 ∨ 12 < m → n = 0))
    (hwr : ∀ W, Below w.heap.size w W → Calls Tryz.prog 37 #[.int .u64 ((p : Nat) : Int), .agg #[.slice SA sn sc, .slice GA gn gc, .slice EA en ec], .agg #[.int .i64 m, .int .i64 a, .int .i64 b, .int .i64 c, .int .u64 k, .slice VA vn vc, .slice WA wn wc, .int .i64 s1, .bool s2, .int .i64 g1, .int .i64 g2, .int .i64 g3, .int .u64 g4, .slice TA tn tc, .slice UA un uc]] W (RetB (.int .i64 0) W))
    (hga : ∀ W, Below w.heap.size w W → Calls Tryz.prog 38 #[.agg #[.int .i64 m, .int .i64 a, .int .i64 b, .int .i64 c, .int .u64 k, .slice VA vn vc, .slice WA wn wc, .int .i64 s1, .bool s2, .int .i64 g1, .int .i64 g2, .int .i64 g3, .int .u64 g4, .slice TA tn tc, .slice UA un uc]] W (RetB (.int .i64 ((gN : Nat) : Int)) W))
    (hbe : ∀ W, Below w.heap.size w W → Calls Tryz.prog 39 #[.agg #[.slice SA sn sc, .slice GA gn gc, .slice EA en ec], .agg #[.slice SB sm sd, .slice GB gm gd, .slice EB em ed]] W (RetB (.bool true) W))
    (hck : ∀ W, Below w.heap.size w W → Calls Tryz.prog 17 #[.int .u64 ((p : Nat) : Int), .agg #[.slice SB sm sd, .slice GB gm gd, .slice EB em ed]] W (RetB (.int .i64 0) W))
    (hex : ∀ W, Below w.heap.size w W → Calls Tryz.prog 40 #[.agg #[.slice SA sn sc, .slice GA gn gc, .slice EA en ec], .agg #[.slice SB sm sd, .slice GB gm gd, .slice EB em ed], .agg #[.int .i64 m, .int .i64 a, .int .i64 b, .int .i64 c, .int .u64 k, .slice VA vn vc, .slice WA wn wc, .int .i64 s1, .bool s2, .int .i64 g1, .int .i64 g2, .int .i64 g3, .int .u64 g4, .slice TA tn tc, .slice UA un uc], .int .i64 at_] W (RetB (.bool true) W))
    (hcd : ∀ W, Below w.heap.size w W → Calls Tryz.prog 41 #[.agg #[.slice SB sm sd, .slice GB gm gd, .slice EB em ed], .int .i64 5] W (RetB (.int .i64 cd) W))
    (hcc : ∀ W, Below w.heap.size w W → Calls Tryz.prog 41 #[.agg #[.slice SA sn sc, .slice GA gn gc, .slice EA en ec], .int .i64 5] W (RetB (.int .i64 cc) W))
    (hpr : ∀ W, Below w.heap.size w W → Calls Tryz.prog 42 #[.agg #[.int .i64 m, .int .i64 a, .int .i64 b, .int .i64 c, .int .u64 k, .slice VA vn vc, .slice WA wn wc, .int .i64 s1, .bool s2, .int .i64 g1, .int .i64 g2, .int .i64 g3, .int .u64 g4, .slice TA tn tc, .slice UA un uc]] W (RetB (.int .i64 ((pN : Nat) : Int)) W))
    (hpx : ∀ W, Below w.heap.size w W → Calls Tryz.prog 18 #[.agg #[.slice SB sm sd, .slice GB gm gd, .slice EB em ed], .slice X n cx] W (RetB (.int .i64 0) W))
    (hpa : m ≠ 2 → m < 10 ∨ 12 < m → ∀ W Ab, Below w.heap.size w W → Reads W Ab [.int .i64 at_] → Calls Tryz.prog 18 #[.agg #[.slice SB sm sd, .slice GB gm gd, .slice EB em ed], .slice Ab 1 1] W (RetB (.int .i64 0) W))
    (R1 R2 : Value → World → Prop) (hin : ∀ W, Below w.heap.size w W → Calls Tryz.prog 43 #[.int .u64 ((p : Nat) : Int), .agg #[.slice SB sm sd, .slice GB gm gd, .slice EB em ed], .slice IA sm ic] W (fun e W' => ∃ v, e = .returned (.tuple #[v, .int .i64 0]) ∧ Below W.heap.size W W' ∧ R1 v W'))
    (hva : ∀ W v, Below w.heap.size w W → R1 v W → Calls Tryz.prog 19 #[.int .u64 ((p : Nat) : Int), .agg #[.slice SB sm sd, .slice GB gm gd, .slice EB em ed], v] W (fun e W' => ∃ u, e = .returned u ∧ Below W.heap.size W W' ∧ R2 u W'))
    (hwo : ∀ W u, Below w.heap.size w W → R2 u W → Calls Tryz.prog 44 #[.int .u64 ((p : Nat) : Int), .agg #[.int .i64 m, .int .i64 a, .int .i64 b, .int .i64 c, .int .u64 k, .slice VA vn vc, .slice WA wn wc, .int .i64 s1, .bool s2, .int .i64 g1, .int .i64 g2, .int .i64 g3, .int .u64 g4, .slice TA tn tc, .slice UA un uc], u] W (fun e W' => ∃ (t nb : Int) (say : Bool), e = .returned (.tuple #[.int .u64 t, .int .i64 nb, .bool say]) ∧ Below W.heap.size W W' ∧ (say = true → (nb = 0 ∧ ∃ (ad : Addr) (i vl vd : Nat), u = .slice (some ad) vl vd ∧ at_ = ((i : Nat) : Int) ∧ i < vl ∧ W'.cell? (ad.add i) = some (.int .u64 t)) ∨ (nb ≠ 0 ∧ (∀ W2, Below W'.heap.size W' W2 → Calls Tryz.prog 45 #[u, .slice X n cx] W2 (RetB (.bool true) W2)) ∧ (∀ W2, Below W'.heap.size W' W2 → Calls Tryz.prog 20 #[u, .slice X n cx] W2 (RetB (.int .u64 t) W2))))))
    : Calls Tryz.prog 10 #[.int .u64 ((p : Nat) : Int), .agg #[.slice SA sn sc, .slice GA gn gc, .slice EA en ec], .agg #[.slice SB sm sd, .slice GB gm gd, .slice EB em ed], .agg #[.int .i64 m, .int .i64 a, .int .i64 b, .int .i64 c, .int .u64 k, .slice VA vn vc, .slice WA wn wc, .int .i64 s1, .bool s2, .int .i64 g1, .int .i64 g2, .int .i64 g3, .int .u64 g4, .slice TA tn tc, .slice UA un uc], .agg #[.int .i64 at_, .slice X n cx, .int .i64 0], .slice IA il ic] w (RetB (.bool true) w) := by
  obtain ⟨x1, x2, x3, x4, hb0⟩ := four_boxes w (.cells #[.slice SA sn sc, .slice GA gn gc, .slice EA en ec] 36) (.cells #[.slice SB sm sd, .slice GB gm gd, .slice EB em ed] 36) (.cells #[.int .i64 m, .int .i64 a, .int .i64 b, .int .i64 c, .int .u64 k, .slice VA vn vc, .slice WA wn wc, .int .i64 s1, .bool s2, .int .i64 g1, .int .i64 g2, .int .i64 g3, .int .u64 g4, .slice TA tn tc, .slice UA un uc] 46) (.cells #[.int .i64 at_, .slice X n cx, .int .i64 0] 49)
  have HB0 := Lib.hid hb0
  generalize hw2 : ((((w.alloc (.cells #[.slice SA sn sc, .slice GA gn gc, .slice EA en ec] 36)).alloc (.cells #[.slice SB sm sd, .slice GB gm gd, .slice EB em ed] 36)).alloc (.cells #[.int .i64 m, .int .i64 a, .int .i64 b, .int .i64 c, .int .u64 k, .slice VA vn vc, .slice WA wn wc, .int .i64 s1, .bool s2, .int .i64 g1, .int .i64 g2, .int .i64 g3, .int .u64 g4, .slice TA tn tc, .slice UA un uc] 46)).alloc (.cells #[.int .i64 at_, .slice X n cx, .int .i64 0] 49)) = w2 at *
  have q0_0 : w2.cell? ⟨w.heap.size, 0, none⟩ = some (.slice SA sn sc) := cell_in x1
  have q0_1 : w2.cell? ⟨w.heap.size, 1, none⟩ = some (.slice GA gn gc) := cell_in x1
  have q0_2 : w2.cell? ⟨w.heap.size, 2, none⟩ = some (.slice EA en ec) := cell_in x1
  have q1_0 : w2.cell? ⟨w.heap.size + 1, 0, none⟩ = some (.slice SB sm sd) := cell_in x2
  have q1_1 : w2.cell? ⟨w.heap.size + 1, 1, none⟩ = some (.slice GB gm gd) := cell_in x2
  have q1_2 : w2.cell? ⟨w.heap.size + 1, 2, none⟩ = some (.slice EB em ed) := cell_in x2
  have q2_0 : w2.cell? ⟨w.heap.size + 1 + 1, 0, none⟩ = some (.int .i64 m) := cell_in x3
  have q2_1 : w2.cell? ⟨w.heap.size + 1 + 1, 1, none⟩ = some (.int .i64 a) := cell_in x3
  have q2_2 : w2.cell? ⟨w.heap.size + 1 + 1, 2, none⟩ = some (.int .i64 b) := cell_in x3
  have q2_3 : w2.cell? ⟨w.heap.size + 1 + 1, 3, none⟩ = some (.int .i64 c) := cell_in x3
  have q2_4 : w2.cell? ⟨w.heap.size + 1 + 1, 4, none⟩ = some (.int .u64 k) := cell_in x3
  have q2_5 : w2.cell? ⟨w.heap.size + 1 + 1, 5, none⟩ = some (.slice VA vn vc) := cell_in x3
  have q2_6 : w2.cell? ⟨w.heap.size + 1 + 1, 6, none⟩ = some (.slice WA wn wc) := cell_in x3
  have q2_7 : w2.cell? ⟨w.heap.size + 1 + 1, 7, none⟩ = some (.int .i64 s1) := cell_in x3
  have q2_8 : w2.cell? ⟨w.heap.size + 1 + 1, 8, none⟩ = some (.bool s2) := cell_in x3
  have q2_9 : w2.cell? ⟨w.heap.size + 1 + 1, 9, none⟩ = some (.int .i64 g1) := cell_in x3
  have q2_10 : w2.cell? ⟨w.heap.size + 1 + 1, 10, none⟩ = some (.int .i64 g2) := cell_in x3
  have q2_11 : w2.cell? ⟨w.heap.size + 1 + 1, 11, none⟩ = some (.int .i64 g3) := cell_in x3
  have q2_12 : w2.cell? ⟨w.heap.size + 1 + 1, 12, none⟩ = some (.int .u64 g4) := cell_in x3
  have q2_13 : w2.cell? ⟨w.heap.size + 1 + 1, 13, none⟩ = some (.slice TA tn tc) := cell_in x3
  have q2_14 : w2.cell? ⟨w.heap.size + 1 + 1, 14, none⟩ = some (.slice UA un uc) := cell_in x3
  have q3_0 : w2.cell? ⟨w.heap.size + 1 + 1 + 1, 0, none⟩ = some (.int .i64 at_) := cell_in x4
  have q3_1 : w2.cell? ⟨w.heap.size + 1 + 1 + 1, 1, none⟩ = some (.slice X n cx) := cell_in x4
  have q3_2 : w2.cell? ⟨w.heap.size + 1 + 1 + 1, 2, none⟩ = some (.int .i64 0) := cell_in x4
  clear x1 x2 x3 x4 hb0
  have HCE : Hid (∀ W, Below w2.heap.size w2 W → (fun W => W.cell? ⟨w.heap.size, 0, none⟩ = some (.slice SA sn sc) ∧ W.cell? ⟨w.heap.size, 1, none⟩ = some (.slice GA gn gc) ∧ W.cell? ⟨w.heap.size, 2, none⟩ = some (.slice EA en ec) ∧ W.cell? ⟨w.heap.size + 1, 0, none⟩ = some (.slice SB sm sd) ∧ W.cell? ⟨w.heap.size + 1, 1, none⟩ = some (.slice GB gm gd) ∧ W.cell? ⟨w.heap.size + 1, 2, none⟩ = some (.slice EB em ed) ∧ W.cell? ⟨w.heap.size + 1 + 1, 0, none⟩ = some (.int .i64 m) ∧ W.cell? ⟨w.heap.size + 1 + 1, 1, none⟩ = some (.int .i64 a) ∧ W.cell? ⟨w.heap.size + 1 + 1, 2, none⟩ = some (.int .i64 b) ∧ W.cell? ⟨w.heap.size + 1 + 1, 3, none⟩ = some (.int .i64 c) ∧ W.cell? ⟨w.heap.size + 1 + 1, 4, none⟩ = some (.int .u64 k) ∧ W.cell? ⟨w.heap.size + 1 + 1, 5, none⟩ = some (.slice VA vn vc) ∧ W.cell? ⟨w.heap.size + 1 + 1, 6, none⟩ = some (.slice WA wn wc) ∧ W.cell? ⟨w.heap.size + 1 + 1, 7, none⟩ = some (.int .i64 s1) ∧ W.cell? ⟨w.heap.size + 1 + 1, 8, none⟩ = some (.bool s2) ∧ W.cell? ⟨w.heap.size + 1 + 1, 9, none⟩ = some (.int .i64 g1) ∧ W.cell? ⟨w.heap.size + 1 + 1, 10, none⟩ = some (.int .i64 g2) ∧ W.cell? ⟨w.heap.size + 1 + 1, 11, none⟩ = some (.int .i64 g3) ∧ W.cell? ⟨w.heap.size + 1 + 1, 12, none⟩ = some (.int .u64 g4) ∧ W.cell? ⟨w.heap.size + 1 + 1, 13, none⟩ = some (.slice TA tn tc) ∧ W.cell? ⟨w.heap.size + 1 + 1, 14, none⟩ = some (.slice UA un uc) ∧ W.cell? ⟨w.heap.size + 1 + 1 + 1, 0, none⟩ = some (.int .i64 at_) ∧ W.cell? ⟨w.heap.size + 1 + 1 + 1, 1, none⟩ = some (.slice X n cx) ∧ W.cell? ⟨w.heap.size + 1 + 1 + 1, 2, none⟩ = some (.int .i64 0)) W) := Lib.hid fun W hb => ⟨cell_blS q0_0 hb, cell_blS q0_1 hb, cell_blS q0_2 hb, cell_blS q1_0 hb, cell_blS q1_1 hb, cell_blS q1_2 hb, cell_blS q2_0 hb, cell_blS q2_1 hb, cell_blS q2_2 hb, cell_blS q2_3 hb, cell_blS q2_4 hb, cell_blS q2_5 hb, cell_blS q2_6 hb, cell_blS q2_7 hb, cell_blS q2_8 hb, cell_blS q2_9 hb, cell_blS q2_10 hb, cell_blS q2_11 hb, cell_blS q2_12 hb, cell_blS q2_13 hb, cell_blS q2_14 hb, cell_blS q3_0 hb, cell_blS q3_1 hb, cell_blS q3_2 hb⟩
  have Hhwr := Lib.hid hwr; clear hwr
  have Hhga := Lib.hid hga; clear hga
  have Hhbe := Lib.hid hbe; clear hbe
  have Hhck := Lib.hid hck; clear hck
  have Hhex := Lib.hid hex; clear hex
  have Hhcd := Lib.hid hcd; clear hcd
  have Hhcc := Lib.hid hcc; clear hcc
  have Hhpr := Lib.hid hpr; clear hpr
  have Hhpx := Lib.hid hpx; clear hpx
  have Hhpa := Lib.hid hpa; clear hpa
  have Hhin := Lib.hid hin; clear hin
  have Hhva := Lib.hid hva; clear hva
  have Hhwo := Lib.hid hwo; clear hwo
  obtain ⟨iad, rfl⟩ := hIA
  have j1 : ¬ ((gN : Nat) : Int) < ((gm : Nat) : Int) - ((gn : Nat) : Int) := by omega
  have j2 : ¬ ((pN : Nat) : Int) < cd - cc := by omega
  have j3 : IntKind.i64.wrap (((gm : Nat) : Int) - ((gn : Nat) : Int)) = ((gm : Nat) : Int) - ((gn : Nat) : Int) := IntWalk.i64_in _ (by omega)
  have j4 : IntKind.i64.wrap (cd - cc) = cd - cc := IntWalk.i64_in _ (by omega)
  have HN := Lib.hid (And.intro hn (And.intro hsl (And.intro hel hil)))
  have HM := Lib.hid hm
  clear hn hsl hel hil hlg hlc hcw hgw hm
  go_enter Tryz.func10, Tryz.ntmps10
  go_wp2_with fail
  refine (Hhwr.out _ HB0.out).mono ?_
  rintro e w1 ⟨rfl, hb⟩
  have HB1 := Lib.hid hb
  clear hb
  clear q0_0 q0_1 q0_2 q1_0 q1_1 q1_2 q2_0 q2_1 q2_2 q2_3 q2_4 q2_5 q2_6 q2_7 q2_8 q2_9 q2_10 q2_11 q2_12 q2_13 q2_14 q3_0 q3_1 q3_2
  obtain ⟨q0_0, q0_1, q0_2, q1_0, q1_1, q1_2, q2_0, q2_1, q2_2, q2_3, q2_4, q2_5, q2_6, q2_7, q2_8, q2_9, q2_10, q2_11, q2_12, q2_13, q2_14, q3_0, q3_1, q3_2⟩ := HCE.out _ HB1.out
  go_wp2_with fail
  have k1 : ((0 : Int) == 3) = false := by decide
  go_quiet (fail)
  go_wp2_with fail
  refine wp_region_det (ops := _) (by kernel_rfl) (by kernel_rfl) (fun L => #[.int .u64 ((p : Nat) : Int), .agg #[.slice SA sn sc, .slice GA gn gc, .slice EA en ec], .agg #[.slice SB sm sd, .slice GB gm gd, .slice EB em ed], .agg #[.int .i64 m, .int .i64 a, .int .i64 b, .int .i64 c, .int .u64 k, .slice VA vn vc, .slice WA wn wc, .int .i64 s1, .bool s2, .int .i64 g1, .int .i64 g2, .int .i64 g3, .int .u64 g4, .slice TA tn tc, .slice UA un uc], .agg #[.int .i64 at_, .slice X n cx, .int .i64 0], .slice (some iad) il ic, undef, .pointer (some ⟨w.heap.size, 0, none⟩), .pointer (some ⟨w.heap.size + 1, 0, none⟩), .pointer (some ⟨w.heap.size + 1 + 1, 0, none⟩), .pointer (some ⟨w.heap.size + 1 + 1 + 1, 0, none⟩), undef, .bool false, .int .i64 0, undef, undef, undef, undef, undef, undef, undef, .int .u64 ((p : Nat) : Int), .agg #[.slice SA sn sc, .slice GA gn gc, .slice EA en ec], .agg #[.int .i64 m, .int .i64 a, .int .i64 b, .int .i64 c, .int .u64 k, .slice VA vn vc, .slice WA wn wc, .int .i64 s1, .bool s2, .int .i64 g1, .int .i64 g2, .int .i64 g3, .int .u64 g4, .slice TA tn tc, .slice UA un uc], .int .i64 0, .int .i64 0, .bool false, undef, undef, undef, undef, undef, undef, undef, undef, undef, undef, undef, undef, undef, undef, undef, undef, undef, undef, undef, undef, .pointer (some ⟨w.heap.size + 1 + 1 + 1, 2, none⟩), .int .i64 0, .bool false, .bool false, undef, undef, undef, .bool false, .bool false, undef, undef, undef, undef, undef, undef, undef, .bool false, undef, undef, undef, undef, undef, undef, undef, undef, undef, undef, undef, undef, undef, undef, bif L 0 then .pointer (some ⟨w.heap.size + 1 + 1 + 1, 2, none⟩) else undef, bif L 1 then .int .i64 0 else undef, bif L 2 then .bool false else undef, bif L 3 then .bool false else undef, bif L 4 then .agg #[.slice SA sn sc, .slice GA gn gc, .slice EA en ec] else undef, bif L 5 then .agg #[.slice SB sm sd, .slice GB gm gd, .slice EB em ed] else undef, bif L 6 then .bool true else undef, bif L 7 then .bool false else undef, bif L 8 then .bool false else undef, bif L 9 then .bool false else undef, bif L 10 then .pointer (some ⟨w.heap.size + 1, 1, none⟩) else undef, bif L 11 then .slice GB gm gd else undef, bif L 12 then .int .i64 ((gm : Nat) : Int) else undef, bif L 13 then .pointer (some ⟨w.heap.size, 1, none⟩) else undef, bif L 14 then .slice GA gn gc else undef, bif L 15 then .int .i64 ((gn : Nat) : Int) else undef, bif L 16 then .int .i64 (((gm : Nat) : Int) - ((gn : Nat) : Int)) else undef, bif L 17 then .agg #[.int .i64 m, .int .i64 a, .int .i64 b, .int .i64 c, .int .u64 k, .slice VA vn vc, .slice WA wn wc, .int .i64 s1, .bool s2, .int .i64 g1, .int .i64 g2, .int .i64 g3, .int .u64 g4, .slice TA tn tc, .slice UA un uc] else undef, bif L 18 then .int .i64 ((gN : Nat) : Int) else undef, bif L 19 then .bool false else undef, bif L 20 then .bool false else undef, bif L 21 then .bool false else undef, bif L 22 then .int .u64 ((p : Nat) : Int) else undef, bif L 23 then .agg #[.slice SB sm sd, .slice GB gm gd, .slice EB em ed] else undef, bif L 24 then .int .i64 0 else undef, bif L 25 then .bool false else undef, bif L 26 then .bool false else undef, bif L 27 then .bool false else undef, bif L 28 then .agg #[.slice SA sn sc, .slice GA gn gc, .slice EA en ec] else undef, bif L 29 then .agg #[.slice SB sm sd, .slice GB gm gd, .slice EB em ed] else undef, bif L 30 then .agg #[.int .i64 m, .int .i64 a, .int .i64 b, .int .i64 c, .int .u64 k, .slice VA vn vc, .slice WA wn wc, .int .i64 s1, .bool s2, .int .i64 g1, .int .i64 g2, .int .i64 g3, .int .u64 g4, .slice TA tn tc, .slice UA un uc] else undef, bif L 31 then .pointer (some ⟨w.heap.size + 1 + 1 + 1, 0, none⟩) else undef, bif L 32 then .int .i64 at_ else undef, bif L 33 then .bool true else undef, bif L 34 then .bool false else undef, bif L 35 then .bool false else undef, bif L 36 then .bool false else undef, bif L 37 then .agg #[.slice SB sm sd, .slice GB gm gd, .slice EB em ed] else undef, bif L 38 then .int .i64 cd else undef, bif L 39 then .agg #[.slice SA sn sc, .slice GA gn gc, .slice EA en ec] else undef, bif L 40 then .int .i64 cc else undef, bif L 41 then .int .i64 (cd - cc) else undef, bif L 42 then .agg #[.int .i64 m, .int .i64 a, .int .i64 b, .int .i64 c, .int .u64 k, .slice VA vn vc, .slice WA wn wc, .int .i64 s1, .bool s2, .int .i64 g1, .int .i64 g2, .int .i64 g3, .int .u64 g4, .slice TA tn tc, .slice UA un uc] else undef, bif L 43 then .int .i64 ((pN : Nat) : Int) else undef, bif L 44 then .bool false else undef, bif L 45 then .bool false else undef, undef, undef, undef, undef, undef, undef, undef, undef, undef, undef, undef, undef, undef, undef, undef, undef, undef, undef, undef, undef, undef, undef, undef, undef, undef, undef, undef, undef, undef, undef, undef, undef, undef, undef, undef, undef, undef, undef, undef, undef, undef, undef, undef, undef, undef, undef, undef, undef, undef, undef, undef, undef, undef, undef, undef, undef, undef, undef, undef, undef, undef, undef, undef, undef, undef, undef, undef, undef, undef, undef, undef, undef, undef, undef, undef, undef, undef, undef, undef, undef, undef, undef, undef, undef, undef, undef, undef, undef, undef, undef, undef, undef, undef, undef, undef, undef, undef, undef, undef, undef, undef, undef, undef, undef, undef, undef, undef, undef, undef, undef, undef, undef]) (fun W => Below w2.heap.size w2 W) ?_ ?_ ?_
  · exact (belowN HB1.out _).drew
  · intro i o L W ho HK hd
    have hlt : i < 46 := (Array.getElem?_eq_some_iff.1 ho).1
    have hi : i = 0 ∨ i = 1 ∨ i = 2 ∨ i = 3 ∨ i = 4 ∨ i = 5 ∨ i = 6 ∨ i = 7 ∨ i = 8 ∨ i = 9 ∨ i = 10 ∨ i = 11 ∨ i = 12 ∨ i = 13 ∨ i = 14 ∨ i = 15 ∨ i = 16 ∨ i = 17 ∨ i = 18 ∨ i = 19 ∨ i = 20 ∨ i = 21 ∨ i = 22 ∨ i = 23 ∨ i = 24 ∨ i = 25 ∨ i = 26 ∨ i = 27 ∨ i = 28 ∨ i = 29 ∨ i = 30 ∨ i = 31 ∨ i = 32 ∨ i = 33 ∨ i = 34 ∨ i = 35 ∨ i = 36 ∨ i = 37 ∨ i = 38 ∨ i = 39 ∨ i = 40 ∨ i = 41 ∨ i = 42 ∨ i = 43 ∨ i = 44 ∨ i = 45 := by omega
    have HKW := Lib.hid HK
    clear hlt HK q0_0 q0_1 q0_2 q1_0 q1_1 q1_2 q2_0 q2_1 q2_2 q2_3 q2_4 q2_5 q2_6 q2_7 q2_8 q2_9 q2_10 q2_11 q2_12 q2_13 q2_14 q3_0 q3_1 q3_2
    rcases hi with rfl | rfl | rfl | rfl | rfl | rfl | rfl | rfl | rfl | rfl | rfl | rfl | rfl | rfl | rfl | rfl | rfl | rfl | rfl | rfl | rfl | rfl | rfl | rfl | rfl | rfl | rfl | rfl | rfl | rfl | rfl | rfl | rfl | rfl | rfl | rfl | rfl | rfl | rfl | rfl | rfl | rfl | rfl | rfl | rfl | rfl
    all_goals (obtain rfl := Option.some.inj ho)
    all_goals (refine wpOp_step (o := _) rfl (fun K hK => ?_))
    · as_aux_lemma =>
        clear hd ho
        go_simp
        exact hK _ _ ⟨by first | (simp; done) | (simp; omega), HKW.out⟩
    · as_aux_lemma =>
        have l0 : L 0 = true := hd ⟨0, .data⟩ (by simp) rfl
        clear hd ho
        obtain ⟨q0_0, q0_1, q0_2, q1_0, q1_1, q1_2, q2_0, q2_1, q2_2, q2_3, q2_4, q2_5, q2_6, q2_7, q2_8, q2_9, q2_10, q2_11, q2_12, q2_13, q2_14, q3_0, q3_1, q3_2⟩ := HCE.out _ HKW.out
        clear q0_0 q0_1 q0_2 q1_0 q1_1 q1_2 q2_0 q2_1 q2_2 q2_3 q2_4 q2_5 q2_6 q2_7 q2_8 q2_9 q2_10 q2_11 q2_12 q2_13 q2_14 q3_0 q3_1
        go_simp
        exact hK _ _ ⟨by first | (simp [l0]; done) | (simp [l0]; omega), HKW.out⟩
    · as_aux_lemma =>
        have l1 : L 1 = true := hd ⟨1, .data⟩ (by simp) rfl
        clear hd ho
        go_simp
        exact hK _ _ ⟨by first | (simp [l1]; done) | (simp [l1]; omega), HKW.out⟩
    · as_aux_lemma =>
        have l2 : L 2 = true := hd ⟨2, .data⟩ (by simp) rfl
        clear hd ho
        go_simp
        exact hK _ _ ⟨by first | (simp [l2]; done) | (simp [l2]; omega), HKW.out⟩
    · as_aux_lemma =>
        have l3 : L 3 = true := hd ⟨3, .guard⟩ (by simp) rfl
        clear hd ho
        obtain ⟨q0_0, q0_1, q0_2, q1_0, q1_1, q1_2, q2_0, q2_1, q2_2, q2_3, q2_4, q2_5, q2_6, q2_7, q2_8, q2_9, q2_10, q2_11, q2_12, q2_13, q2_14, q3_0, q3_1, q3_2⟩ := HCE.out _ HKW.out
        clear q1_0 q1_1 q1_2 q2_0 q2_1 q2_2 q2_3 q2_4 q2_5 q2_6 q2_7 q2_8 q2_9 q2_10 q2_11 q2_12 q2_13 q2_14 q3_0 q3_1 q3_2
        go_simp
        exact hK _ _ ⟨by first | (simp [l3]; done) | (simp [l3]; omega), HKW.out⟩
    · as_aux_lemma =>
        have l3 : L 3 = true := hd ⟨3, .guard⟩ (by simp) rfl
        clear hd ho
        obtain ⟨q0_0, q0_1, q0_2, q1_0, q1_1, q1_2, q2_0, q2_1, q2_2, q2_3, q2_4, q2_5, q2_6, q2_7, q2_8, q2_9, q2_10, q2_11, q2_12, q2_13, q2_14, q3_0, q3_1, q3_2⟩ := HCE.out _ HKW.out
        clear q0_0 q0_1 q0_2 q2_0 q2_1 q2_2 q2_3 q2_4 q2_5 q2_6 q2_7 q2_8 q2_9 q2_10 q2_11 q2_12 q2_13 q2_14 q3_0 q3_1 q3_2
        go_simp
        exact hK _ _ ⟨by first | (simp [l3]; done) | (simp [l3]; omega), HKW.out⟩
    · as_aux_lemma =>
        have l4 : L 4 = true := hd ⟨4, .data⟩ (by simp) rfl
        have l5 : L 5 = true := hd ⟨5, .data⟩ (by simp) rfl
        have l3 : L 3 = true := hd ⟨3, .chain⟩ (by simp) rfl
        clear hd ho
        go_simp
        refine (Hhbe.out _ (HB0.out.trans (HKW.out.mono HB0.out.size))).mono ?_
        rintro e w5 ⟨rfl, hb⟩
        exact hK _ _ ⟨by first | (simp [l4, l5, l3]; done) | (simp [l4, l5, l3]; omega), HKW.out.trans (hb.mono HKW.out.size)⟩
    · as_aux_lemma =>
        have l6 : L 6 = true := hd ⟨6, .data⟩ (by simp) rfl
        have l3 : L 3 = true := hd ⟨3, .guard⟩ (by simp) rfl
        clear hd ho
        go_simp
        exact hK _ _ ⟨by first | (simp [l6, l3]; done) | (simp [l6, l3]; omega), HKW.out⟩
    · as_aux_lemma =>
        have l3 : L 3 = true := hd ⟨3, .data⟩ (by simp) rfl
        have l7 : L 7 = true := hd ⟨7, .data⟩ (by simp) rfl
        clear hd ho
        go_simp
        exact hK _ _ ⟨by first | (simp [l3, l7]; done) | (simp [l3, l7]; omega), HKW.out⟩
    · as_aux_lemma =>
        have l8 : L 8 = true := hd ⟨8, .data⟩ (by simp) rfl
        have l6 : L 6 = true := hd ⟨6, .chain⟩ (by simp) rfl
        clear hd ho
        go_simp
        exact hK _ _ ⟨by first | (simp [l8, l6]; done) | (simp [l8, l6]; omega), HKW.out⟩
    · as_aux_lemma =>
        have l9 : L 9 = true := hd ⟨9, .guard⟩ (by simp) rfl
        clear hd ho
        go_simp
        exact hK _ _ ⟨by first | (simp [l9]; done) | (simp [l9]; omega), HKW.out⟩
    · as_aux_lemma =>
        have l10 : L 10 = true := hd ⟨10, .data⟩ (by simp) rfl
        have l9 : L 9 = true := hd ⟨9, .guard⟩ (by simp) rfl
        clear hd ho
        obtain ⟨q0_0, q0_1, q0_2, q1_0, q1_1, q1_2, q2_0, q2_1, q2_2, q2_3, q2_4, q2_5, q2_6, q2_7, q2_8, q2_9, q2_10, q2_11, q2_12, q2_13, q2_14, q3_0, q3_1, q3_2⟩ := HCE.out _ HKW.out
        clear q0_0 q0_1 q0_2 q1_0 q1_2 q2_0 q2_1 q2_2 q2_3 q2_4 q2_5 q2_6 q2_7 q2_8 q2_9 q2_10 q2_11 q2_12 q2_13 q2_14 q3_0 q3_1 q3_2
        go_simp
        exact hK _ _ ⟨by first | (simp [l10, l9]; done) | (simp [l10, l9]; omega), HKW.out⟩
    · as_aux_lemma =>
        have l11 : L 11 = true := hd ⟨11, .data⟩ (by simp) rfl
        have l9 : L 9 = true := hd ⟨9, .guard⟩ (by simp) rfl
        clear hd ho
        go_simp
        exact hK _ _ ⟨by first | (simp [l11, l9]; done) | (simp [l11, l9]; omega), HKW.out⟩
    · as_aux_lemma =>
        have l9 : L 9 = true := hd ⟨9, .guard⟩ (by simp) rfl
        clear hd ho
        go_simp
        exact hK _ _ ⟨by first | (simp [l9]; done) | (simp [l9]; omega), HKW.out⟩
    · as_aux_lemma =>
        have l13 : L 13 = true := hd ⟨13, .data⟩ (by simp) rfl
        have l9 : L 9 = true := hd ⟨9, .guard⟩ (by simp) rfl
        clear hd ho
        obtain ⟨q0_0, q0_1, q0_2, q1_0, q1_1, q1_2, q2_0, q2_1, q2_2, q2_3, q2_4, q2_5, q2_6, q2_7, q2_8, q2_9, q2_10, q2_11, q2_12, q2_13, q2_14, q3_0, q3_1, q3_2⟩ := HCE.out _ HKW.out
        clear q0_0 q0_2 q1_0 q1_1 q1_2 q2_0 q2_1 q2_2 q2_3 q2_4 q2_5 q2_6 q2_7 q2_8 q2_9 q2_10 q2_11 q2_12 q2_13 q2_14 q3_0 q3_1 q3_2
        go_simp
        exact hK _ _ ⟨by first | (simp [l13, l9]; done) | (simp [l13, l9]; omega), HKW.out⟩
    · as_aux_lemma =>
        have l14 : L 14 = true := hd ⟨14, .data⟩ (by simp) rfl
        have l9 : L 9 = true := hd ⟨9, .guard⟩ (by simp) rfl
        clear hd ho
        go_simp
        exact hK _ _ ⟨by first | (simp [l14, l9]; done) | (simp [l14, l9]; omega), HKW.out⟩
    · as_aux_lemma =>
        have l12 : L 12 = true := hd ⟨12, .data⟩ (by simp) rfl
        have l15 : L 15 = true := hd ⟨15, .data⟩ (by simp) rfl
        have l9 : L 9 = true := hd ⟨9, .guard⟩ (by simp) rfl
        clear hd ho
        go_simp
        exact hK _ _ ⟨by first | (simp [l12, l15, l9]; done) | (simp [l12, l15, l9]; omega), HKW.out⟩
    · as_aux_lemma =>
        have l9 : L 9 = true := hd ⟨9, .guard⟩ (by simp) rfl
        clear hd ho
        obtain ⟨q0_0, q0_1, q0_2, q1_0, q1_1, q1_2, q2_0, q2_1, q2_2, q2_3, q2_4, q2_5, q2_6, q2_7, q2_8, q2_9, q2_10, q2_11, q2_12, q2_13, q2_14, q3_0, q3_1, q3_2⟩ := HCE.out _ HKW.out
        clear q0_0 q0_1 q0_2 q1_0 q1_1 q1_2 q3_0 q3_1 q3_2
        go_simp
        exact hK _ _ ⟨by first | (simp [l9]; done) | (simp [l9]; omega), HKW.out⟩
    · as_aux_lemma =>
        have l17 : L 17 = true := hd ⟨17, .data⟩ (by simp) rfl
        have l9 : L 9 = true := hd ⟨9, .chain⟩ (by simp) rfl
        clear hd ho
        go_simp
        refine (Hhga.out _ (HB0.out.trans (HKW.out.mono HB0.out.size))).mono ?_
        rintro e w5 ⟨rfl, hb⟩
        exact hK _ _ ⟨by first | (simp [l17, l9]; done) | (simp [l17, l9]; omega), HKW.out.trans (hb.mono HKW.out.size)⟩
    · as_aux_lemma =>
        have l16 : L 16 = true := hd ⟨16, .data⟩ (by simp) rfl
        have l18 : L 18 = true := hd ⟨18, .data⟩ (by simp) rfl
        have l9 : L 9 = true := hd ⟨9, .guard⟩ (by simp) rfl
        clear hd ho
        go_simp
        exact hK _ _ ⟨by first | (simp [l16, l18, l9]; done) | (simp [l16, l18, l9]; omega), HKW.out⟩
    · as_aux_lemma =>
        have l9 : L 9 = true := hd ⟨9, .data⟩ (by simp) rfl
        have l19 : L 19 = true := hd ⟨19, .data⟩ (by simp) rfl
        clear hd ho
        go_simp
        exact hK _ _ ⟨by first | (simp [l9, l19]; done) | (simp [l9, l19]; omega), HKW.out⟩
    · as_aux_lemma =>
        have l20 : L 20 = true := hd ⟨20, .data⟩ (by simp) rfl
        have l18 : L 18 = true := hd ⟨18, .chain⟩ (by simp) rfl
        clear hd ho
        go_simp
        exact hK _ _ ⟨by first | (simp [l20, l18]; done) | (simp [l20, l18]; omega), HKW.out⟩
    · as_aux_lemma =>
        have l21 : L 21 = true := hd ⟨21, .guard⟩ (by simp) rfl
        clear hd ho
        go_simp
        exact hK _ _ ⟨by first | (simp [l21]; done) | (simp [l21]; omega), HKW.out⟩
    · as_aux_lemma =>
        have l21 : L 21 = true := hd ⟨21, .guard⟩ (by simp) rfl
        clear hd ho
        obtain ⟨q0_0, q0_1, q0_2, q1_0, q1_1, q1_2, q2_0, q2_1, q2_2, q2_3, q2_4, q2_5, q2_6, q2_7, q2_8, q2_9, q2_10, q2_11, q2_12, q2_13, q2_14, q3_0, q3_1, q3_2⟩ := HCE.out _ HKW.out
        clear q0_0 q0_1 q0_2 q2_0 q2_1 q2_2 q2_3 q2_4 q2_5 q2_6 q2_7 q2_8 q2_9 q2_10 q2_11 q2_12 q2_13 q2_14 q3_0 q3_1 q3_2
        go_simp
        exact hK _ _ ⟨by first | (simp [l21]; done) | (simp [l21]; omega), HKW.out⟩
    · as_aux_lemma =>
        have l22 : L 22 = true := hd ⟨22, .data⟩ (by simp) rfl
        have l23 : L 23 = true := hd ⟨23, .data⟩ (by simp) rfl
        have l21 : L 21 = true := hd ⟨21, .chain⟩ (by simp) rfl
        clear hd ho
        go_simp
        refine (Hhck.out _ (HB0.out.trans (HKW.out.mono HB0.out.size))).mono ?_
        rintro e w5 ⟨rfl, hb⟩
        exact hK _ _ ⟨by first | (simp [l22, l23, l21]; done) | (simp [l22, l23, l21]; omega), HKW.out.trans (hb.mono HKW.out.size)⟩
    · as_aux_lemma =>
        have l24 : L 24 = true := hd ⟨24, .data⟩ (by simp) rfl
        have l21 : L 21 = true := hd ⟨21, .guard⟩ (by simp) rfl
        clear hd ho
        go_simp
        exact hK _ _ ⟨by first | (simp [l24, l21]; done) | (simp [l24, l21]; omega), HKW.out⟩
    · as_aux_lemma =>
        have l21 : L 21 = true := hd ⟨21, .data⟩ (by simp) rfl
        have l25 : L 25 = true := hd ⟨25, .data⟩ (by simp) rfl
        clear hd ho
        go_simp
        exact hK _ _ ⟨by first | (simp [l21, l25]; done) | (simp [l21, l25]; omega), HKW.out⟩
    · as_aux_lemma =>
        have l26 : L 26 = true := hd ⟨26, .data⟩ (by simp) rfl
        have l24 : L 24 = true := hd ⟨24, .chain⟩ (by simp) rfl
        clear hd ho
        go_simp
        exact hK _ _ ⟨by first | (simp [l26, l24]; done) | (simp [l26, l24]; omega), HKW.out⟩
    · as_aux_lemma =>
        have l27 : L 27 = true := hd ⟨27, .guard⟩ (by simp) rfl
        clear hd ho
        obtain ⟨q0_0, q0_1, q0_2, q1_0, q1_1, q1_2, q2_0, q2_1, q2_2, q2_3, q2_4, q2_5, q2_6, q2_7, q2_8, q2_9, q2_10, q2_11, q2_12, q2_13, q2_14, q3_0, q3_1, q3_2⟩ := HCE.out _ HKW.out
        clear q1_0 q1_1 q1_2 q2_0 q2_1 q2_2 q2_3 q2_4 q2_5 q2_6 q2_7 q2_8 q2_9 q2_10 q2_11 q2_12 q2_13 q2_14 q3_0 q3_1 q3_2
        go_simp
        exact hK _ _ ⟨by first | (simp [l27]; done) | (simp [l27]; omega), HKW.out⟩
    · as_aux_lemma =>
        have l27 : L 27 = true := hd ⟨27, .guard⟩ (by simp) rfl
        clear hd ho
        obtain ⟨q0_0, q0_1, q0_2, q1_0, q1_1, q1_2, q2_0, q2_1, q2_2, q2_3, q2_4, q2_5, q2_6, q2_7, q2_8, q2_9, q2_10, q2_11, q2_12, q2_13, q2_14, q3_0, q3_1, q3_2⟩ := HCE.out _ HKW.out
        clear q0_0 q0_1 q0_2 q2_0 q2_1 q2_2 q2_3 q2_4 q2_5 q2_6 q2_7 q2_8 q2_9 q2_10 q2_11 q2_12 q2_13 q2_14 q3_0 q3_1 q3_2
        go_simp
        exact hK _ _ ⟨by first | (simp [l27]; done) | (simp [l27]; omega), HKW.out⟩
    · as_aux_lemma =>
        have l27 : L 27 = true := hd ⟨27, .guard⟩ (by simp) rfl
        clear hd ho
        obtain ⟨q0_0, q0_1, q0_2, q1_0, q1_1, q1_2, q2_0, q2_1, q2_2, q2_3, q2_4, q2_5, q2_6, q2_7, q2_8, q2_9, q2_10, q2_11, q2_12, q2_13, q2_14, q3_0, q3_1, q3_2⟩ := HCE.out _ HKW.out
        clear q0_0 q0_1 q0_2 q1_0 q1_1 q1_2 q3_0 q3_1 q3_2
        go_simp
        exact hK _ _ ⟨by first | (simp [l27]; done) | (simp [l27]; omega), HKW.out⟩
    · as_aux_lemma =>
        have l27 : L 27 = true := hd ⟨27, .guard⟩ (by simp) rfl
        clear hd ho
        go_simp
        exact hK _ _ ⟨by first | (simp [l27]; done) | (simp [l27]; omega), HKW.out⟩
    · as_aux_lemma =>
        have l31 : L 31 = true := hd ⟨31, .data⟩ (by simp) rfl
        have l27 : L 27 = true := hd ⟨27, .guard⟩ (by simp) rfl
        clear hd ho
        obtain ⟨q0_0, q0_1, q0_2, q1_0, q1_1, q1_2, q2_0, q2_1, q2_2, q2_3, q2_4, q2_5, q2_6, q2_7, q2_8, q2_9, q2_10, q2_11, q2_12, q2_13, q2_14, q3_0, q3_1, q3_2⟩ := HCE.out _ HKW.out
        clear q0_0 q0_1 q0_2 q1_0 q1_1 q1_2 q2_0 q2_1 q2_2 q2_3 q2_4 q2_5 q2_6 q2_7 q2_8 q2_9 q2_10 q2_11 q2_12 q2_13 q2_14 q3_1 q3_2
        go_simp
        exact hK _ _ ⟨by first | (simp [l31, l27]; done) | (simp [l31, l27]; omega), HKW.out⟩
    · as_aux_lemma =>
        have l28 : L 28 = true := hd ⟨28, .data⟩ (by simp) rfl
        have l29 : L 29 = true := hd ⟨29, .data⟩ (by simp) rfl
        have l30 : L 30 = true := hd ⟨30, .data⟩ (by simp) rfl
        have l32 : L 32 = true := hd ⟨32, .data⟩ (by simp) rfl
        have l27 : L 27 = true := hd ⟨27, .chain⟩ (by simp) rfl
        clear hd ho
        go_simp
        refine (Hhex.out _ (HB0.out.trans (HKW.out.mono HB0.out.size))).mono ?_
        rintro e w5 ⟨rfl, hb⟩
        exact hK _ _ ⟨by first | (simp [l28, l29, l30, l32, l27]; done) | (simp [l28, l29, l30, l32, l27]; omega), HKW.out.trans (hb.mono HKW.out.size)⟩
    · as_aux_lemma =>
        have l33 : L 33 = true := hd ⟨33, .data⟩ (by simp) rfl
        have l27 : L 27 = true := hd ⟨27, .guard⟩ (by simp) rfl
        clear hd ho
        go_simp
        exact hK _ _ ⟨by first | (simp [l33, l27]; done) | (simp [l33, l27]; omega), HKW.out⟩
    · as_aux_lemma =>
        have l27 : L 27 = true := hd ⟨27, .data⟩ (by simp) rfl
        have l34 : L 34 = true := hd ⟨34, .data⟩ (by simp) rfl
        clear hd ho
        go_simp
        exact hK _ _ ⟨by first | (simp [l27, l34]; done) | (simp [l27, l34]; omega), HKW.out⟩
    · as_aux_lemma =>
        have l35 : L 35 = true := hd ⟨35, .data⟩ (by simp) rfl
        have l33 : L 33 = true := hd ⟨33, .chain⟩ (by simp) rfl
        clear hd ho
        go_simp
        exact hK _ _ ⟨by first | (simp [l35, l33]; done) | (simp [l35, l33]; omega), HKW.out⟩
    · as_aux_lemma =>
        have l36 : L 36 = true := hd ⟨36, .guard⟩ (by simp) rfl
        clear hd ho
        obtain ⟨q0_0, q0_1, q0_2, q1_0, q1_1, q1_2, q2_0, q2_1, q2_2, q2_3, q2_4, q2_5, q2_6, q2_7, q2_8, q2_9, q2_10, q2_11, q2_12, q2_13, q2_14, q3_0, q3_1, q3_2⟩ := HCE.out _ HKW.out
        clear q0_0 q0_1 q0_2 q2_0 q2_1 q2_2 q2_3 q2_4 q2_5 q2_6 q2_7 q2_8 q2_9 q2_10 q2_11 q2_12 q2_13 q2_14 q3_0 q3_1 q3_2
        go_simp
        exact hK _ _ ⟨by first | (simp [l36]; done) | (simp [l36]; omega), HKW.out⟩
    · as_aux_lemma =>
        have l37 : L 37 = true := hd ⟨37, .data⟩ (by simp) rfl
        have l36 : L 36 = true := hd ⟨36, .chain⟩ (by simp) rfl
        clear hd ho
        go_simp
        refine (Hhcd.out _ (HB0.out.trans (HKW.out.mono HB0.out.size))).mono ?_
        rintro e w5 ⟨rfl, hb⟩
        exact hK _ _ ⟨by first | (simp [l37, l36]; done) | (simp [l37, l36]; omega), HKW.out.trans (hb.mono HKW.out.size)⟩
    · as_aux_lemma =>
        have l36 : L 36 = true := hd ⟨36, .guard⟩ (by simp) rfl
        clear hd ho
        obtain ⟨q0_0, q0_1, q0_2, q1_0, q1_1, q1_2, q2_0, q2_1, q2_2, q2_3, q2_4, q2_5, q2_6, q2_7, q2_8, q2_9, q2_10, q2_11, q2_12, q2_13, q2_14, q3_0, q3_1, q3_2⟩ := HCE.out _ HKW.out
        clear q1_0 q1_1 q1_2 q2_0 q2_1 q2_2 q2_3 q2_4 q2_5 q2_6 q2_7 q2_8 q2_9 q2_10 q2_11 q2_12 q2_13 q2_14 q3_0 q3_1 q3_2
        go_simp
        exact hK _ _ ⟨by first | (simp [l36]; done) | (simp [l36]; omega), HKW.out⟩
    · as_aux_lemma =>
        have l39 : L 39 = true := hd ⟨39, .data⟩ (by simp) rfl
        have l38 : L 38 = true := hd ⟨38, .chain⟩ (by simp) rfl
        have l36 : L 36 = true := hd ⟨36, .guard⟩ (by simp) rfl
        clear hd ho
        go_simp
        refine (Hhcc.out _ (HB0.out.trans (HKW.out.mono HB0.out.size))).mono ?_
        rintro e w5 ⟨rfl, hb⟩
        exact hK _ _ ⟨by first | (simp [l39, l38, l36]; done) | (simp [l39, l38, l36]; omega), HKW.out.trans (hb.mono HKW.out.size)⟩
    · as_aux_lemma =>
        have l38 : L 38 = true := hd ⟨38, .data⟩ (by simp) rfl
        have l40 : L 40 = true := hd ⟨40, .data⟩ (by simp) rfl
        have l36 : L 36 = true := hd ⟨36, .guard⟩ (by simp) rfl
        clear hd ho
        go_simp
        exact hK _ _ ⟨by first | (simp [l38, l40, l36]; done) | (simp [l38, l40, l36]; omega), HKW.out⟩
    · as_aux_lemma =>
        have l36 : L 36 = true := hd ⟨36, .guard⟩ (by simp) rfl
        clear hd ho
        obtain ⟨q0_0, q0_1, q0_2, q1_0, q1_1, q1_2, q2_0, q2_1, q2_2, q2_3, q2_4, q2_5, q2_6, q2_7, q2_8, q2_9, q2_10, q2_11, q2_12, q2_13, q2_14, q3_0, q3_1, q3_2⟩ := HCE.out _ HKW.out
        clear q0_0 q0_1 q0_2 q1_0 q1_1 q1_2 q3_0 q3_1 q3_2
        go_simp
        exact hK _ _ ⟨by first | (simp [l36]; done) | (simp [l36]; omega), HKW.out⟩
    · as_aux_lemma =>
        have l42 : L 42 = true := hd ⟨42, .data⟩ (by simp) rfl
        have l40 : L 40 = true := hd ⟨40, .chain⟩ (by simp) rfl
        have l36 : L 36 = true := hd ⟨36, .guard⟩ (by simp) rfl
        clear hd ho
        go_simp
        refine (Hhpr.out _ (HB0.out.trans (HKW.out.mono HB0.out.size))).mono ?_
        rintro e w5 ⟨rfl, hb⟩
        exact hK _ _ ⟨by first | (simp [l42, l40, l36]; done) | (simp [l42, l40, l36]; omega), HKW.out.trans (hb.mono HKW.out.size)⟩
    · as_aux_lemma =>
        have l41 : L 41 = true := hd ⟨41, .data⟩ (by simp) rfl
        have l43 : L 43 = true := hd ⟨43, .data⟩ (by simp) rfl
        have l36 : L 36 = true := hd ⟨36, .guard⟩ (by simp) rfl
        clear hd ho
        go_simp
        exact hK _ _ ⟨by first | (simp [l41, l43, l36]; done) | (simp [l41, l43, l36]; omega), HKW.out⟩
    · as_aux_lemma =>
        have l36 : L 36 = true := hd ⟨36, .data⟩ (by simp) rfl
        have l44 : L 44 = true := hd ⟨44, .data⟩ (by simp) rfl
        clear hd ho
        go_simp
        exact hK _ _ ⟨by first | (simp [l36, l44]; done) | (simp [l36, l44]; omega), HKW.out⟩
  · intro L w7 HK hL
    have HB7 := Lib.hid HK
    have l0 := hL 0 (by decide)
    have l1 := hL 1 (by decide)
    have l2 := hL 2 (by decide)
    have l3 := hL 3 (by decide)
    have l4 := hL 4 (by decide)
    have l5 := hL 5 (by decide)
    have l6 := hL 6 (by decide)
    have l7 := hL 7 (by decide)
    have l8 := hL 8 (by decide)
    have l9 := hL 9 (by decide)
    have l10 := hL 10 (by decide)
    have l11 := hL 11 (by decide)
    have l12 := hL 12 (by decide)
    have l13 := hL 13 (by decide)
    have l14 := hL 14 (by decide)
    have l15 := hL 15 (by decide)
    have l16 := hL 16 (by decide)
    have l17 := hL 17 (by decide)
    have l18 := hL 18 (by decide)
    have l19 := hL 19 (by decide)
    have l20 := hL 20 (by decide)
    have l21 := hL 21 (by decide)
    have l22 := hL 22 (by decide)
    have l23 := hL 23 (by decide)
    have l24 := hL 24 (by decide)
    have l25 := hL 25 (by decide)
    have l26 := hL 26 (by decide)
    have l27 := hL 27 (by decide)
    have l28 := hL 28 (by decide)
    have l29 := hL 29 (by decide)
    have l30 := hL 30 (by decide)
    have l31 := hL 31 (by decide)
    have l32 := hL 32 (by decide)
    have l33 := hL 33 (by decide)
    have l34 := hL 34 (by decide)
    have l35 := hL 35 (by decide)
    have l36 := hL 36 (by decide)
    have l37 := hL 37 (by decide)
    have l38 := hL 38 (by decide)
    have l39 := hL 39 (by decide)
    have l40 := hL 40 (by decide)
    have l41 := hL 41 (by decide)
    have l42 := hL 42 (by decide)
    have l43 := hL 43 (by decide)
    have l44 := hL 44 (by decide)
    have l45 := hL 45 (by decide)
    simp only [l0, l1, l2, l3, l4, l5, l6, l7, l8, l9, l10, l11, l12, l13, l14, l15, l16, l17, l18, l19, l20, l21, l22, l23, l24, l25, l26, l27, l28, l29, l30, l31, l32, l33, l34, l35, l36, l37, l38, l39, l40, l41, l42, l43, l44, l45, cond_true]
    clear HK hL l0 l1 l2 l3 l4 l5 l6 l7 l8 l9 l10 l11 l12 l13 l14 l15 l16 l17 l18 l19 l20 l21 l22 l23 l24 l25 l26 l27 l28 l29 l30 l31 l32 l33 l34 l35 l36 l37 l38 l39 l40 l41 l42 l43 l44 l45
    obtain ⟨q0_0, q0_1, q0_2, q1_0, q1_1, q1_2, q2_0, q2_1, q2_2, q2_3, q2_4, q2_5, q2_6, q2_7, q2_8, q2_9, q2_10, q2_11, q2_12, q2_13, q2_14, q3_0, q3_1, q3_2⟩ := HCE.out _ HB7.out
    clear j1 j2 j3 j4 k1
    by_cases m2 : m = 2
    · as_aux_lemma =>
        subst m2
        obtain rfl := HN.out.2.1 (by decide)
        go_wp2_with fail
        go_ret
        exact ⟨rfl, HB0.out.trans (HB7.out.mono HB0.out.size)⟩
    · by_cases mw : 10 ≤ m ∧ m ≤ 12
      · as_aux_lemma =>
          obtain ⟨hnv, hv0⟩ := HN.out.1.1 mw
          subst hnv
          obtain rfl := HN.out.2.2.1 m2
          obtain rfl := HN.out.2.1 (by omega)
          have a0 : (m == 0) = false := by simp; omega
          have a2 : (m != 0) = true := by simp; omega
          have a3 : (m == 2) = false := by simpa using m2
          have a4 : (m != 2) = true := by simpa using m2
          have a5 : decide (10 ≤ m) = true := by simp; omega
          have a6 : decide (m ≤ 12) = true := by simp; omega
          have a7 : ((n : Int) == 0) = false := by simp; omega
          clear mw
          go_wp2_with fail
          refine (Hhpx.out _ (HB0.out.trans (HB7.out.mono HB0.out.size))).mono ?_
          rintro e w8 ⟨rfl, hb⟩
          have HB8 := Lib.hid (HB7.out.trans (hb.mono HB7.out.size))
          clear hb
          clear q0_0 q0_1 q0_2 q1_0 q1_1 q1_2 q2_0 q2_1 q2_2 q2_3 q2_4 q2_5 q2_6 q2_7 q2_8 q2_9 q2_10 q2_11 q2_12 q2_13 q2_14 q3_0 q3_1 q3_2
          obtain ⟨q0_0, q0_1, q0_2, q1_0, q1_1, q1_2, q2_0, q2_1, q2_2, q2_3, q2_4, q2_5, q2_6, q2_7, q2_8, q2_9, q2_10, q2_11, q2_12, q2_13, q2_14, q3_0, q3_1, q3_2⟩ := HCE.out _ HB8.out
          go_wp2_with fail
          have b1 : sm ≤ ic := by have := HN.out.2.2.2; omega
          have b2 : (0 : Int) ≤ (sm : Int) := by omega
          have b3 : (sm : Int) ≤ (ic : Int) := by omega
          have HC3 : Hid (∀ W, Below w2.heap.size w2 W → (fun W => W.cell? ⟨w.heap.size + 1, 0, none⟩ = some (.slice SB sm sd) ∧ W.cell? ⟨w.heap.size + 1, 1, none⟩ = some (.slice GB gm gd) ∧ W.cell? ⟨w.heap.size + 1, 2, none⟩ = some (.slice EB em ed)) W) := Lib.hid fun W hb => by obtain ⟨q0_0, q0_1, q0_2, q1_0, q1_1, q1_2, q2_0, q2_1, q2_2, q2_3, q2_4, q2_5, q2_6, q2_7, q2_8, q2_9, q2_10, q2_11, q2_12, q2_13, q2_14, q3_0, q3_1, q3_2⟩ := HCE.out _ hb; exact ⟨q1_0, q1_1, q1_2⟩
          go_region_held3 (fun W => W.cell? ⟨w.heap.size + 1, 0, none⟩ = some (.slice SB sm sd) ∧ W.cell? ⟨w.heap.size + 1, 1, none⟩ = some (.slice GB gm gd) ∧ W.cell? ⟨w.heap.size + 1, 2, none⟩ = some (.slice EB em ed)) (first | exact HC3.out _ HB8.out | exact HC3.out _ HB8.out.drew | exact HC3.out _ HB8.out.drew.drew | exact HC3.out _ HB10.out) ((go_at_call 43; (with_reducible refine (Hhin.out _ (HB0.out.trans (HB8.out.drew.mono HB0.out.size))).mono ?_); rintro e w10 ⟨v, rfl, hb, hR⟩; have HB10 := Lib.hid (HB8.out.drew.trans (hb.mono HB8.out.drew.size)); have HR1 := Lib.hid hR; clear hb hR))
          go_wp2_with fail
          refine (Hhva.out _ _ (HB0.out.trans (HB10.out.mono HB0.out.size)) HR1.out).mono ?_
          rintro e w11 ⟨u, rfl, hb, hR⟩
          have HB11 := Lib.hid (HB10.out.trans (hb.mono HB10.out.size))
          have HR2 := Lib.hid hR
          clear hb hR
          clear q0_0 q0_1 q0_2 q1_0 q1_1 q1_2 q2_0 q2_1 q2_2 q2_3 q2_4 q2_5 q2_6 q2_7 q2_8 q2_9 q2_10 q2_11 q2_12 q2_13 q2_14 q3_0 q3_1 q3_2
          obtain ⟨q0_0, q0_1, q0_2, q1_0, q1_1, q1_2, q2_0, q2_1, q2_2, q2_3, q2_4, q2_5, q2_6, q2_7, q2_8, q2_9, q2_10, q2_11, q2_12, q2_13, q2_14, q3_0, q3_1, q3_2⟩ := HCE.out _ HB11.out
          go_wp2_with fail
          refine (Hhwo.out _ _ (HB0.out.trans (HB11.out.mono HB0.out.size)) HR2.out).mono ?_
          rintro e w12 ⟨t, nb, say, rfl, hb, hsay⟩
          have HB12 := Lib.hid (HB11.out.trans (hb.mono HB11.out.size))
          clear hb q0_0 q0_1 q0_2 q1_0 q1_1 q1_2 q2_0 q2_1 q2_2 q2_3 q2_4 q2_5 q2_6 q2_7 q2_8 q2_9 q2_10 q2_11 q2_12 q2_13 q2_14 q3_0 q3_1 q3_2
          cases say with
          | false =>
            clear hsay
            go_wp2_with fail
            go_ret
            exact ⟨rfl, HB0.out.trans (HB12.out.mono HB0.out.size)⟩
          | true =>
            rcases hsay rfl with ⟨rfl, ad, i, vl, vd, rfl, rfl, hi, hc⟩ | ⟨hnb, hB, hN⟩
            · clear hsay
              obtain ⟨q0_0, q0_1, q0_2, q1_0, q1_1, q1_2, q2_0, q2_1, q2_2, q2_3, q2_4, q2_5, q2_6, q2_7, q2_8, q2_9, q2_10, q2_11, q2_12, q2_13, q2_14, q3_0, q3_1, q3_2⟩ := HCE.out _ HB12.out
              have i1 : (0 : Int) ≤ (i : Int) := by omega
              have i2 : (i : Int) < (vl : Int) := by omega
              go_wp2_with fail
              go_ret
              exact ⟨ret_true (by simp), HB0.out.trans (HB12.out.mono HB0.out.size)⟩
            · clear hsay
              have n0 : (nb == 0) = false := by simpa using hnb
              have HBB := Lib.hid hB
              have HNN := Lib.hid hN
              clear hB hN
              obtain ⟨q0_0, q0_1, q0_2, q1_0, q1_1, q1_2, q2_0, q2_1, q2_2, q2_3, q2_4, q2_5, q2_6, q2_7, q2_8, q2_9, q2_10, q2_11, q2_12, q2_13, q2_14, q3_0, q3_1, q3_2⟩ := HCE.out _ HB12.out
              go_wp2_with fail
              refine (HBB.out _ (Below.refl _ _)).mono ?_
              rintro e w13 ⟨rfl, hb⟩
              have HB13 := Lib.hid (HB12.out.trans (hb.mono HB12.out.size))
              have HW13 := Lib.hid hb
              clear hb
              clear q0_0 q0_1 q0_2 q1_0 q1_1 q1_2 q2_0 q2_1 q2_2 q2_3 q2_4 q2_5 q2_6 q2_7 q2_8 q2_9 q2_10 q2_11 q2_12 q2_13 q2_14 q3_0 q3_1 q3_2
              obtain ⟨q0_0, q0_1, q0_2, q1_0, q1_1, q1_2, q2_0, q2_1, q2_2, q2_3, q2_4, q2_5, q2_6, q2_7, q2_8, q2_9, q2_10, q2_11, q2_12, q2_13, q2_14, q3_0, q3_1, q3_2⟩ := HCE.out _ HB13.out
              go_wp2_with fail
              refine (HNN.out _ HW13.out).mono ?_
              rintro e w14 ⟨rfl, hb⟩
              have HB14 := Lib.hid (HB13.out.trans (hb.mono HB13.out.size))
              clear hb
              go_wp2_with fail
              go_ret
              exact ⟨ret_true (by simp), HB0.out.trans (HB14.out.mono HB0.out.size)⟩
      · obtain rfl : n = 0 := HN.out.1.2 (by omega)
        obtain rfl := HN.out.2.2.1 m2
        have Hpa := Lib.hid (Hhpa.out m2 (by omega))
        have HN2 := Lib.hid HN.out.2.1
        by_cases m0 : m = 0
        · as_aux_lemma =>
            subst m0
            go_wp2_with fail
            refine (Hhpx.out _ (HB0.out.trans (HB7.out.mono HB0.out.size))).mono ?_
            rintro e w8 ⟨rfl, hb⟩
            have HB8 := Lib.hid (HB7.out.trans (hb.mono HB7.out.size))
            clear hb
            clear q0_0 q0_1 q0_2 q1_0 q1_1 q1_2 q2_0 q2_1 q2_2 q2_3 q2_4 q2_5 q2_6 q2_7 q2_8 q2_9 q2_10 q2_11 q2_12 q2_13 q2_14 q3_0 q3_1 q3_2
            obtain ⟨q0_0, q0_1, q0_2, q1_0, q1_1, q1_2, q2_0, q2_1, q2_2, q2_3, q2_4, q2_5, q2_6, q2_7, q2_8, q2_9, q2_10, q2_11, q2_12, q2_13, q2_14, q3_0, q3_1, q3_2⟩ := HCE.out _ HB8.out
            go_wp2_with fail
            refine (Hpa.out _ _ (HB0.out.trans ((HB8.out.alloc HB8.out.size _).mono HB0.out.size)) (one_read _ _ _)).mono ?_
            rintro e w9 ⟨rfl, hb⟩
            have HB9 := Lib.hid ((HB8.out.alloc HB8.out.size (.cells #[.int .i64 at_] 3)).trans (hb.mono ((HB8.out.alloc HB8.out.size (.cells #[.int .i64 at_] 3)).size)))
            clear hb
            clear q0_0 q0_1 q0_2 q1_0 q1_1 q1_2 q2_0 q2_1 q2_2 q2_3 q2_4 q2_5 q2_6 q2_7 q2_8 q2_9 q2_10 q2_11 q2_12 q2_13 q2_14 q3_0 q3_1 q3_2
            obtain ⟨q0_0, q0_1, q0_2, q1_0, q1_1, q1_2, q2_0, q2_1, q2_2, q2_3, q2_4, q2_5, q2_6, q2_7, q2_8, q2_9, q2_10, q2_11, q2_12, q2_13, q2_14, q3_0, q3_1, q3_2⟩ := HCE.out _ HB9.out
            go_wp2_with fail
            have b1 : sm ≤ ic := by have := HN.out.2.2.2; omega
            have b2 : (0 : Int) ≤ (sm : Int) := by omega
            have b3 : (sm : Int) ≤ (ic : Int) := by omega
            have HC3 : Hid (∀ W, Below w2.heap.size w2 W → (fun W => W.cell? ⟨w.heap.size + 1, 0, none⟩ = some (.slice SB sm sd) ∧ W.cell? ⟨w.heap.size + 1, 1, none⟩ = some (.slice GB gm gd) ∧ W.cell? ⟨w.heap.size + 1, 2, none⟩ = some (.slice EB em ed)) W) := Lib.hid fun W hb => by obtain ⟨q0_0, q0_1, q0_2, q1_0, q1_1, q1_2, q2_0, q2_1, q2_2, q2_3, q2_4, q2_5, q2_6, q2_7, q2_8, q2_9, q2_10, q2_11, q2_12, q2_13, q2_14, q3_0, q3_1, q3_2⟩ := HCE.out _ hb; exact ⟨q1_0, q1_1, q1_2⟩
            go_region_held3 (fun W => W.cell? ⟨w.heap.size + 1, 0, none⟩ = some (.slice SB sm sd) ∧ W.cell? ⟨w.heap.size + 1, 1, none⟩ = some (.slice GB gm gd) ∧ W.cell? ⟨w.heap.size + 1, 2, none⟩ = some (.slice EB em ed)) (first | exact HC3.out _ HB9.out | exact HC3.out _ HB9.out.drew | exact HC3.out _ HB9.out.drew.drew | exact HC3.out _ HB10.out) ((go_at_call 43; (with_reducible refine (Hhin.out _ (HB0.out.trans (HB9.out.drew.mono HB0.out.size))).mono ?_); rintro e w10 ⟨v, rfl, hb, hR⟩; have HB10 := Lib.hid (HB9.out.drew.trans (hb.mono HB9.out.drew.size)); have HR1 := Lib.hid hR; clear hb hR))
            go_wp2_with fail
            refine (Hhva.out _ _ (HB0.out.trans (HB10.out.mono HB0.out.size)) HR1.out).mono ?_
            rintro e w11 ⟨u, rfl, hb, hR⟩
            have HB11 := Lib.hid (HB10.out.trans (hb.mono HB10.out.size))
            have HR2 := Lib.hid hR
            clear hb hR
            clear q0_0 q0_1 q0_2 q1_0 q1_1 q1_2 q2_0 q2_1 q2_2 q2_3 q2_4 q2_5 q2_6 q2_7 q2_8 q2_9 q2_10 q2_11 q2_12 q2_13 q2_14 q3_0 q3_1 q3_2
            obtain ⟨q0_0, q0_1, q0_2, q1_0, q1_1, q1_2, q2_0, q2_1, q2_2, q2_3, q2_4, q2_5, q2_6, q2_7, q2_8, q2_9, q2_10, q2_11, q2_12, q2_13, q2_14, q3_0, q3_1, q3_2⟩ := HCE.out _ HB11.out
            go_wp2_with fail
            refine (Hhwo.out _ _ (HB0.out.trans (HB11.out.mono HB0.out.size)) HR2.out).mono ?_
            rintro e w12 ⟨t, nb, say, rfl, hb, hsay⟩
            have HB12 := Lib.hid (HB11.out.trans (hb.mono HB11.out.size))
            clear hb q0_0 q0_1 q0_2 q1_0 q1_1 q1_2 q2_0 q2_1 q2_2 q2_3 q2_4 q2_5 q2_6 q2_7 q2_8 q2_9 q2_10 q2_11 q2_12 q2_13 q2_14 q3_0 q3_1 q3_2
            cases say with
            | false =>
              clear hsay
              go_wp2_with fail
              go_ret
              exact ⟨rfl, HB0.out.trans (HB12.out.mono HB0.out.size)⟩
            | true =>
              rcases hsay rfl with ⟨rfl, ad, i, vl, vd, rfl, rfl, hi, hc⟩ | ⟨hnb, hB, hN⟩
              · clear hsay
                obtain ⟨q0_0, q0_1, q0_2, q1_0, q1_1, q1_2, q2_0, q2_1, q2_2, q2_3, q2_4, q2_5, q2_6, q2_7, q2_8, q2_9, q2_10, q2_11, q2_12, q2_13, q2_14, q3_0, q3_1, q3_2⟩ := HCE.out _ HB12.out
                have i1 : (0 : Int) ≤ (i : Int) := by omega
                have i2 : (i : Int) < (vl : Int) := by omega
                go_wp2_with fail
                go_ret
                exact ⟨ret_true (by simp), HB0.out.trans (HB12.out.mono HB0.out.size)⟩
              · clear hsay
                have n0 : (nb == 0) = false := by simpa using hnb
                have HBB := Lib.hid hB
                have HNN := Lib.hid hN
                clear hB hN
                obtain ⟨q0_0, q0_1, q0_2, q1_0, q1_1, q1_2, q2_0, q2_1, q2_2, q2_3, q2_4, q2_5, q2_6, q2_7, q2_8, q2_9, q2_10, q2_11, q2_12, q2_13, q2_14, q3_0, q3_1, q3_2⟩ := HCE.out _ HB12.out
                go_wp2_with fail
                refine (HBB.out _ (Below.refl _ _)).mono ?_
                rintro e w13 ⟨rfl, hb⟩
                have HB13 := Lib.hid (HB12.out.trans (hb.mono HB12.out.size))
                have HW13 := Lib.hid hb
                clear hb
                clear q0_0 q0_1 q0_2 q1_0 q1_1 q1_2 q2_0 q2_1 q2_2 q2_3 q2_4 q2_5 q2_6 q2_7 q2_8 q2_9 q2_10 q2_11 q2_12 q2_13 q2_14 q3_0 q3_1 q3_2
                obtain ⟨q0_0, q0_1, q0_2, q1_0, q1_1, q1_2, q2_0, q2_1, q2_2, q2_3, q2_4, q2_5, q2_6, q2_7, q2_8, q2_9, q2_10, q2_11, q2_12, q2_13, q2_14, q3_0, q3_1, q3_2⟩ := HCE.out _ HB13.out
                go_wp2_with fail
                refine (HNN.out _ HW13.out).mono ?_
                rintro e w14 ⟨rfl, hb⟩
                have HB14 := Lib.hid (HB13.out.trans (hb.mono HB13.out.size))
                clear hb
                go_wp2_with fail
                go_ret
                exact ⟨ret_true (by simp), HB0.out.trans (HB14.out.mono HB0.out.size)⟩
        · obtain rfl := HN2.out m0
          have a1 : (m == 0) = false := by simpa using m0
          have a2 : (m != 0) = true := by simpa using m0
          have a3 : (m == 2) = false := by simpa using m2
          have a4 : (m != 2) = true := by simpa using m2
          by_cases m1 : m < 10
          · as_aux_lemma =>
              have a5 : decide (10 ≤ m) = false := by simp; omega
              go_wp2_with fail
              refine (Hhpx.out _ (HB0.out.trans (HB7.out.mono HB0.out.size))).mono ?_
              rintro e w8 ⟨rfl, hb⟩
              have HB8 := Lib.hid (HB7.out.trans (hb.mono HB7.out.size))
              clear hb
              clear q0_0 q0_1 q0_2 q1_0 q1_1 q1_2 q2_0 q2_1 q2_2 q2_3 q2_4 q2_5 q2_6 q2_7 q2_8 q2_9 q2_10 q2_11 q2_12 q2_13 q2_14 q3_0 q3_1 q3_2
              obtain ⟨q0_0, q0_1, q0_2, q1_0, q1_1, q1_2, q2_0, q2_1, q2_2, q2_3, q2_4, q2_5, q2_6, q2_7, q2_8, q2_9, q2_10, q2_11, q2_12, q2_13, q2_14, q3_0, q3_1, q3_2⟩ := HCE.out _ HB8.out
              go_wp2_with fail
              refine (Hpa.out _ _ (HB0.out.trans ((HB8.out.alloc HB8.out.size _).mono HB0.out.size)) (one_read _ _ _)).mono ?_
              rintro e w9 ⟨rfl, hb⟩
              have HB9 := Lib.hid ((HB8.out.alloc HB8.out.size (.cells #[.int .i64 at_] 3)).trans (hb.mono ((HB8.out.alloc HB8.out.size (.cells #[.int .i64 at_] 3)).size)))
              clear hb
              clear q0_0 q0_1 q0_2 q1_0 q1_1 q1_2 q2_0 q2_1 q2_2 q2_3 q2_4 q2_5 q2_6 q2_7 q2_8 q2_9 q2_10 q2_11 q2_12 q2_13 q2_14 q3_0 q3_1 q3_2
              obtain ⟨q0_0, q0_1, q0_2, q1_0, q1_1, q1_2, q2_0, q2_1, q2_2, q2_3, q2_4, q2_5, q2_6, q2_7, q2_8, q2_9, q2_10, q2_11, q2_12, q2_13, q2_14, q3_0, q3_1, q3_2⟩ := HCE.out _ HB9.out
              go_wp2_with fail
              have b1 : sm ≤ ic := by have := HN.out.2.2.2; omega
              have b2 : (0 : Int) ≤ (sm : Int) := by omega
              have b3 : (sm : Int) ≤ (ic : Int) := by omega
              have HC3 : Hid (∀ W, Below w2.heap.size w2 W → (fun W => W.cell? ⟨w.heap.size + 1, 0, none⟩ = some (.slice SB sm sd) ∧ W.cell? ⟨w.heap.size + 1, 1, none⟩ = some (.slice GB gm gd) ∧ W.cell? ⟨w.heap.size + 1, 2, none⟩ = some (.slice EB em ed)) W) := Lib.hid fun W hb => by obtain ⟨q0_0, q0_1, q0_2, q1_0, q1_1, q1_2, q2_0, q2_1, q2_2, q2_3, q2_4, q2_5, q2_6, q2_7, q2_8, q2_9, q2_10, q2_11, q2_12, q2_13, q2_14, q3_0, q3_1, q3_2⟩ := HCE.out _ hb; exact ⟨q1_0, q1_1, q1_2⟩
              go_region_held3 (fun W => W.cell? ⟨w.heap.size + 1, 0, none⟩ = some (.slice SB sm sd) ∧ W.cell? ⟨w.heap.size + 1, 1, none⟩ = some (.slice GB gm gd) ∧ W.cell? ⟨w.heap.size + 1, 2, none⟩ = some (.slice EB em ed)) (first | exact HC3.out _ HB9.out | exact HC3.out _ HB9.out.drew | exact HC3.out _ HB9.out.drew.drew | exact HC3.out _ HB10.out) ((go_at_call 43; (with_reducible refine (Hhin.out _ (HB0.out.trans (HB9.out.drew.mono HB0.out.size))).mono ?_); rintro e w10 ⟨v, rfl, hb, hR⟩; have HB10 := Lib.hid (HB9.out.drew.trans (hb.mono HB9.out.drew.size)); have HR1 := Lib.hid hR; clear hb hR))
              go_wp2_with fail
              refine (Hhva.out _ _ (HB0.out.trans (HB10.out.mono HB0.out.size)) HR1.out).mono ?_
              rintro e w11 ⟨u, rfl, hb, hR⟩
              have HB11 := Lib.hid (HB10.out.trans (hb.mono HB10.out.size))
              have HR2 := Lib.hid hR
              clear hb hR
              clear q0_0 q0_1 q0_2 q1_0 q1_1 q1_2 q2_0 q2_1 q2_2 q2_3 q2_4 q2_5 q2_6 q2_7 q2_8 q2_9 q2_10 q2_11 q2_12 q2_13 q2_14 q3_0 q3_1 q3_2
              obtain ⟨q0_0, q0_1, q0_2, q1_0, q1_1, q1_2, q2_0, q2_1, q2_2, q2_3, q2_4, q2_5, q2_6, q2_7, q2_8, q2_9, q2_10, q2_11, q2_12, q2_13, q2_14, q3_0, q3_1, q3_2⟩ := HCE.out _ HB11.out
              go_wp2_with fail
              refine (Hhwo.out _ _ (HB0.out.trans (HB11.out.mono HB0.out.size)) HR2.out).mono ?_
              rintro e w12 ⟨t, nb, say, rfl, hb, hsay⟩
              have HB12 := Lib.hid (HB11.out.trans (hb.mono HB11.out.size))
              clear hb q0_0 q0_1 q0_2 q1_0 q1_1 q1_2 q2_0 q2_1 q2_2 q2_3 q2_4 q2_5 q2_6 q2_7 q2_8 q2_9 q2_10 q2_11 q2_12 q2_13 q2_14 q3_0 q3_1 q3_2
              cases say with
              | false =>
                clear hsay
                go_wp2_with fail
                go_ret
                exact ⟨rfl, HB0.out.trans (HB12.out.mono HB0.out.size)⟩
              | true =>
                rcases hsay rfl with ⟨rfl, ad, i, vl, vd, rfl, rfl, hi, hc⟩ | ⟨hnb, hB, hN⟩
                · clear hsay
                  obtain ⟨q0_0, q0_1, q0_2, q1_0, q1_1, q1_2, q2_0, q2_1, q2_2, q2_3, q2_4, q2_5, q2_6, q2_7, q2_8, q2_9, q2_10, q2_11, q2_12, q2_13, q2_14, q3_0, q3_1, q3_2⟩ := HCE.out _ HB12.out
                  have i1 : (0 : Int) ≤ (i : Int) := by omega
                  have i2 : (i : Int) < (vl : Int) := by omega
                  go_wp2_with fail
                  go_ret
                  exact ⟨ret_true (by simp), HB0.out.trans (HB12.out.mono HB0.out.size)⟩
                · clear hsay
                  have n0 : (nb == 0) = false := by simpa using hnb
                  have HBB := Lib.hid hB
                  have HNN := Lib.hid hN
                  clear hB hN
                  obtain ⟨q0_0, q0_1, q0_2, q1_0, q1_1, q1_2, q2_0, q2_1, q2_2, q2_3, q2_4, q2_5, q2_6, q2_7, q2_8, q2_9, q2_10, q2_11, q2_12, q2_13, q2_14, q3_0, q3_1, q3_2⟩ := HCE.out _ HB12.out
                  go_wp2_with fail
                  refine (HBB.out _ (Below.refl _ _)).mono ?_
                  rintro e w13 ⟨rfl, hb⟩
                  have HB13 := Lib.hid (HB12.out.trans (hb.mono HB12.out.size))
                  have HW13 := Lib.hid hb
                  clear hb
                  clear q0_0 q0_1 q0_2 q1_0 q1_1 q1_2 q2_0 q2_1 q2_2 q2_3 q2_4 q2_5 q2_6 q2_7 q2_8 q2_9 q2_10 q2_11 q2_12 q2_13 q2_14 q3_0 q3_1 q3_2
                  obtain ⟨q0_0, q0_1, q0_2, q1_0, q1_1, q1_2, q2_0, q2_1, q2_2, q2_3, q2_4, q2_5, q2_6, q2_7, q2_8, q2_9, q2_10, q2_11, q2_12, q2_13, q2_14, q3_0, q3_1, q3_2⟩ := HCE.out _ HB13.out
                  go_wp2_with fail
                  refine (HNN.out _ HW13.out).mono ?_
                  rintro e w14 ⟨rfl, hb⟩
                  have HB14 := Lib.hid (HB13.out.trans (hb.mono HB13.out.size))
                  clear hb
                  go_wp2_with fail
                  go_ret
                  exact ⟨ret_true (by simp), HB0.out.trans (HB14.out.mono HB0.out.size)⟩
          · as_aux_lemma =>
              have a5 : decide (10 ≤ m) = true := by simp; omega
              have a6 : decide (m ≤ 12) = false := by simp; omega
              go_wp2_with fail
              refine (Hhpx.out _ (HB0.out.trans (HB7.out.mono HB0.out.size))).mono ?_
              rintro e w8 ⟨rfl, hb⟩
              have HB8 := Lib.hid (HB7.out.trans (hb.mono HB7.out.size))
              clear hb
              clear q0_0 q0_1 q0_2 q1_0 q1_1 q1_2 q2_0 q2_1 q2_2 q2_3 q2_4 q2_5 q2_6 q2_7 q2_8 q2_9 q2_10 q2_11 q2_12 q2_13 q2_14 q3_0 q3_1 q3_2
              obtain ⟨q0_0, q0_1, q0_2, q1_0, q1_1, q1_2, q2_0, q2_1, q2_2, q2_3, q2_4, q2_5, q2_6, q2_7, q2_8, q2_9, q2_10, q2_11, q2_12, q2_13, q2_14, q3_0, q3_1, q3_2⟩ := HCE.out _ HB8.out
              go_wp2_with fail
              refine (Hpa.out _ _ (HB0.out.trans ((HB8.out.alloc HB8.out.size _).mono HB0.out.size)) (one_read _ _ _)).mono ?_
              rintro e w9 ⟨rfl, hb⟩
              have HB9 := Lib.hid ((HB8.out.alloc HB8.out.size (.cells #[.int .i64 at_] 3)).trans (hb.mono ((HB8.out.alloc HB8.out.size (.cells #[.int .i64 at_] 3)).size)))
              clear hb
              clear q0_0 q0_1 q0_2 q1_0 q1_1 q1_2 q2_0 q2_1 q2_2 q2_3 q2_4 q2_5 q2_6 q2_7 q2_8 q2_9 q2_10 q2_11 q2_12 q2_13 q2_14 q3_0 q3_1 q3_2
              obtain ⟨q0_0, q0_1, q0_2, q1_0, q1_1, q1_2, q2_0, q2_1, q2_2, q2_3, q2_4, q2_5, q2_6, q2_7, q2_8, q2_9, q2_10, q2_11, q2_12, q2_13, q2_14, q3_0, q3_1, q3_2⟩ := HCE.out _ HB9.out
              go_wp2_with fail
              have b1 : sm ≤ ic := by have := HN.out.2.2.2; omega
              have b2 : (0 : Int) ≤ (sm : Int) := by omega
              have b3 : (sm : Int) ≤ (ic : Int) := by omega
              have HC3 : Hid (∀ W, Below w2.heap.size w2 W → (fun W => W.cell? ⟨w.heap.size + 1, 0, none⟩ = some (.slice SB sm sd) ∧ W.cell? ⟨w.heap.size + 1, 1, none⟩ = some (.slice GB gm gd) ∧ W.cell? ⟨w.heap.size + 1, 2, none⟩ = some (.slice EB em ed)) W) := Lib.hid fun W hb => by obtain ⟨q0_0, q0_1, q0_2, q1_0, q1_1, q1_2, q2_0, q2_1, q2_2, q2_3, q2_4, q2_5, q2_6, q2_7, q2_8, q2_9, q2_10, q2_11, q2_12, q2_13, q2_14, q3_0, q3_1, q3_2⟩ := HCE.out _ hb; exact ⟨q1_0, q1_1, q1_2⟩
              go_region_held3 (fun W => W.cell? ⟨w.heap.size + 1, 0, none⟩ = some (.slice SB sm sd) ∧ W.cell? ⟨w.heap.size + 1, 1, none⟩ = some (.slice GB gm gd) ∧ W.cell? ⟨w.heap.size + 1, 2, none⟩ = some (.slice EB em ed)) (first | exact HC3.out _ HB9.out | exact HC3.out _ HB9.out.drew | exact HC3.out _ HB9.out.drew.drew | exact HC3.out _ HB10.out) ((go_at_call 43; (with_reducible refine (Hhin.out _ (HB0.out.trans (HB9.out.drew.mono HB0.out.size))).mono ?_); rintro e w10 ⟨v, rfl, hb, hR⟩; have HB10 := Lib.hid (HB9.out.drew.trans (hb.mono HB9.out.drew.size)); have HR1 := Lib.hid hR; clear hb hR))
              go_wp2_with fail
              refine (Hhva.out _ _ (HB0.out.trans (HB10.out.mono HB0.out.size)) HR1.out).mono ?_
              rintro e w11 ⟨u, rfl, hb, hR⟩
              have HB11 := Lib.hid (HB10.out.trans (hb.mono HB10.out.size))
              have HR2 := Lib.hid hR
              clear hb hR
              clear q0_0 q0_1 q0_2 q1_0 q1_1 q1_2 q2_0 q2_1 q2_2 q2_3 q2_4 q2_5 q2_6 q2_7 q2_8 q2_9 q2_10 q2_11 q2_12 q2_13 q2_14 q3_0 q3_1 q3_2
              obtain ⟨q0_0, q0_1, q0_2, q1_0, q1_1, q1_2, q2_0, q2_1, q2_2, q2_3, q2_4, q2_5, q2_6, q2_7, q2_8, q2_9, q2_10, q2_11, q2_12, q2_13, q2_14, q3_0, q3_1, q3_2⟩ := HCE.out _ HB11.out
              go_wp2_with fail
              refine (Hhwo.out _ _ (HB0.out.trans (HB11.out.mono HB0.out.size)) HR2.out).mono ?_
              rintro e w12 ⟨t, nb, say, rfl, hb, hsay⟩
              have HB12 := Lib.hid (HB11.out.trans (hb.mono HB11.out.size))
              clear hb q0_0 q0_1 q0_2 q1_0 q1_1 q1_2 q2_0 q2_1 q2_2 q2_3 q2_4 q2_5 q2_6 q2_7 q2_8 q2_9 q2_10 q2_11 q2_12 q2_13 q2_14 q3_0 q3_1 q3_2
              cases say with
              | false =>
                clear hsay
                go_wp2_with fail
                go_ret
                exact ⟨rfl, HB0.out.trans (HB12.out.mono HB0.out.size)⟩
              | true =>
                rcases hsay rfl with ⟨rfl, ad, i, vl, vd, rfl, rfl, hi, hc⟩ | ⟨hnb, hB, hN⟩
                · clear hsay
                  obtain ⟨q0_0, q0_1, q0_2, q1_0, q1_1, q1_2, q2_0, q2_1, q2_2, q2_3, q2_4, q2_5, q2_6, q2_7, q2_8, q2_9, q2_10, q2_11, q2_12, q2_13, q2_14, q3_0, q3_1, q3_2⟩ := HCE.out _ HB12.out
                  have i1 : (0 : Int) ≤ (i : Int) := by omega
                  have i2 : (i : Int) < (vl : Int) := by omega
                  go_wp2_with fail
                  go_ret
                  exact ⟨ret_true (by simp), HB0.out.trans (HB12.out.mono HB0.out.size)⟩
                · clear hsay
                  have n0 : (nb == 0) = false := by simpa using hnb
                  have HBB := Lib.hid hB
                  have HNN := Lib.hid hN
                  clear hB hN
                  obtain ⟨q0_0, q0_1, q0_2, q1_0, q1_1, q1_2, q2_0, q2_1, q2_2, q2_3, q2_4, q2_5, q2_6, q2_7, q2_8, q2_9, q2_10, q2_11, q2_12, q2_13, q2_14, q3_0, q3_1, q3_2⟩ := HCE.out _ HB12.out
                  go_wp2_with fail
                  refine (HBB.out _ (Below.refl _ _)).mono ?_
                  rintro e w13 ⟨rfl, hb⟩
                  have HB13 := Lib.hid (HB12.out.trans (hb.mono HB12.out.size))
                  have HW13 := Lib.hid hb
                  clear hb
                  clear q0_0 q0_1 q0_2 q1_0 q1_1 q1_2 q2_0 q2_1 q2_2 q2_3 q2_4 q2_5 q2_6 q2_7 q2_8 q2_9 q2_10 q2_11 q2_12 q2_13 q2_14 q3_0 q3_1 q3_2
                  obtain ⟨q0_0, q0_1, q0_2, q1_0, q1_1, q1_2, q2_0, q2_1, q2_2, q2_3, q2_4, q2_5, q2_6, q2_7, q2_8, q2_9, q2_10, q2_11, q2_12, q2_13, q2_14, q3_0, q3_1, q3_2⟩ := HCE.out _ HB13.out
                  go_wp2_with fail
                  refine (HNN.out _ HW13.out).mono ?_
                  rintro e w14 ⟨rfl, hb⟩
                  have HB14 := Lib.hid (HB13.out.trans (hb.mono HB13.out.size))
                  clear hb
                  go_wp2_with fail
                  go_ret
                  exact ⟨ret_true (by simp), HB0.out.trans (HB14.out.mono HB0.out.size)⟩
end Go.Proofs.YtkcdlbclodjjhaaGreat
