/- Contracts and plain laws of chapter 13, merged: Sc Pga Pgb Pgc Pgd. -/
import Derived.Test.YtkcdlbclodjjhaaGreatSb
import Derived.Test.YtkcdlbclodjjhaaGreatGah
/- The law's step where the call is refused, and where gates lack. (Printed by wip/tools/gen_sc2.py.) -/
namespace Go.Proofs.YtkcdlbclodjjhaaGreat
open Go.RowKit

set_option maxHeartbeats 2000000 in
set_option maxRecDepth 100000 in
theorem step_bad (p : Nat) (SA GA EA SB GB EB VA WA TA UA X IA : Option Addr) (sn sc gn gc en ec sm sd gm gd em ed vn vc wn wc tn tc un uc cx il ic : Nat) (m a b c k s1 g1 g2 g3 g4 : Int) (s2 : Bool) (w : World) (er : Int) (h1 : (er != 0) = true) 
    (hwr : ∀ W, Below w.heap.size w W → Calls Tryz.prog 37 #[.int .u64 ((p : Nat) : Int), .agg #[.slice SA sn sc, .slice GA gn gc, .slice EA en ec], .agg #[.int .i64 m, .int .i64 a, .int .i64 b, .int .i64 c, .int .u64 k, .slice VA vn vc, .slice WA wn wc, .int .i64 s1, .bool s2, .int .i64 g1, .int .i64 g2, .int .i64 g3, .int .u64 g4, .slice TA tn tc, .slice UA un uc]] W (RetB (.int .i64 er) W))
    (hsa : ∀ W, Below w.heap.size w W → Calls Tryz.prog 7 #[.agg #[.slice SA sn sc, .slice GA gn gc, .slice EA en ec], .agg #[.slice SB sm sd, .slice GB gm gd, .slice EB em ed]] W (RetB (.bool true) W))
    : Calls Tryz.prog 10 #[.int .u64 ((p : Nat) : Int), .agg #[.slice SA sn sc, .slice GA gn gc, .slice EA en ec], .agg #[.slice SB sm sd, .slice GB gm gd, .slice EB em ed], .agg #[.int .i64 m, .int .i64 a, .int .i64 b, .int .i64 c, .int .u64 k, .slice VA vn vc, .slice WA wn wc, .int .i64 s1, .bool s2, .int .i64 g1, .int .i64 g2, .int .i64 g3, .int .u64 g4, .slice TA tn tc, .slice UA un uc], .agg #[.int .i64 0, .slice X 0 cx, .int .i64 er], .slice IA il ic] w (RetB (.bool true) w) := by
  obtain ⟨x1, x2, x3, x4, hb0⟩ := four_boxes w (.cells #[.slice SA sn sc, .slice GA gn gc, .slice EA en ec] 36) (.cells #[.slice SB sm sd, .slice GB gm gd, .slice EB em ed] 36) (.cells #[.int .i64 m, .int .i64 a, .int .i64 b, .int .i64 c, .int .u64 k, .slice VA vn vc, .slice WA wn wc, .int .i64 s1, .bool s2, .int .i64 g1, .int .i64 g2, .int .i64 g3, .int .u64 g4, .slice TA tn tc, .slice UA un uc] 46) (.cells #[.int .i64 0, .slice X 0 cx, .int .i64 er] 49)
  have HB0 := Lib.hid hb0
  generalize hw2 : ((((w.alloc (.cells #[.slice SA sn sc, .slice GA gn gc, .slice EA en ec] 36)).alloc (.cells #[.slice SB sm sd, .slice GB gm gd, .slice EB em ed] 36)).alloc (.cells #[.int .i64 m, .int .i64 a, .int .i64 b, .int .i64 c, .int .u64 k, .slice VA vn vc, .slice WA wn wc, .int .i64 s1, .bool s2, .int .i64 g1, .int .i64 g2, .int .i64 g3, .int .u64 g4, .slice TA tn tc, .slice UA un uc] 46)).alloc (.cells #[.int .i64 0, .slice X 0 cx, .int .i64 er] 49)) = w2 at *
  have q0_0 : w2.cell? ⟨w.heap.size, 0, none⟩ = some (.slice SA sn sc) := cell_in x1
  have q0_1 : w2.cell? ⟨w.heap.size, 1, none⟩ = some (.slice GA gn gc) := cell_in x1
  have q0_2 : w2.cell? ⟨w.heap.size, 2, none⟩ = some (.slice EA en ec) := cell_in x1
  have q1_0 : w2.cell? ⟨w.heap.size + 1, 0, none⟩ = some (.slice SB sm sd) := cell_in x2
  have q1_1 : w2.cell? ⟨w.heap.size + 1, 1, none⟩ = some (.slice GB gm gd) := cell_in x2
  have q1_2 : w2.cell? ⟨w.heap.size + 1, 2, none⟩ = some (.slice EB em ed) := cell_in x2
  have q2_0 : w2.cell? ⟨w.heap.size + 1 + 1, 0, none⟩ = some (.int .i64 m) := cell_in x3
  have q2_1 : w2.cell? ⟨w.heap.size + 1 + 1, 1, none⟩ = some (.int .i64 a) := cell_in x3
  have q2_2 : w2.cell? ⟨w.heap.size + 1 + 1, 2, none⟩ = some (.int .i64 b) := cell_in x3
  have q2_3 : w2.cell? ⟨w.heap.size + 1 + 1, 3, none⟩ = some (.int .i64 c) := cell_in x3
  have q2_4 : w2.cell? ⟨w.heap.size + 1 + 1, 4, none⟩ = some (.int .u64 k) := cell_in x3
  have q2_5 : w2.cell? ⟨w.heap.size + 1 + 1, 5, none⟩ = some (.slice VA vn vc) := cell_in x3
  have q2_6 : w2.cell? ⟨w.heap.size + 1 + 1, 6, none⟩ = some (.slice WA wn wc) := cell_in x3
  have q2_7 : w2.cell? ⟨w.heap.size + 1 + 1, 7, none⟩ = some (.int .i64 s1) := cell_in x3
  have q2_8 : w2.cell? ⟨w.heap.size + 1 + 1, 8, none⟩ = some (.bool s2) := cell_in x3
  have q2_9 : w2.cell? ⟨w.heap.size + 1 + 1, 9, none⟩ = some (.int .i64 g1) := cell_in x3
  have q2_10 : w2.cell? ⟨w.heap.size + 1 + 1, 10, none⟩ = some (.int .i64 g2) := cell_in x3
  have q2_11 : w2.cell? ⟨w.heap.size + 1 + 1, 11, none⟩ = some (.int .i64 g3) := cell_in x3
  have q2_12 : w2.cell? ⟨w.heap.size + 1 + 1, 12, none⟩ = some (.int .u64 g4) := cell_in x3
  have q2_13 : w2.cell? ⟨w.heap.size + 1 + 1, 13, none⟩ = some (.slice TA tn tc) := cell_in x3
  have q2_14 : w2.cell? ⟨w.heap.size + 1 + 1, 14, none⟩ = some (.slice UA un uc) := cell_in x3
  have q3_0 : w2.cell? ⟨w.heap.size + 1 + 1 + 1, 0, none⟩ = some (.int .i64 0) := cell_in x4
  have q3_1 : w2.cell? ⟨w.heap.size + 1 + 1 + 1, 1, none⟩ = some (.slice X 0 cx) := cell_in x4
  have q3_2 : w2.cell? ⟨w.heap.size + 1 + 1 + 1, 2, none⟩ = some (.int .i64 er) := cell_in x4
  clear x1 x2 x3 x4 hb0
  have HCE : Hid (∀ W, Below w2.heap.size w2 W → (fun W => W.cell? ⟨w.heap.size, 0, none⟩ = some (.slice SA sn sc) ∧ W.cell? ⟨w.heap.size, 1, none⟩ = some (.slice GA gn gc) ∧ W.cell? ⟨w.heap.size, 2, none⟩ = some (.slice EA en ec) ∧ W.cell? ⟨w.heap.size + 1, 0, none⟩ = some (.slice SB sm sd) ∧ W.cell? ⟨w.heap.size + 1, 1, none⟩ = some (.slice GB gm gd) ∧ W.cell? ⟨w.heap.size + 1, 2, none⟩ = some (.slice EB em ed) ∧ W.cell? ⟨w.heap.size + 1 + 1, 0, none⟩ = some (.int .i64 m) ∧ W.cell? ⟨w.heap.size + 1 + 1, 1, none⟩ = some (.int .i64 a) ∧ W.cell? ⟨w.heap.size + 1 + 1, 2, none⟩ = some (.int .i64 b) ∧ W.cell? ⟨w.heap.size + 1 + 1, 3, none⟩ = some (.int .i64 c) ∧ W.cell? ⟨w.heap.size + 1 + 1, 4, none⟩ = some (.int .u64 k) ∧ W.cell? ⟨w.heap.size + 1 + 1, 5, none⟩ = some (.slice VA vn vc) ∧ W.cell? ⟨w.heap.size + 1 + 1, 6, none⟩ = some (.slice WA wn wc) ∧ W.cell? ⟨w.heap.size + 1 + 1, 7, none⟩ = some (.int .i64 s1) ∧ W.cell? ⟨w.heap.size + 1 + 1, 8, none⟩ = some (.bool s2) ∧ W.cell? ⟨w.heap.size + 1 + 1, 9, none⟩ = some (.int .i64 g1) ∧ W.cell? ⟨w.heap.size + 1 + 1, 10, none⟩ = some (.int .i64 g2) ∧ W.cell? ⟨w.heap.size + 1 + 1, 11, none⟩ = some (.int .i64 g3) ∧ W.cell? ⟨w.heap.size + 1 + 1, 12, none⟩ = some (.int .u64 g4) ∧ W.cell? ⟨w.heap.size + 1 + 1, 13, none⟩ = some (.slice TA tn tc) ∧ W.cell? ⟨w.heap.size + 1 + 1, 14, none⟩ = some (.slice UA un uc) ∧ W.cell? ⟨w.heap.size + 1 + 1 + 1, 0, none⟩ = some (.int .i64 0) ∧ W.cell? ⟨w.heap.size + 1 + 1 + 1, 1, none⟩ = some (.slice X 0 cx) ∧ W.cell? ⟨w.heap.size + 1 + 1 + 1, 2, none⟩ = some (.int .i64 er)) W) := Lib.hid fun W hb => ⟨cell_blS q0_0 hb, cell_blS q0_1 hb, cell_blS q0_2 hb, cell_blS q1_0 hb, cell_blS q1_1 hb, cell_blS q1_2 hb, cell_blS q2_0 hb, cell_blS q2_1 hb, cell_blS q2_2 hb, cell_blS q2_3 hb, cell_blS q2_4 hb, cell_blS q2_5 hb, cell_blS q2_6 hb, cell_blS q2_7 hb, cell_blS q2_8 hb, cell_blS q2_9 hb, cell_blS q2_10 hb, cell_blS q2_11 hb, cell_blS q2_12 hb, cell_blS q2_13 hb, cell_blS q2_14 hb, cell_blS q3_0 hb, cell_blS q3_1 hb, cell_blS q3_2 hb⟩
  have Hhwr := Lib.hid hwr; clear hwr
  have Hhsa := Lib.hid hsa; clear hsa
  go_enter Tryz.func10, Tryz.ntmps10
  go_wp2_with fail
  refine (Hhwr.out _ (HB0.out.trans ((Below.refl w2.heap.size w2).mono HB0.out.size))).mono ?_
  rintro e w1 ⟨rfl, hb⟩
  have HB1 := Lib.hid ((Below.refl w2.heap.size w2).trans (hb.mono (Below.refl w2.heap.size w2).size))
  clear hb
  clear q0_0 q0_1 q0_2 q1_0 q1_1 q1_2 q2_0 q2_1 q2_2 q2_3 q2_4 q2_5 q2_6 q2_7 q2_8 q2_9 q2_10 q2_11 q2_12 q2_13 q2_14 q3_0 q3_1 q3_2
  obtain ⟨q0_0, q0_1, q0_2, q1_0, q1_1, q1_2, q2_0, q2_1, q2_2, q2_3, q2_4, q2_5, q2_6, q2_7, q2_8, q2_9, q2_10, q2_11, q2_12, q2_13, q2_14, q3_0, q3_1, q3_2⟩ := HCE.out _ HB1.out
  go_wp2_with fail
  refine (Hhsa.out _ (HB0.out.trans (HB1.out.mono HB0.out.size))).mono ?_
  rintro e w2 ⟨rfl, hb⟩
  have HB2 := Lib.hid (HB1.out.trans (hb.mono HB1.out.size))
  clear hb
  go_wp2_with fail
  go_ret
  exact ⟨ret_true (by simp), HB0.out.trans (HB2.out.mono HB0.out.size)⟩
set_option maxHeartbeats 2000000 in
set_option maxRecDepth 100000 in
theorem step_limit (p : Nat) (SA GA EA SB GB EB VA WA TA UA X IA : Option Addr) (sn sc gn gc en ec sm sd gm gd em ed vn vc wn wc tn tc un uc cx il ic : Nat) (m a b c k s1 g1 g2 g3 g4 : Int) (s2 : Bool) (w : World) (gN : Nat) (hm4 : 4 ≤ m) (hl : 65536 < gn + gN) (hu : gn ≤ 65536 ∧ gN ≤ 65536)
    (hwr : ∀ W, Below w.heap.size w W → Calls Tryz.prog 37 #[.int .u64 ((p : Nat) : Int), .agg #[.slice SA sn sc, .slice GA gn gc, .slice EA en ec], .agg #[.int .i64 m, .int .i64 a, .int .i64 b, .int .i64 c, .int .u64 k, .slice VA vn vc, .slice WA wn wc, .int .i64 s1, .bool s2, .int .i64 g1, .int .i64 g2, .int .i64 g3, .int .u64 g4, .slice TA tn tc, .slice UA un uc]] W (RetB (.int .i64 0) W))
    (hga : ∀ W, Below w.heap.size w W → Calls Tryz.prog 38 #[.agg #[.int .i64 m, .int .i64 a, .int .i64 b, .int .i64 c, .int .u64 k, .slice VA vn vc, .slice WA wn wc, .int .i64 s1, .bool s2, .int .i64 g1, .int .i64 g2, .int .i64 g3, .int .u64 g4, .slice TA tn tc, .slice UA un uc]] W (RetB (.int .i64 ((gN : Nat) : Int)) W))
    (hsa : ∀ W, Below w.heap.size w W → Calls Tryz.prog 7 #[.agg #[.slice SA sn sc, .slice GA gn gc, .slice EA en ec], .agg #[.slice SB sm sd, .slice GB gm gd, .slice EB em ed]] W (RetB (.bool true) W))
    : Calls Tryz.prog 10 #[.int .u64 ((p : Nat) : Int), .agg #[.slice SA sn sc, .slice GA gn gc, .slice EA en ec], .agg #[.slice SB sm sd, .slice GB gm gd, .slice EB em ed], .agg #[.int .i64 m, .int .i64 a, .int .i64 b, .int .i64 c, .int .u64 k, .slice VA vn vc, .slice WA wn wc, .int .i64 s1, .bool s2, .int .i64 g1, .int .i64 g2, .int .i64 g3, .int .u64 g4, .slice TA tn tc, .slice UA un uc], .agg #[.int .i64 0, .slice X 0 cx, .int .i64 3], .slice IA il ic] w (RetB (.bool true) w) := by
  obtain ⟨x1, x2, x3, x4, hb0⟩ := four_boxes w (.cells #[.slice SA sn sc, .slice GA gn gc, .slice EA en ec] 36) (.cells #[.slice SB sm sd, .slice GB gm gd, .slice EB em ed] 36) (.cells #[.int .i64 m, .int .i64 a, .int .i64 b, .int .i64 c, .int .u64 k, .slice VA vn vc, .slice WA wn wc, .int .i64 s1, .bool s2, .int .i64 g1, .int .i64 g2, .int .i64 g3, .int .u64 g4, .slice TA tn tc, .slice UA un uc] 46) (.cells #[.int .i64 0, .slice X 0 cx, .int .i64 3] 49)
  have HB0 := Lib.hid hb0
  generalize hw2 : ((((w.alloc (.cells #[.slice SA sn sc, .slice GA gn gc, .slice EA en ec] 36)).alloc (.cells #[.slice SB sm sd, .slice GB gm gd, .slice EB em ed] 36)).alloc (.cells #[.int .i64 m, .int .i64 a, .int .i64 b, .int .i64 c, .int .u64 k, .slice VA vn vc, .slice WA wn wc, .int .i64 s1, .bool s2, .int .i64 g1, .int .i64 g2, .int .i64 g3, .int .u64 g4, .slice TA tn tc, .slice UA un uc] 46)).alloc (.cells #[.int .i64 0, .slice X 0 cx, .int .i64 3] 49)) = w2 at *
  have q0_0 : w2.cell? ⟨w.heap.size, 0, none⟩ = some (.slice SA sn sc) := cell_in x1
  have q0_1 : w2.cell? ⟨w.heap.size, 1, none⟩ = some (.slice GA gn gc) := cell_in x1
  have q0_2 : w2.cell? ⟨w.heap.size, 2, none⟩ = some (.slice EA en ec) := cell_in x1
  have q1_0 : w2.cell? ⟨w.heap.size + 1, 0, none⟩ = some (.slice SB sm sd) := cell_in x2
  have q1_1 : w2.cell? ⟨w.heap.size + 1, 1, none⟩ = some (.slice GB gm gd) := cell_in x2
  have q1_2 : w2.cell? ⟨w.heap.size + 1, 2, none⟩ = some (.slice EB em ed) := cell_in x2
  have q2_0 : w2.cell? ⟨w.heap.size + 1 + 1, 0, none⟩ = some (.int .i64 m) := cell_in x3
  have q2_1 : w2.cell? ⟨w.heap.size + 1 + 1, 1, none⟩ = some (.int .i64 a) := cell_in x3
  have q2_2 : w2.cell? ⟨w.heap.size + 1 + 1, 2, none⟩ = some (.int .i64 b) := cell_in x3
  have q2_3 : w2.cell? ⟨w.heap.size + 1 + 1, 3, none⟩ = some (.int .i64 c) := cell_in x3
  have q2_4 : w2.cell? ⟨w.heap.size + 1 + 1, 4, none⟩ = some (.int .u64 k) := cell_in x3
  have q2_5 : w2.cell? ⟨w.heap.size + 1 + 1, 5, none⟩ = some (.slice VA vn vc) := cell_in x3
  have q2_6 : w2.cell? ⟨w.heap.size + 1 + 1, 6, none⟩ = some (.slice WA wn wc) := cell_in x3
  have q2_7 : w2.cell? ⟨w.heap.size + 1 + 1, 7, none⟩ = some (.int .i64 s1) := cell_in x3
  have q2_8 : w2.cell? ⟨w.heap.size + 1 + 1, 8, none⟩ = some (.bool s2) := cell_in x3
  have q2_9 : w2.cell? ⟨w.heap.size + 1 + 1, 9, none⟩ = some (.int .i64 g1) := cell_in x3
  have q2_10 : w2.cell? ⟨w.heap.size + 1 + 1, 10, none⟩ = some (.int .i64 g2) := cell_in x3
  have q2_11 : w2.cell? ⟨w.heap.size + 1 + 1, 11, none⟩ = some (.int .i64 g3) := cell_in x3
  have q2_12 : w2.cell? ⟨w.heap.size + 1 + 1, 12, none⟩ = some (.int .u64 g4) := cell_in x3
  have q2_13 : w2.cell? ⟨w.heap.size + 1 + 1, 13, none⟩ = some (.slice TA tn tc) := cell_in x3
  have q2_14 : w2.cell? ⟨w.heap.size + 1 + 1, 14, none⟩ = some (.slice UA un uc) := cell_in x3
  have q3_0 : w2.cell? ⟨w.heap.size + 1 + 1 + 1, 0, none⟩ = some (.int .i64 0) := cell_in x4
  have q3_1 : w2.cell? ⟨w.heap.size + 1 + 1 + 1, 1, none⟩ = some (.slice X 0 cx) := cell_in x4
  have q3_2 : w2.cell? ⟨w.heap.size + 1 + 1 + 1, 2, none⟩ = some (.int .i64 3) := cell_in x4
  clear x1 x2 x3 x4 hb0
  have HCE : Hid (∀ W, Below w2.heap.size w2 W → (fun W => W.cell? ⟨w.heap.size, 0, none⟩ = some (.slice SA sn sc) ∧ W.cell? ⟨w.heap.size, 1, none⟩ = some (.slice GA gn gc) ∧ W.cell? ⟨w.heap.size, 2, none⟩ = some (.slice EA en ec) ∧ W.cell? ⟨w.heap.size + 1, 0, none⟩ = some (.slice SB sm sd) ∧ W.cell? ⟨w.heap.size + 1, 1, none⟩ = some (.slice GB gm gd) ∧ W.cell? ⟨w.heap.size + 1, 2, none⟩ = some (.slice EB em ed) ∧ W.cell? ⟨w.heap.size + 1 + 1, 0, none⟩ = some (.int .i64 m) ∧ W.cell? ⟨w.heap.size + 1 + 1, 1, none⟩ = some (.int .i64 a) ∧ W.cell? ⟨w.heap.size + 1 + 1, 2, none⟩ = some (.int .i64 b) ∧ W.cell? ⟨w.heap.size + 1 + 1, 3, none⟩ = some (.int .i64 c) ∧ W.cell? ⟨w.heap.size + 1 + 1, 4, none⟩ = some (.int .u64 k) ∧ W.cell? ⟨w.heap.size + 1 + 1, 5, none⟩ = some (.slice VA vn vc) ∧ W.cell? ⟨w.heap.size + 1 + 1, 6, none⟩ = some (.slice WA wn wc) ∧ W.cell? ⟨w.heap.size + 1 + 1, 7, none⟩ = some (.int .i64 s1) ∧ W.cell? ⟨w.heap.size + 1 + 1, 8, none⟩ = some (.bool s2) ∧ W.cell? ⟨w.heap.size + 1 + 1, 9, none⟩ = some (.int .i64 g1) ∧ W.cell? ⟨w.heap.size + 1 + 1, 10, none⟩ = some (.int .i64 g2) ∧ W.cell? ⟨w.heap.size + 1 + 1, 11, none⟩ = some (.int .i64 g3) ∧ W.cell? ⟨w.heap.size + 1 + 1, 12, none⟩ = some (.int .u64 g4) ∧ W.cell? ⟨w.heap.size + 1 + 1, 13, none⟩ = some (.slice TA tn tc) ∧ W.cell? ⟨w.heap.size + 1 + 1, 14, none⟩ = some (.slice UA un uc) ∧ W.cell? ⟨w.heap.size + 1 + 1 + 1, 0, none⟩ = some (.int .i64 0) ∧ W.cell? ⟨w.heap.size + 1 + 1 + 1, 1, none⟩ = some (.slice X 0 cx) ∧ W.cell? ⟨w.heap.size + 1 + 1 + 1, 2, none⟩ = some (.int .i64 3)) W) := Lib.hid fun W hb => ⟨cell_blS q0_0 hb, cell_blS q0_1 hb, cell_blS q0_2 hb, cell_blS q1_0 hb, cell_blS q1_1 hb, cell_blS q1_2 hb, cell_blS q2_0 hb, cell_blS q2_1 hb, cell_blS q2_2 hb, cell_blS q2_3 hb, cell_blS q2_4 hb, cell_blS q2_5 hb, cell_blS q2_6 hb, cell_blS q2_7 hb, cell_blS q2_8 hb, cell_blS q2_9 hb, cell_blS q2_10 hb, cell_blS q2_11 hb, cell_blS q2_12 hb, cell_blS q2_13 hb, cell_blS q2_14 hb, cell_blS q3_0 hb, cell_blS q3_1 hb, cell_blS q3_2 hb⟩
  have Hhwr := Lib.hid hwr; clear hwr
  have Hhga := Lib.hid hga; clear hga
  have Hhsa := Lib.hid hsa; clear hsa
  go_enter Tryz.func10, Tryz.ntmps10
  have k1 : ((3 : Int) == 3) = true := by decide
  have a1 : decide (4 ≤ m) = true := by simp; omega
  have a2 : decide ((65536 : Int) < ((gn : Nat) : Int) + ((gN : Nat) : Int)) = true := by simp; omega
  have a3 : IntKind.i64.wrap (((gn : Nat) : Int) + ((gN : Nat) : Int)) = ((gn : Nat) : Int) + ((gN : Nat) : Int) := IntWalk.i64_in _ (by omega)
  clear hl hu
  go_wp2_with fail
  refine (Hhwr.out _ (HB0.out.trans ((Below.refl w2.heap.size w2).mono HB0.out.size))).mono ?_
  rintro e w1 ⟨rfl, hb⟩
  have HB1 := Lib.hid ((Below.refl w2.heap.size w2).trans (hb.mono (Below.refl w2.heap.size w2).size))
  clear hb
  clear q0_0 q0_1 q0_2 q1_0 q1_1 q1_2 q2_0 q2_1 q2_2 q2_3 q2_4 q2_5 q2_6 q2_7 q2_8 q2_9 q2_10 q2_11 q2_12 q2_13 q2_14 q3_0 q3_1 q3_2
  obtain ⟨q0_0, q0_1, q0_2, q1_0, q1_1, q1_2, q2_0, q2_1, q2_2, q2_3, q2_4, q2_5, q2_6, q2_7, q2_8, q2_9, q2_10, q2_11, q2_12, q2_13, q2_14, q3_0, q3_1, q3_2⟩ := HCE.out _ HB1.out
  go_wp2_with fail
  go_region_held3 (fun W => W.cell? ⟨w.heap.size, 0, none⟩ = some (.slice SA sn sc) ∧ W.cell? ⟨w.heap.size, 1, none⟩ = some (.slice GA gn gc) ∧ W.cell? ⟨w.heap.size, 2, none⟩ = some (.slice EA en ec) ∧ W.cell? ⟨w.heap.size + 1, 0, none⟩ = some (.slice SB sm sd) ∧ W.cell? ⟨w.heap.size + 1, 1, none⟩ = some (.slice GB gm gd) ∧ W.cell? ⟨w.heap.size + 1, 2, none⟩ = some (.slice EB em ed) ∧ W.cell? ⟨w.heap.size + 1 + 1, 0, none⟩ = some (.int .i64 m) ∧ W.cell? ⟨w.heap.size + 1 + 1, 1, none⟩ = some (.int .i64 a) ∧ W.cell? ⟨w.heap.size + 1 + 1, 2, none⟩ = some (.int .i64 b) ∧ W.cell? ⟨w.heap.size + 1 + 1, 3, none⟩ = some (.int .i64 c) ∧ W.cell? ⟨w.heap.size + 1 + 1, 4, none⟩ = some (.int .u64 k) ∧ W.cell? ⟨w.heap.size + 1 + 1, 5, none⟩ = some (.slice VA vn vc) ∧ W.cell? ⟨w.heap.size + 1 + 1, 6, none⟩ = some (.slice WA wn wc) ∧ W.cell? ⟨w.heap.size + 1 + 1, 7, none⟩ = some (.int .i64 s1) ∧ W.cell? ⟨w.heap.size + 1 + 1, 8, none⟩ = some (.bool s2) ∧ W.cell? ⟨w.heap.size + 1 + 1, 9, none⟩ = some (.int .i64 g1) ∧ W.cell? ⟨w.heap.size + 1 + 1, 10, none⟩ = some (.int .i64 g2) ∧ W.cell? ⟨w.heap.size + 1 + 1, 11, none⟩ = some (.int .i64 g3) ∧ W.cell? ⟨w.heap.size + 1 + 1, 12, none⟩ = some (.int .u64 g4) ∧ W.cell? ⟨w.heap.size + 1 + 1, 13, none⟩ = some (.slice TA tn tc) ∧ W.cell? ⟨w.heap.size + 1 + 1, 14, none⟩ = some (.slice UA un uc) ∧ W.cell? ⟨w.heap.size + 1 + 1 + 1, 0, none⟩ = some (.int .i64 0) ∧ W.cell? ⟨w.heap.size + 1 + 1 + 1, 1, none⟩ = some (.slice X 0 cx) ∧ W.cell? ⟨w.heap.size + 1 + 1 + 1, 2, none⟩ = some (.int .i64 3)) (first | exact HCE.out _ HB1.out | exact HCE.out _ HB1.out.drew | exact HCE.out _ HB1.out.drew.drew | exact HCE.out _ HB2.out) ((go_at_call 38; (with_reducible refine (Hhga.out _ (HB0.out.trans (HB1.out.drew.mono HB0.out.size))).mono ?_); rintro e w3 ⟨rfl, hb⟩; have HB2 := Lib.hid (HB1.out.drew.trans (hb.mono HB1.out.drew.size)); clear hb))
  clear q0_0 q0_1 q0_2 q1_0 q1_1 q1_2 q2_0 q2_1 q2_2 q2_3 q2_4 q2_5 q2_6 q2_7 q2_8 q2_9 q2_10 q2_11 q2_12 q2_13 q2_14 q3_0 q3_1 q3_2
  obtain ⟨q0_0, q0_1, q0_2, q1_0, q1_1, q1_2, q2_0, q2_1, q2_2, q2_3, q2_4, q2_5, q2_6, q2_7, q2_8, q2_9, q2_10, q2_11, q2_12, q2_13, q2_14, q3_0, q3_1, q3_2⟩ := HCE.out _ HB2.out
  go_wp2_with fail
  refine (Hhsa.out _ (HB0.out.trans (HB2.out.mono HB0.out.size))).mono ?_
  rintro e w4 ⟨rfl, hb⟩
  have HB4 := Lib.hid (HB2.out.trans (hb.mono HB2.out.size))
  clear hb
  go_wp2_with fail
  go_ret
  exact ⟨ret_true (by simp), HB0.out.trans (HB4.out.mono HB0.out.size)⟩
end Go.Proofs.YtkcdlbclodjjhaaGreat

/- Plain law: what the gates of Not, Xor and a full adder are worth when bits go in. -/
namespace Go.Proofs.YtkcdlbclodjjhaaGreat
variable {I : List Nat} {sn : Nat}

/-- The values behind more gates. -/
def runG (p : Nat) (I V : List Nat) (L : List Gat) : List Nat := L.foldl (fun V g => V ++ [gval p I V g]) V
theorem vals_app (p : Nat) (G L : List Gat) : valsL p I (G ++ L) = runG p I (valsL p I G) L := by unfold valsL runG; rw [List.foldl_append]
theorem runG_pre (p : Nat) (L : List Gat) : ∀ V, ∃ e, runG p I V L = V ++ e ∧ e.length = L.length := by
  induction L with
  | nil => intro V; exact ⟨[], by simp [runG], rfl⟩
  | cons g r ih =>
    intro V
    obtain ⟨e, h1, h2⟩ := ih (V ++ [gval p I V g])
    exact ⟨gval p I V g :: e, by show runG p I (V ++ [gval p I V g]) r = _; rw [h1]; simp, by simp [h2]⟩
theorem vals_len (p : Nat) (G : List Gat) : (valsL p I G).length = G.length := by
  obtain ⟨e, h1, h2⟩ := runG_pre p G []
  show (runG p I [] G).length = _
  rw [h1]; simpa using h2
theorem at_lt {V e : List Nat} {i : Nat} (h : i < V.length) : (V ++ e).getD i 0 = V.getD i 0 := by simp [List.getD_eq_getElem?_getD, List.getElem?_append_left h]
theorem at_ge {V e : List Nat} {j : Nat} : (V ++ e).getD (V.length + j) 0 = e.getD j 0 := by simp [List.getD_eq_getElem?_getD, List.getElem?_append_right]
theorem at_ge0 {V e : List Nat} : (V ++ e).getD V.length 0 = e.getD 0 0 := at_ge (j := 0)
theorem g_con (p : Nat) (V : List Nat) (k : Nat) : gval p I V (2, 0, 0, ((k : Nat) : Int)) = k := by simp [gval]
theorem g_sum (p : Nat) (V : List Nat) (a b : Nat) : gval p I V (3, ((a : Nat) : Int), ((b : Nat) : Int), 0) = (V.getD a 0 + V.getD b 0) % p := by simp [gval]
theorem g_sub (p : Nat) (V : List Nat) (a b : Nat) : gval p I V (4, ((a : Nat) : Int), ((b : Nat) : Int), 0) = (V.getD a 0 + p - V.getD b 0) % p := by simp [gval]
theorem g_mul (p : Nat) (V : List Nat) (a b : Nat) : gval p I V (5, ((a : Nat) : Int), ((b : Nat) : Int), 0) = V.getD a 0 * V.getD b 0 % p := by simp [gval]
theorem run_cons (p : Nat) (V : List Nat) (g : Gat) (L : List Gat) : runG p I V (g :: L) = runG p I (V ++ [gval p I V g]) L := rfl
theorem run_nil (p : Nat) (V : List Nat) : runG p I V [] = V := rfl
theorem m1 {p : Nat} (hp : 2 < p) : 1 % p = 1 ∧ 2 % p = 2 ∧ (1 + p) % p = 1 ∧ (2 + p) % p = 2 ∧ (1 + p - 2) % p = p - 1 ∧ p % p = 0 ∧ (1 + p - 1) % p = 0 ∧ (2 + p - 2) % p = 0 ∧ (2 + p - 1) % p = 1 ∧ 0 % p = 0 := by
  refine ⟨Nat.mod_eq_of_lt (by omega), Nat.mod_eq_of_lt (by omega), ?_, ?_, ?_, Nat.mod_self p, ?_, ?_, ?_, Nat.zero_mod p⟩
  · rw [Nat.add_mod_right]; exact Nat.mod_eq_of_lt (by omega)
  · rw [Nat.add_mod_right]; exact Nat.mod_eq_of_lt (by omega)
  · rw [show 1 + p - 2 = p - 1 by omega]; exact Nat.mod_eq_of_lt (by omega)
  · rw [show 1 + p - 1 = p by omega]; exact Nat.mod_self p
  · rw [show 2 + p - 2 = p by omega]; exact Nat.mod_self p
  · rw [show 2 + p - 1 = 1 + p by omega, Nat.add_mod_right]; exact Nat.mod_eq_of_lt (by omega)
theorem not_run {p : Nat} (hp : 2 < p) {V : List Nat} {a : Nat} (ha : a < V.length) {x : Nat} (hx : V.getD a 0 = x) (h1 : x ≤ 1) : runG p I V (notL V.length a) = V ++ [1, 1 - x] := by
  obtain ⟨e1, e2, e3, e4, e5, e6, e7, e8, e9, e0⟩ := m1 hp
  have hc : x = 0 ∨ x = 1 := by omega
  have hy := @at_lt V
  have hg := @at_ge V
  rcases hc with rfl | rfl <;> simp only [notL, run_cons, run_nil, g_con, g_sub, List.append_assoc, List.cons_append, List.nil_append, at_lt ha, at_ge0, hx] <;> simp [e3]
theorem xor_run {p : Nat} (hp : 2 < p) {V : List Nat} {a b : Nat} (ha : a < V.length) (hb : b < V.length) {x y : Nat} (hx : V.getD a 0 = x) (hy : V.getD b 0 = y) (h1 : x ≤ 1) (h2 : y ≤ 1) : ∃ l, l.length = 3 ∧ runG p I V (xorL V.length a b) = V ++ (l ++ [(x + y) % 2]) := by
  obtain ⟨e1, e2, e3, e4, e5, e6, e7, e8, e9, e0⟩ := m1 hp
  refine ⟨[x * y, x + y, x * y + x * y], rfl, ?_⟩
  have hc : x = 0 ∨ x = 1 := by omega
  have hd : y = 0 ∨ y = 1 := by omega
  rw [xorL, run_cons, g_mul, hx, hy, run_cons, g_sum, at_lt ha, at_lt hb, hx, hy, List.append_assoc, run_cons, g_sum, at_ge0, List.append_assoc, run_cons, g_sub, at_ge, at_ge, run_nil]
  rcases hc with rfl | rfl <;> rcases hd with rfl | rfl <;> simp [e1, e2, e6]
theorem add_run {p : Nat} (hp : 2 < p) {V : List Nat} {a b c : Nat} (ha : a < V.length) (hb : b < V.length) (hc : c < V.length) {x y z : Nat} (hx : V.getD a 0 = x) (hy : V.getD b 0 = y) (hz : V.getD c 0 = z) (h1 : x ≤ 1) (h2 : y ≤ 1) (h3 : z ≤ 1) :
    ∃ l, l.length = 7 ∧ runG p I V (addL V.length a b c) = V ++ (l ++ [(x + y + z) % 2, (x + y + z) / 2]) := by
  obtain ⟨e1, e2, e3, e4, e5, e6, e7, e8, e9, e0⟩ := m1 hp
  refine ⟨[x * y, x + y, x * y + x * y, (x + y) % 2, (x + y) % 2 * z, (x + y) % 2 + z, (x + y) % 2 * z + (x + y) % 2 * z], rfl, ?_⟩
  have k1 : x = 0 ∨ x = 1 := by omega
  have k2 : y = 0 ∨ y = 1 := by omega
  have k3 : z = 0 ∨ z = 1 := by omega
  have s0 : x * y % p = x * y := by rcases k1 with rfl | rfl <;> rcases k2 with rfl | rfl <;> simp [e1]
  have s1 : (x + y) % p = x + y := Nat.mod_eq_of_lt (by omega)
  have s2 : (x * y + x * y) % p = x * y + x * y := by rcases k1 with rfl | rfl <;> rcases k2 with rfl | rfl <;> simp [e2]
  have s3 : (x + y + p - (x * y + x * y)) % p = (x + y) % 2 := by rcases k1 with rfl | rfl <;> rcases k2 with rfl | rfl <;> simp [e3, e6]
  have k4 : (x + y) % 2 = 0 ∨ (x + y) % 2 = 1 := by omega
  have s4 : (x + y) % 2 * z % p = (x + y) % 2 * z := by rcases k4 with h | h <;> rcases k3 with rfl | rfl <;> simp [h, e1]
  have s5 : ((x + y) % 2 + z) % p = (x + y) % 2 + z := Nat.mod_eq_of_lt (by omega)
  have s6 : ((x + y) % 2 * z + (x + y) % 2 * z) % p = (x + y) % 2 * z + (x + y) % 2 * z := by rcases k4 with h | h <;> rcases k3 with rfl | rfl <;> simp [h, e2]
  have s7 : ((x + y) % 2 + z + p - ((x + y) % 2 * z + (x + y) % 2 * z)) % p = (x + y + z) % 2 := by rcases k1 with rfl | rfl <;> rcases k2 with rfl | rfl <;> rcases k3 with rfl | rfl <;> simp [e3, e6]
  have s8 : (x * y + (x + y) % 2 * z) % p = (x + y + z) / 2 := by rcases k1 with rfl | rfl <;> rcases k2 with rfl | rfl <;> rcases k3 with rfl | rfl <;> simp [e1]
  rw [addL, run_cons, g_mul, hx, hy, s0]
  rw [run_cons, g_sum, at_lt ha, at_lt hb, hx, hy, s1, List.append_assoc]
  rw [run_cons, g_sum, at_ge0, List.append_assoc]
  simp only [List.cons_append, List.nil_append, List.getD_cons_zero, s2]
  rw [run_cons, g_sub, at_ge, at_ge, List.append_assoc]
  simp only [List.cons_append, List.nil_append, List.getD_cons_zero, List.getD_cons_succ, s3]
  rw [run_cons, g_mul, at_ge, at_lt hc, hz, List.append_assoc]
  simp only [List.cons_append, List.nil_append, List.getD_cons_zero, List.getD_cons_succ, s4]
  rw [run_cons, g_sum, at_ge, at_lt hc, hz, List.append_assoc]
  simp only [List.cons_append, List.nil_append, List.getD_cons_zero, List.getD_cons_succ, s5]
  rw [run_cons, g_sum, at_ge, List.append_assoc]
  simp only [List.cons_append, List.nil_append, List.getD_cons_zero, List.getD_cons_succ, s6]
  rw [run_cons, g_sub, at_ge, at_ge, List.append_assoc]
  simp only [List.cons_append, List.nil_append, List.getD_cons_zero, List.getD_cons_succ, s7]
  rw [run_cons, g_sum, at_ge0, at_ge, List.append_assoc]
  simp only [List.cons_append, List.nil_append, List.getD_cons_zero, List.getD_cons_succ, s8, run_nil]
end Go.Proofs.YtkcdlbclodjjhaaGreat

/- Plain law: what sums, differences, products and tests of words are worth. -/
namespace Go.Proofs.YtkcdlbclodjjhaaGreat
variable {I : List Nat} {sn : Nat}

/-- The number of a word; a word of bits. -/
def nm (V : List Nat) : List Nat → Nat
  | [] => 0
  | x :: r => V.getD x 0 + 2 * nm V r
def Bits (V : List Nat) (l : List Nat) : Prop := ∀ x ∈ l, x < V.length ∧ V.getD x 0 ≤ 1
theorem Bits.app {V e l : List Nat} (h : Bits V l) : Bits (V ++ e) l := fun x hx => ⟨by rw [List.length_append]; have := (h x hx).1; omega, by rw [at_lt (h x hx).1]; exact (h x hx).2⟩
theorem Bits.tail {V l : List Nat} {a : Nat} (h : Bits V (a :: l)) : Bits V l := fun x hx => h x (List.mem_cons_of_mem _ hx)
theorem nm_app {V e : List Nat} : ∀ {l : List Nat}, Bits V l → nm (V ++ e) l = nm V l
  | [], _ => rfl
  | a :: r, h => by show (V ++ e).getD a 0 + 2 * nm (V ++ e) r = V.getD a 0 + 2 * nm V r; rw [at_lt (h a List.mem_cons_self).1, nm_app h.tail]
theorem nm_lt {V : List Nat} : ∀ {l : List Nat}, Bits V l → nm V l < 2 ^ l.length
  | [], _ => Nat.one_pos
  | a :: r, h => by
    have h1 := nm_lt h.tail
    have h2 := (h a List.mem_cons_self).2
    show V.getD a 0 + 2 * nm V r < 2 ^ (r.length + 1)
    rw [Nat.pow_succ]; omega
theorem nm_snoc (V : List Nat) (x : Nat) : ∀ l : List Nat, nm V (l ++ [x]) = nm V l + 2 ^ l.length * V.getD x 0
  | [] => by simp [nm]
  | a :: r => by
    show V.getD a 0 + 2 * nm V (r ++ [x]) = V.getD a 0 + 2 * nm V r + 2 ^ (r.length + 1) * V.getD x 0
    rw [nm_snoc V x r, Nat.pow_succ, Nat.mul_add, Nat.mul_comm (2 ^ r.length) 2, Nat.mul_assoc]; omega
theorem nm_join (V : List Nat) (m : List Nat) : ∀ l : List Nat, nm V (l ++ m) = nm V l + 2 ^ l.length * nm V m
  | [] => by simp [nm]
  | a :: r => by
    show V.getD a 0 + 2 * nm V (r ++ m) = V.getD a 0 + 2 * nm V r + 2 ^ (r.length + 1) * nm V m
    rw [nm_join V m r, Nat.pow_succ, Nat.mul_add, Nat.mul_comm (2 ^ r.length) 2, Nat.mul_assoc]; omega
/-- A sum, its bits laid one by one. -/
def addR (G : List Gat) (c : Nat) : List (Nat × Nat) → List Gat × List Nat × Nat
  | [] => (G, [], c)
  | q :: r => ((addR (G ++ addL G.length q.1 q.2 c) (G.length + 8) r).1, (G.length + 7) :: (addR (G ++ addL G.length q.1 q.2 c) (G.length + 8) r).2.1, (addR (G ++ addL G.length q.1 q.2 c) (G.length + 8) r).2.2)
theorem addR_fold : ∀ (ps : List (Nat × Nat)) (G : List Gat) (o : List Nat) (c : Nat), ps.foldl addStep (G, o, c) = ((addR G c ps).1, o ++ (addR G c ps).2.1, (addR G c ps).2.2)
  | [], G, o, c => by simp [addR]
  | q :: r, G, o, c => by
    rw [List.foldl_cons]
    show r.foldl addStep (G ++ addL G.length q.1 q.2 c, o ++ [G.length + 7], G.length + 8) = _
    rw [addR_fold r]
    simp [addR]
theorem addSt_R (G : List Gat) (c : Nat) (ps : List (Nat × Nat)) : addSt G c ps = addR G c ps := by
  unfold addSt
  rw [addR_fold]
  simp
theorem addR_sem {p : Nat} (hp : 2 < p) : ∀ (ps : List (Nat × Nat)) (G : List Gat) (c : Nat), Bits (valsL p I G) (ps.map (·.1)) → Bits (valsL p I G) (ps.map (·.2)) → Bits (valsL p I G) [c] →
    ∃ e, valsL p I (addR G c ps).1 = valsL p I G ++ e ∧ Bits (valsL p I G ++ e) (addR G c ps).2.1 ∧ (addR G c ps).2.1.length = ps.length ∧ Bits (valsL p I G ++ e) [(addR G c ps).2.2] ∧
      nm (valsL p I G ++ e) (addR G c ps).2.1 + 2 ^ ps.length * (valsL p I G ++ e).getD (addR G c ps).2.2 0 = nm (valsL p I G) (ps.map (·.1)) + nm (valsL p I G) (ps.map (·.2)) + (valsL p I G).getD c 0
  | [], G, c, _, _, hc => ⟨[], by simp [addR], fun x hx => by simp [addR] at hx, rfl, by simpa [addR] using hc, by simp [addR, nm]⟩
  | q :: r, G, c, h1, h2, hc => by
    have a1 := h1 q.1 (by simp)
    have b1 := h2 q.2 (by simp)
    have c1 := hc c (by simp)
    obtain ⟨l, hl, hr⟩ := add_run (I := I) hp a1.1 b1.1 c1.1 rfl rfl rfl a1.2 b1.2 c1.2
    have hV : valsL p I (G ++ addL G.length q.1 q.2 c) = valsL p I G ++ (l ++ [((valsL p I G).getD q.1 0 + (valsL p I G).getD q.2 0 + (valsL p I G).getD c 0) % 2, ((valsL p I G).getD q.1 0 + (valsL p I G).getD q.2 0 + (valsL p I G).getD c 0) / 2]) := by
      rw [vals_app, ← hr, vals_len]
    generalize hs : (valsL p I G).getD q.1 0 + (valsL p I G).getD q.2 0 + (valsL p I G).getD c 0 = s at *
    have hn := vals_len (I := I) p G
    have o7 : (valsL p I G ++ (l ++ [s % 2, s / 2])).getD (G.length + 7) 0 = s % 2 := by rw [← hn, at_ge, show 7 = l.length by omega, at_ge0]; rfl
    have o8 : (valsL p I G ++ (l ++ [s % 2, s / 2])).getD (G.length + 8) 0 = s / 2 := by rw [← hn, at_ge, show 8 = l.length + 1 by omega, at_ge]; rfl
    have hlen : (valsL p I G ++ (l ++ [s % 2, s / 2])).length = G.length + 9 := by simp [hn, hl]
    have t1 : Bits (valsL p I (G ++ addL G.length q.1 q.2 c)) (r.map (·.1)) := by rw [hV]; exact (Bits.tail (a := q.1) h1).app
    have t2 : Bits (valsL p I (G ++ addL G.length q.1 q.2 c)) (r.map (·.2)) := by rw [hV]; exact (Bits.tail (a := q.2) h2).app
    have t3 : Bits (valsL p I (G ++ addL G.length q.1 q.2 c)) [G.length + 8] := by
      rw [hV]
      intro x hx
      obtain rfl : x = G.length + 8 := by simpa using hx
      exact ⟨by omega, by rw [o8]; omega⟩
    obtain ⟨e, k1, k2, k3, k4, k5⟩ := addR_sem hp r _ _ t1 t2 t3
    rw [hV] at k1 k2 k4 k5
    have k1' : valsL p I (addR G c (q :: r)).1 = valsL p I G ++ (l ++ [s % 2, s / 2] ++ e) := by
      show valsL p I (addR (G ++ addL G.length q.1 q.2 c) (G.length + 8) r).1 = _
      rw [k1]; simp
    have ee : valsL p I G ++ (l ++ [s % 2, s / 2] ++ e) = (valsL p I G ++ (l ++ [s % 2, s / 2])) ++ e := by simp
    refine ⟨l ++ [s % 2, s / 2] ++ e, k1', ?_, ?_, ?_, ?_⟩
    · rw [ee]
      intro x hx
      rcases List.mem_cons.1 hx with rfl | hx
      · exact ⟨by rw [List.length_append]; omega, by rw [at_lt (by omega), o7]; omega⟩
      · exact k2 x hx
    · show (addR (G ++ addL G.length q.1 q.2 c) (G.length + 8) r).2.1.length + 1 = r.length + 1
      rw [k3]
    · rw [ee]; exact k4
    · rw [ee]
      show ((valsL p I G ++ (l ++ [s % 2, s / 2])) ++ e).getD (G.length + 7) 0 + 2 * nm ((valsL p I G ++ (l ++ [s % 2, s / 2])) ++ e) (addR (G ++ addL G.length q.1 q.2 c) (G.length + 8) r).2.1 + 2 ^ (r.length + 1) * ((valsL p I G ++ (l ++ [s % 2, s / 2])) ++ e).getD (addR (G ++ addL G.length q.1 q.2 c) (G.length + 8) r).2.2 0 = (valsL p I G).getD q.1 0 + 2 * nm (valsL p I G) (r.map (·.1)) + ((valsL p I G).getD q.2 0 + 2 * nm (valsL p I G) (r.map (·.2))) + (valsL p I G).getD c 0
      rw [at_lt (by omega), o7]
      rw [nm_app (Bits.tail (a := q.1) h1), nm_app (Bits.tail (a := q.2) h2), o8] at k5
      rw [Nat.pow_succ, Nat.mul_comm (2 ^ r.length) 2, Nat.mul_assoc]
      omega
end Go.Proofs.YtkcdlbclodjjhaaGreat

/- Plain law: sums, differences, tests of words: what is laid and what it is worth. -/
namespace Go.Proofs.YtkcdlbclodjjhaaGreat
variable {I : List Nat} {sn : Nat}

theorem con_run {p : Nat} (V : List Nat) (k : Nat) : runG p I V (conL k) = V ++ [k] := by rw [conL, run_cons, g_con, run_nil]
theorem zip_fst {α β : Type} : ∀ (l : List α) (m : List β), l.length = m.length → (l.zip m).map (·.1) = l
  | [], _, _ => by simp
  | a :: l, b :: m, h => by simp [zip_fst l m (by simpa using h)]
theorem zip_snd {α β : Type} : ∀ (l : List α) (m : List β), l.length = m.length → (l.zip m).map (·.2) = m
  | [], [], _ => by simp
  | a :: l, b :: m, h => by simp [zip_snd l m (by simpa using h)]
/-- A sum with a carry that is a constant just laid. -/
theorem addc_sem {p : Nat} (hp : 2 < p) (G : List Gat) (vs ws : List Nat) (n k : Nat) (hk : k ≤ 1) (hn : vs.length = n) (hm : ws.length = n) (hv : Bits (valsL p I G) vs) (hw : Bits (valsL p I G) ws) :
    ∃ e, valsL p I (addSt (G ++ conL k) G.length (vs.zip ws)).1 = valsL p I G ++ e ∧ Bits (valsL p I G ++ e) (addSt (G ++ conL k) G.length (vs.zip ws)).2.1 ∧ (addSt (G ++ conL k) G.length (vs.zip ws)).2.1.length = n ∧ Bits (valsL p I G ++ e) [(addSt (G ++ conL k) G.length (vs.zip ws)).2.2] ∧
      nm (valsL p I G ++ e) (addSt (G ++ conL k) G.length (vs.zip ws)).2.1 + 2 ^ n * (valsL p I G ++ e).getD (addSt (G ++ conL k) G.length (vs.zip ws)).2.2 0 = nm (valsL p I G) vs + nm (valsL p I G) ws + k := by
  have hV : valsL p I (G ++ conL k) = valsL p I G ++ [k] := by rw [vals_app, con_run]
  have hl := vals_len (I := I) p G
  have hz : (vs.zip ws).length = n := by rw [List.length_zip, hn, hm, Nat.min_self]
  have z1 := zip_fst vs ws (by rw [hn, hm])
  have z2 := zip_snd vs ws (by rw [hn, hm])
  have hc : (valsL p I G ++ [k]).getD G.length 0 = k := by rw [← hl, at_ge0]; rfl
  obtain ⟨e, k1, k2, k3, k4, k5⟩ := addR_sem hp (vs.zip ws) (G ++ conL k) G.length (by rw [hV, z1]; exact hv.app) (by rw [hV, z2]; exact hw.app) (by
    rw [hV]
    intro x hx
    obtain rfl : x = G.length := by simpa using hx
    exact ⟨by simp [hl], by rw [hc]; exact hk⟩)
  rw [hV] at k1 k2 k4 k5
  rw [z1, z2, nm_app hv, nm_app hw, hc, hz] at k5
  rw [hz] at k3
  rw [addSt_R]
  refine ⟨[k] ++ e, by rw [k1]; simp, ?_, k3, ?_, ?_⟩
  · rw [← List.append_assoc]; exact k2
  · rw [← List.append_assoc]; exact k4
  · rw [← List.append_assoc]; exact k5
theorem plus_sem {p : Nat} (hp : 2 < p) (G : List Gat) (vs ws : List Nat) (n : Nat) (hn : vs.length = n) (hm : ws.length = n) (hv : Bits (valsL p I G) vs) (hw : Bits (valsL p I G) ws) :
    ∃ e, valsL p I (plusSt G vs ws).1 = valsL p I G ++ e ∧ Bits (valsL p I G ++ e) (plusSt G vs ws).2.1 ∧ (plusSt G vs ws).2.1.length = n ∧ nm (valsL p I G ++ e) (plusSt G vs ws).2.1 = (nm (valsL p I G) vs + nm (valsL p I G) ws) % 2 ^ n := by
  obtain ⟨e, k1, k2, k3, k4, k5⟩ := addc_sem hp G vs ws n 0 (by omega) hn hm hv hw
  refine ⟨e, k1, k2, k3, ?_⟩
  have h1 := nm_lt k2
  rw [k3] at h1
  show nm (valsL p I G ++ e) (addSt (G ++ conL 0) G.length (vs.zip ws)).2.1 = _
  rw [Nat.add_zero] at k5
  rw [← k5, Nat.add_mul_mod_self_left, Nat.mod_eq_of_lt h1]
/-- The bits turned about, one by one. -/
def turnR (G : List Gat) : List Nat → List Gat × List Nat
  | [] => (G, [])
  | a :: r => ((turnR (G ++ notL G.length a) r).1, (G.length + 1) :: (turnR (G ++ notL G.length a) r).2)
theorem turnR_fold : ∀ (l : List Nat) (G : List Gat) (o : List Nat), l.foldl turnStep (G, o) = ((turnR G l).1, o ++ (turnR G l).2)
  | [], G, o => by simp [turnR]
  | a :: r, G, o => by
    rw [List.foldl_cons]
    show r.foldl turnStep (G ++ notL G.length a, o ++ [G.length + 1]) = _
    rw [turnR_fold r]
    simp [turnR]
theorem turnSt_R (G : List Gat) (l : List Nat) : turnSt G l = turnR G l := by
  unfold turnSt
  rw [turnR_fold]
  simp
theorem turnR_sem {p : Nat} (hp : 2 < p) : ∀ (l : List Nat) (G : List Gat), Bits (valsL p I G) l →
    ∃ e, valsL p I (turnR G l).1 = valsL p I G ++ e ∧ Bits (valsL p I G ++ e) (turnR G l).2 ∧ (turnR G l).2.length = l.length ∧ nm (valsL p I G ++ e) (turnR G l).2 + nm (valsL p I G) l + 1 = 2 ^ l.length
  | [], G, _ => ⟨[], by simp [turnR], fun x hx => by simp [turnR] at hx, rfl, by simp [turnR, nm]⟩
  | a :: r, G, h => by
    have a1 := h a (by simp)
    have hr := not_run (I := I) hp a1.1 rfl a1.2
    have hV : valsL p I (G ++ notL G.length a) = valsL p I G ++ [1, 1 - (valsL p I G).getD a 0] := by rw [vals_app, ← hr, vals_len]
    have hn := vals_len (I := I) p G
    have o1 : (valsL p I G ++ [1, 1 - (valsL p I G).getD a 0]).getD (G.length + 1) 0 = 1 - (valsL p I G).getD a 0 := by rw [← hn, at_ge]; rfl
    have hlen : (valsL p I G ++ [1, 1 - (valsL p I G).getD a 0]).length = G.length + 2 := by simp [hn]
    obtain ⟨e, k1, k2, k3, k4⟩ := turnR_sem hp r (G ++ notL G.length a) (by rw [hV]; exact h.tail.app)
    rw [hV] at k1 k2 k4
    rw [nm_app h.tail] at k4
    have ee : valsL p I G ++ ([1, 1 - (valsL p I G).getD a 0] ++ e) = (valsL p I G ++ [1, 1 - (valsL p I G).getD a 0]) ++ e := by simp
    refine ⟨[1, 1 - (valsL p I G).getD a 0] ++ e, by rw [ee]; exact k1, ?_, ?_, ?_⟩
    · rw [ee]
      intro x hx
      rcases List.mem_cons.1 hx with rfl | hx
      · exact ⟨by rw [List.length_append]; omega, by rw [at_lt (by omega), o1]; omega⟩
      · exact k2 x hx
    · show (turnR (G ++ notL G.length a) r).2.length + 1 = r.length + 1
      rw [k3]
    · rw [ee]
      show ((valsL p I G ++ [1, 1 - (valsL p I G).getD a 0]) ++ e).getD (G.length + 1) 0 + 2 * nm ((valsL p I G ++ [1, 1 - (valsL p I G).getD a 0]) ++ e) (turnR (G ++ notL G.length a) r).2 + ((valsL p I G).getD a 0 + 2 * nm (valsL p I G) r) + 1 = 2 ^ (r.length + 1)
      rw [at_lt (by omega), o1, Nat.pow_succ]
      have := a1.2
      omega
theorem minus_sem {p : Nat} (hp : 2 < p) (G : List Gat) (vs ws : List Nat) (n : Nat) (hn : vs.length = n) (hm : ws.length = n) (hv : Bits (valsL p I G) vs) (hw : Bits (valsL p I G) ws) :
    ∃ e, valsL p I (minusSt G vs ws).1 = valsL p I G ++ e ∧ Bits (valsL p I G ++ e) (minusSt G vs ws).2.1 ∧ (minusSt G vs ws).2.1.length = n ∧ Bits (valsL p I G ++ e) [(minusSt G vs ws).2.2] ∧ nm (valsL p I G ++ e) (minusSt G vs ws).2.1 + 2 ^ n * (valsL p I G ++ e).getD (minusSt G vs ws).2.2 0 + nm (valsL p I G) ws = nm (valsL p I G) vs + 2 ^ n := by
  obtain ⟨e, k1, k2, k3, k4⟩ := turnR_sem hp ws G hw
  rw [← turnSt_R] at k1 k2 k3 k4
  rw [hm] at k3 k4
  obtain ⟨e2, j1, j2, j3, j4, j5⟩ := addc_sem hp (turnSt G ws).1 vs (turnSt G ws).2 n 1 (by omega) hn k3 (by rw [k1]; exact hv.app) (by rw [k1]; exact k2)
  rw [k1] at j1 j2 j4 j5
  rw [nm_app hv] at j5
  refine ⟨e ++ e2, ?_, ?_, j3, ?_, ?_⟩
  · rw [← List.append_assoc]; exact j1
  · rw [← List.append_assoc]; exact j2
  · rw [← List.append_assoc]; exact j4
  · rw [← List.append_assoc]
    show nm (valsL p I G ++ e ++ e2) (addSt ((turnSt G ws).1 ++ conL 1) (turnSt G ws).1.length (vs.zip (turnSt G ws).2)).2.1 + 2 ^ n * (valsL p I G ++ e ++ e2).getD (addSt ((turnSt G ws).1 ++ conL 1) (turnSt G ws).1.length (vs.zip (turnSt G ws).2)).2.2 0 + nm (valsL p I G) ws = nm (valsL p I G) vs + 2 ^ n
    omega
theorem less_sem {p : Nat} (hp : 2 < p) (G : List Gat) (vs ws : List Nat) (n : Nat) (hn : vs.length = n) (hm : ws.length = n) (hv : Bits (valsL p I G) vs) (hw : Bits (valsL p I G) ws) :
    ∃ e, valsL p I (belowSt G vs ws).1 = valsL p I G ++ e ∧ (belowSt G vs ws).2 < (valsL p I G ++ e).length ∧ (valsL p I G ++ e).getD (belowSt G vs ws).2 0 = (if nm (valsL p I G) vs < nm (valsL p I G) ws then 1 else 0) := by
  obtain ⟨e, k1, k2, k3, k4, k5⟩ := minus_sem hp G vs ws n hn hm hv hw
  have c1 := k4 (minusSt G vs ws).2.2 (by simp)
  rw [← k1] at c1 k2 k5
  have hr := not_run (I := I) hp c1.1 rfl c1.2
  have hl := vals_len (I := I) p (minusSt G vs ws).1
  have hV : valsL p I (belowSt G vs ws).1 = valsL p I (minusSt G vs ws).1 ++ [1, 1 - (valsL p I (minusSt G vs ws).1).getD (minusSt G vs ws).2.2 0] := by
    show valsL p I ((minusSt G vs ws).1 ++ notL (minusSt G vs ws).1.length (minusSt G vs ws).2.2) = _
    rw [vals_app, ← hr, hl]
  have b1 := nm_lt k2
  rw [k3] at b1
  have b2 := nm_lt hw
  have b3 := nm_lt hv
  rw [hm] at b2
  rw [hn] at b3
  refine ⟨e ++ [1, 1 - (valsL p I (minusSt G vs ws).1).getD (minusSt G vs ws).2.2 0], ?_, ?_, ?_⟩
  · rw [← List.append_assoc, ← k1]; exact hV
  · rw [← List.append_assoc, ← k1]
    show (minusSt G vs ws).1.length + 1 < _
    simp [hl]
  · rw [← List.append_assoc, ← k1]
    show (valsL p I (minusSt G vs ws).1 ++ [1, 1 - (valsL p I (minusSt G vs ws).1).getD (minusSt G vs ws).2.2 0]).getD ((minusSt G vs ws).1.length + 1) 0 = _
    rw [← hl, at_ge]
    show 1 - (valsL p I (minusSt G vs ws).1).getD (minusSt G vs ws).2.2 0 = _
    have hc : (valsL p I (minusSt G vs ws).1).getD (minusSt G vs ws).2.2 0 = 0 ∨ (valsL p I (minusSt G vs ws).1).getD (minusSt G vs ws).2.2 0 = 1 := by omega
    rcases hc with hc | hc
    · rw [hc] at k5 ⊢
      rw [if_pos (by omega)]
    · rw [hc] at k5 ⊢
      rw [if_neg (by omega)]
end Go.Proofs.YtkcdlbclodjjhaaGreat

/- Plain law: equal words, products, constants: what is laid and what it is worth. -/
namespace Go.Proofs.YtkcdlbclodjjhaaGreat
variable {I : List Nat} {sn : Nat}

theorem same_step {p : Nat} (hp : 2 < p) (G : List Gat) (a b c : Nat) (ha : Bits (valsL p I G) [a]) (hb : Bits (valsL p I G) [b]) (hc : Bits (valsL p I G) [c]) :
    ∃ e, valsL p I (sameStep (G, c) (a, b)).1 = valsL p I G ++ e ∧ Bits (valsL p I G ++ e) [(sameStep (G, c) (a, b)).2] ∧ (valsL p I G ++ e).getD (sameStep (G, c) (a, b)).2 0 = (if (valsL p I G).getD c 0 = 1 ∧ (valsL p I G).getD a 0 = (valsL p I G).getD b 0 then 1 else 0) := by
  have a1 := ha a (by simp)
  have b1 := hb b (by simp)
  have c1 := hc c (by simp)
  have hn := vals_len (I := I) p G
  obtain ⟨l, hl, hx⟩ := xor_run (I := I) hp a1.1 b1.1 rfl rfl a1.2 b1.2
  generalize ho : ((valsL p I G).getD a 0 + (valsL p I G).getD b 0) % 2 = o at *
  have ho1 : o ≤ 1 := by omega
  have V1 : valsL p I (G ++ xorL G.length a b) = valsL p I G ++ (l ++ [o]) := by rw [vals_app, ← hx, hn]
  have L1 : (valsL p I G ++ (l ++ [o])).length = G.length + 4 := by simp [hn, hl]
  have o3 : (valsL p I G ++ (l ++ [o])).getD (G.length + 3) 0 = o := by rw [← hn, at_ge, show 3 = l.length by omega, at_ge0]; rfl
  have hr := not_run (I := I) hp (V := valsL p I G ++ (l ++ [o])) (a := G.length + 3) (by omega) o3 ho1
  rw [L1] at hr
  have V2 : valsL p I (G ++ xorL G.length a b ++ notL (G.length + 4) (G.length + 3)) = valsL p I G ++ (l ++ [o] ++ [1, 1 - o]) := by rw [vals_app, V1, hr]; simp
  have L2 : (valsL p I G ++ (l ++ [o] ++ [1, 1 - o])).length = G.length + 6 := by simp [hn, hl]
  have o5 : (valsL p I G ++ (l ++ [o] ++ [1, 1 - o])).getD (G.length + 5) 0 = 1 - o := by rw [← hn, at_ge, show 5 = (l ++ [o]).length + 1 by simp [hl], at_ge]; rfl
  have hz : (valsL p I G).getD c 0 * (1 - o) % p = (valsL p I G).getD c 0 * (1 - o) := Nat.mod_eq_of_lt (by
    have := Nat.mul_le_mul c1.2 (show 1 - o ≤ 1 by omega)
    omega)
  have V3 : valsL p I (sameStep (G, c) (a, b)).1 = valsL p I G ++ (l ++ [o] ++ [1, 1 - o] ++ [(valsL p I G).getD c 0 * (1 - o)]) := by
    show valsL p I (G ++ xorL G.length a b ++ notL (G.length + 4) (G.length + 3) ++ [((5, ((c : Nat) : Int), ((G.length + 5 : Nat) : Int), 0) : Gat)]) = _
    rw [vals_app, V2, run_cons, run_nil, g_mul, at_lt c1.1, o5, hz]
    simp
  have o6 : (valsL p I G ++ (l ++ [o] ++ [1, 1 - o] ++ [(valsL p I G).getD c 0 * (1 - o)])).getD (G.length + 6) 0 = (valsL p I G).getD c 0 * (1 - o) := by
    rw [← List.append_assoc, ← L2, at_ge0]; rfl
  have hval : (valsL p I G).getD c 0 * (1 - o) = (if (valsL p I G).getD c 0 = 1 ∧ (valsL p I G).getD a 0 = (valsL p I G).getD b 0 then 1 else 0) := by
    have k1 : (valsL p I G).getD c 0 = 0 ∨ (valsL p I G).getD c 0 = 1 := by omega
    have k2 : o = 0 ∨ o = 1 := by omega
    rcases k1 with k1 | k1 <;> rcases k2 with k2 | k2
    · rw [k1, if_neg (by omega)]; simp
    · rw [k1, if_neg (by omega)]; simp
    · rw [k1, k2, if_pos ⟨rfl, by omega⟩]
    · rw [k1, k2, if_neg (by omega)]
  refine ⟨_, V3, ?_, ?_⟩
  · intro x hx
    obtain rfl : x = G.length + 6 := by simpa [sameStep] using hx
    refine ⟨by rw [← List.append_assoc, List.length_append, L2]; simp, ?_⟩
    rw [o6, hval]; split <;> omega
  · show (valsL p I G ++ (l ++ [o] ++ [1, 1 - o] ++ [(valsL p I G).getD c 0 * (1 - o)])).getD (G.length + 6) 0 = _
    rw [o6, hval]
theorem same_fold {p : Nat} (hp : 2 < p) : ∀ (ps : List (Nat × Nat)) (G : List Gat) (c : Nat), Bits (valsL p I G) (ps.map (·.1)) → Bits (valsL p I G) (ps.map (·.2)) → Bits (valsL p I G) [c] →
    ∃ e, valsL p I (ps.foldl sameStep (G, c)).1 = valsL p I G ++ e ∧ Bits (valsL p I G ++ e) [(ps.foldl sameStep (G, c)).2] ∧ (valsL p I G ++ e).getD (ps.foldl sameStep (G, c)).2 0 = (if (valsL p I G).getD c 0 = 1 ∧ nm (valsL p I G) (ps.map (·.1)) = nm (valsL p I G) (ps.map (·.2)) then 1 else 0)
  | [], G, c, _, _, hc => ⟨[], by simp, by simpa using hc, by
      have c1 := (hc c (by simp)).2
      simp only [List.foldl_nil, List.append_nil, List.map_nil, nm, and_true]
      split <;> omega⟩
  | q :: r, G, c, h1, h2, hc => by
    have ha : Bits (valsL p I G) [q.1] := fun x hx => h1 x (by rw [show x = q.1 by simpa using hx]; simp)
    have hb : Bits (valsL p I G) [q.2] := fun x hx => h2 x (by rw [show x = q.2 by simpa using hx]; simp)
    obtain ⟨e, k1, k2, k3⟩ := same_step hp G q.1 q.2 c ha hb hc
    obtain ⟨e2, j1, j2, j3⟩ := same_fold hp r (sameStep (G, c) (q.1, q.2)).1 (sameStep (G, c) (q.1, q.2)).2 (by rw [k1]; exact (Bits.tail (a := q.1) h1).app) (by rw [k1]; exact (Bits.tail (a := q.2) h2).app) (by rw [k1]; exact k2)
    rw [k1] at j1 j2 j3
    rw [nm_app (Bits.tail (a := q.1) h1), nm_app (Bits.tail (a := q.2) h2), k3] at j3
    refine ⟨e ++ e2, ?_, ?_, ?_⟩
    · rw [← List.append_assoc]; exact j1
    · rw [← List.append_assoc]; exact j2
    · rw [← List.append_assoc]
      show (valsL p I G ++ e ++ e2).getD (r.foldl sameStep ((sameStep (G, c) (q.1, q.2)).1, (sameStep (G, c) (q.1, q.2)).2)).2 0 = _
      rw [j3]
      have a1 := (ha q.1 (by simp)).2
      have b1 := (hb q.2 (by simp)).2
      have e1 : nm (valsL p I G) ((q :: r).map (·.1)) = (valsL p I G).getD q.1 0 + 2 * nm (valsL p I G) (r.map (·.1)) := rfl
      have e2 : nm (valsL p I G) ((q :: r).map (·.2)) = (valsL p I G).getD q.2 0 + 2 * nm (valsL p I G) (r.map (·.2)) := rfl
      rw [e1, e2]
      by_cases hh : (valsL p I G).getD c 0 = 1 ∧ (valsL p I G).getD q.1 0 = (valsL p I G).getD q.2 0
      · rw [if_pos hh]
        by_cases h3 : nm (valsL p I G) (r.map (·.1)) = nm (valsL p I G) (r.map (·.2))
        · rw [if_pos ⟨rfl, h3⟩, if_pos ⟨hh.1, by omega⟩]
        · rw [if_neg (by omega), if_neg (by omega)]
      · rw [if_neg hh, if_neg (by omega), if_neg (by omega)]
theorem same_sem {p : Nat} (hp : 2 < p) (G : List Gat) (vs ws : List Nat) (n : Nat) (hn : vs.length = n) (hm : ws.length = n) (hv : Bits (valsL p I G) vs) (hw : Bits (valsL p I G) ws) :
    ∃ e, valsL p I (sameSt G (vs.zip ws)).1 = valsL p I G ++ e ∧ (sameSt G (vs.zip ws)).2 < (valsL p I G ++ e).length ∧ (valsL p I G ++ e).getD (sameSt G (vs.zip ws)).2 0 = (if nm (valsL p I G) vs = nm (valsL p I G) ws then 1 else 0) := by
  have hV : valsL p I (G ++ conL 1) = valsL p I G ++ [1] := by rw [vals_app, con_run]
  have hl := vals_len (I := I) p G
  have z1 := zip_fst vs ws (by rw [hn, hm])
  have z2 := zip_snd vs ws (by rw [hn, hm])
  have hc : (valsL p I G ++ [1]).getD G.length 0 = 1 := by rw [← hl, at_ge0]; rfl
  obtain ⟨e, k1, k2, k3⟩ := same_fold hp (vs.zip ws) (G ++ conL 1) G.length (by rw [hV, z1]; exact hv.app) (by rw [hV, z2]; exact hw.app) (by
    rw [hV]
    intro x hx
    obtain rfl : x = G.length := by simpa using hx
    exact ⟨by simp [hl], by rw [hc]; exact Nat.le_refl _⟩)
  rw [hV] at k1 k2 k3
  rw [z1, z2, nm_app hv, nm_app hw, hc] at k3
  refine ⟨[1] ++ e, ?_, ?_, ?_⟩
  · rw [← List.append_assoc]; exact k1
  · rw [← List.append_assoc]; exact (k2 _ (by simp [sameSt])).1
  · rw [← List.append_assoc]
    show (valsL p I G ++ [1] ++ e).getD ((vs.zip ws).foldl sameStep (G ++ conL 1, G.length)).2 0 = _
    rw [k3]
    simp
/-- A part of a product, gate by gate. -/
def partR (G : List Gat) (b : Nat) : List Nat → List Gat × List Nat
  | [] => (G, [])
  | a :: r => ((partR (G ++ [((5, ((a : Nat) : Int), ((b : Nat) : Int), 0) : Gat)]) b r).1, G.length :: (partR (G ++ [((5, ((a : Nat) : Int), ((b : Nat) : Int), 0) : Gat)]) b r).2)
theorem partR_fold (b : Nat) : ∀ (l : List Nat) (G : List Gat) (o : List Nat), l.foldl (partStep b) (G, o) = ((partR G b l).1, o ++ (partR G b l).2)
  | [], G, o => by simp [partR]
  | a :: r, G, o => by
    rw [List.foldl_cons]
    show r.foldl (partStep b) (G ++ [((5, ((a : Nat) : Int), ((b : Nat) : Int), 0) : Gat)], o ++ [G.length]) = _
    rw [partR_fold b r]
    simp [partR]
theorem partSt_R (G : List Gat) (b : Nat) (l : List Nat) : partSt G b l = partR G b l := by
  unfold partSt
  rw [partR_fold]
  simp
theorem partR_sem {p : Nat} (hp : 2 < p) (b : Nat) : ∀ (l : List Nat) (G : List Gat), Bits (valsL p I G) l → Bits (valsL p I G) [b] →
    ∃ e, valsL p I (partR G b l).1 = valsL p I G ++ e ∧ Bits (valsL p I G ++ e) (partR G b l).2 ∧ (partR G b l).2.length = l.length ∧ nm (valsL p I G ++ e) (partR G b l).2 = (valsL p I G).getD b 0 * nm (valsL p I G) l
  | [], G, _, _ => ⟨[], by simp [partR], fun x hx => by simp [partR] at hx, rfl, by simp [partR, nm]⟩
  | a :: r, G, h, hb => by
    have a1 := h a (by simp)
    have b1 := hb b (by simp)
    have hn := vals_len (I := I) p G
    have hz : (valsL p I G).getD a 0 * (valsL p I G).getD b 0 % p = (valsL p I G).getD b 0 * (valsL p I G).getD a 0 := by
      rw [Nat.mul_comm]
      exact Nat.mod_eq_of_lt (by have := Nat.mul_le_mul b1.2 a1.2; omega)
    have hV : valsL p I (G ++ [((5, ((a : Nat) : Int), ((b : Nat) : Int), 0) : Gat)]) = valsL p I G ++ [(valsL p I G).getD b 0 * (valsL p I G).getD a 0] := by rw [vals_app, run_cons, run_nil, g_mul, hz]
    have o0 : (valsL p I G ++ [(valsL p I G).getD b 0 * (valsL p I G).getD a 0]).getD G.length 0 = (valsL p I G).getD b 0 * (valsL p I G).getD a 0 := by rw [← hn, at_ge0]; rfl
    have L1 : (valsL p I G ++ [(valsL p I G).getD b 0 * (valsL p I G).getD a 0]).length = G.length + 1 := by simp [hn]
    obtain ⟨e, k1, k2, k3, k4⟩ := partR_sem hp b r (G ++ [((5, ((a : Nat) : Int), ((b : Nat) : Int), 0) : Gat)]) (by rw [hV]; exact h.tail.app) (by rw [hV]; exact hb.app)
    rw [hV] at k1 k2 k4
    rw [nm_app h.tail, at_lt b1.1] at k4
    refine ⟨[(valsL p I G).getD b 0 * (valsL p I G).getD a 0] ++ e, by rw [← List.append_assoc]; exact k1, ?_, ?_, ?_⟩
    · rw [← List.append_assoc]
      intro x hx
      rcases List.mem_cons.1 hx with rfl | hx
      · refine ⟨by rw [List.length_append]; omega, ?_⟩
        rw [at_lt (by omega), o0]
        have := Nat.mul_le_mul b1.2 a1.2
        omega
      · exact k2 x hx
    · show (partR (G ++ [((5, ((a : Nat) : Int), ((b : Nat) : Int), 0) : Gat)]) b r).2.length + 1 = r.length + 1
      rw [k3]
    · rw [← List.append_assoc]
      show (valsL p I G ++ [(valsL p I G).getD b 0 * (valsL p I G).getD a 0] ++ e).getD G.length 0 + 2 * nm (valsL p I G ++ [(valsL p I G).getD b 0 * (valsL p I G).getD a 0] ++ e) (partR (G ++ [((5, ((a : Nat) : Int), ((b : Nat) : Int), 0) : Gat)]) b r).2 = (valsL p I G).getD b 0 * ((valsL p I G).getD a 0 + 2 * nm (valsL p I G) r)
      rw [at_lt (by omega), o0, k4, Nat.mul_add, Nat.mul_left_comm]
theorem times_sem {p : Nat} (hp : 2 < p) (G : List Gat) (vs ws : List Nat) (n : Nat) (hn : vs.length = n) (hm : ws.length = n) (hv : Bits (valsL p I G) vs) (hw : Bits (valsL p I G) ws) : ∀ k, k ≤ n →
    ∃ e, valsL p I (timesSt G vs ws k).1 = valsL p I G ++ e ∧ Bits (valsL p I G ++ e) (timesSt G vs ws k).2 ∧ (0 < k → (timesSt G vs ws k).2.length = n) ∧ nm (valsL p I G ++ e) (timesSt G vs ws k).2 % 2 ^ n = nm (valsL p I G) vs * nm (valsL p I G) (ws.take k) % 2 ^ n := by
  intro k
  induction k with
  | zero => intro _; exact ⟨[], by simp [timesSt], fun x hx => by simp [timesSt] at hx, fun h => by omega, by simp [timesSt, nm]⟩
  | succ k ih =>
    intro hk
    obtain ⟨e, k1, k2, k3, k4⟩ := ih (by omega)
    have hkw : k < ws.length := by omega
    have hb : ws.getD k 0 = ws[k] := getD_at hkw
    have hbB : Bits (valsL p I G) [ws[k]] := fun x hx => hw x (by rw [show x = ws[k] by simpa using hx]; exact List.getElem_mem _)
    have hvt : Bits (valsL p I G) (vs.take (n - k)) := fun x hx => hv x (List.mem_of_mem_take hx)
    have hwt : ws.take (k + 1) = ws.take k ++ [ws[k]] := List.take_succ_eq_append_getElem hkw
    have hwl : (ws.take k).length = k := by rw [List.length_take]; omega
    have hnw : nm (valsL p I G) (ws.take (k + 1)) = nm (valsL p I G) (ws.take k) + 2 ^ k * (valsL p I G).getD ws[k] 0 := by rw [hwt, nm_snoc, hwl]
    obtain ⟨e2, p1, p2, p3, p4⟩ := partR_sem hp ws[k] (vs.take (n - k)) (timesSt G vs ws k).1 (by rw [k1]; exact hvt.app) (by rw [k1]; exact hbB.app)
    rw [← partSt_R] at p1 p2 p3 p4
    rw [k1] at p1 p2 p4
    rw [at_lt (hbB _ (by simp)).1, nm_app hvt] at p4
    have hkn : k + (n - k) = n := by omega
    have hlt : (vs.take (n - k)).length = n - k := by rw [List.length_take]; omega
    rw [hlt] at p3
    have hsplit : nm (valsL p I G) vs = nm (valsL p I G) (vs.take (n - k)) + 2 ^ (n - k) * nm (valsL p I G) (vs.drop (n - k)) := by
      have h5 := nm_join (valsL p I G) (vs.drop (n - k)) (vs.take (n - k))
      rw [List.take_append_drop, hlt] at h5
      exact h5
    simp only [timesSt, timesStep]
    rw [hb, hn]
    generalize hB : (valsL p I G).getD ws[k] 0 = B at *
    by_cases h0 : k = 0
    · rw [if_pos h0]
      subst h0
      refine ⟨e ++ e2, by rw [← List.append_assoc]; exact p1, by rw [← List.append_assoc]; exact p2, fun _ => by rw [p3]; omega, ?_⟩
      rw [← List.append_assoc, p4, hnw]
      have ht : vs.take (n - 0) = vs := by rw [Nat.sub_zero, ← hn, List.take_length]
      rw [ht]
      simp [nm, Nat.mul_comm]
    · rw [if_neg h0]
      have hout := k3 (by omega)
      have hdl : ((timesSt G vs ws k).2.drop k).length = n - k := by rw [List.length_drop, hout]
      have htl : ((timesSt G vs ws k).2.take k).length = k := by rw [List.length_take, hout]; omega
      have bd : Bits (valsL p I G ++ e) ((timesSt G vs ws k).2.drop k) := fun x hx => k2 x (List.mem_of_mem_drop hx)
      have bt : Bits (valsL p I G ++ e) ((timesSt G vs ws k).2.take k) := fun x hx => k2 x (List.mem_of_mem_take hx)
      have hos : nm (valsL p I G ++ e) (timesSt G vs ws k).2 = nm (valsL p I G ++ e) ((timesSt G vs ws k).2.take k) + 2 ^ k * nm (valsL p I G ++ e) ((timesSt G vs ws k).2.drop k) := by
        have h5 := nm_join (valsL p I G ++ e) ((timesSt G vs ws k).2.drop k) ((timesSt G vs ws k).2.take k)
        rw [List.take_append_drop, htl] at h5
        exact h5
      obtain ⟨e3, q1, q2, q3, _, q5⟩ := addc_sem hp (partSt (timesSt G vs ws k).1 ws[k] (vs.take (n - k))).1 ((timesSt G vs ws k).2.drop k) (partSt (timesSt G vs ws k).1 ws[k] (vs.take (n - k))).2 (n - k) 0 (by omega) hdl p3 (by rw [p1]; exact bd.app) (by rw [p1]; exact p2)
      rw [p1] at q1 q2 q5
      rw [nm_app bd, p4] at q5
      refine ⟨e ++ e2 ++ e3, ?_, ?_, fun _ => ?_, ?_⟩
      · rw [← List.append_assoc, ← List.append_assoc]; exact q1
      · rw [← List.append_assoc, ← List.append_assoc]
        intro x hx
        rcases List.mem_append.1 hx with hx | hx
        · exact (bt.app).app x hx
        · exact q2 x hx
      · rw [List.length_append, htl, q3]; omega
      · rw [← List.append_assoc, ← List.append_assoc, nm_join, htl, nm_app (bt.app), nm_app bt]
        generalize nm (valsL p I G ++ e ++ e2 ++ e3) (addSt ((partSt (timesSt G vs ws k).1 ws[k] (vs.take (n - k))).1 ++ conL 0) (partSt (timesSt G vs ws k).1 ws[k] (vs.take (n - k))).1.length (((timesSt G vs ws k).2.drop k).zip (partSt (timesSt G vs ws k).1 ws[k] (vs.take (n - k))).2)).2.1 = R at *
        generalize (valsL p I G ++ e ++ e2 ++ e3).getD (addSt ((partSt (timesSt G vs ws k).1 ws[k] (vs.take (n - k))).1 ++ conL 0) (partSt (timesSt G vs ws k).1 ws[k] (vs.take (n - k))).1.length (((timesSt G vs ws k).2.drop k).zip (partSt (timesSt G vs ws k).1 ws[k] (vs.take (n - k))).2)).2.2 0 = C at *
        generalize nm (valsL p I G ++ e) ((timesSt G vs ws k).2.take k) = X at *
        generalize nm (valsL p I G ++ e) ((timesSt G vs ws k).2.drop k) = Y at *
        generalize nm (valsL p I G ++ e) (timesSt G vs ws k).2 = Z at *
        generalize nm (valsL p I G) (vs.take (n - k)) = A1 at *
        generalize nm (valsL p I G) (vs.drop (n - k)) = A2 at *
        generalize nm (valsL p I G) vs = A at *
        generalize nm (valsL p I G) (ws.take k) = T at *
        have hpow : 2 ^ n = 2 ^ k * 2 ^ (n - k) := by rw [← Nat.pow_add, hkn]
        have key : X + 2 ^ k * R + 2 ^ n * (C + B * A2) = Z + 2 ^ k * (B * A) := by
          rw [hos, hsplit, hpow]
          have e5 : 2 ^ k * R + 2 ^ k * (2 ^ (n - k) * C) = 2 ^ k * Y + 2 ^ k * (B * A1) := by rw [← Nat.mul_add, ← Nat.mul_add, q5, Nat.add_zero]
          have e6 : 2 ^ k * 2 ^ (n - k) * (C + B * A2) = 2 ^ k * (2 ^ (n - k) * C) + 2 ^ k * (B * (2 ^ (n - k) * A2)) := by
            rw [Nat.mul_add, Nat.mul_assoc, Nat.mul_assoc, Nat.mul_left_comm (2 ^ (n - k)) B A2]
          have e7 : 2 ^ k * (B * (A1 + 2 ^ (n - k) * A2)) = 2 ^ k * (B * A1) + 2 ^ k * (B * (2 ^ (n - k) * A2)) := by rw [Nat.mul_add, Nat.mul_add]
          rw [e6, e7]
          omega
        have h1 : (X + 2 ^ k * R) % 2 ^ n = (Z + 2 ^ k * (B * A)) % 2 ^ n := by rw [← key, Nat.add_mul_mod_self_left]
        rw [h1, ← Nat.mod_add_mod, k4, Nat.mod_add_mod, hnw, Nat.mul_add, Nat.mul_comm A (2 ^ k * B), Nat.mul_assoc]
end Go.Proofs.YtkcdlbclodjjhaaGreat
