/- Contracts of the law's do for nobody, one an act. (Printed by wip/tools/gen_nobdo.py.) -/
import Derived.Test.YtkcdlbclodjjhaaNoa
namespace Go.Proofs.Ytkcdlbclodjjhaa
open Go.RowKit

abbrev noAns : Array Value := #[.int .i64 0, nilS, .int .i64 0]
set_option maxHeartbeats 1000000 in
set_option maxRecDepth 100000 in
theorem nobdo_0 (pb : Option Addr) (a b c k s1 g1 g2 g3 g4 : Int) (s2 : Bool) (VA WA TA GA : Option Addr) (vn vc wn wc tn tc gn gc : Nat) (w : World) (h : Nob pb w) :
    Calls Try.prog 21 #[.pointer pb, .agg #[.int .i64 0, .int .i64 a, .int .i64 b, .int .i64 c, .int .u64 k, .slice VA vn vc, .slice WA wn wc, .int .i64 s1, .bool s2, .int .i64 g1, .int .i64 g2, .int .i64 g3, .int .u64 g4, .slice TA tn tc, .slice GA gn gc]] w fun e W' => e = .returned (.agg #[.int .i64 0, nilS, .int .i64 1]) ∧ Below w.heap.size w W' := by
  obtain ⟨k0, k1, k2, hsz, hb⟩ := three w (.cells #[.int .i64 0, .int .i64 a, .int .i64 b, .int .i64 c, .int .u64 k, .slice VA vn vc, .slice WA wn wc, .int .i64 s1, .bool s2, .int .i64 g1, .int .i64 g2, .int .i64 g3, .int .u64 g4, .slice TA tn tc, .slice GA gn gc] 58) (.cells noAns 64) (.cells noAns 64)
  have q0 : (((w.alloc (.cells #[.int .i64 0, .int .i64 a, .int .i64 b, .int .i64 c, .int .u64 k, .slice VA vn vc, .slice WA wn wc, .int .i64 s1, .bool s2, .int .i64 g1, .int .i64 g2, .int .i64 g3, .int .u64 g4, .slice TA tn tc, .slice GA gn gc] 58)).alloc (.cells noAns 64)).alloc (.cells noAns 64)).cell? ⟨w.heap.size, 0, none⟩ = some (.int .i64 0) := cell_in k0
  have q7 : (((w.alloc (.cells #[.int .i64 0, .int .i64 a, .int .i64 b, .int .i64 c, .int .u64 k, .slice VA vn vc, .slice WA wn wc, .int .i64 s1, .bool s2, .int .i64 g1, .int .i64 g2, .int .i64 g3, .int .u64 g4, .slice TA tn tc, .slice GA gn gc] 58)).alloc (.cells noAns 64)).alloc (.cells noAns 64)).cell? ⟨w.heap.size, 7, none⟩ = some (.int .i64 s1) := cell_in k0
  have q8 : (((w.alloc (.cells #[.int .i64 0, .int .i64 a, .int .i64 b, .int .i64 c, .int .u64 k, .slice VA vn vc, .slice WA wn wc, .int .i64 s1, .bool s2, .int .i64 g1, .int .i64 g2, .int .i64 g3, .int .u64 g4, .slice TA tn tc, .slice GA gn gc] 58)).alloc (.cells noAns 64)).alloc (.cells noAns 64)).cell? ⟨w.heap.size, 8, none⟩ = some (.bool s2) := cell_in k0
  have HN := Lib.hid (nob_slot pb s1 s2 _ (h.below hb))
  have K1 := Lib.hid k1; have K2 := Lib.hid k2; have HB0 := Lib.hid hb
  clear h k0 k1 k2 hb
  go_enter Try.func21, Try.ntmps21
  go_wp2_with (go_at_call 7; refine HN.out.mono ?_; rintro e w1 ⟨rfl, hb⟩; obtain ⟨c0, c1, c2, f0, f1, f2⟩ := box_facts ((hb.block (w.heap.size + 1 + 1) (by rw [hsz]; omega)).trans K2.out); obtain ⟨d0, d1, d2, z0, z1, z2⟩ := box_facts ((hb.block (w.heap.size + 1) (by rw [hsz]; omega)).trans K1.out); have HB := Lib.hid (HB0.out.trans (hb.mono HB0.out.size)); clear hb)
  refine bodyPost_ret (v := .agg #[.int .i64 0, nilS, .int .i64 1]) ?_ rfl ⟨rfl, ?_⟩
  · rw [results_cell_tmp1 rfl]
    go_simp
  · repeat (first | exact HB.out | refine Below.setCell ?_ (by simp <;> omega) _)
set_option maxHeartbeats 1000000 in
set_option maxRecDepth 100000 in
theorem nobdo_1 (pb : Option Addr) (a b c k s1 g1 g2 g3 g4 : Int) (s2 : Bool) (VA WA TA GA : Option Addr) (vn vc wn wc tn tc gn gc : Nat) (w : World) (h : Nob pb w) :
    Calls Try.prog 21 #[.pointer pb, .agg #[.int .i64 1, .int .i64 a, .int .i64 b, .int .i64 c, .int .u64 k, .slice VA vn vc, .slice WA wn wc, .int .i64 s1, .bool s2, .int .i64 g1, .int .i64 g2, .int .i64 g3, .int .u64 g4, .slice TA tn tc, .slice GA gn gc]] w fun e W' => e = .returned (.agg #[.int .i64 0, nilS, .int .i64 1]) ∧ Below w.heap.size w W' := by
  obtain ⟨k0, k1, k2, hsz, hb⟩ := three w (.cells #[.int .i64 1, .int .i64 a, .int .i64 b, .int .i64 c, .int .u64 k, .slice VA vn vc, .slice WA wn wc, .int .i64 s1, .bool s2, .int .i64 g1, .int .i64 g2, .int .i64 g3, .int .u64 g4, .slice TA tn tc, .slice GA gn gc] 58) (.cells noAns 64) (.cells noAns 64)
  have q0 : (((w.alloc (.cells #[.int .i64 1, .int .i64 a, .int .i64 b, .int .i64 c, .int .u64 k, .slice VA vn vc, .slice WA wn wc, .int .i64 s1, .bool s2, .int .i64 g1, .int .i64 g2, .int .i64 g3, .int .u64 g4, .slice TA tn tc, .slice GA gn gc] 58)).alloc (.cells noAns 64)).alloc (.cells noAns 64)).cell? ⟨w.heap.size, 0, none⟩ = some (.int .i64 1) := cell_in k0
  have q9 : (((w.alloc (.cells #[.int .i64 1, .int .i64 a, .int .i64 b, .int .i64 c, .int .u64 k, .slice VA vn vc, .slice WA wn wc, .int .i64 s1, .bool s2, .int .i64 g1, .int .i64 g2, .int .i64 g3, .int .u64 g4, .slice TA tn tc, .slice GA gn gc] 58)).alloc (.cells noAns 64)).alloc (.cells noAns 64)).cell? ⟨w.heap.size, 9, none⟩ = some (.int .i64 g1) := cell_in k0
  have q10 : (((w.alloc (.cells #[.int .i64 1, .int .i64 a, .int .i64 b, .int .i64 c, .int .u64 k, .slice VA vn vc, .slice WA wn wc, .int .i64 s1, .bool s2, .int .i64 g1, .int .i64 g2, .int .i64 g3, .int .u64 g4, .slice TA tn tc, .slice GA gn gc] 58)).alloc (.cells noAns 64)).alloc (.cells noAns 64)).cell? ⟨w.heap.size, 10, none⟩ = some (.int .i64 g2) := cell_in k0
  have q11 : (((w.alloc (.cells #[.int .i64 1, .int .i64 a, .int .i64 b, .int .i64 c, .int .u64 k, .slice VA vn vc, .slice WA wn wc, .int .i64 s1, .bool s2, .int .i64 g1, .int .i64 g2, .int .i64 g3, .int .u64 g4, .slice TA tn tc, .slice GA gn gc] 58)).alloc (.cells noAns 64)).alloc (.cells noAns 64)).cell? ⟨w.heap.size, 11, none⟩ = some (.int .i64 g3) := cell_in k0
  have q12 : (((w.alloc (.cells #[.int .i64 1, .int .i64 a, .int .i64 b, .int .i64 c, .int .u64 k, .slice VA vn vc, .slice WA wn wc, .int .i64 s1, .bool s2, .int .i64 g1, .int .i64 g2, .int .i64 g3, .int .u64 g4, .slice TA tn tc, .slice GA gn gc] 58)).alloc (.cells noAns 64)).alloc (.cells noAns 64)).cell? ⟨w.heap.size, 12, none⟩ = some (.int .u64 g4) := cell_in k0
  have HN := Lib.hid (nob_put pb g1 g2 g3 g4 _ (h.below hb))
  have K1 := Lib.hid k1; have K2 := Lib.hid k2; have HB0 := Lib.hid hb
  clear h k0 k1 k2 hb
  go_enter Try.func21, Try.ntmps21
  go_wp2_with (go_at_call 8; refine HN.out.mono ?_; rintro e w1 ⟨rfl, hb⟩; obtain ⟨c0, c1, c2, f0, f1, f2⟩ := box_facts ((hb.block (w.heap.size + 1 + 1) (by rw [hsz]; omega)).trans K2.out); obtain ⟨d0, d1, d2, z0, z1, z2⟩ := box_facts ((hb.block (w.heap.size + 1) (by rw [hsz]; omega)).trans K1.out); have HB := Lib.hid (HB0.out.trans (hb.mono HB0.out.size)); clear hb)
  refine bodyPost_ret (v := .agg #[.int .i64 0, nilS, .int .i64 1]) ?_ rfl ⟨rfl, ?_⟩
  · rw [results_cell_tmp1 rfl]
    go_simp
  · repeat (first | exact HB.out | refine Below.setCell ?_ (by simp <;> omega) _)
set_option maxHeartbeats 1000000 in
set_option maxRecDepth 100000 in
theorem nobdo_2 (pb : Option Addr) (a b c k s1 g1 g2 g3 g4 : Int) (s2 : Bool) (VA WA TA GA : Option Addr) (vn vc wn wc tn tc gn gc : Nat) (w : World) (h : Nob pb w) :
    Calls Try.prog 21 #[.pointer pb, .agg #[.int .i64 2, .int .i64 a, .int .i64 b, .int .i64 c, .int .u64 k, .slice VA vn vc, .slice WA wn wc, .int .i64 s1, .bool s2, .int .i64 g1, .int .i64 g2, .int .i64 g3, .int .u64 g4, .slice TA tn tc, .slice GA gn gc]] w fun e W' => e = .returned (.agg #[.int .i64 0, nilS, .int .i64 1]) ∧ Below w.heap.size w W' := by
  obtain ⟨k0, k1, k2, hsz, hb⟩ := three w (.cells #[.int .i64 2, .int .i64 a, .int .i64 b, .int .i64 c, .int .u64 k, .slice VA vn vc, .slice WA wn wc, .int .i64 s1, .bool s2, .int .i64 g1, .int .i64 g2, .int .i64 g3, .int .u64 g4, .slice TA tn tc, .slice GA gn gc] 58) (.cells noAns 64) (.cells noAns 64)
  have q0 : (((w.alloc (.cells #[.int .i64 2, .int .i64 a, .int .i64 b, .int .i64 c, .int .u64 k, .slice VA vn vc, .slice WA wn wc, .int .i64 s1, .bool s2, .int .i64 g1, .int .i64 g2, .int .i64 g3, .int .u64 g4, .slice TA tn tc, .slice GA gn gc] 58)).alloc (.cells noAns 64)).alloc (.cells noAns 64)).cell? ⟨w.heap.size, 0, none⟩ = some (.int .i64 2) := cell_in k0
  have q13 : (((w.alloc (.cells #[.int .i64 2, .int .i64 a, .int .i64 b, .int .i64 c, .int .u64 k, .slice VA vn vc, .slice WA wn wc, .int .i64 s1, .bool s2, .int .i64 g1, .int .i64 g2, .int .i64 g3, .int .u64 g4, .slice TA tn tc, .slice GA gn gc] 58)).alloc (.cells noAns 64)).alloc (.cells noAns 64)).cell? ⟨w.heap.size, 13, none⟩ = some (.slice TA tn tc) := cell_in k0
  have q14 : (((w.alloc (.cells #[.int .i64 2, .int .i64 a, .int .i64 b, .int .i64 c, .int .u64 k, .slice VA vn vc, .slice WA wn wc, .int .i64 s1, .bool s2, .int .i64 g1, .int .i64 g2, .int .i64 g3, .int .u64 g4, .slice TA tn tc, .slice GA gn gc] 58)).alloc (.cells noAns 64)).alloc (.cells noAns 64)).cell? ⟨w.heap.size, 14, none⟩ = some (.slice GA gn gc) := cell_in k0
  have HN := Lib.hid (nob_tell pb (.slice TA tn tc) (.slice GA gn gc) _ (h.below hb))
  have K1 := Lib.hid k1; have K2 := Lib.hid k2; have HB0 := Lib.hid hb
  clear h k0 k1 k2 hb
  go_enter Try.func21, Try.ntmps21
  go_wp2_with (go_at_call 44; refine HN.out.mono ?_; rintro e w1 ⟨rfl, hb⟩; obtain ⟨c0, c1, c2, f0, f1, f2⟩ := box_facts ((hb.block (w.heap.size + 1 + 1) (by rw [hsz]; omega)).trans K2.out); obtain ⟨d0, d1, d2, z0, z1, z2⟩ := box_facts ((hb.block (w.heap.size + 1) (by rw [hsz]; omega)).trans K1.out); have HB := Lib.hid (HB0.out.trans (hb.mono HB0.out.size)); clear hb)
  refine bodyPost_ret (v := .agg #[.int .i64 0, nilS, .int .i64 1]) ?_ rfl ⟨rfl, ?_⟩
  · rw [results_cell_tmp1 rfl]
    go_simp
  · repeat (first | exact HB.out | refine Below.setCell ?_ (by simp <;> omega) _)
set_option maxHeartbeats 1000000 in
set_option maxRecDepth 100000 in
theorem nobdo_3 (pb : Option Addr) (a b c k s1 g1 g2 g3 g4 : Int) (s2 : Bool) (VA WA TA GA : Option Addr) (vn vc wn wc tn tc gn gc : Nat) (w : World) (h : Nob pb w) :
    Calls Try.prog 21 #[.pointer pb, .agg #[.int .i64 3, .int .i64 a, .int .i64 b, .int .i64 c, .int .u64 k, .slice VA vn vc, .slice WA wn wc, .int .i64 s1, .bool s2, .int .i64 g1, .int .i64 g2, .int .i64 g3, .int .u64 g4, .slice TA tn tc, .slice GA gn gc]] w fun e W' => e = .returned (.agg #[.int .i64 0, nilS, .int .i64 1]) ∧ Below w.heap.size w W' := by
  obtain ⟨k0, k1, k2, hsz, hb⟩ := three w (.cells #[.int .i64 3, .int .i64 a, .int .i64 b, .int .i64 c, .int .u64 k, .slice VA vn vc, .slice WA wn wc, .int .i64 s1, .bool s2, .int .i64 g1, .int .i64 g2, .int .i64 g3, .int .u64 g4, .slice TA tn tc, .slice GA gn gc] 58) (.cells noAns 64) (.cells noAns 64)
  have q0 : (((w.alloc (.cells #[.int .i64 3, .int .i64 a, .int .i64 b, .int .i64 c, .int .u64 k, .slice VA vn vc, .slice WA wn wc, .int .i64 s1, .bool s2, .int .i64 g1, .int .i64 g2, .int .i64 g3, .int .u64 g4, .slice TA tn tc, .slice GA gn gc] 58)).alloc (.cells noAns 64)).alloc (.cells noAns 64)).cell? ⟨w.heap.size, 0, none⟩ = some (.int .i64 3) := cell_in k0
  have q4 : (((w.alloc (.cells #[.int .i64 3, .int .i64 a, .int .i64 b, .int .i64 c, .int .u64 k, .slice VA vn vc, .slice WA wn wc, .int .i64 s1, .bool s2, .int .i64 g1, .int .i64 g2, .int .i64 g3, .int .u64 g4, .slice TA tn tc, .slice GA gn gc] 58)).alloc (.cells noAns 64)).alloc (.cells noAns 64)).cell? ⟨w.heap.size, 4, none⟩ = some (.int .u64 k) := cell_in k0
  have HN := Lib.hid (nob_const pb k _ (h.below hb))
  have K1 := Lib.hid k1; have K2 := Lib.hid k2; have HB0 := Lib.hid hb
  clear h k0 k1 k2 hb
  go_enter Try.func21, Try.ntmps21
  go_wp2_with (go_at_call 9; refine HN.out.mono ?_; rintro e w1 ⟨rfl, hb⟩; obtain ⟨c0, c1, c2, f0, f1, f2⟩ := box_facts ((hb.block (w.heap.size + 1 + 1) (by rw [hsz]; omega)).trans K2.out); obtain ⟨d0, d1, d2, z0, z1, z2⟩ := box_facts ((hb.block (w.heap.size + 1) (by rw [hsz]; omega)).trans K1.out); have HB := Lib.hid (HB0.out.trans (hb.mono HB0.out.size)); clear hb)
  refine bodyPost_ret (v := .agg #[.int .i64 0, nilS, .int .i64 1]) ?_ rfl ⟨rfl, ?_⟩
  · rw [results_cell_tmp1 rfl]
    go_simp
  · repeat (first | exact HB.out | refine Below.setCell ?_ (by simp <;> omega) _)
set_option maxHeartbeats 1000000 in
set_option maxRecDepth 100000 in
theorem nobdo_4 (pb : Option Addr) (a b c k s1 g1 g2 g3 g4 : Int) (s2 : Bool) (VA WA TA GA : Option Addr) (vn vc wn wc tn tc gn gc : Nat) (w : World) (h : Nob pb w) :
    Calls Try.prog 21 #[.pointer pb, .agg #[.int .i64 4, .int .i64 a, .int .i64 b, .int .i64 c, .int .u64 k, .slice VA vn vc, .slice WA wn wc, .int .i64 s1, .bool s2, .int .i64 g1, .int .i64 g2, .int .i64 g3, .int .u64 g4, .slice TA tn tc, .slice GA gn gc]] w fun e W' => e = .returned (.agg #[.int .i64 0, nilS, .int .i64 1]) ∧ Below w.heap.size w W' := by
  obtain ⟨k0, k1, k2, hsz, hb⟩ := three w (.cells #[.int .i64 4, .int .i64 a, .int .i64 b, .int .i64 c, .int .u64 k, .slice VA vn vc, .slice WA wn wc, .int .i64 s1, .bool s2, .int .i64 g1, .int .i64 g2, .int .i64 g3, .int .u64 g4, .slice TA tn tc, .slice GA gn gc] 58) (.cells noAns 64) (.cells noAns 64)
  have q0 : (((w.alloc (.cells #[.int .i64 4, .int .i64 a, .int .i64 b, .int .i64 c, .int .u64 k, .slice VA vn vc, .slice WA wn wc, .int .i64 s1, .bool s2, .int .i64 g1, .int .i64 g2, .int .i64 g3, .int .u64 g4, .slice TA tn tc, .slice GA gn gc] 58)).alloc (.cells noAns 64)).alloc (.cells noAns 64)).cell? ⟨w.heap.size, 0, none⟩ = some (.int .i64 4) := cell_in k0
  have q1 : (((w.alloc (.cells #[.int .i64 4, .int .i64 a, .int .i64 b, .int .i64 c, .int .u64 k, .slice VA vn vc, .slice WA wn wc, .int .i64 s1, .bool s2, .int .i64 g1, .int .i64 g2, .int .i64 g3, .int .u64 g4, .slice TA tn tc, .slice GA gn gc] 58)).alloc (.cells noAns 64)).alloc (.cells noAns 64)).cell? ⟨w.heap.size, 1, none⟩ = some (.int .i64 a) := cell_in k0
  have HN := Lib.hid (nob_not pb a _ (h.below hb))
  have K1 := Lib.hid k1; have K2 := Lib.hid k2; have HB0 := Lib.hid hb
  clear h k0 k1 k2 hb
  go_enter Try.func21, Try.ntmps21
  go_wp2_with (go_at_call 45; refine HN.out.mono ?_; rintro e w1 ⟨rfl, hb⟩; obtain ⟨c0, c1, c2, f0, f1, f2⟩ := box_facts ((hb.block (w.heap.size + 1 + 1) (by rw [hsz]; omega)).trans K2.out); obtain ⟨d0, d1, d2, z0, z1, z2⟩ := box_facts ((hb.block (w.heap.size + 1) (by rw [hsz]; omega)).trans K1.out); have HB := Lib.hid (HB0.out.trans (hb.mono HB0.out.size)); clear hb)
  refine bodyPost_ret (v := .agg #[.int .i64 0, nilS, .int .i64 1]) ?_ rfl ⟨rfl, ?_⟩
  · rw [results_cell_tmp1 rfl]
    go_simp
  · repeat (first | exact HB.out | refine Below.setCell ?_ (by simp <;> omega) _)
set_option maxHeartbeats 1000000 in
set_option maxRecDepth 100000 in
theorem nobdo_5 (pb : Option Addr) (a b c k s1 g1 g2 g3 g4 : Int) (s2 : Bool) (VA WA TA GA : Option Addr) (vn vc wn wc tn tc gn gc : Nat) (w : World) (h : Nob pb w) :
    Calls Try.prog 21 #[.pointer pb, .agg #[.int .i64 5, .int .i64 a, .int .i64 b, .int .i64 c, .int .u64 k, .slice VA vn vc, .slice WA wn wc, .int .i64 s1, .bool s2, .int .i64 g1, .int .i64 g2, .int .i64 g3, .int .u64 g4, .slice TA tn tc, .slice GA gn gc]] w fun e W' => e = .returned (.agg #[.int .i64 0, nilS, .int .i64 1]) ∧ Below w.heap.size w W' := by
  obtain ⟨k0, k1, k2, hsz, hb⟩ := three w (.cells #[.int .i64 5, .int .i64 a, .int .i64 b, .int .i64 c, .int .u64 k, .slice VA vn vc, .slice WA wn wc, .int .i64 s1, .bool s2, .int .i64 g1, .int .i64 g2, .int .i64 g3, .int .u64 g4, .slice TA tn tc, .slice GA gn gc] 58) (.cells noAns 64) (.cells noAns 64)
  have q0 : (((w.alloc (.cells #[.int .i64 5, .int .i64 a, .int .i64 b, .int .i64 c, .int .u64 k, .slice VA vn vc, .slice WA wn wc, .int .i64 s1, .bool s2, .int .i64 g1, .int .i64 g2, .int .i64 g3, .int .u64 g4, .slice TA tn tc, .slice GA gn gc] 58)).alloc (.cells noAns 64)).alloc (.cells noAns 64)).cell? ⟨w.heap.size, 0, none⟩ = some (.int .i64 5) := cell_in k0
  have q1 : (((w.alloc (.cells #[.int .i64 5, .int .i64 a, .int .i64 b, .int .i64 c, .int .u64 k, .slice VA vn vc, .slice WA wn wc, .int .i64 s1, .bool s2, .int .i64 g1, .int .i64 g2, .int .i64 g3, .int .u64 g4, .slice TA tn tc, .slice GA gn gc] 58)).alloc (.cells noAns 64)).alloc (.cells noAns 64)).cell? ⟨w.heap.size, 1, none⟩ = some (.int .i64 a) := cell_in k0
  have q2 : (((w.alloc (.cells #[.int .i64 5, .int .i64 a, .int .i64 b, .int .i64 c, .int .u64 k, .slice VA vn vc, .slice WA wn wc, .int .i64 s1, .bool s2, .int .i64 g1, .int .i64 g2, .int .i64 g3, .int .u64 g4, .slice TA tn tc, .slice GA gn gc] 58)).alloc (.cells noAns 64)).alloc (.cells noAns 64)).cell? ⟨w.heap.size, 2, none⟩ = some (.int .i64 b) := cell_in k0
  have HN := Lib.hid (nob_and pb a b _ (h.below hb))
  have K1 := Lib.hid k1; have K2 := Lib.hid k2; have HB0 := Lib.hid hb
  clear h k0 k1 k2 hb
  go_enter Try.func21, Try.ntmps21
  go_wp2_with (go_at_call 46; refine HN.out.mono ?_; rintro e w1 ⟨rfl, hb⟩; obtain ⟨c0, c1, c2, f0, f1, f2⟩ := box_facts ((hb.block (w.heap.size + 1 + 1) (by rw [hsz]; omega)).trans K2.out); obtain ⟨d0, d1, d2, z0, z1, z2⟩ := box_facts ((hb.block (w.heap.size + 1) (by rw [hsz]; omega)).trans K1.out); have HB := Lib.hid (HB0.out.trans (hb.mono HB0.out.size)); clear hb)
  refine bodyPost_ret (v := .agg #[.int .i64 0, nilS, .int .i64 1]) ?_ rfl ⟨rfl, ?_⟩
  · rw [results_cell_tmp1 rfl]
    go_simp
  · repeat (first | exact HB.out | refine Below.setCell ?_ (by simp <;> omega) _)
set_option maxHeartbeats 1000000 in
set_option maxRecDepth 100000 in
theorem nobdo_6 (pb : Option Addr) (a b c k s1 g1 g2 g3 g4 : Int) (s2 : Bool) (VA WA TA GA : Option Addr) (vn vc wn wc tn tc gn gc : Nat) (w : World) (h : Nob pb w) :
    Calls Try.prog 21 #[.pointer pb, .agg #[.int .i64 6, .int .i64 a, .int .i64 b, .int .i64 c, .int .u64 k, .slice VA vn vc, .slice WA wn wc, .int .i64 s1, .bool s2, .int .i64 g1, .int .i64 g2, .int .i64 g3, .int .u64 g4, .slice TA tn tc, .slice GA gn gc]] w fun e W' => e = .returned (.agg #[.int .i64 0, nilS, .int .i64 1]) ∧ Below w.heap.size w W' := by
  obtain ⟨k0, k1, k2, hsz, hb⟩ := three w (.cells #[.int .i64 6, .int .i64 a, .int .i64 b, .int .i64 c, .int .u64 k, .slice VA vn vc, .slice WA wn wc, .int .i64 s1, .bool s2, .int .i64 g1, .int .i64 g2, .int .i64 g3, .int .u64 g4, .slice TA tn tc, .slice GA gn gc] 58) (.cells noAns 64) (.cells noAns 64)
  have q0 : (((w.alloc (.cells #[.int .i64 6, .int .i64 a, .int .i64 b, .int .i64 c, .int .u64 k, .slice VA vn vc, .slice WA wn wc, .int .i64 s1, .bool s2, .int .i64 g1, .int .i64 g2, .int .i64 g3, .int .u64 g4, .slice TA tn tc, .slice GA gn gc] 58)).alloc (.cells noAns 64)).alloc (.cells noAns 64)).cell? ⟨w.heap.size, 0, none⟩ = some (.int .i64 6) := cell_in k0
  have q1 : (((w.alloc (.cells #[.int .i64 6, .int .i64 a, .int .i64 b, .int .i64 c, .int .u64 k, .slice VA vn vc, .slice WA wn wc, .int .i64 s1, .bool s2, .int .i64 g1, .int .i64 g2, .int .i64 g3, .int .u64 g4, .slice TA tn tc, .slice GA gn gc] 58)).alloc (.cells noAns 64)).alloc (.cells noAns 64)).cell? ⟨w.heap.size, 1, none⟩ = some (.int .i64 a) := cell_in k0
  have q2 : (((w.alloc (.cells #[.int .i64 6, .int .i64 a, .int .i64 b, .int .i64 c, .int .u64 k, .slice VA vn vc, .slice WA wn wc, .int .i64 s1, .bool s2, .int .i64 g1, .int .i64 g2, .int .i64 g3, .int .u64 g4, .slice TA tn tc, .slice GA gn gc] 58)).alloc (.cells noAns 64)).alloc (.cells noAns 64)).cell? ⟨w.heap.size, 2, none⟩ = some (.int .i64 b) := cell_in k0
  have HN := Lib.hid (nob_or pb a b _ (h.below hb))
  have K1 := Lib.hid k1; have K2 := Lib.hid k2; have HB0 := Lib.hid hb
  clear h k0 k1 k2 hb
  go_enter Try.func21, Try.ntmps21
  go_wp2_with (go_at_call 47; refine HN.out.mono ?_; rintro e w1 ⟨rfl, hb⟩; obtain ⟨c0, c1, c2, f0, f1, f2⟩ := box_facts ((hb.block (w.heap.size + 1 + 1) (by rw [hsz]; omega)).trans K2.out); obtain ⟨d0, d1, d2, z0, z1, z2⟩ := box_facts ((hb.block (w.heap.size + 1) (by rw [hsz]; omega)).trans K1.out); have HB := Lib.hid (HB0.out.trans (hb.mono HB0.out.size)); clear hb)
  refine bodyPost_ret (v := .agg #[.int .i64 0, nilS, .int .i64 1]) ?_ rfl ⟨rfl, ?_⟩
  · rw [results_cell_tmp1 rfl]
    go_simp
  · repeat (first | exact HB.out | refine Below.setCell ?_ (by simp <;> omega) _)
set_option maxHeartbeats 1000000 in
set_option maxRecDepth 100000 in
theorem nobdo_7 (pb : Option Addr) (a b c k s1 g1 g2 g3 g4 : Int) (s2 : Bool) (VA WA TA GA : Option Addr) (vn vc wn wc tn tc gn gc : Nat) (w : World) (h : Nob pb w) :
    Calls Try.prog 21 #[.pointer pb, .agg #[.int .i64 7, .int .i64 a, .int .i64 b, .int .i64 c, .int .u64 k, .slice VA vn vc, .slice WA wn wc, .int .i64 s1, .bool s2, .int .i64 g1, .int .i64 g2, .int .i64 g3, .int .u64 g4, .slice TA tn tc, .slice GA gn gc]] w fun e W' => e = .returned (.agg #[.int .i64 0, nilS, .int .i64 1]) ∧ Below w.heap.size w W' := by
  obtain ⟨k0, k1, k2, hsz, hb⟩ := three w (.cells #[.int .i64 7, .int .i64 a, .int .i64 b, .int .i64 c, .int .u64 k, .slice VA vn vc, .slice WA wn wc, .int .i64 s1, .bool s2, .int .i64 g1, .int .i64 g2, .int .i64 g3, .int .u64 g4, .slice TA tn tc, .slice GA gn gc] 58) (.cells noAns 64) (.cells noAns 64)
  have q0 : (((w.alloc (.cells #[.int .i64 7, .int .i64 a, .int .i64 b, .int .i64 c, .int .u64 k, .slice VA vn vc, .slice WA wn wc, .int .i64 s1, .bool s2, .int .i64 g1, .int .i64 g2, .int .i64 g3, .int .u64 g4, .slice TA tn tc, .slice GA gn gc] 58)).alloc (.cells noAns 64)).alloc (.cells noAns 64)).cell? ⟨w.heap.size, 0, none⟩ = some (.int .i64 7) := cell_in k0
  have q1 : (((w.alloc (.cells #[.int .i64 7, .int .i64 a, .int .i64 b, .int .i64 c, .int .u64 k, .slice VA vn vc, .slice WA wn wc, .int .i64 s1, .bool s2, .int .i64 g1, .int .i64 g2, .int .i64 g3, .int .u64 g4, .slice TA tn tc, .slice GA gn gc] 58)).alloc (.cells noAns 64)).alloc (.cells noAns 64)).cell? ⟨w.heap.size, 1, none⟩ = some (.int .i64 a) := cell_in k0
  have q2 : (((w.alloc (.cells #[.int .i64 7, .int .i64 a, .int .i64 b, .int .i64 c, .int .u64 k, .slice VA vn vc, .slice WA wn wc, .int .i64 s1, .bool s2, .int .i64 g1, .int .i64 g2, .int .i64 g3, .int .u64 g4, .slice TA tn tc, .slice GA gn gc] 58)).alloc (.cells noAns 64)).alloc (.cells noAns 64)).cell? ⟨w.heap.size, 2, none⟩ = some (.int .i64 b) := cell_in k0
  have HN := Lib.hid (nob_xor pb a b _ (h.below hb))
  have K1 := Lib.hid k1; have K2 := Lib.hid k2; have HB0 := Lib.hid hb
  clear h k0 k1 k2 hb
  go_enter Try.func21, Try.ntmps21
  go_wp2_with (go_at_call 48; refine HN.out.mono ?_; rintro e w1 ⟨rfl, hb⟩; obtain ⟨c0, c1, c2, f0, f1, f2⟩ := box_facts ((hb.block (w.heap.size + 1 + 1) (by rw [hsz]; omega)).trans K2.out); obtain ⟨d0, d1, d2, z0, z1, z2⟩ := box_facts ((hb.block (w.heap.size + 1) (by rw [hsz]; omega)).trans K1.out); have HB := Lib.hid (HB0.out.trans (hb.mono HB0.out.size)); clear hb)
  refine bodyPost_ret (v := .agg #[.int .i64 0, nilS, .int .i64 1]) ?_ rfl ⟨rfl, ?_⟩
  · rw [results_cell_tmp1 rfl]
    go_simp
  · repeat (first | exact HB.out | refine Below.setCell ?_ (by simp <;> omega) _)
set_option maxHeartbeats 1000000 in
set_option maxRecDepth 100000 in
theorem nobdo_8 (pb : Option Addr) (a b c k s1 g1 g2 g3 g4 : Int) (s2 : Bool) (VA WA TA GA : Option Addr) (vn vc wn wc tn tc gn gc : Nat) (w : World) (h : Nob pb w) :
    Calls Try.prog 21 #[.pointer pb, .agg #[.int .i64 8, .int .i64 a, .int .i64 b, .int .i64 c, .int .u64 k, .slice VA vn vc, .slice WA wn wc, .int .i64 s1, .bool s2, .int .i64 g1, .int .i64 g2, .int .i64 g3, .int .u64 g4, .slice TA tn tc, .slice GA gn gc]] w fun e W' => e = .returned (.agg #[.int .i64 0, nilS, .int .i64 1]) ∧ Below w.heap.size w W' := by
  obtain ⟨k0, k1, k2, hsz, hb⟩ := three w (.cells #[.int .i64 8, .int .i64 a, .int .i64 b, .int .i64 c, .int .u64 k, .slice VA vn vc, .slice WA wn wc, .int .i64 s1, .bool s2, .int .i64 g1, .int .i64 g2, .int .i64 g3, .int .u64 g4, .slice TA tn tc, .slice GA gn gc] 58) (.cells noAns 64) (.cells noAns 64)
  have q0 : (((w.alloc (.cells #[.int .i64 8, .int .i64 a, .int .i64 b, .int .i64 c, .int .u64 k, .slice VA vn vc, .slice WA wn wc, .int .i64 s1, .bool s2, .int .i64 g1, .int .i64 g2, .int .i64 g3, .int .u64 g4, .slice TA tn tc, .slice GA gn gc] 58)).alloc (.cells noAns 64)).alloc (.cells noAns 64)).cell? ⟨w.heap.size, 0, none⟩ = some (.int .i64 8) := cell_in k0
  have q3 : (((w.alloc (.cells #[.int .i64 8, .int .i64 a, .int .i64 b, .int .i64 c, .int .u64 k, .slice VA vn vc, .slice WA wn wc, .int .i64 s1, .bool s2, .int .i64 g1, .int .i64 g2, .int .i64 g3, .int .u64 g4, .slice TA tn tc, .slice GA gn gc] 58)).alloc (.cells noAns 64)).alloc (.cells noAns 64)).cell? ⟨w.heap.size, 3, none⟩ = some (.int .i64 c) := cell_in k0
  have q1 : (((w.alloc (.cells #[.int .i64 8, .int .i64 a, .int .i64 b, .int .i64 c, .int .u64 k, .slice VA vn vc, .slice WA wn wc, .int .i64 s1, .bool s2, .int .i64 g1, .int .i64 g2, .int .i64 g3, .int .u64 g4, .slice TA tn tc, .slice GA gn gc] 58)).alloc (.cells noAns 64)).alloc (.cells noAns 64)).cell? ⟨w.heap.size, 1, none⟩ = some (.int .i64 a) := cell_in k0
  have q2 : (((w.alloc (.cells #[.int .i64 8, .int .i64 a, .int .i64 b, .int .i64 c, .int .u64 k, .slice VA vn vc, .slice WA wn wc, .int .i64 s1, .bool s2, .int .i64 g1, .int .i64 g2, .int .i64 g3, .int .u64 g4, .slice TA tn tc, .slice GA gn gc] 58)).alloc (.cells noAns 64)).alloc (.cells noAns 64)).cell? ⟨w.heap.size, 2, none⟩ = some (.int .i64 b) := cell_in k0
  have HN := Lib.hid (nob_pick pb c a b _ (h.below hb))
  have K1 := Lib.hid k1; have K2 := Lib.hid k2; have HB0 := Lib.hid hb
  clear h k0 k1 k2 hb
  go_enter Try.func21, Try.ntmps21
  go_wp2_with (go_at_call 49; refine HN.out.mono ?_; rintro e w1 ⟨rfl, hb⟩; obtain ⟨c0, c1, c2, f0, f1, f2⟩ := box_facts ((hb.block (w.heap.size + 1 + 1) (by rw [hsz]; omega)).trans K2.out); obtain ⟨d0, d1, d2, z0, z1, z2⟩ := box_facts ((hb.block (w.heap.size + 1) (by rw [hsz]; omega)).trans K1.out); have HB := Lib.hid (HB0.out.trans (hb.mono HB0.out.size)); clear hb)
  refine bodyPost_ret (v := .agg #[.int .i64 0, nilS, .int .i64 1]) ?_ rfl ⟨rfl, ?_⟩
  · rw [results_cell_tmp1 rfl]
    go_simp
  · repeat (first | exact HB.out | refine Below.setCell ?_ (by simp <;> omega) _)
set_option maxHeartbeats 1000000 in
set_option maxRecDepth 100000 in
theorem nobdo_9 (pb : Option Addr) (a b c k s1 g1 g2 g3 g4 : Int) (s2 : Bool) (VA WA TA GA : Option Addr) (vn vc wn wc tn tc gn gc : Nat) (w : World) (h : Nob pb w) :
    Calls Try.prog 21 #[.pointer pb, .agg #[.int .i64 9, .int .i64 a, .int .i64 b, .int .i64 c, .int .u64 k, .slice VA vn vc, .slice WA wn wc, .int .i64 s1, .bool s2, .int .i64 g1, .int .i64 g2, .int .i64 g3, .int .u64 g4, .slice TA tn tc, .slice GA gn gc]] w fun e W' => e = .returned (.agg #[.int .i64 0, nilS, .int .i64 1]) ∧ Below w.heap.size w W' := by
  obtain ⟨k0, k1, k2, hsz, hb⟩ := three w (.cells #[.int .i64 9, .int .i64 a, .int .i64 b, .int .i64 c, .int .u64 k, .slice VA vn vc, .slice WA wn wc, .int .i64 s1, .bool s2, .int .i64 g1, .int .i64 g2, .int .i64 g3, .int .u64 g4, .slice TA tn tc, .slice GA gn gc] 58) (.cells noAns 64) (.cells noAns 64)
  have q0 : (((w.alloc (.cells #[.int .i64 9, .int .i64 a, .int .i64 b, .int .i64 c, .int .u64 k, .slice VA vn vc, .slice WA wn wc, .int .i64 s1, .bool s2, .int .i64 g1, .int .i64 g2, .int .i64 g3, .int .u64 g4, .slice TA tn tc, .slice GA gn gc] 58)).alloc (.cells noAns 64)).alloc (.cells noAns 64)).cell? ⟨w.heap.size, 0, none⟩ = some (.int .i64 9) := cell_in k0
  have q5 : (((w.alloc (.cells #[.int .i64 9, .int .i64 a, .int .i64 b, .int .i64 c, .int .u64 k, .slice VA vn vc, .slice WA wn wc, .int .i64 s1, .bool s2, .int .i64 g1, .int .i64 g2, .int .i64 g3, .int .u64 g4, .slice TA tn tc, .slice GA gn gc] 58)).alloc (.cells noAns 64)).alloc (.cells noAns 64)).cell? ⟨w.heap.size, 5, none⟩ = some (.slice VA vn vc) := cell_in k0
  have HN := Lib.hid (nob_num pb VA vn vc _ (h.below hb))
  have K1 := Lib.hid k1; have K2 := Lib.hid k2; have HB0 := Lib.hid hb
  clear h k0 k1 k2 hb
  go_enter Try.func21, Try.ntmps21
  go_wp2_with (go_at_call 50; refine HN.out.mono ?_; rintro e w1 ⟨rfl, hb⟩; obtain ⟨c0, c1, c2, f0, f1, f2⟩ := box_facts ((hb.block (w.heap.size + 1 + 1) (by rw [hsz]; omega)).trans K2.out); obtain ⟨d0, d1, d2, z0, z1, z2⟩ := box_facts ((hb.block (w.heap.size + 1) (by rw [hsz]; omega)).trans K1.out); have HB := Lib.hid (HB0.out.trans (hb.mono HB0.out.size)); clear hb)
  refine bodyPost_ret (v := .agg #[.int .i64 0, nilS, .int .i64 1]) ?_ rfl ⟨rfl, ?_⟩
  · rw [results_cell_tmp1 rfl]
    go_simp
  · repeat (first | exact HB.out | refine Below.setCell ?_ (by simp <;> omega) _)
set_option maxHeartbeats 1000000 in
set_option maxRecDepth 100000 in
theorem nobdo_10 (pb : Option Addr) (a b c k s1 g1 g2 g3 g4 : Int) (s2 : Bool) (VA WA TA GA : Option Addr) (vn vc wn wc tn tc gn gc : Nat) (w : World) (h : Nob pb w) :
    Calls Try.prog 21 #[.pointer pb, .agg #[.int .i64 10, .int .i64 a, .int .i64 b, .int .i64 c, .int .u64 k, .slice VA vn vc, .slice WA wn wc, .int .i64 s1, .bool s2, .int .i64 g1, .int .i64 g2, .int .i64 g3, .int .u64 g4, .slice TA tn tc, .slice GA gn gc]] w fun e W' => e = .returned (.agg #[.int .i64 0, nilS, .int .i64 1]) ∧ Below w.heap.size w W' := by
  obtain ⟨k0, k1, k2, hsz, hb⟩ := three w (.cells #[.int .i64 10, .int .i64 a, .int .i64 b, .int .i64 c, .int .u64 k, .slice VA vn vc, .slice WA wn wc, .int .i64 s1, .bool s2, .int .i64 g1, .int .i64 g2, .int .i64 g3, .int .u64 g4, .slice TA tn tc, .slice GA gn gc] 58) (.cells noAns 64) (.cells noAns 64)
  have q0 : (((w.alloc (.cells #[.int .i64 10, .int .i64 a, .int .i64 b, .int .i64 c, .int .u64 k, .slice VA vn vc, .slice WA wn wc, .int .i64 s1, .bool s2, .int .i64 g1, .int .i64 g2, .int .i64 g3, .int .u64 g4, .slice TA tn tc, .slice GA gn gc] 58)).alloc (.cells noAns 64)).alloc (.cells noAns 64)).cell? ⟨w.heap.size, 0, none⟩ = some (.int .i64 10) := cell_in k0
  have q5 : (((w.alloc (.cells #[.int .i64 10, .int .i64 a, .int .i64 b, .int .i64 c, .int .u64 k, .slice VA vn vc, .slice WA wn wc, .int .i64 s1, .bool s2, .int .i64 g1, .int .i64 g2, .int .i64 g3, .int .u64 g4, .slice TA tn tc, .slice GA gn gc] 58)).alloc (.cells noAns 64)).alloc (.cells noAns 64)).cell? ⟨w.heap.size, 5, none⟩ = some (.slice VA vn vc) := cell_in k0
  have q6 : (((w.alloc (.cells #[.int .i64 10, .int .i64 a, .int .i64 b, .int .i64 c, .int .u64 k, .slice VA vn vc, .slice WA wn wc, .int .i64 s1, .bool s2, .int .i64 g1, .int .i64 g2, .int .i64 g3, .int .u64 g4, .slice TA tn tc, .slice GA gn gc] 58)).alloc (.cells noAns 64)).alloc (.cells noAns 64)).cell? ⟨w.heap.size, 6, none⟩ = some (.slice WA wn wc) := cell_in k0
  have HN := Lib.hid (nob_plus pb VA vn vc WA wn wc _ (h.below hb))
  have K1 := Lib.hid k1; have K2 := Lib.hid k2; have HB0 := Lib.hid hb
  clear h k0 k1 k2 hb
  go_enter Try.func21, Try.ntmps21
  go_wp2_with (go_at_call 29; refine HN.out.mono ?_; rintro e w1 ⟨rfl, hb⟩; obtain ⟨c0, c1, c2, f0, f1, f2⟩ := box_facts ((hb.block (w.heap.size + 1 + 1) (by rw [hsz]; omega)).trans K2.out); obtain ⟨d0, d1, d2, z0, z1, z2⟩ := box_facts ((hb.block (w.heap.size + 1) (by rw [hsz]; omega)).trans K1.out); have HB := Lib.hid (HB0.out.trans (hb.mono HB0.out.size)); clear hb)
  refine bodyPost_ret (v := .agg #[.int .i64 0, nilS, .int .i64 1]) ?_ rfl ⟨rfl, ?_⟩
  · rw [results_cell_tmp1 rfl]
    go_simp
  · repeat (first | exact HB.out | refine Below.setCell ?_ (by simp <;> omega) _)
set_option maxHeartbeats 1000000 in
set_option maxRecDepth 100000 in
theorem nobdo_11 (pb : Option Addr) (a b c k s1 g1 g2 g3 g4 : Int) (s2 : Bool) (VA WA TA GA : Option Addr) (vn vc wn wc tn tc gn gc : Nat) (w : World) (h : Nob pb w) :
    Calls Try.prog 21 #[.pointer pb, .agg #[.int .i64 11, .int .i64 a, .int .i64 b, .int .i64 c, .int .u64 k, .slice VA vn vc, .slice WA wn wc, .int .i64 s1, .bool s2, .int .i64 g1, .int .i64 g2, .int .i64 g3, .int .u64 g4, .slice TA tn tc, .slice GA gn gc]] w fun e W' => e = .returned (.agg #[.int .i64 0, nilS, .int .i64 1]) ∧ Below w.heap.size w W' := by
  obtain ⟨k0, k1, k2, hsz, hb⟩ := three w (.cells #[.int .i64 11, .int .i64 a, .int .i64 b, .int .i64 c, .int .u64 k, .slice VA vn vc, .slice WA wn wc, .int .i64 s1, .bool s2, .int .i64 g1, .int .i64 g2, .int .i64 g3, .int .u64 g4, .slice TA tn tc, .slice GA gn gc] 58) (.cells noAns 64) (.cells noAns 64)
  have q0 : (((w.alloc (.cells #[.int .i64 11, .int .i64 a, .int .i64 b, .int .i64 c, .int .u64 k, .slice VA vn vc, .slice WA wn wc, .int .i64 s1, .bool s2, .int .i64 g1, .int .i64 g2, .int .i64 g3, .int .u64 g4, .slice TA tn tc, .slice GA gn gc] 58)).alloc (.cells noAns 64)).alloc (.cells noAns 64)).cell? ⟨w.heap.size, 0, none⟩ = some (.int .i64 11) := cell_in k0
  have q5 : (((w.alloc (.cells #[.int .i64 11, .int .i64 a, .int .i64 b, .int .i64 c, .int .u64 k, .slice VA vn vc, .slice WA wn wc, .int .i64 s1, .bool s2, .int .i64 g1, .int .i64 g2, .int .i64 g3, .int .u64 g4, .slice TA tn tc, .slice GA gn gc] 58)).alloc (.cells noAns 64)).alloc (.cells noAns 64)).cell? ⟨w.heap.size, 5, none⟩ = some (.slice VA vn vc) := cell_in k0
  have q6 : (((w.alloc (.cells #[.int .i64 11, .int .i64 a, .int .i64 b, .int .i64 c, .int .u64 k, .slice VA vn vc, .slice WA wn wc, .int .i64 s1, .bool s2, .int .i64 g1, .int .i64 g2, .int .i64 g3, .int .u64 g4, .slice TA tn tc, .slice GA gn gc] 58)).alloc (.cells noAns 64)).alloc (.cells noAns 64)).cell? ⟨w.heap.size, 6, none⟩ = some (.slice WA wn wc) := cell_in k0
  have HN := Lib.hid (nob_minus pb VA vn vc WA wn wc _ (h.below hb))
  have K1 := Lib.hid k1; have K2 := Lib.hid k2; have HB0 := Lib.hid hb
  clear h k0 k1 k2 hb
  go_enter Try.func21, Try.ntmps21
  go_wp2_with (go_at_call 30; refine HN.out.mono ?_; rintro e w1 ⟨rfl, hb⟩; obtain ⟨c0, c1, c2, f0, f1, f2⟩ := box_facts ((hb.block (w.heap.size + 1 + 1) (by rw [hsz]; omega)).trans K2.out); obtain ⟨d0, d1, d2, z0, z1, z2⟩ := box_facts ((hb.block (w.heap.size + 1) (by rw [hsz]; omega)).trans K1.out); have HB := Lib.hid (HB0.out.trans (hb.mono HB0.out.size)); clear hb)
  refine bodyPost_ret (v := .agg #[.int .i64 0, nilS, .int .i64 1]) ?_ rfl ⟨rfl, ?_⟩
  · rw [results_cell_tmp1 rfl]
    go_simp
  · repeat (first | exact HB.out | refine Below.setCell ?_ (by simp <;> omega) _)
set_option maxHeartbeats 1000000 in
set_option maxRecDepth 100000 in
theorem nobdo_12 (pb : Option Addr) (a b c k s1 g1 g2 g3 g4 : Int) (s2 : Bool) (VA WA TA GA : Option Addr) (vn vc wn wc tn tc gn gc : Nat) (w : World) (h : Nob pb w) :
    Calls Try.prog 21 #[.pointer pb, .agg #[.int .i64 12, .int .i64 a, .int .i64 b, .int .i64 c, .int .u64 k, .slice VA vn vc, .slice WA wn wc, .int .i64 s1, .bool s2, .int .i64 g1, .int .i64 g2, .int .i64 g3, .int .u64 g4, .slice TA tn tc, .slice GA gn gc]] w fun e W' => e = .returned (.agg #[.int .i64 0, nilS, .int .i64 1]) ∧ Below w.heap.size w W' := by
  obtain ⟨k0, k1, k2, hsz, hb⟩ := three w (.cells #[.int .i64 12, .int .i64 a, .int .i64 b, .int .i64 c, .int .u64 k, .slice VA vn vc, .slice WA wn wc, .int .i64 s1, .bool s2, .int .i64 g1, .int .i64 g2, .int .i64 g3, .int .u64 g4, .slice TA tn tc, .slice GA gn gc] 58) (.cells noAns 64) (.cells noAns 64)
  have q0 : (((w.alloc (.cells #[.int .i64 12, .int .i64 a, .int .i64 b, .int .i64 c, .int .u64 k, .slice VA vn vc, .slice WA wn wc, .int .i64 s1, .bool s2, .int .i64 g1, .int .i64 g2, .int .i64 g3, .int .u64 g4, .slice TA tn tc, .slice GA gn gc] 58)).alloc (.cells noAns 64)).alloc (.cells noAns 64)).cell? ⟨w.heap.size, 0, none⟩ = some (.int .i64 12) := cell_in k0
  have q5 : (((w.alloc (.cells #[.int .i64 12, .int .i64 a, .int .i64 b, .int .i64 c, .int .u64 k, .slice VA vn vc, .slice WA wn wc, .int .i64 s1, .bool s2, .int .i64 g1, .int .i64 g2, .int .i64 g3, .int .u64 g4, .slice TA tn tc, .slice GA gn gc] 58)).alloc (.cells noAns 64)).alloc (.cells noAns 64)).cell? ⟨w.heap.size, 5, none⟩ = some (.slice VA vn vc) := cell_in k0
  have q6 : (((w.alloc (.cells #[.int .i64 12, .int .i64 a, .int .i64 b, .int .i64 c, .int .u64 k, .slice VA vn vc, .slice WA wn wc, .int .i64 s1, .bool s2, .int .i64 g1, .int .i64 g2, .int .i64 g3, .int .u64 g4, .slice TA tn tc, .slice GA gn gc] 58)).alloc (.cells noAns 64)).alloc (.cells noAns 64)).cell? ⟨w.heap.size, 6, none⟩ = some (.slice WA wn wc) := cell_in k0
  have HN := Lib.hid (nob_times pb VA vn vc WA wn wc _ (h.below hb))
  have K1 := Lib.hid k1; have K2 := Lib.hid k2; have HB0 := Lib.hid hb
  clear h k0 k1 k2 hb
  go_enter Try.func21, Try.ntmps21
  go_wp2_with (go_at_call 31; refine HN.out.mono ?_; rintro e w1 ⟨rfl, hb⟩; obtain ⟨c0, c1, c2, f0, f1, f2⟩ := box_facts ((hb.block (w.heap.size + 1 + 1) (by rw [hsz]; omega)).trans K2.out); obtain ⟨d0, d1, d2, z0, z1, z2⟩ := box_facts ((hb.block (w.heap.size + 1) (by rw [hsz]; omega)).trans K1.out); have HB := Lib.hid (HB0.out.trans (hb.mono HB0.out.size)); clear hb)
  refine bodyPost_ret (v := .agg #[.int .i64 0, nilS, .int .i64 1]) ?_ rfl ⟨rfl, ?_⟩
  · rw [results_cell_tmp1 rfl]
    go_simp
  · repeat (first | exact HB.out | refine Below.setCell ?_ (by simp <;> omega) _)
set_option maxHeartbeats 1000000 in
set_option maxRecDepth 100000 in
theorem nobdo_13 (pb : Option Addr) (a b c k s1 g1 g2 g3 g4 : Int) (s2 : Bool) (VA WA TA GA : Option Addr) (vn vc wn wc tn tc gn gc : Nat) (w : World) (h : Nob pb w) :
    Calls Try.prog 21 #[.pointer pb, .agg #[.int .i64 13, .int .i64 a, .int .i64 b, .int .i64 c, .int .u64 k, .slice VA vn vc, .slice WA wn wc, .int .i64 s1, .bool s2, .int .i64 g1, .int .i64 g2, .int .i64 g3, .int .u64 g4, .slice TA tn tc, .slice GA gn gc]] w fun e W' => e = .returned (.agg #[.int .i64 0, nilS, .int .i64 1]) ∧ Below w.heap.size w W' := by
  obtain ⟨k0, k1, k2, hsz, hb⟩ := three w (.cells #[.int .i64 13, .int .i64 a, .int .i64 b, .int .i64 c, .int .u64 k, .slice VA vn vc, .slice WA wn wc, .int .i64 s1, .bool s2, .int .i64 g1, .int .i64 g2, .int .i64 g3, .int .u64 g4, .slice TA tn tc, .slice GA gn gc] 58) (.cells noAns 64) (.cells noAns 64)
  have q0 : (((w.alloc (.cells #[.int .i64 13, .int .i64 a, .int .i64 b, .int .i64 c, .int .u64 k, .slice VA vn vc, .slice WA wn wc, .int .i64 s1, .bool s2, .int .i64 g1, .int .i64 g2, .int .i64 g3, .int .u64 g4, .slice TA tn tc, .slice GA gn gc] 58)).alloc (.cells noAns 64)).alloc (.cells noAns 64)).cell? ⟨w.heap.size, 0, none⟩ = some (.int .i64 13) := cell_in k0
  have q5 : (((w.alloc (.cells #[.int .i64 13, .int .i64 a, .int .i64 b, .int .i64 c, .int .u64 k, .slice VA vn vc, .slice WA wn wc, .int .i64 s1, .bool s2, .int .i64 g1, .int .i64 g2, .int .i64 g3, .int .u64 g4, .slice TA tn tc, .slice GA gn gc] 58)).alloc (.cells noAns 64)).alloc (.cells noAns 64)).cell? ⟨w.heap.size, 5, none⟩ = some (.slice VA vn vc) := cell_in k0
  have q6 : (((w.alloc (.cells #[.int .i64 13, .int .i64 a, .int .i64 b, .int .i64 c, .int .u64 k, .slice VA vn vc, .slice WA wn wc, .int .i64 s1, .bool s2, .int .i64 g1, .int .i64 g2, .int .i64 g3, .int .u64 g4, .slice TA tn tc, .slice GA gn gc] 58)).alloc (.cells noAns 64)).alloc (.cells noAns 64)).cell? ⟨w.heap.size, 6, none⟩ = some (.slice WA wn wc) := cell_in k0
  have HN := Lib.hid (nob_same pb VA vn vc WA wn wc _ (h.below hb))
  have K1 := Lib.hid k1; have K2 := Lib.hid k2; have HB0 := Lib.hid hb
  clear h k0 k1 k2 hb
  go_enter Try.func21, Try.ntmps21
  go_wp2_with (go_at_call 16; refine HN.out.mono ?_; rintro e w1 ⟨rfl, hb⟩; obtain ⟨c0, c1, c2, f0, f1, f2⟩ := box_facts ((hb.block (w.heap.size + 1 + 1) (by rw [hsz]; omega)).trans K2.out); obtain ⟨d0, d1, d2, z0, z1, z2⟩ := box_facts ((hb.block (w.heap.size + 1) (by rw [hsz]; omega)).trans K1.out); have HB := Lib.hid (HB0.out.trans (hb.mono HB0.out.size)); clear hb)
  refine bodyPost_ret (v := .agg #[.int .i64 0, nilS, .int .i64 1]) ?_ rfl ⟨rfl, ?_⟩
  · rw [results_cell_tmp1 rfl]
    go_simp
  · repeat (first | exact HB.out | refine Below.setCell ?_ (by simp <;> omega) _)
set_option maxHeartbeats 1000000 in
set_option maxRecDepth 100000 in
theorem nobdo_14 (pb : Option Addr) (a b c k s1 g1 g2 g3 g4 : Int) (s2 : Bool) (VA WA TA GA : Option Addr) (vn vc wn wc tn tc gn gc : Nat) (w : World) (h : Nob pb w) :
    Calls Try.prog 21 #[.pointer pb, .agg #[.int .i64 14, .int .i64 a, .int .i64 b, .int .i64 c, .int .u64 k, .slice VA vn vc, .slice WA wn wc, .int .i64 s1, .bool s2, .int .i64 g1, .int .i64 g2, .int .i64 g3, .int .u64 g4, .slice TA tn tc, .slice GA gn gc]] w fun e W' => e = .returned (.agg #[.int .i64 0, nilS, .int .i64 1]) ∧ Below w.heap.size w W' := by
  obtain ⟨k0, k1, k2, hsz, hb⟩ := three w (.cells #[.int .i64 14, .int .i64 a, .int .i64 b, .int .i64 c, .int .u64 k, .slice VA vn vc, .slice WA wn wc, .int .i64 s1, .bool s2, .int .i64 g1, .int .i64 g2, .int .i64 g3, .int .u64 g4, .slice TA tn tc, .slice GA gn gc] 58) (.cells noAns 64) (.cells noAns 64)
  have q0 : (((w.alloc (.cells #[.int .i64 14, .int .i64 a, .int .i64 b, .int .i64 c, .int .u64 k, .slice VA vn vc, .slice WA wn wc, .int .i64 s1, .bool s2, .int .i64 g1, .int .i64 g2, .int .i64 g3, .int .u64 g4, .slice TA tn tc, .slice GA gn gc] 58)).alloc (.cells noAns 64)).alloc (.cells noAns 64)).cell? ⟨w.heap.size, 0, none⟩ = some (.int .i64 14) := cell_in k0
  have q5 : (((w.alloc (.cells #[.int .i64 14, .int .i64 a, .int .i64 b, .int .i64 c, .int .u64 k, .slice VA vn vc, .slice WA wn wc, .int .i64 s1, .bool s2, .int .i64 g1, .int .i64 g2, .int .i64 g3, .int .u64 g4, .slice TA tn tc, .slice GA gn gc] 58)).alloc (.cells noAns 64)).alloc (.cells noAns 64)).cell? ⟨w.heap.size, 5, none⟩ = some (.slice VA vn vc) := cell_in k0
  have q6 : (((w.alloc (.cells #[.int .i64 14, .int .i64 a, .int .i64 b, .int .i64 c, .int .u64 k, .slice VA vn vc, .slice WA wn wc, .int .i64 s1, .bool s2, .int .i64 g1, .int .i64 g2, .int .i64 g3, .int .u64 g4, .slice TA tn tc, .slice GA gn gc] 58)).alloc (.cells noAns 64)).alloc (.cells noAns 64)).cell? ⟨w.heap.size, 6, none⟩ = some (.slice WA wn wc) := cell_in k0
  have HN := Lib.hid (nob_less pb VA vn vc WA wn wc _ (h.below hb))
  have K1 := Lib.hid k1; have K2 := Lib.hid k2; have HB0 := Lib.hid hb
  clear h k0 k1 k2 hb
  go_enter Try.func21, Try.ntmps21
  go_wp2_with (go_at_call 17; refine HN.out.mono ?_; rintro e w1 ⟨rfl, hb⟩; obtain ⟨c0, c1, c2, f0, f1, f2⟩ := box_facts ((hb.block (w.heap.size + 1 + 1) (by rw [hsz]; omega)).trans K2.out); obtain ⟨d0, d1, d2, z0, z1, z2⟩ := box_facts ((hb.block (w.heap.size + 1) (by rw [hsz]; omega)).trans K1.out); have HB := Lib.hid (HB0.out.trans (hb.mono HB0.out.size)); clear hb)
  refine bodyPost_ret (v := .agg #[.int .i64 0, nilS, .int .i64 1]) ?_ rfl ⟨rfl, ?_⟩
  · rw [results_cell_tmp1 rfl]
    go_simp
  · repeat (first | exact HB.out | refine Below.setCell ?_ (by simp <;> omega) _)
end Go.Proofs.Ytkcdlbclodjjhaa
