/- Contracts and plain laws of chapter 13, merged: Qh Qi Qe. -/
import Derived.Test.YtkcdlbclodjjhaaGreatPq
import Derived.Test.YtkcdlbclodjjhaaGreatGao
import Derived.Test.YtkcdlbclodjjhaaGreatPo
import Derived.Test.YtkcdlbclodjjhaaGreatQa
import Derived.Test.YtkcdlbclodjjhaaGreatQd
import Derived.Test.YtkcdlbclodjjhaaGreatGae
/- The law's do on a board, one an act, by what the board's method answers. (Printed by wip/tools/gen_qh.py.) -/
namespace Go.Proofs.YtkcdlbclodjjhaaGreat
open Go.RowKit

/-- The answer's box before the call. -/
abbrev ans0 : Array Value := #[.int .i64 0, nilS, .int .i64 0]
/-- The act's box and the two answers' boxes. -/
def W3 (w : World) (a : Array Value) : World := ((w.alloc (.cells a 46)).alloc (.cells ans0 49)).alloc (.cells ans0 49)
theorem w3_facts (w : World) (a : Array Value) : (W3 w a).heap[w.heap.size]? = some (.cells a 46 (0, 0)) ∧ (W3 w a).heap[w.heap.size + 1]? = some (.cells ans0 49 (0, 0)) ∧ (W3 w a).heap[w.heap.size + 1 + 1]? = some (.cells ans0 49 (0, 0)) ∧ (W3 w a).heap.size = w.heap.size + 1 + 1 + 1 ∧ Below w.heap.size w (W3 w a) := three w _ _ _
set_option maxHeartbeats 1000000 in
set_option maxRecDepth 100000 in
theorem do_0 (pb : Addr) (a b c k : Int) (vs ws : List Int) (s : Slo) (g : Gat) (x : Exi) (VA WA : Option Addr) (vc wc : Nat) (w : World) (Q : Value → Int → World → Prop)
    (HN0 : Calls Tryz.prog 26 #[.pointer (some pb), .agg #[.int .i64 s.1, .bool s.2]] (W3 w #[.int .i64 0, .int .i64 a, .int .i64 b, .int .i64 c, .int .u64 k, .slice VA vs.length vc, .slice WA ws.length wc, .int .i64 s.1, .bool s.2, .int .i64 g.1, .int .i64 g.2.1, .int .i64 g.2.2.1, .int .u64 g.2.2.2, .slice x.A x.tl.length x.c, .slice x.B x.gl.length x.d]) fun e W' => ∃ (x1 : Value) (k1 : Int), e = .returned (.tuple #[x1, .int .i64 k1]) ∧ (∃ z : Int, x1 = .int .i64 z) ∧ Q x1 k1 W')
    (HK0 : ∀ (x1 : Value) (k1 : Int) W, Q x1 k1 W → W.heap[w.heap.size + 1]? = some (.cells ans0 49 (0, 0)) ∧ W.heap[w.heap.size + 1 + 1]? = some (.cells ans0 49 (0, 0))) :
    Calls Tryz.prog 9 #[.pointer (some pb), .agg #[.int .i64 0, .int .i64 a, .int .i64 b, .int .i64 c, .int .u64 k, .slice VA vs.length vc, .slice WA ws.length wc, .int .i64 s.1, .bool s.2, .int .i64 g.1, .int .i64 g.2.1, .int .i64 g.2.2.1, .int .u64 g.2.2.2, .slice x.A x.tl.length x.c, .slice x.B x.gl.length x.d]] w fun e W' => ∃ (x1 : Value) (k1 : Int), e = .returned (.agg #[x1, nilS, .int .i64 k1]) ∧ ∃ W1, Q x1 k1 W1 ∧ ∃ l : List (Nat × Nat × Value), (∀ t ∈ l, t.1 = w.heap.size + 1 ∨ t.1 = w.heap.size + 1 + 1) ∧ W' = l.foldl (fun W t => W.setCell ⟨t.1, t.2.1, none⟩ t.2.2) W1 := by
  obtain ⟨k0, _, _, _, _⟩ := w3_facts w #[.int .i64 0, .int .i64 a, .int .i64 b, .int .i64 c, .int .u64 k, .slice VA vs.length vc, .slice WA ws.length wc, .int .i64 s.1, .bool s.2, .int .i64 g.1, .int .i64 g.2.1, .int .i64 g.2.2.1, .int .u64 g.2.2.2, .slice x.A x.tl.length x.c, .slice x.B x.gl.length x.d]
  unfold W3 at HN0 k0
  have q0 : World.cell? _ ⟨w.heap.size, 0, none⟩ = some (.int .i64 0) := cell_in k0
  have q7 : World.cell? _ ⟨w.heap.size, 7, none⟩ = some (.int .i64 s.1) := cell_in k0
  have q8 : World.cell? _ ⟨w.heap.size, 8, none⟩ = some (.bool s.2) := cell_in k0
  have HN := Lib.hid HN0
  have HK := Lib.hid HK0
  clear HN0 HK0 k0
  go_enter Tryz.func9, Tryz.ntmps9
  go_wp2_with (go_at_call 26; refine HN.out.mono ?_; rintro e w1 ⟨x1, k1, rfl, ⟨z, rfl⟩, hq⟩; have hk := HK.out _ _ _ hq; obtain ⟨c0, c1, c2, f0, f1, f2⟩ := box_facts hk.2; obtain ⟨d0, d1, d2, z0, z1, z2⟩ := box_facts hk.1; have HQ := Lib.hid hq; clear hq hk)
  refine bodyPost_ret (v := .agg #[.int .i64 z, nilS, .int .i64 k1]) ?_ rfl ⟨_, k1, rfl, w1, HQ.out, [(w.heap.size + 1 + 1, 0, .int .i64 z), (w.heap.size + 1 + 1, 2, .int .i64 k1), (w.heap.size + 1, 0, .int .i64 z), (w.heap.size + 1, 1, nilS), (w.heap.size + 1, 2, .int .i64 k1)], by simp, rfl⟩
  · rw [results_cell_tmp1 rfl]
    go_simp
set_option maxHeartbeats 1000000 in
set_option maxRecDepth 100000 in
theorem do_1 (pb : Addr) (a b c k : Int) (vs ws : List Int) (s : Slo) (g : Gat) (x : Exi) (VA WA : Option Addr) (vc wc : Nat) (w : World) (Q : Value → Int → World → Prop)
    (HN0 : Calls Tryz.prog 27 #[.pointer (some pb), .agg #[.int .i64 g.1, .int .i64 g.2.1, .int .i64 g.2.2.1, .int .u64 g.2.2.2]] (W3 w #[.int .i64 1, .int .i64 a, .int .i64 b, .int .i64 c, .int .u64 k, .slice VA vs.length vc, .slice WA ws.length wc, .int .i64 s.1, .bool s.2, .int .i64 g.1, .int .i64 g.2.1, .int .i64 g.2.2.1, .int .u64 g.2.2.2, .slice x.A x.tl.length x.c, .slice x.B x.gl.length x.d]) fun e W' => ∃ (x1 : Value) (k1 : Int), e = .returned (.tuple #[x1, .int .i64 k1]) ∧ (∃ z : Int, x1 = .int .i64 z) ∧ Q x1 k1 W')
    (HK0 : ∀ (x1 : Value) (k1 : Int) W, Q x1 k1 W → W.heap[w.heap.size + 1]? = some (.cells ans0 49 (0, 0)) ∧ W.heap[w.heap.size + 1 + 1]? = some (.cells ans0 49 (0, 0))) :
    Calls Tryz.prog 9 #[.pointer (some pb), .agg #[.int .i64 1, .int .i64 a, .int .i64 b, .int .i64 c, .int .u64 k, .slice VA vs.length vc, .slice WA ws.length wc, .int .i64 s.1, .bool s.2, .int .i64 g.1, .int .i64 g.2.1, .int .i64 g.2.2.1, .int .u64 g.2.2.2, .slice x.A x.tl.length x.c, .slice x.B x.gl.length x.d]] w fun e W' => ∃ (x1 : Value) (k1 : Int), e = .returned (.agg #[x1, nilS, .int .i64 k1]) ∧ ∃ W1, Q x1 k1 W1 ∧ ∃ l : List (Nat × Nat × Value), (∀ t ∈ l, t.1 = w.heap.size + 1 ∨ t.1 = w.heap.size + 1 + 1) ∧ W' = l.foldl (fun W t => W.setCell ⟨t.1, t.2.1, none⟩ t.2.2) W1 := by
  obtain ⟨k0, _, _, _, _⟩ := w3_facts w #[.int .i64 1, .int .i64 a, .int .i64 b, .int .i64 c, .int .u64 k, .slice VA vs.length vc, .slice WA ws.length wc, .int .i64 s.1, .bool s.2, .int .i64 g.1, .int .i64 g.2.1, .int .i64 g.2.2.1, .int .u64 g.2.2.2, .slice x.A x.tl.length x.c, .slice x.B x.gl.length x.d]
  unfold W3 at HN0 k0
  have q0 : World.cell? _ ⟨w.heap.size, 0, none⟩ = some (.int .i64 1) := cell_in k0
  have q9 : World.cell? _ ⟨w.heap.size, 9, none⟩ = some (.int .i64 g.1) := cell_in k0
  have q10 : World.cell? _ ⟨w.heap.size, 10, none⟩ = some (.int .i64 g.2.1) := cell_in k0
  have q11 : World.cell? _ ⟨w.heap.size, 11, none⟩ = some (.int .i64 g.2.2.1) := cell_in k0
  have q12 : World.cell? _ ⟨w.heap.size, 12, none⟩ = some (.int .u64 g.2.2.2) := cell_in k0
  have HN := Lib.hid HN0
  have HK := Lib.hid HK0
  clear HN0 HK0 k0
  go_enter Tryz.func9, Tryz.ntmps9
  go_wp2_with (go_at_call 27; refine HN.out.mono ?_; rintro e w1 ⟨x1, k1, rfl, ⟨z, rfl⟩, hq⟩; have hk := HK.out _ _ _ hq; obtain ⟨c0, c1, c2, f0, f1, f2⟩ := box_facts hk.2; obtain ⟨d0, d1, d2, z0, z1, z2⟩ := box_facts hk.1; have HQ := Lib.hid hq; clear hq hk)
  refine bodyPost_ret (v := .agg #[.int .i64 z, nilS, .int .i64 k1]) ?_ rfl ⟨_, k1, rfl, w1, HQ.out, [(w.heap.size + 1 + 1, 0, .int .i64 z), (w.heap.size + 1 + 1, 2, .int .i64 k1), (w.heap.size + 1, 0, .int .i64 z), (w.heap.size + 1, 1, nilS), (w.heap.size + 1, 2, .int .i64 k1)], by simp, rfl⟩
  · rw [results_cell_tmp1 rfl]
    go_simp
set_option maxHeartbeats 1000000 in
set_option maxRecDepth 100000 in
theorem do_2 (pb : Addr) (a b c k : Int) (vs ws : List Int) (s : Slo) (g : Gat) (x : Exi) (VA WA : Option Addr) (vc wc : Nat) (w : World) (Q : Int → World → Prop)
    (HN0 : Calls Tryz.prog 28 #[.pointer (some pb), .agg #[.slice x.A x.tl.length x.c, .slice x.B x.gl.length x.d]] (W3 w #[.int .i64 2, .int .i64 a, .int .i64 b, .int .i64 c, .int .u64 k, .slice VA vs.length vc, .slice WA ws.length wc, .int .i64 s.1, .bool s.2, .int .i64 g.1, .int .i64 g.2.1, .int .i64 g.2.2.1, .int .u64 g.2.2.2, .slice x.A x.tl.length x.c, .slice x.B x.gl.length x.d]) fun e W' => ∃ (k1 : Int), e = .returned (.int .i64 k1) ∧ Q k1 W')
    (HK0 : ∀ (k1 : Int) W, Q k1 W → W.heap[w.heap.size + 1]? = some (.cells ans0 49 (0, 0)) ∧ W.heap[w.heap.size + 1 + 1]? = some (.cells ans0 49 (0, 0))) :
    Calls Tryz.prog 9 #[.pointer (some pb), .agg #[.int .i64 2, .int .i64 a, .int .i64 b, .int .i64 c, .int .u64 k, .slice VA vs.length vc, .slice WA ws.length wc, .int .i64 s.1, .bool s.2, .int .i64 g.1, .int .i64 g.2.1, .int .i64 g.2.2.1, .int .u64 g.2.2.2, .slice x.A x.tl.length x.c, .slice x.B x.gl.length x.d]] w fun e W' => ∃ (k1 : Int), e = .returned (.agg #[.int .i64 0, nilS, .int .i64 k1]) ∧ ∃ W1, Q k1 W1 ∧ ∃ l : List (Nat × Nat × Value), (∀ t ∈ l, t.1 = w.heap.size + 1 ∨ t.1 = w.heap.size + 1 + 1) ∧ W' = l.foldl (fun W t => W.setCell ⟨t.1, t.2.1, none⟩ t.2.2) W1 := by
  obtain ⟨k0, _, _, _, _⟩ := w3_facts w #[.int .i64 2, .int .i64 a, .int .i64 b, .int .i64 c, .int .u64 k, .slice VA vs.length vc, .slice WA ws.length wc, .int .i64 s.1, .bool s.2, .int .i64 g.1, .int .i64 g.2.1, .int .i64 g.2.2.1, .int .u64 g.2.2.2, .slice x.A x.tl.length x.c, .slice x.B x.gl.length x.d]
  unfold W3 at HN0 k0
  have q0 : World.cell? _ ⟨w.heap.size, 0, none⟩ = some (.int .i64 2) := cell_in k0
  have q13 : World.cell? _ ⟨w.heap.size, 13, none⟩ = some (.slice x.A x.tl.length x.c) := cell_in k0
  have q14 : World.cell? _ ⟨w.heap.size, 14, none⟩ = some (.slice x.B x.gl.length x.d) := cell_in k0
  have HN := Lib.hid HN0
  have HK := Lib.hid HK0
  clear HN0 HK0 k0
  go_enter Tryz.func9, Tryz.ntmps9
  go_wp2_with (go_at_call 28; refine HN.out.mono ?_; rintro e w1 ⟨k1, rfl, hq⟩; have hk := HK.out _ _ hq; obtain ⟨c0, c1, c2, f0, f1, f2⟩ := box_facts hk.2; obtain ⟨d0, d1, d2, z0, z1, z2⟩ := box_facts hk.1; have HQ := Lib.hid hq; clear hq hk)
  refine bodyPost_ret (v := .agg #[.int .i64 0, nilS, .int .i64 k1]) ?_ rfl ⟨k1, rfl, w1, HQ.out, [(w.heap.size + 1 + 1, 2, .int .i64 k1), (w.heap.size + 1, 0, .int .i64 0), (w.heap.size + 1, 1, nilS), (w.heap.size + 1, 2, .int .i64 k1)], by simp, rfl⟩
  · rw [results_cell_tmp1 rfl]
    go_simp
set_option maxHeartbeats 1000000 in
set_option maxRecDepth 100000 in
theorem do_3 (pb : Addr) (a b c k : Int) (vs ws : List Int) (s : Slo) (g : Gat) (x : Exi) (VA WA : Option Addr) (vc wc : Nat) (w : World) (Q : Value → Int → World → Prop)
    (HN0 : Calls Tryz.prog 29 #[.pointer (some pb), .int .u64 k] (W3 w #[.int .i64 3, .int .i64 a, .int .i64 b, .int .i64 c, .int .u64 k, .slice VA vs.length vc, .slice WA ws.length wc, .int .i64 s.1, .bool s.2, .int .i64 g.1, .int .i64 g.2.1, .int .i64 g.2.2.1, .int .u64 g.2.2.2, .slice x.A x.tl.length x.c, .slice x.B x.gl.length x.d]) fun e W' => ∃ (x1 : Value) (k1 : Int), e = .returned (.tuple #[x1, .int .i64 k1]) ∧ (∃ z : Int, x1 = .int .i64 z) ∧ Q x1 k1 W')
    (HK0 : ∀ (x1 : Value) (k1 : Int) W, Q x1 k1 W → W.heap[w.heap.size + 1]? = some (.cells ans0 49 (0, 0)) ∧ W.heap[w.heap.size + 1 + 1]? = some (.cells ans0 49 (0, 0))) :
    Calls Tryz.prog 9 #[.pointer (some pb), .agg #[.int .i64 3, .int .i64 a, .int .i64 b, .int .i64 c, .int .u64 k, .slice VA vs.length vc, .slice WA ws.length wc, .int .i64 s.1, .bool s.2, .int .i64 g.1, .int .i64 g.2.1, .int .i64 g.2.2.1, .int .u64 g.2.2.2, .slice x.A x.tl.length x.c, .slice x.B x.gl.length x.d]] w fun e W' => ∃ (x1 : Value) (k1 : Int), e = .returned (.agg #[x1, nilS, .int .i64 k1]) ∧ ∃ W1, Q x1 k1 W1 ∧ ∃ l : List (Nat × Nat × Value), (∀ t ∈ l, t.1 = w.heap.size + 1 ∨ t.1 = w.heap.size + 1 + 1) ∧ W' = l.foldl (fun W t => W.setCell ⟨t.1, t.2.1, none⟩ t.2.2) W1 := by
  obtain ⟨k0, _, _, _, _⟩ := w3_facts w #[.int .i64 3, .int .i64 a, .int .i64 b, .int .i64 c, .int .u64 k, .slice VA vs.length vc, .slice WA ws.length wc, .int .i64 s.1, .bool s.2, .int .i64 g.1, .int .i64 g.2.1, .int .i64 g.2.2.1, .int .u64 g.2.2.2, .slice x.A x.tl.length x.c, .slice x.B x.gl.length x.d]
  unfold W3 at HN0 k0
  have q0 : World.cell? _ ⟨w.heap.size, 0, none⟩ = some (.int .i64 3) := cell_in k0
  have q4 : World.cell? _ ⟨w.heap.size, 4, none⟩ = some (.int .u64 k) := cell_in k0
  have HN := Lib.hid HN0
  have HK := Lib.hid HK0
  clear HN0 HK0 k0
  go_enter Tryz.func9, Tryz.ntmps9
  go_wp2_with (go_at_call 29; refine HN.out.mono ?_; rintro e w1 ⟨x1, k1, rfl, ⟨z, rfl⟩, hq⟩; have hk := HK.out _ _ _ hq; obtain ⟨c0, c1, c2, f0, f1, f2⟩ := box_facts hk.2; obtain ⟨d0, d1, d2, z0, z1, z2⟩ := box_facts hk.1; have HQ := Lib.hid hq; clear hq hk)
  refine bodyPost_ret (v := .agg #[.int .i64 z, nilS, .int .i64 k1]) ?_ rfl ⟨_, k1, rfl, w1, HQ.out, [(w.heap.size + 1 + 1, 0, .int .i64 z), (w.heap.size + 1 + 1, 2, .int .i64 k1), (w.heap.size + 1, 0, .int .i64 z), (w.heap.size + 1, 1, nilS), (w.heap.size + 1, 2, .int .i64 k1)], by simp, rfl⟩
  · rw [results_cell_tmp1 rfl]
    go_simp
set_option maxHeartbeats 1000000 in
set_option maxRecDepth 100000 in
theorem do_4 (pb : Addr) (a b c k : Int) (vs ws : List Int) (s : Slo) (g : Gat) (x : Exi) (VA WA : Option Addr) (vc wc : Nat) (w : World) (Q : Value → Int → World → Prop)
    (HN0 : Calls Tryz.prog 30 #[.pointer (some pb), .int .i64 a] (W3 w #[.int .i64 4, .int .i64 a, .int .i64 b, .int .i64 c, .int .u64 k, .slice VA vs.length vc, .slice WA ws.length wc, .int .i64 s.1, .bool s.2, .int .i64 g.1, .int .i64 g.2.1, .int .i64 g.2.2.1, .int .u64 g.2.2.2, .slice x.A x.tl.length x.c, .slice x.B x.gl.length x.d]) fun e W' => ∃ (x1 : Value) (k1 : Int), e = .returned (.tuple #[x1, .int .i64 k1]) ∧ (∃ z : Int, x1 = .int .i64 z) ∧ Q x1 k1 W')
    (HK0 : ∀ (x1 : Value) (k1 : Int) W, Q x1 k1 W → W.heap[w.heap.size + 1]? = some (.cells ans0 49 (0, 0)) ∧ W.heap[w.heap.size + 1 + 1]? = some (.cells ans0 49 (0, 0))) :
    Calls Tryz.prog 9 #[.pointer (some pb), .agg #[.int .i64 4, .int .i64 a, .int .i64 b, .int .i64 c, .int .u64 k, .slice VA vs.length vc, .slice WA ws.length wc, .int .i64 s.1, .bool s.2, .int .i64 g.1, .int .i64 g.2.1, .int .i64 g.2.2.1, .int .u64 g.2.2.2, .slice x.A x.tl.length x.c, .slice x.B x.gl.length x.d]] w fun e W' => ∃ (x1 : Value) (k1 : Int), e = .returned (.agg #[x1, nilS, .int .i64 k1]) ∧ ∃ W1, Q x1 k1 W1 ∧ ∃ l : List (Nat × Nat × Value), (∀ t ∈ l, t.1 = w.heap.size + 1 ∨ t.1 = w.heap.size + 1 + 1) ∧ W' = l.foldl (fun W t => W.setCell ⟨t.1, t.2.1, none⟩ t.2.2) W1 := by
  obtain ⟨k0, _, _, _, _⟩ := w3_facts w #[.int .i64 4, .int .i64 a, .int .i64 b, .int .i64 c, .int .u64 k, .slice VA vs.length vc, .slice WA ws.length wc, .int .i64 s.1, .bool s.2, .int .i64 g.1, .int .i64 g.2.1, .int .i64 g.2.2.1, .int .u64 g.2.2.2, .slice x.A x.tl.length x.c, .slice x.B x.gl.length x.d]
  unfold W3 at HN0 k0
  have q0 : World.cell? _ ⟨w.heap.size, 0, none⟩ = some (.int .i64 4) := cell_in k0
  have q1 : World.cell? _ ⟨w.heap.size, 1, none⟩ = some (.int .i64 a) := cell_in k0
  have HN := Lib.hid HN0
  have HK := Lib.hid HK0
  clear HN0 HK0 k0
  go_enter Tryz.func9, Tryz.ntmps9
  go_wp2_with (go_at_call 30; refine HN.out.mono ?_; rintro e w1 ⟨x1, k1, rfl, ⟨z, rfl⟩, hq⟩; have hk := HK.out _ _ _ hq; obtain ⟨c0, c1, c2, f0, f1, f2⟩ := box_facts hk.2; obtain ⟨d0, d1, d2, z0, z1, z2⟩ := box_facts hk.1; have HQ := Lib.hid hq; clear hq hk)
  refine bodyPost_ret (v := .agg #[.int .i64 z, nilS, .int .i64 k1]) ?_ rfl ⟨_, k1, rfl, w1, HQ.out, [(w.heap.size + 1 + 1, 0, .int .i64 z), (w.heap.size + 1 + 1, 2, .int .i64 k1), (w.heap.size + 1, 0, .int .i64 z), (w.heap.size + 1, 1, nilS), (w.heap.size + 1, 2, .int .i64 k1)], by simp, rfl⟩
  · rw [results_cell_tmp1 rfl]
    go_simp
set_option maxHeartbeats 1000000 in
set_option maxRecDepth 100000 in
theorem do_5 (pb : Addr) (a b c k : Int) (vs ws : List Int) (s : Slo) (g : Gat) (x : Exi) (VA WA : Option Addr) (vc wc : Nat) (w : World) (Q : Value → Int → World → Prop)
    (HN0 : Calls Tryz.prog 31 #[.pointer (some pb), .int .i64 a, .int .i64 b] (W3 w #[.int .i64 5, .int .i64 a, .int .i64 b, .int .i64 c, .int .u64 k, .slice VA vs.length vc, .slice WA ws.length wc, .int .i64 s.1, .bool s.2, .int .i64 g.1, .int .i64 g.2.1, .int .i64 g.2.2.1, .int .u64 g.2.2.2, .slice x.A x.tl.length x.c, .slice x.B x.gl.length x.d]) fun e W' => ∃ (x1 : Value) (k1 : Int), e = .returned (.tuple #[x1, .int .i64 k1]) ∧ (∃ z : Int, x1 = .int .i64 z) ∧ Q x1 k1 W')
    (HK0 : ∀ (x1 : Value) (k1 : Int) W, Q x1 k1 W → W.heap[w.heap.size + 1]? = some (.cells ans0 49 (0, 0)) ∧ W.heap[w.heap.size + 1 + 1]? = some (.cells ans0 49 (0, 0))) :
    Calls Tryz.prog 9 #[.pointer (some pb), .agg #[.int .i64 5, .int .i64 a, .int .i64 b, .int .i64 c, .int .u64 k, .slice VA vs.length vc, .slice WA ws.length wc, .int .i64 s.1, .bool s.2, .int .i64 g.1, .int .i64 g.2.1, .int .i64 g.2.2.1, .int .u64 g.2.2.2, .slice x.A x.tl.length x.c, .slice x.B x.gl.length x.d]] w fun e W' => ∃ (x1 : Value) (k1 : Int), e = .returned (.agg #[x1, nilS, .int .i64 k1]) ∧ ∃ W1, Q x1 k1 W1 ∧ ∃ l : List (Nat × Nat × Value), (∀ t ∈ l, t.1 = w.heap.size + 1 ∨ t.1 = w.heap.size + 1 + 1) ∧ W' = l.foldl (fun W t => W.setCell ⟨t.1, t.2.1, none⟩ t.2.2) W1 := by
  obtain ⟨k0, _, _, _, _⟩ := w3_facts w #[.int .i64 5, .int .i64 a, .int .i64 b, .int .i64 c, .int .u64 k, .slice VA vs.length vc, .slice WA ws.length wc, .int .i64 s.1, .bool s.2, .int .i64 g.1, .int .i64 g.2.1, .int .i64 g.2.2.1, .int .u64 g.2.2.2, .slice x.A x.tl.length x.c, .slice x.B x.gl.length x.d]
  unfold W3 at HN0 k0
  have q0 : World.cell? _ ⟨w.heap.size, 0, none⟩ = some (.int .i64 5) := cell_in k0
  have q1 : World.cell? _ ⟨w.heap.size, 1, none⟩ = some (.int .i64 a) := cell_in k0
  have q2 : World.cell? _ ⟨w.heap.size, 2, none⟩ = some (.int .i64 b) := cell_in k0
  have HN := Lib.hid HN0
  have HK := Lib.hid HK0
  clear HN0 HK0 k0
  go_enter Tryz.func9, Tryz.ntmps9
  go_wp2_with (go_at_call 31; refine HN.out.mono ?_; rintro e w1 ⟨x1, k1, rfl, ⟨z, rfl⟩, hq⟩; have hk := HK.out _ _ _ hq; obtain ⟨c0, c1, c2, f0, f1, f2⟩ := box_facts hk.2; obtain ⟨d0, d1, d2, z0, z1, z2⟩ := box_facts hk.1; have HQ := Lib.hid hq; clear hq hk)
  refine bodyPost_ret (v := .agg #[.int .i64 z, nilS, .int .i64 k1]) ?_ rfl ⟨_, k1, rfl, w1, HQ.out, [(w.heap.size + 1 + 1, 0, .int .i64 z), (w.heap.size + 1 + 1, 2, .int .i64 k1), (w.heap.size + 1, 0, .int .i64 z), (w.heap.size + 1, 1, nilS), (w.heap.size + 1, 2, .int .i64 k1)], by simp, rfl⟩
  · rw [results_cell_tmp1 rfl]
    go_simp
set_option maxHeartbeats 1000000 in
set_option maxRecDepth 100000 in
theorem do_6 (pb : Addr) (a b c k : Int) (vs ws : List Int) (s : Slo) (g : Gat) (x : Exi) (VA WA : Option Addr) (vc wc : Nat) (w : World) (Q : Value → Int → World → Prop)
    (HN0 : Calls Tryz.prog 32 #[.pointer (some pb), .int .i64 a, .int .i64 b] (W3 w #[.int .i64 6, .int .i64 a, .int .i64 b, .int .i64 c, .int .u64 k, .slice VA vs.length vc, .slice WA ws.length wc, .int .i64 s.1, .bool s.2, .int .i64 g.1, .int .i64 g.2.1, .int .i64 g.2.2.1, .int .u64 g.2.2.2, .slice x.A x.tl.length x.c, .slice x.B x.gl.length x.d]) fun e W' => ∃ (x1 : Value) (k1 : Int), e = .returned (.tuple #[x1, .int .i64 k1]) ∧ (∃ z : Int, x1 = .int .i64 z) ∧ Q x1 k1 W')
    (HK0 : ∀ (x1 : Value) (k1 : Int) W, Q x1 k1 W → W.heap[w.heap.size + 1]? = some (.cells ans0 49 (0, 0)) ∧ W.heap[w.heap.size + 1 + 1]? = some (.cells ans0 49 (0, 0))) :
    Calls Tryz.prog 9 #[.pointer (some pb), .agg #[.int .i64 6, .int .i64 a, .int .i64 b, .int .i64 c, .int .u64 k, .slice VA vs.length vc, .slice WA ws.length wc, .int .i64 s.1, .bool s.2, .int .i64 g.1, .int .i64 g.2.1, .int .i64 g.2.2.1, .int .u64 g.2.2.2, .slice x.A x.tl.length x.c, .slice x.B x.gl.length x.d]] w fun e W' => ∃ (x1 : Value) (k1 : Int), e = .returned (.agg #[x1, nilS, .int .i64 k1]) ∧ ∃ W1, Q x1 k1 W1 ∧ ∃ l : List (Nat × Nat × Value), (∀ t ∈ l, t.1 = w.heap.size + 1 ∨ t.1 = w.heap.size + 1 + 1) ∧ W' = l.foldl (fun W t => W.setCell ⟨t.1, t.2.1, none⟩ t.2.2) W1 := by
  obtain ⟨k0, _, _, _, _⟩ := w3_facts w #[.int .i64 6, .int .i64 a, .int .i64 b, .int .i64 c, .int .u64 k, .slice VA vs.length vc, .slice WA ws.length wc, .int .i64 s.1, .bool s.2, .int .i64 g.1, .int .i64 g.2.1, .int .i64 g.2.2.1, .int .u64 g.2.2.2, .slice x.A x.tl.length x.c, .slice x.B x.gl.length x.d]
  unfold W3 at HN0 k0
  have q0 : World.cell? _ ⟨w.heap.size, 0, none⟩ = some (.int .i64 6) := cell_in k0
  have q1 : World.cell? _ ⟨w.heap.size, 1, none⟩ = some (.int .i64 a) := cell_in k0
  have q2 : World.cell? _ ⟨w.heap.size, 2, none⟩ = some (.int .i64 b) := cell_in k0
  have HN := Lib.hid HN0
  have HK := Lib.hid HK0
  clear HN0 HK0 k0
  go_enter Tryz.func9, Tryz.ntmps9
  go_wp2_with (go_at_call 32; refine HN.out.mono ?_; rintro e w1 ⟨x1, k1, rfl, ⟨z, rfl⟩, hq⟩; have hk := HK.out _ _ _ hq; obtain ⟨c0, c1, c2, f0, f1, f2⟩ := box_facts hk.2; obtain ⟨d0, d1, d2, z0, z1, z2⟩ := box_facts hk.1; have HQ := Lib.hid hq; clear hq hk)
  refine bodyPost_ret (v := .agg #[.int .i64 z, nilS, .int .i64 k1]) ?_ rfl ⟨_, k1, rfl, w1, HQ.out, [(w.heap.size + 1 + 1, 0, .int .i64 z), (w.heap.size + 1 + 1, 2, .int .i64 k1), (w.heap.size + 1, 0, .int .i64 z), (w.heap.size + 1, 1, nilS), (w.heap.size + 1, 2, .int .i64 k1)], by simp, rfl⟩
  · rw [results_cell_tmp1 rfl]
    go_simp
set_option maxHeartbeats 1000000 in
set_option maxRecDepth 100000 in
theorem do_7 (pb : Addr) (a b c k : Int) (vs ws : List Int) (s : Slo) (g : Gat) (x : Exi) (VA WA : Option Addr) (vc wc : Nat) (w : World) (Q : Value → Int → World → Prop)
    (HN0 : Calls Tryz.prog 33 #[.pointer (some pb), .int .i64 a, .int .i64 b] (W3 w #[.int .i64 7, .int .i64 a, .int .i64 b, .int .i64 c, .int .u64 k, .slice VA vs.length vc, .slice WA ws.length wc, .int .i64 s.1, .bool s.2, .int .i64 g.1, .int .i64 g.2.1, .int .i64 g.2.2.1, .int .u64 g.2.2.2, .slice x.A x.tl.length x.c, .slice x.B x.gl.length x.d]) fun e W' => ∃ (x1 : Value) (k1 : Int), e = .returned (.tuple #[x1, .int .i64 k1]) ∧ (∃ z : Int, x1 = .int .i64 z) ∧ Q x1 k1 W')
    (HK0 : ∀ (x1 : Value) (k1 : Int) W, Q x1 k1 W → W.heap[w.heap.size + 1]? = some (.cells ans0 49 (0, 0)) ∧ W.heap[w.heap.size + 1 + 1]? = some (.cells ans0 49 (0, 0))) :
    Calls Tryz.prog 9 #[.pointer (some pb), .agg #[.int .i64 7, .int .i64 a, .int .i64 b, .int .i64 c, .int .u64 k, .slice VA vs.length vc, .slice WA ws.length wc, .int .i64 s.1, .bool s.2, .int .i64 g.1, .int .i64 g.2.1, .int .i64 g.2.2.1, .int .u64 g.2.2.2, .slice x.A x.tl.length x.c, .slice x.B x.gl.length x.d]] w fun e W' => ∃ (x1 : Value) (k1 : Int), e = .returned (.agg #[x1, nilS, .int .i64 k1]) ∧ ∃ W1, Q x1 k1 W1 ∧ ∃ l : List (Nat × Nat × Value), (∀ t ∈ l, t.1 = w.heap.size + 1 ∨ t.1 = w.heap.size + 1 + 1) ∧ W' = l.foldl (fun W t => W.setCell ⟨t.1, t.2.1, none⟩ t.2.2) W1 := by
  obtain ⟨k0, _, _, _, _⟩ := w3_facts w #[.int .i64 7, .int .i64 a, .int .i64 b, .int .i64 c, .int .u64 k, .slice VA vs.length vc, .slice WA ws.length wc, .int .i64 s.1, .bool s.2, .int .i64 g.1, .int .i64 g.2.1, .int .i64 g.2.2.1, .int .u64 g.2.2.2, .slice x.A x.tl.length x.c, .slice x.B x.gl.length x.d]
  unfold W3 at HN0 k0
  have q0 : World.cell? _ ⟨w.heap.size, 0, none⟩ = some (.int .i64 7) := cell_in k0
  have q1 : World.cell? _ ⟨w.heap.size, 1, none⟩ = some (.int .i64 a) := cell_in k0
  have q2 : World.cell? _ ⟨w.heap.size, 2, none⟩ = some (.int .i64 b) := cell_in k0
  have HN := Lib.hid HN0
  have HK := Lib.hid HK0
  clear HN0 HK0 k0
  go_enter Tryz.func9, Tryz.ntmps9
  go_wp2_with (go_at_call 33; refine HN.out.mono ?_; rintro e w1 ⟨x1, k1, rfl, ⟨z, rfl⟩, hq⟩; have hk := HK.out _ _ _ hq; obtain ⟨c0, c1, c2, f0, f1, f2⟩ := box_facts hk.2; obtain ⟨d0, d1, d2, z0, z1, z2⟩ := box_facts hk.1; have HQ := Lib.hid hq; clear hq hk)
  refine bodyPost_ret (v := .agg #[.int .i64 z, nilS, .int .i64 k1]) ?_ rfl ⟨_, k1, rfl, w1, HQ.out, [(w.heap.size + 1 + 1, 0, .int .i64 z), (w.heap.size + 1 + 1, 2, .int .i64 k1), (w.heap.size + 1, 0, .int .i64 z), (w.heap.size + 1, 1, nilS), (w.heap.size + 1, 2, .int .i64 k1)], by simp, rfl⟩
  · rw [results_cell_tmp1 rfl]
    go_simp
set_option maxHeartbeats 1000000 in
set_option maxRecDepth 100000 in
theorem do_8 (pb : Addr) (a b c k : Int) (vs ws : List Int) (s : Slo) (g : Gat) (x : Exi) (VA WA : Option Addr) (vc wc : Nat) (w : World) (Q : Value → Int → World → Prop)
    (HN0 : Calls Tryz.prog 34 #[.pointer (some pb), .int .i64 c, .int .i64 a, .int .i64 b] (W3 w #[.int .i64 8, .int .i64 a, .int .i64 b, .int .i64 c, .int .u64 k, .slice VA vs.length vc, .slice WA ws.length wc, .int .i64 s.1, .bool s.2, .int .i64 g.1, .int .i64 g.2.1, .int .i64 g.2.2.1, .int .u64 g.2.2.2, .slice x.A x.tl.length x.c, .slice x.B x.gl.length x.d]) fun e W' => ∃ (x1 : Value) (k1 : Int), e = .returned (.tuple #[x1, .int .i64 k1]) ∧ (∃ z : Int, x1 = .int .i64 z) ∧ Q x1 k1 W')
    (HK0 : ∀ (x1 : Value) (k1 : Int) W, Q x1 k1 W → W.heap[w.heap.size + 1]? = some (.cells ans0 49 (0, 0)) ∧ W.heap[w.heap.size + 1 + 1]? = some (.cells ans0 49 (0, 0))) :
    Calls Tryz.prog 9 #[.pointer (some pb), .agg #[.int .i64 8, .int .i64 a, .int .i64 b, .int .i64 c, .int .u64 k, .slice VA vs.length vc, .slice WA ws.length wc, .int .i64 s.1, .bool s.2, .int .i64 g.1, .int .i64 g.2.1, .int .i64 g.2.2.1, .int .u64 g.2.2.2, .slice x.A x.tl.length x.c, .slice x.B x.gl.length x.d]] w fun e W' => ∃ (x1 : Value) (k1 : Int), e = .returned (.agg #[x1, nilS, .int .i64 k1]) ∧ ∃ W1, Q x1 k1 W1 ∧ ∃ l : List (Nat × Nat × Value), (∀ t ∈ l, t.1 = w.heap.size + 1 ∨ t.1 = w.heap.size + 1 + 1) ∧ W' = l.foldl (fun W t => W.setCell ⟨t.1, t.2.1, none⟩ t.2.2) W1 := by
  obtain ⟨k0, _, _, _, _⟩ := w3_facts w #[.int .i64 8, .int .i64 a, .int .i64 b, .int .i64 c, .int .u64 k, .slice VA vs.length vc, .slice WA ws.length wc, .int .i64 s.1, .bool s.2, .int .i64 g.1, .int .i64 g.2.1, .int .i64 g.2.2.1, .int .u64 g.2.2.2, .slice x.A x.tl.length x.c, .slice x.B x.gl.length x.d]
  unfold W3 at HN0 k0
  have q0 : World.cell? _ ⟨w.heap.size, 0, none⟩ = some (.int .i64 8) := cell_in k0
  have q1 : World.cell? _ ⟨w.heap.size, 1, none⟩ = some (.int .i64 a) := cell_in k0
  have q2 : World.cell? _ ⟨w.heap.size, 2, none⟩ = some (.int .i64 b) := cell_in k0
  have q3 : World.cell? _ ⟨w.heap.size, 3, none⟩ = some (.int .i64 c) := cell_in k0
  have HN := Lib.hid HN0
  have HK := Lib.hid HK0
  clear HN0 HK0 k0
  go_enter Tryz.func9, Tryz.ntmps9
  go_wp2_with (go_at_call 34; refine HN.out.mono ?_; rintro e w1 ⟨x1, k1, rfl, ⟨z, rfl⟩, hq⟩; have hk := HK.out _ _ _ hq; obtain ⟨c0, c1, c2, f0, f1, f2⟩ := box_facts hk.2; obtain ⟨d0, d1, d2, z0, z1, z2⟩ := box_facts hk.1; have HQ := Lib.hid hq; clear hq hk)
  refine bodyPost_ret (v := .agg #[.int .i64 z, nilS, .int .i64 k1]) ?_ rfl ⟨_, k1, rfl, w1, HQ.out, [(w.heap.size + 1 + 1, 0, .int .i64 z), (w.heap.size + 1 + 1, 2, .int .i64 k1), (w.heap.size + 1, 0, .int .i64 z), (w.heap.size + 1, 1, nilS), (w.heap.size + 1, 2, .int .i64 k1)], by simp, rfl⟩
  · rw [results_cell_tmp1 rfl]
    go_simp
set_option maxHeartbeats 1000000 in
set_option maxRecDepth 100000 in
theorem do_9 (pb : Addr) (a b c k : Int) (vs ws : List Int) (s : Slo) (g : Gat) (x : Exi) (VA WA : Option Addr) (vc wc : Nat) (w : World) (Q : Value → Int → World → Prop)
    (HN0 : Calls Tryz.prog 35 #[.pointer (some pb), .slice VA vs.length vc] (W3 w #[.int .i64 9, .int .i64 a, .int .i64 b, .int .i64 c, .int .u64 k, .slice VA vs.length vc, .slice WA ws.length wc, .int .i64 s.1, .bool s.2, .int .i64 g.1, .int .i64 g.2.1, .int .i64 g.2.2.1, .int .u64 g.2.2.2, .slice x.A x.tl.length x.c, .slice x.B x.gl.length x.d]) fun e W' => ∃ (x1 : Value) (k1 : Int), e = .returned (.tuple #[x1, .int .i64 k1]) ∧ (∃ z : Int, x1 = .int .i64 z) ∧ Q x1 k1 W')
    (HK0 : ∀ (x1 : Value) (k1 : Int) W, Q x1 k1 W → W.heap[w.heap.size + 1]? = some (.cells ans0 49 (0, 0)) ∧ W.heap[w.heap.size + 1 + 1]? = some (.cells ans0 49 (0, 0))) :
    Calls Tryz.prog 9 #[.pointer (some pb), .agg #[.int .i64 9, .int .i64 a, .int .i64 b, .int .i64 c, .int .u64 k, .slice VA vs.length vc, .slice WA ws.length wc, .int .i64 s.1, .bool s.2, .int .i64 g.1, .int .i64 g.2.1, .int .i64 g.2.2.1, .int .u64 g.2.2.2, .slice x.A x.tl.length x.c, .slice x.B x.gl.length x.d]] w fun e W' => ∃ (x1 : Value) (k1 : Int), e = .returned (.agg #[x1, nilS, .int .i64 k1]) ∧ ∃ W1, Q x1 k1 W1 ∧ ∃ l : List (Nat × Nat × Value), (∀ t ∈ l, t.1 = w.heap.size + 1 ∨ t.1 = w.heap.size + 1 + 1) ∧ W' = l.foldl (fun W t => W.setCell ⟨t.1, t.2.1, none⟩ t.2.2) W1 := by
  obtain ⟨k0, _, _, _, _⟩ := w3_facts w #[.int .i64 9, .int .i64 a, .int .i64 b, .int .i64 c, .int .u64 k, .slice VA vs.length vc, .slice WA ws.length wc, .int .i64 s.1, .bool s.2, .int .i64 g.1, .int .i64 g.2.1, .int .i64 g.2.2.1, .int .u64 g.2.2.2, .slice x.A x.tl.length x.c, .slice x.B x.gl.length x.d]
  unfold W3 at HN0 k0
  have q0 : World.cell? _ ⟨w.heap.size, 0, none⟩ = some (.int .i64 9) := cell_in k0
  have q5 : World.cell? _ ⟨w.heap.size, 5, none⟩ = some (.slice VA vs.length vc) := cell_in k0
  have HN := Lib.hid HN0
  have HK := Lib.hid HK0
  clear HN0 HK0 k0
  go_enter Tryz.func9, Tryz.ntmps9
  go_wp2_with (go_at_call 35; refine HN.out.mono ?_; rintro e w1 ⟨x1, k1, rfl, ⟨z, rfl⟩, hq⟩; have hk := HK.out _ _ _ hq; obtain ⟨c0, c1, c2, f0, f1, f2⟩ := box_facts hk.2; obtain ⟨d0, d1, d2, z0, z1, z2⟩ := box_facts hk.1; have HQ := Lib.hid hq; clear hq hk)
  refine bodyPost_ret (v := .agg #[.int .i64 z, nilS, .int .i64 k1]) ?_ rfl ⟨_, k1, rfl, w1, HQ.out, [(w.heap.size + 1 + 1, 0, .int .i64 z), (w.heap.size + 1 + 1, 2, .int .i64 k1), (w.heap.size + 1, 0, .int .i64 z), (w.heap.size + 1, 1, nilS), (w.heap.size + 1, 2, .int .i64 k1)], by simp, rfl⟩
  · rw [results_cell_tmp1 rfl]
    go_simp
set_option maxHeartbeats 1000000 in
set_option maxRecDepth 100000 in
theorem do_10 (pb : Addr) (a b c k : Int) (vs ws : List Int) (s : Slo) (g : Gat) (x : Exi) (VA WA : Option Addr) (vc wc : Nat) (w : World) (Q : Value → Int → World → Prop)
    (HN0 : Calls Tryz.prog 12 #[.pointer (some pb), .slice VA vs.length vc, .slice WA ws.length wc] (W3 w #[.int .i64 10, .int .i64 a, .int .i64 b, .int .i64 c, .int .u64 k, .slice VA vs.length vc, .slice WA ws.length wc, .int .i64 s.1, .bool s.2, .int .i64 g.1, .int .i64 g.2.1, .int .i64 g.2.2.1, .int .u64 g.2.2.2, .slice x.A x.tl.length x.c, .slice x.B x.gl.length x.d]) fun e W' => ∃ (x1 : Value) (k1 : Int), e = .returned (.tuple #[x1, .int .i64 k1]) ∧ (∃ A n m, x1 = .slice A n m) ∧ Q x1 k1 W')
    (HK0 : ∀ (x1 : Value) (k1 : Int) W, Q x1 k1 W → W.heap[w.heap.size + 1]? = some (.cells ans0 49 (0, 0)) ∧ W.heap[w.heap.size + 1 + 1]? = some (.cells ans0 49 (0, 0))) :
    Calls Tryz.prog 9 #[.pointer (some pb), .agg #[.int .i64 10, .int .i64 a, .int .i64 b, .int .i64 c, .int .u64 k, .slice VA vs.length vc, .slice WA ws.length wc, .int .i64 s.1, .bool s.2, .int .i64 g.1, .int .i64 g.2.1, .int .i64 g.2.2.1, .int .u64 g.2.2.2, .slice x.A x.tl.length x.c, .slice x.B x.gl.length x.d]] w fun e W' => ∃ (x1 : Value) (k1 : Int), e = .returned (.agg #[.int .i64 0, x1, .int .i64 k1]) ∧ ∃ W1, Q x1 k1 W1 ∧ ∃ l : List (Nat × Nat × Value), (∀ t ∈ l, t.1 = w.heap.size + 1 ∨ t.1 = w.heap.size + 1 + 1) ∧ W' = l.foldl (fun W t => W.setCell ⟨t.1, t.2.1, none⟩ t.2.2) W1 := by
  obtain ⟨k0, _, _, _, _⟩ := w3_facts w #[.int .i64 10, .int .i64 a, .int .i64 b, .int .i64 c, .int .u64 k, .slice VA vs.length vc, .slice WA ws.length wc, .int .i64 s.1, .bool s.2, .int .i64 g.1, .int .i64 g.2.1, .int .i64 g.2.2.1, .int .u64 g.2.2.2, .slice x.A x.tl.length x.c, .slice x.B x.gl.length x.d]
  unfold W3 at HN0 k0
  have q0 : World.cell? _ ⟨w.heap.size, 0, none⟩ = some (.int .i64 10) := cell_in k0
  have q5 : World.cell? _ ⟨w.heap.size, 5, none⟩ = some (.slice VA vs.length vc) := cell_in k0
  have q6 : World.cell? _ ⟨w.heap.size, 6, none⟩ = some (.slice WA ws.length wc) := cell_in k0
  have HN := Lib.hid HN0
  have HK := Lib.hid HK0
  clear HN0 HK0 k0
  go_enter Tryz.func9, Tryz.ntmps9
  go_wp2_with (go_at_call 12; refine HN.out.mono ?_; rintro e w1 ⟨x1, k1, rfl, ⟨A0, n0, m0, rfl⟩, hq⟩; have hk := HK.out _ _ _ hq; obtain ⟨c0, c1, c2, f0, f1, f2⟩ := box_facts hk.2; obtain ⟨d0, d1, d2, z0, z1, z2⟩ := box_facts hk.1; have HQ := Lib.hid hq; clear hq hk)
  refine bodyPost_ret (v := .agg #[.int .i64 0, .slice A0 n0 m0, .int .i64 k1]) ?_ rfl ⟨_, k1, rfl, w1, HQ.out, [(w.heap.size + 1 + 1, 1, .slice A0 n0 m0), (w.heap.size + 1 + 1, 2, .int .i64 k1), (w.heap.size + 1, 0, .int .i64 0), (w.heap.size + 1, 1, .slice A0 n0 m0), (w.heap.size + 1, 2, .int .i64 k1)], by simp, rfl⟩
  · rw [results_cell_tmp1 rfl]
    go_simp
set_option maxHeartbeats 1000000 in
set_option maxRecDepth 100000 in
theorem do_11 (pb : Addr) (a b c k : Int) (vs ws : List Int) (s : Slo) (g : Gat) (x : Exi) (VA WA : Option Addr) (vc wc : Nat) (w : World) (Q : Value → Int → World → Prop)
    (HN0 : Calls Tryz.prog 14 #[.pointer (some pb), .slice VA vs.length vc, .slice WA ws.length wc] (W3 w #[.int .i64 11, .int .i64 a, .int .i64 b, .int .i64 c, .int .u64 k, .slice VA vs.length vc, .slice WA ws.length wc, .int .i64 s.1, .bool s.2, .int .i64 g.1, .int .i64 g.2.1, .int .i64 g.2.2.1, .int .u64 g.2.2.2, .slice x.A x.tl.length x.c, .slice x.B x.gl.length x.d]) fun e W' => ∃ (x1 : Value) (k1 : Int), e = .returned (.tuple #[x1, .int .i64 k1]) ∧ (∃ A n m, x1 = .slice A n m) ∧ Q x1 k1 W')
    (HK0 : ∀ (x1 : Value) (k1 : Int) W, Q x1 k1 W → W.heap[w.heap.size + 1]? = some (.cells ans0 49 (0, 0)) ∧ W.heap[w.heap.size + 1 + 1]? = some (.cells ans0 49 (0, 0))) :
    Calls Tryz.prog 9 #[.pointer (some pb), .agg #[.int .i64 11, .int .i64 a, .int .i64 b, .int .i64 c, .int .u64 k, .slice VA vs.length vc, .slice WA ws.length wc, .int .i64 s.1, .bool s.2, .int .i64 g.1, .int .i64 g.2.1, .int .i64 g.2.2.1, .int .u64 g.2.2.2, .slice x.A x.tl.length x.c, .slice x.B x.gl.length x.d]] w fun e W' => ∃ (x1 : Value) (k1 : Int), e = .returned (.agg #[.int .i64 0, x1, .int .i64 k1]) ∧ ∃ W1, Q x1 k1 W1 ∧ ∃ l : List (Nat × Nat × Value), (∀ t ∈ l, t.1 = w.heap.size + 1 ∨ t.1 = w.heap.size + 1 + 1) ∧ W' = l.foldl (fun W t => W.setCell ⟨t.1, t.2.1, none⟩ t.2.2) W1 := by
  obtain ⟨k0, _, _, _, _⟩ := w3_facts w #[.int .i64 11, .int .i64 a, .int .i64 b, .int .i64 c, .int .u64 k, .slice VA vs.length vc, .slice WA ws.length wc, .int .i64 s.1, .bool s.2, .int .i64 g.1, .int .i64 g.2.1, .int .i64 g.2.2.1, .int .u64 g.2.2.2, .slice x.A x.tl.length x.c, .slice x.B x.gl.length x.d]
  unfold W3 at HN0 k0
  have q0 : World.cell? _ ⟨w.heap.size, 0, none⟩ = some (.int .i64 11) := cell_in k0
  have q5 : World.cell? _ ⟨w.heap.size, 5, none⟩ = some (.slice VA vs.length vc) := cell_in k0
  have q6 : World.cell? _ ⟨w.heap.size, 6, none⟩ = some (.slice WA ws.length wc) := cell_in k0
  have HN := Lib.hid HN0
  have HK := Lib.hid HK0
  clear HN0 HK0 k0
  go_enter Tryz.func9, Tryz.ntmps9
  go_wp2_with (go_at_call 14; refine HN.out.mono ?_; rintro e w1 ⟨x1, k1, rfl, ⟨A0, n0, m0, rfl⟩, hq⟩; have hk := HK.out _ _ _ hq; obtain ⟨c0, c1, c2, f0, f1, f2⟩ := box_facts hk.2; obtain ⟨d0, d1, d2, z0, z1, z2⟩ := box_facts hk.1; have HQ := Lib.hid hq; clear hq hk)
  refine bodyPost_ret (v := .agg #[.int .i64 0, .slice A0 n0 m0, .int .i64 k1]) ?_ rfl ⟨_, k1, rfl, w1, HQ.out, [(w.heap.size + 1 + 1, 1, .slice A0 n0 m0), (w.heap.size + 1 + 1, 2, .int .i64 k1), (w.heap.size + 1, 0, .int .i64 0), (w.heap.size + 1, 1, .slice A0 n0 m0), (w.heap.size + 1, 2, .int .i64 k1)], by simp, rfl⟩
  · rw [results_cell_tmp1 rfl]
    go_simp
set_option maxHeartbeats 1000000 in
set_option maxRecDepth 100000 in
theorem do_12 (pb : Addr) (a b c k : Int) (vs ws : List Int) (s : Slo) (g : Gat) (x : Exi) (VA WA : Option Addr) (vc wc : Nat) (w : World) (Q : Value → Int → World → Prop)
    (HN0 : Calls Tryz.prog 15 #[.pointer (some pb), .slice VA vs.length vc, .slice WA ws.length wc] (W3 w #[.int .i64 12, .int .i64 a, .int .i64 b, .int .i64 c, .int .u64 k, .slice VA vs.length vc, .slice WA ws.length wc, .int .i64 s.1, .bool s.2, .int .i64 g.1, .int .i64 g.2.1, .int .i64 g.2.2.1, .int .u64 g.2.2.2, .slice x.A x.tl.length x.c, .slice x.B x.gl.length x.d]) fun e W' => ∃ (x1 : Value) (k1 : Int), e = .returned (.tuple #[x1, .int .i64 k1]) ∧ (∃ A n m, x1 = .slice A n m) ∧ Q x1 k1 W')
    (HK0 : ∀ (x1 : Value) (k1 : Int) W, Q x1 k1 W → W.heap[w.heap.size + 1]? = some (.cells ans0 49 (0, 0)) ∧ W.heap[w.heap.size + 1 + 1]? = some (.cells ans0 49 (0, 0))) :
    Calls Tryz.prog 9 #[.pointer (some pb), .agg #[.int .i64 12, .int .i64 a, .int .i64 b, .int .i64 c, .int .u64 k, .slice VA vs.length vc, .slice WA ws.length wc, .int .i64 s.1, .bool s.2, .int .i64 g.1, .int .i64 g.2.1, .int .i64 g.2.2.1, .int .u64 g.2.2.2, .slice x.A x.tl.length x.c, .slice x.B x.gl.length x.d]] w fun e W' => ∃ (x1 : Value) (k1 : Int), e = .returned (.agg #[.int .i64 0, x1, .int .i64 k1]) ∧ ∃ W1, Q x1 k1 W1 ∧ ∃ l : List (Nat × Nat × Value), (∀ t ∈ l, t.1 = w.heap.size + 1 ∨ t.1 = w.heap.size + 1 + 1) ∧ W' = l.foldl (fun W t => W.setCell ⟨t.1, t.2.1, none⟩ t.2.2) W1 := by
  obtain ⟨k0, _, _, _, _⟩ := w3_facts w #[.int .i64 12, .int .i64 a, .int .i64 b, .int .i64 c, .int .u64 k, .slice VA vs.length vc, .slice WA ws.length wc, .int .i64 s.1, .bool s.2, .int .i64 g.1, .int .i64 g.2.1, .int .i64 g.2.2.1, .int .u64 g.2.2.2, .slice x.A x.tl.length x.c, .slice x.B x.gl.length x.d]
  unfold W3 at HN0 k0
  have q0 : World.cell? _ ⟨w.heap.size, 0, none⟩ = some (.int .i64 12) := cell_in k0
  have q5 : World.cell? _ ⟨w.heap.size, 5, none⟩ = some (.slice VA vs.length vc) := cell_in k0
  have q6 : World.cell? _ ⟨w.heap.size, 6, none⟩ = some (.slice WA ws.length wc) := cell_in k0
  have HN := Lib.hid HN0
  have HK := Lib.hid HK0
  clear HN0 HK0 k0
  go_enter Tryz.func9, Tryz.ntmps9
  go_wp2_with (go_at_call 15; refine HN.out.mono ?_; rintro e w1 ⟨x1, k1, rfl, ⟨A0, n0, m0, rfl⟩, hq⟩; have hk := HK.out _ _ _ hq; obtain ⟨c0, c1, c2, f0, f1, f2⟩ := box_facts hk.2; obtain ⟨d0, d1, d2, z0, z1, z2⟩ := box_facts hk.1; have HQ := Lib.hid hq; clear hq hk)
  refine bodyPost_ret (v := .agg #[.int .i64 0, .slice A0 n0 m0, .int .i64 k1]) ?_ rfl ⟨_, k1, rfl, w1, HQ.out, [(w.heap.size + 1 + 1, 1, .slice A0 n0 m0), (w.heap.size + 1 + 1, 2, .int .i64 k1), (w.heap.size + 1, 0, .int .i64 0), (w.heap.size + 1, 1, .slice A0 n0 m0), (w.heap.size + 1, 2, .int .i64 k1)], by simp, rfl⟩
  · rw [results_cell_tmp1 rfl]
    go_simp
set_option maxHeartbeats 1000000 in
set_option maxRecDepth 100000 in
theorem do_13 (pb : Addr) (a b c k : Int) (vs ws : List Int) (s : Slo) (g : Gat) (x : Exi) (VA WA : Option Addr) (vc wc : Nat) (w : World) (Q : Value → Int → World → Prop)
    (HN0 : Calls Tryz.prog 36 #[.pointer (some pb), .slice VA vs.length vc, .slice WA ws.length wc] (W3 w #[.int .i64 13, .int .i64 a, .int .i64 b, .int .i64 c, .int .u64 k, .slice VA vs.length vc, .slice WA ws.length wc, .int .i64 s.1, .bool s.2, .int .i64 g.1, .int .i64 g.2.1, .int .i64 g.2.2.1, .int .u64 g.2.2.2, .slice x.A x.tl.length x.c, .slice x.B x.gl.length x.d]) fun e W' => ∃ (x1 : Value) (k1 : Int), e = .returned (.tuple #[x1, .int .i64 k1]) ∧ (∃ z : Int, x1 = .int .i64 z) ∧ Q x1 k1 W')
    (HK0 : ∀ (x1 : Value) (k1 : Int) W, Q x1 k1 W → W.heap[w.heap.size + 1]? = some (.cells ans0 49 (0, 0)) ∧ W.heap[w.heap.size + 1 + 1]? = some (.cells ans0 49 (0, 0))) :
    Calls Tryz.prog 9 #[.pointer (some pb), .agg #[.int .i64 13, .int .i64 a, .int .i64 b, .int .i64 c, .int .u64 k, .slice VA vs.length vc, .slice WA ws.length wc, .int .i64 s.1, .bool s.2, .int .i64 g.1, .int .i64 g.2.1, .int .i64 g.2.2.1, .int .u64 g.2.2.2, .slice x.A x.tl.length x.c, .slice x.B x.gl.length x.d]] w fun e W' => ∃ (x1 : Value) (k1 : Int), e = .returned (.agg #[x1, nilS, .int .i64 k1]) ∧ ∃ W1, Q x1 k1 W1 ∧ ∃ l : List (Nat × Nat × Value), (∀ t ∈ l, t.1 = w.heap.size + 1 ∨ t.1 = w.heap.size + 1 + 1) ∧ W' = l.foldl (fun W t => W.setCell ⟨t.1, t.2.1, none⟩ t.2.2) W1 := by
  obtain ⟨k0, _, _, _, _⟩ := w3_facts w #[.int .i64 13, .int .i64 a, .int .i64 b, .int .i64 c, .int .u64 k, .slice VA vs.length vc, .slice WA ws.length wc, .int .i64 s.1, .bool s.2, .int .i64 g.1, .int .i64 g.2.1, .int .i64 g.2.2.1, .int .u64 g.2.2.2, .slice x.A x.tl.length x.c, .slice x.B x.gl.length x.d]
  unfold W3 at HN0 k0
  have q0 : World.cell? _ ⟨w.heap.size, 0, none⟩ = some (.int .i64 13) := cell_in k0
  have q5 : World.cell? _ ⟨w.heap.size, 5, none⟩ = some (.slice VA vs.length vc) := cell_in k0
  have q6 : World.cell? _ ⟨w.heap.size, 6, none⟩ = some (.slice WA ws.length wc) := cell_in k0
  have HN := Lib.hid HN0
  have HK := Lib.hid HK0
  clear HN0 HK0 k0
  go_enter Tryz.func9, Tryz.ntmps9
  go_wp2_with (go_at_call 36; refine HN.out.mono ?_; rintro e w1 ⟨x1, k1, rfl, ⟨z, rfl⟩, hq⟩; have hk := HK.out _ _ _ hq; obtain ⟨c0, c1, c2, f0, f1, f2⟩ := box_facts hk.2; obtain ⟨d0, d1, d2, z0, z1, z2⟩ := box_facts hk.1; have HQ := Lib.hid hq; clear hq hk)
  refine bodyPost_ret (v := .agg #[.int .i64 z, nilS, .int .i64 k1]) ?_ rfl ⟨_, k1, rfl, w1, HQ.out, [(w.heap.size + 1 + 1, 0, .int .i64 z), (w.heap.size + 1 + 1, 2, .int .i64 k1), (w.heap.size + 1, 0, .int .i64 z), (w.heap.size + 1, 1, nilS), (w.heap.size + 1, 2, .int .i64 k1)], by simp, rfl⟩
  · rw [results_cell_tmp1 rfl]
    go_simp
set_option maxHeartbeats 1000000 in
set_option maxRecDepth 100000 in
theorem do_14 (pb : Addr) (a b c k : Int) (vs ws : List Int) (s : Slo) (g : Gat) (x : Exi) (VA WA : Option Addr) (vc wc : Nat) (w : World) (Q : Value → Int → World → Prop)
    (HN0 : Calls Tryz.prog 16 #[.pointer (some pb), .slice VA vs.length vc, .slice WA ws.length wc] (W3 w #[.int .i64 14, .int .i64 a, .int .i64 b, .int .i64 c, .int .u64 k, .slice VA vs.length vc, .slice WA ws.length wc, .int .i64 s.1, .bool s.2, .int .i64 g.1, .int .i64 g.2.1, .int .i64 g.2.2.1, .int .u64 g.2.2.2, .slice x.A x.tl.length x.c, .slice x.B x.gl.length x.d]) fun e W' => ∃ (x1 : Value) (k1 : Int), e = .returned (.tuple #[x1, .int .i64 k1]) ∧ (∃ z : Int, x1 = .int .i64 z) ∧ Q x1 k1 W')
    (HK0 : ∀ (x1 : Value) (k1 : Int) W, Q x1 k1 W → W.heap[w.heap.size + 1]? = some (.cells ans0 49 (0, 0)) ∧ W.heap[w.heap.size + 1 + 1]? = some (.cells ans0 49 (0, 0))) :
    Calls Tryz.prog 9 #[.pointer (some pb), .agg #[.int .i64 14, .int .i64 a, .int .i64 b, .int .i64 c, .int .u64 k, .slice VA vs.length vc, .slice WA ws.length wc, .int .i64 s.1, .bool s.2, .int .i64 g.1, .int .i64 g.2.1, .int .i64 g.2.2.1, .int .u64 g.2.2.2, .slice x.A x.tl.length x.c, .slice x.B x.gl.length x.d]] w fun e W' => ∃ (x1 : Value) (k1 : Int), e = .returned (.agg #[x1, nilS, .int .i64 k1]) ∧ ∃ W1, Q x1 k1 W1 ∧ ∃ l : List (Nat × Nat × Value), (∀ t ∈ l, t.1 = w.heap.size + 1 ∨ t.1 = w.heap.size + 1 + 1) ∧ W' = l.foldl (fun W t => W.setCell ⟨t.1, t.2.1, none⟩ t.2.2) W1 := by
  obtain ⟨k0, _, _, _, _⟩ := w3_facts w #[.int .i64 14, .int .i64 a, .int .i64 b, .int .i64 c, .int .u64 k, .slice VA vs.length vc, .slice WA ws.length wc, .int .i64 s.1, .bool s.2, .int .i64 g.1, .int .i64 g.2.1, .int .i64 g.2.2.1, .int .u64 g.2.2.2, .slice x.A x.tl.length x.c, .slice x.B x.gl.length x.d]
  unfold W3 at HN0 k0
  have q0 : World.cell? _ ⟨w.heap.size, 0, none⟩ = some (.int .i64 14) := cell_in k0
  have q5 : World.cell? _ ⟨w.heap.size, 5, none⟩ = some (.slice VA vs.length vc) := cell_in k0
  have q6 : World.cell? _ ⟨w.heap.size, 6, none⟩ = some (.slice WA ws.length wc) := cell_in k0
  have HN := Lib.hid HN0
  have HK := Lib.hid HK0
  clear HN0 HK0 k0
  go_enter Tryz.func9, Tryz.ntmps9
  go_wp2_with (go_at_call 16; refine HN.out.mono ?_; rintro e w1 ⟨x1, k1, rfl, ⟨z, rfl⟩, hq⟩; have hk := HK.out _ _ _ hq; obtain ⟨c0, c1, c2, f0, f1, f2⟩ := box_facts hk.2; obtain ⟨d0, d1, d2, z0, z1, z2⟩ := box_facts hk.1; have HQ := Lib.hid hq; clear hq hk)
  refine bodyPost_ret (v := .agg #[.int .i64 z, nilS, .int .i64 k1]) ?_ rfl ⟨_, k1, rfl, w1, HQ.out, [(w.heap.size + 1 + 1, 0, .int .i64 z), (w.heap.size + 1 + 1, 2, .int .i64 k1), (w.heap.size + 1, 0, .int .i64 z), (w.heap.size + 1, 1, nilS), (w.heap.size + 1, 2, .int .i64 k1)], by simp, rfl⟩
  · rw [results_cell_tmp1 rfl]
    go_simp
end Go.Proofs.YtkcdlbclodjjhaaGreat

/- What an act on a board does, by its arguments. (Printed by wip/tools/gen_qi.py.) -/
namespace Go.Proofs.YtkcdlbclodjjhaaGreat
open Go.RowKit

/-- An act's parts lie in memory. -/
structure HoldsA (w : World) (B : Nat) (vs ws : List Int) (g : Gat) (x : Exi) (k : Int) (VA WA : Option Addr) (vc : Nat) : Prop where
  V : Reads w VA (iCells vs)
  W : Reads w WA (iCells ws)
  X : Reads w x.A (iCells x.tl)
  Y : Reads w x.B (iCells x.gl)
  nV : vs.length ≤ 9223372036854775807
  nW : ws.length ≤ 9223372036854775807
  nX : x.tl.length ≤ 9223372036854775807
  nY : x.gl.length ≤ 9223372036854775807
  cV : vs.length ≤ vc
  k0 : 0 ≤ k
  g0 : 0 ≤ g.2.2.2
  zX : x.A = none → x.c = 0
  zY : x.B = none → x.d = 0
  lV : iCells vs ≠ [] → ∀ a, VA = some a → a.block < B
  lW : iCells ws ≠ [] → ∀ a, WA = some a → a.block < B
/-- What an act that is not refused lays. -/
def okG (m : Nat) (G : List Gat) (a b c : Int) (vs ws : List Int) : List Gat :=
  if m = 4 then G ++ notL G.length a.toNat else if m = 5 then G ++ andL G.length a.toNat b.toNat else if m = 6 then G ++ orL G.length a.toNat b.toNat else if m = 7 then G ++ xorL G.length a.toNat b.toNat else if m = 8 then G ++ pickL G.length c.toNat a.toNat b.toNat
  else if m = 9 then (numSt G (natsOf vs).reverse).1 else if m = 10 then (plusSt G (natsOf vs) (natsOf ws)).1 else if m = 11 then (minusSt G (natsOf vs) (natsOf ws)).1 else if m = 12 then (timesSt G (natsOf vs) (natsOf ws) vs.length).1 else if m = 13 then (sameSt G ((natsOf vs).zip (natsOf ws))).1 else (belowSt G (natsOf vs) (natsOf ws)).1
def okAt (m : Nat) (G : List Gat) (vs ws : List Int) : Nat :=
  if m = 4 then G.length + 1 else if m = 5 then G.length else if m = 6 then G.length + 2 else if m = 7 then G.length + 3 else if m = 8 then G.length + 2
  else if m = 9 then (numSt G (natsOf vs).reverse).2 else if m = 13 then (sameSt G ((natsOf vs).zip (natsOf ws))).2 else if m = 14 then (belowSt G (natsOf vs) (natsOf ws)).2 else 0
def okR (m : Nat) (G : List Gat) (vs ws : List Int) : List Nat :=
  if m = 10 then (plusSt G (natsOf vs) (natsOf ws)).2.1 else if m = 11 then (minusSt G (natsOf vs) (natsOf ws)).2.1 else if m = 12 then (timesSt G (natsOf vs) (natsOf ws) vs.length).2 else []
/-- What an act does. -/
def Out (p m : Nat) (a b c k : Int) (vs ws : List Int) (s : Slo) (g : Gat) (x : Exi) (sl : List Slo) (G : List Gat) (xs : List Exi) (at_ : Int) (r : List Nat) (er : Int) (sl' : List Slo) (G' : List Gat) (xs' : List Exi) : Prop :=
  (wrongN p sl.length G.length xs.length m a b c k vs ws s g x ≠ 0 ∧ at_ = 0 ∧ r = [] ∧ er = wrongN p sl.length G.length xs.length m a b c k vs ws s g x ∧ sl' = sl ∧ G' = G ∧ xs' = xs) ∨
  (wrongN p sl.length G.length xs.length m a b c k vs ws s g x = 0 ∧ 4 ≤ m ∧ 65536 < G.length + gatesN m vs.length ∧ at_ = 0 ∧ r = [] ∧ er = 3 ∧ sl' = sl ∧ G' = G ∧ xs' = xs) ∨
  (wrongN p sl.length G.length xs.length m a b c k vs ws s g x = 0 ∧ er = 0 ∧
    ((m = 0 ∧ at_ = (G.length : Nat) ∧ r = [] ∧ sl' = sl ++ [s] ∧ G' = G ++ [((1, ((sl.length : Nat) : Int), 0, 0) : Gat)] ∧ xs' = xs) ∨
     (m = 1 ∧ at_ = (G.length : Nat) ∧ r = [] ∧ sl' = sl ∧ G' = G ++ [g] ∧ xs' = xs) ∨
     (m = 2 ∧ at_ = 0 ∧ r = [] ∧ sl' = sl ∧ G' = G ∧ ∃ x' : Exi, (x'.tl = x.tl ∧ x'.gl = x.gl ∧ (x'.A = none → x'.c = 0) ∧ (x'.B = none → x'.d = 0)) ∧ xs' = xs ++ [x']) ∨
     (m = 3 ∧ at_ = (G.length : Nat) ∧ r = [] ∧ sl' = sl ∧ G' = G ++ [((2, 0, 0, k) : Gat)] ∧ xs' = xs) ∨
     (4 ≤ m ∧ at_ = ((okAt m G vs ws : Nat) : Int) ∧ r = okR m G vs ws ∧ sl' = sl ∧ G' = okG m G a b c vs ws ∧ xs' = xs)))
def DoPost (p m : Nat) (a b c k : Int) (vs ws : List Int) (s : Slo) (g : Gat) (x : Exi) (B : Nat) (sl : List Slo) (G : List Gat) (xs : List Exi) (v1 v2 v3 : Value) (w : World) (e : Ending) (W' : World) : Prop :=
  ∃ (at_ : Int) (X : Option Addr) (n cc : Nat) (r : List Nat) (er : Int) (sl' : List Slo) (G' : List Gat) (xs' : List Exi) (u1 u2 u3 : Value), e = .returned (.agg #[.int .i64 at_, .slice X n cc, .int .i64 er]) ∧ IsB B p sl' G' xs' u1 u2 u3 W' ∧ FrB B v1 v2 v3 w W' ∧ W'.ownsRow w.heap.size 3 1 (.slice X n cc) n (nCells r) ∧ r.length = n ∧ Out p m a b c k vs ws s g x sl G xs at_ r er sl' G' xs'
theorem rising_len : ∀ (l : List Int) (last : Int), 0 ≤ last → risingFrom last l = true → (l.length : Int) + last ≤ 13 ∨ l = []
  | [], _, _, _ => .inr rfl
  | a :: r, last, h0, h => by
    have h1 : (decide (last < a) && decide (a ≤ 13) && risingFrom a r) = true := h
    simp only [Bool.and_eq_true, decide_eq_true_eq] at h1
    left
    rcases rising_len r a (by omega) h1.2 with h2 | h2
    · simp only [List.length_cons]; omega
    · subst h2; simp only [List.length_cons, List.length_nil]; omega
theorem exit_small {gn : Int} {x : Exi} (h : xErr gn x = 0) : x.tl.length ≤ 13 ∧ x.gl.length ≤ 1024 := by
  unfold xErr exitErr at h
  split at h
  · cases h
  · rename_i h1
    split at h
    · cases h
    · refine ⟨?_, by omega⟩
      rcases rising_len x.tl 0 (by omega) (by simpa using h1) with h2 | h2
      · omega
      · rw [h2]; decide
/- The answers' boxes. -/
def AnsAt (w W : World) : Prop := (∃ cs, W.heap[w.heap.size + 1]? = some (.cells cs 49 (0, 0))) ∧ ∃ cs, W.heap[w.heap.size + 1 + 1]? = some (.cells cs 49 (0, 0))
theorem IsB.ans {B p : Nat} {sl : List Slo} {G : List Gat} {xs : List Exi} {v1 v2 v3 : Value} {W : World} (h : IsB B p sl G xs v1 v2 v3 W) {k j : Nat} {u : Value} {cs : Array Value} (hb : W.heap[k]? = some (.cells cs 49 (0, 0))) (hk : k ≠ B) : IsB B p sl G xs v1 v2 v3 (W.setCell ⟨k, j, none⟩ u) :=
  ⟨own_box h.h1 hb (by decide), own_box h.h2 hb (by decide), own_box h.h3 hb (by decide), fun x hx => ⟨(h.hx x hx).1.map fun o => own_box o hb (by decide), (h.hx x hx).2.map fun o => own_box o hb (by decide)⟩, box_farE h.hb (Ne.symm hk), h.hk, h.hz⟩
theorem fold_ans {B p : Nat} {sl : List Slo} {G : List Gat} {xs : List Exi} {v1 v2 v3 u1 u2 u3 : Value} {w : World} (hBw : B < w.heap.size) {X : Value} {n : Nat} {cs : List Value} : ∀ (l : List (Nat × Nat × Value)) (W1 : World), (∀ t ∈ l, t.1 = w.heap.size + 1 ∨ t.1 = w.heap.size + 1 + 1) → AnsAt w W1 → IsB B p sl G xs u1 u2 u3 W1 → FrB B v1 v2 v3 w W1 → W1.ownsRow w.heap.size 3 1 X n cs →
    IsB B p sl G xs u1 u2 u3 (l.foldl (fun W t => W.setCell ⟨t.1, t.2.1, none⟩ t.2.2) W1) ∧ FrB B v1 v2 v3 w (l.foldl (fun W t => W.setCell ⟨t.1, t.2.1, none⟩ t.2.2) W1) ∧ (l.foldl (fun W t => W.setCell ⟨t.1, t.2.1, none⟩ t.2.2) W1).ownsRow w.heap.size 3 1 X n cs
  | [], W1, _, _, h1, h2, h3 => ⟨h1, h2, h3⟩
  | t :: r, W1, hl, ⟨⟨c1, a1⟩, ⟨c2, a2⟩⟩, h1, h2, h3 => by
    rw [List.foldl_cons]
    have ht := hl t List.mem_cons_self
    have hr := fun q hq => hl q (List.mem_cons_of_mem _ hq)
    rcases ht with ht | ht
    · rw [ht]
      exact fold_ans hBw r _ hr ⟨⟨_, box_set a1 _⟩, ⟨_, box_farE a2 (by omega)⟩⟩ (h1.ans a1 (by omega)) (h2.setBox (by omega)) (own_box h3 a1 (by decide))
    · rw [ht]
      exact fold_ans hBw r _ hr ⟨⟨_, box_farE a1 (by omega)⟩, ⟨_, box_set a2 _⟩⟩ (h1.ans a2 (by omega)) (h2.setBox (by omega)) (own_box h3 a2 (by decide))
/-- What is known when the method has ended. -/
structure Mid (w : World) (av : Array Value) (B p : Nat) (sl' : List Slo) (G' : List Gat) (xs' : List Exi) (u1 u2 u3 v1 v2 v3 : Value) (W1 : World) : Prop where
  i : IsB B p sl' G' xs' u1 u2 u3 W1
  f : FrB B v1 v2 v3 (W3 w av) W1
theorem Mid.boxes {w : World} {av : Array Value} {B p : Nat} {sl : List Slo} {G : List Gat} {xs : List Exi} {sl' : List Slo} {G' : List Gat} {xs' : List Exi} {u1 u2 u3 v1 v2 v3 : Value} {W1 : World} (h : IsB B p sl G xs v1 v2 v3 w) (hM : Mid w av B p sl' G' xs' u1 u2 u3 v1 v2 v3 W1) :
    W1.heap[w.heap.size + 1]? = some (.cells ans0 49 (0, 0)) ∧ W1.heap[w.heap.size + 1 + 1]? = some (.cells ans0 49 (0, 0)) := by
  obtain ⟨_, k1, k2, hz, _⟩ := w3_facts w av
  have hlt := h.lt
  exact ⟨(hM.f.block _ (by omega) (by omega) (own_past_all h.h1 (by omega)) (own_past_all h.h2 (by omega)) (own_past_all h.h3 (by omega))).trans k1, (hM.f.block _ (by omega) (by omega) (own_past_all h.h1 (by omega)) (own_past_all h.h2 (by omega)) (own_past_all h.h3 (by omega))).trans k2⟩
theorem Mid.fin {w : World} {av : Array Value} {B p : Nat} {sl : List Slo} {G : List Gat} {xs : List Exi} {sl' : List Slo} {G' : List Gat} {xs' : List Exi} {u1 u2 u3 v1 v2 v3 : Value} {W1 : World} (h : IsB B p sl G xs v1 v2 v3 w) (hM : Mid w av B p sl' G' xs' u1 u2 u3 v1 v2 v3 W1) (l : List (Nat × Nat × Value)) (hl : ∀ t ∈ l, t.1 = w.heap.size + 1 ∨ t.1 = w.heap.size + 1 + 1) {X : Value} {n : Nat} {cs : List Value} (ho : W1.ownsRow w.heap.size 3 1 X n cs) :
    IsB B p sl' G' xs' u1 u2 u3 (l.foldl (fun W t => W.setCell ⟨t.1, t.2.1, none⟩ t.2.2) W1) ∧ FrB B v1 v2 v3 w (l.foldl (fun W t => W.setCell ⟨t.1, t.2.1, none⟩ t.2.2) W1) ∧ (l.foldl (fun W t => W.setCell ⟨t.1, t.2.1, none⟩ t.2.2) W1).ownsRow w.heap.size 3 1 X n cs := by
  obtain ⟨b1, b2⟩ := hM.boxes h
  obtain ⟨_, _, _, _, hb⟩ := w3_facts w av
  exact fold_ans h.lt l W1 hl ⟨⟨_, b1⟩, ⟨_, b2⟩⟩ hM.i (FrB.after hb hM.f) ho
theorem Back.mid {w : World} {av : Array Value} {B p : Nat} {sl : List Slo} {Gn : List Gat} {xs : List Exi} {v1 v2 v3 : Value} {W1 : World} (h : Back B p sl Gn xs v1 v2 v3 (W3 w av) W1) : ∃ u, Mid w av B p sl Gn xs v1 u v3 v1 v2 v3 W1 := by
  obtain ⟨v, h1, h2⟩ := h
  exact ⟨v, h1, FrB.of_fr2 h2⟩
end Go.Proofs.YtkcdlbclodjjhaaGreat

/- Contract of the reference's Pow. -/
namespace Go.Proofs.YtkcdlbclodjjhaaGreat
open Go.RowKit

theorem pow_half (a p e : Nat) : (a ^ (e / 2) % p) * (a ^ (e / 2) % p) % p = a ^ (e / 2 * 2) % p := by
  rw [← Nat.mul_mod, ← Nat.pow_add]
  congr 2
  omega
set_option maxRecDepth 100000 in
theorem pow_any (p : Nat) (h2 : 2 ≤ p) (pm : p ≤ 65537) (a : Nat) (ha : a < p) : ∀ e : Nat, e < 9223372036854775808 → ∀ w, Calls Tryz.prog 84 #[.int .u64 ((p : Nat) : Int), .int .u64 ((a : Nat) : Int), .int .u64 ((e : Nat) : Int)] w fun x w' => x = .returned (.int .u64 ((a ^ e % p : Nat) : Int)) ∧ w = w' := by
  intro e
  induction e using Nat.strongRecOn with
  | _ e ih =>
    intro he w
    by_cases h0 : e = 0
    · subst h0
      have h1 : (a ^ 0 % p : Nat) = 1 := by rw [Nat.pow_zero]; exact Nat.mod_eq_of_lt (by omega)
      rw [h1]
      clear ih h1
      go_enter Tryz.func84, Tryz.ntmps84
      go_wp2
      go_ret
      exact ⟨rfl, rfl⟩
    · have HI := Lib.hid (ih (e / 2) (by omega) (by omega))
      have hh : a ^ (e / 2) % p < p := Nat.mod_lt _ (by omega)
      have hph := pow_half a p e
      generalize a ^ (e / 2) % p = h at *
      have HM1 := Lib.hid (fun W => rmul_any p h h (by omega) pm hh hh W)
      have hm : h * h % p < p := Nat.mod_lt _ (by omega)
      have HM2 := Lib.hid (fun W => rmul_any p (h * h % p) a (by omega) pm hm ha W)
      have i0 : ((e : Int) == 0) = false := by simp; omega
      have i9 : ¬ (e : Int) = 0 := by omega
      clear ih
      by_cases hodd : e % 2 = 1
      · have hfin : (h * h % p) * a % p = a ^ e % p := by
          rw [hph, Nat.mod_mul_mod, ← Nat.pow_succ]
          congr 2
          omega
        have i1 : ((e : Int) % 2 == 1) = true := by simp; omega
        rw [← hfin]
        clear hfin hph hodd
        generalize h * h % p * a % p = q2 at *
        generalize h * h % p = q1 at *
        go_enter Tryz.func84, Tryz.ntmps84
        go_wp2_with (first
          | (go_at_call 84; refine (HI.out _).mono ?_; rintro x w1 ⟨rfl, rfl⟩)
          | (go_at_call 60; with_reducible refine (HM2.out _).mono ?_; rintro x w1 ⟨rfl, rfl⟩)
          | (go_at_call 60; with_reducible refine (HM1.out _).mono ?_; rintro x w1 ⟨rfl, rfl⟩))
        go_ret
        exact ⟨rfl, rfl⟩
      · have hfin : h * h % p = a ^ e % p := by
          rw [hph]
          congr 2
          omega
        have i1 : ((e : Int) % 2 == 1) = false := by simp; omega
        rw [← hfin]
        clear hfin hph hodd HM2
        generalize h * h % p = q1 at *
        go_enter Tryz.func84, Tryz.ntmps84
        go_wp2_with (first
          | (go_at_call 84; refine (HI.out _).mono ?_; rintro x w1 ⟨rfl, rfl⟩)
          | (go_at_call 60; with_reducible refine (HM1.out _).mono ?_; rintro x w1 ⟨rfl, rfl⟩))
        go_ret
        exact ⟨rfl, rfl⟩
end Go.Proofs.YtkcdlbclodjjhaaGreat
