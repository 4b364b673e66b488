/- The board's Slot, with what else it turns; its faults. (Printed by wip/tools/gen_pq.py.) -/
import Derived.Test.YtkcdlbclodjjhaaGreatGat
import Derived.Test.YtkcdlbclodjjhaaGreatGan
namespace Go.Proofs.YtkcdlbclodjjhaaGreat
open Go.RowKit

/-- What an act on a board turns: the board's block and its three rows. -/
structure FrB (B : Nat) (v1 v2 v3 : Value) (W W' : World) : Prop where
  os : W'.os = W.os
  tape : W'.tape = W.tape
  output : W'.output = W.output
  size : W.heap.size ≤ W'.heap.size
  block : ∀ k, k < W.heap.size → k ≠ B → some k ≠ v1.ownBlock → some k ≠ v2.ownBlock → some k ≠ v3.ownBlock → W'.heap[k]? = W.heap[k]?
theorem FrB.of_below {B : Nat} {v1 v2 v3 : Value} {W W' : World} (h : Below W.heap.size W W') : FrB B v1 v2 v3 W W' := ⟨h.os, h.tape, h.output, h.size, fun k hk _ _ _ _ => h.block k hk⟩
theorem FrB.after {B : Nat} {v1 v2 v3 : Value} {w W W' : World} (hb : Below w.heap.size w W) (h : FrB B v1 v2 v3 W W') : FrB B v1 v2 v3 w W' :=
  ⟨h.os.trans hb.os, h.tape.trans hb.tape, h.output.trans hb.output, Nat.le_trans hb.size h.size, fun k hk a b c d => (h.block k (Nat.lt_of_lt_of_le hk hb.size) a b c d).trans (hb.block k hk)⟩
theorem FrB.of_fr2 {B : Nat} {v1 v2 v3 v : Value} {W W' : World} (h : Fr B v2 v W W') : FrB B v1 v2 v3 W W' := ⟨h.os, h.tape, h.output, h.size, fun k hk a _ c _ => h.block k hk a c⟩
theorem FrB.of_fr3 {B : Nat} {v1 v2 v3 v : Value} {W W' : World} (h : Fr B v3 v W W') : FrB B v1 v2 v3 W W' := ⟨h.os, h.tape, h.output, h.size, fun k hk a _ _ d => h.block k hk a d⟩
theorem FrB.grow {B : Nat} {v1 v2 v3 v : Value} {w W W3 : World} (h : FrB B v1 v2 v3 w W) (hg : W.grownBy W3 v.ownBlock) (hv : v = v1 ∨ v = v2 ∨ v = v3) {j : Nat} (u : Value) : FrB B v1 v2 v3 w (W3.setCell ⟨B, j, none⟩ u) :=
  ⟨hg.os.trans h.os, hg.tape.trans h.tape, hg.output.trans h.output, by simpa [World.setCell] using Nat.le_trans h.size hg.size, fun k hk a b c d => by
    rw [Below.heap_setCell _ _ _ _ (by simpa using a)]
    refine (hg.block k (Nat.lt_of_lt_of_le hk h.size) ?_).trans (h.block k hk a b c d)
    rcases hv with rfl | rfl | rfl
    · exact b
    · exact c
    · exact d⟩
theorem FrB.setBox {B : Nat} {v1 v2 v3 : Value} {w W : World} (h : FrB B v1 v2 v3 w W) {k j : Nat} {u : Value} (hk : w.heap.size ≤ k) : FrB B v1 v2 v3 w (W.setCell ⟨k, j, none⟩ u) :=
  ⟨h.os, h.tape, h.output, by simpa [World.setCell] using h.size, fun i hi a b c d => by rw [Below.heap_setCell _ _ _ _ (by simp; omega)]; exact h.block i hi a b c d⟩
set_option maxHeartbeats 8000000 in
set_option maxRecDepth 10000000 in
theorem slot_fr (B p : Nat) (hp : 0 < p) (sl : List Slo) (G : List Gat) (xs : List Exi) (v1 v2 v3 : Value) (x : Slo) (hx1 : 1 ≤ x.1) (hx2 : x.1 ≤ 13) (hs : sl.length < 256) (hg : G.length < 65536) (w : World) (h : IsB B p sl G xs v1 v2 v3 w) :
    Calls Tryz.prog 26 #[.pointer (some ⟨B, 0, none⟩), .agg #[.int .i64 x.1, .bool x.2]] w fun e W' => e = .returned (.tuple #[.int .i64 ((G.length : Nat) : Int), .int .i64 0]) ∧ ∃ u1 u2, IsB B p (sl ++ [x]) (G ++ [((1, ((sl.length : Nat) : Int), 0, 0) : Gat)]) xs u1 u2 v3 W' ∧ FrB B v1 v2 v3 w W' := by
  obtain ⟨SA, sc, rfl, _⟩ := own_reads h.h1
  obtain ⟨GA, gc, rfl, _⟩ := own_reads h.h2
  have q0 := (box4 h.hb).1
  have HM := Lib.hid (fun W q => made_any B p hp W q)
  have HI := Lib.hid h
  have hlt := h.lt
  obtain ⟨x1, x2⟩ := x
  simp only at hx1 hx2 ⊢
  have i1 : ¬ x1 < 1 := by omega
  have i2 : ¬ (13 : Int) < x1 := by omega
  have i3 : ¬ (256 : Int) ≤ (sl.length : Int) := by omega
  have i4 : ¬ (65536 : Int) ≤ (G.length : Int) := by omega
  have d1 : decide (x1 < 1) = false := decide_eq_false i1
  have d2 : decide ((13 : Int) < x1) = false := decide_eq_false i2
  have d3 : decide ((256 : Int) ≤ (sl.length : Int)) = false := decide_eq_false i3
  have d4 : decide ((65536 : Int) ≤ (G.length : Int)) = false := decide_eq_false i4
  clear h
  go_enter Tryz.func26, Tryz.ntmps26
  go_wp2_with (first | (go_at_call 22; refine (HM.out _ (cell_al q0)).mono ?_; rintro e w1 ⟨rfl, hw1⟩; have hb1 : Below w.heap.size w w1 := (by rw [← hw1]; exact (Below.refl _ _).alloc (Nat.le_refl _) _); have hx1' : w1.heap[w.heap.size]? = some (.cells #[.int .i64 x1, .bool x2] 40 (0, 0)) := (by rw [← hw1]; exact heap_alloc_new w _); have c0 : w1.cell? ⟨w.heap.size, 0, none⟩ = some (.int .i64 x1) := (by rw [← hw1]; exact (two_cells w _ _ _).1); have c1 : w1.cell? ⟨w.heap.size, 1, none⟩ = some (.bool x2) := (by rw [← hw1]; exact (two_cells w _ _ _).2); have HX1 := Lib.hid hx1'; clear hx1' hw1; have hbb := box4 ((hb1.block _ hlt).trans HI.out.hb); clear q0; have q0 : w1.cell? ⟨B, 0, none⟩ = _ := hbb.1; have q1 : w1.cell? ⟨B, 1, none⟩ = _ := hbb.2.1; have q2 : w1.cell? ⟨B, 2, none⟩ = _ := hbb.2.2.1; have q4 : w1.frozen? ⟨B, 1, none⟩ = _ := hbb.2.2.2.2.1; have HB1 := Lib.hid hb1; clear hb1 hbb))
  have HIC := Lib.hid (HI.out.below HB1.out)
  have HLC : Hid (B + 1 ≤ w1.heap.size) := Lib.hid (by have := HB1.out.size; omega)
  have nB : ¬ B = w1.heap.size := by have := HLC.out; omega
  have lB : B < w1.heap.size := by have := HLC.out; omega
  have lw : w.heap.size < w1.heap.size := World.block_lt_of_cell? _ _ c0
  have nw : ¬ w.heap.size = w1.heap.size := by omega
  clear d1 d2 d3 d4 i1 i2
  go_upto_region 7 with fail
  go_cut [] (fun wx => ∃ v, IsB B p (sl ++ [(x1, x2)]) G xs v (.slice GA G.length gc) v3 wx ∧ FrB B (.slice SA sl.length sc) (.slice GA G.length gc) v3 w wx)
  case first =>
    go_region_law (refine step_app_cells (W0 := w1) (by repeat (first | exact Below.refl _ _ | refine Below.drew ?_ | refine Below.alloc ?_ (by simp) _)) (B + 1) rfl _ _ 32 40 _ 2 16 rfl Tryz.underlying32 infoSlo rfl (by decide) (by decide) (.slice SA sl.length sc) sl.length _ [.int .i64 x1, .bool x2] rfl _ rfl rfl (heap_alloc_new _ _) (by intro u hu; simp at hu; rcases hu with rfl | rfl <;> rfl) HIC.out.h1 HLC.out (by omega) ?_; intro g4 c4 w4 hown4 hg4 hgb4; have hbx := box4 ((hg4.block _ HIC.out.lt (own_past HIC.out.h1 (Nat.lt_succ_self _))).trans HIC.out.hb); have p1 : w4.cell? ⟨B, 1, none⟩ = _ := hbx.2.1; have p2 : w4.cell? ⟨B, 2, none⟩ = _ := hbx.2.2.1; have p4 : w4.frozen? ⟨B, 1, none⟩ = _ := hbx.2.2.2.2.1; have p5 : w4.frozen? ⟨B, 2, none⟩ = _ := hbx.2.2.2.2.2.1; clear hbx; have HO4 := Lib.hid hown4; have HG4 := Lib.hid hg4; clear hown4 hg4 hgb4)
    all_goals (go_wp2_with fail; go_meet; exact ⟨_, HIC.out.slot (x := (x1, x2)) HO4.out HG4.out, (FrB.of_below HB1.out).grow HG4.out (.inl rfl) _⟩)
  case rest =>
  obtain ⟨vs, hI2, hL2⟩ := hcut
  clear q0 q1 q2 q4 c0 c1 nB lB lw nw HIC HLC HX1
  obtain ⟨SA2, sc2, rfl, _⟩ := own_reads hI2.h1
  have hbb := box4 hI2.hb
  have q1 : wc.cell? ⟨B, 1, none⟩ = _ := hbb.2.1
  have q2 : wc.cell? ⟨B, 2, none⟩ = _ := hbb.2.2.1
  have q5 : wc.frozen? ⟨B, 2, none⟩ = _ := hbb.2.2.2.2.2.1
  have HIC := Lib.hid hI2
  have HLC : Hid (B + 1 ≤ wc.heap.size) := Lib.hid hI2.lt
  have HL2 := Lib.hid hL2
  have nB : ¬ B = wc.heap.size := by have := HLC.out; omega
  have lB : B < wc.heap.size := HLC.out
  have hsl : (sl ++ [(x1, x2)]).length = sl.length + 1 := by simp
  rw [hsl] at q1
  clear hbb hI2 hL2 hsl
  have hwr : IntKind.i64.wrap (sl.length : Int) = (sl.length : Int) := by rw [IntKind.wrap_i64]; omega
  go_upto_region 8 with fail
  go_cut [] (fun wx => ∃ v2', IsB B p (sl ++ [(x1, x2)]) (G ++ [((1, ((sl.length : Nat) : Int), 0, 0) : Gat)]) xs (.slice SA2 (sl ++ [(x1, x2)]).length sc2) v2' v3 wx ∧ FrB B (.slice SA sl.length sc) (.slice GA G.length gc) v3 w wx)
  case first =>
    go_region_law (refine step_app_cells (W0 := wc) (by repeat (first | exact Below.refl _ _ | refine Below.drew ?_ | refine Below.alloc ?_ (by simp) _)) (B + 1) rfl _ _ 33 42 _ 4 32 rfl Tryz.underlying33 infoGat rfl (by decide) (by decide) (.slice GA G.length gc) G.length _ [.int .i64 1, .int .i64 ((sl.length : Nat) : Int), .int .i64 0, .int .u64 0] rfl _ rfl rfl (heap_alloc_new _ _) (by intro u hu; simp at hu; rcases hu with rfl | rfl | rfl | rfl <;> rfl) HIC.out.h2 HLC.out (by omega) ?_; intro g4 c4 w4 hown4 hg4 hgb4; have hbx := box4 ((hg4.block _ HIC.out.lt (own_past HIC.out.h2 (Nat.lt_succ_self _))).trans HIC.out.hb); have p1 : w4.cell? ⟨B, 1, none⟩ = _ := hbx.2.1; have p2 : w4.cell? ⟨B, 2, none⟩ = _ := hbx.2.2.1; have p4 : w4.frozen? ⟨B, 1, none⟩ = _ := hbx.2.2.2.2.1; have p5 : w4.frozen? ⟨B, 2, none⟩ = _ := hbx.2.2.2.2.2.1; clear hbx; have HO4 := Lib.hid hown4; have HG4 := Lib.hid hg4; clear hown4 hg4 hgb4)
    all_goals (go_wp2_with fail; go_meet; exact ⟨_, HIC.out.gate (g := (1, ((sl.length : Nat) : Int), 0, 0)) (Int.le_refl 0) (by omega) HO4.out HG4.out, HL2.out.grow HG4.out (.inr (.inl rfl)) _⟩)
  case rest =>
  obtain ⟨v2', hI3, hL3⟩ := hcut
  clear q1 q2 q5 nB lB HIC HLC
  obtain ⟨GA3, gc3, rfl, _⟩ := own_reads hI3.h2
  have hbb := box4 hI3.hb
  have q2 : wc.cell? ⟨B, 2, none⟩ = _ := hbb.2.2.1
  have hgl : (G ++ [((1, ((sl.length : Nat) : Int), 0, 0) : Gat)]).length = G.length + 1 := by simp
  rw [hgl] at q2
  have HI3 := Lib.hid hI3
  have HL3 := Lib.hid hL3
  clear hbb hI3 hL3 hgl
  go_wp2
  exact bodyPost_ret (v := .tuple #[.int .i64 ((G.length : Nat) : Int), .int .i64 0]) (by simp [results, Tryz.results26, go_sem]) rfl ⟨rfl, _, _, HI3.out, HL3.out⟩
set_option maxHeartbeats 2000000 in
set_option maxRecDepth 100000 in
theorem slot_low (B p : Nat) (hp : 0 < p) (sl : List Slo) (G : List Gat) (xs : List Exi) (v1 v2 v3 : Value) (x : Slo) (hx1 : x.1 < 1) (w : World) (h : IsB B p sl G xs v1 v2 v3 w) :
    Calls Tryz.prog 26 #[.pointer (some ⟨B, 0, none⟩), .agg #[.int .i64 x.1, .bool x.2]] w fun e W' => e = .returned (.tuple #[.int .i64 0, .int .i64 2]) ∧ Below w.heap.size w W' := by
  obtain ⟨SA, sc, rfl, _⟩ := own_reads h.h1
  obtain ⟨GA, gc, rfl, _⟩ := own_reads h.h2
  have q0 := (box4 h.hb).1
  have HM := Lib.hid (fun W q => made_any B p hp W q)
  have HI := Lib.hid h
  have hlt := h.lt
  obtain ⟨x1, x2⟩ := x
  simp only at hx1 ⊢
  have d1 : decide (x1 < 1) = true := decide_eq_true (by omega)
  have i1 : x1 < 1 := by omega
  clear h
  go_enter Tryz.func26, Tryz.ntmps26
  go_wp2_with (first | (go_at_call 22; refine (HM.out _ (cell_al q0)).mono ?_; rintro e w1 ⟨rfl, hw1⟩; have hb1 : Below w.heap.size w w1 := (by rw [← hw1]; exact (Below.refl _ _).alloc (Nat.le_refl _) _); have c0 : w1.cell? ⟨w.heap.size, 0, none⟩ = some (.int .i64 x1) := (by rw [← hw1]; exact (two_cells w _ _ _).1); have c1 : w1.cell? ⟨w.heap.size, 1, none⟩ = some (.bool x2) := (by rw [← hw1]; exact (two_cells w _ _ _).2); clear hw1; have hbb := box4 ((hb1.block _ hlt).trans HI.out.hb); clear q0; have q0 : w1.cell? ⟨B, 0, none⟩ = _ := hbb.1; have q1 : w1.cell? ⟨B, 1, none⟩ = _ := hbb.2.1; have q2 : w1.cell? ⟨B, 2, none⟩ = _ := hbb.2.2.1; have HB1 := Lib.hid hb1; clear hb1 hbb))
  exact bodyPost_ret (v := .tuple #[.int .i64 0, .int .i64 2]) (by simp [results, Tryz.results26, go_sem]) rfl ⟨rfl, HB1.out⟩
set_option maxHeartbeats 2000000 in
set_option maxRecDepth 100000 in
theorem slot_high (B p : Nat) (hp : 0 < p) (sl : List Slo) (G : List Gat) (xs : List Exi) (v1 v2 v3 : Value) (x : Slo) (hx1 : 13 < x.1) (w : World) (h : IsB B p sl G xs v1 v2 v3 w) :
    Calls Tryz.prog 26 #[.pointer (some ⟨B, 0, none⟩), .agg #[.int .i64 x.1, .bool x.2]] w fun e W' => e = .returned (.tuple #[.int .i64 0, .int .i64 2]) ∧ Below w.heap.size w W' := by
  obtain ⟨SA, sc, rfl, _⟩ := own_reads h.h1
  obtain ⟨GA, gc, rfl, _⟩ := own_reads h.h2
  have q0 := (box4 h.hb).1
  have HM := Lib.hid (fun W q => made_any B p hp W q)
  have HI := Lib.hid h
  have hlt := h.lt
  obtain ⟨x1, x2⟩ := x
  simp only at hx1 ⊢
  have d1 : decide (x1 < 1) = false := decide_eq_false (by omega)
  have d2 : decide ((13 : Int) < x1) = true := decide_eq_true (by omega)
  have i1 : ¬ x1 < 1 := by omega
  have i2 : (13 : Int) < x1 := by omega
  clear h
  go_enter Tryz.func26, Tryz.ntmps26
  go_wp2_with (first | (go_at_call 22; refine (HM.out _ (cell_al q0)).mono ?_; rintro e w1 ⟨rfl, hw1⟩; have hb1 : Below w.heap.size w w1 := (by rw [← hw1]; exact (Below.refl _ _).alloc (Nat.le_refl _) _); have c0 : w1.cell? ⟨w.heap.size, 0, none⟩ = some (.int .i64 x1) := (by rw [← hw1]; exact (two_cells w _ _ _).1); have c1 : w1.cell? ⟨w.heap.size, 1, none⟩ = some (.bool x2) := (by rw [← hw1]; exact (two_cells w _ _ _).2); clear hw1; have hbb := box4 ((hb1.block _ hlt).trans HI.out.hb); clear q0; have q0 : w1.cell? ⟨B, 0, none⟩ = _ := hbb.1; have q1 : w1.cell? ⟨B, 1, none⟩ = _ := hbb.2.1; have q2 : w1.cell? ⟨B, 2, none⟩ = _ := hbb.2.2.1; have HB1 := Lib.hid hb1; clear hb1 hbb))
  exact bodyPost_ret (v := .tuple #[.int .i64 0, .int .i64 2]) (by simp [results, Tryz.results26, go_sem]) rfl ⟨rfl, HB1.out⟩
set_option maxHeartbeats 2000000 in
set_option maxRecDepth 100000 in
theorem slot_fullg (B p : Nat) (hp : 0 < p) (sl : List Slo) (G : List Gat) (xs : List Exi) (v1 v2 v3 : Value) (x : Slo) (hx1 : 1 ≤ x.1) (hx2 : x.1 ≤ 13) (hs : sl.length < 256) (hg : 65536 ≤ G.length) (w : World) (h : IsB B p sl G xs v1 v2 v3 w) :
    Calls Tryz.prog 26 #[.pointer (some ⟨B, 0, none⟩), .agg #[.int .i64 x.1, .bool x.2]] w fun e W' => e = .returned (.tuple #[.int .i64 0, .int .i64 3]) ∧ Below w.heap.size w W' := by
  obtain ⟨SA, sc, rfl, _⟩ := own_reads h.h1
  obtain ⟨GA, gc, rfl, _⟩ := own_reads h.h2
  have q0 := (box4 h.hb).1
  have HM := Lib.hid (fun W q => made_any B p hp W q)
  have HI := Lib.hid h
  have hlt := h.lt
  obtain ⟨x1, x2⟩ := x
  simp only at hx1 hx2 ⊢
  have d1 : decide (x1 < 1) = false := decide_eq_false (by omega)
  have d2 : decide ((13 : Int) < x1) = false := decide_eq_false (by omega)
  have d3 : decide ((256 : Int) ≤ (sl.length : Int)) = false := decide_eq_false (by omega)
  have d4 : decide ((65536 : Int) ≤ (G.length : Int)) = true := decide_eq_true (by omega)
  have i1 : ¬ x1 < 1 := by omega
  have i2 : ¬ (13 : Int) < x1 := by omega
  have i3 : ¬ (256 : Int) ≤ (sl.length : Int) := by omega
  have i4 : (65536 : Int) ≤ (G.length : Int) := by omega
  clear hs hg
  clear h
  go_enter Tryz.func26, Tryz.ntmps26
  go_wp2_with (first | (go_at_call 22; refine (HM.out _ (cell_al q0)).mono ?_; rintro e w1 ⟨rfl, hw1⟩; have hb1 : Below w.heap.size w w1 := (by rw [← hw1]; exact (Below.refl _ _).alloc (Nat.le_refl _) _); have c0 : w1.cell? ⟨w.heap.size, 0, none⟩ = some (.int .i64 x1) := (by rw [← hw1]; exact (two_cells w _ _ _).1); have c1 : w1.cell? ⟨w.heap.size, 1, none⟩ = some (.bool x2) := (by rw [← hw1]; exact (two_cells w _ _ _).2); clear hw1; have hbb := box4 ((hb1.block _ hlt).trans HI.out.hb); clear q0; have q0 : w1.cell? ⟨B, 0, none⟩ = _ := hbb.1; have q1 : w1.cell? ⟨B, 1, none⟩ = _ := hbb.2.1; have q2 : w1.cell? ⟨B, 2, none⟩ = _ := hbb.2.2.1; have HB1 := Lib.hid hb1; clear hb1 hbb))
  exact bodyPost_ret (v := .tuple #[.int .i64 0, .int .i64 3]) (by simp [results, Tryz.results26, go_sem]) rfl ⟨rfl, HB1.out⟩
/-- A slot that is refused. -/
theorem slot_bad (B p : Nat) (hp : 0 < p) (sl : List Slo) (G : List Gat) (xs : List Exi) (v1 v2 v3 : Value) (x : Slo) (hx : slotErr sl.length G.length x ≠ 0) (w : World) (h : IsB B p sl G xs v1 v2 v3 w) :
    Calls Tryz.prog 26 #[.pointer (some ⟨B, 0, none⟩), .agg #[.int .i64 x.1, .bool x.2]] w fun e W' => e = .returned (.tuple #[.int .i64 0, .int .i64 (slotErr sl.length G.length x)]) ∧ Below w.heap.size w W' := by
  unfold slotErr at hx ⊢
  by_cases h1 : x.1 < 1
  · rw [if_pos (.inl h1)]; exact slot_low B p hp sl G xs v1 v2 v3 x h1 w h
  · by_cases h2 : 13 < x.1
    · rw [if_pos (.inr h2)]; exact slot_high B p hp sl G xs v1 v2 v3 x h2 w h
    · rw [if_neg (by omega)] at hx ⊢
      by_cases h3 : 256 ≤ sl.length
      · rw [if_pos (.inl h3)]; exact slot_full B p hp sl G xs v1 v2 v3 x (by omega) (by omega) h3 w h
      · by_cases h4 : 65536 ≤ G.length
        · rw [if_pos (.inr h4)]; exact slot_fullg B p hp sl G xs v1 v2 v3 x (by omega) (by omega) (by omega) h4 w h
        · rw [if_neg (by omega)] at hx; exact absurd rfl hx
end Go.Proofs.YtkcdlbclodjjhaaGreat
