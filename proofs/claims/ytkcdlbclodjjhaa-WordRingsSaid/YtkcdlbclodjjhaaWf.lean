/- Contracts of the board's Put and Const. -/
import Derived.Test.YtkcdlbclodjjhaaWe
import Derived.Deep.RegionLaw
import Derived.Deep.AppendLies
import Derived.StillTailTactics
namespace Go.Proofs.Ytkcdlbclodjjhaa
open Go.RowKit

section
variable {P : Program} {ops : Array Oper} {o : Oper} {a : Act} {K : Act → World → Prop} {Q : Exit → Act → World → Prop} {E : Prop}
/-- One element of several cells is appended to a row of the call's own, as a step of a region that draws its order. -/
theorem step_app_cells {W0 W : World} (hW : Below W0.heap.size W0 W) (base : Nat) (hgd : o.guard = none) (s x : Operand) (t e : TypeId) (z : Value) (size bytes : Nat)
    (ho : o.op = .call { callee := .builtin .append, args := #[s, x], argTypes := #[t, t] })
    (ht : P.underlying t = some (.slice e)) (hinfo : (P.info? e).map (fun i => (i.zero, i.size, i.bytes)) = some (some z, size, bytes)) (hz : z.cells.size = size) (hs0 : 0 < size) (hb0 : 0 < bytes)
    (v : Value) (n : Nat) (xs ys : List Value) (hs : a.eval s = v) (g : Nat) (hx : a.eval x = .slice (some ⟨g, 0, none⟩) 1 1) (hys : ys.length = size) (hc : W.heap[g]? = some (.cells ys.toArray e (0, 0))) (h1 : ∀ u ∈ ys, u.oneCell' = true)
    (HO : W0.ownsRow base e size v n xs) (hbase : base ≤ W0.heap.size) (hl : (n + 1) * bytes ≤ 140737488355328)
    (h : ∀ g1 c1 w1, w1.ownsRow base e size (.slice (some ⟨g1, 0, none⟩) (n + 1) c1) (n + 1) (xs ++ ys) → W0.grownBy w1 v.ownBlock → (v.ownBlock = some g1 ∨ W0.heap.size ≤ g1) → K (a.put o.dst (.slice (some ⟨g1, 0, none⟩) (n + 1) c1)) w1) :
    if Region.wanted o (yielded ops a.tmps) = true then Oper.wp P o a W K Q else E := by
  obtain ⟨i0, hi, hzz⟩ := Option.map_eq_some_iff.1 hinfo
  simp only [Prod.mk.injEq] at hzz
  obtain ⟨hz0, hz1, hz2⟩ := hzz
  have hlen : n + 1 ≤ 140737488355328 := Nat.le_trans (Nat.le_mul_of_pos_right _ hb0) hl
  have hg0 : W0.grownBy W v.ownBlock := ⟨hW.os, hW.tape, hW.output, hW.size, fun k hk _ => hW.block k hk⟩
  refine step_append_lies W hgd s x t ho base e i0 z size bytes ht hi hz0 hz1 hz2 hz hs0 v n xs hs (own_below HO hW) ⟨g, 0, none⟩ 1 1 ys hx (by rw [hys]; simp)
    (by simpa using World.news_of_block (cs := ys.toArray) (t := e) (fr := (0, 0)) hc) h1 (by omega) (by simp only [maxLen]; omega) hl (Nat.le_trans hbase hW.size) _ rfl ?_
  intro g1 c1 w1 hown hg hgb _
  refine h g1 c1 w1 hown (World.grownBy.trans hg0 hg) ?_
  rcases hgb with e1 | e1
  · exact .inl e1
  · exact .inr (by rw [e1]; exact hW.size)
end
theorem gbox {W : World} {b : Nat} {v0 v1 v2 v3 : Value} {t : TypeId} (h : W.heap[b]? = some (.cells #[v0, v1, v2, v3] t (0, 0))) :
    W.cell? ⟨b, 0, none⟩ = some v0 ∧ W.cell? ⟨b, 1, none⟩ = some v1 ∧ W.cell? ⟨b, 2, none⟩ = some v2 ∧ W.cell? ⟨b, 3, none⟩ = some v3 := ⟨(box4 h).1, (box4 h).2.1, (box4 h).2.2.1, (box4 h).2.2.2.1⟩
theorem cell_al {w : World} {o : Obj} {a : Addr} {v : Value} (h : w.cell? a = some v) : (w.alloc o).cell? a = some v := (((Below.refl _ _).alloc (Nat.le_refl _) o).cell (World.block_lt_of_cell? _ _ h)).trans h
/-- What an answer of a call that adds one gate says. -/
def PutPost (B p : Nat) (sl : List Slo) (G : List Gat) (xs : List Exi) (v1 v2 v3 : Value) (g : Gat) (W : World) (e : Ending) (W' : World) : Prop :=
  (gErr p sl.length G.length g ≠ 0 ∧ e = .returned (.tuple #[.int .i64 0, .int .i64 (gErr p sl.length G.length g)]) ∧ Below W.heap.size W W') ∨
  (gErr p sl.length G.length g = 0 ∧ 65536 ≤ G.length ∧ e = .returned (.tuple #[.int .i64 0, .int .i64 3]) ∧ Below W.heap.size W W') ∨
  (gErr p sl.length G.length g = 0 ∧ G.length < 65536 ∧ ∃ v, e = .returned (.tuple #[.int .i64 (G.length : Nat), .int .i64 0]) ∧ IsB B p sl (G ++ [g]) xs v1 v v3 W' ∧ Fr B v2 v W W')
set_option maxRecDepth 100000 in
theorem put_bad (B p : Nat) (hp : 0 < p) (sl : List Slo) (G : List Gat) (xs : List Exi) (v1 v2 v3 : Value) (g : Gat) (w : World) (h : IsB B p sl G xs v1 v2 v3 w) (hg : gErr p sl.length G.length g ≠ 0) :
    Calls Try.prog 8 #[.pointer (some ⟨B, 0, none⟩), .agg #[.int .i64 g.1, .int .i64 g.2.1, .int .i64 g.2.2.1, .int .u64 g.2.2.2]] w (PutPost B p sl G xs v1 v2 v3 g w) := by
  obtain ⟨SA, sc, rfl, _⟩ := own_reads h.h1
  obtain ⟨GA, gc, rfl, _⟩ := own_reads h.h2
  have q0 := (box4 h.hb).1
  have HM := Lib.hid (fun W q => made_any B p hp W q)
  have HG := Lib.hid (fun W => gate_any p hp sl.length G.length g.1 g.2.1 g.2.2.1 g.2.2.2 W)
  have hgb : (gErr p sl.length G.length g == 0) = false := by simpa using hg
  have HI := Lib.hid h; have HE := Lib.hid hg; clear hg h
  unfold gErr at HE hgb
  unfold PutPost gErr
  generalize hge : gateErr p sl.length G.length g.1 g.2.1 g.2.2.1 g.2.2.2 = er at *
  obtain ⟨k, a, b, K⟩ := g
  simp only at *
  go_enter Try.func8, Try.ntmps8
  go_wp2_with (first | (go_at_call 24; refine (HM.out _ (cell_al q0)).mono ?_; rintro e w1 ⟨rfl, hw1⟩; have HW1 := Lib.hid hw1; clear hw1))
  have hb1 : Below w.heap.size w w1 := by rw [← HW1.out]; exact (Below.refl _ _).alloc (Nat.le_refl _) _
  have hx1 : w1.heap[w.heap.size]? = some (.cells #[.int .i64 k, .int .i64 a, .int .i64 b, .int .u64 K] 33 (0, 0)) := by rw [← HW1.out]; exact heap_alloc_new w _
  obtain ⟨c0, c1, c2, c3⟩ := gbox hx1
  have HX1 := Lib.hid hx1; clear hx1
  clear q0
  obtain ⟨q0, q1, q2, q3, q4, q5, q6⟩ := box4 ((hb1.block _ HI.out.lt).trans HI.out.hb)
  have HB1 := Lib.hid hb1; clear hb1 HW1
  go_still_tail 17, (by kernel_rfl)
  change wpList _ _ _ _ _ _
  go_wp2_with (go_at_call 25; refine (HG.out _).mono ?_; rintro e w3 ⟨rfl, hb3⟩; have HB3 := Lib.hid (HB1.out.drew.trans (hb3.mono HB1.out.drew.size)); clear q0 q1 q2 q3 q4 q5 q6; have q0 := (box4 ((HB3.out.block _ HI.out.lt).trans HI.out.hb)).1; have q1 := (box4 ((HB3.out.block _ HI.out.lt).trans HI.out.hb)).2.1; have q2 := (box4 ((HB3.out.block _ HI.out.lt).trans HI.out.hb)).2.2.1; have q5 := (box4 ((HB3.out.block _ HI.out.lt).trans HI.out.hb)).2.2.2.2.2.1; replace c0 := hb3.cell (World.block_lt_of_cell? w1 _ c0) |>.trans c0; replace c1 := hb3.cell (World.block_lt_of_cell? w1 _ c1) |>.trans c1; replace c2 := hb3.cell (World.block_lt_of_cell? w1 _ c2) |>.trans c2; replace c3 := hb3.cell (World.block_lt_of_cell? w1 _ c3) |>.trans c3; clear hb3)
  exact bodyPost_ret (v := .tuple #[.int .i64 0, .int .i64 er]) (by simp [results, Try.results8, go_sem]) rfl (.inl ⟨HE.out, rfl, HB3.out⟩)
set_option maxRecDepth 100000 in
theorem put_full (B p : Nat) (hp : 0 < p) (sl : List Slo) (G : List Gat) (xs : List Exi) (v1 v2 v3 : Value) (g : Gat) (w : World) (h : IsB B p sl G xs v1 v2 v3 w) (hg : gErr p sl.length G.length g = 0) (hf : 65536 ≤ G.length) :
    Calls Try.prog 8 #[.pointer (some ⟨B, 0, none⟩), .agg #[.int .i64 g.1, .int .i64 g.2.1, .int .i64 g.2.2.1, .int .u64 g.2.2.2]] w (PutPost B p sl G xs v1 v2 v3 g w) := by
  obtain ⟨SA, sc, rfl, _⟩ := own_reads h.h1
  obtain ⟨GA, gc, rfl, _⟩ := own_reads h.h2
  have q0 := (box4 h.hb).1
  have HM := Lib.hid (fun W q => made_any B p hp W q)
  have HG := Lib.hid (fun W => gate_any p hp sl.length G.length g.1 g.2.1 g.2.2.1 g.2.2.2 W)
  have hf' : (65536 : Int) ≤ (G.length : Int) := by omega
  have HI := Lib.hid h; have HE := Lib.hid hg; clear hg h
  unfold gErr at HE
  unfold PutPost gErr
  generalize hge : gateErr p sl.length G.length g.1 g.2.1 g.2.2.1 g.2.2.2 = er at *
  obtain ⟨k, a, b, K⟩ := g
  simp only at *
  have hE := HE.out
  subst hE
  go_enter Try.func8, Try.ntmps8
  go_wp2_with (first | (go_at_call 24; refine (HM.out _ (cell_al q0)).mono ?_; rintro e w1 ⟨rfl, hw1⟩; have HW1 := Lib.hid hw1; clear hw1))
  have hb1 : Below w.heap.size w w1 := by rw [← HW1.out]; exact (Below.refl _ _).alloc (Nat.le_refl _) _
  have hx1 : w1.heap[w.heap.size]? = some (.cells #[.int .i64 k, .int .i64 a, .int .i64 b, .int .u64 K] 33 (0, 0)) := by rw [← HW1.out]; exact heap_alloc_new w _
  obtain ⟨c0, c1, c2, c3⟩ := gbox hx1
  have HX1 := Lib.hid hx1; clear hx1
  clear q0
  obtain ⟨q0, q1, q2, q3, q4, q5, q6⟩ := box4 ((hb1.block _ HI.out.lt).trans HI.out.hb)
  have HB1 := Lib.hid hb1; clear hb1 HW1
  go_still_tail 17, (by kernel_rfl)
  change wpList _ _ _ _ _ _
  go_wp2_with (go_at_call 25; refine (HG.out _).mono ?_; rintro e w3 ⟨rfl, hb3⟩; have HB3 := Lib.hid (HB1.out.drew.trans (hb3.mono HB1.out.drew.size)); clear q0 q1 q2 q3 q4 q5 q6; have q0 := (box4 ((HB3.out.block _ HI.out.lt).trans HI.out.hb)).1; have q1 := (box4 ((HB3.out.block _ HI.out.lt).trans HI.out.hb)).2.1; have q2 := (box4 ((HB3.out.block _ HI.out.lt).trans HI.out.hb)).2.2.1; have q5 := (box4 ((HB3.out.block _ HI.out.lt).trans HI.out.hb)).2.2.2.2.2.1; replace c0 := hb3.cell (World.block_lt_of_cell? w1 _ c0) |>.trans c0; replace c1 := hb3.cell (World.block_lt_of_cell? w1 _ c1) |>.trans c1; replace c2 := hb3.cell (World.block_lt_of_cell? w1 _ c2) |>.trans c2; replace c3 := hb3.cell (World.block_lt_of_cell? w1 _ c3) |>.trans c3; clear hb3)
  exact bodyPost_ret (v := .tuple #[.int .i64 0, .int .i64 3]) (by simp [results, Try.results8, go_sem]) rfl (.inr (.inl ⟨trivial, hf, rfl, HB3.out⟩))
set_option maxHeartbeats 4000000 in
set_option maxRecDepth 10000000 in
theorem put_room (B p : Nat) (hp : 0 < p) (sl : List Slo) (G : List Gat) (xs : List Exi) (v1 v2 v3 : Value) (g : Gat) (w : World) (h : IsB B p sl G xs v1 v2 v3 w) (hg : gErr p sl.length G.length g = 0) (hf : G.length < 65536) (hK : 0 ≤ g.2.2.2) :
    Calls Try.prog 8 #[.pointer (some ⟨B, 0, none⟩), .agg #[.int .i64 g.1, .int .i64 g.2.1, .int .i64 g.2.2.1, .int .u64 g.2.2.2]] w (PutPost B p sl G xs v1 v2 v3 g w) := by
  obtain ⟨SA, sc, rfl, _⟩ := own_reads h.h1
  obtain ⟨GA, gc, rfl, _⟩ := own_reads h.h2
  have q0 := (box4 h.hb).1
  have HM := Lib.hid (fun W q => made_any B p hp W q)
  have HG := Lib.hid (fun W => gate_any p hp sl.length G.length g.1 g.2.1 g.2.2.1 g.2.2.2 W)
  have hf' : (G.length : Int) < 65536 := by omega
  have HI := Lib.hid h; have HE := Lib.hid hg; clear hg h
  unfold gErr at HE
  unfold PutPost gErr
  generalize hge : gateErr p sl.length G.length g.1 g.2.1 g.2.2.1 g.2.2.2 = er at *
  obtain ⟨k, a, b, K⟩ := g
  simp only at *
  have hE := HE.out
  subst hE
  have HK := Lib.hid hK; clear hK
  go_enter Try.func8, Try.ntmps8
  go_wp2_with (first | (go_at_call 24; refine (HM.out _ (cell_al q0)).mono ?_; rintro e w1 ⟨rfl, hw1⟩; have HW1 := Lib.hid hw1; clear hw1))
  have hb1 : Below w.heap.size w w1 := by rw [← HW1.out]; exact (Below.refl _ _).alloc (Nat.le_refl _) _
  have hx1 : w1.heap[w.heap.size]? = some (.cells #[.int .i64 k, .int .i64 a, .int .i64 b, .int .u64 K] 33 (0, 0)) := by rw [← HW1.out]; exact heap_alloc_new w _
  obtain ⟨c0, c1, c2, c3⟩ := gbox hx1
  have HX1 := Lib.hid hx1; clear hx1
  clear q0
  obtain ⟨q0, q1, q2, q3, q4, q5, q6⟩ := box4 ((hb1.block _ HI.out.lt).trans HI.out.hb)
  have HB1 := Lib.hid hb1; clear hb1 HW1
  go_still_tail 17, (by kernel_rfl)
  change wpList _ _ _ _ _ _
  go_wp2_with (go_at_call 25; refine (HG.out _).mono ?_; rintro e w3 ⟨rfl, hb3⟩; have HB3 := Lib.hid (HB1.out.drew.trans (hb3.mono HB1.out.drew.size)); clear q0 q1 q2 q3 q4 q5 q6; have q0 := (box4 ((HB3.out.block _ HI.out.lt).trans HI.out.hb)).1; have q1 := (box4 ((HB3.out.block _ HI.out.lt).trans HI.out.hb)).2.1; have q2 := (box4 ((HB3.out.block _ HI.out.lt).trans HI.out.hb)).2.2.1; have q5 := (box4 ((HB3.out.block _ HI.out.lt).trans HI.out.hb)).2.2.2.2.2.1; replace c0 := hb3.cell (World.block_lt_of_cell? w1 _ c0) |>.trans c0; replace c1 := hb3.cell (World.block_lt_of_cell? w1 _ c1) |>.trans c1; replace c2 := hb3.cell (World.block_lt_of_cell? w1 _ c2) |>.trans c2; replace c3 := hb3.cell (World.block_lt_of_cell? w1 _ c3) |>.trans c3; clear hb3)
  have nB : ¬ B = w3.heap.size := by have h5 := HI.out.lt; have h6 := HB3.out.size; omega
  have lB : B < w3.heap.size := by have h5 := HI.out.lt; have h6 := HB3.out.size; omega
  have lw : w.heap.size < w3.heap.size := World.block_lt_of_cell? _ _ c0
  have nw : ¬ w.heap.size = w3.heap.size := by omega
  go_region_law (first
    | (refine step_app_cells (W0 := w3) (by repeat (first | exact Below.refl _ _ | refine Below.drew ?_ | refine Below.alloc ?_ (by simp) _)) (B + 1) rfl _ _ 36 33 _ 4 32 rfl Try.underlying36 infoGat rfl (by decide) (by decide) (.slice GA G.length gc) G.length _ [.int .i64 k, .int .i64 a, .int .i64 b, .int .u64 K] rfl _ rfl rfl (heap_alloc_new _ _) (by intro u hu; simp at hu; rcases hu with rfl | rfl | rfl | rfl <;> rfl) (HI.out.below (HB3.out.mono (Nat.le_refl _))).h2 (by have h5 := HI.out.lt; have h6 := HB3.out.size; omega) (by omega) ?_; intro g4 c4 w4 hown4 hg4 hgb4; have hbx := box4 ((hg4.block _ (Nat.lt_of_lt_of_le HI.out.lt HB3.out.size) (own_past HI.out.h2 (Nat.lt_succ_self _))).trans ((HB3.out.block _ HI.out.lt).trans HI.out.hb)); have p2 : w4.cell? ⟨B, 2, none⟩ = _ := hbx.2.2.1; have p5 : w4.frozen? ⟨B, 2, none⟩ = _ := hbx.2.2.2.2.2.1; clear hbx; have HO4 := Lib.hid hown4; have HG4 := Lib.hid hg4; have HB4 := Lib.hid hgb4; clear hown4 hg4 hgb4))
  all_goals clear c0 c1 c2 c3 q0 q1 q2 q5
  all_goals (try simp only [Exit.then])
  all_goals go_wp2
  all_goals refine bodyPost_ret (v := .tuple #[.int .i64 (G.length : Nat), .int .i64 0]) (by simp [results, Try.results8, go_sem]) rfl (.inr (.inr ⟨trivial, hf, _, rfl, (HI.out.below HB3.out).gate (g := (k, a, b, K)) HK.out HO4.out HG4.out, (Fr.of_below HB3.out).trans (Fr.gate HG4.out fun q hq => ?_)⟩))
  all_goals (obtain rfl : g4 = q := by simpa [Value.ownBlock] using hq)
  all_goals exact HB4.out
end Go.Proofs.Ytkcdlbclodjjhaa
