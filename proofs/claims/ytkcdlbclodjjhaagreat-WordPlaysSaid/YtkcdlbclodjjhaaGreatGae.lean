/- Contracts and plain laws of chapter 13, merged: We Wf Wg Wh Wi. -/
import Derived.Test.YtkcdlbclodjjhaaGreatWd
import Derived.Deep.RegionLaw
import Derived.Deep.AppendLies
import Derived.StillTailTactics
import Derived.Deep.RegionHeld3
/- A board in memory; contracts of made, Put, Const. -/
namespace Go.Proofs.YtkcdlbclodjjhaaGreat
open Go.RowKit

/-- A list of an exit: none, or a row of the board's own. -/
def RowOr (W : World) (base : Nat) (l : List Int) (A : Option Addr) (c : Nat) : Prop := l = [] ∨ W.ownsRow base 3 1 (.slice A l.length c) l.length (iCells l)
theorem RowOr.map {W W' : World} {base : Nat} {l : List Int} {A : Option Addr} {c : Nat} (h : RowOr W base l A c) (f : W.ownsRow base 3 1 (.slice A l.length c) l.length (iCells l) → W'.ownsRow base 3 1 (.slice A l.length c) l.length (iCells l)) : RowOr W' base l A c := h.imp id f
theorem RowOr.two {W w W' : World} {base : Nat} {l : List Int} {A : Option Addr} {c : Nat} (h : RowOr W base l A c) (h0 : RowOr w base l A c) (f : W.ownsRow base 3 1 (.slice A l.length c) l.length (iCells l) → w.ownsRow base 3 1 (.slice A l.length c) l.length (iCells l) → W'.ownsRow base 3 1 (.slice A l.length c) l.length (iCells l)) : RowOr W' base l A c := by
  rcases h with h | h
  · exact .inl h
  · rcases h0 with h0 | h0
    · exact .inl h0
    · exact .inr (f h h0)
/-- A board lies in block B. -/
structure IsB (B p : Nat) (sl : List Slo) (G : List Gat) (xs : List Exi) (v1 v2 v3 : Value) (W : World) : Prop where
  h1 : W.ownsRow (B + 1) 40 2 v1 sl.length (sloCells sl)
  h2 : W.ownsRow (B + 1) 42 4 v2 G.length (gatCells G)
  h3 : W.ownsRow (B + 1) 44 2 v3 xs.length (exiCells xs)
  hx : ∀ x ∈ xs, RowOr W (B + 1) x.tl x.A x.c ∧ RowOr W (B + 1) x.gl x.B x.d
  hb : W.heap[B]? = some (.cells #[.int .u64 p, v1, v2, v3] 54 (0, 0))
  hk : ∀ g ∈ G, 0 ≤ g.2.2.2
  hz : G.length ≤ 65536
theorem IsB.lt {B p : Nat} {sl : List Slo} {G : List Gat} {xs : List Exi} {v1 v2 v3 : Value} {W : World} (h : IsB B p sl G xs v1 v2 v3 W) : B < W.heap.size := (Array.getElem?_eq_some_iff.1 h.hb).1
theorem IsB.below {B p : Nat} {sl : List Slo} {G : List Gat} {xs : List Exi} {v1 v2 v3 : Value} {W W' : World} (h : IsB B p sl G xs v1 v2 v3 W) (hb : Below W.heap.size W W') : IsB B p sl G xs v1 v2 v3 W' :=
  ⟨own_below h.h1 hb, own_below h.h2 hb, own_below h.h3 hb, fun x hx => ⟨(h.hx x hx).1.map fun o => own_below o hb, (h.hx x hx).2.map fun o => own_below o hb⟩, (hb.block _ h.lt).trans h.hb, h.hk, h.hz⟩
/-- What else an act on a board turns: the board's block and its gates' row. -/
structure Fr (B : Nat) (v v' : Value) (W W' : World) : Prop where
  os : W'.os = W.os
  tape : W'.tape = W.tape
  output : W'.output = W.output
  size : W.heap.size ≤ W'.heap.size
  block : ∀ k, k < W.heap.size → k ≠ B → some k ≠ v.ownBlock → W'.heap[k]? = W.heap[k]?
  own : ∀ k, v'.ownBlock = some k → v.ownBlock = some k ∨ W.heap.size ≤ k
theorem Fr.refl (B : Nat) (v : Value) (W : World) : Fr B v v W W := ⟨rfl, rfl, rfl, Nat.le_refl _, fun _ _ _ _ => rfl, fun _ h => .inl h⟩
theorem Fr.ne {B : Nat} {v v' : Value} {W W' : World} (h : Fr B v v' W W') {k : Nat} (hk : k < W.heap.size) (hn : some k ≠ v.ownBlock) : some k ≠ v'.ownBlock := fun e => by
  rcases h.own k e.symm with e2 | e2
  · exact hn e2.symm
  · omega
theorem Fr.trans {B : Nat} {v v' v'' : Value} {W W' W'' : World} (h : Fr B v v' W W') (h' : Fr B v' v'' W' W'') : Fr B v v'' W W'' :=
  ⟨h'.os.trans h.os, h'.tape.trans h.tape, h'.output.trans h.output, Nat.le_trans h.size h'.size,
    fun k hk hB hn => (h'.block k (Nat.lt_of_lt_of_le hk h.size) hB (h.ne hk hn)).trans (h.block k hk hB hn),
    fun k e => by
      rcases h'.own k e with e2 | e2
      · exact h.own k e2
      · exact .inr (Nat.le_trans h.size e2)⟩
theorem Fr.below {B : Nat} {v v' : Value} {W W' W'' : World} (h : Fr B v v' W W') (hb : Below W'.heap.size W' W'') : Fr B v v' W W'' :=
  ⟨hb.os.trans h.os, hb.tape.trans h.tape, hb.output.trans h.output, Nat.le_trans h.size hb.size,
    fun k hk hB hn => (hb.block k (Nat.lt_of_lt_of_le hk h.size)).trans (h.block k hk hB hn), h.own⟩
theorem Fr.of_below {B : Nat} {v : Value} {W W' : World} (hb : Below W.heap.size W W') : Fr B v v W W' := (Fr.refl B v W).below hb
theorem Fr.cell {B : Nat} {v v' : Value} {W W' : World} (h : Fr B v v' W W') {a : Addr} {u : Value} (hu : W.cell? a = some u) (hB : a.block ≠ B) (hn : some a.block ≠ v.ownBlock) : W'.cell? a = some u :=
  (World.cell?_of_block (h.block a.block (World.block_lt_of_cell? W a hu) hB hn)).trans hu
theorem Fr.own_int {B : Nat} {v v' : Value} {W W' : World} (h : Fr B v v' W W') {base n : Nat} {u : Value} {cs gs : List Value} {m : Nat} (hg : W.ownsRow (B + 1) 42 4 v m gs) (ho : W.ownsRow base 3 1 u n cs) (hB : B < base) : W'.ownsRow base 3 1 u n cs := by
  have hne := own_ne ho hg (by decide)
  refine ⟨ho.1, ?_⟩
  rcases ho.2 with hn | ⟨g, cap, cur, rfl, hb, hgg, rest⟩
  · exact .inl hn
  · refine .inr ⟨g, cap, cur, rfl, hb, ?_, rest⟩
    rw [h.block g (Array.getElem?_eq_some_iff.1 hgg).1 (by omega) (by simpa [Value.ownBlock] using hne)]
    exact hgg
theorem box4 {W : World} {b : Nat} {v0 v1 v2 v3 : Value} {t : TypeId} (h : W.heap[b]? = some (.cells #[v0, v1, v2, v3] t (0, 0))) :
    W.cell? ⟨b, 0, none⟩ = some v0 ∧ W.cell? ⟨b, 1, none⟩ = some v1 ∧ W.cell? ⟨b, 2, none⟩ = some v2 ∧ W.cell? ⟨b, 3, none⟩ = some v3 ∧ W.frozen? ⟨b, 1, none⟩ = false ∧ W.frozen? ⟨b, 2, none⟩ = false ∧ W.frozen? ⟨b, 3, none⟩ = false := by
  simp [World.cell?, World.frozen?, h]
/-- The gates' row grew. -/
theorem IsB.gate {B p : Nat} {sl : List Slo} {G : List Gat} {xs : List Exi} {v1 v2 v3 v : Value} {W W3 : World} (h : IsB B p sl G xs v1 v2 v3 W) {g : Gat} (hg0 : 0 ≤ g.2.2.2) (hgz : G.length < 65536) (ho : W3.ownsRow (B + 1) 42 4 v (G.length + 1) (gatCells G ++ [.int .i64 g.1, .int .i64 g.2.1, .int .i64 g.2.2.1, .int .u64 g.2.2.2])) (hg : W.grownBy W3 v2.ownBlock) :
    IsB B p sl (G ++ [g]) xs v1 v v3 (W3.setCell ⟨B, 2, none⟩ v) := by
  refine ⟨own_set (h.h1.kept hg (own_ne h.h1 h.h2 (by decide))) (Nat.lt_succ_self _) _, ?_, own_set (h.h3.kept hg (own_ne h.h3 h.h2 (by decide))) (Nat.lt_succ_self _) _, fun x hx => ⟨(h.hx x hx).1.map fun o => own_set (o.kept hg (own_ne o h.h2 (by decide))) (Nat.lt_succ_self _) _, (h.hx x hx).2.map fun o => own_set (o.kept hg (own_ne o h.h2 (by decide))) (Nat.lt_succ_self _) _⟩, ?_, ?_, by simp only [List.length_append, List.length_cons, List.length_nil]; omega⟩
  · have := own_set ho (p := ⟨B, 2, none⟩) (Nat.lt_succ_self _) v
    rw [← gatCells_snoc] at this
    simpa using this
  · exact box_set ((hg.block _ h.lt (own_past h.h2 (Nat.lt_succ_self _))).trans h.hb) v
  · intro y hy
    rcases List.mem_append.1 hy with e | e
    · exact h.hk y e
    · rw [List.mem_singleton.1 e]; exact hg0
theorem Fr.gate {B : Nat} {v2 v : Value} {W W3 : World} (hg : W.grownBy W3 v2.ownBlock) (hf : ∀ k, v.ownBlock = some k → v2.ownBlock = some k ∨ W.heap.size ≤ k) : Fr B v2 v W (W3.setCell ⟨B, 2, none⟩ v) :=
  ⟨hg.os, hg.tape, hg.output, by simpa [World.setCell] using hg.size, fun k hk hB hn => by rw [Below.heap_setCell _ _ _ _ (by simpa using hB)]; exact hg.block k hk hn, hf⟩

set_option maxRecDepth 100000 in
theorem made_any (B p : Nat) (hp : 0 < p) (w : World) (q0 : w.cell? ⟨B, 0, none⟩ = some (.int .u64 p)) : Calls Tryz.prog 22 #[.pointer (some ⟨B, 0, none⟩)] w fun e w' => e = .returned (.bool true) ∧ w = w' := by
  have h1 : ((p : Int) == 0) = false := by simp; omega
  go_enter Tryz.func22, Tryz.ntmps22
  go_wp2
  go_ret
  exact ⟨ret_bl (by simp; omega), rfl⟩
end Go.Proofs.YtkcdlbclodjjhaaGreat

/- Contracts of the board's Put and Const. -/
namespace Go.Proofs.YtkcdlbclodjjhaaGreat
open Go.RowKit

section
variable {P : Program} {ops : Array Oper} {o : Oper} {a : Act} {K : Act → World → Prop} {Q : Exit → Act → World → Prop} {E : Prop}
/-- One element of several cells is appended to a row of the call's own, as a step of a region that draws its order. -/
theorem step_app_cells {W0 W : World} (hW : Below W0.heap.size W0 W) (base : Nat) (hgd : o.guard = none) (s x : Operand) (t e : TypeId) (z : Value) (size bytes : Nat)
    (ho : o.op = .call { callee := .builtin .append, args := #[s, x], argTypes := #[t, t] })
    (ht : P.underlying t = some (.slice e)) (hinfo : (P.info? e).map (fun i => (i.zero, i.size, i.bytes)) = some (some z, size, bytes)) (hz : z.cells.size = size) (hs0 : 0 < size) (hb0 : 0 < bytes)
    (v : Value) (n : Nat) (xs ys : List Value) (hs : a.eval s = v) (g : Nat) (hx : a.eval x = .slice (some ⟨g, 0, none⟩) 1 1) (hys : ys.length = size) (hc : W.heap[g]? = some (.cells ys.toArray e (0, 0))) (h1 : ∀ u ∈ ys, u.oneCell' = true)
    (HO : W0.ownsRow base e size v n xs) (hbase : base ≤ W0.heap.size) (hl : (n + 1) * bytes ≤ 140737488355328)
    (h : ∀ g1 c1 w1, w1.ownsRow base e size (.slice (some ⟨g1, 0, none⟩) (n + 1) c1) (n + 1) (xs ++ ys) → W0.grownBy w1 v.ownBlock → (v.ownBlock = some g1 ∨ W0.heap.size ≤ g1) → K (a.put o.dst (.slice (some ⟨g1, 0, none⟩) (n + 1) c1)) w1) :
    if Region.wanted o (yielded ops a.tmps) = true then Oper.wp P o a W K Q else E := by
  obtain ⟨i0, hi, hzz⟩ := Option.map_eq_some_iff.1 hinfo
  simp only [Prod.mk.injEq] at hzz
  obtain ⟨hz0, hz1, hz2⟩ := hzz
  have hlen : n + 1 ≤ 140737488355328 := Nat.le_trans (Nat.le_mul_of_pos_right _ hb0) hl
  have hg0 : W0.grownBy W v.ownBlock := ⟨hW.os, hW.tape, hW.output, hW.size, fun k hk _ => hW.block k hk⟩
  refine step_append_lies W hgd s x t ho base e i0 z size bytes ht hi hz0 hz1 hz2 hz hs0 v n xs hs (own_below HO hW) ⟨g, 0, none⟩ 1 1 ys hx (by rw [hys]; simp)
    (by simpa using World.news_of_block (cs := ys.toArray) (t := e) (fr := (0, 0)) hc) h1 (by omega) (by simp only [maxLen]; omega) hl (Nat.le_trans hbase hW.size) _ rfl ?_
  intro g1 c1 w1 hown hg hgb _
  refine h g1 c1 w1 hown (World.grownBy.trans hg0 hg) ?_
  rcases hgb with e1 | e1
  · exact .inl e1
  · exact .inr (by rw [e1]; exact hW.size)
end
theorem gbox {W : World} {b : Nat} {v0 v1 v2 v3 : Value} {t : TypeId} (h : W.heap[b]? = some (.cells #[v0, v1, v2, v3] t (0, 0))) :
    W.cell? ⟨b, 0, none⟩ = some v0 ∧ W.cell? ⟨b, 1, none⟩ = some v1 ∧ W.cell? ⟨b, 2, none⟩ = some v2 ∧ W.cell? ⟨b, 3, none⟩ = some v3 := ⟨(box4 h).1, (box4 h).2.1, (box4 h).2.2.1, (box4 h).2.2.2.1⟩
theorem cell_al {w : World} {o : Obj} {a : Addr} {v : Value} (h : w.cell? a = some v) : (w.alloc o).cell? a = some v := (((Below.refl _ _).alloc (Nat.le_refl _) o).cell (World.block_lt_of_cell? _ _ h)).trans h
/-- What an answer of a call that adds one gate says. -/
def PutPost (B p : Nat) (sl : List Slo) (G : List Gat) (xs : List Exi) (v1 v2 v3 : Value) (g : Gat) (W : World) (e : Ending) (W' : World) : Prop :=
  (gErr p sl.length G.length g ≠ 0 ∧ e = .returned (.tuple #[.int .i64 0, .int .i64 (gErr p sl.length G.length g)]) ∧ Below W.heap.size W W') ∨
  (gErr p sl.length G.length g = 0 ∧ 65536 ≤ G.length ∧ e = .returned (.tuple #[.int .i64 0, .int .i64 3]) ∧ Below W.heap.size W W') ∨
  (gErr p sl.length G.length g = 0 ∧ G.length < 65536 ∧ ∃ v, e = .returned (.tuple #[.int .i64 (G.length : Nat), .int .i64 0]) ∧ IsB B p sl (G ++ [g]) xs v1 v v3 W' ∧ Fr B v2 v W W')
set_option maxRecDepth 100000 in
theorem put_bad (B p : Nat) (hp : 0 < p) (sl : List Slo) (G : List Gat) (xs : List Exi) (v1 v2 v3 : Value) (g : Gat) (w : World) (h : IsB B p sl G xs v1 v2 v3 w) (hg : gErr p sl.length G.length g ≠ 0) :
    Calls Tryz.prog 27 #[.pointer (some ⟨B, 0, none⟩), .agg #[.int .i64 g.1, .int .i64 g.2.1, .int .i64 g.2.2.1, .int .u64 g.2.2.2]] w (PutPost B p sl G xs v1 v2 v3 g w) := by
  obtain ⟨SA, sc, rfl, _⟩ := own_reads h.h1
  obtain ⟨GA, gc, rfl, _⟩ := own_reads h.h2
  have q0 := (box4 h.hb).1
  have HM := Lib.hid (fun W q => made_any B p hp W q)
  have HG := Lib.hid (fun W => gate_any p hp sl.length G.length g.1 g.2.1 g.2.2.1 g.2.2.2 W)
  have hgb : (gErr p sl.length G.length g == 0) = false := by simpa using hg
  have HI := Lib.hid h; have HE := Lib.hid hg; clear hg h
  unfold gErr at HE hgb
  unfold PutPost gErr
  generalize hge : gateErr p sl.length G.length g.1 g.2.1 g.2.2.1 g.2.2.2 = er at *
  obtain ⟨k, a, b, K⟩ := g
  simp only at *
  go_enter Tryz.func27, Tryz.ntmps27
  go_wp2_with (first | (go_at_call 22; refine (HM.out _ (cell_al q0)).mono ?_; rintro e w1 ⟨rfl, hw1⟩; have HW1 := Lib.hid hw1; clear hw1))
  have hb1 : Below w.heap.size w w1 := by rw [← HW1.out]; exact (Below.refl _ _).alloc (Nat.le_refl _) _
  have hx1 : w1.heap[w.heap.size]? = some (.cells #[.int .i64 k, .int .i64 a, .int .i64 b, .int .u64 K] 42 (0, 0)) := by rw [← HW1.out]; exact heap_alloc_new w _
  obtain ⟨c0, c1, c2, c3⟩ := gbox hx1
  have HX1 := Lib.hid hx1; clear hx1
  clear q0
  obtain ⟨q0, q1, q2, q3, q4, q5, q6⟩ := box4 ((hb1.block _ HI.out.lt).trans HI.out.hb)
  have HB1 := Lib.hid hb1; clear hb1 HW1
  go_still_tail 17, (by kernel_rfl)
  change wpList _ _ _ _ _ _
  go_wp2_with (go_at_call 61; refine (HG.out _).mono ?_; rintro e w3 ⟨rfl, hb3⟩; have HB3 := Lib.hid (HB1.out.drew.trans (hb3.mono HB1.out.drew.size)); clear q0 q1 q2 q3 q4 q5 q6; have q0 := (box4 ((HB3.out.block _ HI.out.lt).trans HI.out.hb)).1; have q1 := (box4 ((HB3.out.block _ HI.out.lt).trans HI.out.hb)).2.1; have q2 := (box4 ((HB3.out.block _ HI.out.lt).trans HI.out.hb)).2.2.1; have q5 := (box4 ((HB3.out.block _ HI.out.lt).trans HI.out.hb)).2.2.2.2.2.1; replace c0 := hb3.cell (World.block_lt_of_cell? w1 _ c0) |>.trans c0; replace c1 := hb3.cell (World.block_lt_of_cell? w1 _ c1) |>.trans c1; replace c2 := hb3.cell (World.block_lt_of_cell? w1 _ c2) |>.trans c2; replace c3 := hb3.cell (World.block_lt_of_cell? w1 _ c3) |>.trans c3; clear hb3)
  exact bodyPost_ret (v := .tuple #[.int .i64 0, .int .i64 er]) (by simp [results, Tryz.results27, go_sem]) rfl (.inl ⟨HE.out, rfl, HB3.out⟩)
set_option maxRecDepth 100000 in
theorem put_full (B p : Nat) (hp : 0 < p) (sl : List Slo) (G : List Gat) (xs : List Exi) (v1 v2 v3 : Value) (g : Gat) (w : World) (h : IsB B p sl G xs v1 v2 v3 w) (hg : gErr p sl.length G.length g = 0) (hf : 65536 ≤ G.length) :
    Calls Tryz.prog 27 #[.pointer (some ⟨B, 0, none⟩), .agg #[.int .i64 g.1, .int .i64 g.2.1, .int .i64 g.2.2.1, .int .u64 g.2.2.2]] w (PutPost B p sl G xs v1 v2 v3 g w) := by
  obtain ⟨SA, sc, rfl, _⟩ := own_reads h.h1
  obtain ⟨GA, gc, rfl, _⟩ := own_reads h.h2
  have q0 := (box4 h.hb).1
  have HM := Lib.hid (fun W q => made_any B p hp W q)
  have HG := Lib.hid (fun W => gate_any p hp sl.length G.length g.1 g.2.1 g.2.2.1 g.2.2.2 W)
  have hf' : (65536 : Int) ≤ (G.length : Int) := by omega
  have HI := Lib.hid h; have HE := Lib.hid hg; clear hg h
  unfold gErr at HE
  unfold PutPost gErr
  generalize hge : gateErr p sl.length G.length g.1 g.2.1 g.2.2.1 g.2.2.2 = er at *
  obtain ⟨k, a, b, K⟩ := g
  simp only at *
  have hE := HE.out
  subst hE
  go_enter Tryz.func27, Tryz.ntmps27
  go_wp2_with (first | (go_at_call 22; refine (HM.out _ (cell_al q0)).mono ?_; rintro e w1 ⟨rfl, hw1⟩; have HW1 := Lib.hid hw1; clear hw1))
  have hb1 : Below w.heap.size w w1 := by rw [← HW1.out]; exact (Below.refl _ _).alloc (Nat.le_refl _) _
  have hx1 : w1.heap[w.heap.size]? = some (.cells #[.int .i64 k, .int .i64 a, .int .i64 b, .int .u64 K] 42 (0, 0)) := by rw [← HW1.out]; exact heap_alloc_new w _
  obtain ⟨c0, c1, c2, c3⟩ := gbox hx1
  have HX1 := Lib.hid hx1; clear hx1
  clear q0
  obtain ⟨q0, q1, q2, q3, q4, q5, q6⟩ := box4 ((hb1.block _ HI.out.lt).trans HI.out.hb)
  have HB1 := Lib.hid hb1; clear hb1 HW1
  go_still_tail 17, (by kernel_rfl)
  change wpList _ _ _ _ _ _
  go_wp2_with (go_at_call 61; refine (HG.out _).mono ?_; rintro e w3 ⟨rfl, hb3⟩; have HB3 := Lib.hid (HB1.out.drew.trans (hb3.mono HB1.out.drew.size)); clear q0 q1 q2 q3 q4 q5 q6; have q0 := (box4 ((HB3.out.block _ HI.out.lt).trans HI.out.hb)).1; have q1 := (box4 ((HB3.out.block _ HI.out.lt).trans HI.out.hb)).2.1; have q2 := (box4 ((HB3.out.block _ HI.out.lt).trans HI.out.hb)).2.2.1; have q5 := (box4 ((HB3.out.block _ HI.out.lt).trans HI.out.hb)).2.2.2.2.2.1; replace c0 := hb3.cell (World.block_lt_of_cell? w1 _ c0) |>.trans c0; replace c1 := hb3.cell (World.block_lt_of_cell? w1 _ c1) |>.trans c1; replace c2 := hb3.cell (World.block_lt_of_cell? w1 _ c2) |>.trans c2; replace c3 := hb3.cell (World.block_lt_of_cell? w1 _ c3) |>.trans c3; clear hb3)
  exact bodyPost_ret (v := .tuple #[.int .i64 0, .int .i64 3]) (by simp [results, Tryz.results27, go_sem]) rfl (.inr (.inl ⟨trivial, hf, rfl, HB3.out⟩))
set_option maxHeartbeats 4000000 in
set_option maxRecDepth 10000000 in
theorem put_room (B p : Nat) (hp : 0 < p) (sl : List Slo) (G : List Gat) (xs : List Exi) (v1 v2 v3 : Value) (g : Gat) (w : World) (h : IsB B p sl G xs v1 v2 v3 w) (hg : gErr p sl.length G.length g = 0) (hf : G.length < 65536) (hK : 0 ≤ g.2.2.2) :
    Calls Tryz.prog 27 #[.pointer (some ⟨B, 0, none⟩), .agg #[.int .i64 g.1, .int .i64 g.2.1, .int .i64 g.2.2.1, .int .u64 g.2.2.2]] w (PutPost B p sl G xs v1 v2 v3 g w) := by
  obtain ⟨SA, sc, rfl, _⟩ := own_reads h.h1
  obtain ⟨GA, gc, rfl, _⟩ := own_reads h.h2
  have q0 := (box4 h.hb).1
  have HM := Lib.hid (fun W q => made_any B p hp W q)
  have HG := Lib.hid (fun W => gate_any p hp sl.length G.length g.1 g.2.1 g.2.2.1 g.2.2.2 W)
  have hf' : (G.length : Int) < 65536 := by omega
  have HI := Lib.hid h; have HE := Lib.hid hg; clear hg h
  unfold gErr at HE
  unfold PutPost gErr
  generalize hge : gateErr p sl.length G.length g.1 g.2.1 g.2.2.1 g.2.2.2 = er at *
  obtain ⟨k, a, b, K⟩ := g
  simp only at *
  have hE := HE.out
  subst hE
  have HK := Lib.hid hK; clear hK
  go_enter Tryz.func27, Tryz.ntmps27
  go_wp2_with (first | (go_at_call 22; refine (HM.out _ (cell_al q0)).mono ?_; rintro e w1 ⟨rfl, hw1⟩; have HW1 := Lib.hid hw1; clear hw1))
  have hb1 : Below w.heap.size w w1 := by rw [← HW1.out]; exact (Below.refl _ _).alloc (Nat.le_refl _) _
  have hx1 : w1.heap[w.heap.size]? = some (.cells #[.int .i64 k, .int .i64 a, .int .i64 b, .int .u64 K] 42 (0, 0)) := by rw [← HW1.out]; exact heap_alloc_new w _
  obtain ⟨c0, c1, c2, c3⟩ := gbox hx1
  have HX1 := Lib.hid hx1; clear hx1
  clear q0
  obtain ⟨q0, q1, q2, q3, q4, q5, q6⟩ := box4 ((hb1.block _ HI.out.lt).trans HI.out.hb)
  have HB1 := Lib.hid hb1; clear hb1 HW1
  go_still_tail 17, (by kernel_rfl)
  change wpList _ _ _ _ _ _
  go_wp2_with (go_at_call 61; refine (HG.out _).mono ?_; rintro e w3 ⟨rfl, hb3⟩; have HB3 := Lib.hid (HB1.out.drew.trans (hb3.mono HB1.out.drew.size)); clear q0 q1 q2 q3 q4 q5 q6; have q0 := (box4 ((HB3.out.block _ HI.out.lt).trans HI.out.hb)).1; have q1 := (box4 ((HB3.out.block _ HI.out.lt).trans HI.out.hb)).2.1; have q2 := (box4 ((HB3.out.block _ HI.out.lt).trans HI.out.hb)).2.2.1; have q5 := (box4 ((HB3.out.block _ HI.out.lt).trans HI.out.hb)).2.2.2.2.2.1; replace c0 := hb3.cell (World.block_lt_of_cell? w1 _ c0) |>.trans c0; replace c1 := hb3.cell (World.block_lt_of_cell? w1 _ c1) |>.trans c1; replace c2 := hb3.cell (World.block_lt_of_cell? w1 _ c2) |>.trans c2; replace c3 := hb3.cell (World.block_lt_of_cell? w1 _ c3) |>.trans c3; clear hb3)
  have nB : ¬ B = w3.heap.size := by have h5 := HI.out.lt; have h6 := HB3.out.size; omega
  have lB : B < w3.heap.size := by have h5 := HI.out.lt; have h6 := HB3.out.size; omega
  have lw : w.heap.size < w3.heap.size := World.block_lt_of_cell? _ _ c0
  have nw : ¬ w.heap.size = w3.heap.size := by omega
  go_region_law (first
    | (refine step_app_cells (W0 := w3) (by repeat (first | exact Below.refl _ _ | refine Below.drew ?_ | refine Below.alloc ?_ (by simp) _)) (B + 1) rfl _ _ 33 42 _ 4 32 rfl Tryz.underlying33 infoGat rfl (by decide) (by decide) (.slice GA G.length gc) G.length _ [.int .i64 k, .int .i64 a, .int .i64 b, .int .u64 K] rfl _ rfl rfl (heap_alloc_new _ _) (by intro u hu; simp at hu; rcases hu with rfl | rfl | rfl | rfl <;> rfl) (HI.out.below (HB3.out.mono (Nat.le_refl _))).h2 (by have h5 := HI.out.lt; have h6 := HB3.out.size; omega) (by omega) ?_; intro g4 c4 w4 hown4 hg4 hgb4; have hbx := box4 ((hg4.block _ (Nat.lt_of_lt_of_le HI.out.lt HB3.out.size) (own_past HI.out.h2 (Nat.lt_succ_self _))).trans ((HB3.out.block _ HI.out.lt).trans HI.out.hb)); have p2 : w4.cell? ⟨B, 2, none⟩ = _ := hbx.2.2.1; have p5 : w4.frozen? ⟨B, 2, none⟩ = _ := hbx.2.2.2.2.2.1; clear hbx; have HO4 := Lib.hid hown4; have HG4 := Lib.hid hg4; have HB4 := Lib.hid hgb4; clear hown4 hg4 hgb4))
  all_goals clear c0 c1 c2 c3 q0 q1 q2 q5
  all_goals (try simp only [Exit.then])
  all_goals go_wp2
  all_goals refine bodyPost_ret (v := .tuple #[.int .i64 (G.length : Nat), .int .i64 0]) (by simp [results, Tryz.results27, go_sem]) rfl (.inr (.inr ⟨trivial, hf, _, rfl, (HI.out.below HB3.out).gate (g := (k, a, b, K)) HK.out (by omega) HO4.out HG4.out, (Fr.of_below HB3.out).trans (Fr.gate HG4.out fun q hq => ?_)⟩))
  all_goals (obtain rfl : g4 = q := by simpa [Value.ownBlock] using hq)
  all_goals exact HB4.out
end Go.Proofs.YtkcdlbclodjjhaaGreat

/- Contracts of the board as a ring: put, Fixed, Sum, Less, Product, where there is room. -/
namespace Go.Proofs.YtkcdlbclodjjhaaGreat
open Go.RowKit

theorem put_any (B p : Nat) (hp : 0 < p) (sl : List Slo) (G : List Gat) (xs : List Exi) (v1 v2 v3 : Value) (g : Gat) (hK : 0 ≤ g.2.2.2) (w : World) (h : IsB B p sl G xs v1 v2 v3 w) :
    Calls Tryz.prog 27 #[.pointer (some ⟨B, 0, none⟩), .agg #[.int .i64 g.1, .int .i64 g.2.1, .int .i64 g.2.2.1, .int .u64 g.2.2.2]] w (PutPost B p sl G xs v1 v2 v3 g w) := by
  by_cases hg : gErr p sl.length G.length g = 0
  · by_cases hf : G.length < 65536
    · exact put_room B p hp sl G xs v1 v2 v3 g w h hg hf hK
    · exact put_full B p hp sl G xs v1 v2 v3 g w h hg (by omega)
  · exact put_bad B p hp sl G xs v1 v2 v3 g w h hg
/-- A board has got gates; what is answered. -/
def OkPost (B p : Nat) (sl : List Slo) (G' : List Gat) (xs : List Exi) (v1 v2 v3 : Value) (W : World) (r : Value) (e : Ending) (W' : World) : Prop :=
  e = .returned r ∧ ∃ v, IsB B p sl G' xs v1 v v3 W' ∧ Fr B v2 v W W'
theorem put_ok (B p : Nat) (hp : 0 < p) (sl : List Slo) (G : List Gat) (xs : List Exi) (v1 v2 v3 : Value) (g : Gat) (hK : 0 ≤ g.2.2.2) (hg : gErr p sl.length G.length g = 0) (hf : G.length < 65536) (w : World) (h : IsB B p sl G xs v1 v2 v3 w) :
    Calls Tryz.prog 27 #[.pointer (some ⟨B, 0, none⟩), .agg #[.int .i64 g.1, .int .i64 g.2.1, .int .i64 g.2.2.1, .int .u64 g.2.2.2]] w (OkPost B p sl (G ++ [g]) xs v1 v2 v3 w (.tuple #[.int .i64 (G.length : Nat), .int .i64 0])) :=
  (put_room B p hp sl G xs v1 v2 v3 g w h hg hf hK).mono fun e W' he => by
    rcases he with ⟨h1, _⟩ | ⟨_, h1, _⟩ | ⟨_, _, v, h1, h2, h3⟩
    · exact absurd hg h1
    · omega
    · exact ⟨h1, v, h2, h3⟩
theorem OkPost.from {B p : Nat} {sl : List Slo} {G' : List Gat} {xs : List Exi} {v1 v2 v3 : Value} {w W : World} {r : Value} {e : Ending} {W' : World} (h : OkPost B p sl G' xs v1 v2 v3 W r e W') (hb : Below w.heap.size w W) : ∃ v, IsB B p sl G' xs v1 v v3 W' ∧ Fr B v2 v w W' := by
  obtain ⟨_, v, h1, h2⟩ := h
  exact ⟨v, h1, (Fr.of_below hb).trans h2⟩
theorem put_det (B p : Nat) (hp : 0 < p) (sl : List Slo) (G : List Gat) (xs : List Exi) (v1 v2 v3 : Value) (g : Gat) (hK : 0 ≤ g.2.2.2) (w : World) (h : IsB B p sl G xs v1 v2 v3 w) :
    ∃ a b : Int, Calls Tryz.prog 27 #[.pointer (some ⟨B, 0, none⟩), .agg #[.int .i64 g.1, .int .i64 g.2.1, .int .i64 g.2.2.1, .int .u64 g.2.2.2]] w fun e W' => e = .returned (.tuple #[.int .i64 a, .int .i64 b]) ∧ PutPost B p sl G xs v1 v2 v3 g w e W' := by
  have hc := put_any B p hp sl G xs v1 v2 v3 g hK w h
  by_cases hg : gErr p sl.length G.length g = 0
  · by_cases hf : G.length < 65536
    · refine ⟨(G.length : Nat), 0, hc.mono fun e W' he => ⟨?_, he⟩⟩
      rcases he with ⟨h1, h2, _⟩ | ⟨_, h1, h2, _⟩ | ⟨_, _, v, h2, _⟩
      · exact absurd hg h1
      · omega
      · exact h2
    · refine ⟨0, 3, hc.mono fun e W' he => ⟨?_, he⟩⟩
      rcases he with ⟨h1, h2, _⟩ | ⟨_, h1, h2, _⟩ | ⟨_, h1, v, h2, _⟩
      · exact absurd hg h1
      · exact h2
      · exact absurd h1 hf
  · refine ⟨0, gErr p sl.length G.length g, hc.mono fun e W' he => ⟨?_, he⟩⟩
    rcases he with ⟨h1, h2, _⟩ | ⟨h0, h1, h2, _⟩ | ⟨h0, h1, v, h2, _⟩
    · exact h2
    · exact absurd h0 hg
    · exact absurd h0 hg
set_option maxRecDepth 100000 in
theorem const_any (B p : Nat) (hp : 0 < p) (sl : List Slo) (G : List Gat) (xs : List Exi) (v1 v2 v3 : Value) (k : Int) (hK : 0 ≤ k) (w : World) (h : IsB B p sl G xs v1 v2 v3 w) :
    Calls Tryz.prog 29 #[.pointer (some ⟨B, 0, none⟩), .int .u64 k] w (PutPost B p sl G xs v1 v2 v3 (2, 0, 0, k) w) := by
  obtain ⟨x, y, hc⟩ := put_det B p hp sl G xs v1 v2 v3 (2, 0, 0, k) hK w h
  have HC := Lib.hid hc; clear hc h
  generalize hQ : PutPost B p sl G xs v1 v2 v3 (2, 0, 0, k) w = Q at *
  clear hQ
  go_enter Tryz.func29, Tryz.ntmps29
  go_wp2_with (go_at_call 27; refine HC.out.mono ?_; rintro e w1 ⟨rfl, he⟩; have HE := Lib.hid he; clear he)
  exact HE.out
set_option maxRecDepth 100000 in
theorem wput_ok (B p : Nat) (hp : 0 < p) (sl : List Slo) (G : List Gat) (xs : List Exi) (v1 v2 v3 : Value) (g : Gat) (hK : 0 ≤ g.2.2.2) (hg : gErr p sl.length G.length g = 0) (hf : G.length < 65536) (w : World) (h : IsB B p sl G xs v1 v2 v3 w) :
    Calls Tryz.prog 124 #[.agg #[.pointer (some ⟨B, 0, none⟩)], .agg #[.int .i64 g.1, .int .i64 g.2.1, .int .i64 g.2.2.1, .int .u64 g.2.2.2]] w (OkPost B p sl (G ++ [g]) xs v1 v2 v3 w (.int .i64 (G.length : Nat))) := by
  have HP : Hid (∀ W, Below w.heap.size w W → Calls Tryz.prog 27 #[.pointer (some ⟨B, 0, none⟩), .agg #[.int .i64 g.1, .int .i64 g.2.1, .int .i64 g.2.2.1, .int .u64 g.2.2.2]] W fun e W' => e = .returned (.tuple #[.int .i64 (G.length : Nat), .int .i64 0]) ∧ ∃ v, IsB B p sl (G ++ [g]) xs v1 v v3 W' ∧ Fr B v2 v w W') :=
    Lib.hid fun W hb => (put_ok B p hp sl G xs v1 v2 v3 g hK hg hf W (h.below hb)).mono fun _ _ he => ⟨he.1, he.from hb⟩
  obtain ⟨k, a, b, K⟩ := g
  simp only at *
  clear h hg hK hf
  go_enter Tryz.func124, Tryz.ntmps124
  go_wp2_with (go_at_call 27; refine (HP.out _ (by repeat (first | exact Below.refl _ _ | refine Below.alloc ?_ (by simp) _))).mono ?_; rintro e w1 ⟨rfl, he⟩; have HE := Lib.hid he; clear he)
  go_ret
  exact ⟨rfl, HE.out⟩
theorem wput_from (B p : Nat) (hp : 0 < p) (sl : List Slo) (G : List Gat) (xs : List Exi) (v1 v2 v3 : Value) (g : Gat) (hK : 0 ≤ g.2.2.2) (hg : gErr p sl.length G.length g = 0) (hf : G.length < 65536) (w : World) (h : IsB B p sl G xs v1 v2 v3 w) :
    Hid (∀ W, Below w.heap.size w W → Calls Tryz.prog 124 #[.agg #[.pointer (some ⟨B, 0, none⟩)], .agg #[.int .i64 g.1, .int .i64 g.2.1, .int .i64 g.2.2.1, .int .u64 g.2.2.2]] W fun e W' => e = .returned (.int .i64 (G.length : Nat)) ∧ ∃ v, IsB B p sl (G ++ [g]) xs v1 v v3 W' ∧ Fr B v2 v w W') :=
  Lib.hid fun W hb => (wput_ok B p hp sl G xs v1 v2 v3 g hK hg hf W (h.below hb)).mono fun _ _ he => ⟨he.1, he.from hb⟩
theorem gErr_bin {p : Nat} {s m : Nat} {k : Int} (hk : k = 3 ∨ k = 4 ∨ k = 5) {x y : Nat} (hx : x < m) (hy : y < m) : gErr p s m (k, (x : Int), (y : Int), 0) = 0 := by
  unfold gErr gateErr
  rcases hk with rfl | rfl | rfl <;> simp <;> omega
theorem gErr_con {p : Nat} {s m : Nat} {k : Nat} (hk : k < p) : gErr p s m (2, 0, 0, (k : Int)) = 0 := by
  unfold gErr gateErr
  simp; omega
set_option maxRecDepth 100000 in
theorem sum_ok (B p : Nat) (hp : 0 < p) (sl : List Slo) (G : List Gat) (xs : List Exi) (v1 v2 v3 : Value) (x y : Nat) (hx : x < G.length) (hy : y < G.length) (hf : G.length < 65536) (w : World) (h : IsB B p sl G xs v1 v2 v3 w) :
    Calls Tryz.prog 123 #[.agg #[.pointer (some ⟨B, 0, none⟩)], .int .i64 x, .int .i64 y] w (OkPost B p sl (G ++ [(3, (x : Int), (y : Int), 0)]) xs v1 v2 v3 w (.int .i64 (G.length : Nat))) := by
  have HP := wput_from B p hp sl G xs v1 v2 v3 (3, (x : Int), (y : Int), 0) (Int.le_refl 0) (gErr_bin (by decide) hx hy) hf w h
  simp only at HP
  clear h hx hy hf
  go_enter Tryz.func123, Tryz.ntmps123
  go_wp2_with (go_at_call 124; refine (HP.out _ (by repeat (first | exact Below.refl _ _ | refine Below.alloc ?_ (by simp) _))).mono ?_; rintro e w1 ⟨rfl, he⟩; have HE := Lib.hid he; clear he)
  go_ret
  exact ⟨rfl, HE.out⟩
set_option maxRecDepth 100000 in
theorem less_ok (B p : Nat) (hp : 0 < p) (sl : List Slo) (G : List Gat) (xs : List Exi) (v1 v2 v3 : Value) (x y : Nat) (hx : x < G.length) (hy : y < G.length) (hf : G.length < 65536) (w : World) (h : IsB B p sl G xs v1 v2 v3 w) :
    Calls Tryz.prog 121 #[.agg #[.pointer (some ⟨B, 0, none⟩)], .int .i64 x, .int .i64 y] w (OkPost B p sl (G ++ [(4, (x : Int), (y : Int), 0)]) xs v1 v2 v3 w (.int .i64 (G.length : Nat))) := by
  have HP := wput_from B p hp sl G xs v1 v2 v3 (4, (x : Int), (y : Int), 0) (Int.le_refl 0) (gErr_bin (by decide) hx hy) hf w h
  simp only at HP
  clear h hx hy hf
  go_enter Tryz.func121, Tryz.ntmps121
  go_wp2_with (go_at_call 124; refine (HP.out _ (by repeat (first | exact Below.refl _ _ | refine Below.alloc ?_ (by simp) _))).mono ?_; rintro e w1 ⟨rfl, he⟩; have HE := Lib.hid he; clear he)
  go_ret
  exact ⟨rfl, HE.out⟩
set_option maxRecDepth 100000 in
theorem product_ok (B p : Nat) (hp : 0 < p) (sl : List Slo) (G : List Gat) (xs : List Exi) (v1 v2 v3 : Value) (x y : Nat) (hx : x < G.length) (hy : y < G.length) (hf : G.length < 65536) (w : World) (h : IsB B p sl G xs v1 v2 v3 w) :
    Calls Tryz.prog 122 #[.agg #[.pointer (some ⟨B, 0, none⟩)], .int .i64 x, .int .i64 y] w (OkPost B p sl (G ++ [(5, (x : Int), (y : Int), 0)]) xs v1 v2 v3 w (.int .i64 (G.length : Nat))) := by
  have HP := wput_from B p hp sl G xs v1 v2 v3 (5, (x : Int), (y : Int), 0) (Int.le_refl 0) (gErr_bin (by decide) hx hy) hf w h
  simp only at HP
  clear h hx hy hf
  go_enter Tryz.func122, Tryz.ntmps122
  go_wp2_with (go_at_call 124; refine (HP.out _ (by repeat (first | exact Below.refl _ _ | refine Below.alloc ?_ (by simp) _))).mono ?_; rintro e w1 ⟨rfl, he⟩; have HE := Lib.hid he; clear he)
  go_ret
  exact ⟨rfl, HE.out⟩
set_option maxRecDepth 100000 in
theorem fixed_ok (B p : Nat) (hp : 0 < p) (sl : List Slo) (G : List Gat) (xs : List Exi) (v1 v2 v3 : Value) (k : Nat) (hk : k < p) (hf : G.length < 65536) (w : World) (h : IsB B p sl G xs v1 v2 v3 w) :
    Calls Tryz.prog 120 #[.agg #[.pointer (some ⟨B, 0, none⟩)], .int .u64 k] w (OkPost B p sl (G ++ [(2, 0, 0, (k : Int))]) xs v1 v2 v3 w (.int .i64 (G.length : Nat))) := by
  have HP := wput_from B p hp sl G xs v1 v2 v3 (2, 0, 0, (k : Int)) (by simp) (gErr_con hk) hf w h
  simp only at HP
  have q0 := (box4 h.hb).1
  have hlt := h.lt
  have nB : ¬ B = w.heap.size := by omega
  have hm : (k : Int).tmod (p : Int) = (k : Int) := by rw [Int.tmod_eq_emod_of_nonneg (by omega)]; exact Int.emod_eq_of_lt (by omega) (by omega)
  have hz : ¬ p = 0 := by omega
  clear h hk hf
  go_enter Tryz.func120, Tryz.ntmps120
  go_wp2
  have c0 : (w.alloc (.cells #[.pointer (some ⟨B, 0, none⟩)] 126)).cell? ⟨w.heap.size, 0, none⟩ = some (.pointer (some ⟨B, 0, none⟩)) := cell_in (heap_alloc_new w _)
  have q1 := cell_al (o := .cells #[.pointer (some ⟨B, 0, none⟩)] 126) q0
  have hb1 := Lib.hid ((Below.refl w.heap.size w).alloc (Nat.le_refl _) (.cells #[.pointer (some ⟨B, 0, none⟩)] 126))
  clear q0
  generalize (w.alloc (.cells #[.pointer (some ⟨B, 0, none⟩)] 126)) = w1 at *
  go_still_tail 9, (by kernel_rfl)
  change wpList _ _ _ _ _ _
  go_wp2_with (go_at_call 124; refine (HP.out _ hb1.out.drew).mono ?_; rintro e w2 ⟨rfl, he⟩; have HE := Lib.hid he; clear he)
  go_ret
  exact ⟨rfl, HE.out⟩
end Go.Proofs.YtkcdlbclodjjhaaGreat

/- Contracts of the ring's functions over a board, where there is room: Not, Xor and their kin. (Printed by wip/tools/gen_ring.py.) -/
namespace Go.Proofs.YtkcdlbclodjjhaaGreat
open Go.RowKit

/- The board's methods, as the ring finds them. -/
theorem mFixed (B : Nat) (W : World) : (method (147 + 101) 126 (.agg #[.pointer (some ⟨B, 0, none⟩)]) "Fixed").run Tryz.prog W = .ok (120, .agg #[.pointer (some ⟨B, 0, none⟩)]) W := by kernel_rfl
theorem mSum (B : Nat) (W : World) : (method (147 + 101) 126 (.agg #[.pointer (some ⟨B, 0, none⟩)]) "Sum").run Tryz.prog W = .ok (123, .agg #[.pointer (some ⟨B, 0, none⟩)]) W := by kernel_rfl
theorem nSum (B : Nat) (W : World) : (nilAhead (147 + 101) 126 (.agg #[.pointer (some ⟨B, 0, none⟩)]) "Sum").run Tryz.prog W = .ok (some false) W := by kernel_rfl
theorem mLess (B : Nat) (W : World) : (method (147 + 101) 126 (.agg #[.pointer (some ⟨B, 0, none⟩)]) "Less").run Tryz.prog W = .ok (121, .agg #[.pointer (some ⟨B, 0, none⟩)]) W := by kernel_rfl
theorem nLess (B : Nat) (W : World) : (nilAhead (147 + 101) 126 (.agg #[.pointer (some ⟨B, 0, none⟩)]) "Less").run Tryz.prog W = .ok (some false) W := by kernel_rfl
theorem mProduct (B : Nat) (W : World) : (method (147 + 101) 126 (.agg #[.pointer (some ⟨B, 0, none⟩)]) "Product").run Tryz.prog W = .ok (122, .agg #[.pointer (some ⟨B, 0, none⟩)]) W := by kernel_rfl
theorem nProduct (B : Nat) (W : World) : (nilAhead (147 + 101) 126 (.agg #[.pointer (some ⟨B, 0, none⟩)]) "Product").run Tryz.prog W = .ok (some false) W := by kernel_rfl
theorem OkPost.chain {B p : Nat} {sl : List Slo} {G' : List Gat} {xs : List Exi} {v1 v2 v3 v : Value} {w W : World} {r : Value} {e : Ending} {W' : World} (hf : Fr B v2 v w W) (h : OkPost B p sl G' xs v1 v v3 W r e W') : e = .returned r ∧ ∃ v', IsB B p sl G' xs v1 v' v3 W' ∧ Fr B v2 v' w W' :=
  ⟨h.1, by obtain ⟨_, v', h1, h2⟩ := h; exact ⟨v', h1, hf.trans h2⟩⟩
set_option maxHeartbeats 2000000 in
set_option maxRecDepth 100000 in
theorem not_ok (B p : Nat) (hp : 1 < p) (sl : List Slo) (G : List Gat) (xs : List Exi) (v1 v2 v3 : Value) (a : Nat) (ha : a < G.length) (hf : G.length + 1 < 65536) (w : World) (h : IsB B p sl G xs v1 v2 v3 w) :
    Calls Tryz.prog 65 #[.iface 126 (.agg #[.pointer (some ⟨B, 0, none⟩)]), .int .i64 ((a : Nat) : Int)] w (OkPost B p sl (G ++ [((2, 0, 0, ((1 : Nat) : Int)) : Gat), ((4, ((G.length : Nat) : Int), ((a : Nat) : Int), 0) : Gat)]) xs v1 v2 v3 w (.int .i64 ((G.length + 1 : Nat) : Int))) := by
  have mFixed := fun W => mFixed B W
  have mLess := fun W => mLess B W
  have nLess := fun W => nLess B W
  simp only [Nat.reduceAdd] at mFixed mLess nLess
  have h1 : Hid (∀ W0 W v, IsB B p sl (G) xs v1 v v3 W0 → Fr B v2 v w W0 → Below W0.heap.size W0 W → Calls Tryz.prog 120 #[.agg #[.pointer (some ⟨B, 0, none⟩)], .int .u64 ((1 : Nat) : Int)] W (fun e W' => e = .returned (.int .i64 ((G.length : Nat) : Int)) ∧ ∃ v', IsB B p sl (G ++ [((2, 0, 0, ((1 : Nat) : Int)) : Gat)]) xs v1 v' v3 W' ∧ Fr B v2 v' w W')) :=
    Lib.hid fun W0 W v hI hF hB => (fixed_ok B p (by omega) sl _ xs v1 v v3 1 (by omega) (by first | omega | (simp <;> omega)) W (hI.below hB)).mono fun _ _ he => by have := OkPost.chain (hF.below hB) he; simpa [Nat.add_assoc] using this
  have h2 : Hid (∀ W0 W v, IsB B p sl (G ++ [((2, 0, 0, ((1 : Nat) : Int)) : Gat)]) xs v1 v v3 W0 → Fr B v2 v w W0 → Below W0.heap.size W0 W → Calls Tryz.prog 121 #[.agg #[.pointer (some ⟨B, 0, none⟩)], .int .i64 ((G.length : Nat) : Int), .int .i64 ((a : Nat) : Int)] W (fun e W' => e = .returned (.int .i64 ((G.length + 1 : Nat) : Int)) ∧ ∃ v', IsB B p sl (G ++ [((2, 0, 0, ((1 : Nat) : Int)) : Gat), ((4, ((G.length : Nat) : Int), ((a : Nat) : Int), 0) : Gat)]) xs v1 v' v3 W' ∧ Fr B v2 v' w W')) :=
    Lib.hid fun W0 W v hI hF hB => (less_ok B p (by omega) sl _ xs v1 v v3 (G.length) (a) (by first | omega | (simp <;> omega)) (by first | omega | (simp <;> omega)) (by first | omega | (simp <;> omega)) W (hI.below hB)).mono fun _ _ he => by have := OkPost.chain (hF.below hB) he; simpa [Nat.add_assoc] using this
  have HI0 := Lib.hid h
  have HF0 := Lib.hid (Fr.refl B v2 w)
  clear h ha hf hp
  go_enter Tryz.func65, Tryz.ntmps65
  (try go_wp2)
  go_region_held3 (fun _ => True) (trivial) (first | (go_at_call 121; refine (h2.out _ _ _ HI1.out HF1.out (by repeat (first | exact Below.refl _ _ | refine Below.drew ?_ | refine Below.alloc ?_ (by simp) _))).mono ?_; rintro e w2 ⟨rfl, x2, hI, hF⟩; have HI2 := Lib.hid hI; have HF2 := Lib.hid hF; clear hI hF) | (go_at_call 120; refine (h1.out _ _ _ HI0.out HF0.out (by repeat (first | exact Below.refl _ _ | refine Below.drew ?_ | refine Below.alloc ?_ (by simp) _))).mono ?_; rintro e w1 ⟨rfl, x1, hI, hF⟩; have HI1 := Lib.hid hI; have HF1 := Lib.hid hF; clear hI hF))
  all_goals (try go_wp2)
  all_goals go_ret
  all_goals exact ⟨rfl, x2, HI2.out, HF2.out⟩
/-- The gates of Not and of Xor, by how many there are. -/
def notL (n a : Nat) : List Gat := [((2, 0, 0, ((1 : Nat) : Int)) : Gat), ((4, ((n : Nat) : Int), ((a : Nat) : Int), 0) : Gat)]
def xorL (n a b : Nat) : List Gat := [((5, ((a : Nat) : Int), ((b : Nat) : Int), 0) : Gat), ((3, ((a : Nat) : Int), ((b : Nat) : Int), 0) : Gat), ((3, ((n : Nat) : Int), ((n : Nat) : Int), 0) : Gat), ((4, ((n + 1 : Nat) : Int), ((n + 2 : Nat) : Int), 0) : Gat)]
end Go.Proofs.YtkcdlbclodjjhaaGreat

/- Contract of the ring's add over a board, where there is room. (Printed by wip/tools/gen_add.py.) -/
namespace Go.Proofs.YtkcdlbclodjjhaaGreat
open Go.RowKit

def nCells (l : List Nat) : List Value := l.map fun (x : Nat) => .int .i64 x
section
variable {P : Program} {ops : Array Oper} {o : Oper} {a : Act} {K : Act → World → Prop} {Q : Exit → Act → World → Prop} {E : Prop}
/-- One element is appended to a row of the call's own, as a step of a region that draws its order. -/
theorem step_append_own {W0 W : World} (hW : Below W0.heap.size W0 W) (base : Nat) (hgd : o.guard = none) (s x : Operand) (t e : TypeId) (z : Value) (bytes : Nat)
    (ho : o.op = .call { callee := .builtin .append, args := #[s, x], argTypes := #[t, t] })
    (ht : P.underlying t = some (.slice e)) (hinfo : (P.info? e).map (fun i => (i.zero, i.size, i.bytes)) = some (some z, 1, bytes)) (hz : z.cells.size = 1) (hb0 : 0 < bytes)
    (v : Value) (n : Nat) (xs : List Value) (y : Value) (hs : a.eval s = v) (g : Nat) (hx : a.eval x = .slice (some ⟨g, 0, none⟩) 1 1) (hc : W.cell? ⟨g, 0, none⟩ = some y) (h1 : y.oneCell' = true)
    (HO : W0.ownsRow base e 1 v n xs) (hbase : base ≤ W0.heap.size) (hl : (n + 1) * bytes ≤ 140737488355328)
    (h : ∀ v1 w1, w1.ownsRow base e 1 v1 (n + 1) (xs ++ [y]) → W0.grownBy w1 v.ownBlock → K (a.put o.dst v1) w1) :
    if Region.wanted o (yielded ops a.tmps) = true then Oper.wp P o a W K Q else E := by
  have hw : Region.wanted o (yielded ops a.tmps) = true := by simp [Region.wanted, hgd]
  rw [if_pos hw]
  obtain ⟨i0, hi, hzz⟩ := Option.map_eq_some_iff.1 hinfo
  simp only [Prod.mk.injEq] at hzz
  obtain ⟨hz0, hz1, hz2⟩ := hzz
  have hlen : n + 1 ≤ 140737488355328 := Nat.le_trans (Nat.le_mul_of_pos_right _ hb0) hl
  have hg0 : W0.grownBy W v.ownBlock := ⟨hW.os, hW.tape, hW.output, hW.size, fun k hk _ => hW.block k hk⟩
  exact wp_append_own W s x t ho base e i0 z 1 bytes ht hi hz0 hz1 hz2 hz (by omega) v n xs hs (own_below HO hW) ⟨g, 0, none⟩ 1 1 [y] hx rfl
    (by intro j u hj; cases j with
      | zero => simp at hj; subst hj; simpa [Addr.add] using hc
      | succ j => simp at hj) (by intro u hu; simp at hu; subst hu; exact h1) (by simp only [maxLen]; omega) hl (Nat.le_trans hbase hW.size)
    fun v1 w1 hown hg _ => h v1 w1 hown (World.grownBy.trans hg0 hg)
end
theorem infoInt : (Tryz.prog.info? 3).map (fun i => (i.zero, i.size, i.bytes)) = some (some (.int .i64 0), 1, 8) := by kernel_rfl
/-- A row of ints that grows is none of the board's. -/
theorem IsB.grown {B p : Nat} {sl : List Slo} {G G0 : List Gat} {xs : List Exi} {v1 v2 v2' v3 : Value} {w W W' : World} (h : IsB B p sl G xs v1 v2' v3 W) (h0 : IsB B p sl G0 xs v1 v2 v3 w) {u : Value} {n base : Nat} {cs : List Value} (ho : W.ownsRow base 3 1 u n cs) (hb : w.heap.size ≤ base) (hg : W.grownBy W' u.ownBlock) : IsB B p sl G xs v1 v2' v3 W' := by
  have hlt := h0.lt
  have far : ∀ {x : Value} {m : Nat} {ds : List Value}, w.ownsRow (B + 1) 3 1 x m ds → x.ownBlock = none ∨ x.ownBlock ≠ u.ownBlock := fun {x m ds} hx => by
    cases e : x.ownBlock with
    | none => exact .inl rfl
    | some q =>
      refine .inr fun e2 => ?_
      have h1 := (hx.lt q e).2
      have h2 := (ho.lt q e2.symm).1
      omega
  refine ⟨h.h1.kept hg (own_ne h.h1 ho (by decide)), h.h2.kept hg (own_ne h.h2 ho (by decide)), h.h3.kept hg (own_ne h.h3 ho (by decide)), fun x hx => ⟨(h.hx x hx).1.two (h0.hx x hx).1 fun o o0 => o.kept hg (far o0), (h.hx x hx).2.two (h0.hx x hx).2 fun o o0 => o.kept hg (far o0)⟩, ?_, h.hk, h.hz⟩
  exact (hg.block _ h.lt fun e => by have := (ho.lt B e.symm).1; omega).trans h.hb
theorem Fr.grown {B : Nat} {v v' : Value} {w W W' : World} (h : Fr B v v' w W) {u : Value} {n base : Nat} {cs : List Value} {e : TypeId} {s : Nat} (ho : W.ownsRow base e s u n cs) (hb : w.heap.size ≤ base) (hg : W.grownBy W' u.ownBlock) : Fr B v v' w W' :=
  ⟨hg.os.trans h.os, hg.tape.trans h.tape, hg.output.trans h.output, Nat.le_trans h.size hg.size,
    fun k hk hB hn => (hg.block k (Nat.lt_of_lt_of_le hk h.size) fun e => by have := (ho.lt k e.symm).1; omega).trans (h.block k hk hB hn), h.own⟩
/-- A sum: the gates of one bit; of all. -/
def addL (n a b c : Nat) : List Gat := [((5, ((a : Nat) : Int), ((b : Nat) : Int), 0) : Gat), ((3, ((a : Nat) : Int), ((b : Nat) : Int), 0) : Gat), ((3, ((n : Nat) : Int), ((n : Nat) : Int), 0) : Gat), ((4, ((n + 1 : Nat) : Int), ((n + 2 : Nat) : Int), 0) : Gat), ((5, ((n + 3 : Nat) : Int), ((c : Nat) : Int), 0) : Gat), ((3, ((n + 3 : Nat) : Int), ((c : Nat) : Int), 0) : Gat), ((3, ((n + 4 : Nat) : Int), ((n + 4 : Nat) : Int), 0) : Gat), ((4, ((n + 5 : Nat) : Int), ((n + 6 : Nat) : Int), 0) : Gat), ((3, ((n : Nat) : Int), ((n + 4 : Nat) : Int), 0) : Gat)]
def addStep (s : List Gat × List Nat × Nat) (q : Nat × Nat) : List Gat × List Nat × Nat := (s.1 ++ addL s.1.length q.1 q.2 s.2.2, s.2.1 ++ [s.1.length + 7], s.1.length + 8)
def addSt (G : List Gat) (c : Nat) (ps : List (Nat × Nat)) : List Gat × List Nat × Nat := ps.foldl addStep (G, [], c)
theorem addSt_succ (G : List Gat) (c : Nat) (ps : List (Nat × Nat)) (k : Nat) (h : k < ps.length) : addSt G c (ps.take (k + 1)) = addStep (addSt G c (ps.take k)) ps[k] := by
  unfold addSt
  rw [List.take_succ_eq_append_getElem h, List.foldl_append]
  rfl
theorem addSt_len (G : List Gat) (c : Nat) (ps : List (Nat × Nat)) (hc : c < G.length) : ∀ k, k ≤ ps.length → (addSt G c (ps.take k)).1.length = G.length + 9 * k ∧ (addSt G c (ps.take k)).2.1.length = k ∧ (addSt G c (ps.take k)).2.2 < (addSt G c (ps.take k)).1.length := by
  intro k
  induction k with
  | zero => intro _; exact ⟨rfl, rfl, hc⟩
  | succ k ih =>
    intro h
    obtain ⟨h1, h2, _⟩ := ih (by omega)
    rw [addSt_succ G c ps k (by omega)]
    refine ⟨?_, ?_, ?_⟩
    · simp only [addStep, List.length_append, h1]; simp only [addL, List.length_cons, List.length_nil]; omega
    · simp only [addStep, List.length_append, h2, List.length_cons, List.length_nil]
    · simp only [addStep, List.length_append]; simp only [addL, List.length_cons, List.length_nil]; omega
theorem nCells_snoc (l : List Nat) (x : Nat) : nCells (l ++ [x]) = nCells l ++ [.int .i64 ((x : Nat) : Int)] := by simp [nCells]
theorem Reads.nat {w : World} {A : Option Addr} {l : List Nat} (h : Reads w A (nCells l)) (k : Nat) (hk : k < l.length) : ∃ ad, A = some ad ∧ w.cell? (ad.add k) = some (.int .i64 ((l[k] : Nat) : Int)) := by
  rcases h with h | ⟨ad, h1, h2⟩
  · have : l = [] := by simpa [nCells] using h
    subst this; simp at hk
  · exact ⟨ad, h1, h2 k _ (by simp [nCells, List.getElem?_eq_getElem hk])⟩
/-- The gates when i gates of a bit are laid. -/
def bitG (i : Nat) (G : List Gat) (a b c : Nat) : List Gat := G ++ (addL G.length a b c).take i
theorem bitG_zero (G : List Gat) (a b c : Nat) : bitG 0 G a b c = G := by simp [bitG]
theorem bit1 (B p : Nat) (hp : 1 < p) (sl : List Slo) (G : List Gat) (xs : List Exi) (v1 v2 v3 : Value) (w : World) (hlt : B < w.heap.size) (a b c : Nat) (_ha : a < G.length) (_hb : b < G.length) (_hc : c < G.length) (hr : G.length + 9 ≤ 65536) (vo : Value) (k : Nat) (cs : List Value) (W0 W : World) (v : Value)
    (hI : IsB B p sl (bitG 0 G a b c) xs v1 v v3 W0) (hF : Fr B v2 v w W0) (hO : W0.ownsRow w.heap.size 3 1 vo k cs) (hB : Below W0.heap.size W0 W) :
    Calls Tryz.prog 122 #[.agg #[.pointer (some ⟨B, 0, none⟩)], .int .i64 ((a : Nat) : Int), .int .i64 ((b : Nat) : Int)] W (fun e W' => e = .returned (.int .i64 ((G.length : Nat) : Int)) ∧ ∃ v', IsB B p sl (bitG 1 G a b c) xs v1 v' v3 W' ∧ Fr B v2 v' w W' ∧ W'.ownsRow w.heap.size 3 1 vo k cs) := by
  have hn : (bitG 0 G a b c).length = G.length + 0 := by simp [bitG, addL]
  have hg : bitG 1 G a b c = bitG 0 G a b c ++ [((5, ((a : Nat) : Int), ((b : Nat) : Int), 0) : Gat)] := by unfold bitG addL; simp
  refine (product_ok B p (by omega) sl _ xs v1 v v3 (a) (b) (by omega) (by omega) (by omega) W (hI.below hB)).mono fun _ _ he => ?_
  obtain ⟨e1, v', h1, h2⟩ := he
  rw [hn] at e1
  rw [← hg] at h1
  exact ⟨e1, v', h1, (hF.below hB).trans h2, h2.own_int (hI.below hB).h2 (own_below hO hB) (by omega)⟩
theorem bit2 (B p : Nat) (hp : 1 < p) (sl : List Slo) (G : List Gat) (xs : List Exi) (v1 v2 v3 : Value) (w : World) (hlt : B < w.heap.size) (a b c : Nat) (_ha : a < G.length) (_hb : b < G.length) (_hc : c < G.length) (hr : G.length + 9 ≤ 65536) (vo : Value) (k : Nat) (cs : List Value) (W0 W : World) (v : Value)
    (hI : IsB B p sl (bitG 1 G a b c) xs v1 v v3 W0) (hF : Fr B v2 v w W0) (hO : W0.ownsRow w.heap.size 3 1 vo k cs) (hB : Below W0.heap.size W0 W) :
    Calls Tryz.prog 123 #[.agg #[.pointer (some ⟨B, 0, none⟩)], .int .i64 ((a : Nat) : Int), .int .i64 ((b : Nat) : Int)] W (fun e W' => e = .returned (.int .i64 ((G.length + 1 : Nat) : Int)) ∧ ∃ v', IsB B p sl (bitG 2 G a b c) xs v1 v' v3 W' ∧ Fr B v2 v' w W' ∧ W'.ownsRow w.heap.size 3 1 vo k cs) := by
  have hn : (bitG 1 G a b c).length = G.length + 1 := by simp [bitG, addL]
  have hg : bitG 2 G a b c = bitG 1 G a b c ++ [((3, ((a : Nat) : Int), ((b : Nat) : Int), 0) : Gat)] := by unfold bitG addL; simp
  refine (sum_ok B p (by omega) sl _ xs v1 v v3 (a) (b) (by omega) (by omega) (by omega) W (hI.below hB)).mono fun _ _ he => ?_
  obtain ⟨e1, v', h1, h2⟩ := he
  rw [hn] at e1
  rw [← hg] at h1
  exact ⟨e1, v', h1, (hF.below hB).trans h2, h2.own_int (hI.below hB).h2 (own_below hO hB) (by omega)⟩
theorem bit3 (B p : Nat) (hp : 1 < p) (sl : List Slo) (G : List Gat) (xs : List Exi) (v1 v2 v3 : Value) (w : World) (hlt : B < w.heap.size) (a b c : Nat) (_ha : a < G.length) (_hb : b < G.length) (_hc : c < G.length) (hr : G.length + 9 ≤ 65536) (vo : Value) (k : Nat) (cs : List Value) (W0 W : World) (v : Value)
    (hI : IsB B p sl (bitG 2 G a b c) xs v1 v v3 W0) (hF : Fr B v2 v w W0) (hO : W0.ownsRow w.heap.size 3 1 vo k cs) (hB : Below W0.heap.size W0 W) :
    Calls Tryz.prog 123 #[.agg #[.pointer (some ⟨B, 0, none⟩)], .int .i64 ((G.length : Nat) : Int), .int .i64 ((G.length : Nat) : Int)] W (fun e W' => e = .returned (.int .i64 ((G.length + 2 : Nat) : Int)) ∧ ∃ v', IsB B p sl (bitG 3 G a b c) xs v1 v' v3 W' ∧ Fr B v2 v' w W' ∧ W'.ownsRow w.heap.size 3 1 vo k cs) := by
  have hn : (bitG 2 G a b c).length = G.length + 2 := by simp [bitG, addL]
  have hg : bitG 3 G a b c = bitG 2 G a b c ++ [((3, ((G.length : Nat) : Int), ((G.length : Nat) : Int), 0) : Gat)] := by unfold bitG addL; simp
  refine (sum_ok B p (by omega) sl _ xs v1 v v3 (G.length) (G.length) (by omega) (by omega) (by omega) W (hI.below hB)).mono fun _ _ he => ?_
  obtain ⟨e1, v', h1, h2⟩ := he
  rw [hn] at e1
  rw [← hg] at h1
  exact ⟨e1, v', h1, (hF.below hB).trans h2, h2.own_int (hI.below hB).h2 (own_below hO hB) (by omega)⟩
theorem bit4 (B p : Nat) (hp : 1 < p) (sl : List Slo) (G : List Gat) (xs : List Exi) (v1 v2 v3 : Value) (w : World) (hlt : B < w.heap.size) (a b c : Nat) (_ha : a < G.length) (_hb : b < G.length) (_hc : c < G.length) (hr : G.length + 9 ≤ 65536) (vo : Value) (k : Nat) (cs : List Value) (W0 W : World) (v : Value)
    (hI : IsB B p sl (bitG 3 G a b c) xs v1 v v3 W0) (hF : Fr B v2 v w W0) (hO : W0.ownsRow w.heap.size 3 1 vo k cs) (hB : Below W0.heap.size W0 W) :
    Calls Tryz.prog 121 #[.agg #[.pointer (some ⟨B, 0, none⟩)], .int .i64 ((G.length + 1 : Nat) : Int), .int .i64 ((G.length + 2 : Nat) : Int)] W (fun e W' => e = .returned (.int .i64 ((G.length + 3 : Nat) : Int)) ∧ ∃ v', IsB B p sl (bitG 4 G a b c) xs v1 v' v3 W' ∧ Fr B v2 v' w W' ∧ W'.ownsRow w.heap.size 3 1 vo k cs) := by
  have hn : (bitG 3 G a b c).length = G.length + 3 := by simp [bitG, addL]
  have hg : bitG 4 G a b c = bitG 3 G a b c ++ [((4, ((G.length + 1 : Nat) : Int), ((G.length + 2 : Nat) : Int), 0) : Gat)] := by unfold bitG addL; simp
  refine (less_ok B p (by omega) sl _ xs v1 v v3 (G.length + 1) (G.length + 2) (by omega) (by omega) (by omega) W (hI.below hB)).mono fun _ _ he => ?_
  obtain ⟨e1, v', h1, h2⟩ := he
  rw [hn] at e1
  rw [← hg] at h1
  exact ⟨e1, v', h1, (hF.below hB).trans h2, h2.own_int (hI.below hB).h2 (own_below hO hB) (by omega)⟩
theorem bit5 (B p : Nat) (hp : 1 < p) (sl : List Slo) (G : List Gat) (xs : List Exi) (v1 v2 v3 : Value) (w : World) (hlt : B < w.heap.size) (a b c : Nat) (_ha : a < G.length) (_hb : b < G.length) (_hc : c < G.length) (hr : G.length + 9 ≤ 65536) (vo : Value) (k : Nat) (cs : List Value) (W0 W : World) (v : Value)
    (hI : IsB B p sl (bitG 4 G a b c) xs v1 v v3 W0) (hF : Fr B v2 v w W0) (hO : W0.ownsRow w.heap.size 3 1 vo k cs) (hB : Below W0.heap.size W0 W) :
    Calls Tryz.prog 122 #[.agg #[.pointer (some ⟨B, 0, none⟩)], .int .i64 ((G.length + 3 : Nat) : Int), .int .i64 ((c : Nat) : Int)] W (fun e W' => e = .returned (.int .i64 ((G.length + 4 : Nat) : Int)) ∧ ∃ v', IsB B p sl (bitG 5 G a b c) xs v1 v' v3 W' ∧ Fr B v2 v' w W' ∧ W'.ownsRow w.heap.size 3 1 vo k cs) := by
  have hn : (bitG 4 G a b c).length = G.length + 4 := by simp [bitG, addL]
  have hg : bitG 5 G a b c = bitG 4 G a b c ++ [((5, ((G.length + 3 : Nat) : Int), ((c : Nat) : Int), 0) : Gat)] := by unfold bitG addL; simp
  refine (product_ok B p (by omega) sl _ xs v1 v v3 (G.length + 3) (c) (by omega) (by omega) (by omega) W (hI.below hB)).mono fun _ _ he => ?_
  obtain ⟨e1, v', h1, h2⟩ := he
  rw [hn] at e1
  rw [← hg] at h1
  exact ⟨e1, v', h1, (hF.below hB).trans h2, h2.own_int (hI.below hB).h2 (own_below hO hB) (by omega)⟩
theorem bit6 (B p : Nat) (hp : 1 < p) (sl : List Slo) (G : List Gat) (xs : List Exi) (v1 v2 v3 : Value) (w : World) (hlt : B < w.heap.size) (a b c : Nat) (_ha : a < G.length) (_hb : b < G.length) (_hc : c < G.length) (hr : G.length + 9 ≤ 65536) (vo : Value) (k : Nat) (cs : List Value) (W0 W : World) (v : Value)
    (hI : IsB B p sl (bitG 5 G a b c) xs v1 v v3 W0) (hF : Fr B v2 v w W0) (hO : W0.ownsRow w.heap.size 3 1 vo k cs) (hB : Below W0.heap.size W0 W) :
    Calls Tryz.prog 123 #[.agg #[.pointer (some ⟨B, 0, none⟩)], .int .i64 ((G.length + 3 : Nat) : Int), .int .i64 ((c : Nat) : Int)] W (fun e W' => e = .returned (.int .i64 ((G.length + 5 : Nat) : Int)) ∧ ∃ v', IsB B p sl (bitG 6 G a b c) xs v1 v' v3 W' ∧ Fr B v2 v' w W' ∧ W'.ownsRow w.heap.size 3 1 vo k cs) := by
  have hn : (bitG 5 G a b c).length = G.length + 5 := by simp [bitG, addL]
  have hg : bitG 6 G a b c = bitG 5 G a b c ++ [((3, ((G.length + 3 : Nat) : Int), ((c : Nat) : Int), 0) : Gat)] := by unfold bitG addL; simp
  refine (sum_ok B p (by omega) sl _ xs v1 v v3 (G.length + 3) (c) (by omega) (by omega) (by omega) W (hI.below hB)).mono fun _ _ he => ?_
  obtain ⟨e1, v', h1, h2⟩ := he
  rw [hn] at e1
  rw [← hg] at h1
  exact ⟨e1, v', h1, (hF.below hB).trans h2, h2.own_int (hI.below hB).h2 (own_below hO hB) (by omega)⟩
theorem bit7 (B p : Nat) (hp : 1 < p) (sl : List Slo) (G : List Gat) (xs : List Exi) (v1 v2 v3 : Value) (w : World) (hlt : B < w.heap.size) (a b c : Nat) (_ha : a < G.length) (_hb : b < G.length) (_hc : c < G.length) (hr : G.length + 9 ≤ 65536) (vo : Value) (k : Nat) (cs : List Value) (W0 W : World) (v : Value)
    (hI : IsB B p sl (bitG 6 G a b c) xs v1 v v3 W0) (hF : Fr B v2 v w W0) (hO : W0.ownsRow w.heap.size 3 1 vo k cs) (hB : Below W0.heap.size W0 W) :
    Calls Tryz.prog 123 #[.agg #[.pointer (some ⟨B, 0, none⟩)], .int .i64 ((G.length + 4 : Nat) : Int), .int .i64 ((G.length + 4 : Nat) : Int)] W (fun e W' => e = .returned (.int .i64 ((G.length + 6 : Nat) : Int)) ∧ ∃ v', IsB B p sl (bitG 7 G a b c) xs v1 v' v3 W' ∧ Fr B v2 v' w W' ∧ W'.ownsRow w.heap.size 3 1 vo k cs) := by
  have hn : (bitG 6 G a b c).length = G.length + 6 := by simp [bitG, addL]
  have hg : bitG 7 G a b c = bitG 6 G a b c ++ [((3, ((G.length + 4 : Nat) : Int), ((G.length + 4 : Nat) : Int), 0) : Gat)] := by unfold bitG addL; simp
  refine (sum_ok B p (by omega) sl _ xs v1 v v3 (G.length + 4) (G.length + 4) (by omega) (by omega) (by omega) W (hI.below hB)).mono fun _ _ he => ?_
  obtain ⟨e1, v', h1, h2⟩ := he
  rw [hn] at e1
  rw [← hg] at h1
  exact ⟨e1, v', h1, (hF.below hB).trans h2, h2.own_int (hI.below hB).h2 (own_below hO hB) (by omega)⟩
theorem bit8 (B p : Nat) (hp : 1 < p) (sl : List Slo) (G : List Gat) (xs : List Exi) (v1 v2 v3 : Value) (w : World) (hlt : B < w.heap.size) (a b c : Nat) (_ha : a < G.length) (_hb : b < G.length) (_hc : c < G.length) (hr : G.length + 9 ≤ 65536) (vo : Value) (k : Nat) (cs : List Value) (W0 W : World) (v : Value)
    (hI : IsB B p sl (bitG 7 G a b c) xs v1 v v3 W0) (hF : Fr B v2 v w W0) (hO : W0.ownsRow w.heap.size 3 1 vo k cs) (hB : Below W0.heap.size W0 W) :
    Calls Tryz.prog 121 #[.agg #[.pointer (some ⟨B, 0, none⟩)], .int .i64 ((G.length + 5 : Nat) : Int), .int .i64 ((G.length + 6 : Nat) : Int)] W (fun e W' => e = .returned (.int .i64 ((G.length + 7 : Nat) : Int)) ∧ ∃ v', IsB B p sl (bitG 8 G a b c) xs v1 v' v3 W' ∧ Fr B v2 v' w W' ∧ W'.ownsRow w.heap.size 3 1 vo k cs) := by
  have hn : (bitG 7 G a b c).length = G.length + 7 := by simp [bitG, addL]
  have hg : bitG 8 G a b c = bitG 7 G a b c ++ [((4, ((G.length + 5 : Nat) : Int), ((G.length + 6 : Nat) : Int), 0) : Gat)] := by unfold bitG addL; simp
  refine (less_ok B p (by omega) sl _ xs v1 v v3 (G.length + 5) (G.length + 6) (by omega) (by omega) (by omega) W (hI.below hB)).mono fun _ _ he => ?_
  obtain ⟨e1, v', h1, h2⟩ := he
  rw [hn] at e1
  rw [← hg] at h1
  exact ⟨e1, v', h1, (hF.below hB).trans h2, h2.own_int (hI.below hB).h2 (own_below hO hB) (by omega)⟩
theorem bit9 (B p : Nat) (hp : 1 < p) (sl : List Slo) (G : List Gat) (xs : List Exi) (v1 v2 v3 : Value) (w : World) (hlt : B < w.heap.size) (a b c : Nat) (_ha : a < G.length) (_hb : b < G.length) (_hc : c < G.length) (hr : G.length + 9 ≤ 65536) (vo : Value) (k : Nat) (cs : List Value) (W0 W : World) (v : Value)
    (hI : IsB B p sl (bitG 8 G a b c) xs v1 v v3 W0) (hF : Fr B v2 v w W0) (hO : W0.ownsRow w.heap.size 3 1 vo k cs) (hB : Below W0.heap.size W0 W) :
    Calls Tryz.prog 123 #[.agg #[.pointer (some ⟨B, 0, none⟩)], .int .i64 ((G.length : Nat) : Int), .int .i64 ((G.length + 4 : Nat) : Int)] W (fun e W' => e = .returned (.int .i64 ((G.length + 8 : Nat) : Int)) ∧ ∃ v', IsB B p sl (bitG 9 G a b c) xs v1 v' v3 W' ∧ Fr B v2 v' w W' ∧ W'.ownsRow w.heap.size 3 1 vo k cs) := by
  have hn : (bitG 8 G a b c).length = G.length + 8 := by simp [bitG, addL]
  have hg : bitG 9 G a b c = bitG 8 G a b c ++ [((3, ((G.length : Nat) : Int), ((G.length + 4 : Nat) : Int), 0) : Gat)] := by unfold bitG addL; simp
  refine (sum_ok B p (by omega) sl _ xs v1 v v3 (G.length) (G.length + 4) (by omega) (by omega) (by omega) W (hI.below hB)).mono fun _ _ he => ?_
  obtain ⟨e1, v', h1, h2⟩ := he
  rw [hn] at e1
  rw [← hg] at h1
  exact ⟨e1, v', h1, (hF.below hB).trans h2, h2.own_int (hI.below hB).h2 (own_below hO hB) (by omega)⟩
end Go.Proofs.YtkcdlbclodjjhaaGreat
