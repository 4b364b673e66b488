/- A board in memory; contracts of made, Put, Const. -/
import Derived.Test.YtkcdlbclodjjhaaWd
namespace Go.Proofs.Ytkcdlbclodjjhaa
open Go.RowKit

/-- A board lies in block B. -/
structure IsB (B p : Nat) (sl : List Slo) (G : List Gat) (xs : List Exi) (v1 v2 v3 : Value) (W : World) : Prop where
  h1 : W.ownsRow (B + 1) 30 2 v1 sl.length (sloCells sl)
  h2 : W.ownsRow (B + 1) 33 4 v2 G.length (gatCells G)
  h3 : W.ownsRow (B + 1) 56 2 v3 xs.length (exiCells xs)
  hx : ∀ x ∈ xs, W.ownsRow (B + 1) 3 1 (.slice x.A x.tl.length x.c) x.tl.length (iCells x.tl) ∧ W.ownsRow (B + 1) 3 1 (.slice x.B x.gl.length x.d) x.gl.length (iCells x.gl)
  hb : W.heap[B]? = some (.cells #[.int .u64 p, v1, v2, v3] 61 (0, 0))
  hk : ∀ g ∈ G, 0 ≤ g.2.2.2
theorem IsB.lt {B p : Nat} {sl : List Slo} {G : List Gat} {xs : List Exi} {v1 v2 v3 : Value} {W : World} (h : IsB B p sl G xs v1 v2 v3 W) : B < W.heap.size := (Array.getElem?_eq_some_iff.1 h.hb).1
theorem IsB.below {B p : Nat} {sl : List Slo} {G : List Gat} {xs : List Exi} {v1 v2 v3 : Value} {W W' : World} (h : IsB B p sl G xs v1 v2 v3 W) (hb : Below W.heap.size W W') : IsB B p sl G xs v1 v2 v3 W' :=
  ⟨own_below h.h1 hb, own_below h.h2 hb, own_below h.h3 hb, fun x hx => ⟨own_below (h.hx x hx).1 hb, own_below (h.hx x hx).2 hb⟩, (hb.block _ h.lt).trans h.hb, h.hk⟩
/-- What else an act on a board turns: the board's block and its gates' row. -/
structure Fr (B : Nat) (v v' : Value) (W W' : World) : Prop where
  os : W'.os = W.os
  tape : W'.tape = W.tape
  output : W'.output = W.output
  size : W.heap.size ≤ W'.heap.size
  block : ∀ k, k < W.heap.size → k ≠ B → some k ≠ v.ownBlock → W'.heap[k]? = W.heap[k]?
  own : ∀ k, v'.ownBlock = some k → v.ownBlock = some k ∨ W.heap.size ≤ k
theorem Fr.refl (B : Nat) (v : Value) (W : World) : Fr B v v W W := ⟨rfl, rfl, rfl, Nat.le_refl _, fun _ _ _ _ => rfl, fun _ h => .inl h⟩
theorem Fr.ne {B : Nat} {v v' : Value} {W W' : World} (h : Fr B v v' W W') {k : Nat} (hk : k < W.heap.size) (hn : some k ≠ v.ownBlock) : some k ≠ v'.ownBlock := fun e => by
  rcases h.own k e.symm with e2 | e2
  · exact hn e2.symm
  · omega
theorem Fr.trans {B : Nat} {v v' v'' : Value} {W W' W'' : World} (h : Fr B v v' W W') (h' : Fr B v' v'' W' W'') : Fr B v v'' W W'' :=
  ⟨h'.os.trans h.os, h'.tape.trans h.tape, h'.output.trans h.output, Nat.le_trans h.size h'.size,
    fun k hk hB hn => (h'.block k (Nat.lt_of_lt_of_le hk h.size) hB (h.ne hk hn)).trans (h.block k hk hB hn),
    fun k e => by
      rcases h'.own k e with e2 | e2
      · exact h.own k e2
      · exact .inr (Nat.le_trans h.size e2)⟩
theorem Fr.below {B : Nat} {v v' : Value} {W W' W'' : World} (h : Fr B v v' W W') (hb : Below W'.heap.size W' W'') : Fr B v v' W W'' :=
  ⟨hb.os.trans h.os, hb.tape.trans h.tape, hb.output.trans h.output, Nat.le_trans h.size hb.size,
    fun k hk hB hn => (hb.block k (Nat.lt_of_lt_of_le hk h.size)).trans (h.block k hk hB hn), h.own⟩
theorem Fr.of_below {B : Nat} {v : Value} {W W' : World} (hb : Below W.heap.size W W') : Fr B v v W W' := (Fr.refl B v W).below hb
theorem Fr.cell {B : Nat} {v v' : Value} {W W' : World} (h : Fr B v v' W W') {a : Addr} {u : Value} (hu : W.cell? a = some u) (hB : a.block ≠ B) (hn : some a.block ≠ v.ownBlock) : W'.cell? a = some u :=
  (World.cell?_of_block (h.block a.block (World.block_lt_of_cell? W a hu) hB hn)).trans hu
theorem Fr.own_int {B : Nat} {v v' : Value} {W W' : World} (h : Fr B v v' W W') {base n : Nat} {u : Value} {cs gs : List Value} {m : Nat} (hg : W.ownsRow (B + 1) 33 4 v m gs) (ho : W.ownsRow base 3 1 u n cs) (hB : B < base) : W'.ownsRow base 3 1 u n cs := by
  have hne := own_ne ho hg (by decide)
  refine ⟨ho.1, ?_⟩
  rcases ho.2 with hn | ⟨g, cap, cur, rfl, hb, hgg, rest⟩
  · exact .inl hn
  · refine .inr ⟨g, cap, cur, rfl, hb, ?_, rest⟩
    rw [h.block g (Array.getElem?_eq_some_iff.1 hgg).1 (by omega) (by simpa [Value.ownBlock] using hne)]
    exact hgg
theorem box4 {W : World} {b : Nat} {v0 v1 v2 v3 : Value} {t : TypeId} (h : W.heap[b]? = some (.cells #[v0, v1, v2, v3] t (0, 0))) :
    W.cell? ⟨b, 0, none⟩ = some v0 ∧ W.cell? ⟨b, 1, none⟩ = some v1 ∧ W.cell? ⟨b, 2, none⟩ = some v2 ∧ W.cell? ⟨b, 3, none⟩ = some v3 ∧ W.frozen? ⟨b, 1, none⟩ = false ∧ W.frozen? ⟨b, 2, none⟩ = false ∧ W.frozen? ⟨b, 3, none⟩ = false := by
  simp [World.cell?, World.frozen?, h]
/-- The gates' row grew. -/
theorem IsB.gate {B p : Nat} {sl : List Slo} {G : List Gat} {xs : List Exi} {v1 v2 v3 v : Value} {W W3 : World} (h : IsB B p sl G xs v1 v2 v3 W) {g : Gat} (hg0 : 0 ≤ g.2.2.2) (ho : W3.ownsRow (B + 1) 33 4 v (G.length + 1) (gatCells G ++ [.int .i64 g.1, .int .i64 g.2.1, .int .i64 g.2.2.1, .int .u64 g.2.2.2])) (hg : W.grownBy W3 v2.ownBlock) :
    IsB B p sl (G ++ [g]) xs v1 v v3 (W3.setCell ⟨B, 2, none⟩ v) := by
  refine ⟨own_set (h.h1.kept hg (own_ne h.h1 h.h2 (by decide))) (Nat.lt_succ_self _) _, ?_, own_set (h.h3.kept hg (own_ne h.h3 h.h2 (by decide))) (Nat.lt_succ_self _) _, fun x hx => ⟨own_set ((h.hx x hx).1.kept hg (own_ne (h.hx x hx).1 h.h2 (by decide))) (Nat.lt_succ_self _) _, own_set ((h.hx x hx).2.kept hg (own_ne (h.hx x hx).2 h.h2 (by decide))) (Nat.lt_succ_self _) _⟩, ?_, ?_⟩
  · have := own_set ho (p := ⟨B, 2, none⟩) (Nat.lt_succ_self _) v
    rw [← gatCells_snoc] at this
    simpa using this
  · exact box_set ((hg.block _ h.lt (own_past h.h2 (Nat.lt_succ_self _))).trans h.hb) v
  · intro y hy
    rcases List.mem_append.1 hy with e | e
    · exact h.hk y e
    · rw [List.mem_singleton.1 e]; exact hg0
theorem Fr.gate {B : Nat} {v2 v : Value} {W W3 : World} (hg : W.grownBy W3 v2.ownBlock) (hf : ∀ k, v.ownBlock = some k → v2.ownBlock = some k ∨ W.heap.size ≤ k) : Fr B v2 v W (W3.setCell ⟨B, 2, none⟩ v) :=
  ⟨hg.os, hg.tape, hg.output, by simpa [World.setCell] using hg.size, fun k hk hB hn => by rw [Below.heap_setCell _ _ _ _ (by simpa using hB)]; exact hg.block k hk hn, hf⟩

set_option maxRecDepth 100000 in
theorem made_any (B p : Nat) (hp : 0 < p) (w : World) (q0 : w.cell? ⟨B, 0, none⟩ = some (.int .u64 p)) : Calls Try.prog 24 #[.pointer (some ⟨B, 0, none⟩)] w fun e w' => e = .returned (.bool true) ∧ w = w' := by
  have h1 : ((p : Int) == 0) = false := by simp; omega
  go_enter Try.func24, Try.ntmps24
  go_wp2
  go_ret
  exact ⟨ret_bl (by simp; omega), rfl⟩
set_option maxRecDepth 100000 in
theorem made_zero (B : Nat) (w : World) (q0 : w.cell? ⟨B, 0, none⟩ = some (.int .u64 0)) : Calls Try.prog 24 #[.pointer (some ⟨B, 0, none⟩)] w fun e w' => e = .returned (.bool false) ∧ w = w' := by
  go_enter Try.func24, Try.ntmps24
  go_wp2
  go_ret
  exact ⟨rfl, rfl⟩
set_option maxRecDepth 100000 in
theorem made_nil (w : World) : Calls Try.prog 24 #[.pointer none] w fun e w' => e = .returned (.bool false) ∧ w = w' := by
  go_enter Try.func24, Try.ntmps24
  go_wp2
  go_ret
  exact ⟨rfl, rfl⟩
end Go.Proofs.Ytkcdlbclodjjhaa
