/- What circ.Read keeps in memory while it reads. -/
import Derived.Test.YtmnbgamnbgdnnaaGreatDoorCjF
namespace Go.Proofs.YtmnbgamnbgdnnaaGreatDoor
open Go.RowKit

theorem infoGat : (Tryz.prog.info? 69).map (fun i => (i.zero, i.size, i.bytes)) = some (some (.agg #[.int .i64 0, .int .i64 0, .int .i64 0, .int .u64 0]), 4, 32) := by kernel_rfl
theorem infoExi : (Tryz.prog.info? 72).map (fun i => (i.zero, i.size, i.bytes)) = some (some (.agg #[.slice none 0 0, .slice none 0 0]), 2, 48) := by kernel_rfl
theorem own_ne {w : World} {base base' : Nat} {e e' : TypeId} {size size' n n' : Nat} {v v' : Value} {xs xs' : List Value} (h : w.ownsRow base e size v n xs) (h' : w.ownsRow base' e' size' v' n' xs') (hne : e ≠ e') : v.ownBlock = none ∨ v.ownBlock ≠ v'.ownBlock := by
  rcases h.2 with ⟨rfl, _⟩ | ⟨g, cap, cur, rfl, _, hg, _⟩
  · exact .inl rfl
  · rcases h'.2 with ⟨rfl, _⟩ | ⟨g', cap', cur', rfl, _, hg', _⟩
    · exact .inr (by simp [Value.ownBlock])
    · refine .inr fun e2 => ?_
      have e3 : g = g' := by simpa [Value.ownBlock] using e2
      subst e3
      rw [hg] at hg'
      injection hg' with hg'
      injection hg' with _ hg' _
      exact hne hg'
theorem own_past {w : World} {base k : Nat} {e : TypeId} {size n : Nat} {v : Value} {xs : List Value} (h : w.ownsRow base e size v n xs) (hk : k < base) : some k ≠ v.ownBlock := fun e => by
  have := (h.lt k e.symm).1
  omega
theorem own_len {w : World} {base : Nat} {e : TypeId} {size n : Nat} {v : Value} {xs : List Value} (h : w.ownsRow base e size v n xs) : n ≤ maxLen := by
  rcases h.2 with ⟨_, rfl⟩ | ⟨g, cap, cur, rfl, _, _, h1, h2, _⟩
  · exact Nat.zero_le _
  · omega
/-- What holds while the lines are read: c lies in block B + 2. -/
structure Inv (B : Nat) (st : Lis) (xs : List Exi) (v1 v2 v3 : Value) (W : World) : Prop where
  h1 : W.ownsRow (B + 3) 54 2 v1 st.1.length (sloCells st.1)
  h2 : W.ownsRow (B + 3) 69 4 v2 st.2.1.length (gatCells st.2.1)
  h3 : W.ownsRow (B + 3) 72 2 v3 xs.length (exiCells xs)
  hx : ∀ x ∈ xs, W.ownsRow (B + 3) 3 1 (.slice x.A x.tl.length x.c) x.tl.length (iCells x.tl) ∧ W.ownsRow (B + 3) 3 1 (.slice x.B x.gl.length x.d) x.gl.length (iCells x.gl)
  hb : W.heap[B + 2]? = some (.cells #[v1, v2, v3] 27 (0, 0))
  hl : xs.map Exi.l = st.2.2
  hk : ∀ g ∈ st.2.1, 0 ≤ g.2.2.2
theorem Inv.lt {B : Nat} {st : Lis} {xs : List Exi} {v1 v2 v3 : Value} {W : World} (h : Inv B st xs v1 v2 v3 W) : B + 2 < W.heap.size := (Array.getElem?_eq_some_iff.1 h.hb).1
theorem Inv.below {B : Nat} {st : Lis} {xs : List Exi} {v1 v2 v3 : Value} {W W' : World} (h : Inv B st xs v1 v2 v3 W) (hb : Below W.heap.size W W') : Inv B st xs v1 v2 v3 W' :=
  ⟨own_below h.h1 hb, own_below h.h2 hb, own_below h.h3 hb, fun x hx => ⟨own_below (h.hx x hx).1 hb, own_below (h.hx x hx).2 hb⟩, (hb.block _ h.lt).trans h.hb, h.hl, h.hk⟩
theorem box_facts {W : World} {b : Nat} {v1 v2 v3 : Value} {t : TypeId} (h : W.heap[b]? = some (.cells #[v1, v2, v3] t (0, 0))) :
    W.cell? ⟨b, 0, none⟩ = some v1 ∧ W.cell? ⟨b, 1, none⟩ = some v2 ∧ W.cell? ⟨b, 2, none⟩ = some v3 ∧ W.frozen? ⟨b, 0, none⟩ = false ∧ W.frozen? ⟨b, 1, none⟩ = false ∧ W.frozen? ⟨b, 2, none⟩ = false := by
  simp [World.cell?, World.frozen?, h]
theorem box_set {W : World} {b i : Nat} {cs : Array Value} {t : TypeId} {fr : Nat × Nat} (h : W.heap[b]? = some (.cells cs t fr)) (u : Value) : (W.setCell ⟨b, i, none⟩ u).heap[b]? = some (.cells (cs.setIfInBounds i u) t fr) := by
  simp only [World.setCell, Array.getElem?_modify, if_true, h, Option.map_some]
  rfl
theorem Inv.slots {B : Nat} {st : Lis} {xs : List Exi} {v1 v2 v3 v : Value} {W : World} (h : Inv B st xs v1 v2 v3 W) {l : List Slo} (ho : W.ownsRow (B + 3) 54 2 v l.length (sloCells l)) : Inv B (l, st.2.1, st.2.2) xs v v2 v3 (W.setCell ⟨B + 2, 0, none⟩ v) :=
  ⟨own_set ho (Nat.lt_succ_self _) _, own_set h.h2 (Nat.lt_succ_self _) _, own_set h.h3 (Nat.lt_succ_self _) _, fun x hx => ⟨own_set (h.hx x hx).1 (Nat.lt_succ_self _) _, own_set (h.hx x hx).2 (Nat.lt_succ_self _) _⟩, box_set h.hb _, h.hl, h.hk⟩
theorem gatCells_snoc (l : List Gat) (g : Gat) : gatCells (l ++ [g]) = gatCells l ++ [.int .i64 g.1, .int .i64 g.2.1, .int .i64 g.2.2.1, .int .u64 g.2.2.2] := by simp [gatCells]
theorem exiCells_snoc (l : List Exi) (x : Exi) : exiCells (l ++ [x]) = exiCells l ++ [.slice x.A x.tl.length x.c, .slice x.B x.gl.length x.d] := by simp [exiCells]
theorem Inv.gate {B : Nat} {st : Lis} {xs : List Exi} {v1 v2 v3 v : Value} {W W3 : World} (h : Inv B st xs v1 v2 v3 W) {g : Gat} (hg0 : 0 ≤ g.2.2.2) (ho : W3.ownsRow (B + 3) 69 4 v (st.2.1.length + 1) (gatCells st.2.1 ++ [.int .i64 g.1, .int .i64 g.2.1, .int .i64 g.2.2.1, .int .u64 g.2.2.2])) (hg : W.grownBy W3 v2.ownBlock) :
    Inv B (st.1, st.2.1 ++ [g], st.2.2) xs v1 v v3 (W3.setCell ⟨B + 2, 1, none⟩ v) := by
  refine ⟨own_set (h.h1.kept hg (own_ne h.h1 h.h2 (by decide))) (Nat.lt_succ_self _) _, ?_, own_set (h.h3.kept hg (own_ne h.h3 h.h2 (by decide))) (Nat.lt_succ_self _) _, fun x hx => ⟨own_set ((h.hx x hx).1.kept hg (own_ne (h.hx x hx).1 h.h2 (by decide))) (Nat.lt_succ_self _) _, own_set ((h.hx x hx).2.kept hg (own_ne (h.hx x hx).2 h.h2 (by decide))) (Nat.lt_succ_self _) _⟩, ?_, h.hl, ?_⟩
  · have := own_set ho (p := ⟨B + 2, 1, none⟩) (Nat.lt_succ_self _) v
    rw [← gatCells_snoc] at this
    simpa using this
  · exact box_set ((hg.block _ h.lt (own_past h.h2 (Nat.lt_succ_self _))).trans h.hb) v
  · intro y hy
    rcases List.mem_append.1 hy with e | e
    · exact h.hk y e
    · rw [List.mem_singleton.1 e]; exact hg0
theorem Inv.exit {B : Nat} {st : Lis} {xs : List Exi} {v1 v2 v3 v : Value} {W W3 : World} (h : Inv B st xs v1 v2 v3 W) {x : Exi}
    (hA : W.ownsRow (B + 3) 3 1 (.slice x.A x.tl.length x.c) x.tl.length (iCells x.tl)) (hB : W.ownsRow (B + 3) 3 1 (.slice x.B x.gl.length x.d) x.gl.length (iCells x.gl))
    (ho : W3.ownsRow (B + 3) 72 2 v (xs.length + 1) (exiCells xs ++ [.slice x.A x.tl.length x.c, .slice x.B x.gl.length x.d])) (hg : W.grownBy W3 v3.ownBlock) :
    Inv B (st.1, st.2.1, st.2.2 ++ [x.l]) (xs ++ [x]) v1 v2 v (W3.setCell ⟨B + 2, 2, none⟩ v) := by
  refine ⟨own_set (h.h1.kept hg (own_ne h.h1 h.h3 (by decide))) (Nat.lt_succ_self _) _, own_set (h.h2.kept hg (own_ne h.h2 h.h3 (by decide))) (Nat.lt_succ_self _) _, ?_, fun y hy => ?_, ?_, ?_, h.hk⟩
  · have := own_set ho (p := ⟨B + 2, 2, none⟩) (Nat.lt_succ_self _) v
    rw [← exiCells_snoc] at this
    simpa using this
  · rcases List.mem_append.1 hy with e | e
    · exact ⟨own_set ((h.hx y e).1.kept hg (own_ne (h.hx y e).1 h.h3 (by decide))) (Nat.lt_succ_self _) _, own_set ((h.hx y e).2.kept hg (own_ne (h.hx y e).2 h.h3 (by decide))) (Nat.lt_succ_self _) _⟩
    · rw [List.mem_singleton.1 e]
      exact ⟨own_set (hA.kept hg (own_ne hA h.h3 (by decide))) (Nat.lt_succ_self _) _, own_set (hB.kept hg (own_ne hB h.h3 (by decide))) (Nat.lt_succ_self _) _⟩
  · exact box_set ((hg.block _ h.lt (own_past h.h3 (Nat.lt_succ_self _))).trans h.hb) v
  · rw [List.map_append, h.hl]; rfl
theorem gateOf_k {s : Bs} {g : Gat} (h : gateOf s = some g) : 0 ≤ g.2.2.2 := by
  unfold gateOf at h
  split at h
  · split at h
    · injection h with h; subst h; exact Int.le_refl _
    · split at h
      · injection h with h; subst h; exact Int.natCast_nonneg _
      · cases h
  · split at h
    · injection h with h; subst h; exact Int.le_refl _
    · split at h
      · injection h with h; subst h; exact Int.le_refl _
      · split at h
        · injection h with h; subst h; exact Int.le_refl _
        · split at h
          · injection h with h; subst h; exact Int.natCast_nonneg _
          · cases h
  · cases h
theorem own_reads_at {w : World} {base n c : Nat} {e : TypeId} {size m : Nat} {A : Option Addr} {xs : List Value} (h : w.ownsRow base e size (.slice A n c) m xs) : Reads w A xs := by
  obtain ⟨A', c', e1, r⟩ := own_reads h
  injection e1 with e1 _ _
  rw [e1]
  exact r
/-- The circuit that lies in memory once the lines are read. -/
theorem Inv.holds {B : Nat} {st : Lis} {xs : List Exi} {v1 v2 v3 : Value} {W : World} (h : Inv B st xs v1 v2 v3 W) :
    ∃ C : Cir, v1 = .slice C.SA C.slots.length C.sc ∧ v2 = .slice C.GA C.gates.length C.gc ∧ v3 = .slice C.EA C.exits.length C.ec ∧ C.l = st ∧ ∀ W', Inv B st xs v1 v2 v3 W' → HoldsC W' C := by
  obtain ⟨S, sc, rfl, _⟩ := own_reads h.h1
  obtain ⟨G, gc, rfl, _⟩ := own_reads h.h2
  obtain ⟨E, ec, rfl, _⟩ := own_reads h.h3
  have hm : maxLen ≤ 9223372036854775807 := by unfold maxLen; omega
  refine ⟨⟨st.1, st.2.1, xs, S, G, E, sc, gc, ec⟩, rfl, rfl, rfl, by unfold Cir.l; simp only; rw [h.hl], fun W' h' => ⟨own_reads_at h'.h1, own_reads_at h'.h2, own_reads_at h'.h3, fun x hx => ⟨own_reads_at (h'.hx x hx).1, own_reads_at (h'.hx x hx).2⟩, ⟨Nat.le_trans (own_len h.h1) hm, Nat.le_trans (own_len h.h2) hm, Nat.le_trans (own_len h.h3) hm⟩, fun x hx => ⟨Nat.le_trans (own_len (h.hx x hx).1) hm, Nat.le_trans (own_len (h.hx x hx).2) hm⟩, h.hk⟩⟩
theorem Inv.res {B : Nat} {st : Lis} {xs : List Exi} {v1 v2 v3 : Value} {W : World} (h : Inv B st xs v1 v2 v3 W) (i : Nat) (u : Value) : Inv B st xs v1 v2 v3 (W.setCell ⟨B, i, none⟩ u) :=
  ⟨own_set h.h1 (by simp only; omega) _, own_set h.h2 (by simp only; omega) _, own_set h.h3 (by simp only; omega) _, fun x hx => ⟨own_set (h.hx x hx).1 (by simp only; omega) _, own_set (h.hx x hx).2 (by simp only; omega) _⟩, (Below.heap_setCell _ _ _ _ (by simp only; omega)).trans h.hb, h.hl, h.hk⟩
theorem last_at (l : List Bs) (m : Nat) (h : l.length = m + 1) : l.getLastD [] = l[m]'(by omega) := by
  rw [List.getLastD_eq_getLast?, List.getLast?_eq_getElem?]
  have : l.length - 1 = m := by omega
  simp only [this]
  rw [List.getElem?_eq_getElem (by omega)]
  rfl
theorem results_cell_tmp2 {fn : Func} {p u v : Tmp} {ty : TypeId} (h : fn.results = #[.cell p ty, .tmp u, .tmp v]) (tmps : Array Value) (P : Program) (w : World) :
    (results fn tmps).run P w =
      ((asAddr (tmps.getD p undef)).run P w).andThen fun a w₁ => ((loadVar ty a).run P w₁).andThen fun x w₂ => .ok (.tuple #[x, tmps.getD u undef, tmps.getD v undef]) w₂ := by
  simp only [results, h]
  simp [Sem.run_bind, Result.andThen]
theorem runL_at {ls : List Bs} {k : Nat} (h : k < ls.length) (st : Lis) : runL k st (ls.drop k) = match stepL k st ls[k] with
    | none => .inl k
    | some st' => runL (k + 1) st' (ls.drop (k + 1)) := by
  rw [List.drop_eq_getElem_cons h]
  rfl
theorem runL_end {ls : List Bs} (k : Nat) (st : Lis) : runL k st (ls.drop ls.length) = .inr st := by rw [List.drop_length]; rfl
end Go.Proofs.YtmnbgamnbgdnnaaGreatDoor
