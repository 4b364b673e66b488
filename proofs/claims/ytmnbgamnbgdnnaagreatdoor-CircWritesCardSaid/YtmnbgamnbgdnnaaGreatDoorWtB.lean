/- A row of bytes that begins as a constant's and grows: what an append to it gives. -/
import Derived.Test.YtmnbgamnbgdnnaaGreatDoorWtA
namespace Go.Proofs.YtmnbgamnbgdnnaaGreatDoor
open Go.RowKit

theorem infoB : (Tryz.prog.info? 5).map (fun i => (i.zero, i.size, i.bytes)) = some (some (.int .u8 0), 1, 1) := by kernel_rfl
def OwnB (W : World) (base : Nat) (v : Value) (bs : Bs) : Prop := W.ownsRow base 5 1 v bs.length (Lib.byteCells bs)
theorem OwnB.below {W W' : World} {base : Nat} {v : Value} {bs : Bs} (h : OwnB W base v bs) (hb : Below W.heap.size W W') : OwnB W' base v bs := own_below h hb
/-- What lies in a block of another type is not touched by what grows in v's row. -/
theorem box_kept {W w' : World} {base n x : Nat} {v : Value} {xs : List Value} {cs : Array Value} {t : TypeId} {fr : Nat × Nat} (h : W.ownsRow base 5 1 v n xs) (hx : W.heap[x]? = some (.cells cs t fr)) (ht : t ≠ 5) (hg : W.grownBy w' v.ownBlock) : w'.heap[x]? = some (.cells cs t fr) := by
  have hlt : x < W.heap.size := by
    rcases Nat.lt_or_ge x W.heap.size with h1 | h1
    · exact h1
    · rw [Array.getElem?_eq_none h1] at hx; cases hx
  rw [← hx]
  refine hg.block x hlt fun e => ?_
  rcases h.2 with ⟨rfl, _⟩ | ⟨g, cap, cur, rfl, _, hh, _⟩
  · simp [Value.ownBlock] at e
  · simp [Value.ownBlock] at e
    subst e
    rw [hh] at hx
    injection hx with hx
    injection hx with _ h2 _
    exact ht h2.symm
/-- The call's own row of bytes, or a constant's bytes that no append has copied yet (no room behind them). -/
def BRow (W : World) (base : Nat) (v : Value) (bs : Bs) : Prop :=
  W.ownsRow base 5 1 v bs.length (Lib.byteCells bs) ∨ ∃ g, v = .slice (some ⟨g, 0, none⟩) bs.length bs.length ∧ base ≤ g ∧ Reads W (some ⟨g, 0, none⟩) (Lib.byteCells bs)
theorem BRow.below {W W' : World} {base : Nat} {v : Value} {bs : Bs} (h : BRow W base v bs) (hb : Below W.heap.size W W') : BRow W' base v bs := by
  rcases h with h | ⟨g, rfl, hg, hR⟩
  · exact .inl (own_below h hb)
  · exact .inr ⟨g, rfl, hg, hR.below hb⟩
theorem OwnB.row {W : World} {b : Nat} {v : Value} {bs : Bs} (h : OwnB W b v bs) : BRow W b v bs := .inl h
theorem BRow.base {W : World} {b : Nat} {v : Value} {bs : Bs} (h : BRow W b v bs) : ∀ q, v.ownBlock = some q → b ≤ q := by
  rcases h with h | ⟨g, rfl, hg, _⟩
  · exact fun q hq => (h.lt q hq).1
  · intro q hq; simp [Value.ownBlock] at hq; omega
theorem below_grown {base : Nat} {W w' : World} {row : Option Nat} (h : W.grownBy w' row) (hbase : base ≤ W.heap.size) (hr : ∀ q, row = some q → base ≤ q) : Below base W w' :=
  (Below.refl base W).grown h hbase hr
theorem own_base {w : World} {base : Nat} {e : TypeId} {size n : Nat} {v : Value} {xs : List Value} (h : w.ownsRow base e size v n xs) : ∀ q, v.ownBlock = some q → base ≤ q := fun q hq => (h.lt q hq).1
theorem reads_cells {W : World} {g : Nat} {cs : List Value} (h : Reads W (some ⟨g, 0, none⟩) cs) : ∀ j u, cs[j]? = some u → W.cell? ((⟨g, 0, none⟩ : Addr).add j) = some u := by
  rcases h with h | ⟨ad, e, h⟩
  · intro j u hj; rw [h] at hj; simp at hj
  · injection e with e; subst e; exact h
section
variable {P : Program} {ops : Array Oper} {o : Oper} {a : Act} {Q : Exit → Act → World → Prop}
set_option maxRecDepth 100000 in
/-- A string's bytes are appended. -/
theorem brow_str {rest : List Oper} {W : World} (hgd : o.guard = none) (sl x : Operand)
    (ho : o.op = .call { callee := .builtin .append, args := #[sl, x], argTypes := #[83, 9] })
    (base : Nat) (v : Value) (bs : Bs) (hs : a.eval sl = v) (hB : BRow W base v bs) (s : ByteArray) (hx : a.eval x = .string s) (h0 : 0 < s.size) (hl : bs.length + s.size ≤ 140737488355328) (hbase : base ≤ W.heap.size)
    (h : ∀ v' w', OwnB w' base v' (bs ++ s.data.toList) → W.grownBy w' v.ownBlock → wpList Tryz.prog ops Q rest (a.put o.dst v') w') : wpList Tryz.prog ops Q (o :: rest) a W := by
  obtain ⟨i, hi, hzz⟩ := Option.map_eq_some_iff.1 infoB
  simp only [Prod.mk.injEq] at hzz
  obtain ⟨hz, hs1, hb1⟩ := hzz
  have hcs : Lib.byteCells bs ++ Lib.strCells s = Lib.byteCells (bs ++ s.data.toList) := by simp [Lib.byteCells, Lib.strCells]
  have hln : bs.length + s.size = (bs ++ s.data.toList).length := by rw [List.length_append, data_len]
  have hM : bs.length + s.size ≤ maxLen := by unfold maxLen; omega
  rcases hB with hown | ⟨g, rfl, hg, hR⟩
  · refine Lib.wpList_append_own_string W hgd sl x 83 9 ho base 5 i Tryz.underlying83 Tryz.underlying9 hi hz hs1 hb1 v bs.length (Lib.byteCells bs) hs hown s hx hM hl hbase ?_
    intro v' w' h1 h2 _
    rw [hcs, hln] at h1
    exact h v' w' h1 h2
  · refine wpList_plain hgd fun K hK => ?_
    have hr := Lib.run_append_grow_string (P := Tryz.prog) (w := W) 83 9 o.type 5 i (.int .u8 0) Tryz.underlying83 Tryz.underlying9 hi hz ⟨g, 0, none⟩ bs.length bs.length (Lib.byteCells bs) (by rw [hs1, Lib.byteCells_length, Nat.mul_one]) (reads_cells hR) s (by omega) (by omega) (by rw [hb1]; exact growslice_fits (by omega) (by omega))
    unfold Oper.wp execOp
    simp only [ho, resolve, invoke, builtin, Sem.run_bind, Sem.run_pure, Result.andThen_ok, List.map_toArray, List.map_cons, List.map_nil, hs, hx, hr]
    refine hK _ _ (h _ _ ?_ ?_)
    · unfold OwnB
      rw [← hln, ← hcs]
      refine ⟨by rw [List.length_append, Lib.strCells_length, Lib.byteCells_length, Nat.mul_one], .inr ⟨W.heap.size, _, _, rfl, hbase, heap_alloc_new W.drew _, grownCap_ge W _ _ _, grownCap_le_maxLen W _ _ _ hM, ?_, ?_⟩⟩
      · have hge := grownCap_ge W (bs.length + s.size) bs.length 5
        have hz1 : (Value.int IntKind.u8 0).cells.size = 1 := rfl
        simp only [Array.size_append, List.size_toArray, size_zeroCells, hz1, Lib.strCells_length, Lib.byteCells_length]
        omega
      · have e2 : (bs.length + s.size) * 1 = (Lib.byteCells bs ++ Lib.strCells s).length := by rw [List.length_append, Lib.strCells_length, Lib.byteCells_length, Nat.mul_one]
        rw [e2]
        simp only [Array.toList_append]
        exact List.take_left
    · exact ⟨rfl, rfl, rfl, by simp, fun k hk _ => by first | exact heap_alloc_old W.drew _ hk | exact heap_alloc_old W.drew k _ hk⟩
set_option maxRecDepth 100000 in
/-- One byte is appended. -/
theorem brow_one {rest : List Oper} {W : World} (hgd : o.guard = none) (sl x : Operand)
    (ho : o.op = .call { callee := .builtin .append, args := #[sl, x], argTypes := #[83, 83] })
    (base : Nat) (v : Value) (bs : Bs) (hs : a.eval sl = v) (hB : BRow W base v bs) (c : UInt8) (g : Nat) (hx : a.eval x = .slice (some ⟨g, 0, none⟩) 1 1) (hc : W.cell? ⟨g, 0, none⟩ = some (.int .u8 c.toNat)) (hl : bs.length + 1 ≤ 140737488355328) (hbase : base ≤ W.heap.size)
    (h : ∀ v' w', OwnB w' base v' (bs ++ [c]) → W.grownBy w' v.ownBlock → wpList Tryz.prog ops Q rest (a.put o.dst v') w') : wpList Tryz.prog ops Q (o :: rest) a W := by
  have hcs : Lib.byteCells bs ++ [.int .u8 c.toNat] = Lib.byteCells (bs ++ [c]) := by simp [Lib.byteCells]
  have hln : bs.length + 1 = (bs ++ [c]).length := by simp
  rcases hB with hown | ⟨g2, rfl, hg, hR⟩
  · refine list_append_own (W0 := W) (Below.refl _ _) base hgd sl x 83 5 _ 1 ho Tryz.underlying83 infoB rfl (by decide) v bs.length (Lib.byteCells bs) (.int .u8 c.toNat) hs g hx hc rfl hown hbase (by omega) ?_
    intro v' w' h1 h2
    rw [hcs, hln] at h1
    exact h v' w' h1 h2
  · obtain ⟨i, hi, hzz⟩ := Option.map_eq_some_iff.1 infoB
    simp only [Prod.mk.injEq] at hzz
    obtain ⟨hz, hs1, hb1⟩ := hzz
    refine wpList_append_grows W hgd sl x 83 ho 5 i (.int .u8 0) 1 1 Tryz.underlying83 hi hz hs1 hb1 rfl (by decide) (some ⟨g2, 0, none⟩) bs.length bs.length (Lib.byteCells bs) hs (fun e => by cases e) (by rw [Lib.byteCells_length, Nat.mul_one]) (fun b e => by injection e with e; subst e; exact reads_cells hR) ⟨g, 0, none⟩ 1 1 [.int .u8 c.toNat] hx rfl ?_ (by intro u hu; simp at hu; subst hu; rfl) (by omega) (by unfold maxLen; omega) (by omega) ?_
    · intro j u hj
      cases j with
      | zero => simp at hj; subst hj; simpa [Addr.add] using hc
      | succ j => simp at hj
    · intro v' w' h1 h2
      rw [hcs, hln] at h1
      exact h v' w' (own_lower h1 hbase) ⟨h2.os, h2.tape, h2.output, h2.size, fun k hk _ => h2.block k hk (by simp)⟩
end
theorem brow_reads {W : World} {base : Nat} {v : Value} {bs : Bs} (h : BRow W base v bs) (hn : bs ≠ []) : ∃ g cap, v = .slice (some ⟨g, 0, none⟩) bs.length cap ∧ ∀ j (hj : j < bs.length), W.cell? ((⟨g, 0, none⟩ : Addr).add j) = some (.int .u8 bs[j].toNat) := by
  have key : ∀ (g : Nat), Reads W (some ⟨g, 0, none⟩) (Lib.byteCells bs) → ∀ j (hj : j < bs.length), W.cell? ((⟨g, 0, none⟩ : Addr).add j) = some (.int .u8 bs[j].toNat) := fun g hR j hj =>
    reads_cells hR j _ (by simp [Lib.byteCells, List.getElem?_eq_getElem hj])
  rcases h with h | ⟨g, rfl, _, hR⟩
  · have hpos : 0 < bs.length := List.length_pos_iff.2 hn
    obtain ⟨g, cap, rfl, _, _⟩ := own_form h hpos
    refine ⟨g, cap, rfl, key g ?_⟩
    obtain ⟨A, c, e, hR⟩ := own_reads h
    injection e with e1 _ _
    rw [e1]
    exact hR
  · exact ⟨g, _, rfl, key g hR⟩
end Go.Proofs.YtmnbgamnbgdnnaaGreatDoor
