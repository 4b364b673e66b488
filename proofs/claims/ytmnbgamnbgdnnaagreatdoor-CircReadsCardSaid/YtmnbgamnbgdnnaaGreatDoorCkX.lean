/- A circuit that came in, opened. -/
import Derived.Test.YtmnbgamnbgdnnaaGreatDoorMa
import Derived.Test.YtmnbgamnbgdnnaaGreatDoorRow
import Derived.Deep.Slices
import Derived.ChangeMaps5
import Derived.ChangeArms
namespace Go.Proofs.YtmnbgamnbgdnnaaGreatDoor
open Go.ChangeShapes Go.WideShapes Go.RowKit Go.Deep

theorem choose_lt' {α : Type} {n : Nat} {R : Nat → α → Prop} (h : ∀ i, i < n → ∃ x, R i x) (d : α) : ∃ q : Nat → α, ∀ i, i < n → R i (q i) := by
  classical
  refine ⟨fun i => if hi : i < n then (h i hi).choose else d, fun i hi => ?_⟩
  simp only [dif_pos hi]
  exact (h i hi).choose_spec
theorem flat_len {α : Type} (f : α → List Value) (n : Nat) (hf : ∀ x, (f x).length = n) (l : List α) : (l.flatMap f).length = l.length * n := by
  induction l with
  | nil => simp
  | cons x r ih => rw [List.flatMap_cons, List.length_append, hf, ih, List.length_cons, Nat.add_mul]; omega
theorem reads_rows {α : Type} {w : World} {a : Addr} (f : α → List Value) (n : Nat) (hn : 0 < n) (hf : ∀ x, (f x).length = n) (len : Nat) (q : Nat → α) (h : ∀ i, i < len → ∀ j, j < n → w.cell? (a.add (i * n + j)) = (f (q i))[j]?) :
    Reads w (some a) (((List.range len).map q).flatMap f) := by
  refine .inr ⟨a, rfl, fun j u hj => ?_⟩
  have hl : ((List.range len).map q).length = len := by simp
  have h1 := (List.getElem?_eq_some_iff.1 hj).1
  rw [flat_len f n hf, hl] at h1
  have hk : j / n < len := (Nat.div_lt_iff_lt_mul hn).2 h1
  have hm : j % n < n := Nat.mod_lt _ hn
  have e : j = j / n * n + j % n := by rw [Nat.mul_comm]; exact (Nat.div_add_mod j n).symm
  have h2 := flat_at f n hf ((List.range len).map q) (j / n) (by rw [hl]; exact hk) (j % n) hm
  rw [← e, hj, List.getElem_map, List.getElem_range] at h2
  rw [e, h _ hk _ hm, ← h2]
section
variable {H : Type} {enc : TypeId × Value → H} {w : World} {base : Nat} {sp : Nat → Bool} {held : Bool}
theorem cellsSlot : Tryz.prog.cellsOf 54 = 2 := by kernel_rfl
theorem cellsGate : Tryz.prog.cellsOf 69 = 4 := by kernel_rfl
theorem cellsExit : Tryz.prog.cellsOf 72 = 2 := by kernel_rfl
theorem cellsCir : Tryz.prog.cellsOf 27 = 3 := by kernel_rfl
theorem cellsI : Tryz.prog.cellsOf 3 = 1 := by kernel_rfl
theorem cellsB : Tryz.prog.cellsOf 4 = 1 := by kernel_rfl
theorem cellsU : Tryz.prog.cellsOf 22 = 1 := by kernel_rfl
theorem cellsLI : Tryz.prog.cellsOf 61 = 1 := by kernel_rfl
theorem cellsLS : Tryz.prog.cellsOf 23 = 1 := by kernel_rfl
theorem cellsLG : Tryz.prog.cellsOf 24 = 1 := by kernel_rfl
theorem cellsLE : Tryz.prog.cellsOf 25 = 1 := by kernel_rfl
def SlotT (fs : Array Field) : Prop := ∃ f0 f1, fs = #[f0, f1] ∧ f0.offset = 0 ∧ f1.offset = 1 ∧ f0.type = 3 ∧ f1.type = 4
theorem slotFields : ∃ fs, Tryz.prog.underlying 54 = some (.struct fs) ∧ SlotT fs := ⟨_, Tryz.underlying54, _, _, rfl, rfl, rfl, rfl, rfl⟩
def GateT (fs : Array Field) : Prop := ∃ f0 f1 f2 f3, fs = #[f0, f1, f2, f3] ∧ f0.offset = 0 ∧ f1.offset = 1 ∧ f2.offset = 2 ∧ f3.offset = 3 ∧ f0.type = 3 ∧ f1.type = 3 ∧ f2.type = 3 ∧ f3.type = 22
theorem gateFields : ∃ fs, Tryz.prog.underlying 69 = some (.struct fs) ∧ GateT fs := ⟨_, Tryz.underlying69, _, _, _, _, rfl, rfl, rfl, rfl, rfl, rfl, rfl, rfl, rfl⟩
def ExitT (fs : Array Field) : Prop := ∃ f0 f1, fs = #[f0, f1] ∧ f0.offset = 0 ∧ f1.offset = 1 ∧ f0.type = 61 ∧ f1.type = 61
theorem exitFields : ∃ fs, Tryz.prog.underlying 72 = some (.struct fs) ∧ ExitT fs := ⟨_, Tryz.underlying72, _, _, rfl, rfl, rfl, rfl, rfl⟩
def CirT (fs : Array Field) : Prop := ∃ f0 f1 f2, fs = #[f0, f1, f2] ∧ f0.offset = 0 ∧ f1.offset = 1 ∧ f2.offset = 2 ∧ f0.type = 23 ∧ f1.type = 24 ∧ f2.type = 25
theorem cirFields : ∃ fs, Tryz.prog.underlying 27 = some (.struct fs) ∧ CirT fs := ⟨_, Tryz.underlying27, _, _, _, rfl, rfl, rfl, rfl, rfl, rfl, rfl⟩
set_option maxRecDepth 100000 in
theorem open_slot {n : Nat} {cs : List Value} {x : DataW H × List MemPlace} (hlen : cs.length = 2) (h : DataW.trod enc Tryz.prog w base sp held n 54 cs = some x) : ∃ q : Slo, cs = [.int .i64 q.1, .bool q.2] := by
  obtain ⟨fs, hu, f0, f1, rfl, o0, o1, t0, t1⟩ := slotFields
  obtain ⟨xs, k, hk, hxy, _, hxl, hf⟩ := DataW.trod_struct hu h
  match xs, hxl, cs, hlen with
  | [y0, y1], _, [v0, v1], _ =>
    have g0 := hf 0 f0 rfl
    have g1 := hf 1 f1 rfl
    simp [o0, o1, t0, t1, cellsI, cellsB] at g0 g1
    obtain ⟨a0, e0, _⟩ := DataW.trod_int Tryz.underlying3 g0
    obtain ⟨a1, e1, _⟩ := DataW.trod_bool Tryz.underlying4 g1
    simp at e0 e1
    subst e0 e1
    exact ⟨(a0, a1), rfl⟩
set_option maxRecDepth 100000 in
theorem open_gate {n : Nat} {cs : List Value} {x : DataW H × List MemPlace} (hlen : cs.length = 4) (h : DataW.trod enc Tryz.prog w base sp held n 69 cs = some x) : ∃ q : Gat, cs = [.int .i64 q.1, .int .i64 q.2.1, .int .i64 q.2.2.1, .int .u64 q.2.2.2] ∧ 0 ≤ q.2.2.2 := by
  obtain ⟨fs, hu, f0, f1, f2, f3, rfl, o0, o1, o2, o3, t0, t1, t2, t3⟩ := gateFields
  obtain ⟨xs, k, hk, hxy, _, hxl, hf⟩ := DataW.trod_struct hu h
  match xs, hxl, cs, hlen with
  | [y0, y1, y2, y3], _, [v0, v1, v2, v3], _ =>
    have g0 := hf 0 f0 rfl
    have g1 := hf 1 f1 rfl
    have g2 := hf 2 f2 rfl
    have g3 := hf 3 f3 rfl
    simp [o0, o1, o2, o3, t0, t1, t2, t3, cellsI, cellsU] at g0 g1 g2 g3
    obtain ⟨a0, e0, _⟩ := DataW.trod_int Tryz.underlying3 g0
    obtain ⟨a1, e1, _⟩ := DataW.trod_int Tryz.underlying3 g1
    obtain ⟨a2, e2, _⟩ := DataW.trod_int Tryz.underlying3 g2
    obtain ⟨a3, e3, _, e3'⟩ := DataW.trod_int Tryz.underlying22 g3
    simp at e0 e1 e2 e3
    subst e0 e1 e2 e3
    have h0 : (0 : Int) ≤ a3 := by
      simp only [Lit.wf, Bool.and_eq_true, decide_eq_true_eq] at e3'
      have h1 := e3'.1
      have h2 : IntKind.u64.min = 0 := rfl
      rw [h2] at h1
      exact h1
    exact ⟨(a0, a1, a2, a3), rfl, h0⟩
set_option maxRecDepth 100000 in
theorem open_ints {n : Nat} {cs : List Value} {x : DataW H × List MemPlace} (h : DataW.trod enc Tryz.prog w base sp held n 61 cs = some x) :
    ∃ (A : Option Addr) (c : Nat) (l : List Int), cs = [.slice A l.length c] ∧ Reads w A (iCells l) ∧ l.length ≤ maxLen := by
  rcases open_slice1 Tryz.underlying61 cellsI h with ⟨hcs, _⟩ | ⟨a, len, cap, m, n, V, D, Pl, hcs, _, hl, hm, hmm, _, hx⟩
  · exact ⟨none, 0, [], hcs, .inl rfl, by simp⟩
  · have hlm : len ≤ m := by rw [hmm]; split <;> omega
    have each : ∀ i, i < len → ∃ z : Int, w.cell? (a.add i) = some (.int .i64 z) := by
      intro i hi
      obtain ⟨h1, h2⟩ := hx i (by omega)
      obtain ⟨z, e, _⟩ := DataW.trod_int Tryz.underlying3 h2
      simp at e
      exact ⟨z, by rw [h1, e]⟩
    obtain ⟨q, hq⟩ := choose_lt' each 0
    refine ⟨some a, cap, (List.range len).map q, by rw [hcs]; simp, .inr ⟨a, rfl, fun j u hj => ?_⟩, by simp; omega⟩
    have h1 := (List.getElem?_eq_some_iff.1 hj).1
    simp [iCells] at h1
    simp [iCells, h1] at hj
    rw [hq j h1, hj]
set_option maxRecDepth 100000 in
theorem open_exit {n : Nat} {cs : List Value} {x : DataW H × List MemPlace} (hlen : cs.length = 2) (h : DataW.trod enc Tryz.prog w base sp held n 72 cs = some x) :
    ∃ q : Exi, cs = [.slice q.A q.tl.length q.c, .slice q.B q.gl.length q.d] ∧ (Reads w q.A (iCells q.tl) ∧ Reads w q.B (iCells q.gl)) ∧ q.tl.length ≤ maxLen ∧ q.gl.length ≤ maxLen := by
  obtain ⟨fs, hu, f0, f1, rfl, o0, o1, t0, t1⟩ := exitFields
  obtain ⟨xs, k, hk, hxy, _, hxl, hf⟩ := DataW.trod_struct hu h
  match xs, hxl, cs, hlen with
  | [y0, y1], _, [v0, v1], _ =>
    have g0 := hf 0 f0 rfl
    have g1 := hf 1 f1 rfl
    simp [o0, o1, t0, t1, cellsLI] at g0 g1
    obtain ⟨A0, c0, l0, e0, r0, n0⟩ := open_ints g0
    obtain ⟨A1, c1, l1, e1, r1, n1⟩ := open_ints g1
    simp at e0 e1
    subst e0 e1
    exact ⟨⟨l0, l1, A0, A1, c0, c1⟩, rfl, ⟨r0, r1⟩, n0, n1⟩
/-- A slice of structs, opened row by row. -/
theorem open_rows {α : Type} {t e : TypeId} {n : Nat} {cs : List Value} {x : DataW H × List MemPlace} (ht : Tryz.prog.underlying t = some (.slice e)) (k : Nat) (hk : 0 < k) (ce : Tryz.prog.cellsOf e = k) (f : α → List Value) (hf : ∀ x, (f x).length = k) (R : α → Prop) (d : α)
    (one : ∀ {n : Nat} {cs : List Value} {x : DataW H × List MemPlace}, cs.length = k → DataW.trod enc Tryz.prog w base sp held n e cs = some x → ∃ q : α, cs = f q ∧ R q)
    (h : DataW.trod enc Tryz.prog w base sp held n t cs = some x) : ∃ (A : Option Addr) (c : Nat) (l : List α), cs = [.slice A l.length c] ∧ Reads w A (l.flatMap f) ∧ (∀ x ∈ l, R x) ∧ l.length ≤ maxLen := by
  rcases open_slice ht h with ⟨hcs, _⟩ | ⟨a, len, cap, m, n, D, Pl, hcs, _, hl, hm, hmm, _, hx⟩
  · exact ⟨none, 0, [], hcs, .inl rfl, (by simp), by simp⟩
  · have hlm : len ≤ m := by rw [hmm]; split <;> omega
    have each : ∀ i, i < len → ∃ q : α, (∀ j, j < k → w.cell? (a.add (i * k + j)) = (f q)[j]?) ∧ R q := by
      intro i hi
      obtain ⟨cs', h1, h2⟩ := hx i (by omega)
      rw [ce] at h1
      obtain ⟨_, hlen, hcell⟩ := World.cells?_some h1
      obtain ⟨q, rfl, hr⟩ := one hlen h2
      refine ⟨q, fun j hj => ?_, hr⟩
      have e0 := hcell j (by omega)
      rw [add_add] at e0
      exact e0
    obtain ⟨q, hq⟩ := choose_lt' each d
    have hlen : ((List.range len).map q).length = len := by simp
    refine ⟨some a, cap, (List.range len).map q, by rw [hcs, hlen], reads_rows f k hk hf len q (fun i hi => (hq i hi).1), ?_, by rw [hlen]; omega⟩
    intro x hx'
    obtain ⟨i, hi, rfl⟩ := List.mem_map.1 hx'
    exact (hq i (List.mem_range.1 hi)).2
set_option maxRecDepth 100000 in
theorem open_cir {v : Value} {b0 : Nat} {r : Reach} {d : DataW H} {ps : List MemPlace} (hval : Value.okWide Tryz.prog w r b0 27 v) (h : DataW.Trod enc Tryz.prog w base sp held 27 v d ps) :
    ∃ C : Cir, v = .agg #[.slice C.SA C.slots.length C.sc, .slice C.GA C.gates.length C.gc, .slice C.EA C.exits.length C.ec] ∧ HoldsC w C := by
  obtain ⟨fs, hu, f0, f1, f2, rfl, o0, o1, o2, t0, t1, t2⟩ := cirFields
  obtain ⟨cs, rfl, hsz⟩ := okWide_struct hu hval
  rw [cellsCir] at hsz
  obtain ⟨fuel, hf0⟩ := h
  obtain ⟨xs, k, hk, hxy, _, hxl, hf⟩ := DataW.trod_struct hu hf0
  obtain ⟨cl⟩ := cs
  match xs, hxl, cl, hsz with
  | [y0, y1, y2], _, [v0, v1, v2], _ =>
    have g0 := hf 0 f0 rfl
    have g1 := hf 1 f1 rfl
    have g2 := hf 2 f2 rfl
    simp [o0, o1, o2, t0, t1, t2, cellsLS, cellsLG, cellsLE, Value.cells] at g0 g1 g2
    obtain ⟨A0, c0, l0, e0, r0, _, n0⟩ := open_rows (α := Slo) Tryz.underlying23 2 (by omega) cellsSlot (fun x => [.int .i64 x.1, .bool x.2]) (fun _ => rfl) (fun _ => True) (0, false) (fun hl h => by obtain ⟨q, hq⟩ := open_slot hl h; exact ⟨q, hq, trivial⟩) g0
    obtain ⟨A1, c1, l1, e1, r1, k1, n1⟩ := open_rows (α := Gat) Tryz.underlying24 4 (by omega) cellsGate (fun g => [.int .i64 g.1, .int .i64 g.2.1, .int .i64 g.2.2.1, .int .u64 g.2.2.2]) (fun _ => rfl) (fun g => 0 ≤ g.2.2.2) (0, 0, 0, 0) (fun hl h => open_gate hl h) g1
    obtain ⟨A2, c2, l2, e2, r2, k2, n2⟩ := open_rows (α := Exi) Tryz.underlying25 2 (by omega) cellsExit (fun x => [.slice x.A x.tl.length x.c, .slice x.B x.gl.length x.d]) (fun _ => rfl) (fun q => (Reads w q.A (iCells q.tl) ∧ Reads w q.B (iCells q.gl)) ∧ q.tl.length ≤ maxLen ∧ q.gl.length ≤ maxLen) ⟨[], [], none, none, 0, 0⟩ (fun hl h => open_exit hl h) g2
    simp at e0 e1 e2
    subst e0 e1 e2
    refine ⟨⟨l0, l1, l2, A0, A1, A2, c0, c1, c2⟩, rfl, ⟨r0, r1, r2, fun x hx => (k2 x hx).1, ⟨?_, ?_, ?_⟩, fun x hx => ⟨?_, ?_⟩, k1⟩⟩
    · simpa [maxLen] using n0
    · simpa [maxLen] using n1
    · simpa [maxLen] using n2
    · simpa [maxLen] using (k2 x hx).2.1
    · simpa [maxLen] using (k2 x hx).2.2
end
end Go.Proofs.YtmnbgamnbgdnnaaGreatDoor
