/- Contracts and plain laws of chapter 13, merged: Ti Tj. -/
import Derived.Test.YtkcdlbclodjjhaaGreatGbd
import Derived.Test.YtkcdlbclodjjhaaGreatRow
import Derived.Deep.Slices
import Derived.ChangeMaps5
import Derived.ChangeArms
import Derived.Test.YtkcdlbclodjjhaaGreatGat
/- The acts and the inputs that came in, opened. -/
namespace Go.Proofs.YtkcdlbclodjjhaaGreat
open Go.ChangeShapes Go.WideShapes Go.RowKit Go.Deep

theorem choose_lt' {α : Type} {n : Nat} {R : Nat → α → Prop} (h : ∀ i, i < n → ∃ x, R i x) (d : α) : ∃ q : Nat → α, ∀ i, i < n → R i (q i) := by
  classical
  refine ⟨fun i => if hi : i < n then (h i hi).choose else d, fun i hi => ?_⟩
  simp only [dif_pos hi]
  exact (h i hi).choose_spec
theorem flat_len {α : Type} (f : α → List Value) (n : Nat) (hf : ∀ x, (f x).length = n) (l : List α) : (l.flatMap f).length = l.length * n := by
  induction l with
  | nil => simp
  | cons x r ih => rw [List.flatMap_cons, List.length_append, hf, ih, List.length_cons, Nat.add_mul]; omega
theorem reads_rows {α : Type} {w : World} {a : Addr} (f : α → List Value) (n : Nat) (hn : 0 < n) (hf : ∀ x, (f x).length = n) (len : Nat) (q : Nat → α) (h : ∀ i, i < len → ∀ j, j < n → w.cell? (a.add (i * n + j)) = (f (q i))[j]?) :
    Reads w (some a) (((List.range len).map q).flatMap f) := by
  refine .inr ⟨a, rfl, fun j u hj => ?_⟩
  have hl : ((List.range len).map q).length = len := by simp
  have h1 := (List.getElem?_eq_some_iff.1 hj).1
  rw [flat_len f n hf, hl] at h1
  have hk : j / n < len := (Nat.div_lt_iff_lt_mul hn).2 h1
  have hm : j % n < n := Nat.mod_lt _ hn
  have e : j = j / n * n + j % n := by rw [Nat.mul_comm]; exact (Nat.div_add_mod j n).symm
  have h2 := flat_at f n hf ((List.range len).map q) (j / n) (by rw [hl]; exact hk) (j % n) hm
  rw [← e, hj, List.getElem_map, List.getElem_range] at h2
  rw [e, h _ hk _ hm, ← h2]
section
variable {H : Type} {enc : TypeId × Value → H} {w : World} {base : Nat} {sp : Nat → Bool} {held : Bool}
theorem cellsSlot : Tryz.prog.cellsOf 40 = 2 := by kernel_rfl
theorem cellsGate : Tryz.prog.cellsOf 42 = 4 := by kernel_rfl
theorem cellsExit : Tryz.prog.cellsOf 44 = 2 := by kernel_rfl
theorem cellsAct : Tryz.prog.cellsOf 46 = 15 := by kernel_rfl
theorem cellsI : Tryz.prog.cellsOf 3 = 1 := by kernel_rfl
theorem cellsB : Tryz.prog.cellsOf 4 = 1 := by kernel_rfl
theorem cellsU : Tryz.prog.cellsOf 22 = 1 := by kernel_rfl
theorem cellsLI : Tryz.prog.cellsOf 38 = 1 := by kernel_rfl
def SlotT (fs : Array Field) : Prop := ∃ f0 f1, fs = #[f0, f1] ∧ f0.offset = 0 ∧ f1.offset = 1 ∧ f0.type = 3 ∧ f1.type = 4
theorem slotFields : ∃ fs, Tryz.prog.underlying 40 = some (.struct fs) ∧ SlotT fs := ⟨_, Tryz.underlying40, _, _, rfl, rfl, rfl, rfl, rfl⟩
def GateT (fs : Array Field) : Prop := ∃ f0 f1 f2 f3, fs = #[f0, f1, f2, f3] ∧ f0.offset = 0 ∧ f1.offset = 1 ∧ f2.offset = 2 ∧ f3.offset = 3 ∧ f0.type = 3 ∧ f1.type = 3 ∧ f2.type = 3 ∧ f3.type = 22
theorem gateFields : ∃ fs, Tryz.prog.underlying 42 = some (.struct fs) ∧ GateT fs := ⟨_, Tryz.underlying42, _, _, _, _, rfl, rfl, rfl, rfl, rfl, rfl, rfl, rfl, rfl⟩
def ExitT (fs : Array Field) : Prop := ∃ f0 f1, fs = #[f0, f1] ∧ f0.offset = 0 ∧ f1.offset = 1 ∧ f0.type = 38 ∧ f1.type = 38
theorem exitFields : ∃ fs, Tryz.prog.underlying 44 = some (.struct fs) ∧ ExitT fs := ⟨_, Tryz.underlying44, _, _, rfl, rfl, rfl, rfl, rfl⟩
def ActT (fs : Array Field) : Prop := ∃ f0 f1 f2 f3 f4 f5 f6 f7 f8 f9, fs = #[f0, f1, f2, f3, f4, f5, f6, f7, f8, f9] ∧ f0.offset = 0 ∧ f1.offset = 1 ∧ f2.offset = 2 ∧ f3.offset = 3 ∧ f4.offset = 4 ∧ f5.offset = 5 ∧ f6.offset = 6 ∧ f7.offset = 7 ∧ f8.offset = 9 ∧ f9.offset = 13 ∧ f0.type = 3 ∧ f1.type = 3 ∧ f2.type = 3 ∧ f3.type = 3 ∧ f4.type = 22 ∧ f5.type = 38 ∧ f6.type = 38 ∧ f7.type = 40 ∧ f8.type = 42 ∧ f9.type = 44
theorem actFields : ∃ fs, Tryz.prog.underlying 46 = some (.struct fs) ∧ ActT fs := ⟨_, Tryz.underlying46, _, _, _, _, _, _, _, _, _, _, rfl, rfl, rfl, rfl, rfl, rfl, rfl, rfl, rfl, rfl, rfl, rfl, rfl, rfl, rfl, rfl, rfl, rfl, rfl, rfl, rfl⟩
set_option maxRecDepth 100000 in
theorem open_slot {n : Nat} {cs : List Value} {x : DataW H × List MemPlace} (hlen : cs.length = 2) (h : DataW.trod enc Tryz.prog w base sp held n 40 cs = some x) : ∃ q : Slo, cs = [.int .i64 q.1, .bool q.2] := by
  obtain ⟨fs, hu, f0, f1, rfl, o0, o1, t0, t1⟩ := slotFields
  obtain ⟨xs, k, hk, hxy, _, hxl, hf⟩ := DataW.trod_struct hu h
  match xs, hxl, cs, hlen with
  | [y0, y1], _, [v0, v1], _ =>
    have g0 := hf 0 f0 rfl
    have g1 := hf 1 f1 rfl
    simp [o0, o1, t0, t1, cellsI, cellsB] at g0 g1
    obtain ⟨a0, e0, _⟩ := DataW.trod_int Tryz.underlying3 g0
    obtain ⟨a1, e1, _⟩ := DataW.trod_bool Tryz.underlying4 g1
    simp at e0 e1
    subst e0 e1
    exact ⟨(a0, a1), rfl⟩
set_option maxRecDepth 100000 in
theorem open_gate {n : Nat} {cs : List Value} {x : DataW H × List MemPlace} (hlen : cs.length = 4) (h : DataW.trod enc Tryz.prog w base sp held n 42 cs = some x) : ∃ q : Gat, cs = [.int .i64 q.1, .int .i64 q.2.1, .int .i64 q.2.2.1, .int .u64 q.2.2.2] ∧ 0 ≤ q.2.2.2 := by
  obtain ⟨fs, hu, f0, f1, f2, f3, rfl, o0, o1, o2, o3, t0, t1, t2, t3⟩ := gateFields
  obtain ⟨xs, k, hk, hxy, _, hxl, hf⟩ := DataW.trod_struct hu h
  match xs, hxl, cs, hlen with
  | [y0, y1, y2, y3], _, [v0, v1, v2, v3], _ =>
    have g0 := hf 0 f0 rfl
    have g1 := hf 1 f1 rfl
    have g2 := hf 2 f2 rfl
    have g3 := hf 3 f3 rfl
    simp [o0, o1, o2, o3, t0, t1, t2, t3, cellsI, cellsU] at g0 g1 g2 g3
    obtain ⟨a0, e0, _⟩ := DataW.trod_int Tryz.underlying3 g0
    obtain ⟨a1, e1, _⟩ := DataW.trod_int Tryz.underlying3 g1
    obtain ⟨a2, e2, _⟩ := DataW.trod_int Tryz.underlying3 g2
    obtain ⟨a3, e3, _, e3'⟩ := DataW.trod_int Tryz.underlying22 g3
    simp at e0 e1 e2 e3
    subst e0 e1 e2 e3
    have h0 : (0 : Int) ≤ a3 := by
      simp only [Lit.wf, Bool.and_eq_true, decide_eq_true_eq] at e3'
      have h1 := e3'.1
      have h2 : IntKind.u64.min = 0 := rfl
      rw [h2] at h1
      exact h1
    exact ⟨(a0, a1, a2, a3), rfl, h0⟩
set_option maxRecDepth 100000 in
theorem open_intsQ {n : Nat} {cs : List Value} {x : DataW H × List MemPlace} (h : DataW.trod enc Tryz.prog w base sp held n 38 cs = some x) :
    ∃ (A : Option Addr) (c : Nat) (l : List Int), cs = [.slice A l.length c] ∧ Reads w A (iCells l) ∧ l.length ≤ maxLen ∧ l.length ≤ c ∧ (A = none → c = 0) := by
  rcases open_slice1 Tryz.underlying38 cellsI h with ⟨hcs, _⟩ | ⟨a, len, cap, m, n, V, D, Pl, hcs, _, hl, hm, hmm, _, hx⟩
  · exact ⟨none, 0, [], hcs, .inl rfl, by simp, by simp, fun _ => rfl⟩
  · have hlm : len ≤ m := by rw [hmm]; split <;> omega
    have each : ∀ i, i < len → ∃ z : Int, w.cell? (a.add i) = some (.int .i64 z) := by
      intro i hi
      obtain ⟨h1, h2⟩ := hx i (by omega)
      obtain ⟨z, e, _⟩ := DataW.trod_int Tryz.underlying3 h2
      simp at e
      exact ⟨z, by rw [h1, e]⟩
    obtain ⟨q, hq⟩ := choose_lt' each 0
    refine ⟨some a, cap, (List.range len).map q, by rw [hcs]; simp, .inr ⟨a, rfl, fun j u hj => ?_⟩, by simp; omega, by simpa using hl, fun e => by cases e⟩
    have h1 := (List.getElem?_eq_some_iff.1 hj).1
    simp [iCells] at h1
    simp [iCells, h1] at hj
    rw [hq j h1, hj]
set_option maxRecDepth 100000 in
theorem open_exitQ {n : Nat} {cs : List Value} {x : DataW H × List MemPlace} (hlen : cs.length = 2) (h : DataW.trod enc Tryz.prog w base sp held n 44 cs = some x) :
    ∃ q : Exi, cs = [.slice q.A q.tl.length q.c, .slice q.B q.gl.length q.d] ∧ (Reads w q.A (iCells q.tl) ∧ Reads w q.B (iCells q.gl)) ∧ q.tl.length ≤ maxLen ∧ q.gl.length ≤ maxLen ∧ (q.A = none → q.c = 0) ∧ (q.B = none → q.d = 0) := by
  obtain ⟨fs, hu, f0, f1, rfl, o0, o1, t0, t1⟩ := exitFields
  obtain ⟨xs, k, hk, hxy, _, hxl, hf⟩ := DataW.trod_struct hu h
  match xs, hxl, cs, hlen with
  | [y0, y1], _, [v0, v1], _ =>
    have g0 := hf 0 f0 rfl
    have g1 := hf 1 f1 rfl
    simp [o0, o1, t0, t1, cellsLI] at g0 g1
    obtain ⟨A0, c0, l0, e0, r0, n0, _, z0⟩ := open_intsQ g0
    obtain ⟨A1, c1, l1, e1, r1, n1, _, z1⟩ := open_intsQ g1
    simp at e0 e1
    subst e0 e1
    exact ⟨⟨l0, l1, A0, A1, c0, c1⟩, rfl, ⟨r0, r1⟩, n0, n1, z0, z1⟩
/-- A slice of structs, opened row by row. -/
theorem open_rows {α : Type} {t e : TypeId} {n : Nat} {cs : List Value} {x : DataW H × List MemPlace} (ht : Tryz.prog.underlying t = some (.slice e)) (k : Nat) (hk : 0 < k) (ce : Tryz.prog.cellsOf e = k) (f : α → List Value) (hf : ∀ x, (f x).length = k) (R : α → Prop) (d : α)
    (one : ∀ {n : Nat} {cs : List Value} {x : DataW H × List MemPlace}, cs.length = k → DataW.trod enc Tryz.prog w base sp held n e cs = some x → ∃ q : α, cs = f q ∧ R q)
    (h : DataW.trod enc Tryz.prog w base sp held n t cs = some x) : ∃ (A : Option Addr) (c : Nat) (l : List α), cs = [.slice A l.length c] ∧ Reads w A (l.flatMap f) ∧ (∀ x ∈ l, R x) ∧ l.length ≤ maxLen ∧ l.length ≤ c ∧ (A = none → c = 0) := by
  rcases open_slice ht h with ⟨hcs, _⟩ | ⟨a, len, cap, m, n, D, Pl, hcs, _, hl, hm, hmm, _, hx⟩
  · exact ⟨none, 0, [], hcs, .inl rfl, (by simp), by simp, by simp, fun _ => rfl⟩
  · have hlm : len ≤ m := by rw [hmm]; split <;> omega
    have each : ∀ i, i < len → ∃ q : α, (∀ j, j < k → w.cell? (a.add (i * k + j)) = (f q)[j]?) ∧ R q := by
      intro i hi
      obtain ⟨cs', h1, h2⟩ := hx i (by omega)
      rw [ce] at h1
      obtain ⟨_, hlen, hcell⟩ := World.cells?_some h1
      obtain ⟨q, rfl, hr⟩ := one hlen h2
      refine ⟨q, fun j hj => ?_, hr⟩
      have e0 := hcell j (by omega)
      rw [add_add] at e0
      exact e0
    obtain ⟨q, hq⟩ := choose_lt' each d
    have hlen : ((List.range len).map q).length = len := by simp
    refine ⟨some a, cap, (List.range len).map q, by rw [hcs, hlen], reads_rows f k hk hf len q (fun i hi => (hq i hi).1), ?_, by rw [hlen]; omega, by rw [hlen]; exact hl, fun e => by cases e⟩
    intro x hx'
    obtain ⟨i, hi, rfl⟩ := List.mem_map.1 hx'
    exact (hq i (List.mem_range.1 hi)).2
theorem reads_low {A : Option Addr} {cs : List Value} (h : Reads w A cs) (hn : cs ≠ []) : ∀ a, A = some a → a.block < w.heap.size := by
  rintro a rfl
  rcases h with h | ⟨ad, h1, h2⟩
  · exact absurd h hn
  · cases h1
    obtain ⟨c, r, rfl⟩ := List.exists_cons_of_ne_nil hn
    have h3 := World.block_lt_of_cell? _ _ (h2 0 c rfl)
    have hb : (a.add 0).block = a.block := by unfold Addr.add; split <;> rfl
    rwa [hb] at h3
set_option maxHeartbeats 2000000 in
set_option maxRecDepth 100000 in
theorem open_actQ {n : Nat} {cs : List Value} {x : DataW H × List MemPlace} (hlen : cs.length = 15) (h : DataW.trod enc Tryz.prog w base sp held n 46 cs = some x) :
    ∃ t : ActR, cs = t.cells t.m ∧ HoldsA w w.heap.size t.vs t.ws t.g t.x t.k t.VA t.WA t.vc := by
  obtain ⟨fs, hu, f0, f1, f2, f3, f4, f5, f6, f7, f8, f9, rfl, o0, o1, o2, o3, o4, o5, o6, o7, o8, o9, t0, t1, t2, t3, t4, t5, t6, t7, t8, t9⟩ := actFields
  obtain ⟨xs, k, hk, hxy, _, hxl, hf⟩ := DataW.trod_struct hu h
  match xs, hxl, cs, hlen with
  | [y0, y1, y2, y3, y4, y5, y6, y7, y8, y9], _, [v0, v1, v2, v3, v4, v5, v6, v7, v8, v9, v10, v11, v12, v13, v14], _ =>
    have g0 := hf 0 f0 rfl
    have g1 := hf 1 f1 rfl
    have g2 := hf 2 f2 rfl
    have g3 := hf 3 f3 rfl
    have g4 := hf 4 f4 rfl
    have g5 := hf 5 f5 rfl
    have g6 := hf 6 f6 rfl
    have g7 := hf 7 f7 rfl
    have g8 := hf 8 f8 rfl
    have g9 := hf 9 f9 rfl
    simp [o0, t0, o1, t1, o2, t2, o3, t3, o4, t4, o5, t5, o6, t6, o7, t7, o8, t8, o9, t9, cellsLI, cellsI, cellsU, cellsSlot, cellsGate, cellsExit] at g0 g1 g2 g3 g4 g5 g6 g7 g8 g9
    obtain ⟨z0, e0, _⟩ := DataW.trod_int Tryz.underlying3 g0
    obtain ⟨z1, e1, _⟩ := DataW.trod_int Tryz.underlying3 g1
    obtain ⟨z2, e2, _⟩ := DataW.trod_int Tryz.underlying3 g2
    obtain ⟨z3, e3, _⟩ := DataW.trod_int Tryz.underlying3 g3
    obtain ⟨z4, e4, _, w4⟩ := DataW.trod_int Tryz.underlying22 g4
    obtain ⟨A5, c5, l5, e5, r5, n5, k5, s5⟩ := open_intsQ g5
    obtain ⟨A6, c6, l6, e6, r6, n6, k6, s6⟩ := open_intsQ g6
    obtain ⟨q7, e7⟩ := open_slot rfl g7
    obtain ⟨q8, e8, p8⟩ := open_gate rfl g8
    obtain ⟨q9, e9, ⟨r9, R9⟩, n9, N9, z9, Z9⟩ := open_exitQ rfl g9
    simp at e0 e1 e2 e3 e4 e5 e6 e7 e8 e9
    obtain ⟨e7, e7b⟩ := e7
    obtain ⟨e8, e8b, e8c, e8d⟩ := e8
    obtain ⟨e9, e9b⟩ := e9
    subst e0 e1 e2 e3 e4 e5 e6 e7 e7b e8 e8b e8c e8d e9 e9b
    have h0 : (0 : Int) ≤ z4 := by
      simp only [Lit.wf, Bool.and_eq_true, decide_eq_true_eq] at w4
      have h1 := w4.1
      have h2 : IntKind.u64.min = 0 := rfl
      rw [h2] at h1
      exact h1
    unfold maxLen at n5 n6 n9 N9
    exact ⟨⟨z0, z1, z2, z3, z4, l5, l6, A5, A6, c5, c6, q7, q8, q9⟩, rfl, ⟨r5, r6, r9, R9, n5, n6, n9, N9, k5, h0, p8, z9, Z9, fun hn => reads_low r5 hn, fun hn => reads_low r6 hn⟩⟩
set_option maxRecDepth 100000 in
theorem open_acts {v : Value} {b0 : Nat} {r : Reach} {d : DataW H} {ps : List MemPlace} (hval : Value.okWide Tryz.prog w r b0 23 v) (h : DataW.Trod enc Tryz.prog w base sp held 23 v d ps) :
    ∃ (A : Option Addr) (c : Nat) (l : List ActR), v = .slice A l.length c ∧ Reads w A (actCells l) ∧ (∀ t ∈ l, HoldsA w w.heap.size t.vs t.ws t.g t.x t.k t.VA t.WA t.vc) ∧ l.length ≤ maxLen ∧ l.length ≤ c ∧ (A = none → c = 0) := by
  obtain ⟨a1, len1, cap1, rfl⟩ := okWide_slice Tryz.underlying23 hval
  obtain ⟨fuel, hf⟩ := h
  obtain ⟨A, c, l, e, r⟩ := open_rows (α := ActR) Tryz.underlying23 15 (by omega) cellsAct (fun t => t.cells t.m) (fun _ => rfl) (fun t => HoldsA w w.heap.size t.vs t.ws t.g t.x t.k t.VA t.WA t.vc) ⟨0, 0, 0, 0, 0, [], [], none, none, 0, 0, (0, false), (0, 0, 0, 0), ⟨[], [], none, none, 0, 0⟩⟩ (fun hl h => open_actQ hl h) hf
  refine ⟨A, c, l, ?_, r⟩
  simpa [Value.cells] using e
theorem nat64 {z : Int} (h : (Lit.int .u64 z).wf = true) : ∃ n : Nat, z = (n : Int) ∧ n < 18446744073709551616 := by
  simp only [Lit.wf, Bool.and_eq_true, decide_eq_true_eq] at h
  have h1 : IntKind.u64.min = 0 := rfl
  have h2 : IntKind.u64.max = 18446744073709551615 := rfl
  rw [h1, h2] at h
  exact ⟨z.toNat, by omega, by omega⟩
set_option maxRecDepth 100000 in
theorem open_natsQ {v : Value} {b0 : Nat} {r : Reach} {d : DataW H} {ps : List MemPlace} (hval : Value.okWide Tryz.prog w r b0 24 v) (h : DataW.Trod enc Tryz.prog w base sp held 24 v d ps) :
    ∃ (A : Option Addr) (c : Nat) (l : List Nat), v = .slice A l.length c ∧ Reads w A (uCells l) ∧ l.length ≤ maxLen := by
  obtain ⟨a1, len1, cap1, rfl⟩ := okWide_slice Tryz.underlying24 hval
  obtain ⟨fuel, hf⟩ := h
  have key : ∃ (A : Option Addr) (c : Nat) (l : List Nat), (Value.slice a1 len1 cap1).cells.toList = [.slice A l.length c] ∧ Reads w A (uCells l) ∧ l.length ≤ maxLen := by
    rcases open_slice1 Tryz.underlying24 cellsU hf with ⟨hcs, _⟩ | ⟨a, len, cap, m, n, V, D, Pl, hcs, _, hl, hm, hmm, _, hx⟩
    · exact ⟨none, 0, [], hcs, .inl rfl, by simp⟩
    · have hlm : len ≤ m := by rw [hmm]; split <;> omega
      have each : ∀ i, i < len → ∃ z : Nat, w.cell? (a.add i) = some (.int .u64 ((z : Nat) : Int)) := by
        intro i hi
        obtain ⟨h1, h2⟩ := hx i (by omega)
        obtain ⟨z, e, _, hw⟩ := DataW.trod_int Tryz.underlying22 h2
        simp at e
        obtain ⟨n, rfl, _⟩ := nat64 hw
        exact ⟨n, by rw [h1, e]⟩
      obtain ⟨q, hq⟩ := choose_lt' each 0
      refine ⟨some a, cap, (List.range len).map q, by rw [hcs]; simp, .inr ⟨a, rfl, fun j u hj => ?_⟩, by simp; omega⟩
      have h1 := (List.getElem?_eq_some_iff.1 hj).1
      simp [uCells] at h1
      simp [uCells, h1] at hj
      rw [hq j h1, hj]
  obtain ⟨A, c, l, e, r⟩ := key
  refine ⟨A, c, l, ?_, r⟩
  simpa [Value.cells] using e
end
end Go.Proofs.YtkcdlbclodjjhaaGreat

/- Where the modulus is no prime: WordPlays asks for the refusal and the examples alone. -/
namespace Go.Proofs.YtkcdlbclodjjhaaGreat
open Go.RowKit

set_option maxRecDepth 100000 in
theorem plays_bad (p : Nat) (hp : p < 18446744073709551616) (hP : isP p = false) (LA IA : Option Addr) (n lc m ic : Nat) (w : World) :
    Calls Tryz.prog 3 #[.int .u64 ((p : Nat) : Int), .slice LA n lc, .slice IA m ic] w fun e W' => e = .returned (.bool true) ∧ Below w.heap.size w W' := by
  have HN := Lib.hid (fun W => new_bad p hp hP W)
  have hIS := fun W => rIs_any p hp W
  rw [hP] at hIS
  have HIS := Lib.hid hIS
  clear hIS hP
  go_enter Tryz.func3, Tryz.ntmps3
  go_wp2_with (first | (go_at_call 4; refine (HN.out _).mono ?_; rintro e w0 ⟨rfl, rfl⟩) | (go_at_call 5; refine (HIS.out _).mono ?_; rintro e w0 ⟨rfl, rfl⟩) | (go_at_call 6; refine (alive_any _).mono ?_; rintro e wa ⟨rfl, hb⟩; have HBa := Lib.hid hb; clear hb))
  go_ret
  exact ⟨rfl, HBa.out⟩
end Go.Proofs.YtkcdlbclodjjhaaGreat
