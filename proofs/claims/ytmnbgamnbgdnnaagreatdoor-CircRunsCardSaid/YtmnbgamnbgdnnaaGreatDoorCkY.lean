/- A circuit and a slice of numbers that came in, opened, with what a nil slice is. -/
import Derived.Test.YtmnbgamnbgdnnaaGreatDoorCkX
import Derived.SizedLaws
namespace Go.Proofs.YtmnbgamnbgdnnaaGreatDoor
open Go.ChangeShapes Go.WideShapes Go.RowKit Go.Deep

section
variable {H : Type} {enc : TypeId × Value → H} {w : World} {base : Nat} {sp : Nat → Bool} {held : Bool}
set_option maxRecDepth 100000 in
theorem open_ints2 {n : Nat} {cs : List Value} {x : DataW H × List MemPlace} (h : DataW.trod enc Tryz.prog w base sp held n 61 cs = some x) :
    ∃ (A : Option Addr) (c : Nat) (l : List Int), cs = [.slice A l.length c] ∧ Reads w A (iCells l) ∧ l.length ≤ maxLen ∧ (A = none → c = 0) := by
  rcases open_slice1 Tryz.underlying61 cellsI h with ⟨hcs, _⟩ | ⟨a, len, cap, m, n, V, D, Pl, hcs, _, hl, hm, hmm, _, hx⟩
  · exact ⟨none, 0, [], hcs, .inl rfl, by simp, fun _ => rfl⟩
  · have hlm : len ≤ m := by rw [hmm]; split <;> omega
    have each : ∀ i, i < len → ∃ z : Int, w.cell? (a.add i) = some (.int .i64 z) := by
      intro i hi
      obtain ⟨h1, h2⟩ := hx i (by omega)
      obtain ⟨z, e, _⟩ := DataW.trod_int Tryz.underlying3 h2
      simp at e
      exact ⟨z, by rw [h1, e]⟩
    obtain ⟨q, hq⟩ := choose_lt' each 0
    refine ⟨some a, cap, (List.range len).map q, by rw [hcs]; simp, .inr ⟨a, rfl, fun j u hj => ?_⟩, by simp; omega, fun e => by cases e⟩
    have h1 := (List.getElem?_eq_some_iff.1 hj).1
    simp [iCells] at h1
    simp [iCells, h1] at hj
    rw [hq j h1, hj]
set_option maxRecDepth 100000 in
theorem open_exit2 {n : Nat} {cs : List Value} {x : DataW H × List MemPlace} (hlen : cs.length = 2) (h : DataW.trod enc Tryz.prog w base sp held n 72 cs = some x) :
    ∃ q : Exi, cs = [.slice q.A q.tl.length q.c, .slice q.B q.gl.length q.d] ∧ (Reads w q.A (iCells q.tl) ∧ Reads w q.B (iCells q.gl)) ∧ q.tl.length ≤ maxLen ∧ q.gl.length ≤ maxLen ∧ (q.A = none → q.c = 0) := by
  obtain ⟨fs, hu, f0, f1, rfl, o0, o1, t0, t1⟩ := exitFields
  obtain ⟨xs, k, hk, hxy, _, hxl, hf⟩ := DataW.trod_struct hu h
  match xs, hxl, cs, hlen with
  | [y0, y1], _, [v0, v1], _ =>
    have g0 := hf 0 f0 rfl
    have g1 := hf 1 f1 rfl
    simp [o0, o1, t0, t1, cellsLI] at g0 g1
    obtain ⟨A0, c0, l0, e0, r0, n0, z0⟩ := open_ints2 g0
    obtain ⟨A1, c1, l1, e1, r1, n1, _⟩ := open_ints2 g1
    simp at e0 e1
    subst e0 e1
    exact ⟨⟨l0, l1, A0, A1, c0, c1⟩, rfl, ⟨r0, r1⟩, n0, n1, z0⟩
set_option maxRecDepth 100000 in
theorem open_cir2 {v : Value} {b0 : Nat} {r : Reach} {d : DataW H} {ps : List MemPlace} (hval : Value.okWide Tryz.prog w r b0 27 v) (h : DataW.Trod enc Tryz.prog w base sp held 27 v d ps) :
    ∃ C : Cir, v = .agg #[.slice C.SA C.slots.length C.sc, .slice C.GA C.gates.length C.gc, .slice C.EA C.exits.length C.ec] ∧ HoldsC w C ∧ ∀ y ∈ C.exits, y.A = none → y.c = 0 := by
  obtain ⟨fs, hu, f0, f1, f2, rfl, o0, o1, o2, t0, t1, t2⟩ := cirFields
  obtain ⟨cs, rfl, hsz⟩ := okWide_struct hu hval
  rw [cellsCir] at hsz
  obtain ⟨fuel, hf0⟩ := h
  obtain ⟨xs, k, hk, hxy, _, hxl, hf⟩ := DataW.trod_struct hu hf0
  obtain ⟨cl⟩ := cs
  match xs, hxl, cl, hsz with
  | [y0, y1, y2], _, [v0, v1, v2], _ =>
    have g0 := hf 0 f0 rfl
    have g1 := hf 1 f1 rfl
    have g2 := hf 2 f2 rfl
    simp [o0, o1, o2, t0, t1, t2, cellsLS, cellsLG, cellsLE, Value.cells] at g0 g1 g2
    obtain ⟨A0, c0, l0, e0, r0, _, n0⟩ := open_rows (α := Slo) Tryz.underlying23 2 (by omega) cellsSlot (fun x => [.int .i64 x.1, .bool x.2]) (fun _ => rfl) (fun _ => True) (0, false) (fun hl h => by obtain ⟨q, hq⟩ := open_slot hl h; exact ⟨q, hq, trivial⟩) g0
    obtain ⟨A1, c1, l1, e1, r1, k1, n1⟩ := open_rows (α := Gat) Tryz.underlying24 4 (by omega) cellsGate (fun g => [.int .i64 g.1, .int .i64 g.2.1, .int .i64 g.2.2.1, .int .u64 g.2.2.2]) (fun _ => rfl) (fun g => 0 ≤ g.2.2.2) (0, 0, 0, 0) (fun hl h => open_gate hl h) g1
    obtain ⟨A2, c2, l2, e2, r2, k2, n2⟩ := open_rows (α := Exi) Tryz.underlying25 2 (by omega) cellsExit (fun x => [.slice x.A x.tl.length x.c, .slice x.B x.gl.length x.d]) (fun _ => rfl) (fun q => (Reads w q.A (iCells q.tl) ∧ Reads w q.B (iCells q.gl)) ∧ q.tl.length ≤ maxLen ∧ q.gl.length ≤ maxLen ∧ (q.A = none → q.c = 0)) ⟨[], [], none, none, 0, 0⟩ (fun hl h => open_exit2 hl h) g2
    simp at e0 e1 e2
    subst e0 e1 e2
    refine ⟨⟨l0, l1, l2, A0, A1, A2, c0, c1, c2⟩, rfl, ⟨r0, r1, r2, fun x hx => (k2 x hx).1, ⟨?_, ?_, ?_⟩, fun x hx => ⟨?_, ?_⟩, k1⟩, fun y hy => (k2 y hy).2.2.2⟩
    · simpa [maxLen] using n0
    · simpa [maxLen] using n1
    · simpa [maxLen] using n2
    · simpa [maxLen] using (k2 x hx).2.1
    · simpa [maxLen] using (k2 x hx).2.2.1
theorem bytesU : Tryz.prog.bytesOf 22 = 8 := by kernel_rfl
set_option maxRecDepth 100000 in
theorem open_nats {v : Value} {b0 : Nat} {r : Reach} {d : DataW H} {ps : List MemPlace} (hval : Value.okWide Tryz.prog w r b0 32 v) (h : DataW.Trod enc Tryz.prog w base sp held 32 v d ps) :
    ∃ (A : Option Addr) (c : Nat) (l : List Nat), v = .slice A l.length c ∧ Reads w A (uCells l) ∧ (A = none → c = 0) ∧ (l = [] ∨ ∃ es sp, d = .slice es sp ∧ es.length = l.length) := by
  obtain ⟨a1, len, cap, rfl⟩ := okWide_slice Tryz.underlying32 hval
  obtain ⟨fuel, hf⟩ := h
  rcases open_slice1 Tryz.underlying32 cellsU hf with ⟨hcs, _⟩ | ⟨a, len', cap', m, n, V, D, Pl, hcs, _, hl, hm, hmm, hd, hx⟩
  · simp [Value.cells] at hcs
    obtain ⟨rfl, rfl, rfl⟩ := hcs
    exact ⟨none, 0, [], rfl, .inl rfl, fun _ => rfl, .inl rfl⟩
  · simp [Value.cells] at hcs
    obtain ⟨rfl, rfl, rfl⟩ := hcs
    have hlm : len ≤ m := by rw [hmm]; split <;> omega
    have each : ∀ i, i < len → ∃ z : Nat, w.cell? (a.add i) = some (.int .u64 z) := by
      intro i hi
      obtain ⟨h1, h2⟩ := hx i (by omega)
      obtain ⟨z, e, _, hw⟩ := DataW.trod_int Tryz.underlying22 h2
      simp at e
      have h0 : (0 : Int) ≤ z := by
        simp only [Lit.wf, Bool.and_eq_true, decide_eq_true_eq] at hw
        have h1 := hw.1
        have h2 : IntKind.u64.min = 0 := rfl
        rw [h2] at h1
        exact h1
      exact ⟨z.toNat, by rw [h1, e, Int.toNat_of_nonneg h0]⟩
    obtain ⟨q, hq⟩ := choose_lt' each 0
    refine ⟨some a, cap, (List.range len).map q, by simp, .inr ⟨a, rfl, fun j u hj => ?_⟩, (fun e => by cases e), .inr ⟨(List.range len).map D, (List.range (m - len)).map fun j => D (len + j), ?_, by simp⟩⟩
    · have h1 := (List.getElem?_eq_some_iff.1 hj).1
      simp [uCells] at h1
      simp [uCells, h1] at hj
      rw [hq j h1, hj]
    · injection hd
end
end Go.Proofs.YtmnbgamnbgdnnaaGreatDoor
