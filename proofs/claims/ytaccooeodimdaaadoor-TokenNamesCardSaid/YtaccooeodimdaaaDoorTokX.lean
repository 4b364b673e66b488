/- A slice of tokens that came in, opened. -/
import Derived.Test.YtaccooeodimdaaaDoorTokJ
import Derived.Test.YtaccooeodimdaaaDoorRow
import Derived.Deep.Slices
import Derived.ChangeMaps5
import Derived.ChangeArms
namespace Go.Proofs.YtaccooeodimdaaaDoor
open Go.ChangeShapes Go.WideShapes Go.RowKit Go.Deep

section
variable {H : Type} {enc : TypeId × Value → H} {w : World} {base : Nat} {sp : Nat → Bool} {held : Bool}
def TokTypes (fs : Array Field) : Prop := ∃ f0 f1 f2, fs = #[f0, f1, f2] ∧ f0.offset = 0 ∧ f1.offset = 1 ∧ f2.offset = 2 ∧ f0.type = 3 ∧ f1.type = 9 ∧ f2.type = 3
theorem cellsTok : Tryd.prog.cellsOf 32 = 3 := by kernel_rfl
theorem cellsI : Tryd.prog.cellsOf 3 = 1 := by kernel_rfl
theorem cellsS : Tryd.prog.cellsOf 9 = 1 := by kernel_rfl
theorem tokFields : ∃ fs, Tryd.prog.underlying 32 = some (.struct fs) ∧ TokTypes fs := ⟨_, Tryd.underlying32, _, _, _, rfl, rfl, rfl, rfl, rfl, rfl, rfl⟩
set_option maxRecDepth 100000 in
theorem open_tok {n : Nat} {cs : List Value} {x : DataW H × List MemPlace} (hlen : cs.length = 3) (h : DataW.trod enc Tryd.prog w base sp held n 32 cs = some x) : ∃ (k : Int) (t : ByteArray) (a : Int), cs = [.int .i64 k, .string t, .int .i64 a] ∧ t.size ≤ maxLen := by
  obtain ⟨fs, hu, f0, f1, f2, rfl, o0, o1, o2, t0, t1, t2⟩ := tokFields
  obtain ⟨xs, k, hk, hxy, _, hxl, hf⟩ := DataW.trod_struct hu h
  match xs, hxl, cs, hlen with
  | [y0, y1, y2], _, [v0, v1, v2], _ =>
    have g0 := hf 0 f0 rfl
    have g1 := hf 1 f1 rfl
    have g2 := hf 2 f2 rfl
    simp [o0, o1, o2, t0, t1, t2, cellsI, cellsS] at g0 g1 g2
    obtain ⟨a0, e0, _⟩ := DataW.trod_int Tryd.underlying3 g0
    obtain ⟨a1, e1, _, e1'⟩ := DataW.trod_string Tryd.underlying9 g1
    obtain ⟨a2, e2, _⟩ := DataW.trod_int Tryd.underlying3 g2
    simp at e0 e1 e2
    subst e0 e1 e2
    exact ⟨a0, a1, a2, rfl, e1'⟩
set_option maxRecDepth 100000 in
theorem open_toks {v : Value} {b0 : Nat} {r : Reach} {d : DataW H} {ps : List MemPlace} (hval : Value.okWide Tryd.prog w r b0 22 v) (h : DataW.Trod enc Tryd.prog w base sp held 22 v d ps) :
    ∃ (A : Option Addr) (c : Nat) (ts : List ITok), v = .slice A ts.length c ∧ Reads w A (iCells ts) ∧ (∀ t ∈ ts, t.2.1.size ≤ maxLen) ∧ ts.length ≤ maxLen := by
  obtain ⟨a1, len, cap, rfl⟩ := okWide_slice Tryd.underlying22 hval
  obtain ⟨fuel, hf⟩ := h
  rcases open_slice Tryd.underlying22 hf with ⟨hcs, _⟩ | ⟨a, len', cap', m, n, D, Pl, hcs, _, hl, hm, hmm, _, hx⟩
  · simp [Value.cells] at hcs
    obtain ⟨rfl, rfl, rfl⟩ := hcs
    exact ⟨none, 0, [], rfl, .inl rfl, (by simp), (by simp)⟩
  · simp [Value.cells] at hcs
    obtain ⟨rfl, rfl, rfl⟩ := hcs
    have hlm : len ≤ m := by rw [hmm]; split <;> omega
    have each : ∀ i, i < len → ∃ q : ITok, w.cell? (a.add (i * 3)) = some (.int .i64 q.1) ∧ w.cell? (a.add (i * 3 + 1)) = some (.string q.2.1) ∧ w.cell? (a.add (i * 3 + 2)) = some (.int .i64 q.2.2) ∧ q.2.1.size ≤ maxLen := by
      intro i hi
      obtain ⟨cs', h1, h2⟩ := hx i (by omega)
      rw [cellsTok] at h1
      obtain ⟨_, hlen, hcell⟩ := World.cells?_some h1
      obtain ⟨k, t, a', rfl, ht⟩ := open_tok hlen h2
      have e0 := hcell 0 (by omega)
      have e1 := hcell 1 (by omega)
      have e2 := hcell 2 (by omega)
      rw [add_add] at e0 e1 e2
      exact ⟨(k, t, a'), by simpa using e0, by simpa using e1, by simpa using e2, ht⟩
    obtain ⟨q, hq⟩ := choose_lt each
    have hlen : ((List.range len).map q).length = len := by simp
    refine ⟨some a, cap, (List.range len).map q, by rw [hlen], .inr ⟨a, rfl, ?_⟩, ?_, by rw [hlen]; omega⟩
    · intro j u hj
      have hj3 : j < 3 * len := by
        have h1 := (List.getElem?_eq_some_iff.1 hj).1
        rw [iCells_len, hlen] at h1
        exact h1
      have hk : j / 3 < len := by omega
      obtain ⟨i0, i1, i2⟩ := iCells_at ((List.range len).map q) (j / 3) (by rw [hlen]; exact hk)
      rw [List.getElem_map, List.getElem_range] at i0 i1 i2
      obtain ⟨c0, c1, c2, _⟩ := hq _ hk
      rcases (by omega : j = 3 * (j / 3) ∨ j = 3 * (j / 3) + 1 ∨ j = 3 * (j / 3) + 2) with e | e | e
      · rw [e] at hj ⊢; rw [i0] at hj; injection hj with hj; subst hj; rw [Nat.mul_comm]; exact c0
      · rw [e] at hj ⊢; rw [i1] at hj; injection hj with hj; subst hj; rw [Nat.mul_comm]; exact c1
      · rw [e] at hj ⊢; rw [i2] at hj; injection hj with hj; subst hj; rw [Nat.mul_comm]; exact c2
    · intro t ht
      obtain ⟨i, hi, rfl⟩ := List.mem_map.1 ht
      exact (hq i (List.mem_range.1 hi)).2.2.2
end
end Go.Proofs.YtaccooeodimdaaaDoor
