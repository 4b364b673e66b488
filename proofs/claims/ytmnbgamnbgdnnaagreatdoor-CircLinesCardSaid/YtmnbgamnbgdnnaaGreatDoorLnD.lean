/- The walk of the law CircLines, all roads; a pair of slices that came in, opened. -/
import Derived.Test.YtmnbgamnbgdnnaaGreatDoorLnC
import Derived.Test.YtmnbgamnbgdnnaaGreatDoorCkX
namespace Go.Proofs.YtmnbgamnbgdnnaaGreatDoor
open Go.ChangeShapes Go.WideShapes Go.RowKit Go.Deep

theorem lines_walk (p : Nat) (hp : p < 18446744073709551616) (C : Cir) (x y : List Nat) (A B : Option Addr) (c d : Nat) (hlx : x.length ≤ 9223372036854775807) (hly : y.length ≤ 9223372036854775807) (w : World) (hC : HoldsC w C) (hA : Reads w A (uCells x)) (hB : Reads w B (uCells y)) (hE : Env w) :
    Calls Tryz.prog 7 #[.int .u64 p, .agg #[.slice C.SA C.slots.length C.sc, .slice C.GA C.gates.length C.gc, .slice C.EA C.exits.length C.ec], .agg #[.slice A x.length c, .slice B y.length d]] w fun e w' => e = .returned (.bool true) ∧ Below w.heap.size w w' := by
  by_cases h0 : checkErr p C = 0
  · by_cases h1 : countK 5 C.gates = 0
    · by_cases h2 : x.length = C.slots.length
      · by_cases h3 : y.length = C.slots.length
        · by_cases h4 : ltErr p x = 0
          · by_cases h5 : ltErr p y = 0
            · exact lines_go p hp C x y hlx hly A B c d w hC hA hB hE h0 h1 h2 h3 h4 h5
            · exact lines_f p hp C x y hlx hly A B c d w hC hA hB hE h0 h1 h2 h3 h4 h5
          · exact lines_e p hp C x y hlx hly A B c d w hC hA hB hE h0 h1 h2 h3 h4
        · exact lines_d p hp C x y hlx hly A B c d w hC hA hB hE h0 h1 h2 h3
      · exact lines_c p hp C x y hlx hly A B c d w hC hA hB hE h0 h1 h2
    · exact lines_b p hp C x y hlx hly A B c d w hC hA hB hE h0 (by omega)
  · exact lines_a p hp C x y hlx hly A B c d w hC hA hB hE h0
section
variable {H : Type} {enc : TypeId × Value → H} {w : World} {base : Nat} {sp : Nat → Bool} {held : Bool}
theorem cellsTwo : Tryz.prog.cellsOf 50 = 2 := by kernel_rfl
theorem cellsLU : Tryz.prog.cellsOf 32 = 1 := by kernel_rfl
theorem trod_array2 {P : Program} {t e : TypeId} {fuel : Nat} {c0 c1 : Value} {x : DataW H × List MemPlace} (ht : P.underlying t = some (.array 2 e)) (hce : P.cellsOf e = 1)
    (h : DataW.trod enc P w base sp held fuel t [c0, c1] = some x) :
    ∃ y0 y1 n, DataW.trod enc P w base sp held n e [c0] = some y0 ∧ DataW.trod enc P w base sp held n e [c1] = some y1 := by
  cases fuel with
  | zero => simp [DataW.trod] at h
  | succ n =>
    unfold DataW.trod at h
    rw [ht] at h
    have r2 : List.range 2 = [0, 1] := rfl
    simp [r2, hce] at h
    obtain ⟨_, h⟩ := h
    cases h0 : DataW.trod enc P w base sp held n e [c0] with
    | none => simp [h0] at h
    | some y0 =>
      cases h1 : DataW.trod enc P w base sp held n e [c1] with
      | none => simp [h0, h1] at h
      | some y1 => exact ⟨y0, y1, n, h0, h1⟩
theorem okWide_array {P : Program} {t e : TypeId} {n b0 : Nat} {r : Reach} {v : Value} (ht : P.underlying t = some (.array n e)) (h : Value.okWide P w r b0 t v) : ∃ cs, v = .agg cs ∧ cs.size = P.cellsOf t := by
  simp only [Value.okWide, ht] at h
  obtain ⟨cs, h1, h2, _⟩ := h
  exact ⟨cs, h1, h2⟩
set_option maxRecDepth 100000 in
theorem open_nats1 {n : Nat} {c : Value} {x : DataW H × List MemPlace} (h : DataW.trod enc Tryz.prog w base sp held n 32 [c] = some x) :
    ∃ (A : Option Addr) (k : Nat) (l : List Nat), c = .slice A l.length k ∧ Reads w A (uCells l) ∧ l.length ≤ maxLen := by
  rcases open_slice1 Tryz.underlying32 cellsU h with ⟨hcs, _⟩ | ⟨a, len', cap', m, n, V, D, Pl, hcs, _, hl, hm, hmm, hd, hx⟩
  · injection hcs with hcs
    subst hcs
    exact ⟨none, 0, [], rfl, .inl rfl, by simp⟩
  · injection hcs with hcs
    subst hcs
    have hlm : len' ≤ m := by rw [hmm]; split <;> omega
    have each : ∀ i, i < len' → ∃ z : Nat, w.cell? (a.add i) = some (.int .u64 z) := by
      intro i hi
      obtain ⟨h1, h2⟩ := hx i (by omega)
      obtain ⟨z, e, _, hw⟩ := DataW.trod_int Tryz.underlying22 h2
      simp at e
      have h0 : (0 : Int) ≤ z := by
        simp only [Lit.wf, Bool.and_eq_true, decide_eq_true_eq] at hw
        have h1 := hw.1
        have h2 : IntKind.u64.min = 0 := rfl
        rw [h2] at h1
        exact h1
      exact ⟨z.toNat, by rw [h1, e, Int.toNat_of_nonneg h0]⟩
    obtain ⟨q, hq⟩ := choose_lt' each 0
    refine ⟨some a, cap', (List.range len').map q, by simp, .inr ⟨a, rfl, fun j u hj => ?_⟩, by simp; omega⟩
    have h1 := (List.getElem?_eq_some_iff.1 hj).1
    simp [uCells] at h1
    simp [uCells, h1] at hj
    rw [hq j h1, hj]
set_option maxRecDepth 100000 in
theorem open_two {v : Value} {b0 : Nat} {r : Reach} {d : DataW H} {ps : List MemPlace} (hval : Value.okWide Tryz.prog w r b0 50 v) (h : DataW.Trod enc Tryz.prog w base sp held 50 v d ps) :
    ∃ (A B : Option Addr) (c d : Nat) (x y : List Nat), v = .agg #[.slice A x.length c, .slice B y.length d] ∧ Reads w A (uCells x) ∧ Reads w B (uCells y) ∧ x.length ≤ maxLen ∧ y.length ≤ maxLen := by
  obtain ⟨cs, rfl, hsz⟩ := okWide_array Tryz.underlying50 hval
  rw [cellsTwo] at hsz
  obtain ⟨fuel, hf⟩ := h
  obtain ⟨cl⟩ := cs
  match cl, hsz with
  | [v0, v1], _ =>
    obtain ⟨y0, y1, n, h0, h1⟩ := trod_array2 Tryz.underlying50 cellsLU hf
    obtain ⟨A, c, x, rfl, hA, hx⟩ := open_nats1 h0
    obtain ⟨B, d, y, rfl, hB, hy⟩ := open_nats1 h1
    exact ⟨A, B, c, d, x, y, rfl, hA, hB, hx, hy⟩
end
end Go.Proofs.YtmnbgamnbgdnnaaGreatDoor
