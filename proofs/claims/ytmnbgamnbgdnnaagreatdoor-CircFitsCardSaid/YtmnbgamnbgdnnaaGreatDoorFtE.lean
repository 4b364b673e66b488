/- A setup that came in, opened. -/
import Derived.Test.YtmnbgamnbgdnnaaGreatDoorCkX
namespace Go.Proofs.YtmnbgamnbgdnnaaGreatDoor
open Go.ChangeShapes Go.WideShapes Go.RowKit Go.Deep

section
variable {H : Type} {enc : TypeId × Value → H} {w : World} {base : Nat} {sp : Nat → Bool} {held : Bool}
theorem cellsSet : Tryz.prog.cellsOf 58 = 3 := by kernel_rfl
def SetT (fs : Array Field) : Prop := ∃ f0 f1 f2, fs = #[f0, f1, f2] ∧ f0.offset = 0 ∧ f1.offset = 1 ∧ f2.offset = 2 ∧ f0.type = 22 ∧ f1.type = 3 ∧ f2.type = 3
theorem setFields : ∃ fs, Tryz.prog.underlying 58 = some (.struct fs) ∧ SetT fs := ⟨_, Tryz.underlying58, _, _, _, rfl, rfl, rfl, rfl, rfl, rfl, rfl⟩
set_option maxRecDepth 100000 in
theorem open_set {v : Value} {b0 : Nat} {r : Reach} {d : DataW H} {ps : List MemPlace} (hval : Value.okWide Tryz.prog w r b0 58 v) (h : DataW.Trod enc Tryz.prog w base sp held 58 v d ps) :
    ∃ (p : Nat) (N T : Int), v = .agg #[.int .u64 p, .int .i64 N, .int .i64 T] ∧ p < 18446744073709551616 := by
  obtain ⟨fs, hu, f0, f1, f2, rfl, o0, o1, o2, t0, t1, t2⟩ := setFields
  obtain ⟨cs, rfl, hsz⟩ := okWide_struct hu hval
  rw [cellsSet] at hsz
  obtain ⟨fuel, hf0⟩ := h
  obtain ⟨xs, k, hk, hxy, _, hxl, hf⟩ := DataW.trod_struct hu hf0
  obtain ⟨cl⟩ := cs
  match xs, hxl, cl, hsz with
  | [y0, y1, y2], _, [v0, v1, v2], _ =>
    have g0 := hf 0 f0 rfl
    have g1 := hf 1 f1 rfl
    have g2 := hf 2 f2 rfl
    simp [o0, o1, o2, t0, t1, t2, cellsU, cellsI, Value.cells] at g0 g1 g2
    obtain ⟨a0, e0, _, e0'⟩ := DataW.trod_int Tryz.underlying22 g0
    obtain ⟨a1, e1, _⟩ := DataW.trod_int Tryz.underlying3 g1
    obtain ⟨a2, e2, _⟩ := DataW.trod_int Tryz.underlying3 g2
    simp at e0 e1 e2
    subst e0 e1 e2
    obtain ⟨n0, rfl, hn0⟩ : ∃ n : Nat, a0 = (n : Int) ∧ n < 18446744073709551616 := by
      simp only [Lit.wf, Bool.and_eq_true, decide_eq_true_eq] at e0'
      have h1 : IntKind.u64.min = 0 := rfl
      have h2 : IntKind.u64.max = 18446744073709551615 := rfl
      rw [h1, h2] at e0'
      exact ⟨a0.toNat, by omega, by omega⟩
    exact ⟨n0, a1, a2, rfl, hn0⟩
end
end Go.Proofs.YtmnbgamnbgdnnaaGreatDoor
