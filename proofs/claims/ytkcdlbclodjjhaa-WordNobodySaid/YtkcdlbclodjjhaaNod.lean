/- An act that came in, opened. -/
import Derived.Test.YtkcdlbclodjjhaaNoc
import Derived.Test.YtkcdlbclodjjhaaRow
import Derived.Deep.Slices
import Derived.ChangeMaps5
import Derived.ChangeArms
namespace Go.Proofs.Ytkcdlbclodjjhaa
open Go.ChangeShapes Go.WideShapes Go.RowKit Go.Deep

section
variable {H : Type} {enc : TypeId × Value → H} {w : World} {base : Nat} {sp : Nat → Bool} {held : Bool}
theorem cellsSlot : Try.prog.cellsOf 30 = 2 := by kernel_rfl
theorem cellsGate : Try.prog.cellsOf 33 = 4 := by kernel_rfl
theorem cellsExit : Try.prog.cellsOf 56 = 2 := by kernel_rfl
theorem cellsAct : Try.prog.cellsOf 58 = 15 := by kernel_rfl
theorem cellsI : Try.prog.cellsOf 3 = 1 := by kernel_rfl
theorem cellsB : Try.prog.cellsOf 4 = 1 := by kernel_rfl
theorem cellsU : Try.prog.cellsOf 26 = 1 := by kernel_rfl
theorem cellsLI : Try.prog.cellsOf 44 = 1 := by kernel_rfl
def SlotT (fs : Array Field) : Prop := ∃ f0 f1, fs = #[f0, f1] ∧ f0.offset = 0 ∧ f1.offset = 1 ∧ f0.type = 3 ∧ f1.type = 4
theorem slotFields : ∃ fs, Try.prog.underlying 30 = some (.struct fs) ∧ SlotT fs := ⟨_, Try.underlying30, _, _, rfl, rfl, rfl, rfl, rfl⟩
def GateT (fs : Array Field) : Prop := ∃ f0 f1 f2 f3, fs = #[f0, f1, f2, f3] ∧ f0.offset = 0 ∧ f1.offset = 1 ∧ f2.offset = 2 ∧ f3.offset = 3 ∧ f0.type = 3 ∧ f1.type = 3 ∧ f2.type = 3 ∧ f3.type = 26
theorem gateFields : ∃ fs, Try.prog.underlying 33 = some (.struct fs) ∧ GateT fs := ⟨_, Try.underlying33, _, _, _, _, rfl, rfl, rfl, rfl, rfl, rfl, rfl, rfl, rfl⟩
def ExitT (fs : Array Field) : Prop := ∃ f0 f1, fs = #[f0, f1] ∧ f0.offset = 0 ∧ f1.offset = 1 ∧ f0.type = 44 ∧ f1.type = 44
theorem exitFields : ∃ fs, Try.prog.underlying 56 = some (.struct fs) ∧ ExitT fs := ⟨_, Try.underlying56, _, _, rfl, rfl, rfl, rfl, rfl⟩
def ActT (fs : Array Field) : Prop := ∃ f0 f1 f2 f3 f4 f5 f6 f7 f8 f9, fs = #[f0, f1, f2, f3, f4, f5, f6, f7, f8, f9] ∧ f0.offset = 0 ∧ f1.offset = 1 ∧ f2.offset = 2 ∧ f3.offset = 3 ∧ f4.offset = 4 ∧ f5.offset = 5 ∧ f6.offset = 6 ∧ f7.offset = 7 ∧ f8.offset = 9 ∧ f9.offset = 13 ∧ f0.type = 3 ∧ f1.type = 3 ∧ f2.type = 3 ∧ f3.type = 3 ∧ f4.type = 26 ∧ f5.type = 44 ∧ f6.type = 44 ∧ f7.type = 30 ∧ f8.type = 33 ∧ f9.type = 56
theorem actFields : ∃ fs, Try.prog.underlying 58 = some (.struct fs) ∧ ActT fs := ⟨_, Try.underlying58, _, _, _, _, _, _, _, _, _, _, rfl, rfl, rfl, rfl, rfl, rfl, rfl, rfl, rfl, rfl, rfl, rfl, rfl, rfl, rfl, rfl, rfl, rfl, rfl, rfl, rfl⟩
set_option maxRecDepth 100000 in
theorem open_slot {n : Nat} {cs : List Value} {x : DataW H × List MemPlace} (hlen : cs.length = 2) (h : DataW.trod enc Try.prog w base sp held n 30 cs = some x) : ∃ q : Slo, cs = [.int .i64 q.1, .bool q.2] := by
  obtain ⟨fs, hu, f0, f1, rfl, o0, o1, t0, t1⟩ := slotFields
  obtain ⟨xs, k, hk, hxy, _, hxl, hf⟩ := DataW.trod_struct hu h
  match xs, hxl, cs, hlen with
  | [y0, y1], _, [v0, v1], _ =>
    have g0 := hf 0 f0 rfl
    have g1 := hf 1 f1 rfl
    simp [o0, o1, t0, t1, cellsI, cellsB] at g0 g1
    obtain ⟨a0, e0, _⟩ := DataW.trod_int Try.underlying3 g0
    obtain ⟨a1, e1, _⟩ := DataW.trod_bool Try.underlying4 g1
    simp at e0 e1
    subst e0 e1
    exact ⟨(a0, a1), rfl⟩
set_option maxRecDepth 100000 in
theorem open_gate {n : Nat} {cs : List Value} {x : DataW H × List MemPlace} (hlen : cs.length = 4) (h : DataW.trod enc Try.prog w base sp held n 33 cs = some x) : ∃ q : Gat, cs = [.int .i64 q.1, .int .i64 q.2.1, .int .i64 q.2.2.1, .int .u64 q.2.2.2] ∧ 0 ≤ q.2.2.2 := by
  obtain ⟨fs, hu, f0, f1, f2, f3, rfl, o0, o1, o2, o3, t0, t1, t2, t3⟩ := gateFields
  obtain ⟨xs, k, hk, hxy, _, hxl, hf⟩ := DataW.trod_struct hu h
  match xs, hxl, cs, hlen with
  | [y0, y1, y2, y3], _, [v0, v1, v2, v3], _ =>
    have g0 := hf 0 f0 rfl
    have g1 := hf 1 f1 rfl
    have g2 := hf 2 f2 rfl
    have g3 := hf 3 f3 rfl
    simp [o0, o1, o2, o3, t0, t1, t2, t3, cellsI, cellsU] at g0 g1 g2 g3
    obtain ⟨a0, e0, _⟩ := DataW.trod_int Try.underlying3 g0
    obtain ⟨a1, e1, _⟩ := DataW.trod_int Try.underlying3 g1
    obtain ⟨a2, e2, _⟩ := DataW.trod_int Try.underlying3 g2
    obtain ⟨a3, e3, _, e3'⟩ := DataW.trod_int Try.underlying26 g3
    simp at e0 e1 e2 e3
    subst e0 e1 e2 e3
    have h0 : (0 : Int) ≤ a3 := by
      simp only [Lit.wf, Bool.and_eq_true, decide_eq_true_eq] at e3'
      have h1 := e3'.1
      have h2 : IntKind.u64.min = 0 := rfl
      rw [h2] at h1
      exact h1
    exact ⟨(a0, a1, a2, a3), rfl, h0⟩
set_option maxRecDepth 100000 in
theorem open_intsF {n : Nat} {cs : List Value} {x : DataW H × List MemPlace} (h : DataW.trod enc Try.prog w base sp held n 44 cs = some x) :
    ∃ (A : Option Addr) (m c : Nat), cs = [.slice A m c] := by
  rcases open_slice1 Try.underlying44 cellsI h with ⟨hcs, _⟩ | ⟨a, len, cap, m, n, V, D, Pl, hcs, _⟩
  · exact ⟨none, 0, 0, hcs⟩
  · exact ⟨some a, len, cap, hcs⟩
set_option maxRecDepth 100000 in
theorem open_exitF {n : Nat} {cs : List Value} {x : DataW H × List MemPlace} (hlen : cs.length = 2) (h : DataW.trod enc Try.prog w base sp held n 56 cs = some x) :
    ∃ (A : Option Addr) (m c : Nat) (D : Option Addr) (k d : Nat), cs = [.slice A m c, .slice D k d] := by
  obtain ⟨fs, hu, f0, f1, rfl, o0, o1, t0, t1⟩ := exitFields
  obtain ⟨xs, k, hk, hxy, _, hxl, hf⟩ := DataW.trod_struct hu h
  match xs, hxl, cs, hlen with
  | [y0, y1], _, [v0, v1], _ =>
    have g0 := hf 0 f0 rfl
    have g1 := hf 1 f1 rfl
    simp [o0, o1, t0, t1, cellsLI] at g0 g1
    obtain ⟨A0, m0, c0, e0⟩ := open_intsF g0
    obtain ⟨A1, m1, c1, e1⟩ := open_intsF g1
    simp at e0 e1
    subst e0 e1
    exact ⟨_, _, _, _, _, _, rfl⟩
set_option maxHeartbeats 2000000 in
set_option maxRecDepth 100000 in
theorem open_act {v : Value} {b0 : Nat} {r : Reach} {d : DataW H} {ps : List MemPlace} (hval : Value.okWide Try.prog w r b0 58 v) (h : DataW.Trod enc Try.prog w base sp held 58 v d ps) :
    ∃ (d a b c k s1 g1 g2 g3 g4 : Int) (s2 : Bool) (VA WA TA GA : Option Addr) (vn vc wn wc tn tc gn gc : Nat), v = .agg #[.int .i64 d, .int .i64 a, .int .i64 b, .int .i64 c, .int .u64 k, .slice VA vn vc, .slice WA wn wc, .int .i64 s1, .bool s2, .int .i64 g1, .int .i64 g2, .int .i64 g3, .int .u64 g4, .slice TA tn tc, .slice GA gn gc] := by
  obtain ⟨fs, hu, f0, f1, f2, f3, f4, f5, f6, f7, f8, f9, rfl, o0, o1, o2, o3, o4, o5, o6, o7, o8, o9, t0, t1, t2, t3, t4, t5, t6, t7, t8, t9⟩ := actFields
  obtain ⟨cs, rfl, hsz⟩ := okWide_struct hu hval
  rw [cellsAct] at hsz
  obtain ⟨fuel, hf0⟩ := h
  obtain ⟨xs, k, hk, hxy, _, hxl, hf⟩ := DataW.trod_struct hu hf0
  obtain ⟨cl⟩ := cs
  match xs, hxl, cl, hsz with
  | [y0, y1, y2, y3, y4, y5, y6, y7, y8, y9], _, [v0, v1, v2, v3, v4, v5, v6, v7, v8, v9, v10, v11, v12, v13, v14], _ =>
    have g0 := hf 0 f0 rfl
    have g1 := hf 1 f1 rfl
    have g2 := hf 2 f2 rfl
    have g3 := hf 3 f3 rfl
    have g4 := hf 4 f4 rfl
    have g5 := hf 5 f5 rfl
    have g6 := hf 6 f6 rfl
    have g7 := hf 7 f7 rfl
    have g8 := hf 8 f8 rfl
    have g9 := hf 9 f9 rfl
    simp [o0, t0, o1, t1, o2, t2, o3, t3, o4, t4, o5, t5, o6, t6, o7, t7, o8, t8, o9, t9, cellsLI, cellsI, cellsU, cellsSlot, cellsGate, cellsExit, Value.cells] at g0 g1 g2 g3 g4 g5 g6 g7 g8 g9
    obtain ⟨z0, e0, _⟩ := DataW.trod_int Try.underlying3 g0
    obtain ⟨z1, e1, _⟩ := DataW.trod_int Try.underlying3 g1
    obtain ⟨z2, e2, _⟩ := DataW.trod_int Try.underlying3 g2
    obtain ⟨z3, e3, _⟩ := DataW.trod_int Try.underlying3 g3
    obtain ⟨z4, e4, _⟩ := DataW.trod_int Try.underlying26 g4
    obtain ⟨A5, m5, c5, e5⟩ := open_intsF g5
    obtain ⟨A6, m6, c6, e6⟩ := open_intsF g6
    obtain ⟨q7, e7⟩ := open_slot rfl g7
    obtain ⟨q8, e8, _⟩ := open_gate rfl g8
    obtain ⟨A9, m9, c9, D9, k9, d9, e9⟩ := open_exitF rfl g9
    simp at e0 e1 e2 e3 e4 e5 e6 e7 e8 e9
    obtain ⟨e7, e7b⟩ := e7
    obtain ⟨e8, e8b, e8c, e8d⟩ := e8
    obtain ⟨e9, e9b⟩ := e9
    subst e0 e1 e2 e3 e4 e5 e6 e7 e7b e8 e8b e8c e8d e9 e9b
    exact ⟨_, _, _, _, _, _, _, _, _, _, _, _, _, _, _, _, _, _, _, _, _, _, _, rfl⟩
end
end Go.Proofs.Ytkcdlbclodjjhaa
