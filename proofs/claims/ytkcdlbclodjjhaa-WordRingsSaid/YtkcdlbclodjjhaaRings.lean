/- The law WordRings is proved: for every modulus, width and three numbers, the call of juntolaw13.WordRings returns true. -/
import Derived.Test.YtkcdlbclodjjhaaRows
import Derived.Test.YtkcdlbclodjjhaaRgh
import Derived.Test.YtkcdlbclodjjhaaRow
import Derived.Laws.IdiomArrays
import Derived.WalkKit
import Derived.ProofKit
import Derived.OpenShut
namespace Go.Proofs.Ytkcdlbclodjjhaa.wordRings
open Go.ChangeShapes Go.WideShapes Go.ChangeAt Go.RowKit

theorem few : (Try.f4.params.toList.all fun t => decide (t < Try.prog.types.size)) = true := by kernel_rfl
theorem own : ownKnob Try.prog.godebug = none := by kernel_rfl
theorem cells16 : Try.prog.cellsOf 42 = 1 := by kernel_rfl
theorem cellsArr : Try.prog.cellsOf 43 = 3 := by kernel_rfl

theorem okWide_array {P : Program} {w : World} {r : Reach} {base n : Nat} {t e : TypeId} {v : Value} (ht : P.underlying t = some (.array n e)) (h : Value.okWide P w r base t v) : ∃ cs, v = .agg cs ∧ cs.size = P.cellsOf t := by
  simp only [Value.okWide, ht] at h
  obtain ⟨cs, h1, h2, _⟩ := h
  exact ⟨cs, h1, h2⟩
theorem nat64 {z : Int} (h : (Lit.int .u64 z).wf = true) : ∃ n : Nat, z = (n : Int) ∧ n < 18446744073709551616 := by
  simp only [Lit.wf, Bool.and_eq_true, decide_eq_true_eq] at h
  have h1 : IntKind.u64.min = 0 := rfl
  have h2 : IntKind.u64.max = 18446744073709551615 := rfl
  rw [h1, h2] at h
  exact ⟨z.toNat, by omega, by omega⟩
theorem nat8 {z : Int} (h : (Lit.int .u8 z).wf = true) : ∃ n : Nat, z = (n : Int) ∧ n < 256 := by
  simp only [Lit.wf, Bool.and_eq_true, decide_eq_true_eq] at h
  have h1 : IntKind.u8.min = 0 := rfl
  have h2 : IntKind.u8.max = 255 := rfl
  rw [h1, h2] at h
  exact ⟨z.toNat, by omega, by omega⟩
theorem nat16 {z : Int} (h : (Lit.int .u16 z).wf = true) : ∃ n : Nat, z = (n : Int) ∧ n < 65536 := by
  simp only [Lit.wf, Bool.and_eq_true, decide_eq_true_eq] at h
  have h1 : IntKind.u16.min = 0 := rfl
  have h2 : IntKind.u16.max = 65535 := rfl
  rw [h1, h2] at h
  exact ⟨z.toNat, by omega, by omega⟩

set_option maxRecDepth 100000 in
theorem open_three {H : Type} {enc : TypeId × Value → H} {w : World} {base : Nat} {sp : Nat → Bool} {held : Bool} {v : Value} {b0 : Nat} {r : Reach} {d : DataW H} {ps : List MemPlace} (hval : Value.okWide Try.prog w r b0 43 v) (h : DataW.Trod enc Try.prog w base sp held 43 v d ps) :
    ∃ q0 q1 q2 : Nat, v = .agg #[.int .u16 q0, .int .u16 q1, .int .u16 q2] ∧ q0 < 65536 ∧ q1 < 65536 ∧ q2 < 65536 := by
  obtain ⟨cs, rfl, hsz⟩ := okWide_array Try.underlying43 hval
  rw [cellsArr] at hsz
  obtain ⟨fuel, hf⟩ := h
  obtain ⟨cl⟩ := cs
  match cl, hsz with
  | [v0, v1, v2], _ =>
    obtain ⟨y0, y1, y2, m, _, g0, g1, g2⟩ := trod_array3 Try.underlying43 cells16 hf
    obtain ⟨z0, e0, _, w0⟩ := DataW.trod_int Try.underlying42 g0
    obtain ⟨z1, e1, _, w1⟩ := DataW.trod_int Try.underlying42 g1
    obtain ⟨z2, e2, _, w2⟩ := DataW.trod_int Try.underlying42 g2
    simp at e0 e1 e2
    subst e0 e1 e2
    obtain ⟨n0, rfl, l0⟩ := nat16 w0
    obtain ⟨n1, rfl, l1⟩ := nat16 w1
    obtain ⟨n2, rfl, l2⟩ := nat16 w2
    exact ⟨n0, n1, n2, rfl, l0, l1, l2⟩

theorem rings_walk (p k q0 q1 q2 : Nat) (hp : p < 18446744073709551616) (hk : k < 256) (h0 : q0 < 65536) (h1 : q1 < 65536) (h2 : q2 < 65536) (w : World) :
    Calls Try.prog 4 #[.int .u64 ((p : Nat) : Int), .int .u8 ((k : Nat) : Int), .agg #[.int .u16 ((q0 : Nat) : Int), .int .u16 ((q1 : Nat) : Int), .int .u16 ((q2 : Nat) : Int)]] w fun e W' => e = .returned (.bool true) ∧ Below w.heap.size w W' := by
  cases hP : isP p with
  | false => exact rings_bad p k q0 q1 q2 hp hk h0 h1 h2 w hP
  | true => exact rings_ok p k q0 q1 q2 hp hk h0 h1 h2 w hP

set_option maxRecDepth 100000 in
theorem lifted (os : Os) (started : os.Started) (H : Type) (enc : TypeId × Value → H) :
    ReturnsInHanded {} Try.checked os 4 .any (Rows.wordRingsSpec.pre6 enc Try.prog Try.f4 Rows.wordRingsRow.domain false) (Rows.wordRingsSpec.post enc Try.prog Try.f4 false true false false) := by
  refine returnsInHanded_of_change (C := Try.checked) own started (by kernel_rfl) Try.func4
    (ChangeSpec.witness6 (enc := enc) (C := Try.checked) false ⟨#[], #[.int .u64 0, .int .u8 0, (.agg #[.int .u16 0, .int .u16 0, .int .u16 0] : Value)], []⟩ 8 (by kernel_rfl) (by kernel_rfl) (by kernel_rfl) (by kernel_rfl)) ?_
  intro W base args ds gs before hval0 hW hcnd _
  have hval : ∀ (j : Nat) t v, Try.f4.params[j]? = some t → args[j]? = some v → Value.okWide Try.prog W .any base t v := hval0
  have hW' := hW
  obtain ⟨p, q, hA0, hV, rfl, hfz, hnd⟩ := hW
  have hA : DataW.TrodAll enc Try.prog W 0 (fun _ => true) true Try.f4.params.toList args.toList ds p := hA0
  rw [Try.params4] at hA hval
  obtain ⟨v0, vs0, d0, ds0, p0, q0, hargs, rfl, rfl, g0, r0⟩ := trodAll_cons hA
  obtain ⟨v1, vs1, d1, ds1, p1, q1, hargs1, rfl, rfl, g1, r1⟩ := trodAll_cons r0
  obtain ⟨v2, vs2, d2, ds2, p2, q2, hargs2, rfl, rfl, g2, r2⟩ := trodAll_cons r1
  obtain ⟨rfl, rfl, rfl⟩ := trodAll_nil r2
  obtain rfl : args = #[v0, v1, v2] := by cases args; simp_all
  obtain ⟨rfl, rfl⟩ := trodVars_none hV
  have hT : ∀ t ∈ Try.f4.params.toList, t < Try.prog.types.size := fun t ht => of_decide_eq_true (List.all_eq_true.1 few t ht)
  obtain ⟨z0, rfl, rfl, rfl, hwf0⟩ := open_int Try.underlying26 (hval 0 26 v0 rfl rfl) g0
  obtain ⟨z1, rfl, rfl, rfl, hwf1⟩ := open_int Try.underlying5 (hval 1 5 v1 rfl rfl) g1
  obtain ⟨n0, rfl, hn0⟩ := nat64 hwf0
  obtain ⟨n1, rfl, hn1⟩ := nat8 hwf1
  obtain ⟨a0, a1, a2, rfl, l0, l1, l2⟩ := open_three (hval 2 43 v2 rfl rfl) g2
  refine (rings_walk n0 n1 a0 a1 a2 hn0 hn1 l0 l1 l2 W).mono fun e W' ⟨he, hb⟩ => ?_
  subst he
  exact ⟨_, rfl, post_below kids full hT hW' rfl hb rfl rfl Try.underlying4⟩

theorem over : Rows.wordRingsRow.holds Try.pinned (OpenSpec.ofChange Rows.wordRingsSpec) :=
  OpenClaim.holds_of_wide 4 Try.f4 rfl rfl rfl rfl rfl rfl rfl ⟨rfl, rfl, rfl, rfl, rfl⟩ rfl rfl rfl rfl rfl (by kernel_rfl) Try.func4 (by kernel_rfl)
    (of_decide_eq_true (by kernel_rfl)) (by unfold Func.isWrapper; first | (rw [if_pos (by decide +kernel)]; kernel_rfl) | (rw [if_neg (by decide +kernel)]; exact ⟨rfl, rfl⟩))
    (fun os started H enc _ => lifted os started H enc)

theorem proved : Rows.WordRingsSaid :=
  over
#print axioms proved
end Go.Proofs.Ytkcdlbclodjjhaa.wordRings
