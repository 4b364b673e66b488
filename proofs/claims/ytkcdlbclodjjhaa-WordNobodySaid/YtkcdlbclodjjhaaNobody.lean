/- The law WordNobody is proved: for every act, the call of juntolaw13.WordNobody returns true and the act reads afterwards as it read before. -/
import Derived.Test.YtkcdlbclodjjhaaRows
import Derived.Test.YtkcdlbclodjjhaaNod
import Derived.Test.YtkcdlbclodjjhaaRow
import Derived.WalkKit
import Derived.ProofKit
import Derived.OpenShut
namespace Go.Proofs.Ytkcdlbclodjjhaa.wordNobody
open Go.ChangeShapes Go.WideShapes Go.ChangeAt Go.RowKit

theorem few : (Try.f5.params.toList.all fun t => decide (t < Try.prog.types.size)) = true := by kernel_rfl
theorem own : ownKnob Try.prog.godebug = none := by kernel_rfl

set_option maxRecDepth 100000 in
theorem lifted (os : Os) (started : os.Started) (H : Type) (enc : TypeId × Value → H) :
    ReturnsInHanded {} Try.checked os 5 .any (Rows.wordNobodySpec.pre6 enc Try.prog Try.f5 Rows.wordNobodyRow.domain false) (Rows.wordNobodySpec.post enc Try.prog Try.f5 false true false false) := by
  refine returnsInHanded_of_change (C := Try.checked) own started (by kernel_rfl) Try.func5
    (ChangeSpec.witness6 (enc := enc) (C := Try.checked) false ⟨#[], #[(.agg #[.int .i64 0, .int .i64 0, .int .i64 0, .int .i64 0, .int .u64 0, .slice none 0 0, .slice none 0 0, .int .i64 0, .bool false, .int .i64 0, .int .i64 0, .int .i64 0, .int .u64 0, .slice none 0 0, .slice none 0 0] : Value)], []⟩ 8 (by kernel_rfl) (by kernel_rfl) (by kernel_rfl) (by kernel_rfl)) ?_
  intro W base args ds gs before hval0 hW hcnd _
  have hval : ∀ (j : Nat) t v, Try.f5.params[j]? = some t → args[j]? = some v → Value.okWide Try.prog W .any base t v := hval0
  have hW' := hW
  obtain ⟨p, q, hA0, hV, rfl, hfz, hnd⟩ := hW
  have hA : DataW.TrodAll enc Try.prog W 0 (fun _ => true) true Try.f5.params.toList args.toList ds p := hA0
  rw [Try.params5] at hA hval
  obtain ⟨v0, vs0, d0, ds0, p0, q0, hargs, rfl, rfl, g0, r0⟩ := trodAll_cons hA
  obtain ⟨rfl, rfl, rfl⟩ := trodAll_nil r0
  obtain rfl : args = #[v0] := by cases args; simp_all
  obtain ⟨rfl, rfl⟩ := trodVars_none hV
  have hT : ∀ t ∈ Try.f5.params.toList, t < Try.prog.types.size := fun t ht => of_decide_eq_true (List.all_eq_true.1 few t ht)
  obtain ⟨d, a, b, c, k, s1, g1, g2, g3, g4, s2, VA, WA, TA, GA, vn, vc, wn, wc, tn, tc, gn, gc, rfl⟩ := open_act (hval 0 58 v0 rfl rfl) g0
  refine (nobody_walk d a b c k s1 g1 g2 g3 g4 s2 VA WA TA GA vn vc wn wc tn tc gn gc W).mono fun e W' ⟨he, hb⟩ => ?_
  subst he
  exact ⟨_, rfl, post_below kids full hT hW' rfl hb rfl rfl Try.underlying4⟩

theorem over : Rows.wordNobodyRow.holds Try.pinned (OpenSpec.ofChange Rows.wordNobodySpec) :=
  OpenClaim.holds_of_wide 5 Try.f5 rfl rfl rfl rfl rfl rfl rfl ⟨rfl, rfl, rfl, rfl, rfl⟩ rfl rfl rfl rfl rfl (by kernel_rfl) Try.func5 (by kernel_rfl)
    (of_decide_eq_true (by kernel_rfl)) (by unfold Func.isWrapper; first | (rw [if_pos (by decide +kernel)]; kernel_rfl) | (rw [if_neg (by decide +kernel)]; exact ⟨rfl, rfl⟩))
    (fun os started H enc _ => lifted os started H enc)

theorem proved : Rows.WordNobodySaid :=
  over
#print axioms proved
end Go.Proofs.Ytkcdlbclodjjhaa.wordNobody
