/- The law WordPlays is proved: for every modulus, sequence of acts and inputs, the call of juntolaw13.WordPlays returns true, and what came in reads afterwards as it read before. -/
import Derived.Test.YtkcdlbclodjjhaaGreatRows
import Derived.Test.YtkcdlbclodjjhaaGreatGbf
import Derived.Test.YtkcdlbclodjjhaaGreatRow
import Derived.WalkKit
import Derived.ProofKit
import Derived.OpenShut
namespace Go.Proofs.YtkcdlbclodjjhaaGreat.wordPlays
open Go.ChangeShapes Go.WideShapes Go.ChangeAt Go.RowKit

theorem few : (Tryz.f3.params.toList.all fun t => decide (t < Tryz.prog.types.size)) = true := by kernel_rfl
theorem own : ownKnob Tryz.prog.godebug = none := by kernel_rfl
theorem plays_walk (p : Nat) (hp : p < 18446744073709551616) (acts : List ActR) (LA : Option Addr) (lc : Nat) (ins : List Nat) (IA : Option Addr) (ic : Nat) (hln : acts.length ≤ 9223372036854775807) (hlc : acts.length ≤ lc) (hz : LA = none → lc = 0) (w : World) (hL : Reads w LA (actCells acts)) (hA : ∀ t ∈ acts, HoldsA w w.heap.size t.vs t.ws t.g t.x t.k t.VA t.WA t.vc) (hI : Reads w IA (uCells ins)) :
    Calls Tryz.prog 3 #[.int .u64 ((p : Nat) : Int), .slice LA acts.length lc, .slice IA ins.length ic] w fun e W' => e = .returned (.bool true) ∧ Below w.heap.size w W' := by
  cases hP : isP p with
  | false => exact plays_bad p hp hP LA IA acts.length lc ins.length ic w
  | true => exact plays_ok p hp hP acts LA lc ins IA ic hln hlc hz w hL hA hI

set_option maxRecDepth 100000 in
theorem lifted (os : Os) (started : os.Started) (H : Type) (enc : TypeId × Value → H) :
    ReturnsInHanded {} Tryz.checked os 3 .any (Rows.wordPlaysSpec.pre6 enc Tryz.prog Tryz.f3 Rows.wordPlaysRow.domain false) (Rows.wordPlaysSpec.post enc Tryz.prog Tryz.f3 false true false false) := by
  refine returnsInHanded_of_change (C := Tryz.checked) own started (by kernel_rfl) Tryz.func3
    (ChangeSpec.witness6 (enc := enc) (C := Tryz.checked) false ⟨#[], #[.int .u64 0, .slice none 0 0, .slice none 0 0], []⟩ 8 (by kernel_rfl) (by kernel_rfl) (by kernel_rfl) (by kernel_rfl)) ?_
  intro W base args ds gs before hval0 hW hcnd _
  have hval : ∀ (j : Nat) t v, Tryz.f3.params[j]? = some t → args[j]? = some v → Value.okWide Tryz.prog W .any base t v := hval0
  have hW' := hW
  obtain ⟨p, q, hA0, hV, rfl, hfz, hnd⟩ := hW
  have hA : DataW.TrodAll enc Tryz.prog W 0 (fun _ => true) true Tryz.f3.params.toList args.toList ds p := hA0
  rw [Tryz.params3] at hA hval
  obtain ⟨v0, vs0, d0, ds0, p0, q0, hargs, rfl, rfl, g0, r0⟩ := trodAll_cons hA
  obtain ⟨v1, vs1, d1, ds1, p1, q1, hargs1, rfl, rfl, g1, r1⟩ := trodAll_cons r0
  obtain ⟨v2, vs2, d2, ds2, p2, q2, hargs2, rfl, rfl, g2, r2⟩ := trodAll_cons r1
  obtain ⟨rfl, rfl, rfl⟩ := trodAll_nil r2
  obtain rfl : args = #[v0, v1, v2] := by cases args; simp_all
  obtain ⟨rfl, rfl⟩ := trodVars_none hV
  have hT : ∀ t ∈ Tryz.f3.params.toList, t < Tryz.prog.types.size := fun t ht => of_decide_eq_true (List.all_eq_true.1 few t ht)
  obtain ⟨z0, rfl, rfl, rfl, hwf0⟩ := open_int Tryz.underlying22 (hval 0 22 v0 rfl rfl) g0
  obtain ⟨n0, rfl, hn0⟩ := nat64 hwf0
  obtain ⟨LA, lc, acts, rfl, rL, rA, hln, hlc, hz⟩ := open_acts (hval 1 23 v1 rfl rfl) g1
  obtain ⟨IA, ic, ins, rfl, rI, _⟩ := open_natsQ (hval 2 24 v2 rfl rfl) g2
  have hln' : acts.length ≤ 9223372036854775807 := by simpa [maxLen] using hln
  refine (plays_walk n0 hn0 acts LA lc ins IA ic hln' hlc hz W rL rA rI).mono fun e W' ⟨he, hb⟩ => ?_
  subst he
  exact ⟨_, rfl, post_below kids full hT hW' rfl hb rfl rfl Tryz.underlying4⟩

theorem over : Rows.wordPlaysRow.holds Tryz.pinned (OpenSpec.ofChange Rows.wordPlaysSpec) :=
  OpenClaim.holds_of_wide 3 Tryz.f3 rfl rfl rfl rfl rfl rfl rfl ⟨rfl, rfl, rfl, rfl, rfl⟩ rfl rfl rfl rfl rfl (by kernel_rfl) Tryz.func3 (by kernel_rfl)
    (of_decide_eq_true (by kernel_rfl)) (by unfold Func.isWrapper; first | (rw [if_pos (by decide +kernel)]; kernel_rfl) | (rw [if_neg (by decide +kernel)]; exact ⟨rfl, rfl⟩))
    (fun os started H enc _ => lifted os started H enc)

theorem proved : Rows.WordPlaysSaid :=
  over
#print axioms proved
end Go.Proofs.YtkcdlbclodjjhaaGreat.wordPlays
