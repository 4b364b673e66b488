/- A board's circuit that fits passes Check. -/
import Derived.Test.YtkcdlbclodjjhaaRgf
namespace Go.Proofs.Ytkcdlbclodjjhaa
open Go.RowKit

theorem gates_fit {p : Nat} {G : List Gat} (h : Fits13 p G) : gatesErr p 0 0 G = 0 := by
  have key : ∀ d k, k + d = G.length → gatesErr p 0 k (G.drop k) = 0 := by
    intro d
    induction d with
    | zero => intro k hk; rw [show k = G.length by omega]; exact gatesErr_end
    | succ d ih => intro k hk; rw [gatesErr_at (by omega), if_pos (h k (by omega))]; exact ih (k + 1) (by omega)
  have := key G.length 0 (by omega)
  rwa [List.drop_zero] at this
theorem check_fit {p : Nat} {G : List Gat} {S Ga : Option Addr} {sc gc : Nat} (hP : isP p = true) (hl : G.length ≤ 65536) (hF : Fits13 p G) : checkErr p (⟨[], G, [], S, Ga, none, sc, gc, 0⟩ : Cir) = 0 := by
  have ht : ¬ tooBig (⟨[], G, [], S, Ga, none, sc, gc, 0⟩ : Cir) := by
    unfold tooBig
    simp
    omega
  unfold checkErr
  rw [if_neg (by rw [hP]; simp), if_neg ht, if_neg (by simp), if_pos (by exact gates_fit hF)]
  rfl
end Go.Proofs.Ytkcdlbclodjjhaa
