/- Plain law and contract of circ.Values. -/
import Derived.Test.YtmnbgamnbgdnnaaGreatDoorCirJ
import Derived.Laws.MakeOwn
namespace Go.Proofs.YtmnbgamnbgdnnaaGreatDoor
open Go.RowKit

def valsL (p : Nat) (I : List Nat) (l : List Gat) : List Nat := l.foldl (fun V g => V ++ [gval p I V g]) []
theorem valsL_succ (p : Nat) (I : List Nat) (l : List Gat) (k : Nat) (h : k < l.length) : valsL p I (l.take (k + 1)) = valsL p I (l.take k) ++ [gval p I (valsL p I (l.take k)) l[k]] := by
  unfold valsL
  rw [List.take_succ_eq_append_getElem h, List.foldl_append]
  rfl
theorem valsL_len (p : Nat) (I : List Nat) (l : List Gat) : ∀ k, k ≤ l.length → (valsL p I (l.take k)).length = k := by
  intro k
  induction k with
  | zero => intro _; rfl
  | succ k ih =>
    intro h
    rw [valsL_succ p I l k (by omega), List.length_append, ih (by omega)]
    rfl
theorem gatesErr_zero {p : Nat} {n : Int} {l : List Gat} (h : gatesErr p n 0 l = 0) : ∀ k, (hk : k < l.length) → gErr p n k l[k] = 0 := by
  have key : ∀ k, k ≤ l.length → gatesErr p n k (l.drop k) = 0 := by
    intro k
    induction k with
    | zero => intro _; exact h
    | succ k ih =>
      intro hk
      have h1 := ih (by omega)
      rw [gatesErr_at (by omega)] at h1
      split at h1
      · exact h1
      · rename_i h2; exact absurd h1 h2
  intro k hk
  have h1 := key k (by omega)
  rw [gatesErr_at hk] at h1
  split at h1
  · assumption
  · rename_i h2; exact absurd h1 h2
theorem check_ok {p : Nat} {C : Cir} (h : checkErr p C = 0) : isP p = true ∧ ¬ tooBig C ∧ gatesErr p C.slots.length 0 C.gates = 0 := by
  unfold checkErr at h
  split at h
  · cases h
  rename_i h1
  split at h
  · cases h
  rename_i h2
  split at h
  · cases h
  split at h
  · rename_i h4; exact ⟨by simpa using h1, h2, h4⟩
  · rename_i h4; exact absurd h h4
theorem allLt_eff {p : Nat} (h0 : 0 < p) : ∀ {s : List Slo} {x : List Nat}, allLt p x = true → allLt p (effL s x) = true
  | [], _, _ => rfl
  | _ :: _, [], _ => rfl
  | s :: sr, x :: xr, h => by
    unfold allLt at h
    rw [List.all_cons, Bool.and_eq_true] at h
    have h2 := allLt_eff (p := p) h0 (s := sr) (x := xr) h.2
    have h1 : x < p := by simpa using h.1
    have h3 : eff1 s x < p := by unfold eff1; split <;> omega
    unfold allLt effL at h2 ⊢
    rw [List.zipWith_cons_cons, List.all_cons, h2]
    simp [h3]
theorem allLt_snoc {p : Nat} {l : List Nat} {x : Nat} (h : allLt p l = true) (hx : x < p) : allLt p (l ++ [x]) = true := by
  unfold allLt at *
  rw [List.all_append, h]
  simp [hx]
theorem made_own (w : World) (n : Nat) (hn : n ≤ maxLen) : (w.alloc (.cells (madeCells #[.int .u64 0] (n * 1)) 22)).ownsRow w.heap.size 22 1 (.slice (some ⟨w.heap.size, 0, none⟩) 0 n) 0 [] :=
  ⟨rfl, .inr ⟨w.heap.size, n, _, rfl, Nat.le_refl _, heap_alloc_new w _, Nat.zero_le _, hn, by simp [size_madeCells], by simp⟩⟩
end Go.Proofs.YtmnbgamnbgdnnaaGreatDoor
