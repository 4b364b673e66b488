/- The value of a valid gate: circ.Of at every gate that fits. -/
import Derived.Test.YtmnbgamnbgdnnaaGreatDoorCirI
namespace Go.Proofs.YtmnbgamnbgdnnaaGreatDoor
open Go.RowKit

def gval (p : Nat) (I V : List Nat) (g : Gat) : Nat :=
  if g.1 = 1 then I.getD g.2.1.toNat 0 else if g.1 = 2 then g.2.2.2.toNat
  else if g.1 = 3 then (V.getD g.2.1.toNat 0 + V.getD g.2.2.1.toNat 0) % p
  else if g.1 = 4 then (V.getD g.2.1.toNat 0 + p - V.getD g.2.2.1.toNat 0) % p
  else if g.1 = 5 then V.getD g.2.1.toNat 0 * V.getD g.2.2.1.toNat 0 % p
  else V.getD g.2.1.toNat 0 * g.2.2.2.toNat % p
/-- What a gate that fits names. -/
theorem gate_fits {p : Nat} {n m : Int} {k a b K : Int} (_hp : 0 < p) (h : gateErr p n m k a b K = 0) :
    (k = 1 ∧ b = 0 ∧ K = 0 ∧ 0 ≤ a ∧ a < n) ∨ (k = 2 ∧ a = 0 ∧ b = 0 ∧ K < p) ∨ ((k = 3 ∨ k = 4 ∨ k = 5) ∧ K = 0 ∧ 0 ≤ a ∧ a < m ∧ 0 ≤ b ∧ b < m) ∨ (k = 6 ∧ b = 0 ∧ 0 ≤ a ∧ a < m ∧ K < p) := by
  unfold gateErr at h
  split at h
  · rename_i h1
    split at h
    · cases h
    · split at h
      · cases h
      · left; omega
  split at h
  · rename_i h1
    split at h
    · cases h
    · split at h
      · cases h
      · right; left; omega
  split at h
  · rename_i h1
    split at h
    · cases h
    · split at h
      · cases h
      · right; right; left
        refine ⟨h1, ?_⟩
        omega
  split at h
  · rename_i h1
    split at h
    · cases h
    · split at h
      · cases h
      · split at h
        · cases h
        · right; right; right; omega
  · cases h
theorem getD_at {l : List Nat} {k : Nat} (h : k < l.length) : l.getD k 0 = l[k] := by
  rw [List.getD_eq_getElem?_getD, List.getElem?_eq_getElem h]; rfl
theorem all_lt {p : Nat} {l : List Nat} (h : allLt p l = true) (k : Nat) (hk : k < l.length) : l[k] < p := of_decide_eq_true (List.all_eq_true.1 h _ (List.getElem_mem hk))
theorem of_any (p : Nat) (h0 : 0 < p) (hp : p ≤ 65537) (I V : List Nat) (hI : allLt p I = true) (hV : allLt p V = true) (A B : Option Addr) (c d : Nat) (g : Gat) (hK : 0 ≤ g.2.2.2) (hg : gErr p I.length V.length g = 0) (w : World) (hA : Reads w A (uCells I)) (hB : Reads w B (uCells V)) :
    gval p I V g < p ∧ Calls Tryz.prog 44 #[.int .u64 p, .agg #[.int .i64 g.1, .int .i64 g.2.1, .int .i64 g.2.2.1, .int .u64 g.2.2.2], .slice A I.length c, .slice B V.length d] w (UPost (gval p I V g) w) := by
  obtain ⟨k, a, b, K⟩ := g
  unfold gErr at hg
  simp only at hK hg ⊢
  obtain ⟨K, rfl⟩ : ∃ x : Nat, K = x := ⟨K.toNat, by omega⟩
  rcases gate_fits h0 hg with ⟨rfl, rfl, hK0, ha, ha'⟩ | ⟨rfl, rfl, rfl, hKp⟩ | ⟨hk, hK0, ha, ha', hb, hb'⟩ | ⟨rfl, rfl, ha, ha', hKp⟩
  · obtain ⟨a, rfl⟩ : ∃ x : Nat, a = x := ⟨a.toNat, by omega⟩
    have h1 : a < I.length := by omega
    have hv : gval p I V (1, (a : Int), 0, (K : Int)) = I[a] := by simp [gval, List.getElem?_eq_getElem h1]
    rw [hv]
    exact ⟨all_lt hI a h1, of_1 p h0 hp I V A B c d a 0 K w hA h1⟩
  · have hv : gval p I V (2, 0, 0, (K : Int)) = K := by simp [gval]
    rw [hv]
    exact ⟨by omega, of_2 p h0 hp I V A B c d 0 0 K w⟩
  · obtain ⟨a, rfl⟩ : ∃ x : Nat, a = x := ⟨a.toNat, by omega⟩
    obtain ⟨b, rfl⟩ : ∃ x : Nat, b = x := ⟨b.toNat, by omega⟩
    have h1 : a < V.length := by omega
    have h2 : b < V.length := by omega
    rcases hk with rfl | rfl | rfl
    · have hv : gval p I V (3, (a : Int), (b : Int), (K : Int)) = (V[a] + V[b]) % p := by simp [gval, List.getElem?_eq_getElem h1, List.getElem?_eq_getElem h2]
      rw [hv]
      exact ⟨Nat.mod_lt _ h0, of_3 p h0 hp I V A B c d a b K w hB h1 h2 (all_lt hV a h1) (all_lt hV b h2)⟩
    · have hv : gval p I V (4, (a : Int), (b : Int), (K : Int)) = (V[a] + p - V[b]) % p := by simp [gval, List.getElem?_eq_getElem h1, List.getElem?_eq_getElem h2]
      rw [hv]
      exact ⟨Nat.mod_lt _ h0, of_4 p h0 hp I V A B c d a b K w hB h1 h2 (all_lt hV a h1) (all_lt hV b h2)⟩
    · have hv : gval p I V (5, (a : Int), (b : Int), (K : Int)) = V[a] * V[b] % p := by simp [gval, List.getElem?_eq_getElem h1, List.getElem?_eq_getElem h2]
      rw [hv]
      exact ⟨Nat.mod_lt _ h0, of_5 p h0 hp I V A B c d a b K w hB h1 h2 (all_lt hV a h1) (all_lt hV b h2)⟩
  · obtain ⟨a, rfl⟩ : ∃ x : Nat, a = x := ⟨a.toNat, by omega⟩
    have h1 : a < V.length := by omega
    have hv : gval p I V (6, (a : Int), 0, (K : Int)) = V[a] * K % p := by simp [gval, List.getElem?_eq_getElem h1]
    rw [hv]
    exact ⟨Nat.mod_lt _ h0, of_6 p h0 hp I V A B c d a 0 K w hB h1 (all_lt hV a h1) (by omega)⟩
end Go.Proofs.YtmnbgamnbgdnnaaGreatDoor
