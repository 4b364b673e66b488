/- Plain law: what sums, differences, products and tests of words are worth. -/
import Derived.Test.YtkcdlbclodjjhaaRga
namespace Go.Proofs.Ytkcdlbclodjjhaa

/-- The number of a word; a word of bits. -/
def nm (V : List Nat) : List Nat → Nat
  | [] => 0
  | x :: r => V.getD x 0 + 2 * nm V r
def Bits (V : List Nat) (l : List Nat) : Prop := ∀ x ∈ l, x < V.length ∧ V.getD x 0 ≤ 1
theorem Bits.app {V e l : List Nat} (h : Bits V l) : Bits (V ++ e) l := fun x hx => ⟨by rw [List.length_append]; have := (h x hx).1; omega, by rw [at_lt (h x hx).1]; exact (h x hx).2⟩
theorem Bits.tail {V l : List Nat} {a : Nat} (h : Bits V (a :: l)) : Bits V l := fun x hx => h x (List.mem_cons_of_mem _ hx)
theorem nm_app {V e : List Nat} : ∀ {l : List Nat}, Bits V l → nm (V ++ e) l = nm V l
  | [], _ => rfl
  | a :: r, h => by show (V ++ e).getD a 0 + 2 * nm (V ++ e) r = V.getD a 0 + 2 * nm V r; rw [at_lt (h a List.mem_cons_self).1, nm_app h.tail]
theorem nm_lt {V : List Nat} : ∀ {l : List Nat}, Bits V l → nm V l < 2 ^ l.length
  | [], _ => Nat.one_pos
  | a :: r, h => by
    have h1 := nm_lt h.tail
    have h2 := (h a List.mem_cons_self).2
    show V.getD a 0 + 2 * nm V r < 2 ^ (r.length + 1)
    rw [Nat.pow_succ]; omega
theorem nm_snoc (V : List Nat) (x : Nat) : ∀ l : List Nat, nm V (l ++ [x]) = nm V l + 2 ^ l.length * V.getD x 0
  | [] => by simp [nm]
  | a :: r => by
    show V.getD a 0 + 2 * nm V (r ++ [x]) = V.getD a 0 + 2 * nm V r + 2 ^ (r.length + 1) * V.getD x 0
    rw [nm_snoc V x r, Nat.pow_succ, Nat.mul_add, Nat.mul_comm (2 ^ r.length) 2, Nat.mul_assoc]; omega
theorem nm_join (V : List Nat) (m : List Nat) : ∀ l : List Nat, nm V (l ++ m) = nm V l + 2 ^ l.length * nm V m
  | [] => by simp [nm]
  | a :: r => by
    show V.getD a 0 + 2 * nm V (r ++ m) = V.getD a 0 + 2 * nm V r + 2 ^ (r.length + 1) * nm V m
    rw [nm_join V m r, Nat.pow_succ, Nat.mul_add, Nat.mul_comm (2 ^ r.length) 2, Nat.mul_assoc]; omega
/-- A sum, its bits laid one by one. -/
def addR (G : List Gat) (c : Nat) : List (Nat × Nat) → List Gat × List Nat × Nat
  | [] => (G, [], c)
  | q :: r => ((addR (G ++ addL G.length q.1 q.2 c) (G.length + 8) r).1, (G.length + 7) :: (addR (G ++ addL G.length q.1 q.2 c) (G.length + 8) r).2.1, (addR (G ++ addL G.length q.1 q.2 c) (G.length + 8) r).2.2)
theorem addR_fold : ∀ (ps : List (Nat × Nat)) (G : List Gat) (o : List Nat) (c : Nat), ps.foldl addStep (G, o, c) = ((addR G c ps).1, o ++ (addR G c ps).2.1, (addR G c ps).2.2)
  | [], G, o, c => by simp [addR]
  | q :: r, G, o, c => by
    rw [List.foldl_cons]
    show r.foldl addStep (G ++ addL G.length q.1 q.2 c, o ++ [G.length + 7], G.length + 8) = _
    rw [addR_fold r]
    simp [addR]
theorem addSt_R (G : List Gat) (c : Nat) (ps : List (Nat × Nat)) : addSt G c ps = addR G c ps := by
  unfold addSt
  rw [addR_fold]
  simp
theorem addR_sem {p : Nat} (hp : 2 < p) : ∀ (ps : List (Nat × Nat)) (G : List Gat) (c : Nat), Bits (valsL p [] G) (ps.map (·.1)) → Bits (valsL p [] G) (ps.map (·.2)) → Bits (valsL p [] G) [c] →
    ∃ e, valsL p [] (addR G c ps).1 = valsL p [] G ++ e ∧ Bits (valsL p [] G ++ e) (addR G c ps).2.1 ∧ (addR G c ps).2.1.length = ps.length ∧ Bits (valsL p [] G ++ e) [(addR G c ps).2.2] ∧
      nm (valsL p [] G ++ e) (addR G c ps).2.1 + 2 ^ ps.length * (valsL p [] G ++ e).getD (addR G c ps).2.2 0 = nm (valsL p [] G) (ps.map (·.1)) + nm (valsL p [] G) (ps.map (·.2)) + (valsL p [] G).getD c 0
  | [], G, c, _, _, hc => ⟨[], by simp [addR], fun x hx => by simp [addR] at hx, rfl, by simpa [addR] using hc, by simp [addR, nm]⟩
  | q :: r, G, c, h1, h2, hc => by
    have a1 := h1 q.1 (by simp)
    have b1 := h2 q.2 (by simp)
    have c1 := hc c (by simp)
    obtain ⟨l, hl, hr⟩ := add_run hp a1.1 b1.1 c1.1 rfl rfl rfl a1.2 b1.2 c1.2
    have hV : valsL p [] (G ++ addL G.length q.1 q.2 c) = valsL p [] G ++ (l ++ [((valsL p [] G).getD q.1 0 + (valsL p [] G).getD q.2 0 + (valsL p [] G).getD c 0) % 2, ((valsL p [] G).getD q.1 0 + (valsL p [] G).getD q.2 0 + (valsL p [] G).getD c 0) / 2]) := by
      rw [vals_app, ← hr, vals_len]
    generalize hs : (valsL p [] G).getD q.1 0 + (valsL p [] G).getD q.2 0 + (valsL p [] G).getD c 0 = s at *
    have hn := vals_len p G
    have o7 : (valsL p [] G ++ (l ++ [s % 2, s / 2])).getD (G.length + 7) 0 = s % 2 := by rw [← hn, at_ge, show 7 = l.length by omega, at_ge0]; rfl
    have o8 : (valsL p [] G ++ (l ++ [s % 2, s / 2])).getD (G.length + 8) 0 = s / 2 := by rw [← hn, at_ge, show 8 = l.length + 1 by omega, at_ge]; rfl
    have hlen : (valsL p [] G ++ (l ++ [s % 2, s / 2])).length = G.length + 9 := by simp [hn, hl]
    have t1 : Bits (valsL p [] (G ++ addL G.length q.1 q.2 c)) (r.map (·.1)) := by rw [hV]; exact (Bits.tail (a := q.1) h1).app
    have t2 : Bits (valsL p [] (G ++ addL G.length q.1 q.2 c)) (r.map (·.2)) := by rw [hV]; exact (Bits.tail (a := q.2) h2).app
    have t3 : Bits (valsL p [] (G ++ addL G.length q.1 q.2 c)) [G.length + 8] := by
      rw [hV]
      intro x hx
      obtain rfl : x = G.length + 8 := by simpa using hx
      exact ⟨by omega, by rw [o8]; omega⟩
    obtain ⟨e, k1, k2, k3, k4, k5⟩ := addR_sem hp r _ _ t1 t2 t3
    rw [hV] at k1 k2 k4 k5
    have k1' : valsL p [] (addR G c (q :: r)).1 = valsL p [] G ++ (l ++ [s % 2, s / 2] ++ e) := by
      show valsL p [] (addR (G ++ addL G.length q.1 q.2 c) (G.length + 8) r).1 = _
      rw [k1]; simp
    have ee : valsL p [] G ++ (l ++ [s % 2, s / 2] ++ e) = (valsL p [] G ++ (l ++ [s % 2, s / 2])) ++ e := by simp
    refine ⟨l ++ [s % 2, s / 2] ++ e, k1', ?_, ?_, ?_, ?_⟩
    · rw [ee]
      intro x hx
      rcases List.mem_cons.1 hx with rfl | hx
      · exact ⟨by rw [List.length_append]; omega, by rw [at_lt (by omega), o7]; omega⟩
      · exact k2 x hx
    · show (addR (G ++ addL G.length q.1 q.2 c) (G.length + 8) r).2.1.length + 1 = r.length + 1
      rw [k3]
    · rw [ee]; exact k4
    · rw [ee]
      show ((valsL p [] G ++ (l ++ [s % 2, s / 2])) ++ e).getD (G.length + 7) 0 + 2 * nm ((valsL p [] G ++ (l ++ [s % 2, s / 2])) ++ e) (addR (G ++ addL G.length q.1 q.2 c) (G.length + 8) r).2.1 + 2 ^ (r.length + 1) * ((valsL p [] G ++ (l ++ [s % 2, s / 2])) ++ e).getD (addR (G ++ addL G.length q.1 q.2 c) (G.length + 8) r).2.2 0 = (valsL p [] G).getD q.1 0 + 2 * nm (valsL p [] G) (r.map (·.1)) + ((valsL p [] G).getD q.2 0 + 2 * nm (valsL p [] G) (r.map (·.2))) + (valsL p [] G).getD c 0
      rw [at_lt (by omega), o7]
      rw [nm_app (Bits.tail (a := q.1) h1), nm_app (Bits.tail (a := q.2) h2), o8] at k5
      rw [Nat.pow_succ, Nat.mul_comm (2 ^ r.length) 2, Nat.mul_assoc]
      omega
end Go.Proofs.Ytkcdlbclodjjhaa
