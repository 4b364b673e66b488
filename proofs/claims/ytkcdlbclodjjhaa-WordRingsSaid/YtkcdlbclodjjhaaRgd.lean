/- Plain law: equal words, products, constants: what is laid and what it is worth. -/
import Derived.Test.YtkcdlbclodjjhaaRgc
namespace Go.Proofs.Ytkcdlbclodjjhaa

theorem same_step {p : Nat} (hp : 2 < p) (G : List Gat) (a b c : Nat) (ha : Bits (valsL p [] G) [a]) (hb : Bits (valsL p [] G) [b]) (hc : Bits (valsL p [] G) [c]) :
    ∃ e, valsL p [] (sameStep (G, c) (a, b)).1 = valsL p [] G ++ e ∧ Bits (valsL p [] G ++ e) [(sameStep (G, c) (a, b)).2] ∧ (valsL p [] G ++ e).getD (sameStep (G, c) (a, b)).2 0 = (if (valsL p [] G).getD c 0 = 1 ∧ (valsL p [] G).getD a 0 = (valsL p [] G).getD b 0 then 1 else 0) := by
  have a1 := ha a (by simp)
  have b1 := hb b (by simp)
  have c1 := hc c (by simp)
  have hn := vals_len p G
  obtain ⟨l, hl, hx⟩ := xor_run hp a1.1 b1.1 rfl rfl a1.2 b1.2
  generalize ho : ((valsL p [] G).getD a 0 + (valsL p [] G).getD b 0) % 2 = o at *
  have ho1 : o ≤ 1 := by omega
  have V1 : valsL p [] (G ++ xorL G.length a b) = valsL p [] G ++ (l ++ [o]) := by rw [vals_app, ← hx, hn]
  have L1 : (valsL p [] G ++ (l ++ [o])).length = G.length + 4 := by simp [hn, hl]
  have o3 : (valsL p [] G ++ (l ++ [o])).getD (G.length + 3) 0 = o := by rw [← hn, at_ge, show 3 = l.length by omega, at_ge0]; rfl
  have hr := not_run hp (V := valsL p [] G ++ (l ++ [o])) (a := G.length + 3) (by omega) o3 ho1
  rw [L1] at hr
  have V2 : valsL p [] (G ++ xorL G.length a b ++ notL (G.length + 4) (G.length + 3)) = valsL p [] G ++ (l ++ [o] ++ [1, 1 - o]) := by rw [vals_app, V1, hr]; simp
  have L2 : (valsL p [] G ++ (l ++ [o] ++ [1, 1 - o])).length = G.length + 6 := by simp [hn, hl]
  have o5 : (valsL p [] G ++ (l ++ [o] ++ [1, 1 - o])).getD (G.length + 5) 0 = 1 - o := by rw [← hn, at_ge, show 5 = (l ++ [o]).length + 1 by simp [hl], at_ge]; rfl
  have hz : (valsL p [] G).getD c 0 * (1 - o) % p = (valsL p [] G).getD c 0 * (1 - o) := Nat.mod_eq_of_lt (by
    have := Nat.mul_le_mul c1.2 (show 1 - o ≤ 1 by omega)
    omega)
  have V3 : valsL p [] (sameStep (G, c) (a, b)).1 = valsL p [] G ++ (l ++ [o] ++ [1, 1 - o] ++ [(valsL p [] G).getD c 0 * (1 - o)]) := by
    show valsL p [] (G ++ xorL G.length a b ++ notL (G.length + 4) (G.length + 3) ++ [((5, ((c : Nat) : Int), ((G.length + 5 : Nat) : Int), 0) : Gat)]) = _
    rw [vals_app, V2, run_cons, run_nil, g_mul, at_lt c1.1, o5, hz]
    simp
  have o6 : (valsL p [] G ++ (l ++ [o] ++ [1, 1 - o] ++ [(valsL p [] G).getD c 0 * (1 - o)])).getD (G.length + 6) 0 = (valsL p [] G).getD c 0 * (1 - o) := by
    rw [← List.append_assoc, ← L2, at_ge0]; rfl
  have hval : (valsL p [] G).getD c 0 * (1 - o) = (if (valsL p [] G).getD c 0 = 1 ∧ (valsL p [] G).getD a 0 = (valsL p [] G).getD b 0 then 1 else 0) := by
    have k1 : (valsL p [] G).getD c 0 = 0 ∨ (valsL p [] G).getD c 0 = 1 := by omega
    have k2 : o = 0 ∨ o = 1 := by omega
    rcases k1 with k1 | k1 <;> rcases k2 with k2 | k2
    · rw [k1, if_neg (by omega)]; simp
    · rw [k1, if_neg (by omega)]; simp
    · rw [k1, k2, if_pos ⟨rfl, by omega⟩]
    · rw [k1, k2, if_neg (by omega)]
  refine ⟨_, V3, ?_, ?_⟩
  · intro x hx
    obtain rfl : x = G.length + 6 := by simpa [sameStep] using hx
    refine ⟨by rw [← List.append_assoc, List.length_append, L2]; simp, ?_⟩
    rw [o6, hval]; split <;> omega
  · show (valsL p [] G ++ (l ++ [o] ++ [1, 1 - o] ++ [(valsL p [] G).getD c 0 * (1 - o)])).getD (G.length + 6) 0 = _
    rw [o6, hval]
theorem same_fold {p : Nat} (hp : 2 < p) : ∀ (ps : List (Nat × Nat)) (G : List Gat) (c : Nat), Bits (valsL p [] G) (ps.map (·.1)) → Bits (valsL p [] G) (ps.map (·.2)) → Bits (valsL p [] G) [c] →
    ∃ e, valsL p [] (ps.foldl sameStep (G, c)).1 = valsL p [] G ++ e ∧ Bits (valsL p [] G ++ e) [(ps.foldl sameStep (G, c)).2] ∧ (valsL p [] G ++ e).getD (ps.foldl sameStep (G, c)).2 0 = (if (valsL p [] G).getD c 0 = 1 ∧ nm (valsL p [] G) (ps.map (·.1)) = nm (valsL p [] G) (ps.map (·.2)) then 1 else 0)
  | [], G, c, _, _, hc => ⟨[], by simp, by simpa using hc, by
      have c1 := (hc c (by simp)).2
      simp only [List.foldl_nil, List.append_nil, List.map_nil, nm, and_true]
      split <;> omega⟩
  | q :: r, G, c, h1, h2, hc => by
    have ha : Bits (valsL p [] G) [q.1] := fun x hx => h1 x (by rw [show x = q.1 by simpa using hx]; simp)
    have hb : Bits (valsL p [] G) [q.2] := fun x hx => h2 x (by rw [show x = q.2 by simpa using hx]; simp)
    obtain ⟨e, k1, k2, k3⟩ := same_step hp G q.1 q.2 c ha hb hc
    obtain ⟨e2, j1, j2, j3⟩ := same_fold hp r (sameStep (G, c) (q.1, q.2)).1 (sameStep (G, c) (q.1, q.2)).2 (by rw [k1]; exact (Bits.tail (a := q.1) h1).app) (by rw [k1]; exact (Bits.tail (a := q.2) h2).app) (by rw [k1]; exact k2)
    rw [k1] at j1 j2 j3
    rw [nm_app (Bits.tail (a := q.1) h1), nm_app (Bits.tail (a := q.2) h2), k3] at j3
    refine ⟨e ++ e2, ?_, ?_, ?_⟩
    · rw [← List.append_assoc]; exact j1
    · rw [← List.append_assoc]; exact j2
    · rw [← List.append_assoc]
      show (valsL p [] G ++ e ++ e2).getD (r.foldl sameStep ((sameStep (G, c) (q.1, q.2)).1, (sameStep (G, c) (q.1, q.2)).2)).2 0 = _
      rw [j3]
      have a1 := (ha q.1 (by simp)).2
      have b1 := (hb q.2 (by simp)).2
      have e1 : nm (valsL p [] G) ((q :: r).map (·.1)) = (valsL p [] G).getD q.1 0 + 2 * nm (valsL p [] G) (r.map (·.1)) := rfl
      have e2 : nm (valsL p [] G) ((q :: r).map (·.2)) = (valsL p [] G).getD q.2 0 + 2 * nm (valsL p [] G) (r.map (·.2)) := rfl
      rw [e1, e2]
      by_cases hh : (valsL p [] G).getD c 0 = 1 ∧ (valsL p [] G).getD q.1 0 = (valsL p [] G).getD q.2 0
      · rw [if_pos hh]
        by_cases h3 : nm (valsL p [] G) (r.map (·.1)) = nm (valsL p [] G) (r.map (·.2))
        · rw [if_pos ⟨rfl, h3⟩, if_pos ⟨hh.1, by omega⟩]
        · rw [if_neg (by omega), if_neg (by omega)]
      · rw [if_neg hh, if_neg (by omega), if_neg (by omega)]
theorem same_sem {p : Nat} (hp : 2 < p) (G : List Gat) (vs ws : List Nat) (n : Nat) (hn : vs.length = n) (hm : ws.length = n) (hv : Bits (valsL p [] G) vs) (hw : Bits (valsL p [] G) ws) :
    ∃ e, valsL p [] (sameSt G (vs.zip ws)).1 = valsL p [] G ++ e ∧ (sameSt G (vs.zip ws)).2 < (valsL p [] G ++ e).length ∧ (valsL p [] G ++ e).getD (sameSt G (vs.zip ws)).2 0 = (if nm (valsL p [] G) vs = nm (valsL p [] G) ws then 1 else 0) := by
  have hV : valsL p [] (G ++ conL 1) = valsL p [] G ++ [1] := by rw [vals_app, con_run]
  have hl := vals_len p G
  have z1 := zip_fst vs ws (by rw [hn, hm])
  have z2 := zip_snd vs ws (by rw [hn, hm])
  have hc : (valsL p [] G ++ [1]).getD G.length 0 = 1 := by rw [← hl, at_ge0]; rfl
  obtain ⟨e, k1, k2, k3⟩ := same_fold hp (vs.zip ws) (G ++ conL 1) G.length (by rw [hV, z1]; exact hv.app) (by rw [hV, z2]; exact hw.app) (by
    rw [hV]
    intro x hx
    obtain rfl : x = G.length := by simpa using hx
    exact ⟨by simp [hl], by rw [hc]; exact Nat.le_refl _⟩)
  rw [hV] at k1 k2 k3
  rw [z1, z2, nm_app hv, nm_app hw, hc] at k3
  refine ⟨[1] ++ e, ?_, ?_, ?_⟩
  · rw [← List.append_assoc]; exact k1
  · rw [← List.append_assoc]; exact (k2 _ (by simp [sameSt])).1
  · rw [← List.append_assoc]
    show (valsL p [] G ++ [1] ++ e).getD ((vs.zip ws).foldl sameStep (G ++ conL 1, G.length)).2 0 = _
    rw [k3]
    simp
/-- A part of a product, gate by gate. -/
def partR (G : List Gat) (b : Nat) : List Nat → List Gat × List Nat
  | [] => (G, [])
  | a :: r => ((partR (G ++ [((5, ((a : Nat) : Int), ((b : Nat) : Int), 0) : Gat)]) b r).1, G.length :: (partR (G ++ [((5, ((a : Nat) : Int), ((b : Nat) : Int), 0) : Gat)]) b r).2)
theorem partR_fold (b : Nat) : ∀ (l : List Nat) (G : List Gat) (o : List Nat), l.foldl (partStep b) (G, o) = ((partR G b l).1, o ++ (partR G b l).2)
  | [], G, o => by simp [partR]
  | a :: r, G, o => by
    rw [List.foldl_cons]
    show r.foldl (partStep b) (G ++ [((5, ((a : Nat) : Int), ((b : Nat) : Int), 0) : Gat)], o ++ [G.length]) = _
    rw [partR_fold b r]
    simp [partR]
theorem partSt_R (G : List Gat) (b : Nat) (l : List Nat) : partSt G b l = partR G b l := by
  unfold partSt
  rw [partR_fold]
  simp
theorem partR_sem {p : Nat} (hp : 2 < p) (b : Nat) : ∀ (l : List Nat) (G : List Gat), Bits (valsL p [] G) l → Bits (valsL p [] G) [b] →
    ∃ e, valsL p [] (partR G b l).1 = valsL p [] G ++ e ∧ Bits (valsL p [] G ++ e) (partR G b l).2 ∧ (partR G b l).2.length = l.length ∧ nm (valsL p [] G ++ e) (partR G b l).2 = (valsL p [] G).getD b 0 * nm (valsL p [] G) l
  | [], G, _, _ => ⟨[], by simp [partR], fun x hx => by simp [partR] at hx, rfl, by simp [partR, nm]⟩
  | a :: r, G, h, hb => by
    have a1 := h a (by simp)
    have b1 := hb b (by simp)
    have hn := vals_len p G
    have hz : (valsL p [] G).getD a 0 * (valsL p [] G).getD b 0 % p = (valsL p [] G).getD b 0 * (valsL p [] G).getD a 0 := by
      rw [Nat.mul_comm]
      exact Nat.mod_eq_of_lt (by have := Nat.mul_le_mul b1.2 a1.2; omega)
    have hV : valsL p [] (G ++ [((5, ((a : Nat) : Int), ((b : Nat) : Int), 0) : Gat)]) = valsL p [] G ++ [(valsL p [] G).getD b 0 * (valsL p [] G).getD a 0] := by rw [vals_app, run_cons, run_nil, g_mul, hz]
    have o0 : (valsL p [] G ++ [(valsL p [] G).getD b 0 * (valsL p [] G).getD a 0]).getD G.length 0 = (valsL p [] G).getD b 0 * (valsL p [] G).getD a 0 := by rw [← hn, at_ge0]; rfl
    have L1 : (valsL p [] G ++ [(valsL p [] G).getD b 0 * (valsL p [] G).getD a 0]).length = G.length + 1 := by simp [hn]
    obtain ⟨e, k1, k2, k3, k4⟩ := partR_sem hp b r (G ++ [((5, ((a : Nat) : Int), ((b : Nat) : Int), 0) : Gat)]) (by rw [hV]; exact h.tail.app) (by rw [hV]; exact hb.app)
    rw [hV] at k1 k2 k4
    rw [nm_app h.tail, at_lt b1.1] at k4
    refine ⟨[(valsL p [] G).getD b 0 * (valsL p [] G).getD a 0] ++ e, by rw [← List.append_assoc]; exact k1, ?_, ?_, ?_⟩
    · rw [← List.append_assoc]
      intro x hx
      rcases List.mem_cons.1 hx with rfl | hx
      · refine ⟨by rw [List.length_append]; omega, ?_⟩
        rw [at_lt (by omega), o0]
        have := Nat.mul_le_mul b1.2 a1.2
        omega
      · exact k2 x hx
    · show (partR (G ++ [((5, ((a : Nat) : Int), ((b : Nat) : Int), 0) : Gat)]) b r).2.length + 1 = r.length + 1
      rw [k3]
    · rw [← List.append_assoc]
      show (valsL p [] G ++ [(valsL p [] G).getD b 0 * (valsL p [] G).getD a 0] ++ e).getD G.length 0 + 2 * nm (valsL p [] G ++ [(valsL p [] G).getD b 0 * (valsL p [] G).getD a 0] ++ e) (partR (G ++ [((5, ((a : Nat) : Int), ((b : Nat) : Int), 0) : Gat)]) b r).2 = (valsL p [] G).getD b 0 * ((valsL p [] G).getD a 0 + 2 * nm (valsL p [] G) r)
      rw [at_lt (by omega), o0, k4, Nat.mul_add, Nat.mul_left_comm]
theorem times_sem {p : Nat} (hp : 2 < p) (G : List Gat) (vs ws : List Nat) (n : Nat) (hn : vs.length = n) (hm : ws.length = n) (hv : Bits (valsL p [] G) vs) (hw : Bits (valsL p [] G) ws) : ∀ k, k ≤ n →
    ∃ e, valsL p [] (timesSt G vs ws k).1 = valsL p [] G ++ e ∧ Bits (valsL p [] G ++ e) (timesSt G vs ws k).2 ∧ (0 < k → (timesSt G vs ws k).2.length = n) ∧ nm (valsL p [] G ++ e) (timesSt G vs ws k).2 % 2 ^ n = nm (valsL p [] G) vs * nm (valsL p [] G) (ws.take k) % 2 ^ n := by
  intro k
  induction k with
  | zero => intro _; exact ⟨[], by simp [timesSt], fun x hx => by simp [timesSt] at hx, fun h => by omega, by simp [timesSt, nm]⟩
  | succ k ih =>
    intro hk
    obtain ⟨e, k1, k2, k3, k4⟩ := ih (by omega)
    have hkw : k < ws.length := by omega
    have hb : ws.getD k 0 = ws[k] := getD_at hkw
    have hbB : Bits (valsL p [] G) [ws[k]] := fun x hx => hw x (by rw [show x = ws[k] by simpa using hx]; exact List.getElem_mem _)
    have hvt : Bits (valsL p [] G) (vs.take (n - k)) := fun x hx => hv x (List.mem_of_mem_take hx)
    have hwt : ws.take (k + 1) = ws.take k ++ [ws[k]] := List.take_succ_eq_append_getElem hkw
    have hwl : (ws.take k).length = k := by rw [List.length_take]; omega
    have hnw : nm (valsL p [] G) (ws.take (k + 1)) = nm (valsL p [] G) (ws.take k) + 2 ^ k * (valsL p [] G).getD ws[k] 0 := by rw [hwt, nm_snoc, hwl]
    obtain ⟨e2, p1, p2, p3, p4⟩ := partR_sem hp ws[k] (vs.take (n - k)) (timesSt G vs ws k).1 (by rw [k1]; exact hvt.app) (by rw [k1]; exact hbB.app)
    rw [← partSt_R] at p1 p2 p3 p4
    rw [k1] at p1 p2 p4
    rw [at_lt (hbB _ (by simp)).1, nm_app hvt] at p4
    have hkn : k + (n - k) = n := by omega
    have hlt : (vs.take (n - k)).length = n - k := by rw [List.length_take]; omega
    rw [hlt] at p3
    have hsplit : nm (valsL p [] G) vs = nm (valsL p [] G) (vs.take (n - k)) + 2 ^ (n - k) * nm (valsL p [] G) (vs.drop (n - k)) := by
      have h5 := nm_join (valsL p [] G) (vs.drop (n - k)) (vs.take (n - k))
      rw [List.take_append_drop, hlt] at h5
      exact h5
    simp only [timesSt, timesStep]
    rw [hb, hn]
    generalize hB : (valsL p [] G).getD ws[k] 0 = B at *
    by_cases h0 : k = 0
    · rw [if_pos h0]
      subst h0
      refine ⟨e ++ e2, by rw [← List.append_assoc]; exact p1, by rw [← List.append_assoc]; exact p2, fun _ => by rw [p3]; omega, ?_⟩
      rw [← List.append_assoc, p4, hnw]
      have ht : vs.take (n - 0) = vs := by rw [Nat.sub_zero, ← hn, List.take_length]
      rw [ht]
      simp [nm, Nat.mul_comm]
    · rw [if_neg h0]
      have hout := k3 (by omega)
      have hdl : ((timesSt G vs ws k).2.drop k).length = n - k := by rw [List.length_drop, hout]
      have htl : ((timesSt G vs ws k).2.take k).length = k := by rw [List.length_take, hout]; omega
      have bd : Bits (valsL p [] G ++ e) ((timesSt G vs ws k).2.drop k) := fun x hx => k2 x (List.mem_of_mem_drop hx)
      have bt : Bits (valsL p [] G ++ e) ((timesSt G vs ws k).2.take k) := fun x hx => k2 x (List.mem_of_mem_take hx)
      have hos : nm (valsL p [] G ++ e) (timesSt G vs ws k).2 = nm (valsL p [] G ++ e) ((timesSt G vs ws k).2.take k) + 2 ^ k * nm (valsL p [] G ++ e) ((timesSt G vs ws k).2.drop k) := by
        have h5 := nm_join (valsL p [] G ++ e) ((timesSt G vs ws k).2.drop k) ((timesSt G vs ws k).2.take k)
        rw [List.take_append_drop, htl] at h5
        exact h5
      obtain ⟨e3, q1, q2, q3, _, q5⟩ := addc_sem hp (partSt (timesSt G vs ws k).1 ws[k] (vs.take (n - k))).1 ((timesSt G vs ws k).2.drop k) (partSt (timesSt G vs ws k).1 ws[k] (vs.take (n - k))).2 (n - k) 0 (by omega) hdl p3 (by rw [p1]; exact bd.app) (by rw [p1]; exact p2)
      rw [p1] at q1 q2 q5
      rw [nm_app bd, p4] at q5
      refine ⟨e ++ e2 ++ e3, ?_, ?_, fun _ => ?_, ?_⟩
      · rw [← List.append_assoc, ← List.append_assoc]; exact q1
      · rw [← List.append_assoc, ← List.append_assoc]
        intro x hx
        rcases List.mem_append.1 hx with hx | hx
        · exact (bt.app).app x hx
        · exact q2 x hx
      · rw [List.length_append, htl, q3]; omega
      · rw [← List.append_assoc, ← List.append_assoc, nm_join, htl, nm_app (bt.app), nm_app bt]
        generalize nm (valsL p [] G ++ e ++ e2 ++ e3) (addSt ((partSt (timesSt G vs ws k).1 ws[k] (vs.take (n - k))).1 ++ conL 0) (partSt (timesSt G vs ws k).1 ws[k] (vs.take (n - k))).1.length (((timesSt G vs ws k).2.drop k).zip (partSt (timesSt G vs ws k).1 ws[k] (vs.take (n - k))).2)).2.1 = R at *
        generalize (valsL p [] G ++ e ++ e2 ++ e3).getD (addSt ((partSt (timesSt G vs ws k).1 ws[k] (vs.take (n - k))).1 ++ conL 0) (partSt (timesSt G vs ws k).1 ws[k] (vs.take (n - k))).1.length (((timesSt G vs ws k).2.drop k).zip (partSt (timesSt G vs ws k).1 ws[k] (vs.take (n - k))).2)).2.2 0 = C at *
        generalize nm (valsL p [] G ++ e) ((timesSt G vs ws k).2.take k) = X at *
        generalize nm (valsL p [] G ++ e) ((timesSt G vs ws k).2.drop k) = Y at *
        generalize nm (valsL p [] G ++ e) (timesSt G vs ws k).2 = Z at *
        generalize nm (valsL p [] G) (vs.take (n - k)) = A1 at *
        generalize nm (valsL p [] G) (vs.drop (n - k)) = A2 at *
        generalize nm (valsL p [] G) vs = A at *
        generalize nm (valsL p [] G) (ws.take k) = T at *
        have hpow : 2 ^ n = 2 ^ k * 2 ^ (n - k) := by rw [← Nat.pow_add, hkn]
        have key : X + 2 ^ k * R + 2 ^ n * (C + B * A2) = Z + 2 ^ k * (B * A) := by
          rw [hos, hsplit, hpow]
          have e5 : 2 ^ k * R + 2 ^ k * (2 ^ (n - k) * C) = 2 ^ k * Y + 2 ^ k * (B * A1) := by rw [← Nat.mul_add, ← Nat.mul_add, q5, Nat.add_zero]
          have e6 : 2 ^ k * 2 ^ (n - k) * (C + B * A2) = 2 ^ k * (2 ^ (n - k) * C) + 2 ^ k * (B * (2 ^ (n - k) * A2)) := by
            rw [Nat.mul_add, Nat.mul_assoc, Nat.mul_assoc, Nat.mul_left_comm (2 ^ (n - k)) B A2]
          have e7 : 2 ^ k * (B * (A1 + 2 ^ (n - k) * A2)) = 2 ^ k * (B * A1) + 2 ^ k * (B * (2 ^ (n - k) * A2)) := by rw [Nat.mul_add, Nat.mul_add]
          rw [e6, e7]
          omega
        have h1 : (X + 2 ^ k * R) % 2 ^ n = (Z + 2 ^ k * (B * A)) % 2 ^ n := by rw [← key, Nat.add_mul_mod_self_left]
        rw [h1, ← Nat.mod_add_mod, k4, Nat.mod_add_mod, hnw, Nat.mul_add, Nat.mul_comm A (2 ^ k * B), Nat.mul_assoc]
theorem of_sem {p : Nat} (G : List Gat) (n : Nat) : ∀ k, ∃ e, valsL p [] (ofSt G n k).1 = valsL p [] G ++ e ∧ Bits (valsL p [] G ++ e) (ofSt G n k).2 ∧ nm (valsL p [] G ++ e) (ofSt G n k).2 = n % 2 ^ k := by
  intro k
  induction k with
  | zero => exact ⟨[], by simp [ofSt], fun x hx => by simp [ofSt] at hx, by simp [ofSt, nm, Nat.mod_one]⟩
  | succ k ih =>
    obtain ⟨e, k1, k2, k3⟩ := ih
    have hl := vals_len p (ofSt G n k).1
    have hV : valsL p [] ((ofSt G n k).1 ++ conL (n / 2 ^ k % 2)) = valsL p [] G ++ (e ++ [n / 2 ^ k % 2]) := by rw [vals_app, con_run, k1]; simp
    have o : (valsL p [] G ++ (e ++ [n / 2 ^ k % 2])).getD (ofSt G n k).1.length 0 = n / 2 ^ k % 2 := by rw [← List.append_assoc, ← k1, ← hl, at_ge0]; rfl
    refine ⟨e ++ [n / 2 ^ k % 2], hV, ?_, ?_⟩
    · intro x hx
      rcases List.mem_append.1 (show x ∈ (ofSt G n k).2 ++ [(ofSt G n k).1.length] from hx) with hx | hx
      · rw [← List.append_assoc]; exact k2.app x hx
      · obtain rfl : x = (ofSt G n k).1.length := by simpa using hx
        refine ⟨by rw [← List.append_assoc, ← k1, List.length_append, hl]; simp, by rw [o]; omega⟩
    · show nm (valsL p [] G ++ (e ++ [n / 2 ^ k % 2])) ((ofSt G n k).2 ++ [(ofSt G n k).1.length]) = _
      rw [nm_snoc, o, ← List.append_assoc, nm_app k2, k3, (ofSt_len G n k).2.1, Nat.mod_pow_succ]
end Go.Proofs.Ytkcdlbclodjjhaa
