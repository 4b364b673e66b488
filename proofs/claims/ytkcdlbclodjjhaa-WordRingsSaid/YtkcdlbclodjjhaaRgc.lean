/- Plain law: sums, differences, tests of words: what is laid and what it is worth. -/
import Derived.Test.YtkcdlbclodjjhaaRgb
namespace Go.Proofs.Ytkcdlbclodjjhaa

theorem con_run {p : Nat} (V : List Nat) (k : Nat) : runG p V (conL k) = V ++ [k] := by rw [conL, run_cons, g_con, run_nil]
theorem zip_fst {α β : Type} : ∀ (l : List α) (m : List β), l.length = m.length → (l.zip m).map (·.1) = l
  | [], _, _ => by simp
  | a :: l, b :: m, h => by simp [zip_fst l m (by simpa using h)]
theorem zip_snd {α β : Type} : ∀ (l : List α) (m : List β), l.length = m.length → (l.zip m).map (·.2) = m
  | [], [], _ => by simp
  | a :: l, b :: m, h => by simp [zip_snd l m (by simpa using h)]
/-- A sum with a carry that is a constant just laid. -/
theorem addc_sem {p : Nat} (hp : 2 < p) (G : List Gat) (vs ws : List Nat) (n k : Nat) (hk : k ≤ 1) (hn : vs.length = n) (hm : ws.length = n) (hv : Bits (valsL p [] G) vs) (hw : Bits (valsL p [] G) ws) :
    ∃ e, valsL p [] (addSt (G ++ conL k) G.length (vs.zip ws)).1 = valsL p [] G ++ e ∧ Bits (valsL p [] G ++ e) (addSt (G ++ conL k) G.length (vs.zip ws)).2.1 ∧ (addSt (G ++ conL k) G.length (vs.zip ws)).2.1.length = n ∧ Bits (valsL p [] G ++ e) [(addSt (G ++ conL k) G.length (vs.zip ws)).2.2] ∧
      nm (valsL p [] G ++ e) (addSt (G ++ conL k) G.length (vs.zip ws)).2.1 + 2 ^ n * (valsL p [] G ++ e).getD (addSt (G ++ conL k) G.length (vs.zip ws)).2.2 0 = nm (valsL p [] G) vs + nm (valsL p [] G) ws + k := by
  have hV : valsL p [] (G ++ conL k) = valsL p [] G ++ [k] := by rw [vals_app, con_run]
  have hl := vals_len p G
  have hz : (vs.zip ws).length = n := by rw [List.length_zip, hn, hm, Nat.min_self]
  have z1 := zip_fst vs ws (by rw [hn, hm])
  have z2 := zip_snd vs ws (by rw [hn, hm])
  have hc : (valsL p [] G ++ [k]).getD G.length 0 = k := by rw [← hl, at_ge0]; rfl
  obtain ⟨e, k1, k2, k3, k4, k5⟩ := addR_sem hp (vs.zip ws) (G ++ conL k) G.length (by rw [hV, z1]; exact hv.app) (by rw [hV, z2]; exact hw.app) (by
    rw [hV]
    intro x hx
    obtain rfl : x = G.length := by simpa using hx
    exact ⟨by simp [hl], by rw [hc]; exact hk⟩)
  rw [hV] at k1 k2 k4 k5
  rw [z1, z2, nm_app hv, nm_app hw, hc, hz] at k5
  rw [hz] at k3
  rw [addSt_R]
  refine ⟨[k] ++ e, by rw [k1]; simp, ?_, k3, ?_, ?_⟩
  · rw [← List.append_assoc]; exact k2
  · rw [← List.append_assoc]; exact k4
  · rw [← List.append_assoc]; exact k5
theorem plus_sem {p : Nat} (hp : 2 < p) (G : List Gat) (vs ws : List Nat) (n : Nat) (hn : vs.length = n) (hm : ws.length = n) (hv : Bits (valsL p [] G) vs) (hw : Bits (valsL p [] G) ws) :
    ∃ e, valsL p [] (plusSt G vs ws).1 = valsL p [] G ++ e ∧ Bits (valsL p [] G ++ e) (plusSt G vs ws).2.1 ∧ (plusSt G vs ws).2.1.length = n ∧ nm (valsL p [] G ++ e) (plusSt G vs ws).2.1 = (nm (valsL p [] G) vs + nm (valsL p [] G) ws) % 2 ^ n := by
  obtain ⟨e, k1, k2, k3, k4, k5⟩ := addc_sem hp G vs ws n 0 (by omega) hn hm hv hw
  refine ⟨e, k1, k2, k3, ?_⟩
  have h1 := nm_lt k2
  rw [k3] at h1
  show nm (valsL p [] G ++ e) (addSt (G ++ conL 0) G.length (vs.zip ws)).2.1 = _
  rw [Nat.add_zero] at k5
  rw [← k5, Nat.add_mul_mod_self_left, Nat.mod_eq_of_lt h1]
/-- The bits turned about, one by one. -/
def turnR (G : List Gat) : List Nat → List Gat × List Nat
  | [] => (G, [])
  | a :: r => ((turnR (G ++ notL G.length a) r).1, (G.length + 1) :: (turnR (G ++ notL G.length a) r).2)
theorem turnR_fold : ∀ (l : List Nat) (G : List Gat) (o : List Nat), l.foldl turnStep (G, o) = ((turnR G l).1, o ++ (turnR G l).2)
  | [], G, o => by simp [turnR]
  | a :: r, G, o => by
    rw [List.foldl_cons]
    show r.foldl turnStep (G ++ notL G.length a, o ++ [G.length + 1]) = _
    rw [turnR_fold r]
    simp [turnR]
theorem turnSt_R (G : List Gat) (l : List Nat) : turnSt G l = turnR G l := by
  unfold turnSt
  rw [turnR_fold]
  simp
theorem turnR_sem {p : Nat} (hp : 2 < p) : ∀ (l : List Nat) (G : List Gat), Bits (valsL p [] G) l →
    ∃ e, valsL p [] (turnR G l).1 = valsL p [] G ++ e ∧ Bits (valsL p [] G ++ e) (turnR G l).2 ∧ (turnR G l).2.length = l.length ∧ nm (valsL p [] G ++ e) (turnR G l).2 + nm (valsL p [] G) l + 1 = 2 ^ l.length
  | [], G, _ => ⟨[], by simp [turnR], fun x hx => by simp [turnR] at hx, rfl, by simp [turnR, nm]⟩
  | a :: r, G, h => by
    have a1 := h a (by simp)
    have hr := not_run hp a1.1 rfl a1.2
    have hV : valsL p [] (G ++ notL G.length a) = valsL p [] G ++ [1, 1 - (valsL p [] G).getD a 0] := by rw [vals_app, ← hr, vals_len]
    have hn := vals_len p G
    have o1 : (valsL p [] G ++ [1, 1 - (valsL p [] G).getD a 0]).getD (G.length + 1) 0 = 1 - (valsL p [] G).getD a 0 := by rw [← hn, at_ge]; rfl
    have hlen : (valsL p [] G ++ [1, 1 - (valsL p [] G).getD a 0]).length = G.length + 2 := by simp [hn]
    obtain ⟨e, k1, k2, k3, k4⟩ := turnR_sem hp r (G ++ notL G.length a) (by rw [hV]; exact h.tail.app)
    rw [hV] at k1 k2 k4
    rw [nm_app h.tail] at k4
    have ee : valsL p [] G ++ ([1, 1 - (valsL p [] G).getD a 0] ++ e) = (valsL p [] G ++ [1, 1 - (valsL p [] G).getD a 0]) ++ e := by simp
    refine ⟨[1, 1 - (valsL p [] G).getD a 0] ++ e, by rw [ee]; exact k1, ?_, ?_, ?_⟩
    · rw [ee]
      intro x hx
      rcases List.mem_cons.1 hx with rfl | hx
      · exact ⟨by rw [List.length_append]; omega, by rw [at_lt (by omega), o1]; omega⟩
      · exact k2 x hx
    · show (turnR (G ++ notL G.length a) r).2.length + 1 = r.length + 1
      rw [k3]
    · rw [ee]
      show ((valsL p [] G ++ [1, 1 - (valsL p [] G).getD a 0]) ++ e).getD (G.length + 1) 0 + 2 * nm ((valsL p [] G ++ [1, 1 - (valsL p [] G).getD a 0]) ++ e) (turnR (G ++ notL G.length a) r).2 + ((valsL p [] G).getD a 0 + 2 * nm (valsL p [] G) r) + 1 = 2 ^ (r.length + 1)
      rw [at_lt (by omega), o1, Nat.pow_succ]
      have := a1.2
      omega
theorem minus_sem {p : Nat} (hp : 2 < p) (G : List Gat) (vs ws : List Nat) (n : Nat) (hn : vs.length = n) (hm : ws.length = n) (hv : Bits (valsL p [] G) vs) (hw : Bits (valsL p [] G) ws) :
    ∃ e, valsL p [] (minusSt G vs ws).1 = valsL p [] G ++ e ∧ Bits (valsL p [] G ++ e) (minusSt G vs ws).2.1 ∧ (minusSt G vs ws).2.1.length = n ∧ Bits (valsL p [] G ++ e) [(minusSt G vs ws).2.2] ∧ nm (valsL p [] G ++ e) (minusSt G vs ws).2.1 + 2 ^ n * (valsL p [] G ++ e).getD (minusSt G vs ws).2.2 0 + nm (valsL p [] G) ws = nm (valsL p [] G) vs + 2 ^ n := by
  obtain ⟨e, k1, k2, k3, k4⟩ := turnR_sem hp ws G hw
  rw [← turnSt_R] at k1 k2 k3 k4
  rw [hm] at k3 k4
  obtain ⟨e2, j1, j2, j3, j4, j5⟩ := addc_sem hp (turnSt G ws).1 vs (turnSt G ws).2 n 1 (by omega) hn k3 (by rw [k1]; exact hv.app) (by rw [k1]; exact k2)
  rw [k1] at j1 j2 j4 j5
  rw [nm_app hv] at j5
  refine ⟨e ++ e2, ?_, ?_, j3, ?_, ?_⟩
  · rw [← List.append_assoc]; exact j1
  · rw [← List.append_assoc]; exact j2
  · rw [← List.append_assoc]; exact j4
  · rw [← List.append_assoc]
    show nm (valsL p [] G ++ e ++ e2) (addSt ((turnSt G ws).1 ++ conL 1) (turnSt G ws).1.length (vs.zip (turnSt G ws).2)).2.1 + 2 ^ n * (valsL p [] G ++ e ++ e2).getD (addSt ((turnSt G ws).1 ++ conL 1) (turnSt G ws).1.length (vs.zip (turnSt G ws).2)).2.2 0 + nm (valsL p [] G) ws = nm (valsL p [] G) vs + 2 ^ n
    omega
theorem less_sem {p : Nat} (hp : 2 < p) (G : List Gat) (vs ws : List Nat) (n : Nat) (hn : vs.length = n) (hm : ws.length = n) (hv : Bits (valsL p [] G) vs) (hw : Bits (valsL p [] G) ws) :
    ∃ e, valsL p [] (belowSt G vs ws).1 = valsL p [] G ++ e ∧ (belowSt G vs ws).2 < (valsL p [] G ++ e).length ∧ (valsL p [] G ++ e).getD (belowSt G vs ws).2 0 = (if nm (valsL p [] G) vs < nm (valsL p [] G) ws then 1 else 0) := by
  obtain ⟨e, k1, k2, k3, k4, k5⟩ := minus_sem hp G vs ws n hn hm hv hw
  have c1 := k4 (minusSt G vs ws).2.2 (by simp)
  rw [← k1] at c1 k2 k5
  have hr := not_run hp c1.1 rfl c1.2
  have hl := vals_len p (minusSt G vs ws).1
  have hV : valsL p [] (belowSt G vs ws).1 = valsL p [] (minusSt G vs ws).1 ++ [1, 1 - (valsL p [] (minusSt G vs ws).1).getD (minusSt G vs ws).2.2 0] := by
    show valsL p [] ((minusSt G vs ws).1 ++ notL (minusSt G vs ws).1.length (minusSt G vs ws).2.2) = _
    rw [vals_app, ← hr, hl]
  have b1 := nm_lt k2
  rw [k3] at b1
  have b2 := nm_lt hw
  have b3 := nm_lt hv
  rw [hm] at b2
  rw [hn] at b3
  refine ⟨e ++ [1, 1 - (valsL p [] (minusSt G vs ws).1).getD (minusSt G vs ws).2.2 0], ?_, ?_, ?_⟩
  · rw [← List.append_assoc, ← k1]; exact hV
  · rw [← List.append_assoc, ← k1]
    show (minusSt G vs ws).1.length + 1 < _
    simp [hl]
  · rw [← List.append_assoc, ← k1]
    show (valsL p [] (minusSt G vs ws).1 ++ [1, 1 - (valsL p [] (minusSt G vs ws).1).getD (minusSt G vs ws).2.2 0]).getD ((minusSt G vs ws).1.length + 1) 0 = _
    rw [← hl, at_ge]
    show 1 - (valsL p [] (minusSt G vs ws).1).getD (minusSt G vs ws).2.2 0 = _
    have hc : (valsL p [] (minusSt G vs ws).1).getD (minusSt G vs ws).2.2 0 = 0 ∨ (valsL p [] (minusSt G vs ws).1).getD (minusSt G vs ws).2.2 0 = 1 := by omega
    rcases hc with hc | hc
    · rw [hc] at k5 ⊢
      rw [if_pos (by omega)]
    · rw [hc] at k5 ⊢
      rw [if_neg (by omega)]
end Go.Proofs.Ytkcdlbclodjjhaa
