/- Plain law: what the words' acts lay are gates that fit. -/
import Derived.Test.YtkcdlbclodjjhaaRgd
namespace Go.Proofs.Ytkcdlbclodjjhaa

/-- Every gate fits at its place. -/
def Fits13 (p : Nat) (G : List Gat) : Prop := ∀ k (h : k < G.length), gErr p 0 k G[k] = 0
theorem fits_nil (p : Nat) : Fits13 p [] := fun k h => by simp at h
theorem fits_snoc {p : Nat} {G : List Gat} {g : Gat} (h : Fits13 p G) (hg : gErr p 0 G.length g = 0) : Fits13 p (G ++ [g]) := fun k hk => by
  rw [List.length_append] at hk
  by_cases hlt : k < G.length
  · rw [List.getElem_append_left hlt]; exact h k hlt
  · obtain rfl : k = G.length := by simp at hk; omega
    simpa using hg
theorem bin0 {p m : Nat} {k : Int} (hk : k = 3 ∨ k = 4 ∨ k = 5) {x y : Nat} (hx : x < m) (hy : y < m) : gErr p 0 m (k, (x : Int), (y : Int), 0) = 0 := gErr_bin (s := 0) hk hx hy
theorem fits_con {p : Nat} (hp : 2 < p) {G : List Gat} {k : Nat} (hk : k ≤ 1) (h : Fits13 p G) : Fits13 p (G ++ conL k) := fits_snoc h (gErr_con (s := 0) (by omega))
theorem app_split (G : List Gat) (g : Gat) (r : List Gat) : G ++ g :: r = (G ++ [g]) ++ r := by simp
theorem fits_cons {p : Nat} {G : List Gat} {g : Gat} {r : List Gat} (h : Fits13 p G) (hg : gErr p 0 G.length g = 0) (hr : Fits13 p (G ++ [g]) → Fits13 p ((G ++ [g]) ++ r)) : Fits13 p (G ++ g :: r) := by
  rw [app_split]; exact hr (fits_snoc h hg)
theorem len_snoc {G : List Gat} {g : Gat} : (G ++ [g]).length = G.length + 1 := by simp
theorem fits_not {p : Nat} (hp : 2 < p) {G : List Gat} {a : Nat} (ha : a < G.length) (h : Fits13 p G) : Fits13 p (G ++ notL G.length a) := by
  refine fits_cons h (gErr_con (s := 0) (k := 1) (by omega)) fun h => ?_
  exact fits_snoc h (bin0 (by decide) (by rw [len_snoc]; omega) (by rw [len_snoc]; omega))
theorem fits_xor {p : Nat} {G : List Gat} {a b : Nat} (ha : a < G.length) (hb : b < G.length) (h : Fits13 p G) : Fits13 p (G ++ xorL G.length a b) := by
  refine fits_cons h (bin0 (by decide) ha hb) fun h => ?_
  refine fits_cons h (bin0 (by decide) (by simp only [len_snoc]; omega) (by simp only [len_snoc]; omega)) fun h => ?_
  refine fits_cons h (bin0 (by decide) (by simp only [len_snoc]; omega) (by simp only [len_snoc]; omega)) fun h => ?_
  exact fits_snoc h (bin0 (by decide) (by simp only [len_snoc]; omega) (by simp only [len_snoc]; omega))
theorem fits_add {p : Nat} {G : List Gat} {a b c : Nat} (ha : a < G.length) (hb : b < G.length) (hc : c < G.length) (h : Fits13 p G) : Fits13 p (G ++ addL G.length a b c) := by
  refine fits_cons h (bin0 (by decide) ha hb) fun h => ?_
  refine fits_cons h (bin0 (by decide) (by simp only [len_snoc]; omega) (by simp only [len_snoc]; omega)) fun h => ?_
  refine fits_cons h (bin0 (by decide) (by simp only [len_snoc]; omega) (by simp only [len_snoc]; omega)) fun h => ?_
  refine fits_cons h (bin0 (by decide) (by simp only [len_snoc]; omega) (by simp only [len_snoc]; omega)) fun h => ?_
  refine fits_cons h (bin0 (by decide) (by simp only [len_snoc]; omega) (by simp only [len_snoc]; omega)) fun h => ?_
  refine fits_cons h (bin0 (by decide) (by simp only [len_snoc]; omega) (by simp only [len_snoc]; omega)) fun h => ?_
  refine fits_cons h (bin0 (by decide) (by simp only [len_snoc]; omega) (by simp only [len_snoc]; omega)) fun h => ?_
  refine fits_cons h (bin0 (by decide) (by simp only [len_snoc]; omega) (by simp only [len_snoc]; omega)) fun h => ?_
  exact fits_snoc h (bin0 (by decide) (by simp only [len_snoc]; omega) (by simp only [len_snoc]; omega))
theorem fits_addR {p : Nat} : ∀ (ps : List (Nat × Nat)) (G : List Gat) (c : Nat), (∀ q ∈ ps, q.1 < G.length ∧ q.2 < G.length) → c < G.length → Fits13 p G → Fits13 p (addR G c ps).1
  | [], _, _, _, _, h => h
  | q :: r, G, c, hq, hc, h => by
    have h1 := hq q (by simp)
    have hl : (G ++ addL G.length q.1 q.2 c).length = G.length + 9 := by simp [addL]
    exact fits_addR r _ _ (fun y hy => by have := hq y (by simp [hy]); omega) (by omega) (fits_add h1.1 h1.2 hc h)
theorem fits_addSt {p : Nat} {G : List Gat} {c : Nat} {vs ws : List Nat} (hv : ∀ x ∈ vs, x < G.length) (hw : ∀ x ∈ ws, x < G.length) (hc : c < G.length) (h : Fits13 p G) : Fits13 p (addSt G c (vs.zip ws)).1 := by
  rw [addSt_R]
  refine fits_addR _ _ _ (fun q hq => ?_) hc h
  obtain ⟨h1, h2⟩ := List.of_mem_zip (show (q.1, q.2) ∈ vs.zip ws from hq)
  exact ⟨hv _ h1, hw _ h2⟩
theorem fits_turnR {p : Nat} (hp : 2 < p) : ∀ (l : List Nat) (G : List Gat), (∀ x ∈ l, x < G.length) → Fits13 p G → Fits13 p (turnR G l).1
  | [], _, _, h => h
  | a :: r, G, ha, h => fits_turnR hp r _ (fun y hy => by have := ha y (by simp [hy]); simp; omega) (fits_not hp (ha a (by simp)) h)
theorem fits_partR {p : Nat} (b : Nat) : ∀ (l : List Nat) (G : List Gat), (∀ x ∈ l, x < G.length) → b < G.length → Fits13 p G → Fits13 p (partR G b l).1
  | [], _, _, _, h => h
  | a :: r, G, ha, hb, h => fits_partR b r _ (fun y hy => by have := ha y (by simp [hy]); simp; omega) (by simp; omega) (fits_snoc h (bin0 (by decide) (ha a (by simp)) hb))
theorem con_len (G : List Gat) (k : Nat) : (G ++ conL k).length = G.length + 1 := by simp [conL]
theorem fits_plus {p : Nat} (hp : 2 < p) {G : List Gat} {vs ws : List Nat} (hv : ∀ x ∈ vs, x < G.length) (hw : ∀ x ∈ ws, x < G.length) (h : Fits13 p G) : Fits13 p (plusSt G vs ws).1 :=
  fits_addSt (fun x hx => by have := hv x hx; rw [con_len]; omega) (fun x hx => by have := hw x hx; rw [con_len]; omega) (by rw [con_len]; omega) (fits_con hp (by omega) h)
theorem fits_minus {p : Nat} (hp : 2 < p) {G : List Gat} {vs ws : List Nat} (hv : ∀ x ∈ vs, x < G.length) (hw : ∀ x ∈ ws, x < G.length) (h : Fits13 p G) : Fits13 p (minusSt G vs ws).1 := by
  obtain ⟨t1, _, t3⟩ := turnSt_all G ws
  refine fits_addSt (fun x hx => by have := hv x hx; rw [con_len]; omega) (fun x hx => by have := t3 x hx; rw [con_len]; omega) (by rw [con_len]; omega) (fits_con hp (by omega) ?_)
  rw [turnSt_R]; exact fits_turnR hp ws G hw h
theorem minus_len {G : List Gat} {vs ws : List Nat} {n : Nat} (hn : vs.length = n) (hm : ws.length = n) : (minusSt G vs ws).1.length = G.length + 1 + 11 * n ∧ (minusSt G vs ws).2.2 < (minusSt G vs ws).1.length := by
  obtain ⟨t1, t2, t3⟩ := turnSt_all G ws
  obtain ⟨a1, _, a3, _⟩ := addSt_all ((turnSt G ws).1 ++ conL 1) (turnSt G ws).1.length (vs.zip (turnSt G ws).2) (by rw [con_len]; omega)
  rw [List.length_zip, t2, hn, hm, Nat.min_self, con_len] at a1
  exact ⟨by show (addSt _ _ _).1.length = _; omega, a3⟩
theorem plus_len {G : List Gat} {vs ws : List Nat} {n : Nat} (hn : vs.length = n) (hm : ws.length = n) : (plusSt G vs ws).1.length = G.length + 1 + 9 * n := by
  obtain ⟨a1, _⟩ := addSt_all (G ++ conL 0) G.length (vs.zip ws) (by rw [con_len]; omega)
  rw [List.length_zip, hn, hm, Nat.min_self, con_len] at a1
  exact a1
theorem fits_less {p : Nat} (hp : 2 < p) {G : List Gat} {vs ws : List Nat} {n : Nat} (hn : vs.length = n) (hm : ws.length = n) (hv : ∀ x ∈ vs, x < G.length) (hw : ∀ x ∈ ws, x < G.length) (h : Fits13 p G) : Fits13 p (belowSt G vs ws).1 :=
  fits_not hp (minus_len hn hm).2 (fits_minus hp hv hw h)
theorem less_len {G : List Gat} {vs ws : List Nat} {n : Nat} (hn : vs.length = n) (hm : ws.length = n) : (belowSt G vs ws).1.length = G.length + 3 + 11 * n := by
  show ((minusSt G vs ws).1 ++ notL _ _).length = _
  rw [List.length_append, (minus_len hn hm).1]
  simp [notL]; omega
theorem fits_sameF {p : Nat} (hp : 2 < p) : ∀ (ps : List (Nat × Nat)) (G : List Gat) (c : Nat), (∀ q ∈ ps, q.1 < G.length ∧ q.2 < G.length) → c < G.length → Fits13 p G → Fits13 p (ps.foldl sameStep (G, c)).1
  | [], _, _, _, _, h => h
  | q :: r, G, c, hq, hc, h => by
    have h1 := hq q (by simp)
    have l1 : (G ++ xorL G.length q.1 q.2).length = G.length + 4 := by simp [xorL]
    have f1 := fits_xor h1.1 h1.2 h
    have f2 := fits_not hp (a := G.length + 3) (by omega) f1
    rw [l1] at f2
    have l2 : (G ++ xorL G.length q.1 q.2 ++ notL (G.length + 4) (G.length + 3)).length = G.length + 6 := by simp [xorL, notL]
    have f3 : Fits13 p (G ++ xorL G.length q.1 q.2 ++ notL (G.length + 4) (G.length + 3) ++ [((5, ((c : Nat) : Int), ((G.length + 5 : Nat) : Int), 0) : Gat)]) := fits_snoc f2 (bin0 (by decide) (by omega) (by omega))
    have l3 : (sameStep (G, c) q).1.length = G.length + 7 := by simp [sameStep, xorL, notL]
    exact fits_sameF hp r (sameStep (G, c) q).1 (sameStep (G, c) q).2 (fun y hy => by have := hq y (by simp [hy]); omega) (by rw [l3]; show G.length + 6 < _; omega) f3
theorem fits_same {p : Nat} (hp : 2 < p) {G : List Gat} {vs ws : List Nat} (hv : ∀ x ∈ vs, x < G.length) (hw : ∀ x ∈ ws, x < G.length) (h : Fits13 p G) : Fits13 p (sameSt G (vs.zip ws)).1 := by
  refine fits_sameF hp _ _ _ (fun q hq => ?_) (by rw [con_len]; omega) (fits_con hp (by omega) h)
  obtain ⟨h1, h2⟩ := List.of_mem_zip (show (q.1, q.2) ∈ vs.zip ws from hq)
  have := hv _ h1
  have := hw _ h2
  rw [con_len]
  omega
theorem same_len13 {G : List Gat} {vs ws : List Nat} {n : Nat} (hn : vs.length = n) (hm : ws.length = n) : (sameSt G (vs.zip ws)).1.length = G.length + 1 + 7 * n := by
  have h := (sameSt_len G (vs.zip ws) (vs.zip ws).length (Nat.le_refl _)).1
  rw [List.take_length, List.length_zip, hn, hm, Nat.min_self] at h
  exact h
theorem fits_times {p : Nat} (hp : 2 < p) {G : List Gat} {vs ws : List Nat} {n : Nat} (hn : vs.length = n) (hm : ws.length = n) (hv : ∀ x ∈ vs, x < G.length) (hw : ∀ x ∈ ws, x < G.length) (h : Fits13 p G) : ∀ k, k ≤ n → Fits13 p (timesSt G vs ws k).1 := by
  intro k
  induction k with
  | zero => intro _; exact h
  | succ k ih =>
    intro hk
    have h1 := ih (by omega)
    obtain ⟨_, l0, l1, l2⟩ := timesSt_len G vs ws k (by omega)
    have hb : ws.getD k 0 < G.length := by rw [getD_at (show k < ws.length by omega)]; exact hw _ (List.getElem_mem _)
    have hpt : Fits13 p (partSt (timesSt G vs ws k).1 (ws.getD k 0) (vs.take (vs.length - k))).1 := by
      rw [partSt_R]
      exact fits_partR _ _ _ (fun x hx => by have := hv x (List.mem_of_mem_take hx); omega) (by omega) h1
    obtain ⟨p1, _, p3⟩ := partSt_all (timesSt G vs ws k).1 (ws.getD k 0) (vs.take (vs.length - k))
    simp only [timesSt, timesStep]
    split
    · exact hpt
    · exact fits_addSt (fun x hx => by have := l2 x (List.mem_of_mem_drop hx); rw [con_len]; omega) (fun x hx => by have := p3 x hx; rw [con_len]; omega) (by rw [con_len]; omega) (fits_con hp (by omega) hpt)
theorem fits_of {p : Nat} (hp : 2 < p) {G : List Gat} (n : Nat) (h : Fits13 p G) : ∀ k, Fits13 p (ofSt G n k).1 := by
  intro k
  induction k with
  | zero => exact h
  | succ k ih => exact fits_con hp (by omega) ih
end Go.Proofs.Ytkcdlbclodjjhaa
