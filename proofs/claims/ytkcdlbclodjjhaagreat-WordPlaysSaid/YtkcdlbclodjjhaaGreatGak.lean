/- Contracts and plain laws of chapter 13, merged: Pge Pgf Pi Pa Pb. -/
import Derived.Test.YtkcdlbclodjjhaaGreatGaj
import Derived.Test.YtkcdlbclodjjhaaGreatGag
import Derived.StillTailTactics
import Derived.Test.YtkcdlbclodjjhaaGreatGae
import Derived.Deep.RegionHeld2
/- Plain law: what the words' acts lay are gates that fit. -/
namespace Go.Proofs.YtkcdlbclodjjhaaGreat
variable {I : List Nat} {sn : Nat}

/-- Every gate fits at its place. -/
def Fits13 (p sn : Nat) (G : List Gat) : Prop := ∀ k (h : k < G.length), gErr p sn k G[k] = 0
theorem fits_snoc {p : Nat} {G : List Gat} {g : Gat} (h : Fits13 p sn G) (hg : gErr p sn G.length g = 0) : Fits13 p sn (G ++ [g]) := fun k hk => by
  rw [List.length_append] at hk
  by_cases hlt : k < G.length
  · rw [List.getElem_append_left hlt]; exact h k hlt
  · obtain rfl : k = G.length := by simp at hk; omega
    simpa using hg
theorem bin0 {p m : Nat} {k : Int} (hk : k = 3 ∨ k = 4 ∨ k = 5) {x y : Nat} (hx : x < m) (hy : y < m) : gErr p sn m (k, (x : Int), (y : Int), 0) = 0 := gErr_bin (s := sn) hk hx hy
theorem fits_con {p : Nat} (hp : 2 < p) {G : List Gat} {k : Nat} (hk : k ≤ 1) (h : Fits13 p sn G) : Fits13 p sn (G ++ conL k) := fits_snoc h (gErr_con (s := sn) (by omega))
theorem app_split (G : List Gat) (g : Gat) (r : List Gat) : G ++ g :: r = (G ++ [g]) ++ r := by simp
theorem fits_cons {p : Nat} {G : List Gat} {g : Gat} {r : List Gat} (h : Fits13 p sn G) (hg : gErr p sn G.length g = 0) (hr : Fits13 p sn (G ++ [g]) → Fits13 p sn ((G ++ [g]) ++ r)) : Fits13 p sn (G ++ g :: r) := by
  rw [app_split]; exact hr (fits_snoc h hg)
theorem len_snoc {G : List Gat} {g : Gat} : (G ++ [g]).length = G.length + 1 := by simp
theorem fits_not {p : Nat} (hp : 2 < p) {G : List Gat} {a : Nat} (ha : a < G.length) (h : Fits13 p sn G) : Fits13 p sn (G ++ notL G.length a) := by
  refine fits_cons h (gErr_con (s := sn) (k := 1) (by omega)) fun h => ?_
  exact fits_snoc h (bin0 (by decide) (by rw [len_snoc]; omega) (by rw [len_snoc]; omega))
theorem fits_xor {p : Nat} {G : List Gat} {a b : Nat} (ha : a < G.length) (hb : b < G.length) (h : Fits13 p sn G) : Fits13 p sn (G ++ xorL G.length a b) := by
  refine fits_cons h (bin0 (by decide) ha hb) fun h => ?_
  refine fits_cons h (bin0 (by decide) (by simp only [len_snoc]; omega) (by simp only [len_snoc]; omega)) fun h => ?_
  refine fits_cons h (bin0 (by decide) (by simp only [len_snoc]; omega) (by simp only [len_snoc]; omega)) fun h => ?_
  exact fits_snoc h (bin0 (by decide) (by simp only [len_snoc]; omega) (by simp only [len_snoc]; omega))
theorem fits_add {p : Nat} {G : List Gat} {a b c : Nat} (ha : a < G.length) (hb : b < G.length) (hc : c < G.length) (h : Fits13 p sn G) : Fits13 p sn (G ++ addL G.length a b c) := by
  refine fits_cons h (bin0 (by decide) ha hb) fun h => ?_
  refine fits_cons h (bin0 (by decide) (by simp only [len_snoc]; omega) (by simp only [len_snoc]; omega)) fun h => ?_
  refine fits_cons h (bin0 (by decide) (by simp only [len_snoc]; omega) (by simp only [len_snoc]; omega)) fun h => ?_
  refine fits_cons h (bin0 (by decide) (by simp only [len_snoc]; omega) (by simp only [len_snoc]; omega)) fun h => ?_
  refine fits_cons h (bin0 (by decide) (by simp only [len_snoc]; omega) (by simp only [len_snoc]; omega)) fun h => ?_
  refine fits_cons h (bin0 (by decide) (by simp only [len_snoc]; omega) (by simp only [len_snoc]; omega)) fun h => ?_
  refine fits_cons h (bin0 (by decide) (by simp only [len_snoc]; omega) (by simp only [len_snoc]; omega)) fun h => ?_
  refine fits_cons h (bin0 (by decide) (by simp only [len_snoc]; omega) (by simp only [len_snoc]; omega)) fun h => ?_
  exact fits_snoc h (bin0 (by decide) (by simp only [len_snoc]; omega) (by simp only [len_snoc]; omega))
theorem fits_addR {p : Nat} : ∀ (ps : List (Nat × Nat)) (G : List Gat) (c : Nat), (∀ q ∈ ps, q.1 < G.length ∧ q.2 < G.length) → c < G.length → Fits13 p sn G → Fits13 p sn (addR G c ps).1
  | [], _, _, _, _, h => h
  | q :: r, G, c, hq, hc, h => by
    have h1 := hq q (by simp)
    have hl : (G ++ addL G.length q.1 q.2 c).length = G.length + 9 := by simp [addL]
    exact fits_addR r _ _ (fun y hy => by have := hq y (by simp [hy]); omega) (by omega) (fits_add h1.1 h1.2 hc h)
theorem fits_addSt {p : Nat} {G : List Gat} {c : Nat} {vs ws : List Nat} (hv : ∀ x ∈ vs, x < G.length) (hw : ∀ x ∈ ws, x < G.length) (hc : c < G.length) (h : Fits13 p sn G) : Fits13 p sn (addSt G c (vs.zip ws)).1 := by
  rw [addSt_R]
  refine fits_addR _ _ _ (fun q hq => ?_) hc h
  obtain ⟨h1, h2⟩ := List.of_mem_zip (show (q.1, q.2) ∈ vs.zip ws from hq)
  exact ⟨hv _ h1, hw _ h2⟩
theorem fits_turnR {p : Nat} (hp : 2 < p) : ∀ (l : List Nat) (G : List Gat), (∀ x ∈ l, x < G.length) → Fits13 p sn G → Fits13 p sn (turnR G l).1
  | [], _, _, h => h
  | a :: r, G, ha, h => fits_turnR hp r _ (fun y hy => by have := ha y (by simp [hy]); simp; omega) (fits_not hp (ha a (by simp)) h)
theorem fits_partR {p : Nat} (b : Nat) : ∀ (l : List Nat) (G : List Gat), (∀ x ∈ l, x < G.length) → b < G.length → Fits13 p sn G → Fits13 p sn (partR G b l).1
  | [], _, _, _, h => h
  | a :: r, G, ha, hb, h => fits_partR b r _ (fun y hy => by have := ha y (by simp [hy]); simp; omega) (by simp; omega) (fits_snoc h (bin0 (by decide) (ha a (by simp)) hb))
theorem con_len (G : List Gat) (k : Nat) : (G ++ conL k).length = G.length + 1 := by simp [conL]
theorem fits_plus {p : Nat} (hp : 2 < p) {G : List Gat} {vs ws : List Nat} (hv : ∀ x ∈ vs, x < G.length) (hw : ∀ x ∈ ws, x < G.length) (h : Fits13 p sn G) : Fits13 p sn (plusSt G vs ws).1 :=
  fits_addSt (fun x hx => by have := hv x hx; rw [con_len]; omega) (fun x hx => by have := hw x hx; rw [con_len]; omega) (by rw [con_len]; omega) (fits_con hp (by omega) h)
theorem fits_minus {p : Nat} (hp : 2 < p) {G : List Gat} {vs ws : List Nat} (hv : ∀ x ∈ vs, x < G.length) (hw : ∀ x ∈ ws, x < G.length) (h : Fits13 p sn G) : Fits13 p sn (minusSt G vs ws).1 := by
  obtain ⟨t1, _, t3⟩ := turnSt_all G ws
  refine fits_addSt (fun x hx => by have := hv x hx; rw [con_len]; omega) (fun x hx => by have := t3 x hx; rw [con_len]; omega) (by rw [con_len]; omega) (fits_con hp (by omega) ?_)
  rw [turnSt_R]; exact fits_turnR hp ws G hw h
theorem minus_len {G : List Gat} {vs ws : List Nat} {n : Nat} (hn : vs.length = n) (hm : ws.length = n) : (minusSt G vs ws).1.length = G.length + 1 + 11 * n ∧ (minusSt G vs ws).2.2 < (minusSt G vs ws).1.length := by
  obtain ⟨t1, t2, t3⟩ := turnSt_all G ws
  obtain ⟨a1, _, a3, _⟩ := addSt_all ((turnSt G ws).1 ++ conL 1) (turnSt G ws).1.length (vs.zip (turnSt G ws).2) (by rw [con_len]; omega)
  rw [List.length_zip, t2, hn, hm, Nat.min_self, con_len] at a1
  exact ⟨by show (addSt _ _ _).1.length = _; omega, a3⟩
theorem plus_len {G : List Gat} {vs ws : List Nat} {n : Nat} (hn : vs.length = n) (hm : ws.length = n) : (plusSt G vs ws).1.length = G.length + 1 + 9 * n := by
  obtain ⟨a1, _⟩ := addSt_all (G ++ conL 0) G.length (vs.zip ws) (by rw [con_len]; omega)
  rw [List.length_zip, hn, hm, Nat.min_self, con_len] at a1
  exact a1
theorem fits_less {p : Nat} (hp : 2 < p) {G : List Gat} {vs ws : List Nat} {n : Nat} (hn : vs.length = n) (hm : ws.length = n) (hv : ∀ x ∈ vs, x < G.length) (hw : ∀ x ∈ ws, x < G.length) (h : Fits13 p sn G) : Fits13 p sn (belowSt G vs ws).1 :=
  fits_not hp (minus_len hn hm).2 (fits_minus hp hv hw h)
theorem less_len {G : List Gat} {vs ws : List Nat} {n : Nat} (hn : vs.length = n) (hm : ws.length = n) : (belowSt G vs ws).1.length = G.length + 3 + 11 * n := by
  show ((minusSt G vs ws).1 ++ notL _ _).length = _
  rw [List.length_append, (minus_len hn hm).1]
  simp [notL]; omega
theorem fits_sameF {p : Nat} (hp : 2 < p) : ∀ (ps : List (Nat × Nat)) (G : List Gat) (c : Nat), (∀ q ∈ ps, q.1 < G.length ∧ q.2 < G.length) → c < G.length → Fits13 p sn G → Fits13 p sn (ps.foldl sameStep (G, c)).1
  | [], _, _, _, _, h => h
  | q :: r, G, c, hq, hc, h => by
    have h1 := hq q (by simp)
    have l1 : (G ++ xorL G.length q.1 q.2).length = G.length + 4 := by simp [xorL]
    have f1 := fits_xor h1.1 h1.2 h
    have f2 := fits_not hp (a := G.length + 3) (by omega) f1
    rw [l1] at f2
    have l2 : (G ++ xorL G.length q.1 q.2 ++ notL (G.length + 4) (G.length + 3)).length = G.length + 6 := by simp [xorL, notL]
    have f3 : Fits13 p sn (G ++ xorL G.length q.1 q.2 ++ notL (G.length + 4) (G.length + 3) ++ [((5, ((c : Nat) : Int), ((G.length + 5 : Nat) : Int), 0) : Gat)]) := fits_snoc f2 (bin0 (by decide) (by omega) (by omega))
    have l3 : (sameStep (G, c) q).1.length = G.length + 7 := by simp [sameStep, xorL, notL]
    exact fits_sameF hp r (sameStep (G, c) q).1 (sameStep (G, c) q).2 (fun y hy => by have := hq y (by simp [hy]); omega) (by rw [l3]; show G.length + 6 < _; omega) f3
theorem fits_same {p : Nat} (hp : 2 < p) {G : List Gat} {vs ws : List Nat} (hv : ∀ x ∈ vs, x < G.length) (hw : ∀ x ∈ ws, x < G.length) (h : Fits13 p sn G) : Fits13 p sn (sameSt G (vs.zip ws)).1 := by
  refine fits_sameF hp _ _ _ (fun q hq => ?_) (by rw [con_len]; omega) (fits_con hp (by omega) h)
  obtain ⟨h1, h2⟩ := List.of_mem_zip (show (q.1, q.2) ∈ vs.zip ws from hq)
  have := hv _ h1
  have := hw _ h2
  rw [con_len]
  omega
theorem same_len13 {G : List Gat} {vs ws : List Nat} {n : Nat} (hn : vs.length = n) (hm : ws.length = n) : (sameSt G (vs.zip ws)).1.length = G.length + 1 + 7 * n := by
  have h := (sameSt_len G (vs.zip ws) (vs.zip ws).length (Nat.le_refl _)).1
  rw [List.take_length, List.length_zip, hn, hm, Nat.min_self] at h
  exact h
theorem fits_times {p : Nat} (hp : 2 < p) {G : List Gat} {vs ws : List Nat} {n : Nat} (hn : vs.length = n) (hm : ws.length = n) (hv : ∀ x ∈ vs, x < G.length) (hw : ∀ x ∈ ws, x < G.length) (h : Fits13 p sn G) : ∀ k, k ≤ n → Fits13 p sn (timesSt G vs ws k).1 := by
  intro k
  induction k with
  | zero => intro _; exact h
  | succ k ih =>
    intro hk
    have h1 := ih (by omega)
    obtain ⟨_, l0, l1, l2⟩ := timesSt_len G vs ws k (by omega)
    have hb : ws.getD k 0 < G.length := by rw [getD_at (show k < ws.length by omega)]; exact hw _ (List.getElem_mem _)
    have hpt : Fits13 p sn (partSt (timesSt G vs ws k).1 (ws.getD k 0) (vs.take (vs.length - k))).1 := by
      rw [partSt_R]
      exact fits_partR _ _ _ (fun x hx => by have := hv x (List.mem_of_mem_take hx); omega) (by omega) h1
    obtain ⟨p1, _, p3⟩ := partSt_all (timesSt G vs ws k).1 (ws.getD k 0) (vs.take (vs.length - k))
    simp only [timesSt, timesStep]
    split
    · exact hpt
    · exact fits_addSt (fun x hx => by have := l2 x (List.mem_of_mem_drop hx); rw [con_len]; omega) (fun x hx => by have := p3 x hx; rw [con_len]; omega) (by rw [con_len]; omega) (fits_con hp (by omega) hpt)
end Go.Proofs.YtkcdlbclodjjhaaGreat

/- Plain law: how many products the words' acts lay. -/
namespace Go.Proofs.YtkcdlbclodjjhaaGreat

def mulN (G : List Gat) : Nat := (G.filter fun g => g.1 == 5).length
theorem mulN_app (G L : List Gat) : mulN (G ++ L) = mulN G + mulN L := by unfold mulN; rw [List.filter_append, List.length_append]
theorem mulN_not (n a : Nat) : mulN (notL n a) = 0 := rfl
theorem mulN_xor (n a b : Nat) : mulN (xorL n a b) = 1 := rfl
theorem mulN_add (n a b c : Nat) : mulN (addL n a b c) = 2 := rfl
theorem mulN_con (k : Nat) : mulN (conL k) = 0 := rfl
theorem mulN_addR : ∀ (ps : List (Nat × Nat)) (G : List Gat) (c : Nat), mulN (addR G c ps).1 = mulN G + 2 * ps.length
  | [], G, c => by simp [addR]
  | q :: r, G, c => by
    show mulN (addR (G ++ addL G.length q.1 q.2 c) (G.length + 8) r).1 = _
    rw [mulN_addR r, mulN_app, mulN_add, List.length_cons]; omega
theorem mulN_addSt (G : List Gat) (c : Nat) (ps : List (Nat × Nat)) : mulN (addSt G c ps).1 = mulN G + 2 * ps.length := by rw [addSt_R, mulN_addR]
theorem mulN_turnR : ∀ (l : List Nat) (G : List Gat), mulN (turnR G l).1 = mulN G
  | [], G => rfl
  | a :: r, G => by
    show mulN (turnR (G ++ notL G.length a) r).1 = _
    rw [mulN_turnR r, mulN_app, mulN_not]; omega
theorem mulN_turnSt (G : List Gat) (l : List Nat) : mulN (turnSt G l).1 = mulN G := by rw [turnSt_R, mulN_turnR]
theorem mulN_partR (b : Nat) : ∀ (l : List Nat) (G : List Gat), mulN (partR G b l).1 = mulN G + l.length
  | [], G => rfl
  | a :: r, G => by
    show mulN (partR (G ++ [((5, ((a : Nat) : Int), ((b : Nat) : Int), 0) : Gat)]) b r).1 = _
    rw [mulN_partR b r, mulN_app, List.length_cons]
    show mulN G + 1 + _ = _
    omega
theorem mulN_partSt (G : List Gat) (b : Nat) (l : List Nat) : mulN (partSt G b l).1 = mulN G + l.length := by rw [partSt_R, mulN_partR]
theorem mulN_sameF : ∀ (ps : List (Nat × Nat)) (G : List Gat) (c : Nat), mulN (ps.foldl sameStep (G, c)).1 = mulN G + 2 * ps.length
  | [], G, c => rfl
  | q :: r, G, c => by
    rw [List.foldl_cons, mulN_sameF r]
    unfold sameStep
    rw [mulN_app, mulN_app, mulN_app, mulN_xor, mulN_not, List.length_cons]
    show mulN G + 1 + 0 + 1 + _ = _
    omega
theorem mulN_plus {G : List Gat} {vs ws : List Nat} {n : Nat} (hn : vs.length = n) (hm : ws.length = n) : mulN (plusSt G vs ws).1 = mulN G + 2 * n := by
  unfold plusSt
  rw [mulN_addSt, mulN_app, mulN_con, List.length_zip]; omega
theorem turn_len (G : List Gat) (l : List Nat) : (turnSt G l).2.length = l.length := by
  rw [turnSt_R]
  induction l generalizing G with
  | nil => rfl
  | cons a r ih => simp [turnR, ih]
theorem mulN_minus {G : List Gat} {vs ws : List Nat} {n : Nat} (hn : vs.length = n) (hm : ws.length = n) : mulN (minusSt G vs ws).1 = mulN G + 2 * n := by
  unfold minusSt
  rw [mulN_addSt, mulN_app, mulN_con, mulN_turnSt, List.length_zip, turn_len]; omega
theorem mulN_below {G : List Gat} {vs ws : List Nat} {n : Nat} (hn : vs.length = n) (hm : ws.length = n) : mulN (belowSt G vs ws).1 = mulN G + 2 * n := by
  unfold belowSt
  rw [mulN_app, mulN_not, mulN_minus hn hm, Nat.add_zero]
theorem mulN_same {G : List Gat} {vs ws : List Nat} {n : Nat} (hn : vs.length = n) (hm : ws.length = n) : mulN (sameSt G (vs.zip ws)).1 = mulN G + 2 * n := by
  unfold sameSt
  rw [mulN_sameF, mulN_app, mulN_con, List.length_zip]; omega
/-- The products of a product of words. -/
def tmul (n : Nat) : Nat → Nat
  | 0 => 0
  | k + 1 => tmul n k + (if k = 0 then n else 3 * (n - k))
theorem tmul_le : ∀ n, n < 17 → tmul n n ≤ 2 * n * n := by decide
theorem mulN_times {G : List Gat} {vs ws : List Nat} {n : Nat} (hn : vs.length = n) : ∀ k, k ≤ n → mulN (timesSt G vs ws k).1 = mulN G + tmul n k := by
  intro k
  induction k with
  | zero => intro _; rfl
  | succ k ih =>
    intro hk
    have h1 := ih (by omega)
    obtain ⟨_, _, l1, _⟩ := timesSt_len G vs ws k (by omega)
    obtain ⟨_, p2, _⟩ := partSt_all (timesSt G vs ws k).1 (ws.getD k 0) (vs.take (vs.length - k))
    have hm : (vs.take (vs.length - k)).length = vs.length - k := by rw [List.length_take]; omega
    simp only [timesSt, timesStep, tmul]
    split
    · rw [mulN_partSt, h1, hm]
      rename_i h0
      subst h0
      simp only [tmul]; omega
    · rw [mulN_addSt, mulN_app, mulN_con, mulN_partSt, h1, hm, List.length_zip, List.length_drop, l1, p2, hm]
      rename_i h0
      rw [if_neg h0]
      omega
end Go.Proofs.YtkcdlbclodjjhaaGreat

/- Contract of the function that do defers, when there is a panic to recover. (Printed by wip/tools/gen_pi.py.) -/
namespace Go.Proofs.YtkcdlbclodjjhaaGreat
open Go.RowKit

theorem wpS_final {P : Program} {c : Code} {Q : Exit → Act → List Frame → World → Prop} {Qn : Exit → Act → World → Prop} {a : Act} {cs : List Frame} {w : World} (h : c.wp P Qn a w) (hQ : ∀ e a' w', Qn e a' w' → Q e a' cs w') : c.wpS P Q a cs w :=
  wpS_of_wp (Code.wp_mono (fun e a' w' h => hQ e a' w' h) h)
theorem wp_act {P : Program} {c : Code} {Q : Exit → Act → World → Prop} {a a' : Act} {w : World} (h : a = a') (hw : c.wp P Q a' w) : c.wp P Q a w := h ▸ hw
/-- The panic with an error. -/
def entry (k : Int) : PanicEntry := { v := .iface 26 (.int .i64 k), recovered := false }
set_option maxHeartbeats 2000000 in
set_option maxRecDepth 100000 in
theorem idleFI (B a0 a1 a2 a3 g m n cap : Nat) (k : Int) (hnm : n ≤ m) (hmc : m ≤ cap) (vp v1 v3 x2 x3 : Value) (w : World) (q0 : w.cell? ⟨a0, 0, none⟩ = some (.pointer (some ⟨B, 0, none⟩))) (q1 : w.cell? ⟨a1, 0, none⟩ = some (.int .i64 ((n : Nat) : Int)))
    (hb : w.heap[B]? = some (.cells #[vp, v1, .slice (some ⟨g, 0, none⟩) m cap, v3] 54 (0, 0))) (h2 : w.heap[a2]? = some (.cells #[x2] 3 (0, 0))) (h3 : w.heap[a3]? = some (.cells #[x3] 26 (0, 0))) (_n2 : a2 ≠ B) (_n3 : a3 ≠ B) (_n23 : a3 ≠ a2) :
    CallsD Tryz.prog 100 #[.pointer (some ⟨a0, 0, none⟩), .pointer (some ⟨a1, 0, none⟩), .pointer (some ⟨a2, 0, none⟩), .pointer (some ⟨a3, 0, none⟩)] (.panicking [entry k]) w fun e u' w' => e = .returned (.tuple #[]) ∧ settle u' = .returning ∧ w' = ((w.drew.setCell ⟨B, 2, none⟩ (.slice (some ⟨g, 0, none⟩) n cap)).setCell ⟨a2, 0, none⟩ (.int .i64 0)).setCell ⟨a3, 0, none⟩ (.int .i64 k) := by
  obtain ⟨b0, b1, b2, b3, b4, b5, b6⟩ := box4 hb
  obtain ⟨c2, f2⟩ := box1 h2
  obtain ⟨c3, f3⟩ := box1 h3
  have i1 : ¬ (n : Int) < 0 := by omega
  have i2 : ¬ (cap : Int) < (n : Int) := by omega
  have i3 : (0 : Int) ≤ (n : Int) := by omega
  have i4 : (n : Int) ≤ (cap : Int) := by omega
  have i5 : n ≤ cap := by omega
  refine callsD_of_wpS Tryz.func100 rfl fun c₀ cs hu => ?_
  refine wpS_seq_gen fun Q' hQ' => ?_
  apply wpS_region
  simp [wpOpsS, go_sem, recoverD, hu, Tryz.ntmps100, as_err, entry]
  refine hQ' _ _ _ ?_
  clear hQ' Q'
  refine wpS_seq_gen fun Q' hQ' => ?_
  apply wpS_region
  simp [wpOpsS, go_sem]
  refine hQ' _ _ _ ?_
  clear hQ' Q'
  refine wpS_cond (t := true) (by simp [Act.eval]) ?_
  simp only [if_true]
  refine wpS_final (Qn := fun e a' w' => e = .normal ∧ a'.defers = [] ∧ w' = ((w.drew.setCell ⟨B, 2, none⟩ (.slice (some ⟨g, 0, none⟩) n cap)).setCell ⟨a2, 0, none⟩ (.int .i64 0)).setCell ⟨a3, 0, none⟩ (.int .i64 k)) ?_ ?_
  rotate_left
  · rintro e a' w' ⟨rfl, hd, rfl⟩
    cases c₀
    simp_all [bodyPostS, results, Tryz.results100, settle]
  clear hu hb h2 h3
  refine wp_act (a' := { tmps := #[.pointer (some ⟨a0, 0, none⟩), .pointer (some ⟨a1, 0, none⟩), .pointer (some ⟨a2, 0, none⟩), .pointer (some ⟨a3, 0, none⟩), .int .i64 k, .bool true, undef, .tuple #[.int .i64 k, .bool true], .iface 26 (.int .i64 k), .tuple #[.int .i64 k, .bool true], .int .i64 k, .bool true, .bool true, undef, undef, undef, undef, undef, undef, undef, undef, undef, undef, undef, undef, undef], defers := [] }) (by kernel_rfl) ?_
  go_wp2
  go_still_tail 11, (by kernel_rfl)
  change wpList _ _ _ _ _ _
  go_wp2
set_option maxHeartbeats 2000000 in
set_option maxRecDepth 100000 in
theorem idleFW (B a0 a1 a2 a3 g m n cap : Nat) (k : Int) (hnm : n ≤ m) (hmc : m ≤ cap) (vp v1 v3 x2 x3 : Value) (w : World) (q0 : w.cell? ⟨a0, 0, none⟩ = some (.pointer (some ⟨B, 0, none⟩))) (q1 : w.cell? ⟨a1, 0, none⟩ = some (.int .i64 ((n : Nat) : Int)))
    (hb : w.heap[B]? = some (.cells #[vp, v1, .slice (some ⟨g, 0, none⟩) m cap, v3] 54 (0, 0))) (h2 : w.heap[a2]? = some (.cells #[x2] 38 (0, 0))) (h3 : w.heap[a3]? = some (.cells #[x3] 26 (0, 0))) (_n2 : a2 ≠ B) (_n3 : a3 ≠ B) (_n23 : a3 ≠ a2) :
    CallsD Tryz.prog 102 #[.pointer (some ⟨a0, 0, none⟩), .pointer (some ⟨a1, 0, none⟩), .pointer (some ⟨a2, 0, none⟩), .pointer (some ⟨a3, 0, none⟩)] (.panicking [entry k]) w fun e u' w' => e = .returned (.tuple #[]) ∧ settle u' = .returning ∧ w' = ((w.drew.setCell ⟨B, 2, none⟩ (.slice (some ⟨g, 0, none⟩) n cap)).setCell ⟨a2, 0, none⟩ (.slice none 0 0)).setCell ⟨a3, 0, none⟩ (.int .i64 k) := by
  obtain ⟨b0, b1, b2, b3, b4, b5, b6⟩ := box4 hb
  obtain ⟨c2, f2⟩ := box1 h2
  obtain ⟨c3, f3⟩ := box1 h3
  have i1 : ¬ (n : Int) < 0 := by omega
  have i2 : ¬ (cap : Int) < (n : Int) := by omega
  have i3 : (0 : Int) ≤ (n : Int) := by omega
  have i4 : (n : Int) ≤ (cap : Int) := by omega
  have i5 : n ≤ cap := by omega
  refine callsD_of_wpS Tryz.func102 rfl fun c₀ cs hu => ?_
  refine wpS_seq_gen fun Q' hQ' => ?_
  apply wpS_region
  simp [wpOpsS, go_sem, recoverD, hu, Tryz.ntmps102, as_err, entry]
  refine hQ' _ _ _ ?_
  clear hQ' Q'
  refine wpS_seq_gen fun Q' hQ' => ?_
  apply wpS_region
  simp [wpOpsS, go_sem]
  refine hQ' _ _ _ ?_
  clear hQ' Q'
  refine wpS_cond (t := true) (by simp [Act.eval]) ?_
  simp only [if_true]
  refine wpS_final (Qn := fun e a' w' => e = .normal ∧ a'.defers = [] ∧ w' = ((w.drew.setCell ⟨B, 2, none⟩ (.slice (some ⟨g, 0, none⟩) n cap)).setCell ⟨a2, 0, none⟩ (.slice none 0 0)).setCell ⟨a3, 0, none⟩ (.int .i64 k)) ?_ ?_
  rotate_left
  · rintro e a' w' ⟨rfl, hd, rfl⟩
    cases c₀
    simp_all [bodyPostS, results, Tryz.results102, settle]
  clear hu hb h2 h3
  refine wp_act (a' := { tmps := #[.pointer (some ⟨a0, 0, none⟩), .pointer (some ⟨a1, 0, none⟩), .pointer (some ⟨a2, 0, none⟩), .pointer (some ⟨a3, 0, none⟩), .int .i64 k, .bool true, undef, .tuple #[.int .i64 k, .bool true], .iface 26 (.int .i64 k), .tuple #[.int .i64 k, .bool true], .int .i64 k, .bool true, .bool true, undef, undef, undef, undef, undef, undef, undef, undef, undef, undef, undef, undef, undef], defers := [] }) (by kernel_rfl) ?_
  go_wp2
  go_still_tail 11, (by kernel_rfl)
  change wpList _ _ _ _ _ _
  go_wp2
end Go.Proofs.YtkcdlbclodjjhaaGreat

/- A full board: contracts of put, Fixed, Sum, Less, Product, with or without room. (Printed by wip/tools/gen_pa.py.) -/
namespace Go.Proofs.YtkcdlbclodjjhaaGreat
open Go.RowKit

/-- The panic of a board without room. -/
def full3 : Ending := .panicked [{ v := .iface 26 (.int .i64 3), recovered := false }]
/-- A call that wanted K gates at most and found no room: it panics, and the board's gates begin with those it had. -/
def Full (K B p : Nat) (sl : List Slo) (G : List Gat) (xs : List Exi) (v1 v2 v3 : Value) (w : World) (e : Ending) (W' : World) : Prop :=
  65536 < G.length + K ∧ e = full3 ∧ ∃ (G' : List Gat) (v : Value), G <+: G' ∧ IsB B p sl G' xs v1 v v3 W' ∧ Fr B v2 v w W'
theorem Full.chain {K B p : Nat} {sl : List Slo} {G : List Gat} {xs : List Exi} {v1 v2 v3 : Value} {k : Nat} {G1 : List Gat} {v : Value} {w W : World} {e : Ending} {W' : World} (hF : Fr B v2 v w W) (h : Full k B p sl G1 xs v1 v v3 W e W') (hG : G <+: G1) (hk : G1.length + k ≤ G.length + K) : Full K B p sl G xs v1 v2 v3 w e W' := by
  obtain ⟨h0, h1, G2, v', h2, h3, h4⟩ := h
  exact ⟨by omega, h1, G2, v', hG.trans h2, h3, hF.trans h4⟩
set_option maxRecDepth 100000 in
theorem wput_full (B p : Nat) (hp : 0 < p) (sl : List Slo) (G : List Gat) (xs : List Exi) (v1 v2 v3 : Value) (g : Gat) (hg : gErr p sl.length G.length g = 0) (hf : 65536 ≤ G.length) (w : World) (h : IsB B p sl G xs v1 v2 v3 w) :
    Calls Tryz.prog 124 #[.agg #[.pointer (some ⟨B, 0, none⟩)], .agg #[.int .i64 g.1, .int .i64 g.2.1, .int .i64 g.2.2.1, .int .u64 g.2.2.2]] w (Full 1 B p sl G xs v1 v2 v3 w) := by
  have HP : Hid (∀ W, Below w.heap.size w W → Calls Tryz.prog 27 #[.pointer (some ⟨B, 0, none⟩), .agg #[.int .i64 g.1, .int .i64 g.2.1, .int .i64 g.2.2.1, .int .u64 g.2.2.2]] W fun e W' => e = .returned (.tuple #[.int .i64 0, .int .i64 3]) ∧ Below w.heap.size w W') :=
    Lib.hid fun W hb => (put_full B p hp sl G xs v1 v2 v3 g W (h.below hb) hg hf).mono fun _ _ he => by
      rcases he with ⟨h1, _⟩ | ⟨_, _, h1, h2⟩ | ⟨_, h1, _⟩
      · exact absurd hg h1
      · exact ⟨h1, hb.trans (h2.mono hb.size)⟩
      · omega
  have HI := Lib.hid h
  obtain ⟨k, a, b, K⟩ := g
  simp only at *
  clear h hg
  go_enter Tryz.func124, Tryz.ntmps124
  go_wp2_with (go_at_call 27; refine (HP.out _ (by repeat (first | exact Below.refl _ _ | refine Below.drew ?_ | refine Below.alloc ?_ (by simp) _))).mono ?_; rintro e w1 ⟨rfl, he⟩; have HE := Lib.hid he; clear he)
  exact ⟨rfl, Nat.lt_succ_of_le hf, rfl, G, v2, List.prefix_rfl, HI.out.below HE.out, Fr.of_below HE.out⟩
/-- What is answered, or there is no room. -/
def OrFull (K B p : Nat) (sl : List Slo) (G G' : List Gat) (xs : List Exi) (v1 v2 v3 : Value) (w : World) (r : Value) (e : Ending) (W' : World) : Prop :=
  OkPost B p sl G' xs v1 v2 v3 w r e W' ∨ Full K B p sl G xs v1 v2 v3 w e W'
theorem OrFull.chain {K B p : Nat} {sl : List Slo} {G : List Gat} {xs : List Exi} {v1 v2 v3 : Value} {k : Nat} {G1 G' : List Gat} {v : Value} {w W : World} {r : Value} {e : Ending} {W' : World} (hF : Fr B v2 v w W) (h : OrFull k B p sl G1 G' xs v1 v v3 W r e W') (hG : G <+: G1) (hk : G1.length + k ≤ G.length + K) :
    (e = .returned r ∧ ∃ v', IsB B p sl G' xs v1 v' v3 W' ∧ Fr B v2 v' w W') ∨ Full K B p sl G xs v1 v2 v3 w e W' := by
  rcases h with ⟨h1, v', h2, h3⟩ | h
  · exact .inl ⟨h1, v', h2, hF.trans h3⟩
  · exact .inr (h.chain hF hG hk)
theorem wput_any (B p : Nat) (hp : 0 < p) (sl : List Slo) (G : List Gat) (xs : List Exi) (v1 v2 v3 : Value) (g : Gat) (hK : 0 ≤ g.2.2.2) (hg : gErr p sl.length G.length g = 0) (w : World) (h : IsB B p sl G xs v1 v2 v3 w) :
    Hid (∀ W, Below w.heap.size w W → Calls Tryz.prog 124 #[.agg #[.pointer (some ⟨B, 0, none⟩)], .agg #[.int .i64 g.1, .int .i64 g.2.1, .int .i64 g.2.2.1, .int .u64 g.2.2.2]] W (OrFull 1 B p sl G (G ++ [g]) xs v1 v2 v3 w (.int .i64 (G.length : Nat)))) :=
  Lib.hid fun W hb => by
    by_cases hf : G.length < 65536
    · exact (wput_ok B p hp sl G xs v1 v2 v3 g hK hg hf W (h.below hb)).mono fun _ _ he => .inl ⟨he.1, he.from hb⟩
    · exact (wput_full B p hp sl G xs v1 v2 v3 g hg (by omega) W (h.below hb)).mono fun _ _ he => .inr (he.chain (Fr.of_below hb) List.prefix_rfl (Nat.le_refl _))
set_option maxRecDepth 100000 in
theorem sum_any (B p : Nat) (hp : 1 < p) (sl : List Slo) (G : List Gat) (xs : List Exi) (v1 v2 v3 : Value) (x y : Nat) (hx : x < G.length) (hy : y < G.length) (w : World) (h : IsB B p sl G xs v1 v2 v3 w) :
    Calls Tryz.prog 123 #[.agg #[.pointer (some ⟨B, 0, none⟩)], .int .i64 x, .int .i64 y] w (OrFull 1 B p sl G (G ++ [(3, (x : Int), (y : Int), 0)]) xs v1 v2 v3 w (.int .i64 (G.length : Nat))) := by
  have HP := wput_any B p (by omega) sl G xs v1 v2 v3 (3, (x : Int), (y : Int), 0) (Int.le_refl 0) (gErr_bin (by decide) hx hy) w h
  simp only at HP
  clear h hx hy
  go_enter Tryz.func123, Tryz.ntmps123
  go_wp2_with (go_at_call 124; refine (HP.out _ (by repeat (first | exact Below.refl _ _ | refine Below.drew ?_ | refine Below.alloc ?_ (by simp) _))).mono ?_; intro e w1 he; rcases he with ⟨rfl, he⟩ | ⟨hk, rfl, he⟩; rotate_left; exact ⟨rfl, .inr ⟨hk, rfl, he⟩⟩; have HE := Lib.hid he; clear he)
  go_ret
  exact .inl ⟨rfl, HE.out⟩
set_option maxRecDepth 100000 in
theorem less_any (B p : Nat) (hp : 1 < p) (sl : List Slo) (G : List Gat) (xs : List Exi) (v1 v2 v3 : Value) (x y : Nat) (hx : x < G.length) (hy : y < G.length) (w : World) (h : IsB B p sl G xs v1 v2 v3 w) :
    Calls Tryz.prog 121 #[.agg #[.pointer (some ⟨B, 0, none⟩)], .int .i64 x, .int .i64 y] w (OrFull 1 B p sl G (G ++ [(4, (x : Int), (y : Int), 0)]) xs v1 v2 v3 w (.int .i64 (G.length : Nat))) := by
  have HP := wput_any B p (by omega) sl G xs v1 v2 v3 (4, (x : Int), (y : Int), 0) (Int.le_refl 0) (gErr_bin (by decide) hx hy) w h
  simp only at HP
  clear h hx hy
  go_enter Tryz.func121, Tryz.ntmps121
  go_wp2_with (go_at_call 124; refine (HP.out _ (by repeat (first | exact Below.refl _ _ | refine Below.drew ?_ | refine Below.alloc ?_ (by simp) _))).mono ?_; intro e w1 he; rcases he with ⟨rfl, he⟩ | ⟨hk, rfl, he⟩; rotate_left; exact ⟨rfl, .inr ⟨hk, rfl, he⟩⟩; have HE := Lib.hid he; clear he)
  go_ret
  exact .inl ⟨rfl, HE.out⟩
set_option maxRecDepth 100000 in
theorem product_any (B p : Nat) (hp : 1 < p) (sl : List Slo) (G : List Gat) (xs : List Exi) (v1 v2 v3 : Value) (x y : Nat) (hx : x < G.length) (hy : y < G.length) (w : World) (h : IsB B p sl G xs v1 v2 v3 w) :
    Calls Tryz.prog 122 #[.agg #[.pointer (some ⟨B, 0, none⟩)], .int .i64 x, .int .i64 y] w (OrFull 1 B p sl G (G ++ [(5, (x : Int), (y : Int), 0)]) xs v1 v2 v3 w (.int .i64 (G.length : Nat))) := by
  have HP := wput_any B p (by omega) sl G xs v1 v2 v3 (5, (x : Int), (y : Int), 0) (Int.le_refl 0) (gErr_bin (by decide) hx hy) w h
  simp only at HP
  clear h hx hy
  go_enter Tryz.func122, Tryz.ntmps122
  go_wp2_with (go_at_call 124; refine (HP.out _ (by repeat (first | exact Below.refl _ _ | refine Below.drew ?_ | refine Below.alloc ?_ (by simp) _))).mono ?_; intro e w1 he; rcases he with ⟨rfl, he⟩ | ⟨hk, rfl, he⟩; rotate_left; exact ⟨rfl, .inr ⟨hk, rfl, he⟩⟩; have HE := Lib.hid he; clear he)
  go_ret
  exact .inl ⟨rfl, HE.out⟩
set_option maxRecDepth 100000 in
theorem fixed_any (B p : Nat) (hp : 1 < p) (sl : List Slo) (G : List Gat) (xs : List Exi) (v1 v2 v3 : Value) (k : Nat) (hk : k < p) (w : World) (h : IsB B p sl G xs v1 v2 v3 w) :
    Calls Tryz.prog 120 #[.agg #[.pointer (some ⟨B, 0, none⟩)], .int .u64 k] w (OrFull 1 B p sl G (G ++ [(2, 0, 0, (k : Int))]) xs v1 v2 v3 w (.int .i64 (G.length : Nat))) := by
  have HP := wput_any B p (by omega) sl G xs v1 v2 v3 (2, 0, 0, (k : Int)) (by simp) (gErr_con hk) w h
  simp only at HP
  have q0 := (box4 h.hb).1
  have hlt := h.lt
  have nB : ¬ B = w.heap.size := by omega
  have hm : (k : Int).tmod (p : Int) = (k : Int) := by rw [Int.tmod_eq_emod_of_nonneg (by omega)]; exact Int.emod_eq_of_lt (by omega) (by omega)
  have hz : ¬ p = 0 := by omega
  clear h hk
  go_enter Tryz.func120, Tryz.ntmps120
  go_wp2
  have c0 : (w.alloc (.cells #[.pointer (some ⟨B, 0, none⟩)] 126)).cell? ⟨w.heap.size, 0, none⟩ = some (.pointer (some ⟨B, 0, none⟩)) := cell_in (heap_alloc_new w _)
  have q1 := cell_al (o := .cells #[.pointer (some ⟨B, 0, none⟩)] 126) q0
  have hb1 := Lib.hid ((Below.refl w.heap.size w).alloc (Nat.le_refl _) (.cells #[.pointer (some ⟨B, 0, none⟩)] 126))
  clear q0
  generalize (w.alloc (.cells #[.pointer (some ⟨B, 0, none⟩)] 126)) = w1 at *
  go_still_tail 9, (by kernel_rfl)
  change wpList _ _ _ _ _ _
  go_wp2_with (go_at_call 124; refine (HP.out _ hb1.out.drew).mono ?_; intro e w2 he; rcases he with ⟨rfl, he⟩ | ⟨hk, rfl, he⟩; rotate_left; exact ⟨rfl, .inr ⟨hk, rfl, he⟩⟩; have HE := Lib.hid he; clear he)
  go_ret
  exact .inl ⟨rfl, HE.out⟩
end Go.Proofs.YtkcdlbclodjjhaaGreat

/- Contracts of the ring's functions of bits over a board, with or without room. (Printed by wip/tools/gen_pb.py.) -/
namespace Go.Proofs.YtkcdlbclodjjhaaGreat
open Go.RowKit

set_option maxHeartbeats 2000000 in
set_option maxRecDepth 100000 in
theorem not_any (B p : Nat) (hp : 1 < p) (sl : List Slo) (G : List Gat) (xs : List Exi) (v1 v2 v3 : Value) (a : Nat) (ha : a < G.length) (w : World) (h : IsB B p sl G xs v1 v2 v3 w) :
    Calls Tryz.prog 65 #[.iface 126 (.agg #[.pointer (some ⟨B, 0, none⟩)]), .int .i64 ((a : Nat) : Int)] w (OrFull 2 B p sl G (G ++ notL G.length a) xs v1 v2 v3 w (.int .i64 ((G.length + 1 : Nat) : Int))) := by
  have mFixed := fun W => mFixed B W
  have mLess := fun W => mLess B W
  have nLess := fun W => nLess B W
  simp only [Nat.reduceAdd] at mFixed mLess nLess
  have h1 : Hid (∀ W0 W v, IsB B p sl (G) xs v1 v v3 W0 → Fr B v2 v w W0 → Below W0.heap.size W0 W → Calls Tryz.prog 120 #[.agg #[.pointer (some ⟨B, 0, none⟩)], .int .u64 ((1 : Nat) : Int)] W (fun e W' => (e = .returned (.int .i64 ((G.length : Nat) : Int)) ∧ ∃ v', IsB B p sl (G ++ [((2, 0, 0, ((1 : Nat) : Int)) : Gat)]) xs v1 v' v3 W' ∧ Fr B v2 v' w W') ∨ Full 2 B p sl G xs v1 v2 v3 w e W')) :=
    Lib.hid fun W0 W v hI hF hB => (fixed_any B p (by omega) sl _ xs v1 v v3 1 (by omega) W (hI.below hB)).mono fun _ _ he => by
      rcases he.chain (K := 2) (hF.below hB) List.prefix_rfl (by first | omega | (simp <;> omega)) with h | h
      · exact .inl (by simpa [Nat.add_assoc] using h)
      · exact .inr h
  have h2 : Hid (∀ W0 W v, IsB B p sl (G ++ [((2, 0, 0, ((1 : Nat) : Int)) : Gat)]) xs v1 v v3 W0 → Fr B v2 v w W0 → Below W0.heap.size W0 W → Calls Tryz.prog 121 #[.agg #[.pointer (some ⟨B, 0, none⟩)], .int .i64 ((G.length : Nat) : Int), .int .i64 ((a : Nat) : Int)] W (fun e W' => (e = .returned (.int .i64 ((G.length + 1 : Nat) : Int)) ∧ ∃ v', IsB B p sl (G ++ [((2, 0, 0, ((1 : Nat) : Int)) : Gat), ((4, ((G.length : Nat) : Int), ((a : Nat) : Int), 0) : Gat)]) xs v1 v' v3 W' ∧ Fr B v2 v' w W') ∨ Full 2 B p sl G xs v1 v2 v3 w e W')) :=
    Lib.hid fun W0 W v hI hF hB => (less_any B p (by omega) sl _ xs v1 v v3 (G.length) (a) (by first | omega | (simp <;> omega)) (by first | omega | (simp <;> omega)) W (hI.below hB)).mono fun _ _ he => by
      rcases he.chain (K := 2) (hF.below hB) (List.prefix_append G _) (by first | omega | (simp <;> omega)) with h | h
      · exact .inl (by simpa [Nat.add_assoc] using h)
      · exact .inr h
  have HI0 := Lib.hid h
  have HF0 := Lib.hid (Fr.refl B v2 w)
  clear h ha hp
  go_enter Tryz.func65, Tryz.ntmps65
  (try go_wp2)
  go_region_held2 (fun _ => True) (trivial) (first | (go_at_call 121; refine (h2.out _ _ _ HI1.out HF1.out (by repeat (first | exact Below.refl _ _ | refine Below.drew ?_ | refine Below.alloc ?_ (by simp) _))).mono ?_; intro e w2 he; rcases he with ⟨rfl, x2, hI, hF⟩ | ⟨hk, rfl, he⟩; rotate_left; exact ⟨rfl, .inr ⟨hk, rfl, he⟩⟩; have HI2 := Lib.hid hI; have HF2 := Lib.hid hF; clear hI hF) | (go_at_call 120; refine (h1.out _ _ _ HI0.out HF0.out (by repeat (first | exact Below.refl _ _ | refine Below.drew ?_ | refine Below.alloc ?_ (by simp) _))).mono ?_; intro e w1 he; rcases he with ⟨rfl, x1, hI, hF⟩ | ⟨hk, rfl, he⟩; rotate_left; exact ⟨rfl, .inr ⟨hk, rfl, he⟩⟩; have HI1 := Lib.hid hI; have HF1 := Lib.hid hF; clear hI hF))
  all_goals (try go_wp2)
  all_goals go_ret
  all_goals exact .inl ⟨rfl, x2, HI2.out, HF2.out⟩
def andL (_n a b : Nat) : List Gat := [((5, ((a : Nat) : Int), ((b : Nat) : Int), 0) : Gat)]
set_option maxHeartbeats 2000000 in
set_option maxRecDepth 100000 in
theorem and_any (B p : Nat) (hp : 1 < p) (sl : List Slo) (G : List Gat) (xs : List Exi) (v1 v2 v3 : Value) (a : Nat) (b : Nat) (ha : a < G.length) (hb : b < G.length) (w : World) (h : IsB B p sl G xs v1 v2 v3 w) :
    Calls Tryz.prog 67 #[.iface 126 (.agg #[.pointer (some ⟨B, 0, none⟩)]), .int .i64 ((a : Nat) : Int), .int .i64 ((b : Nat) : Int)] w (OrFull 1 B p sl G (G ++ andL G.length a b) xs v1 v2 v3 w (.int .i64 ((G.length : Nat) : Int))) := by
  have mProduct := fun W => mProduct B W
  simp only [Nat.reduceAdd] at mProduct
  have h1 : Hid (∀ W0 W v, IsB B p sl (G) xs v1 v v3 W0 → Fr B v2 v w W0 → Below W0.heap.size W0 W → Calls Tryz.prog 122 #[.agg #[.pointer (some ⟨B, 0, none⟩)], .int .i64 ((a : Nat) : Int), .int .i64 ((b : Nat) : Int)] W (fun e W' => (e = .returned (.int .i64 ((G.length : Nat) : Int)) ∧ ∃ v', IsB B p sl (G ++ [((5, ((a : Nat) : Int), ((b : Nat) : Int), 0) : Gat)]) xs v1 v' v3 W' ∧ Fr B v2 v' w W') ∨ Full 1 B p sl G xs v1 v2 v3 w e W')) :=
    Lib.hid fun W0 W v hI hF hB => (product_any B p (by omega) sl _ xs v1 v v3 (a) (b) (by first | omega | (simp <;> omega)) (by first | omega | (simp <;> omega)) W (hI.below hB)).mono fun _ _ he => by
      rcases he.chain (K := 1) (hF.below hB) List.prefix_rfl (by first | omega | (simp <;> omega)) with h | h
      · exact .inl (by simpa [Nat.add_assoc] using h)
      · exact .inr h
  have HI0 := Lib.hid h
  have HF0 := Lib.hid (Fr.refl B v2 w)
  clear h ha hb hp
  go_enter Tryz.func67, Tryz.ntmps67
  go_wp2_with (first | (go_at_call 122; refine (h1.out _ _ _ HI0.out HF0.out (by repeat (first | exact Below.refl _ _ | refine Below.drew ?_ | refine Below.alloc ?_ (by simp) _))).mono ?_; intro e w1 he; rcases he with ⟨rfl, x1, hI, hF⟩ | ⟨hk, rfl, he⟩; rotate_left; exact ⟨rfl, .inr ⟨hk, rfl, he⟩⟩; have HI1 := Lib.hid hI; have HF1 := Lib.hid hF; clear hI hF))
  all_goals (try go_wp2)
  all_goals go_ret
  all_goals exact .inl ⟨rfl, x1, HI1.out, HF1.out⟩
def orL (n a b : Nat) : List Gat := [((3, ((a : Nat) : Int), ((b : Nat) : Int), 0) : Gat), ((5, ((a : Nat) : Int), ((b : Nat) : Int), 0) : Gat), ((4, ((n : Nat) : Int), ((n + 1 : Nat) : Int), 0) : Gat)]
set_option maxHeartbeats 2000000 in
set_option maxRecDepth 100000 in
theorem or_any (B p : Nat) (hp : 1 < p) (sl : List Slo) (G : List Gat) (xs : List Exi) (v1 v2 v3 : Value) (a : Nat) (b : Nat) (ha : a < G.length) (hb : b < G.length) (w : World) (h : IsB B p sl G xs v1 v2 v3 w) :
    Calls Tryz.prog 69 #[.iface 126 (.agg #[.pointer (some ⟨B, 0, none⟩)]), .int .i64 ((a : Nat) : Int), .int .i64 ((b : Nat) : Int)] w (OrFull 3 B p sl G (G ++ orL G.length a b) xs v1 v2 v3 w (.int .i64 ((G.length + 2 : Nat) : Int))) := by
  have mSum := fun W => mSum B W
  have mProduct := fun W => mProduct B W
  have mLess := fun W => mLess B W
  have nLess := fun W => nLess B W
  simp only [Nat.reduceAdd] at mSum mProduct mLess nLess
  have h1 : Hid (∀ W0 W v, IsB B p sl (G) xs v1 v v3 W0 → Fr B v2 v w W0 → Below W0.heap.size W0 W → Calls Tryz.prog 123 #[.agg #[.pointer (some ⟨B, 0, none⟩)], .int .i64 ((a : Nat) : Int), .int .i64 ((b : Nat) : Int)] W (fun e W' => (e = .returned (.int .i64 ((G.length : Nat) : Int)) ∧ ∃ v', IsB B p sl (G ++ [((3, ((a : Nat) : Int), ((b : Nat) : Int), 0) : Gat)]) xs v1 v' v3 W' ∧ Fr B v2 v' w W') ∨ Full 3 B p sl G xs v1 v2 v3 w e W')) :=
    Lib.hid fun W0 W v hI hF hB => (sum_any B p (by omega) sl _ xs v1 v v3 (a) (b) (by first | omega | (simp <;> omega)) (by first | omega | (simp <;> omega)) W (hI.below hB)).mono fun _ _ he => by
      rcases he.chain (K := 3) (hF.below hB) List.prefix_rfl (by first | omega | (simp <;> omega)) with h | h
      · exact .inl (by simpa [Nat.add_assoc] using h)
      · exact .inr h
  have h2 : Hid (∀ W0 W v, IsB B p sl (G ++ [((3, ((a : Nat) : Int), ((b : Nat) : Int), 0) : Gat)]) xs v1 v v3 W0 → Fr B v2 v w W0 → Below W0.heap.size W0 W → Calls Tryz.prog 122 #[.agg #[.pointer (some ⟨B, 0, none⟩)], .int .i64 ((a : Nat) : Int), .int .i64 ((b : Nat) : Int)] W (fun e W' => (e = .returned (.int .i64 ((G.length + 1 : Nat) : Int)) ∧ ∃ v', IsB B p sl (G ++ [((3, ((a : Nat) : Int), ((b : Nat) : Int), 0) : Gat), ((5, ((a : Nat) : Int), ((b : Nat) : Int), 0) : Gat)]) xs v1 v' v3 W' ∧ Fr B v2 v' w W') ∨ Full 3 B p sl G xs v1 v2 v3 w e W')) :=
    Lib.hid fun W0 W v hI hF hB => (product_any B p (by omega) sl _ xs v1 v v3 (a) (b) (by first | omega | (simp <;> omega)) (by first | omega | (simp <;> omega)) W (hI.below hB)).mono fun _ _ he => by
      rcases he.chain (K := 3) (hF.below hB) (List.prefix_append G _) (by first | omega | (simp <;> omega)) with h | h
      · exact .inl (by simpa [Nat.add_assoc] using h)
      · exact .inr h
  have h3 : Hid (∀ W0 W v, IsB B p sl (G ++ [((3, ((a : Nat) : Int), ((b : Nat) : Int), 0) : Gat), ((5, ((a : Nat) : Int), ((b : Nat) : Int), 0) : Gat)]) xs v1 v v3 W0 → Fr B v2 v w W0 → Below W0.heap.size W0 W → Calls Tryz.prog 121 #[.agg #[.pointer (some ⟨B, 0, none⟩)], .int .i64 ((G.length : Nat) : Int), .int .i64 ((G.length + 1 : Nat) : Int)] W (fun e W' => (e = .returned (.int .i64 ((G.length + 2 : Nat) : Int)) ∧ ∃ v', IsB B p sl (G ++ [((3, ((a : Nat) : Int), ((b : Nat) : Int), 0) : Gat), ((5, ((a : Nat) : Int), ((b : Nat) : Int), 0) : Gat), ((4, ((G.length : Nat) : Int), ((G.length + 1 : Nat) : Int), 0) : Gat)]) xs v1 v' v3 W' ∧ Fr B v2 v' w W') ∨ Full 3 B p sl G xs v1 v2 v3 w e W')) :=
    Lib.hid fun W0 W v hI hF hB => (less_any B p (by omega) sl _ xs v1 v v3 (G.length) (G.length + 1) (by first | omega | (simp <;> omega)) (by first | omega | (simp <;> omega)) W (hI.below hB)).mono fun _ _ he => by
      rcases he.chain (K := 3) (hF.below hB) (List.prefix_append G _) (by first | omega | (simp <;> omega)) with h | h
      · exact .inl (by simpa [Nat.add_assoc] using h)
      · exact .inr h
  have HI0 := Lib.hid h
  have HF0 := Lib.hid (Fr.refl B v2 w)
  clear h ha hb hp
  go_enter Tryz.func69, Tryz.ntmps69
  (try go_wp2)
  go_region_held2 (fun _ => True) (trivial) (first | (go_at_call 121; refine (h3.out _ _ _ HI2.out HF2.out (by repeat (first | exact Below.refl _ _ | refine Below.drew ?_ | refine Below.alloc ?_ (by simp) _))).mono ?_; intro e w3 he; rcases he with ⟨rfl, x3, hI, hF⟩ | ⟨hk, rfl, he⟩; rotate_left; exact ⟨rfl, .inr ⟨hk, rfl, he⟩⟩; have HI3 := Lib.hid hI; have HF3 := Lib.hid hF; clear hI hF) | (go_at_call 122; refine (h2.out _ _ _ HI1.out HF1.out (by repeat (first | exact Below.refl _ _ | refine Below.drew ?_ | refine Below.alloc ?_ (by simp) _))).mono ?_; intro e w2 he; rcases he with ⟨rfl, x2, hI, hF⟩ | ⟨hk, rfl, he⟩; rotate_left; exact ⟨rfl, .inr ⟨hk, rfl, he⟩⟩; have HI2 := Lib.hid hI; have HF2 := Lib.hid hF; clear hI hF) | (go_at_call 123; refine (h1.out _ _ _ HI0.out HF0.out (by repeat (first | exact Below.refl _ _ | refine Below.drew ?_ | refine Below.alloc ?_ (by simp) _))).mono ?_; intro e w1 he; rcases he with ⟨rfl, x1, hI, hF⟩ | ⟨hk, rfl, he⟩; rotate_left; exact ⟨rfl, .inr ⟨hk, rfl, he⟩⟩; have HI1 := Lib.hid hI; have HF1 := Lib.hid hF; clear hI hF))
  all_goals (try go_wp2)
  all_goals go_ret
  all_goals exact .inl ⟨rfl, x3, HI3.out, HF3.out⟩
set_option maxHeartbeats 2000000 in
set_option maxRecDepth 100000 in
theorem xor_any (B p : Nat) (hp : 1 < p) (sl : List Slo) (G : List Gat) (xs : List Exi) (v1 v2 v3 : Value) (a : Nat) (b : Nat) (ha : a < G.length) (hb : b < G.length) (w : World) (h : IsB B p sl G xs v1 v2 v3 w) :
    Calls Tryz.prog 71 #[.iface 126 (.agg #[.pointer (some ⟨B, 0, none⟩)]), .int .i64 ((a : Nat) : Int), .int .i64 ((b : Nat) : Int)] w (OrFull 4 B p sl G (G ++ xorL G.length a b) xs v1 v2 v3 w (.int .i64 ((G.length + 3 : Nat) : Int))) := by
  have mProduct := fun W => mProduct B W
  have mSum := fun W => mSum B W
  have mLess := fun W => mLess B W
  have nLess := fun W => nLess B W
  simp only [Nat.reduceAdd] at mProduct mSum mLess nLess
  have h1 : Hid (∀ W0 W v, IsB B p sl (G) xs v1 v v3 W0 → Fr B v2 v w W0 → Below W0.heap.size W0 W → Calls Tryz.prog 122 #[.agg #[.pointer (some ⟨B, 0, none⟩)], .int .i64 ((a : Nat) : Int), .int .i64 ((b : Nat) : Int)] W (fun e W' => (e = .returned (.int .i64 ((G.length : Nat) : Int)) ∧ ∃ v', IsB B p sl (G ++ [((5, ((a : Nat) : Int), ((b : Nat) : Int), 0) : Gat)]) xs v1 v' v3 W' ∧ Fr B v2 v' w W') ∨ Full 4 B p sl G xs v1 v2 v3 w e W')) :=
    Lib.hid fun W0 W v hI hF hB => (product_any B p (by omega) sl _ xs v1 v v3 (a) (b) (by first | omega | (simp <;> omega)) (by first | omega | (simp <;> omega)) W (hI.below hB)).mono fun _ _ he => by
      rcases he.chain (K := 4) (hF.below hB) List.prefix_rfl (by first | omega | (simp <;> omega)) with h | h
      · exact .inl (by simpa [Nat.add_assoc] using h)
      · exact .inr h
  have h2 : Hid (∀ W0 W v, IsB B p sl (G ++ [((5, ((a : Nat) : Int), ((b : Nat) : Int), 0) : Gat)]) xs v1 v v3 W0 → Fr B v2 v w W0 → Below W0.heap.size W0 W → Calls Tryz.prog 123 #[.agg #[.pointer (some ⟨B, 0, none⟩)], .int .i64 ((a : Nat) : Int), .int .i64 ((b : Nat) : Int)] W (fun e W' => (e = .returned (.int .i64 ((G.length + 1 : Nat) : Int)) ∧ ∃ v', IsB B p sl (G ++ [((5, ((a : Nat) : Int), ((b : Nat) : Int), 0) : Gat), ((3, ((a : Nat) : Int), ((b : Nat) : Int), 0) : Gat)]) xs v1 v' v3 W' ∧ Fr B v2 v' w W') ∨ Full 4 B p sl G xs v1 v2 v3 w e W')) :=
    Lib.hid fun W0 W v hI hF hB => (sum_any B p (by omega) sl _ xs v1 v v3 (a) (b) (by first | omega | (simp <;> omega)) (by first | omega | (simp <;> omega)) W (hI.below hB)).mono fun _ _ he => by
      rcases he.chain (K := 4) (hF.below hB) (List.prefix_append G _) (by first | omega | (simp <;> omega)) with h | h
      · exact .inl (by simpa [Nat.add_assoc] using h)
      · exact .inr h
  have h3 : Hid (∀ W0 W v, IsB B p sl (G ++ [((5, ((a : Nat) : Int), ((b : Nat) : Int), 0) : Gat), ((3, ((a : Nat) : Int), ((b : Nat) : Int), 0) : Gat)]) xs v1 v v3 W0 → Fr B v2 v w W0 → Below W0.heap.size W0 W → Calls Tryz.prog 123 #[.agg #[.pointer (some ⟨B, 0, none⟩)], .int .i64 ((G.length : Nat) : Int), .int .i64 ((G.length : Nat) : Int)] W (fun e W' => (e = .returned (.int .i64 ((G.length + 2 : Nat) : Int)) ∧ ∃ v', IsB B p sl (G ++ [((5, ((a : Nat) : Int), ((b : Nat) : Int), 0) : Gat), ((3, ((a : Nat) : Int), ((b : Nat) : Int), 0) : Gat), ((3, ((G.length : Nat) : Int), ((G.length : Nat) : Int), 0) : Gat)]) xs v1 v' v3 W' ∧ Fr B v2 v' w W') ∨ Full 4 B p sl G xs v1 v2 v3 w e W')) :=
    Lib.hid fun W0 W v hI hF hB => (sum_any B p (by omega) sl _ xs v1 v v3 (G.length) (G.length) (by first | omega | (simp <;> omega)) (by first | omega | (simp <;> omega)) W (hI.below hB)).mono fun _ _ he => by
      rcases he.chain (K := 4) (hF.below hB) (List.prefix_append G _) (by first | omega | (simp <;> omega)) with h | h
      · exact .inl (by simpa [Nat.add_assoc] using h)
      · exact .inr h
  have h4 : Hid (∀ W0 W v, IsB B p sl (G ++ [((5, ((a : Nat) : Int), ((b : Nat) : Int), 0) : Gat), ((3, ((a : Nat) : Int), ((b : Nat) : Int), 0) : Gat), ((3, ((G.length : Nat) : Int), ((G.length : Nat) : Int), 0) : Gat)]) xs v1 v v3 W0 → Fr B v2 v w W0 → Below W0.heap.size W0 W → Calls Tryz.prog 121 #[.agg #[.pointer (some ⟨B, 0, none⟩)], .int .i64 ((G.length + 1 : Nat) : Int), .int .i64 ((G.length + 2 : Nat) : Int)] W (fun e W' => (e = .returned (.int .i64 ((G.length + 3 : Nat) : Int)) ∧ ∃ v', IsB B p sl (G ++ [((5, ((a : Nat) : Int), ((b : Nat) : Int), 0) : Gat), ((3, ((a : Nat) : Int), ((b : Nat) : Int), 0) : Gat), ((3, ((G.length : Nat) : Int), ((G.length : Nat) : Int), 0) : Gat), ((4, ((G.length + 1 : Nat) : Int), ((G.length + 2 : Nat) : Int), 0) : Gat)]) xs v1 v' v3 W' ∧ Fr B v2 v' w W') ∨ Full 4 B p sl G xs v1 v2 v3 w e W')) :=
    Lib.hid fun W0 W v hI hF hB => (less_any B p (by omega) sl _ xs v1 v v3 (G.length + 1) (G.length + 2) (by first | omega | (simp <;> omega)) (by first | omega | (simp <;> omega)) W (hI.below hB)).mono fun _ _ he => by
      rcases he.chain (K := 4) (hF.below hB) (List.prefix_append G _) (by first | omega | (simp <;> omega)) with h | h
      · exact .inl (by simpa [Nat.add_assoc] using h)
      · exact .inr h
  have HI0 := Lib.hid h
  have HF0 := Lib.hid (Fr.refl B v2 w)
  clear h ha hb hp
  go_enter Tryz.func71, Tryz.ntmps71
  go_wp2_with (first | (go_at_call 122; refine (h1.out _ _ _ HI0.out HF0.out (by repeat (first | exact Below.refl _ _ | refine Below.drew ?_ | refine Below.alloc ?_ (by simp) _))).mono ?_; intro e w1 he; rcases he with ⟨rfl, x1, hI, hF⟩ | ⟨hk, rfl, he⟩; rotate_left; exact ⟨rfl, .inr ⟨hk, rfl, he⟩⟩; have HI1 := Lib.hid hI; have HF1 := Lib.hid hF; clear hI hF))
  (try go_wp2)
  go_region_held2 (fun _ => True) (trivial) (first | (go_at_call 121; refine (h4.out _ _ _ HI3.out HF3.out (by repeat (first | exact Below.refl _ _ | refine Below.drew ?_ | refine Below.alloc ?_ (by simp) _))).mono ?_; intro e w4 he; rcases he with ⟨rfl, x4, hI, hF⟩ | ⟨hk, rfl, he⟩; rotate_left; exact ⟨rfl, .inr ⟨hk, rfl, he⟩⟩; have HI4 := Lib.hid hI; have HF4 := Lib.hid hF; clear hI hF) | (go_at_call 123; refine (h3.out _ _ _ HI2.out HF2.out (by repeat (first | exact Below.refl _ _ | refine Below.drew ?_ | refine Below.alloc ?_ (by simp) _))).mono ?_; intro e w3 he; rcases he with ⟨rfl, x3, hI, hF⟩ | ⟨hk, rfl, he⟩; rotate_left; exact ⟨rfl, .inr ⟨hk, rfl, he⟩⟩; have HI3 := Lib.hid hI; have HF3 := Lib.hid hF; clear hI hF) | (go_at_call 123; refine (h2.out _ _ _ HI1.out HF1.out (by repeat (first | exact Below.refl _ _ | refine Below.drew ?_ | refine Below.alloc ?_ (by simp) _))).mono ?_; intro e w2 he; rcases he with ⟨rfl, x2, hI, hF⟩ | ⟨hk, rfl, he⟩; rotate_left; exact ⟨rfl, .inr ⟨hk, rfl, he⟩⟩; have HI2 := Lib.hid hI; have HF2 := Lib.hid hF; clear hI hF))
  all_goals (try go_wp2)
  all_goals go_ret
  all_goals exact .inl ⟨rfl, x4, HI4.out, HF4.out⟩
def pickL (n c a b : Nat) : List Gat := [((4, ((a : Nat) : Int), ((b : Nat) : Int), 0) : Gat), ((5, ((c : Nat) : Int), ((n : Nat) : Int), 0) : Gat), ((3, ((b : Nat) : Int), ((n + 1 : Nat) : Int), 0) : Gat)]
set_option maxHeartbeats 2000000 in
set_option maxRecDepth 100000 in
theorem pick_any (B p : Nat) (hp : 1 < p) (sl : List Slo) (G : List Gat) (xs : List Exi) (v1 v2 v3 : Value) (c : Nat) (a : Nat) (b : Nat) (hc : c < G.length) (ha : a < G.length) (hb : b < G.length) (w : World) (h : IsB B p sl G xs v1 v2 v3 w) :
    Calls Tryz.prog 73 #[.iface 126 (.agg #[.pointer (some ⟨B, 0, none⟩)]), .int .i64 ((c : Nat) : Int), .int .i64 ((a : Nat) : Int), .int .i64 ((b : Nat) : Int)] w (OrFull 3 B p sl G (G ++ pickL G.length c a b) xs v1 v2 v3 w (.int .i64 ((G.length + 2 : Nat) : Int))) := by
  have mSum := fun W => mSum B W
  have mProduct := fun W => mProduct B W
  have mLess := fun W => mLess B W
  have nSum := fun W => nSum B W
  have nProduct := fun W => nProduct B W
  simp only [Nat.reduceAdd] at mSum mProduct mLess nSum nProduct
  have h1 : Hid (∀ W0 W v, IsB B p sl (G) xs v1 v v3 W0 → Fr B v2 v w W0 → Below W0.heap.size W0 W → Calls Tryz.prog 121 #[.agg #[.pointer (some ⟨B, 0, none⟩)], .int .i64 ((a : Nat) : Int), .int .i64 ((b : Nat) : Int)] W (fun e W' => (e = .returned (.int .i64 ((G.length : Nat) : Int)) ∧ ∃ v', IsB B p sl (G ++ [((4, ((a : Nat) : Int), ((b : Nat) : Int), 0) : Gat)]) xs v1 v' v3 W' ∧ Fr B v2 v' w W') ∨ Full 3 B p sl G xs v1 v2 v3 w e W')) :=
    Lib.hid fun W0 W v hI hF hB => (less_any B p (by omega) sl _ xs v1 v v3 (a) (b) (by first | omega | (simp <;> omega)) (by first | omega | (simp <;> omega)) W (hI.below hB)).mono fun _ _ he => by
      rcases he.chain (K := 3) (hF.below hB) List.prefix_rfl (by first | omega | (simp <;> omega)) with h | h
      · exact .inl (by simpa [Nat.add_assoc] using h)
      · exact .inr h
  have h2 : Hid (∀ W0 W v, IsB B p sl (G ++ [((4, ((a : Nat) : Int), ((b : Nat) : Int), 0) : Gat)]) xs v1 v v3 W0 → Fr B v2 v w W0 → Below W0.heap.size W0 W → Calls Tryz.prog 122 #[.agg #[.pointer (some ⟨B, 0, none⟩)], .int .i64 ((c : Nat) : Int), .int .i64 ((G.length : Nat) : Int)] W (fun e W' => (e = .returned (.int .i64 ((G.length + 1 : Nat) : Int)) ∧ ∃ v', IsB B p sl (G ++ [((4, ((a : Nat) : Int), ((b : Nat) : Int), 0) : Gat), ((5, ((c : Nat) : Int), ((G.length : Nat) : Int), 0) : Gat)]) xs v1 v' v3 W' ∧ Fr B v2 v' w W') ∨ Full 3 B p sl G xs v1 v2 v3 w e W')) :=
    Lib.hid fun W0 W v hI hF hB => (product_any B p (by omega) sl _ xs v1 v v3 (c) (G.length) (by first | omega | (simp <;> omega)) (by first | omega | (simp <;> omega)) W (hI.below hB)).mono fun _ _ he => by
      rcases he.chain (K := 3) (hF.below hB) (List.prefix_append G _) (by first | omega | (simp <;> omega)) with h | h
      · exact .inl (by simpa [Nat.add_assoc] using h)
      · exact .inr h
  have h3 : Hid (∀ W0 W v, IsB B p sl (G ++ [((4, ((a : Nat) : Int), ((b : Nat) : Int), 0) : Gat), ((5, ((c : Nat) : Int), ((G.length : Nat) : Int), 0) : Gat)]) xs v1 v v3 W0 → Fr B v2 v w W0 → Below W0.heap.size W0 W → Calls Tryz.prog 123 #[.agg #[.pointer (some ⟨B, 0, none⟩)], .int .i64 ((b : Nat) : Int), .int .i64 ((G.length + 1 : Nat) : Int)] W (fun e W' => (e = .returned (.int .i64 ((G.length + 2 : Nat) : Int)) ∧ ∃ v', IsB B p sl (G ++ [((4, ((a : Nat) : Int), ((b : Nat) : Int), 0) : Gat), ((5, ((c : Nat) : Int), ((G.length : Nat) : Int), 0) : Gat), ((3, ((b : Nat) : Int), ((G.length + 1 : Nat) : Int), 0) : Gat)]) xs v1 v' v3 W' ∧ Fr B v2 v' w W') ∨ Full 3 B p sl G xs v1 v2 v3 w e W')) :=
    Lib.hid fun W0 W v hI hF hB => (sum_any B p (by omega) sl _ xs v1 v v3 (b) (G.length + 1) (by first | omega | (simp <;> omega)) (by first | omega | (simp <;> omega)) W (hI.below hB)).mono fun _ _ he => by
      rcases he.chain (K := 3) (hF.below hB) (List.prefix_append G _) (by first | omega | (simp <;> omega)) with h | h
      · exact .inl (by simpa [Nat.add_assoc] using h)
      · exact .inr h
  have HI0 := Lib.hid h
  have HF0 := Lib.hid (Fr.refl B v2 w)
  clear h hc ha hb hp
  go_enter Tryz.func73, Tryz.ntmps73
  (try go_wp2)
  go_region_held2 (fun _ => True) (trivial) (first | (go_at_call 123; refine (h3.out _ _ _ HI2.out HF2.out (by repeat (first | exact Below.refl _ _ | refine Below.drew ?_ | refine Below.alloc ?_ (by simp) _))).mono ?_; intro e w3 he; rcases he with ⟨rfl, x3, hI, hF⟩ | ⟨hk, rfl, he⟩; rotate_left; exact ⟨rfl, .inr ⟨hk, rfl, he⟩⟩; have HI3 := Lib.hid hI; have HF3 := Lib.hid hF; clear hI hF) | (go_at_call 122; refine (h2.out _ _ _ HI1.out HF1.out (by repeat (first | exact Below.refl _ _ | refine Below.drew ?_ | refine Below.alloc ?_ (by simp) _))).mono ?_; intro e w2 he; rcases he with ⟨rfl, x2, hI, hF⟩ | ⟨hk, rfl, he⟩; rotate_left; exact ⟨rfl, .inr ⟨hk, rfl, he⟩⟩; have HI2 := Lib.hid hI; have HF2 := Lib.hid hF; clear hI hF) | (go_at_call 121; refine (h1.out _ _ _ HI0.out HF0.out (by repeat (first | exact Below.refl _ _ | refine Below.drew ?_ | refine Below.alloc ?_ (by simp) _))).mono ?_; intro e w1 he; rcases he with ⟨rfl, x1, hI, hF⟩ | ⟨hk, rfl, he⟩; rotate_left; exact ⟨rfl, .inr ⟨hk, rfl, he⟩⟩; have HI1 := Lib.hid hI; have HF1 := Lib.hid hF; clear hI hF))
  all_goals (try go_wp2)
  all_goals go_ret
  all_goals exact .inl ⟨rfl, x3, HI3.out, HF3.out⟩
end Go.Proofs.YtkcdlbclodjjhaaGreat
