/- Contracts and plain laws of chapter 13, merged: Ta Tb Tc Qf Td. -/
import Derived.Test.YtkcdlbclodjjhaaGreatGak
import Derived.Test.YtkcdlbclodjjhaaGreatGav
import Derived.Test.YtkcdlbclodjjhaaGreatSa
import Derived.Test.YtkcdlbclodjjhaaGreatGah
import Derived.Laws.AppendOwnNone
/- Plain law of an act's gates: and, or, pick and a number of a word are worth what they should be; every list fits, is short and has few products. -/
namespace Go.Proofs.YtkcdlbclodjjhaaGreat
open Go.RowKit
variable {I : List Nat} {sn : Nat}

theorem and_run {p : Nat} (V : List Nat) (a b : Nat) : runG p I V (andL V.length a b) = V ++ [V.getD a 0 * V.getD b 0 % p] := by rw [andL, run_cons, g_mul, run_nil]
theorem or_run {p : Nat} {V : List Nat} {a b : Nat} (ha : a < V.length) (hb : b < V.length) : runG p I V (orL V.length a b) = V ++ [(V.getD a 0 + V.getD b 0) % p, V.getD a 0 * V.getD b 0 % p, ((V.getD a 0 + V.getD b 0) % p + p - V.getD a 0 * V.getD b 0 % p) % p] := by
  rw [orL, run_cons, g_sum, run_cons, g_mul, at_lt ha, at_lt hb, List.append_assoc, run_cons, g_sub, at_ge0, at_ge, run_nil]
  simp
theorem pick_run {p : Nat} {V : List Nat} {c a b : Nat} (hc : c < V.length) (hb : b < V.length) : runG p I V (pickL V.length c a b) = V ++ [(V.getD a 0 + p - V.getD b 0) % p, V.getD c 0 * ((V.getD a 0 + p - V.getD b 0) % p) % p, (V.getD b 0 + V.getD c 0 * ((V.getD a 0 + p - V.getD b 0) % p) % p) % p] := by
  rw [pickL, run_cons, g_sub, run_cons, g_mul, at_lt hc, at_ge0, List.append_assoc, run_cons, g_sum, at_ge, List.cons_append, List.nil_append, at_lt hb, run_nil]
  simp
theorem fits_and {p : Nat} {G : List Gat} {a b : Nat} (ha : a < G.length) (hb : b < G.length) (h : Fits13 p sn G) : Fits13 p sn (G ++ andL G.length a b) := fits_snoc h (bin0 (by decide) ha hb)
theorem fits_or {p : Nat} {G : List Gat} {a b : Nat} (ha : a < G.length) (hb : b < G.length) (h : Fits13 p sn G) : Fits13 p sn (G ++ orL G.length a b) := by
  refine fits_cons h (bin0 (by decide) ha hb) fun h => ?_
  refine fits_cons h (bin0 (by decide) (by simp only [len_snoc]; omega) (by simp only [len_snoc]; omega)) fun h => ?_
  exact fits_snoc h (bin0 (by decide) (by simp only [len_snoc]; omega) (by simp only [len_snoc]; omega))
theorem fits_pick {p : Nat} {G : List Gat} {c a b : Nat} (hc : c < G.length) (ha : a < G.length) (hb : b < G.length) (h : Fits13 p sn G) : Fits13 p sn (G ++ pickL G.length c a b) := by
  refine fits_cons h (bin0 (by decide) ha hb) fun h => ?_
  refine fits_cons h (bin0 (by decide) (by simp only [len_snoc]; omega) (by simp only [len_snoc]; omega)) fun h => ?_
  exact fits_snoc h (bin0 (by decide) (by simp only [len_snoc]; omega) (by simp only [len_snoc]; omega))
theorem fits_numF {p : Nat} : ∀ (l : List Nat) (G : List Gat) (c : Nat), (∀ x ∈ l, x < G.length) → c < G.length → Fits13 p sn G → Fits13 p sn (l.foldl numStep (G, c)).1
  | [], _, _, _, _, h => h
  | a :: r, G, c, ha, hc, h => by
    rw [List.foldl_cons]
    have h1 : Fits13 p sn (numStep (G, c) a).1 := by
      refine fits_cons h (bin0 (by decide) hc hc) fun h => ?_
      exact fits_snoc h (bin0 (by decide) (by simp only [len_snoc]; omega) (by simp only [len_snoc]; have := ha a (by simp); omega))
    have hl : (numStep (G, c) a).1.length = G.length + 2 := by simp [numStep]
    exact fits_numF r (numStep (G, c) a).1 (numStep (G, c) a).2 (fun y hy => by have := ha y (by simp [hy]); omega) (by rw [hl]; show G.length + 1 < _; omega) h1
theorem fits_num {p : Nat} (hp : 2 < p) {G : List Gat} {l : List Nat} (hl : ∀ x ∈ l, x < G.length) (h : Fits13 p sn G) : Fits13 p sn (numSt G l).1 :=
  fits_numF l _ _ (fun x hx => by have := hl x hx; rw [con_len]; omega) (by rw [con_len]; omega) (fits_con hp (by omega) h)
theorem mulN_numF : ∀ (l : List Nat) (G : List Gat) (c : Nat), mulN (l.foldl numStep (G, c)).1 = mulN G
  | [], _, _ => rfl
  | a :: r, G, c => by
    rw [List.foldl_cons, mulN_numF r]
    unfold numStep
    rw [mulN_app]
    rfl
theorem mulN_num (G : List Gat) (l : List Nat) : mulN (numSt G l).1 = mulN G := by
  unfold numSt
  rw [mulN_numF, mulN_app, mulN_con, Nat.add_zero]
/-- Horner's rule from the head. -/
def horn (p : Nat) (V : List Nat) : Nat → List Nat → Nat
  | s, [] => s
  | s, x :: r => horn p V (((s + s) % p + V.getD x 0) % p) r
theorem numF_sem {p : Nat} : ∀ (l : List Nat) (G : List Gat) (c : Nat), (∀ x ∈ l, x < G.length) → c < G.length → ∃ e, valsL p I (l.foldl numStep (G, c)).1 = valsL p I G ++ e ∧ (l.foldl numStep (G, c)).2 < (valsL p I G ++ e).length ∧ (valsL p I G ++ e).getD (l.foldl numStep (G, c)).2 0 = horn p (valsL p I G) ((valsL p I G).getD c 0) l
  | [], G, c, _, hc => ⟨[], by simp, by simpa [vals_len] using hc, by simp [horn]⟩
  | a :: r, G, c, ha, hc => by
    have hn := vals_len (I := I) p G
    have ha1 := ha a (by simp)
    have hs : valsL p I (numStep (G, c) a).1 = valsL p I G ++ [((valsL p I G).getD c 0 + (valsL p I G).getD c 0) % p, (((valsL p I G).getD c 0 + (valsL p I G).getD c 0) % p + (valsL p I G).getD a 0) % p] := by
      show valsL p I (G ++ _) = _
      rw [vals_app, run_cons, g_sum, ← hn, run_cons, g_sum, at_ge0, at_lt (by omega), run_nil]
      simp
    have hl : (numStep (G, c) a).1.length = G.length + 2 := by simp [numStep]
    obtain ⟨e, h1, h2, h3⟩ := numF_sem r (numStep (G, c) a).1 (numStep (G, c) a).2 (fun y hy => by have := ha y (by simp [hy]); omega) (by rw [hl]; show G.length + 1 < _; omega)
    rw [List.foldl_cons]
    rw [hs, List.append_assoc] at h1 h2 h3
    refine ⟨_, h1, h2, h3.trans ?_⟩
    have h4 : ∀ (l : List Nat) (s : Nat) (e : List Nat), (∀ x ∈ l, x < G.length) → horn p (valsL p I G ++ e) s l = horn p (valsL p I G) s l := by
      intro l
      induction l with
      | nil => intro s e _; rfl
      | cons b q ih => intro s e hb; simp only [horn]; rw [at_lt (by have := hb b (by simp); omega)]; exact ih _ e (fun x hx => hb x (by simp [hx]))
    rw [h4 r _ _ (fun y hy => ha y (by simp [hy]))]
    simp only [horn]
    congr 1
    show (valsL p I G ++ _).getD (G.length + 1) 0 = _
    rw [← hn, at_ge]
    rfl
theorem horn_mod (p : Nat) (V : List Nat) : ∀ (l : List Nat) (s : Nat), horn p V s l % p = (s * 2 ^ l.length + nm V l.reverse) % p
  | [], s => by simp [horn, nm]
  | a :: r, s => by
    simp only [horn]
    rw [horn_mod p V r, List.reverse_cons, nm_snoc, List.length_reverse, List.length_cons]
    have e : ((s + s) % p + V.getD a 0) % p * 2 ^ r.length % p = (s * 2 ^ (r.length + 1) + 2 ^ r.length * V.getD a 0) % p := by
      rw [Nat.mod_mul_mod, Nat.add_mul, Nat.add_mod, Nat.mod_mul_mod, ← Nat.add_mod, Nat.pow_succ, Nat.mul_comm (V.getD a 0), ← Nat.mul_two, Nat.mul_assoc, Nat.mul_comm 2]
    rw [Nat.add_mod, e, ← Nat.add_mod]
    congr 1
    omega
theorem numK_nm (V l : List Nat) : ∀ k, k ≤ l.length → numK V l k = nm V (l.take k) := by
  intro k
  induction k with
  | zero => intro _; rfl
  | succ k ih =>
    intro h
    rw [List.take_succ_eq_append_getElem (by omega), nm_snoc]
    simp only [numK]
    rw [ih (by omega), getD_at (show k < l.length by omega), List.length_take, Nat.min_eq_left (by omega), Nat.mul_comm]
theorem numK_all {V l : List Nat} {n : Nat} (h : l.length = n) : numK V l n = nm V l := by rw [numK_nm V l n (by omega), ← h, List.take_length]
theorem sumP_mod (p : Nat) (V l : List Nat) : ∀ k, k ≤ l.length → sumP p V l k = nm V (l.take k) % p := by
  intro k
  induction k with
  | zero => intro _; simp [sumP, nm]
  | succ k ih =>
    intro h
    rw [List.take_succ_eq_append_getElem (by omega), nm_snoc]
    simp only [sumP]
    rw [ih (by omega), getD_at (show k < l.length by omega), List.length_take, Nat.min_eq_left (by omega), Nat.mul_mod_mod, ← Nat.add_mod, Nat.mul_comm]
theorem horn_lt {p : Nat} (hp : 0 < p) (V : List Nat) : ∀ (l : List Nat) (s : Nat), s < p → horn p V s l < p
  | [], _, h => h
  | _ :: r, _, _ => horn_lt hp V r _ (Nat.mod_lt _ hp)
theorem num_sem {p : Nat} (hp : 2 < p) (G : List Gat) (ws : List Nat) (hl : ∀ x ∈ ws, x < G.length) : ∃ e, valsL p I (numSt G ws.reverse).1 = valsL p I G ++ e ∧ (numSt G ws.reverse).2 < (valsL p I G ++ e).length ∧ (valsL p I G ++ e).getD (numSt G ws.reverse).2 0 = sumP p (valsL p I G) ws ws.length := by
  have hn := vals_len (I := I) p G
  obtain ⟨e, h1, h2, h3⟩ := numF_sem (I := I) (p := p) ws.reverse (G ++ conL 0) G.length (fun x hx => by have := hl x (by simpa using hx); rw [con_len]; omega) (by rw [con_len]; omega)
  have hc : valsL p I (G ++ conL 0) = valsL p I G ++ [0] := by rw [vals_app, con_run]
  have h4 : ∀ (l : List Nat) (s : Nat), (∀ x ∈ l, x < G.length) → horn p (valsL p I G ++ [0]) s l = horn p (valsL p I G) s l := by
    intro l
    induction l with
    | nil => intro s _; rfl
    | cons b q ih => intro s hb; simp only [horn]; rw [at_lt (by have := hb b (by simp); omega)]; exact ih _ (fun x hx => hb x (by simp [hx]))
  rw [hc, List.append_assoc] at h1 h2
  rw [hc] at h3
  have hg : (valsL p I G ++ [0]).getD G.length 0 = 0 := by rw [← hn, at_ge0]; rfl
  rw [List.append_assoc] at h3
  refine ⟨_, h1, h2, h3.trans ?_⟩
  rw [hg, h4 _ _ (fun x hx => hl x (by simpa using hx)), sumP_mod p _ _ _ (Nat.le_refl _), List.take_length]
  have h5 := horn_mod p (valsL p I G) ws.reverse 0
  rw [Nat.mod_eq_of_lt (horn_lt (by omega) _ _ _ (by omega)), List.reverse_reverse, Nat.zero_mul, Nat.zero_add] at h5
  exact h5
end Go.Proofs.YtkcdlbclodjjhaaGreat

/- Plain law of an act that is not refused: what it lays fits, begins with what was there, is short, and is worth what the chapter says. -/
namespace Go.Proofs.YtkcdlbclodjjhaaGreat
open Go.RowKit
variable {I : List Nat} {sn : Nat}

theorem placesN_ok {g : Nat} {l : List Int} (h : placesErr g l = 0) : l.any (outside g) = false := by
  unfold placesErr at h
  split at h
  · exact absurd h (by decide)
  · rename_i h1; simpa using h1
theorem inside {g : Nat} {a : Int} (h : outside g a = false) : 0 ≤ a ∧ a.toNat < g ∧ ((a.toNat : Nat) : Int) = a := by
  simp only [outside, Bool.or_eq_false_iff, decide_eq_false_iff_not] at h; omega
theorem word_ok {g : Nat} {vs : List Int} (h : wordErr g vs = 0) : 1 ≤ vs.length ∧ vs.length ≤ 16 ∧ vs.any (outside g) = false := by
  unfold wordErr at h
  split at h
  · exact absurd h (by decide)
  · exact ⟨by omega, by omega, placesN_ok h⟩
theorem words_ok {g : Nat} {vs ws : List Int} (h : wordsErr g vs ws = 0) : 1 ≤ vs.length ∧ vs.length ≤ 16 ∧ vs.length = ws.length ∧ vs.any (outside g) = false ∧ ws.any (outside g) = false := by
  unfold wordsErr at h
  split at h
  · exact absurd h (by decide)
  · split at h
    · exact absurd h (by decide)
    · rename_i h1 h2
      split at h
      · rename_i h3
        rw [List.any_append] at h2
        simp only [Bool.or_eq_true, not_or, Bool.not_eq_true] at h2
        exact ⟨by omega, by omega, h3, h2.1, h2.2⟩
      · exact absurd h (by decide)
/-- What an act that is not refused lays. -/
structure OkL (p sn m : Nat) (G G' : List Gat) (at_ : Nat) (r : List Nat) (n : Nat) : Prop where
  pre : ∃ L, G' = G ++ L
  len : G'.length ≤ G.length + gatesN m n
  mul : mulN G' ≤ mulN G + prodN m n
  fits : Fits13 p sn G'
  word : 10 ≤ m ∧ m ≤ 12 → r.length = n ∧ 0 < n ∧ ∀ x ∈ r, x < G'.length
  one : m < 10 ∨ 12 < m → r = [] ∧ at_ < G'.length
theorem okL_app {p m n at_ : Nat} {G L : List Gat} (h9 : m < 10) (hl : L.length ≤ gatesN m n) (hm : mulN L ≤ prodN m n) (hf : Fits13 p sn (G ++ L)) (ha : at_ < G.length + L.length) : OkL p sn m G (G ++ L) at_ [] n :=
  ⟨⟨L, rfl⟩, by rw [List.length_append]; omega, by rw [mulN_app]; omega, hf, fun h => by omega, fun _ => ⟨rfl, by rw [List.length_append]; omega⟩⟩
theorem pre_ex {G G' : List Gat} (h : G <+: G') : ∃ L, G' = G ++ L := by obtain ⟨L, hL⟩ := h; exact ⟨L, hL.symm⟩
theorem ten_sq : ∀ n, n < 17 → n * (10 * n + 1) ≤ 16 * n * n := by decide
set_option maxRecDepth 100000 in
theorem ok_law {p : Nat} (hp : 2 < p) {en m : Nat} (h4 : 4 ≤ m) (hm : m < 15) {G : List Gat} {a b c k : Int} {vs ws : List Int} {s : Slo} {g : Gat} {x : Exi} (hw : wrongN p sn G.length en m a b c k vs ws s g x = 0) (h : Fits13 p sn G) :
    OkL p sn m G (okG m G a b c vs ws) (okAt m G vs ws) (okR m G vs ws) vs.length := by
  have hc : m = 4 ∨ m = 5 ∨ m = 6 ∨ m = 7 ∨ m = 8 ∨ m = 9 ∨ m = 10 ∨ m = 11 ∨ m = 12 ∨ m = 13 ∨ m = 14 := by omega
  rcases hc with rfl | rfl | rfl | rfl | rfl | rfl | rfl | rfl | rfl | rfl | rfl
  · have hw' : placesErr G.length [a] = 0 := hw
    have h1 := placesN_ok hw'
    simp only [List.any_cons, List.any_nil, Bool.or_false] at h1
    exact okL_app (by omega) (by simp [gatesN, notL]) (by rw [mulN_not]; omega) (fits_not hp (inside h1).2.1 h) (by show G.length + 1 < _; simp [notL])
  · have hw' : placesErr G.length [a, b] = 0 := hw
    have h1 := placesN_ok hw'
    simp only [List.any_cons, List.any_nil, Bool.or_false, Bool.or_eq_false_iff] at h1
    exact okL_app (by omega) (by simp [gatesN, andL]) (by show 1 ≤ 1; omega) (fits_and (inside h1.1).2.1 (inside h1.2).2.1 h) (by show G.length < _; simp [andL])
  · have hw' : placesErr G.length [a, b] = 0 := hw
    have h1 := placesN_ok hw'
    simp only [List.any_cons, List.any_nil, Bool.or_false, Bool.or_eq_false_iff] at h1
    exact okL_app (by omega) (by simp [gatesN, orL]) (by show 1 ≤ 1; omega) (fits_or (inside h1.1).2.1 (inside h1.2).2.1 h) (by show G.length + 2 < _; simp [orL])
  · have hw' : placesErr G.length [a, b] = 0 := hw
    have h1 := placesN_ok hw'
    simp only [List.any_cons, List.any_nil, Bool.or_false, Bool.or_eq_false_iff] at h1
    exact okL_app (by omega) (by simp [gatesN, xorL]) (by show 1 ≤ 1; omega) (fits_xor (inside h1.1).2.1 (inside h1.2).2.1 h) (by show G.length + 3 < _; simp [xorL])
  · have hw' : placesErr G.length [c, a, b] = 0 := hw
    have h1 := placesN_ok hw'
    simp only [List.any_cons, List.any_nil, Bool.or_false, Bool.or_eq_false_iff] at h1
    exact okL_app (by omega) (by simp [gatesN, pickL]) (by show 1 ≤ 1; omega) (fits_pick (inside h1.1).2.1 (inside h1.2.1).2.1 (inside h1.2.2).2.1 h) (by show G.length + 2 < _; simp [pickL])
  · have hw' : wordErr G.length vs = 0 := hw
    obtain ⟨n1, n2, h1⟩ := word_ok hw'
    have h2 := (natsOf_cells h1).2
    have h3 := numSt_len G (natsOf vs).reverse _ (Nat.le_refl _)
    rw [List.take_length, List.length_reverse, natsOf_len] at h3
    refine ⟨pre_ex (pre_numSt _ _), ?_, ?_, fits_num hp (fun x hx => h2 x (by simpa using hx)) h, fun h => by omega, fun _ => ⟨rfl, h3.2⟩⟩
    · show (numSt G (natsOf vs).reverse).1.length ≤ G.length + 16 * vs.length
      omega
    · show mulN (numSt G (natsOf vs).reverse).1 ≤ _
      rw [mulN_num]; omega
  · have hw' : wordsErr G.length vs ws = 0 := hw
    obtain ⟨n1, n2, n3, h1, h2⟩ := words_ok hw'
    have h1' := (natsOf_cells h1).2; have h2' := (natsOf_cells h2).2
    have l1 : (natsOf vs).length = vs.length := natsOf_len vs
    have l2 : (natsOf ws).length = vs.length := by rw [natsOf_len, n3]
    obtain ⟨a1, a2, _, a4⟩ := addSt_all (G ++ conL 0) G.length ((natsOf vs).zip (natsOf ws)) (by rw [con_len]; omega)
    have hln := plus_len (G := G) l1 l2
    refine ⟨pre_ex ((List.prefix_append G (conL 0)).trans (pre_addSt _ _ _)), ?_, ?_, fits_plus hp h1' h2' h, fun _ => ⟨?_, by omega, a4⟩, fun h => by omega⟩
    · show (plusSt G (natsOf vs) (natsOf ws)).1.length ≤ G.length + 16 * vs.length
      omega
    · show mulN (plusSt G (natsOf vs) (natsOf ws)).1 ≤ mulN G + 2 * vs.length
      rw [mulN_plus l1 l2]; omega
    · show (addSt _ _ _).2.1.length = _
      rw [a2, List.length_zip]; omega
  · have hw' : wordsErr G.length vs ws = 0 := hw
    obtain ⟨n1, n2, n3, h1, h2⟩ := words_ok hw'
    have h1' := (natsOf_cells h1).2; have h2' := (natsOf_cells h2).2
    have l1 : (natsOf vs).length = vs.length := natsOf_len vs
    have l2 : (natsOf ws).length = vs.length := by rw [natsOf_len, n3]
    obtain ⟨t1, t2, t3⟩ := turnSt_all G (natsOf ws)
    obtain ⟨a1, a2, _, a4⟩ := addSt_all ((turnSt G (natsOf ws)).1 ++ conL 1) (turnSt G (natsOf ws)).1.length ((natsOf vs).zip (turnSt G (natsOf ws)).2) (by rw [con_len]; omega)
    have hln := minus_len (G := G) l1 l2
    refine ⟨pre_ex (pre_minus _ _ _), ?_, ?_, fits_minus hp h1' h2' h, fun _ => ⟨?_, by omega, a4⟩, fun h => by omega⟩
    · show (minusSt G (natsOf vs) (natsOf ws)).1.length ≤ G.length + 16 * vs.length
      omega
    · show mulN (minusSt G (natsOf vs) (natsOf ws)).1 ≤ mulN G + 2 * vs.length
      rw [mulN_minus l1 l2]; omega
    · show (addSt _ _ _).2.1.length = _
      rw [a2, List.length_zip, t2]; omega
  · have hw' : wordsErr G.length vs ws = 0 := hw
    obtain ⟨n1, n2, n3, h1, h2⟩ := words_ok hw'
    have h1' := (natsOf_cells h1).2; have h2' := (natsOf_cells h2).2
    have l1 : (natsOf vs).length = vs.length := natsOf_len vs
    have l2 : (natsOf ws).length = vs.length := by rw [natsOf_len, n3]
    obtain ⟨b1, b2, b3, b4⟩ := timesSt_len G (natsOf vs) (natsOf ws) vs.length (by omega)
    rw [if_neg (by omega), l1] at b3
    refine ⟨pre_ex (pre_times _ _ _ _), ?_, ?_, fits_times hp l1 l2 h1' h2' h _ (Nat.le_refl _), fun _ => ⟨b3, by omega, b4⟩, fun h => by omega⟩
    · show (timesSt G (natsOf vs) (natsOf ws) vs.length).1.length ≤ G.length + 16 * vs.length * vs.length
      have := ten_sq vs.length (by omega)
      rw [l1] at b1
      omega
    · show mulN (timesSt G (natsOf vs) (natsOf ws) vs.length).1 ≤ mulN G + 2 * vs.length * vs.length
      rw [mulN_times l1 _ (Nat.le_refl _)]
      have := tmul_le vs.length (by omega)
      omega
  · have hw' : wordsErr G.length vs ws = 0 := hw
    obtain ⟨n1, n2, n3, h1, h2⟩ := words_ok hw'
    have h1' := (natsOf_cells h1).2; have h2' := (natsOf_cells h2).2
    have l1 : (natsOf vs).length = vs.length := natsOf_len vs
    have l2 : (natsOf ws).length = vs.length := by rw [natsOf_len, n3]
    have hln := same_len13 (G := G) l1 l2
    have hsl := (sameSt_len G ((natsOf vs).zip (natsOf ws)) _ (Nat.le_refl _)).2
    rw [List.take_length] at hsl
    refine ⟨pre_ex (pre_sameSt _ _), ?_, ?_, fits_same hp h1' h2' h, fun h => by omega, fun _ => ⟨rfl, ?_⟩⟩
    · show (sameSt G ((natsOf vs).zip (natsOf ws))).1.length ≤ G.length + 16 * vs.length
      omega
    · show mulN (sameSt G ((natsOf vs).zip (natsOf ws))).1 ≤ mulN G + 3 * vs.length
      rw [mulN_same l1 l2]; omega
    · exact hsl
  · have hw' : wordsErr G.length vs ws = 0 := hw
    obtain ⟨n1, n2, n3, h1, h2⟩ := words_ok hw'
    have h1' := (natsOf_cells h1).2; have h2' := (natsOf_cells h2).2
    have l1 : (natsOf vs).length = vs.length := natsOf_len vs
    have l2 : (natsOf ws).length = vs.length := by rw [natsOf_len, n3]
    have hln := less_len (G := G) l1 l2
    have hmn := minus_len (G := G) l1 l2
    refine ⟨pre_ex ((pre_minus _ _ _).trans (List.prefix_append _ _)), ?_, ?_, fits_less hp l1 l2 h1' h2' h, fun h => by omega, fun _ => ⟨rfl, ?_⟩⟩
    · show (belowSt G (natsOf vs) (natsOf ws)).1.length ≤ G.length + 16 * vs.length
      omega
    · show mulN (belowSt G (natsOf vs) (natsOf ws)).1 ≤ mulN G + 3 * vs.length
      rw [mulN_below l1 l2]; omega
    · show (minusSt G (natsOf vs) (natsOf ws)).1.length + 1 < (belowSt G (natsOf vs) (natsOf ws)).1.length
      omega
end Go.Proofs.YtkcdlbclodjjhaaGreat

/- Plain law of an act that is not refused: what its answer is worth. -/
namespace Go.Proofs.YtkcdlbclodjjhaaGreat
open Go.RowKit
variable {I : List Nat} {sn : Nat}

theorem vals_all_lt {p : Nat} (h0 : 0 < p) (hI : allLt p I = true) (hn : I.length = sn) {G : List Gat} (h : Fits13 p sn G) (hk : ∀ g ∈ G, 0 ≤ g.2.2.2) : ∀ k, k ≤ G.length → allLt p (valsL p I (G.take k)) = true := by
  intro k
  induction k with
  | zero => intro _; rfl
  | succ k ih =>
    intro hk1
    rw [List.take_succ_eq_append_getElem (by omega), vals_app, run_cons, run_nil]
    have h1 := h k (by omega)
    refine allLt_snoc (ih (by omega)) (gval_lt p h0 I _ hI _ (hk _ (List.getElem_mem _)) ?_)
    rw [hn, vals_len, List.length_take, Nat.min_eq_left (by omega)]
    exact h1
theorem vals_lt {p : Nat} (h0 : 0 < p) (hI : allLt p I = true) (hn : I.length = sn) {G : List Gat} (h : Fits13 p sn G) (hk : ∀ g ∈ G, 0 ≤ g.2.2.2) : ∀ k, (hk : k < (valsL p I G).length) → (valsL p I G)[k] < p := by
  intro k hlt
  have h1 := vals_all_lt h0 hI hn h hk G.length (Nat.le_refl _)
  rw [List.take_length] at h1
  exact of_decide_eq_true (List.all_eq_true.1 h1 _ (List.getElem_mem hlt))
theorem getD_ltQ {p : Nat} (h0 : 0 < p) {V : List Nat} (h : ∀ k, (hk : k < V.length) → V[k] < p) (a : Nat) : V.getD a 0 < p := by
  by_cases ha : a < V.length
  · rw [getD_at ha]; exact h a ha
  · rw [List.getD_eq_getElem?_getD, List.getElem?_eq_none (by omega)]; exact h0
/-- What an answer must be worth. -/
def Concl (V : List Nat) (at_ : Nat) (r : List Nat) (t n : Int) : Prop := (n = 0 ∧ at_ < V.length ∧ ((V.getD at_ 0 : Nat) : Int) = t) ∨ (n ≠ 0 ∧ (∀ x ∈ r, x < V.length ∧ V.getD x 0 ≤ 1) ∧ ((numK V r r.length : Nat) : Int) = t)
theorem vals_old (p : Nat) (G L : List Gat) {a : Nat} (ha : a < G.length) : (valsL p I (G ++ L)).getD a 0 = (valsL p I G).getD a 0 := by
  rw [vals_app]
  obtain ⟨e, he, _⟩ := runG_pre (I := I) p L (valsL p I G)
  rw [he, at_lt (by rw [vals_len]; exact ha)]
theorem bitQ2 {x : Nat} (h : x ≤ 1) : x = 0 ∨ x = 1 := by omega
theorem sem_3 {p : Nat} (G : List Gat) (k : Nat) {t n : Int} (h : t = ((k : Nat) : Int) ∧ n = 0) : Concl (valsL p I (G ++ [((2, 0, 0, ((k : Nat) : Int)) : Gat)])) G.length [] t n := by
  obtain ⟨rfl, rfl⟩ := h
  have hn := vals_len (I := I) p G
  have hv : valsL p I (G ++ [((2, 0, 0, ((k : Nat) : Int)) : Gat)]) = valsL p I G ++ [k] := by rw [vals_app, run_cons, g_con, run_nil]
  rw [hv]
  exact .inl ⟨rfl, by simp [hn], by rw [← hn, at_ge0]; rfl⟩
theorem sem_4 {p : Nat} (hp : 2 < p) (G : List Gat) (a : Nat) (ha : a < G.length) {t n : Int} (h : (valsL p I (G ++ notL G.length a)).getD a 0 ≤ 1 ∧ t = 1 - (((valsL p I (G ++ notL G.length a)).getD a 0 : Nat) : Int) ∧ n = 0) : Concl (valsL p I (G ++ notL G.length a)) (G.length + 1) [] t n := by
  rw [vals_old p _ _ ha] at h
  obtain ⟨h1, rfl, rfl⟩ := h
  have hn := vals_len (I := I) p G
  have hr := not_run (I := I) hp (V := valsL p I G) (by omega) rfl h1
  rw [hn] at hr
  rw [vals_app, hr]
  refine .inl ⟨rfl, by simp [hn], ?_⟩
  rw [← hn, at_ge]
  simp only [List.getD_cons_succ, List.getD_cons_zero]
  omega
theorem sem_5 {p : Nat} (hp : 2 < p) (G : List Gat) (a b : Nat) (ha : a < G.length) (hb : b < G.length) {t n : Int} (h : (valsL p I (G ++ andL G.length a b)).getD a 0 ≤ 1 ∧ (valsL p I (G ++ andL G.length a b)).getD b 0 ≤ 1 ∧ t = (((valsL p I (G ++ andL G.length a b)).getD a 0 * (valsL p I (G ++ andL G.length a b)).getD b 0 : Nat) : Int) ∧ n = 0) : Concl (valsL p I (G ++ andL G.length a b)) G.length [] t n := by
  rw [vals_old p _ _ ha, vals_old p _ _ hb] at h
  obtain ⟨h1, h2, rfl, rfl⟩ := h
  have hn := vals_len (I := I) p G
  have hr := and_run (I := I) (p := p) (valsL p I G) a b
  rw [hn] at hr
  rw [vals_app, hr]
  refine .inl ⟨rfl, by simp [hn], ?_⟩
  rw [← hn, at_ge0]
  simp only [List.getD_cons_zero]
  rcases bitQ2 h1 with e | e <;> rcases bitQ2 h2 with f | f <;> rw [e, f] <;> simp [(m1 hp).1]
theorem sem_6 {p : Nat} (hp : 2 < p) (G : List Gat) (a b : Nat) (ha : a < G.length) (hb : b < G.length) {t n : Int} (h : (valsL p I (G ++ orL G.length a b)).getD a 0 ≤ 1 ∧ (valsL p I (G ++ orL G.length a b)).getD b 0 ≤ 1 ∧ t = (((valsL p I (G ++ orL G.length a b)).getD a 0 + (valsL p I (G ++ orL G.length a b)).getD b 0 - (valsL p I (G ++ orL G.length a b)).getD a 0 * (valsL p I (G ++ orL G.length a b)).getD b 0 : Nat) : Int) ∧ n = 0) : Concl (valsL p I (G ++ orL G.length a b)) (G.length + 2) [] t n := by
  rw [vals_old p _ _ ha, vals_old p _ _ hb] at h
  obtain ⟨h1, h2, rfl, rfl⟩ := h
  have hn := vals_len (I := I) p G
  have hr := or_run (I := I) (p := p) (V := valsL p I G) (a := a) (b := b) (by omega) (by omega)
  rw [hn] at hr
  rw [vals_app, hr]
  refine .inl ⟨rfl, by simp [hn], ?_⟩
  rw [← hn, at_ge]
  simp only [List.getD_cons_succ, List.getD_cons_zero]
  obtain ⟨e1, e2, e3, e4, e5, e6, e7, e8, e9, e0⟩ := m1 hp
  rcases bitQ2 h1 with e | e <;> rcases bitQ2 h2 with f | f <;> rw [e, f] <;> simp [e1, e2, e3, e6]
theorem sem_7 {p : Nat} (hp : 2 < p) (G : List Gat) (a b : Nat) (ha : a < G.length) (hb : b < G.length) {t n : Int} (h : (valsL p I (G ++ xorL G.length a b)).getD a 0 ≤ 1 ∧ (valsL p I (G ++ xorL G.length a b)).getD b 0 ≤ 1 ∧ t = (((valsL p I (G ++ xorL G.length a b)).getD a 0 + (valsL p I (G ++ xorL G.length a b)).getD b 0 - 2 * ((valsL p I (G ++ xorL G.length a b)).getD a 0 * (valsL p I (G ++ xorL G.length a b)).getD b 0) : Nat) : Int) ∧ n = 0) : Concl (valsL p I (G ++ xorL G.length a b)) (G.length + 3) [] t n := by
  rw [vals_old p _ _ ha, vals_old p _ _ hb] at h
  obtain ⟨h1, h2, rfl, rfl⟩ := h
  have hn := vals_len (I := I) p G
  obtain ⟨l, hl, hr⟩ := xor_run (I := I) hp (V := valsL p I G) (a := a) (b := b) (by omega) (by omega) rfl rfl h1 h2
  rw [hn] at hr
  rw [vals_app, hr]
  refine .inl ⟨rfl, by simp [hn, hl], ?_⟩
  rw [← hn, at_ge, ← hl, at_ge0]
  simp only [List.getD_cons_zero]
  rcases bitQ2 h1 with e | e <;> rcases bitQ2 h2 with f | f <;> rw [e, f] <;> simp
theorem sem_8 {p : Nat} (hp : 2 < p) (G : List Gat) (c a b : Nat) (hc : c < G.length) (ha : a < G.length) (hb : b < G.length) (hV : ∀ k, (hk : k < (valsL p I G).length) → (valsL p I G)[k] < p) {t n : Int}
    (h : ((valsL p I (G ++ pickL G.length c a b)).getD c 0 = 1 ∧ t = (((valsL p I (G ++ pickL G.length c a b)).getD a 0 : Nat) : Int) ∨ (valsL p I (G ++ pickL G.length c a b)).getD c 0 = 0 ∧ t = (((valsL p I (G ++ pickL G.length c a b)).getD b 0 : Nat) : Int)) ∧ n = 0) : Concl (valsL p I (G ++ pickL G.length c a b)) (G.length + 2) [] t n := by
  rw [vals_old p _ _ ha, vals_old p _ _ hb, vals_old p _ _ hc] at h
  obtain ⟨h, rfl⟩ := h
  have hn := vals_len (I := I) p G
  have hr := pick_run (I := I) (p := p) (V := valsL p I G) (c := c) (a := a) (b := b) (by omega) (by omega)
  rw [hn] at hr
  have xa := getD_ltQ (by omega) hV a
  have xb := getD_ltQ (by omega) hV b
  rw [vals_app, hr]
  refine .inl ⟨rfl, by simp [hn], ?_⟩
  rw [← hn, at_ge]
  simp only [List.getD_cons_succ, List.getD_cons_zero]
  rcases h with ⟨h1, rfl⟩ | ⟨h1, rfl⟩
  · rw [h1, Nat.one_mul, Nat.mod_mod, Nat.add_mod_mod, show (valsL p I G).getD b 0 + ((valsL p I G).getD a 0 + p - (valsL p I G).getD b 0) = (valsL p I G).getD a 0 + p by omega, Nat.add_mod_right, Nat.mod_eq_of_lt xa]
  · rw [h1, Nat.zero_mul, Nat.zero_mod, Nat.add_zero, Nat.mod_eq_of_lt xb]
theorem sumP_old {p : Nat} {V e : List Nat} {ws : List Nat} (hl : ∀ x ∈ ws, x < V.length) : ∀ k, k ≤ ws.length → sumP p (V ++ e) ws k = sumP p V ws k := by
  intro k
  induction k with
  | zero => intro _; rfl
  | succ k ih => intro h; simp only [sumP]; rw [ih (by omega), getD_at (show k < ws.length by omega), at_lt (hl _ (List.getElem_mem _))]
theorem sem_9 {p : Nat} (hp : 2 < p) (G : List Gat) (ws : List Nat) (hl : ∀ x ∈ ws, x < G.length) {t n : Int} (h : t = ((sumP p (valsL p I (numSt G ws.reverse).1) ws ws.length : Nat) : Int) ∧ n = 0) : Concl (valsL p I (numSt G ws.reverse).1) (numSt G ws.reverse).2 [] t n := by
  obtain ⟨e, h1, h2, h3⟩ := num_sem (I := I) hp G ws hl
  have hn := vals_len (I := I) p G
  rw [h1, sumP_old (fun x hx => by rw [hn]; exact hl x hx) _ (Nat.le_refl _)] at h
  obtain ⟨rfl, rfl⟩ := h
  rw [h1]
  exact .inl ⟨rfl, h2, by rw [h3]⟩
theorem bits_of {V e ls : List Nat} (hl : ∀ x ∈ ls, x < V.length) (h : (ls.all fun x => decide ((V ++ e).getD x 0 ≤ 1)) = true) : Bits V ls := fun x hx => by
  have h1 := of_decide_eq_true (List.all_eq_true.1 h x hx)
  rw [at_lt (hl x hx)] at h1
  exact ⟨hl x hx, h1⟩
theorem numK_old {V e ls : List Nat} {n : Nat} (hn : ls.length = n) (hb : Bits V ls) : numK (V ++ e) ls n = nm V ls := by rw [numK_all hn, nm_app hb]
theorem vals_pre (p : Nat) {G G' : List Gat} (h : G <+: G') : ∃ e, valsL p I G' = valsL p I G ++ e := by
  obtain ⟨L, rfl⟩ := h
  obtain ⟨e, he, _⟩ := runG_pre (I := I) p L (valsL p I G)
  exact ⟨e, by rw [vals_app, he]⟩
theorem pre_plus (G : List Gat) (vs ws : List Nat) : G <+: (plusSt G vs ws).1 := (List.prefix_append G (conL 0)).trans (pre_addSt _ _ _)
theorem pre_below (G : List Gat) (vs ws : List Nat) : G <+: (belowSt G vs ws).1 := (pre_minus G vs ws).trans (List.prefix_append _ _)
/-- Bits before, out of bits behind. -/
theorem bits_back {p : Nat} {G G' : List Gat} (hp : G <+: G') {vs : List Nat} (lv : ∀ x ∈ vs, x < G.length) (h : (vs.all fun x => decide ((valsL p I G').getD x 0 ≤ 1)) = true) : Bits (valsL p I G) vs := by
  obtain ⟨e, he⟩ := vals_pre (I := I) p hp
  rw [he] at h
  exact bits_of (fun x hx => by rw [vals_len]; exact lv x hx) h
theorem concl_word {V : List Nat} {at_ l : Nat} {r : List Nat} {t n : Int} (h0 : 0 < l) (hr : r.length = l) (hb : Bits V r) (hn : n = ((l : Nat) : Int)) (ht : t = ((nm V r : Nat) : Int)) : Concl V at_ r t n :=
  .inr ⟨by omega, hb, by rw [numK_all rfl, ht]⟩
theorem sem_10 {p : Nat} (hp : 2 < p) (G : List Gat) (vs ws : List Nat) (l : Nat) (h0 : 0 < l) (hv : vs.length = l) (hw : ws.length = l) (lv : ∀ x ∈ vs, x < G.length) (lw : ∀ x ∈ ws, x < G.length) {t n : Int}
    (h : (vs.all fun x => decide ((valsL p I (plusSt G vs ws).1).getD x 0 ≤ 1)) = true ∧ (ws.all fun x => decide ((valsL p I (plusSt G vs ws).1).getD x 0 ≤ 1)) = true ∧ t = ((((numK (valsL p I (plusSt G vs ws).1) vs l + numK (valsL p I (plusSt G vs ws).1) ws l) % 2 ^ l) : Nat) : Int) ∧ n = ((l : Nat) : Int)) (at_ : Nat) : Concl (valsL p I (plusSt G vs ws).1) at_ (plusSt G vs ws).2.1 t n := by
  obtain ⟨b1, b2, rfl, rfl⟩ := h
  have hb1 := bits_back (I := I) (pre_plus G vs ws) lv b1
  have hb2 := bits_back (I := I) (pre_plus G vs ws) lw b2
  obtain ⟨e, h1, h2, h3, h4⟩ := plus_sem (I := I) hp G vs ws l hv hw hb1 hb2
  rw [h1]
  exact concl_word h0 h3 h2 rfl (by rw [numK_old hv hb1, numK_old hw hb2, h4])
theorem sem_11 {p : Nat} (hp : 2 < p) (G : List Gat) (vs ws : List Nat) (l : Nat) (h0 : 0 < l) (hv : vs.length = l) (hw : ws.length = l) (lv : ∀ x ∈ vs, x < G.length) (lw : ∀ x ∈ ws, x < G.length) {t n : Int}
    (h : (vs.all fun x => decide ((valsL p I (minusSt G vs ws).1).getD x 0 ≤ 1)) = true ∧ (ws.all fun x => decide ((valsL p I (minusSt G vs ws).1).getD x 0 ≤ 1)) = true ∧ t = ((((numK (valsL p I (minusSt G vs ws).1) vs l + 2 ^ l - numK (valsL p I (minusSt G vs ws).1) ws l) % 2 ^ l) : Nat) : Int) ∧ n = ((l : Nat) : Int)) (at_ : Nat) : Concl (valsL p I (minusSt G vs ws).1) at_ (minusSt G vs ws).2.1 t n := by
  obtain ⟨b1, b2, rfl, rfl⟩ := h
  have hb1 := bits_back (I := I) (pre_minus G vs ws) lv b1
  have hb2 := bits_back (I := I) (pre_minus G vs ws) lw b2
  obtain ⟨e, h1, h2, h3, _, h4⟩ := minus_sem (I := I) hp G vs ws l hv hw hb1 hb2
  rw [h1]
  refine concl_word h0 h3 h2 rfl ?_
  rw [numK_old hv hb1, numK_old hw hb2]
  have h5 := nm_lt h2
  rw [h3] at h5
  have h6 : nm (valsL p I G) vs + 2 ^ l - nm (valsL p I G) ws = nm (valsL p I G ++ e) (minusSt G vs ws).2.1 + 2 ^ l * (valsL p I G ++ e).getD (minusSt G vs ws).2.2 0 := by omega
  rw [h6, Nat.add_mul_mod_self_left, Nat.mod_eq_of_lt h5]
theorem sem_12 {p : Nat} (hp : 2 < p) (G : List Gat) (vs ws : List Nat) (l : Nat) (h0 : 0 < l) (hv : vs.length = l) (hw : ws.length = l) (lv : ∀ x ∈ vs, x < G.length) (lw : ∀ x ∈ ws, x < G.length) {t n : Int}
    (h : (vs.all fun x => decide ((valsL p I (timesSt G vs ws l).1).getD x 0 ≤ 1)) = true ∧ (ws.all fun x => decide ((valsL p I (timesSt G vs ws l).1).getD x 0 ≤ 1)) = true ∧ t = (((numK (valsL p I (timesSt G vs ws l).1) vs l * numK (valsL p I (timesSt G vs ws l).1) ws l % 2 ^ l) : Nat) : Int) ∧ n = ((l : Nat) : Int)) (at_ : Nat) : Concl (valsL p I (timesSt G vs ws l).1) at_ (timesSt G vs ws l).2 t n := by
  obtain ⟨b1, b2, rfl, rfl⟩ := h
  have hb1 := bits_back (I := I) (pre_times G vs ws l) lv b1
  have hb2 := bits_back (I := I) (pre_times G vs ws l) lw b2
  obtain ⟨e, h1, h2, h3, h4⟩ := times_sem (I := I) hp G vs ws l hv hw hb1 hb2 l (Nat.le_refl _)
  rw [h1]
  refine concl_word h0 (h3 h0) h2 rfl ?_
  rw [numK_old hv hb1, numK_old hw hb2]
  have h5 := nm_lt h2
  rw [h3 h0] at h5
  rw [Nat.mod_eq_of_lt h5] at h4
  rw [h4, show ws.take l = ws by rw [← hw, List.take_length]]
theorem sem_13 {p : Nat} (hp : 2 < p) (G : List Gat) (vs ws : List Nat) (l : Nat) (_h0 : 0 < l) (hv : vs.length = l) (hw : ws.length = l) (lv : ∀ x ∈ vs, x < G.length) (lw : ∀ x ∈ ws, x < G.length) {t n : Int}
    (h : (vs.all fun x => decide ((valsL p I (sameSt G (vs.zip ws)).1).getD x 0 ≤ 1)) = true ∧ (ws.all fun x => decide ((valsL p I (sameSt G (vs.zip ws)).1).getD x 0 ≤ 1)) = true ∧ t = (((if numK (valsL p I (sameSt G (vs.zip ws)).1) vs l = numK (valsL p I (sameSt G (vs.zip ws)).1) ws l then 1 else 0) : Nat) : Int) ∧ n = 0) : Concl (valsL p I (sameSt G (vs.zip ws)).1) (sameSt G (vs.zip ws)).2 [] t n := by
  obtain ⟨b1, b2, rfl, rfl⟩ := h
  have hb1 := bits_back (I := I) (pre_sameSt G (vs.zip ws)) lv b1
  have hb2 := bits_back (I := I) (pre_sameSt G (vs.zip ws)) lw b2
  obtain ⟨e, h1, h2, h3⟩ := same_sem (I := I) hp G vs ws l hv hw hb1 hb2
  rw [h1, numK_old hv hb1, numK_old hw hb2]
  exact .inl ⟨rfl, h2, by rw [h3]⟩
theorem sem_14 {p : Nat} (hp : 2 < p) (G : List Gat) (vs ws : List Nat) (l : Nat) (_h0 : 0 < l) (hv : vs.length = l) (hw : ws.length = l) (lv : ∀ x ∈ vs, x < G.length) (lw : ∀ x ∈ ws, x < G.length) {t n : Int}
    (h : (vs.all fun x => decide ((valsL p I (belowSt G vs ws).1).getD x 0 ≤ 1)) = true ∧ (ws.all fun x => decide ((valsL p I (belowSt G vs ws).1).getD x 0 ≤ 1)) = true ∧ t = (((if numK (valsL p I (belowSt G vs ws).1) vs l < numK (valsL p I (belowSt G vs ws).1) ws l then 1 else 0) : Nat) : Int) ∧ n = 0) : Concl (valsL p I (belowSt G vs ws).1) (belowSt G vs ws).2 [] t n := by
  obtain ⟨b1, b2, rfl, rfl⟩ := h
  have hb1 := bits_back (I := I) (pre_below G vs ws) lv b1
  have hb2 := bits_back (I := I) (pre_below G vs ws) lw b2
  obtain ⟨e, h1, h2, h3⟩ := less_sem (I := I) hp G vs ws l hv hw hb1 hb2
  rw [h1, numK_old hv hb1, numK_old hw hb2]
  exact .inl ⟨rfl, h2, by rw [h3]⟩
end Go.Proofs.YtkcdlbclodjjhaaGreat

/- Contracts of the reference's Inputs and Count. (Printed by wip/tools/gen_qf.py.) -/
namespace Go.Proofs.YtkcdlbclodjjhaaGreat
open Go.RowKit

theorem allLt_succ {p : Nat} {l : List Nat} {k : Nat} (hk : k < l.length) (h : allLt p (l.take k) = true) (h1 : l[k] < p) : allLt p (l.take (k + 1)) = true := by
  unfold allLt at *
  rw [List.take_succ_eq_append_getElem hk, List.all_append, h]
  simp [h1]
theorem allLt_bad {p : Nat} {l : List Nat} {k : Nat} (hk : k < l.length) (h1 : p ≤ l[k]) : allLt p l = false := by
  unfold allLt
  rw [List.all_eq_false]
  exact ⟨l[k], List.getElem_mem hk, by simp; omega⟩
def ltErr (p : Nat) (l : List Nat) : Int := if allLt p l then 0 else 2
def IPost (r : Int) (w : World) (e : Ending) (w' : World) : Prop := e = .returned (.int .i64 r) ∧ w = w'
set_option maxRecDepth 100000 in
theorem within_some (p : Nat) (l : List Nat) (hl : l.length ≤ 9223372036854775807) (ad : Addr) (c : Nat) (w : World) (hR : Reads w (some ad) (uCells l)) : Calls Tryz.prog 83 #[.int .u64 p, .slice (some ad) l.length c] w (IPost (ltErr p l) w) := by
  have HR := Lib.hid hR; clear hR
  go_enter Tryz.func83, Tryz.ntmps83
  go_wp2
  go_loopg [9] l.length (fun g v wr => ∃ k : Nat, k ≤ l.length ∧ g = l.length - k ∧ v = .int .i64 k ∧ Hid (allLt p (l.take k) = true) ∧ w = wr)
  case atStart => exact ⟨0, by omega, rfl, rfl, rfl, rfl⟩
  case round =>
    obtain ⟨k, hk, rfl, rfl, hd, rfl⟩ := hrel
    by_cases hlt : k < l.length
    · have q0 := HR.out.some_u k hlt
      by_cases h1 : l[k] < p
      · have i1 : (l[k] : Int) < (p : Int) := by omega
        have HN := Lib.hid (allLt_succ hlt hd.out h1)
        clear hd h1
        go_wp2
        go_roundg (l.length - (k + 1))
        case measure => omega
        case rel => exact ⟨k + 1, by omega, rfl, by go_num, HN.out, rfl⟩
      · have i1 : (p : Int) ≤ (l[k] : Int) := by omega
        have HN := Lib.hid (allLt_bad hlt (by omega : p ≤ l[k]))
        clear hd h1
        go_wp2
        go_ret
        exact ⟨ret_e (by unfold ltErr; rw [HN.out]; rfl), rfl⟩
    · obtain rfl : k = l.length := by omega
      have hd' := hd.out
      rw [List.take_length] at hd'
      have HN := Lib.hid hd'; clear hd hd'
      go_wp2
      go_ret
      exact ⟨ret_e (by unfold ltErr; rw [HN.out]; rfl), rfl⟩
set_option maxRecDepth 100000 in
theorem within_none (p : Nat) (A : Option Addr) (c : Nat) (w : World) : Calls Tryz.prog 83 #[.int .u64 p, .slice A 0 c] w (IPost 0 w) := by
  go_enter Tryz.func83, Tryz.ntmps83
  go_wp2
  go_loopg [9] 0 (fun g v wr => v = .int .i64 0 ∧ w = wr)
  case atStart => exact ⟨rfl, rfl⟩
  case round =>
    obtain ⟨rfl, rfl⟩ := hrel
    go_wp2
    go_ret
    exact ⟨rfl, rfl⟩
theorem withinL_any (p : Nat) (l : List Nat) (hl : l.length ≤ 9223372036854775807) (A : Option Addr) (c : Nat) (w : World) (hR : Reads w A (uCells l)) : Calls Tryz.prog 83 #[.int .u64 p, .slice A l.length c] w (IPost (ltErr p l) w) := by
  have hR' := hR
  rcases hR with h | ⟨ad, rfl, _⟩
  · have := congrArg List.length h
    simp [uCells] at this
    subst this
    exact within_none p A c w
  · exact within_some p l hl ad c w hR'
def countK (kind : Int) (l : List Gat) : Nat := (l.filter fun g => g.1 == kind).length
theorem countK_succ (kind : Int) (l : List Gat) (k : Nat) (h : k < l.length) : countK kind (l.take (k + 1)) = countK kind (l.take k) + (if l[k].1 == kind then 1 else 0) := by
  unfold countK
  rw [List.take_succ_eq_append_getElem h, List.filter_append, List.length_append]
  congr 1
  by_cases hk : (l[k].1 == kind) = true
  · simp [hk]
  · simp [hk]
theorem countK_le (kind : Int) (l : List Gat) (k : Nat) : countK kind (l.take k) ≤ k := by
  unfold countK
  have h1 := List.length_filter_le (fun g : Gat => g.1 == kind) (l.take k)
  have h2 := List.length_take_le k l
  omega
set_option maxHeartbeats 1000000 in
set_option maxRecDepth 100000 in
theorem rcount_any (C : Cir) (kind : Int) (w : World) (hC : HoldsC w C) :
    Calls Tryz.prog 41 #[.agg #[.slice C.SA C.slots.length C.sc, .slice C.GA C.gates.length C.gc, .slice C.EA C.exits.length C.ec], .int .i64 kind] w (GatePost (countK kind C.gates) w) := by
  have hb0 : Below w.heap.size w (w.alloc (.cells #[.slice C.SA C.slots.length C.sc, .slice C.GA C.gates.length C.gc, .slice C.EA C.exits.length C.ec] 36)) := (Below.refl _ _).alloc (Nat.le_refl _) _
  have HC := Lib.hid (hC.below hb0)
  obtain ⟨n1, n2, n3⟩ := hC.n
  clear hC
  go_enter Tryz.func41, Tryz.ntmps41
  go_wp2
  go_loopg [5, 11] C.gates.length (fun g a v wr => ∃ k : Nat, k ≤ C.gates.length ∧ g = C.gates.length - k ∧ a = .int .i64 (countK kind (C.gates.take k) : Nat) ∧ v = .int .i64 k ∧ Below (w.alloc (.cells #[.slice C.SA C.slots.length C.sc, .slice C.GA C.gates.length C.gc, .slice C.EA C.exits.length C.ec] 36)).heap.size (w.alloc (.cells #[.slice C.SA C.slots.length C.sc, .slice C.GA C.gates.length C.gc, .slice C.EA C.exits.length C.ec] 36)) wr)
  case atStart => exact ⟨0, by omega, rfl, rfl, rfl, Below.refl _ _⟩
  case round =>
    obtain ⟨k, hk, rfl, rfl, rfl, hbel⟩ := hrel
    have HB := Lib.hid hbel; clear hbel
    by_cases hlt : k < C.gates.length
    · obtain ⟨ad, had, q0, q1, q2, q3⟩ := (HC.out.below HB.out).g.gat k hlt
      rw [had]
      have hle := countK_le kind C.gates k
      have hsu := countK_succ kind C.gates k hlt
      generalize countK kind (C.gates.take k) = n at hle hsu
      generalize C.gates[k].2.1 = y1 at q1
      generalize C.gates[k].2.2.1 = y2 at q2
      generalize C.gates[k].2.2.2 = y3 at q3
      rcases Bool.eq_false_or_eq_true (C.gates[k].1 == kind) with hq | hq
      · rw [hq] at hsu
        have HSU := Lib.hid hsu; clear hsu
        go_wp2
        rw [← had]
        go_roundg (C.gates.length - (k + 1))
        case measure => omega
        case rel => exact ⟨k + 1, by omega, rfl, by rw [HSU.out]; go_num, by go_num, HB.out.alloc HB.out.size _⟩
      · rw [hq] at hsu
        have HSU := Lib.hid hsu; clear hsu
        go_wp2
        rw [← had]
        go_roundg (C.gates.length - (k + 1))
        case measure => omega
        case rel => exact ⟨k + 1, by omega, rfl, by rw [HSU.out]; rfl, by go_num, HB.out.alloc HB.out.size _⟩
    · obtain rfl : k = C.gates.length := by omega
      go_wp2
      go_ret
      exact ⟨ret_e (by rw [List.take_length]), below_box HB.out⟩
/-- A slot's input as it counts. -/
def eff1 (s : Slo) (x : Nat) : Nat := if s.2 && decide (1 < x) then 0 else x
def effL (s : List Slo) (x : List Nat) : List Nat := List.zipWith eff1 s x
/-- The first k are turned, the rest are as they came. -/
def partL (s : List Slo) (x : List Nat) (k : Nat) : List Nat := effL (s.take k) (x.take k) ++ x.drop k
theorem partL_zero (s : List Slo) (x : List Nat) : partL s x 0 = x := by simp [partL, effL]
theorem partL_all {s : List Slo} {x : List Nat} (h : x.length = s.length) : partL s x s.length = effL s x := by
  unfold partL
  rw [List.take_length, ← h, List.take_length, List.drop_length, List.append_nil]
theorem effL_len {s : List Slo} {x : List Nat} {k : Nat} (h1 : k ≤ s.length) (h2 : k ≤ x.length) : (effL (s.take k) (x.take k)).length = k := by
  unfold effL
  rw [List.length_zipWith, List.length_take, List.length_take]; omega
theorem partL_at {s : List Slo} {x : List Nat} {k : Nat} (h1 : k < s.length) (h2 : k < x.length) : (partL s x k)[k]? = some x[k] := by
  unfold partL
  rw [List.getElem?_append_right (by rw [effL_len (by omega) (by omega)]; omega), effL_len (by omega) (by omega), List.getElem?_drop, show k + (k - k) = k by omega, List.getElem?_eq_getElem h2]
theorem partL_succ {s : List Slo} {x : List Nat} {k : Nat} (h1 : k < s.length) (h2 : k < x.length) : partL s x (k + 1) = (partL s x k).set k (eff1 s[k] x[k]) := by
  unfold partL
  have hl := effL_len (k := k) (s := s) (x := x) (by omega) (by omega)
  have e : effL (s.take (k + 1)) (x.take (k + 1)) = effL (s.take k) (x.take k) ++ [eff1 s[k] x[k]] := by
    unfold effL
    rw [List.take_succ_eq_append_getElem h1, List.take_succ_eq_append_getElem h2, List.zipWith_append (by rw [List.length_take, List.length_take]; omega)]
    rfl
  rw [e, List.set_append_right _ _ (by rw [hl]; omega), hl, show k - k = 0 by omega, List.drop_eq_getElem_cons h2, List.append_assoc]
  rfl
def inErr (p : Nat) (C : Cir) (x : List Nat) : Int := if checkErr p C = 0 then (if x.length = C.slots.length ∧ allLt p x = true then 0 else 2) else checkErr p C
def InPost (p : Nat) (C : Cir) (x : List Nat) (w : World) (e : Ending) (w' : World) : Prop :=
  ((inErr p C x ≠ 0 ∧ e = .returned (.tuple #[.slice none 0 0, .int .i64 (inErr p C x)])) ∨
   (inErr p C x = 0 ∧ ∃ v, e = .returned (.tuple #[v, .int .i64 0]) ∧ w'.ownsRow w.heap.size 22 1 v x.length (uCells (effL C.slots x)))) ∧ Below w.heap.size w w'
theorem u_set (l : List Nat) (k x : Nat) : (uCells l).set k (.int .u64 x) = uCells (l.set k x) := by simp [uCells, List.map_set]
theorem eff1_true {s : Slo} {x : Nat} (h : s.2 = true) (h1 : 1 < x) : eff1 s x = 0 := by simp [eff1, h, h1]
theorem eff1_small {s : Slo} {x : Nat} (h1 : ¬ 1 < x) : eff1 s x = x := by simp [eff1, h1]
theorem eff1_false {s : Slo} {x : Nat} (h : s.2 = false) : eff1 s x = x := by simp [eff1, h]
theorem set_same {l : List Nat} {k x : Nat} (h : l[k]? = some x) : l.set k x = l := by
  obtain ⟨h1, h2⟩ := List.getElem?_eq_some_iff.1 h
  subst h2
  exact List.set_getElem_self h1
theorem u_at {l : List Nat} {k x : Nat} (h : l[k]? = some x) : (uCells l)[k]? = some (.int .u64 x) := by simp [uCells, h]
theorem allLt_eff {p : Nat} (h0 : 0 < p) : ∀ {s : List Slo} {x : List Nat}, allLt p x = true → allLt p (effL s x) = true
  | [], _, _ => rfl
  | _ :: _, [], _ => rfl
  | s :: sr, x :: xr, h => by
    unfold allLt at h
    rw [List.all_cons, Bool.and_eq_true] at h
    have h2 := allLt_eff (p := p) h0 (s := sr) (x := xr) h.2
    have h1 : x < p := by simpa using h.1
    have h3 : eff1 s x < p := by unfold eff1; split <;> omega
    unfold allLt effL at h2 ⊢
    rw [List.zipWith_cons_cons, List.all_cons, h2]
    simp [h3]
theorem u_len (l : List Nat) : (uCells l).length = l.length := by simp [uCells]
theorem reads_some {w : World} {ad : Addr} {cs : List Value} (h : Reads w (some ad) cs) (w' : World) (hb : Below w.heap.size w w') : ∀ j u, cs[j]? = some u → w'.cell? (ad.add j) = some u := by
  rcases h.below hb with h | ⟨ad', e, h⟩
  · intro j u hj; rw [h] at hj; simp at hj
  · injection e with e; subst e; exact h
theorem own_zero {w : World} {base : Nat} {e : TypeId} {size n : Nat} {v : Value} {xs : List Value} (h : w.ownsRow base e size v (0 + n) ([] ++ xs)) : w.ownsRow base e size v n xs := by rwa [Nat.zero_add, List.nil_append] at h
set_option maxHeartbeats 4000000 in
set_option maxRecDepth 100000 in
theorem rinputs_some (p : Nat) (hp : p < 18446744073709551616) (C : Cir) (x : List Nat) (hx : x.length ≤ 17592186044416) (aa : Addr) (c : Nat) (w : World) (hC : HoldsC w C) (hA : Reads w (some aa) (uCells x)) (hck0 : checkErr p C = 0) (hl : x.length = C.slots.length) (ha : allLt p x = true) :
    Calls Tryz.prog 43 #[.int .u64 p, .agg #[.slice C.SA C.slots.length C.sc, .slice C.GA C.gates.length C.gc, .slice C.EA C.exits.length C.ec], (.slice (some aa) x.length c)] w (InPost p C x w) := by
  have hb0 : Below w.heap.size w (w.alloc (.cells #[.slice C.SA C.slots.length C.sc, .slice C.GA C.gates.length C.gc, .slice C.EA C.exits.length C.ec] 36)) := (Below.refl _ _).alloc (Nat.le_refl _) _
  have HA := Lib.hid (hA.below hb0)
  have HC := Lib.hid (hC.below hb0)
  obtain ⟨n1, n2, n3⟩ := hC.n
  have hck := rcheck_any p hp C _ (hC.below hb0)
  rw [hck0] at hck
  have HCK := Lib.hid hck; clear hck
  have hlt := fun W (h : Reads W (some aa) (uCells x)) => withinL_any p x (by omega) (some aa) c W h
  rw [show ltErr p x = 0 by unfold ltErr; rw [if_pos ha]] at hlt
  rw [hl] at hlt
  have HLT := Lib.hid hlt; clear hlt
  have HIN : Hid (inErr p C x = 0) := Lib.hid (by unfold inErr; rw [if_pos hck0, if_pos ⟨hl, ha⟩])
  clear hC hA hb0 ha hck0
  have HL := Lib.hid hl
  unfold InPost
  rw [hl]
  clear hl
  go_enter Tryz.func43, Tryz.ntmps43
  go_wp2_with (first | (go_at_call 17; refine HCK.out.mono ?_; rintro e w1 ⟨rfl, hb1⟩; have c0 := hb1.cell (p := ⟨w.heap.size, 0, none⟩) (by simp); have HB1 := Lib.hid hb1; clear hb1) | (go_at_call 83; refine (HLT.out _ (HA.out.below HB1.out)).mono ?_; rintro e w2 ⟨rfl, rfl⟩) | (at_builtin; have hr3 := reads_some (HA.out.below HB1.out) (w1.alloc (.cells #[] 22)) ((Below.refl _ _).alloc (Nat.le_refl _) _); refine app_slice w1.heap.size rfl _ _ 24 22 _ 8 rfl Tryz.underlying24 infoU rfl (by decide) _ 0 [] (uCells x) rfl aa C.slots.length c rfl (by rw [u_len]; exact HL.out) hr3 (by intro u hu; simp [uCells] at hu; obtain ⟨y, _, rfl⟩ := hu; rfl) (own_empty w1 _) (by simp) (by have := HL.out; omega) ?_; intro v w3 hown3 hg3; have hb3 := ((Below.refl w1.heap.size w1).alloc (Nat.le_refl _) _).grown hg3 (by simp) (fun q hq => by cases hq; exact Nat.le_refl _); have c0 := (hb3.mono HB1.out.size).cell (p := ⟨w.heap.size, 0, none⟩) (by simp); have HO := Lib.hid (own_zero hown3); clear hown3 hg3 hr3; have HB3 := Lib.hid (below_alive HB1.out hb3); clear hb3))
  go_loopg [36] C.slots.length (fun g i wr => ∃ k : Nat, k ≤ C.slots.length ∧ g = C.slots.length - k ∧ i = .int .i64 k ∧ wr.ownsRow (w.heap.size + 1) 22 1 v C.slots.length (uCells (partL C.slots x k)) ∧ Below (w.alloc (.cells #[.slice C.SA C.slots.length C.sc, .slice C.GA C.gates.length C.gc, .slice C.EA C.exits.length C.ec] 36)).heap.size (w.alloc (.cells #[.slice C.SA C.slots.length C.sc, .slice C.GA C.gates.length C.gc, .slice C.EA C.exits.length C.ec] 36)) wr)
  case atStart => exact ⟨0, by omega, rfl, rfl, by rw [partL_zero]; exact own_lower HO.out (by have h5 := HB1.out.size; simpa using h5), HB3.out⟩
  case round =>
    obtain ⟨k, hk, rfl, rfl, hown, hbel⟩ := hrel
    clear c0
    have HB := Lib.hid hbel; clear hbel
    have HOW := Lib.hid hown; clear hown HO HB3
    by_cases hlt : k < C.slots.length
    · obtain ⟨g, cap, rfl, hg1, hg2⟩ := own_form HOW.out (by omega)
      have hgl := (HOW.out.lt g rfl).2
      obtain ⟨ad, had, q0, q1⟩ := (HC.out.below HB.out).s.slo k hlt
      have c0 := HB.out.cell (p := ⟨w.heap.size, 0, none⟩) (by simp)
      have hsz : w.heap.size < wr.heap.size := by have h5 := HB.out.size; simp at h5; omega
      have hkx : k < x.length := by have := HL.out; omega
      have r0 := (HOW.out.cellAt k (by omega)).trans (u_at (partL_at hlt hkx))
      have rf := HOW.out.frozenAt k
      have HPS := Lib.hid (partL_succ hlt hkx)
      have HPA := Lib.hid (partL_at hlt hkx)
      rw [had]
      have hno : ¬ g = wr.heap.size := by omega
      rcases Bool.eq_false_or_eq_true C.slots[k].2 with hb | hb
      · by_cases h1 : 1 < x[k]
        · have i1 : (1 : Int) < (x[k] : Int) := by omega
          have HE := Lib.hid (eff1_true hb h1)
          rw [hb] at q1
          generalize x[k] = xk at *
          go_wp2
          rw [← had]
          go_roundg (C.slots.length - (k + 1))
          case measure => omega
          case rel => exact ⟨k + 1, by omega, rfl, by go_num, by rw [HPS.out, HE.out, ← u_set]; exact ((HOW.out.stored k _).1).alloc _, (HB.out.setCell (p := ⟨g, k, none⟩) (by simp; omega) _).alloc (by have h5 := HB.out.size; simpa using h5) _⟩
        · have i1 : (x[k] : Int) ≤ 1 := by omega
          have HE := Lib.hid (eff1_small (s := C.slots[k]) h1)
          rw [hb] at q1
          have HPN : Hid (partL C.slots x (k + 1) = partL C.slots x k) := Lib.hid (by rw [HPS.out, HE.out]; exact set_same HPA.out)
          generalize x[k] = xk at *
          go_wp2
          rw [← had]
          go_roundg (C.slots.length - (k + 1))
          case measure => omega
          case rel => exact ⟨k + 1, by omega, rfl, by go_num, by rw [HPN.out]; exact HOW.out.alloc _, HB.out.alloc HB.out.size _⟩
      · have HE := Lib.hid (eff1_false (x := x[k]) hb)
        rw [hb] at q1
        have HPN : Hid (partL C.slots x (k + 1) = partL C.slots x k) := Lib.hid (by rw [HPS.out, HE.out]; exact set_same HPA.out)
        go_wp2
        rw [← had]
        go_roundg (C.slots.length - (k + 1))
        case measure => omega
        case rel => exact ⟨k + 1, by omega, rfl, by go_num, by rw [HPN.out]; exact HOW.out.alloc _, HB.out.alloc HB.out.size _⟩
    · obtain rfl : k = C.slots.length := by omega
      go_wp2
      go_ret2
      exact ⟨.inr ⟨HIN.out, _, rfl, by have h := HOW.out; rw [partL_all HL.out] at h; exact own_lower h (by omega)⟩, below_box HB.out⟩
end Go.Proofs.YtkcdlbclodjjhaaGreat

/- Plain law: a valid circuit stays valid behind an act. -/
namespace Go.Proofs.YtkcdlbclodjjhaaGreat
open Go.RowKit

theorem gates_fitQ {p sn : Nat} {G : List Gat} (h : Fits13 p sn G) : gatesErr p sn 0 G = 0 := by
  have key : ∀ d k, k + d = G.length → gatesErr p sn k (G.drop k) = 0 := by
    intro d
    induction d with
    | zero => intro k hk; obtain rfl : k = G.length := by omega
              exact gatesErr_end
    | succ d ih => intro k hk; rw [gatesErr_at (by omega), if_pos (h k (by omega))]; exact ih (k + 1) (by omega)
  exact key G.length 0 (by omega)
theorem exits_fitQ {m : Int} {l : List Exi} (h : ∀ x ∈ l, xErr m x = 0) : exitsErr m l = 0 := by
  induction l with
  | nil => rfl
  | cons x r ih => unfold exitsErr; rw [if_pos (h x (by simp))]; exact ih fun y hy => h y (by simp [hy])
theorem outside_mono {m m' : Nat} (hm : m ≤ m') {g : Int} (h : outside m g = false) : outside m' g = false := by
  simp only [outside, Bool.or_eq_false_iff, decide_eq_false_iff_not] at h ⊢; omega
theorem xErr_mono {m m' : Nat} (hm : m ≤ m') {x : Exi} (h : xErr m x = 0) : xErr m' x = 0 := by
  unfold xErr exitErr at h ⊢
  split at h
  · exact absurd h (by decide)
  · rename_i h1
    rw [if_neg h1]
    split at h
    · exact absurd h (by decide)
    · rename_i h2
      rw [if_neg h2]
      split at h
      · exact absurd h (by decide)
      · rename_i h3
        rw [if_neg]
        intro h4
        obtain ⟨y, hy, h5⟩ := List.any_eq_true.1 h4
        have h6 : x.gl.any (outside m) = false := by simpa using h3
        have h7 := List.any_eq_false.1 h6 y hy
        rw [outside_mono hm (by simpa using h7)] at h5
        cases h5
theorem xErr_same {m : Int} {x y : Exi} (h1 : y.tl = x.tl) (h2 : y.gl = x.gl) : xErr m y = xErr m x := by unfold xErr; rw [h1, h2]
theorem gErr_mono {p sn sm k : Nat} (hs : sn ≤ sm) {g : Gat} (h : gErr p sn k g = 0) : gErr p sm k g = 0 := by
  unfold gErr gateErr at h ⊢
  by_cases h1 : g.1 = 1
  · rw [if_pos h1] at h ⊢
    split at h
    · exact absurd h (by decide)
    · rename_i h2
      rw [if_neg h2]
      split at h
      · exact absurd h (by decide)
      · rw [if_neg (by omega)]
  · rw [if_neg h1] at h ⊢; exact h
theorem fits_mono {p sn sm : Nat} (hs : sn ≤ sm) {G : List Gat} (h : Fits13 p sn G) : Fits13 p sm G := fun k hk => gErr_mono hs (h k hk)
/-- A board's circuit is valid. -/
structure Valid (p : Nat) (sl : List Slo) (G : List Gat) (xs : List Exi) : Prop where
  bs : sl.any badSlot = false
  fits : Fits13 p sl.length G
  ex : ∀ x ∈ xs, xErr G.length x = 0
  ns : sl.length ≤ 256
  ng : G.length ≤ 65536
  nk : ∀ g ∈ G, 0 ≤ g.2.2.2
theorem Valid.nil (p : Nat) : Valid p [] [] [] := ⟨rfl, fun k h => by simp at h, by simp, by simp, by simp, by simp⟩
theorem Valid.check {p : Nat} {sl : List Slo} {G : List Gat} {xs : List Exi} (h : Valid p sl G xs) (hP : isP p = true) (hx : xs.length ≤ 4096) {ys : List Exi} (hy : ys.map Exi.l = xs.map Exi.l) (S Ga E : Option Addr) (sc gc ec : Nat) : checkErr p (⟨sl, G, ys, S, Ga, E, sc, gc, ec⟩ : Cir) = 0 := by
  have hlen : ys.length = xs.length := by have := congrArg List.length hy; simpa using this
  have ht : ¬ tooBig (⟨sl, G, ys, S, Ga, E, sc, gc, ec⟩ : Cir) := by
    have h1 := h.ns; have h2 := h.ng
    unfold tooBig
    simp only [not_or]
    omega
  have hys : ∀ y ∈ ys, xErr G.length y = 0 := by
    intro y hm
    have h1 : Exi.l y ∈ xs.map Exi.l := by rw [← hy]; exact List.mem_map_of_mem hm
    obtain ⟨x, hxm, hxe⟩ := List.mem_map.1 h1
    have e1 : x.tl = y.tl := congrArg Prod.fst hxe
    have e2 : x.gl = y.gl := congrArg Prod.snd hxe
    rw [← xErr_same e1 e2]
    exact h.ex x hxm
  unfold checkErr
  rw [if_neg (by rw [hP]; simp), if_neg ht, if_neg (by rw [h.bs]; simp), if_pos (by exact gates_fitQ h.fits)]
  exact exits_fitQ hys
/-- An act that is done keeps a circuit valid. -/
theorem Valid.step {p m : Nat} (hp : 2 < p) (hm : m < 15) {a b c k at_ : Int} {vs ws : List Int} {s : Slo} {g : Gat} {x : Exi} {sl sl' : List Slo} {G G' : List Gat} {xs xs' : List Exi} {r : List Nat} (h : Valid p sl G xs) (hz : G'.length ≤ 65536) (hkk : ∀ g ∈ G', 0 ≤ g.2.2.2)
    (hw : wrongN p sl.length G.length xs.length m a b c k vs ws s g x = 0)
    (ho : (m = 0 ∧ at_ = (G.length : Nat) ∧ r = [] ∧ sl' = sl ++ [s] ∧ G' = G ++ [((1, ((sl.length : Nat) : Int), 0, 0) : Gat)] ∧ xs' = xs) ∨
     (m = 1 ∧ at_ = (G.length : Nat) ∧ r = [] ∧ sl' = sl ∧ G' = G ++ [g] ∧ xs' = xs) ∨
     (m = 2 ∧ at_ = 0 ∧ r = [] ∧ sl' = sl ∧ G' = G ∧ ∃ x' : Exi, (x'.tl = x.tl ∧ x'.gl = x.gl ∧ (x'.A = none → x'.c = 0) ∧ (x'.B = none → x'.d = 0)) ∧ xs' = xs ++ [x']) ∨
     (m = 3 ∧ at_ = (G.length : Nat) ∧ r = [] ∧ sl' = sl ∧ G' = G ++ [((2, 0, 0, k) : Gat)] ∧ xs' = xs) ∨
     (4 ≤ m ∧ at_ = ((okAt m G vs ws : Nat) : Int) ∧ r = okR m G vs ws ∧ sl' = sl ∧ G' = okG m G a b c vs ws ∧ xs' = xs)) : Valid p sl' G' xs' := by
  rcases ho with ⟨rfl, _, _, rfl, rfl, rfl⟩ | ⟨rfl, _, _, rfl, rfl, rfl⟩ | ⟨rfl, _, _, rfl, rfl, x', ⟨e1, e2, _⟩, rfl⟩ | ⟨rfl, _, _, rfl, rfl, rfl⟩ | ⟨h4, _, _, rfl, rfl, rfl⟩
  · have hw' : slotErr sl.length G.length s = 0 := hw
    unfold slotErr at hw'
    split at hw'
    · exact absurd hw' (by decide)
    · rename_i h1
      split at hw'
      · exact absurd hw' (by decide)
      · rename_i h2
        refine ⟨?_, ?_, fun y hy => xErr_mono (by simp) (h.ex y hy), by simp; omega, hz, hkk⟩
        · rw [List.any_append, h.bs, List.any_cons, List.any_nil, Bool.or_false, Bool.false_or]
          simp only [badSlot, Bool.or_eq_false_iff, decide_eq_false_iff_not]
          omega
        · rw [List.length_append]
          refine fits_snoc (fits_mono (by omega) h.fits) ?_
          show gateErr p _ _ 1 (sl.length : Int) 0 0 = 0
          unfold gateErr
          rw [if_pos rfl, if_neg (by omega), if_neg (by simp; omega)]
  · have hw' : putErr p _ G.length g = 0 := hw
    unfold putErr at hw'
    split at hw'
    · rename_i h1; exact absurd hw' h1
    · rename_i h1
      exact ⟨h.bs, fits_snoc h.fits (by simpa using h1), fun y hy => xErr_mono (by simp) (h.ex y hy), h.ns, hz, hkk⟩
  · have hw' : tellErr G'.length _ x = 0 := hw
    unfold tellErr at hw'
    split at hw'
    · rename_i h1; exact absurd hw' h1
    · rename_i h1
      refine ⟨h.bs, h.fits, fun y hy => ?_, h.ns, hz, hkk⟩
      rcases List.mem_append.1 hy with h2 | h2
      · exact h.ex y h2
      · rw [List.mem_singleton.1 h2, xErr_same e1 e2]
        simpa using h1
  · have hw' : putErr p _ G.length (2, 0, 0, k) = 0 := hw
    unfold putErr at hw'
    split at hw'
    · rename_i h1; exact absurd hw' h1
    · rename_i h1
      exact ⟨h.bs, fits_snoc h.fits (by simpa using h1), fun y hy => xErr_mono (by simp) (h.ex y hy), h.ns, hz, hkk⟩
  · have hO := ok_law hp h4 hm hw h.fits
    obtain ⟨L, hL⟩ := hO.pre
    exact ⟨h.bs, hO.fits, fun y hy => xErr_mono (by rw [hL]; simp) (h.ex y hy), h.ns, hz, hkk⟩
end Go.Proofs.YtkcdlbclodjjhaaGreat
