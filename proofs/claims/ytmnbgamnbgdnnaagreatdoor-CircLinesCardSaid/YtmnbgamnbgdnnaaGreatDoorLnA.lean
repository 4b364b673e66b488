/- Plain law of CircLines: without products, and without slots that must be bits, the values are affine in the inputs. -/
import Derived.Test.YtmnbgamnbgdnnaaGreatDoorMb
namespace Go.Proofs.YtmnbgamnbgdnnaaGreatDoor
open Go.RowKit

theorem mod_of {p X Y i j : Nat} (h : X + p * i = Y + p * j) : X % p = Y % p := by
  rw [← Nat.add_mul_mod_self_left X p i, h, Nat.add_mul_mod_self_left]
theorem mod_to {p X Y : Nat} (h : X % p = Y % p) : ∃ u v, X + p * u = Y + p * v :=
  ⟨Y / p, X / p, by have h1 := Nat.mod_add_div X p; have h2 := Nat.mod_add_div Y p; omega⟩
theorem mod_q (p X : Nat) : ∃ q, X % p + p * q = X := ⟨X / p, Nat.mod_add_div X p⟩
theorem aff_add {p l1 l2 n1 n2 a1 a2 b1 b2 : Nat} (h1 : (l1 + n1) % p = (a1 + b1) % p) (h2 : (l2 + n2) % p = (a2 + b2) % p) :
    ((l1 + l2) % p + (n1 + n2) % p) % p = ((a1 + a2) % p + (b1 + b2) % p) % p := by
  obtain ⟨u, v, e1⟩ := mod_to h1
  obtain ⟨u', v', e2⟩ := mod_to h2
  obtain ⟨q1, f1⟩ := mod_q p (l1 + l2)
  obtain ⟨q2, f2⟩ := mod_q p (n1 + n2)
  obtain ⟨q3, f3⟩ := mod_q p (a1 + a2)
  obtain ⟨q4, f4⟩ := mod_q p (b1 + b2)
  refine mod_of (i := u + u' + q1 + q2) (j := v + v' + q3 + q4) ?_
  simp only [Nat.mul_add]
  omega
theorem aff_sub {p l1 l2 n1 n2 a1 a2 b1 b2 : Nat} (h1 : (l1 + n1) % p = (a1 + b1) % p) (h2 : (l2 + n2) % p = (a2 + b2) % p) (k1 : l2 ≤ p) (k2 : n2 ≤ p) (k3 : a2 ≤ p) (k4 : b2 ≤ p) :
    ((l1 + p - l2) % p + (n1 + p - n2) % p) % p = ((a1 + p - a2) % p + (b1 + p - b2) % p) % p := by
  obtain ⟨u, v, e1⟩ := mod_to h1
  obtain ⟨u', v', e2⟩ := mod_to h2
  obtain ⟨q1, f1⟩ := mod_q p (l1 + p - l2)
  obtain ⟨q2, f2⟩ := mod_q p (n1 + p - n2)
  obtain ⟨q3, f3⟩ := mod_q p (a1 + p - a2)
  obtain ⟨q4, f4⟩ := mod_q p (b1 + p - b2)
  refine mod_of (i := u + v' + q1 + q2) (j := v + u' + q3 + q4) ?_
  simp only [Nat.mul_add]
  omega
theorem aff_mul {p l n a b : Nat} (K : Nat) (h : (l + n) % p = (a + b) % p) : (l * K % p + n * K % p) % p = (a * K % p + b * K % p) % p := by
  obtain ⟨u, v, e⟩ := mod_to h
  obtain ⟨q1, f1⟩ := mod_q p (l * K)
  obtain ⟨q2, f2⟩ := mod_q p (n * K)
  obtain ⟨q3, f3⟩ := mod_q p (a * K)
  obtain ⟨q4, f4⟩ := mod_q p (b * K)
  have e' := congrArg (· * K) e
  simp only [Nat.add_mul, Nat.mul_assoc] at e'
  refine mod_of (i := u * K + q1 + q2) (j := v * K + q3 + q4) ?_
  simp only [Nat.mul_add]
  omega
/-- Four lists, entry by entry: the first two add up to what the last two add up to. -/
def Aff (p : Nat) (L N A B : List Nat) : Prop := (L.length = N.length ∧ L.length = A.length ∧ L.length = B.length) ∧ ∀ j, (L.getD j 0 + N.getD j 0) % p = (A.getD j 0 + B.getD j 0) % p
def Small (p : Nat) (L : List Nat) : Prop := ∀ j, L.getD j 0 < p
theorem snoc_getD (l : List Nat) (x j : Nat) : (l ++ [x]).getD j 0 = if j < l.length then l.getD j 0 else if j = l.length then x else 0 := by
  simp only [List.getD_eq_getElem?_getD]
  split
  · rename_i h; rw [List.getElem?_append_left h]
  · split
    · rename_i h; subst h; simp
    · rw [List.getElem?_eq_none (by simp; omega)]; rfl
theorem Small.snoc {p : Nat} {l : List Nat} {x : Nat} (h0 : 0 < p) (h : Small p l) (hx : x < p) : Small p (l ++ [x]) := fun j => by
  rw [snoc_getD]
  split
  · exact h j
  · split <;> omega
theorem Aff.snoc {p : Nat} {L N A B : List Nat} {x n a b : Nat} (h : Aff p L N A B) (hx : (x + n) % p = (a + b) % p) : Aff p (L ++ [x]) (N ++ [n]) (A ++ [a]) (B ++ [b]) := by
  obtain ⟨⟨h1, h2, h3⟩, h4⟩ := h
  refine ⟨⟨by simp; omega, by simp; omega, by simp; omega⟩, fun j => ?_⟩
  rw [snoc_getD, snoc_getD, snoc_getD, snoc_getD, ← h1, ← h2, ← h3]
  split
  · exact h4 j
  · split
    · exact hx
    · rfl
theorem gval_small {p : Nat} (h0 : 0 < p) {I V : List Nat} (hI : Small p I) {g : Gat} (hK : g.1 = 2 → g.2.2.2 < p) : gval p I V g < p := by
  unfold gval
  split
  · exact hI _
  split
  · rename_i h; have := hK h; omega
  split
  · exact Nat.mod_lt _ h0
  split
  · exact Nat.mod_lt _ h0
  split
  · exact Nat.mod_lt _ h0
  · exact Nat.mod_lt _ h0
theorem aff_gval {p : Nat} {I J K M L N A B : List Nat} (hI : Aff p I J K M) (hV : Aff p L N A B) (s1 : Small p L) (s2 : Small p N) (s3 : Small p A) (s4 : Small p B) {g : Gat} (h5 : g.1 ≠ 5) :
    (gval p I L g + gval p J N g) % p = (gval p K A g + gval p M B g) % p := by
  unfold gval
  split
  · exact hI.2 _
  split
  · rfl
  split
  · exact aff_add (hV.2 _) (hV.2 _)
  split
  · exact aff_sub (hV.2 _) (hV.2 _) (Nat.le_of_lt (s1 _)) (Nat.le_of_lt (s2 _)) (Nat.le_of_lt (s3 _)) (Nat.le_of_lt (s4 _))
  · exact aff_mul _ (hV.2 _)
theorem aff_vals {p : Nat} (h0 : 0 < p) {I J K M : List Nat} (hI : Aff p I J K M) (i1 : Small p I) (i2 : Small p J) (i3 : Small p K) (i4 : Small p M) : ∀ (l : List Gat) (L N A B : List Nat), Aff p L N A B → Small p L → Small p N → Small p A → Small p B → (∀ g ∈ l, g.1 ≠ 5 ∧ (g.1 = 2 → g.2.2.2 < p)) →
    Aff p (l.foldl (fun V g => V ++ [gval p I V g]) L) (l.foldl (fun V g => V ++ [gval p J V g]) N) (l.foldl (fun V g => V ++ [gval p K V g]) A) (l.foldl (fun V g => V ++ [gval p M V g]) B)
  | [], _, _, _, _, h, _, _, _, _, _ => h
  | g :: l, L, N, A, B, h, s1, s2, s3, s4, hg => by
    obtain ⟨h5, hK⟩ := hg g (by simp)
    exact aff_vals h0 hI i1 i2 i3 i4 l _ _ _ _ (h.snoc (aff_gval hI h s1 s2 s3 s4 h5)) (s1.snoc h0 (gval_small h0 i1 hK)) (s2.snoc h0 (gval_small h0 i2 hK)) (s3.snoc h0 (gval_small h0 i3 hK)) (s4.snoc h0 (gval_small h0 i4 hK)) fun x hx => hg x (by simp [hx])
theorem vals_affine {p : Nat} (h0 : 0 < p) {I J K M : List Nat} (hI : Aff p I J K M) (i1 : Small p I) (i2 : Small p J) (i3 : Small p K) (i4 : Small p M) (l : List Gat) (hg : ∀ g ∈ l, g.1 ≠ 5 ∧ (g.1 = 2 → g.2.2.2 < p)) : Aff p (valsL p I l) (valsL p J l) (valsL p K l) (valsL p M l) :=
  aff_vals h0 hI i1 i2 i3 i4 l [] [] [] [] ⟨⟨rfl, rfl, rfl⟩, fun _ => rfl⟩ (fun _ => by simpa using h0) (fun _ => by simpa using h0) (fun _ => by simpa using h0) (fun _ => by simpa using h0) hg
/-- The sums of two vectors, the first as far as they both go. -/
def sumL (p : Nat) (x y : List Nat) : List Nat := List.zipWith (fun a b => (a + b) % p) x y
theorem aff_sum {p n : Nat} (x y : List Nat) (h1 : x.length = n) (h2 : y.length = n) : Aff p (sumL p x y) (List.replicate n 0) x y := by
  subst h1
  refine ⟨⟨by simp [sumL, h2], by simp [sumL, h2], by simp [sumL, h2]⟩, fun j => ?_⟩
  have hr : (List.replicate x.length 0).getD j 0 = 0 := by
    rw [List.getD_eq_getElem?_getD, List.getElem?_replicate]
    split <;> rfl
  rw [hr]
  simp only [List.getD_eq_getElem?_getD, sumL]
  by_cases h : j < x.length
  · rw [List.getElem?_eq_getElem (by simp [h2]; exact h), List.getElem?_eq_getElem h, List.getElem?_eq_getElem (by omega : j < y.length)]
    simp
  · rw [List.getElem?_eq_none (by simp [h2]; omega), List.getElem?_eq_none (by omega), List.getElem?_eq_none (by omega)]
    simp
theorem small_lt {p : Nat} (h0 : 0 < p) {l : List Nat} (h : ∀ x ∈ l, x < p) : Small p l := fun j => by
  rw [List.getD_eq_getElem?_getD]
  cases hj : l[j]? with
  | none => simpa using h0
  | some x => have := h x (List.mem_of_getElem? hj); simpa using this
theorem sum_lt {p : Nat} (h0 : 0 < p) : ∀ (x y : List Nat), ∀ z ∈ sumL p x y, z < p
  | [], _, z, h => by simp [sumL] at h
  | _ :: _, [], z, h => by simp [sumL] at h
  | a :: x, b :: y, z, h => by
    simp only [sumL, List.zipWith_cons_cons, List.mem_cons] at h
    rcases h with rfl | h
    · exact Nat.mod_lt _ h0
    · exact sum_lt h0 x y z h
theorem sumL_snoc (p : Nat) (x y : List Nat) (k : Nat) (h1 : k < x.length) (h2 : k < y.length) : sumL p (x.take (k + 1)) (y.take (k + 1)) = sumL p (x.take k) (y.take k) ++ [(x[k] + y[k]) % p] := by
  rw [List.take_succ_eq_append_getElem h1, List.take_succ_eq_append_getElem h2]
  unfold sumL
  rw [List.zipWith_append (by simp; omega)]
  rfl
theorem vals_small {p : Nat} (h0 : 0 < p) {I : List Nat} (hI : Small p I) : ∀ (l : List Gat) (V : List Nat), Small p V → (∀ g ∈ l, g.1 = 2 → g.2.2.2 < p) → Small p (l.foldl (fun V g => V ++ [gval p I V g]) V)
  | [], _, h, _ => h
  | g :: l, _, h, hg => vals_small h0 hI l _ (h.snoc h0 (gval_small h0 hI (hg g (by simp)))) fun x hx => hg x (by simp [hx])
theorem noMul {l : List Gat} (h : countK 5 l = 0) : ∀ g ∈ l, g.1 ≠ 5 := fun g hg e => by
  unfold countK at h
  have := List.eq_nil_of_length_eq_zero h
  have hm : g ∈ l.filter (fun g => g.1 == 5) := List.mem_filter.2 ⟨hg, by simp [e]⟩
  rw [this] at hm
  cases hm
theorem eff_none : ∀ {s : List Slo} {x : List Nat}, x.length = s.length → s.any (fun z => z.2) = false → effL s x = x
  | [], [], _, _ => rfl
  | [], _ :: _, h, _ => by simp at h
  | _ :: _, [], h, _ => by simp at h
  | s :: sr, x :: xr, h, hb => by
    rw [List.any_cons, Bool.or_eq_false_iff] at hb
    have h2 := eff_none (s := sr) (x := xr) (by simpa using h) hb.2
    unfold effL at h2 ⊢
    rw [List.zipWith_cons_cons, h2, eff1_false hb.1]
theorem allLt_of {p : Nat} {l : List Nat} (h : ∀ x ∈ l, x < p) : allLt p l = true := List.all_eq_true.2 fun x hx => decide_eq_true (h x hx)
theorem lt_of_allLt {p : Nat} {l : List Nat} (h : allLt p l = true) : ∀ x ∈ l, x < p := fun x hx => of_decide_eq_true (List.all_eq_true.1 h x hx)
/-- What the law CircLines asks of the four calls. -/
structure LineLaw (p : Nat) (C : Cir) (x y : List Nat) : Prop where
  el : inErr p C (sumL p x y) = 0
  en : inErr p C (List.replicate C.slots.length 0) = 0
  ea : inErr p C x = 0
  eb : inErr p C y = 0
  n : (valsL p (effL C.slots (sumL p x y)) C.gates).length = C.gates.length ∧ (valsL p (effL C.slots (List.replicate C.slots.length 0)) C.gates).length = C.gates.length ∧ (valsL p (effL C.slots x) C.gates).length = C.gates.length ∧ (valsL p (effL C.slots y) C.gates).length = C.gates.length
  s : Small p (valsL p (effL C.slots (sumL p x y)) C.gates) ∧ Small p (valsL p (effL C.slots (List.replicate C.slots.length 0)) C.gates) ∧ Small p (valsL p (effL C.slots x) C.gates) ∧ Small p (valsL p (effL C.slots y) C.gates)
  a : Aff p (valsL p (effL C.slots (sumL p x y)) C.gates) (valsL p (effL C.slots (List.replicate C.slots.length 0)) C.gates) (valsL p (effL C.slots x) C.gates) (valsL p (effL C.slots y) C.gates)
theorem vals_len (p : Nat) (I : List Nat) (l : List Gat) : (valsL p I l).length = l.length := by
  have := valsL_len p I l l.length (Nat.le_refl _)
  rwa [List.take_length] at this
theorem in_zero {p : Nat} {C : Cir} {x : List Nat} (h : checkErr p C = 0) (hl : x.length = C.slots.length) (ha : ∀ z ∈ x, z < p) : inErr p C x = 0 := by
  unfold inErr
  rw [if_pos h, if_pos ⟨hl, allLt_of ha⟩]
theorem lines_law {p : Nat} {C : Cir} {x y : List Nat} (hok : checkErr p C = 0) (hm : countK 5 C.gates = 0) (hx : x.length = C.slots.length) (hy : y.length = C.slots.length) (ax : allLt p x = true) (ay : allLt p y = true) (hb : C.slots.any (fun z => z.2) = false) : LineLaw p C x y := by
  obtain ⟨k1, k2, k3⟩ := check_ok hok
  obtain ⟨p3, pm, _⟩ := (isP_iff p).1 k1
  have h0 : 0 < p := by omega
  have hgz := gatesErr_zero k3
  have hg : ∀ g ∈ C.gates, g.1 = 2 → g.2.2.2 < p := fun g hg e => by
    obtain ⟨k, hk, rfl⟩ := List.getElem_of_mem hg
    rcases gate_fits h0 (hgz k hk) with h | h | h | h
    all_goals omega
  have hs : (sumL p x y).length = C.slots.length := by simp [sumL, hx, hy]
  have hn : (List.replicate C.slots.length 0).length = C.slots.length := by simp
  have ls := sum_lt (p := p) h0 x y
  have ln : ∀ z ∈ List.replicate C.slots.length 0, z < p := fun z hz => by rw [(List.mem_replicate.1 hz).2]; exact h0
  have lx := lt_of_allLt ax
  have ly := lt_of_allLt ay
  have e1 := eff_none hs hb
  have e2 := eff_none hn hb
  have e3 := eff_none hx hb
  have e4 := eff_none hy hb
  have t1 := small_lt h0 ls
  have t2 := small_lt h0 ln
  have t3 := small_lt h0 lx
  have t4 := small_lt h0 ly
  have z0 : Small p [] := fun _ => by simpa using h0
  refine ⟨in_zero hok hs ls, in_zero hok hn ln, in_zero hok hx lx, in_zero hok hy ly, ⟨vals_len _ _ _, vals_len _ _ _, vals_len _ _ _, vals_len _ _ _⟩, ?_, ?_⟩
  · rw [e1, e2, e3, e4]
    exact ⟨vals_small h0 t1 _ _ z0 hg, vals_small h0 t2 _ _ z0 hg, vals_small h0 t3 _ _ z0 hg, vals_small h0 t4 _ _ z0 hg⟩
  · rw [e1, e2, e3, e4]
    exact vals_affine h0 (aff_sum x y hx hy) t1 t2 t3 t4 C.gates fun g h => ⟨noMul hm g h, hg g h⟩
end Go.Proofs.YtmnbgamnbgdnnaaGreatDoor
