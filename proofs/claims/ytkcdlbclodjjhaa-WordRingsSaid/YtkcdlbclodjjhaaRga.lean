/- Plain law: what the gates of Not, Xor and a full adder are worth when bits go in. -/
import Derived.Test.YtkcdlbclodjjhaaWt
namespace Go.Proofs.Ytkcdlbclodjjhaa

/-- The values behind more gates. -/
def runG (p : Nat) (V : List Nat) (L : List Gat) : List Nat := L.foldl (fun V g => V ++ [gval p [] V g]) V
theorem vals_app (p : Nat) (G L : List Gat) : valsL p [] (G ++ L) = runG p (valsL p [] G) L := by unfold valsL runG; rw [List.foldl_append]
theorem runG_app (p : Nat) (V : List Nat) (L M : List Gat) : runG p V (L ++ M) = runG p (runG p V L) M := by unfold runG; rw [List.foldl_append]
theorem runG_pre (p : Nat) (L : List Gat) : ∀ V, ∃ e, runG p V L = V ++ e ∧ e.length = L.length := by
  induction L with
  | nil => intro V; exact ⟨[], by simp [runG], rfl⟩
  | cons g r ih =>
    intro V
    obtain ⟨e, h1, h2⟩ := ih (V ++ [gval p [] V g])
    exact ⟨gval p [] V g :: e, by show runG p (V ++ [gval p [] V g]) r = _; rw [h1]; simp, by simp [h2]⟩
theorem vals_len (p : Nat) (G : List Gat) : (valsL p [] G).length = G.length := by
  obtain ⟨e, h1, h2⟩ := runG_pre p G []
  show (runG p [] G).length = _
  rw [h1]; simpa using h2
theorem at_lt {V e : List Nat} {i : Nat} (h : i < V.length) : (V ++ e).getD i 0 = V.getD i 0 := by simp [List.getD_eq_getElem?_getD, List.getElem?_append_left h]
theorem at_ge {V e : List Nat} {j : Nat} : (V ++ e).getD (V.length + j) 0 = e.getD j 0 := by simp [List.getD_eq_getElem?_getD, List.getElem?_append_right]
theorem at_ge0 {V e : List Nat} : (V ++ e).getD V.length 0 = e.getD 0 0 := at_ge (j := 0)
theorem ex3 {V R : List Nat} {v0 v1 v2 v3 r : Nat} (h : R = V ++ [v0, v1, v2, v3]) (hr : v3 = r) : ∃ l, l.length = 3 ∧ R = V ++ l ++ [r] := ⟨[v0, v1, v2], rfl, by rw [h, hr]; simp⟩
theorem ex7 {V R : List Nat} {v0 v1 v2 v3 v4 v5 v6 v7 v8 r s : Nat} (h : R = V ++ [v0, v1, v2, v3, v4, v5, v6, v7, v8]) (hr : v7 = r) (hs : v8 = s) : ∃ l, l.length = 7 ∧ R = V ++ l ++ [r, s] := ⟨[v0, v1, v2, v3, v4, v5, v6], rfl, by rw [h, hr, hs]; simp⟩
theorem g_con (p : Nat) (V : List Nat) (k : Nat) : gval p [] V (2, 0, 0, ((k : Nat) : Int)) = k := by simp [gval]
theorem g_sum (p : Nat) (V : List Nat) (a b : Nat) : gval p [] V (3, ((a : Nat) : Int), ((b : Nat) : Int), 0) = (V.getD a 0 + V.getD b 0) % p := by simp [gval]
theorem g_sub (p : Nat) (V : List Nat) (a b : Nat) : gval p [] V (4, ((a : Nat) : Int), ((b : Nat) : Int), 0) = (V.getD a 0 + p - V.getD b 0) % p := by simp [gval]
theorem g_mul (p : Nat) (V : List Nat) (a b : Nat) : gval p [] V (5, ((a : Nat) : Int), ((b : Nat) : Int), 0) = V.getD a 0 * V.getD b 0 % p := by simp [gval]
theorem run_cons (p : Nat) (V : List Nat) (g : Gat) (L : List Gat) : runG p V (g :: L) = runG p (V ++ [gval p [] V g]) L := rfl
theorem run_nil (p : Nat) (V : List Nat) : runG p V [] = V := rfl
theorem m1 {p : Nat} (hp : 2 < p) : 1 % p = 1 ∧ 2 % p = 2 ∧ (1 + p) % p = 1 ∧ (2 + p) % p = 2 ∧ (1 + p - 2) % p = p - 1 ∧ p % p = 0 ∧ (1 + p - 1) % p = 0 ∧ (2 + p - 2) % p = 0 ∧ (2 + p - 1) % p = 1 ∧ 0 % p = 0 := by
  refine ⟨Nat.mod_eq_of_lt (by omega), Nat.mod_eq_of_lt (by omega), ?_, ?_, ?_, Nat.mod_self p, ?_, ?_, ?_, Nat.zero_mod p⟩
  · rw [Nat.add_mod_right]; exact Nat.mod_eq_of_lt (by omega)
  · rw [Nat.add_mod_right]; exact Nat.mod_eq_of_lt (by omega)
  · rw [show 1 + p - 2 = p - 1 by omega]; exact Nat.mod_eq_of_lt (by omega)
  · rw [show 1 + p - 1 = p by omega]; exact Nat.mod_self p
  · rw [show 2 + p - 2 = p by omega]; exact Nat.mod_self p
  · rw [show 2 + p - 1 = 1 + p by omega, Nat.add_mod_right]; exact Nat.mod_eq_of_lt (by omega)
theorem not_run {p : Nat} (hp : 2 < p) {V : List Nat} {a : Nat} (ha : a < V.length) {x : Nat} (hx : V.getD a 0 = x) (h1 : x ≤ 1) : runG p V (notL V.length a) = V ++ [1, 1 - x] := by
  obtain ⟨e1, e2, e3, e4, e5, e6, e7, e8, e9, e0⟩ := m1 hp
  have hc : x = 0 ∨ x = 1 := by omega
  have hy := @at_lt V
  have hg := @at_ge V
  rcases hc with rfl | rfl <;> simp only [notL, run_cons, run_nil, g_con, g_sub, List.append_assoc, List.cons_append, List.nil_append, at_lt ha, at_ge0, hx] <;> simp [e3]
theorem xor_run {p : Nat} (hp : 2 < p) {V : List Nat} {a b : Nat} (ha : a < V.length) (hb : b < V.length) {x y : Nat} (hx : V.getD a 0 = x) (hy : V.getD b 0 = y) (h1 : x ≤ 1) (h2 : y ≤ 1) : ∃ l, l.length = 3 ∧ runG p V (xorL V.length a b) = V ++ (l ++ [(x + y) % 2]) := by
  obtain ⟨e1, e2, e3, e4, e5, e6, e7, e8, e9, e0⟩ := m1 hp
  refine ⟨[x * y, x + y, x * y + x * y], rfl, ?_⟩
  have hc : x = 0 ∨ x = 1 := by omega
  have hd : y = 0 ∨ y = 1 := by omega
  rw [xorL, run_cons, g_mul, hx, hy, run_cons, g_sum, at_lt ha, at_lt hb, hx, hy, List.append_assoc, run_cons, g_sum, at_ge0, List.append_assoc, run_cons, g_sub, at_ge, at_ge, run_nil]
  rcases hc with rfl | rfl <;> rcases hd with rfl | rfl <;> simp [e1, e2, e6]
theorem add_run {p : Nat} (hp : 2 < p) {V : List Nat} {a b c : Nat} (ha : a < V.length) (hb : b < V.length) (hc : c < V.length) {x y z : Nat} (hx : V.getD a 0 = x) (hy : V.getD b 0 = y) (hz : V.getD c 0 = z) (h1 : x ≤ 1) (h2 : y ≤ 1) (h3 : z ≤ 1) :
    ∃ l, l.length = 7 ∧ runG p V (addL V.length a b c) = V ++ (l ++ [(x + y + z) % 2, (x + y + z) / 2]) := by
  obtain ⟨e1, e2, e3, e4, e5, e6, e7, e8, e9, e0⟩ := m1 hp
  refine ⟨[x * y, x + y, x * y + x * y, (x + y) % 2, (x + y) % 2 * z, (x + y) % 2 + z, (x + y) % 2 * z + (x + y) % 2 * z], rfl, ?_⟩
  have k1 : x = 0 ∨ x = 1 := by omega
  have k2 : y = 0 ∨ y = 1 := by omega
  have k3 : z = 0 ∨ z = 1 := by omega
  have s0 : x * y % p = x * y := by rcases k1 with rfl | rfl <;> rcases k2 with rfl | rfl <;> simp [e1]
  have s1 : (x + y) % p = x + y := Nat.mod_eq_of_lt (by omega)
  have s2 : (x * y + x * y) % p = x * y + x * y := by rcases k1 with rfl | rfl <;> rcases k2 with rfl | rfl <;> simp [e2]
  have s3 : (x + y + p - (x * y + x * y)) % p = (x + y) % 2 := by rcases k1 with rfl | rfl <;> rcases k2 with rfl | rfl <;> simp [e3, e6]
  have k4 : (x + y) % 2 = 0 ∨ (x + y) % 2 = 1 := by omega
  have s4 : (x + y) % 2 * z % p = (x + y) % 2 * z := by rcases k4 with h | h <;> rcases k3 with rfl | rfl <;> simp [h, e1]
  have s5 : ((x + y) % 2 + z) % p = (x + y) % 2 + z := Nat.mod_eq_of_lt (by omega)
  have s6 : ((x + y) % 2 * z + (x + y) % 2 * z) % p = (x + y) % 2 * z + (x + y) % 2 * z := by rcases k4 with h | h <;> rcases k3 with rfl | rfl <;> simp [h, e2]
  have s7 : ((x + y) % 2 + z + p - ((x + y) % 2 * z + (x + y) % 2 * z)) % p = (x + y + z) % 2 := by rcases k1 with rfl | rfl <;> rcases k2 with rfl | rfl <;> rcases k3 with rfl | rfl <;> simp [e3, e6]
  have s8 : (x * y + (x + y) % 2 * z) % p = (x + y + z) / 2 := by rcases k1 with rfl | rfl <;> rcases k2 with rfl | rfl <;> rcases k3 with rfl | rfl <;> simp [e1]
  rw [addL, run_cons, g_mul, hx, hy, s0]
  rw [run_cons, g_sum, at_lt ha, at_lt hb, hx, hy, s1, List.append_assoc]
  rw [run_cons, g_sum, at_ge0, List.append_assoc]
  simp only [List.cons_append, List.nil_append, List.getD_cons_zero, s2]
  rw [run_cons, g_sub, at_ge, at_ge, List.append_assoc]
  simp only [List.cons_append, List.nil_append, List.getD_cons_zero, List.getD_cons_succ, s3]
  rw [run_cons, g_mul, at_ge, at_lt hc, hz, List.append_assoc]
  simp only [List.cons_append, List.nil_append, List.getD_cons_zero, List.getD_cons_succ, s4]
  rw [run_cons, g_sum, at_ge, at_lt hc, hz, List.append_assoc]
  simp only [List.cons_append, List.nil_append, List.getD_cons_zero, List.getD_cons_succ, s5]
  rw [run_cons, g_sum, at_ge, List.append_assoc]
  simp only [List.cons_append, List.nil_append, List.getD_cons_zero, List.getD_cons_succ, s6]
  rw [run_cons, g_sub, at_ge, at_ge, List.append_assoc]
  simp only [List.cons_append, List.nil_append, List.getD_cons_zero, List.getD_cons_succ, s7]
  rw [run_cons, g_sum, at_ge0, at_ge, List.append_assoc]
  simp only [List.cons_append, List.nil_append, List.getD_cons_zero, List.getD_cons_succ, s8, run_nil]
end Go.Proofs.Ytkcdlbclodjjhaa
