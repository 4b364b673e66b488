/- The chapter's example: alive answers true. (Printed by wip/tools/gen_alive13.py.) -/
import Derived.Test.YtkcdlbclodjjhaaWs
import Derived.Deep.RegionHeld3
namespace Go.Proofs.Ytkcdlbclodjjhaa
open Go.RowKit

section
variable {P : Program} {ops : Array Oper} {o : Oper} {a : Act} {K : Act → World → Prop} {Q : Exit → Act → World → Prop} {E : Prop}
/-- Elements are appended to a row of the call's own, as a step of a region that draws its order. -/
theorem step_app_slice {W : World} (base : Nat) (hgd : Region.wanted o (yielded ops a.tmps) = true) (s x : Operand) (t e : TypeId) (z : Value) (bytes : Nat)
    (ho : o.op = .call { callee := .builtin .append, args := #[s, x], argTypes := #[t, t] })
    (ht : P.underlying t = some (.slice e)) (hinfo : (P.info? e).map (fun i => (i.zero, i.size, i.bytes)) = some (some z, 1, bytes)) (hz : z.cells.size = 1) (hb0 : 0 < bytes)
    (v : Value) (n : Nat) (xs ys : List Value) (hs : a.eval s = v) (ad : Addr) (m c : Nat) (hx : a.eval x = .slice (some ad) m c) (hys : ys.length = m) (hr : ∀ j u, ys[j]? = some u → W.cell? (ad.add j) = some u) (h1 : ∀ u ∈ ys, u.oneCell' = true)
    (HO : W.ownsRow base e 1 v n xs) (hbase : base ≤ W.heap.size) (hl : (n + m) * bytes ≤ 140737488355328)
    (h : ∀ v1 w1, w1.ownsRow base e 1 v1 (n + m) (xs ++ ys) → W.grownBy w1 v.ownBlock → K (a.put o.dst v1) w1) :
    if Region.wanted o (yielded ops a.tmps) = true then Oper.wp P o a W K Q else E := by
  rw [if_pos hgd]
  obtain ⟨i0, hi, hzz⟩ := Option.map_eq_some_iff.1 hinfo
  simp only [Prod.mk.injEq] at hzz
  obtain ⟨hz0, hz1, hz2⟩ := hzz
  have hlen : n + m ≤ 140737488355328 := Nat.le_trans (Nat.le_mul_of_pos_right _ hb0) hl
  exact wp_append_own W s x t ho base e i0 z 1 bytes ht hi hz0 hz1 hz2 hz (by omega) v n xs hs HO ad m c ys hx (by rw [hys]; omega) hr h1 (by simp only [maxLen]; omega) hl hbase
    fun v1 w1 hown hg _ => h v1 w1 hown hg
end
theorem gatesErr_zero {p : Nat} {n : Int} {l : List Gat} (h : gatesErr p n 0 l = 0) : ∀ k, (hk : k < l.length) → gErr p n k l[k] = 0 := by
  have key : ∀ k, k ≤ l.length → gatesErr p n k (l.drop k) = 0 := by
    intro k
    induction k with
    | zero => intro _; exact h
    | succ k ih =>
      intro hk
      have h1 := ih (by omega)
      rw [gatesErr_at (by omega)] at h1
      split at h1
      · exact h1
      · rename_i h2; exact absurd h1 h2
  intro k hk
  have h1 := key k (by omega)
  rw [gatesErr_at hk] at h1
  split at h1
  · assumption
  · rename_i h2; exact absurd h1 h2
theorem own_fresh (w : World) (e : TypeId) (u : Value) : (w.alloc (.cells #[u] e)).ownsRow w.heap.size e 1 (.slice (some ⟨w.heap.size, 0, none⟩) 1 1) 1 [u] :=
  ⟨rfl, .inr ⟨w.heap.size, 1, #[u], rfl, Nat.le_refl _, heap_alloc_new w _, Nat.le_refl _, by decide, rfl, rfl⟩⟩
theorem all_ltB {l : List Nat} {n : Nat} (h : (l.all fun x => decide (x < n)) = true) : ∀ x ∈ l, x < n := fun x hx => of_decide_eq_true (List.all_eq_true.1 h x hx)
/- What alive lays, act by act. -/
def al1 : List Gat × List Nat := ofSt [] 9 4
def al2 : List Gat × List Nat := ofSt al1.1 12 4
def al3 : List Gat × List Nat × Nat := plusSt al2.1 al1.2 al2.2
def al4 : List Gat × List Nat := ofSt al3.1 3 4
def al5 : List Gat × List Nat := ofSt al4.1 5 4
def al6 : List Gat × List Nat × Nat := minusSt al5.1 al4.2 al5.2
def al7 : List Gat × List Nat := ofSt al6.1 5 4
def al8 : List Gat × List Nat := ofSt al7.1 7 4
def al9 : List Gat × List Nat := timesSt al8.1 al7.2 al8.2 4
def al10 : List Gat × List Nat := ofSt al9.1 3 4
def al11 : List Gat × List Nat := ofSt al10.1 9 4
def al12 : List Gat × Nat := belowSt al11.1 al10.2 al11.2
theorem al1_len : (decide (al1.1.length ≤ 1000)) = true := by kernel_rfl
theorem al2_len : (decide (al2.1.length ≤ 1000)) = true := by kernel_rfl
theorem al3_len : (decide (al3.1.length ≤ 1000)) = true := by kernel_rfl
theorem al4_len : (decide (al4.1.length ≤ 1000)) = true := by kernel_rfl
theorem al5_len : (decide (al5.1.length ≤ 1000)) = true := by kernel_rfl
theorem al6_len : (decide (al6.1.length ≤ 1000)) = true := by kernel_rfl
theorem al7_len : (decide (al7.1.length ≤ 1000)) = true := by kernel_rfl
theorem al8_len : (decide (al8.1.length ≤ 1000)) = true := by kernel_rfl
theorem al9_len : (decide (al9.1.length ≤ 1000)) = true := by kernel_rfl
theorem al10_len : (decide (al10.1.length ≤ 1000)) = true := by kernel_rfl
theorem al11_len : (decide (al11.1.length ≤ 1000)) = true := by kernel_rfl
theorem al12_len : (decide (al12.1.length ≤ 1000)) = true := by kernel_rfl
theorem al3_in1 : (al1.2.all fun x => decide (x < al2.1.length)) = true := by kernel_rfl
theorem al3_in2 : (al2.2.all fun x => decide (x < al2.1.length)) = true := by kernel_rfl
theorem al6_in4 : (al4.2.all fun x => decide (x < al5.1.length)) = true := by kernel_rfl
theorem al6_in5 : (al5.2.all fun x => decide (x < al5.1.length)) = true := by kernel_rfl
theorem al9_in7 : (al7.2.all fun x => decide (x < al8.1.length)) = true := by kernel_rfl
theorem al9_in8 : (al8.2.all fun x => decide (x < al8.1.length)) = true := by kernel_rfl
theorem al12_in10 : (al10.2.all fun x => decide (x < al11.1.length)) = true := by kernel_rfl
theorem al12_in11 : (al11.2.all fun x => decide (x < al11.1.length)) = true := by kernel_rfl
/-- The gates' values of the example. -/
def alV : List Nat := valsL 97 [] al12.1
theorem al_ok : gatesErr 97 0 0 al12.1 = 0 := by kernel_rfl
theorem al_hk : (al12.1.all fun g => decide (0 ≤ g.2.2.2)) = true := by kernel_rfl
theorem al_s_in : (al3.2.1.all fun x => decide (x < al12.1.length)) = true := by kernel_rfl
theorem al_s_bit : (al3.2.1.all fun x => decide (alV.getD x 0 ≤ 1)) = true := by kernel_rfl
theorem al_s_num : numK alV al3.2.1 4 = 5 := by kernel_rfl
theorem al_s_len : al3.2.1.length = 4 := by kernel_rfl
theorem al_d_in : (al6.2.1.all fun x => decide (x < al12.1.length)) = true := by kernel_rfl
theorem al_d_bit : (al6.2.1.all fun x => decide (alV.getD x 0 ≤ 1)) = true := by kernel_rfl
theorem al_d_num : numK alV al6.2.1 4 = 14 := by kernel_rfl
theorem al_d_len : al6.2.1.length = 4 := by kernel_rfl
theorem al_m_in : (al9.2.all fun x => decide (x < al12.1.length)) = true := by kernel_rfl
theorem al_m_bit : (al9.2.all fun x => decide (alV.getD x 0 ≤ 1)) = true := by kernel_rfl
theorem al_m_num : numK alV al9.2 4 = 3 := by kernel_rfl
theorem al_m_len : al9.2.length = 4 := by kernel_rfl
theorem al_l_in : decide (al12.2 < al12.1.length) = true := by kernel_rfl
theorem al_l_val : alV.getD al12.2 0 = 1 := by kernel_rfl
theorem al_v_len : alV.length = al12.1.length := by kernel_rfl
theorem isP97 : isP 97 = true := by kernel_rfl
end Go.Proofs.Ytkcdlbclodjjhaa
