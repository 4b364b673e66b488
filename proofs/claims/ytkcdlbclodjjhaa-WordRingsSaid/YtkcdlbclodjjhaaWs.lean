/- Contracts of the reference's Places (all within) and Number (of bits). (Printed by wip/tools/gen_ws13.py.) -/
import Derived.Test.YtkcdlbclodjjhaaWr
namespace Go.Proofs.Ytkcdlbclodjjhaa
open Go.RowKit

theorem Reads.uat {w : World} {A : Option Addr} {l : List Nat} (h : Reads w A (uCells l)) (k : Nat) (hk : k < l.length) : ∃ ad, A = some ad ∧ w.cell? (ad.add k) = some (.int .u64 ((l[k] : Nat) : Int)) := by
  rcases h with h | ⟨ad, h1, h2⟩
  · have : l = [] := by simpa [uCells] using h
    subst this; simp at hk
  · exact ⟨ad, h1, h2 k _ (by simp [uCells, List.getElem?_eq_getElem hk])⟩
set_option maxHeartbeats 1000000 in
set_option maxRecDepth 100000 in
theorem places_ok (S Ga E : Option Addr) (sn sc gn gc en ec : Nat) (ls : List Nat) (A : Option Addr) (c n : Nat) (hn : ls.length = n) (hl : n ≤ 65536) (hr : ∀ x ∈ ls, x < gn) (w : World) (hA : Reads w A (nCells ls)) :
    Calls Try.prog 19 #[.agg #[.slice S sn sc, .slice Ga gn gc, .slice E en ec], .slice A n c] w fun e W' => e = .returned (.int .i64 0) ∧ Below w.heap.size w W' := by
  subst hn
  have HA := Lib.hid hA
  have HR := Lib.hid hr
  clear hA hr
  go_enter Try.func19, Try.ntmps19
  go_wp2
  go_loopg [9] ls.length (fun g i' wr => ∃ k : Nat, k ≤ ls.length ∧ g = ls.length - k ∧ i' = .int .i64 k ∧ Below w.heap.size w wr ∧ wr.heap[w.heap.size]? = some (.cells #[.slice S sn sc, .slice Ga gn gc, .slice E en ec] 39 (0, 0)))
  case atStart => exact ⟨0, Nat.zero_le _, rfl, rfl, (Below.refl _ _).alloc (Nat.le_refl _) _, heap_alloc_new w _⟩
  case round =>
    obtain ⟨k, hk, rfl, rfl, hB, hbx⟩ := hrel
    have HB := Lib.hid hB
    obtain ⟨d0, d1, d2, g0, g1, g2⟩ := box_facts hbx
    have HX := Lib.hid hbx
    clear hB hbx
    by_cases hlt : k < ls.length
    · obtain ⟨ad, hva, q0⟩ := (HA.out.below HB.out).nat k hlt
      have hx := HR.out _ (List.getElem_mem hlt)
      generalize ls[k] = x at *
      subst hva
      have i1 : (0 : Int) ≤ (k : Int) := by omega
      have i2 : (k : Int) < (ls.length : Int) := by omega
      have i3 : ¬ (x : Int) < 0 := by omega
      have i4 : ¬ (gn : Int) ≤ (x : Int) := by omega
      go_wp2
      go_roundg (ls.length - (k + 1))
      case measure => omega
      case rel => exact ⟨k + 1, by omega, rfl, by go_num, HB.out, HX.out⟩
    · obtain rfl : k = ls.length := by omega
      go_wp2
      go_ret
      exact ⟨rfl, HB.out⟩
/-- The number of a word. -/
def numK (V : List Nat) (l : List Nat) : Nat → Nat
  | 0 => 0
  | k + 1 => numK V l k + V.getD (l.getD k 0) 0 * 2 ^ k
theorem numK_lt (V l : List Nat) (h : ∀ x ∈ l, V.getD x 0 ≤ 1) : ∀ k, k ≤ l.length → numK V l k < 2 ^ k := by
  intro k
  induction k with
  | zero => intro _; simp [numK]
  | succ k ih =>
    intro hk
    have h1 := ih (by omega)
    have h2 : V.getD (l.getD k 0) 0 ≤ 1 := h _ (by rw [getD_at (show k < l.length by omega)]; exact List.getElem_mem _)
    have h3 : V.getD (l.getD k 0) 0 * 2 ^ k ≤ 1 * 2 ^ k := Nat.mul_le_mul_right _ h2
    simp only [numK]
    rw [Nat.pow_succ]
    omega
set_option maxHeartbeats 1000000 in
set_option maxRecDepth 100000 in
theorem number_ok (V ls : List Nat) (VA A : Option Addr) (vc c n vn : Nat) (hn : ls.length = n) (hvn : V.length = vn) (hl : n ≤ 16) (hr : ∀ x ∈ ls, x < vn) (hb : ∀ x ∈ ls, V.getD x 0 ≤ 1) (w : World) (hV : Reads w VA (uCells V)) (hA : Reads w A (nCells ls)) :
    Calls Try.prog 32 #[.slice VA vn vc, .slice A n c] w fun e W' => e = .returned (.int .u64 ((numK V ls n : Nat) : Int)) ∧ w = W' := by
  subst hn
  subst hvn
  have HA := Lib.hid hA
  have HV := Lib.hid hV
  have HR := Lib.hid hr
  have HBB := Lib.hid hb
  have HN := Lib.hid (numK_lt V ls hb)
  clear hA hr hV hb
  go_enter Try.func32, Try.ntmps32
  go_wp2
  go_loopg [5, 10] ls.length (fun g n' i' wr => ∃ k s : Nat, k ≤ ls.length ∧ g = ls.length - k ∧ n' = .int .u64 ((s : Nat) : Int) ∧ i' = .int .i64 k ∧ Hid (s = numK V ls k) ∧ w = wr)
  case atStart => exact ⟨0, 0, Nat.zero_le _, rfl, rfl, rfl, Lib.hid rfl, rfl⟩
  case round =>
    obtain ⟨k, s, hk, rfl, rfl, rfl, hs, rfl⟩ := hrel
    by_cases hlt : k < ls.length
    · obtain ⟨ad, hva, q0⟩ := HA.out.nat k hlt
      have hx := HR.out _ (List.getElem_mem hlt)
      have hbx := HBB.out _ (List.getElem_mem hlt)
      have hgx : ls.getD k 0 = ls[k] := getD_at hlt
      have hsu : numK V ls (k + 1) = s + V.getD ls[k] 0 * 2 ^ k := by simp only [numK]; rw [hgx, hs.out]
      have hsl := HN.out (k + 1) (by omega)
      rw [hsu] at hsl
      generalize ls[k] = x at *
      obtain ⟨vad, hvv, q1⟩ := HV.out.uat x hx
      have hvx : V.getD x 0 = V[x] := getD_at hx
      rw [hvx] at hsu hsl hbx
      generalize V[x] = b at *
      subst hva
      subst hvv
      have hp16 : 2 ^ (k + 1) ≤ 2 ^ 16 := Nat.pow_le_pow_right (by omega) (by omega)
      have i1 : (0 : Int) ≤ (k : Int) := by omega
      have i2 : (k : Int) < (ls.length : Int) := by omega
      have i3 : (0 : Int) ≤ (x : Int) := by omega
      have i4 : (x : Int) < (V.length : Int) := by omega
      have HSU := Lib.hid hsu
      have HSL := Lib.hid hsl
      clear hsu hsl hgx hvx
      go_wp2
      go_roundg (ls.length - (k + 1))
      case measure => omega
      case rel =>
        refine ⟨k + 1, s + b * 2 ^ k, by omega, rfl, ?_, by go_num, Lib.hid HSU.out.symm, rfl⟩
        have e1 : (b : Int) * 2 ^ k = ((b * 2 ^ k : Nat) : Int) := by simp
        have hl2 := HSL.out
        rw [e1]
        generalize b * 2 ^ k = q at *
        rw [IntWalk.u64_in (q : Int) (by omega), IntWalk.u64_in ((s : Int) + (q : Int)) (by omega)]
        rfl
    · obtain rfl : k = ls.length := by omega
      go_wp2
      go_ret
      exact ⟨by show Ending.returned (.int .u64 ((s : Nat) : Int)) = _; rw [hs.out], rfl⟩
end Go.Proofs.Ytkcdlbclodjjhaa
