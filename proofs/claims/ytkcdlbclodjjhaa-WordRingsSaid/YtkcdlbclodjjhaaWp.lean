/- Contracts of New, of. (Printed by wip/tools/gen_wp.py.) -/
import Derived.Test.YtkcdlbclodjjhaaWo
import Derived.WalkSmall
namespace Go.Proofs.Ytkcdlbclodjjhaa
open Go.RowKit

abbrev nilS : Value := .slice none 0 0
set_option maxRecDepth 100000 in
theorem new_bad (p : Nat) (hp : p < 18446744073709551616) (hP : isP p = false) (w : World) : Calls Try.prog 6 #[.int .u64 p] w fun e W' => e = .returned (.tuple #[.pointer none, .int .i64 2]) ∧ w = W' := by
  have h := fun W => is_any p hp W
  rw [hP] at h
  have H := Lib.hid h; clear h hP
  go_enter Try.func6, Try.ntmps6
  go_wp2_with (go_at_call 23; refine (H.out _).mono ?_; rintro e w1 ⟨rfl, rfl⟩)
  exact bodyPost_ret (v := .tuple #[.pointer none, .int .i64 2]) (by simp [results, Try.results6, go_sem]) rfl ⟨rfl, rfl⟩
set_option maxRecDepth 100000 in
theorem new_ok (p : Nat) (hp : p < 18446744073709551616) (hP : isP p = true) (w : World) : Calls Try.prog 6 #[.int .u64 p] w fun e W' => e = .returned (.tuple #[.pointer (some ⟨w.heap.size, 0, none⟩), .int .i64 0]) ∧ IsB w.heap.size p [] [] [] nilS nilS nilS W' ∧ Below w.heap.size w W' := by
  have h := fun W => is_any p hp W
  rw [hP] at h
  have H := Lib.hid h; clear h hP
  go_enter Try.func6, Try.ntmps6
  go_wp2_with (go_at_call 23; refine (H.out _).mono ?_; rintro e w1 ⟨rfl, rfl⟩)
  exact bodyPost_ret (v := .tuple #[.pointer (some ⟨w.heap.size, 0, none⟩), .int .i64 0]) (by simp [results, Try.results6, go_sem]) rfl ⟨rfl, ⟨World.ownsRow_nil _ _ _ _, World.ownsRow_nil _ _ _ _, World.ownsRow_nil _ _ _ _, by simp, heap_alloc_new w _, by simp⟩, (Below.refl _ _).alloc (Nat.le_refl _) _⟩
theorem const_ok (B p : Nat) (sl : List Slo) (G : List Gat) (xs : List Exi) (v1 v2 v3 : Value) (k : Nat) (hk : k < p) (hf : G.length < 65536) (w : World) (h : IsB B p sl G xs v1 v2 v3 w) :
    Calls Try.prog 9 #[.pointer (some ⟨B, 0, none⟩), .int .u64 ((k : Nat) : Int)] w (OkPost B p sl (G ++ conL k) xs v1 v2 v3 w (.tuple #[.int .i64 ((G.length : Nat) : Int), .int .i64 0])) :=
  (const_any B p (by omega) sl G xs v1 v2 v3 k (by omega) w h).mono fun e W' he => by
    have hg := gErr_con (s := sl.length) (m := G.length) hk
    rcases he with ⟨h1, _⟩ | ⟨_, h1, _⟩ | ⟨_, _, v, h1, h2, h3⟩
    · exact absurd hg h1
    · omega
    · exact ⟨h1, v, h2, h3⟩
/-- The bits of a number as constants. -/
def ofSt (G : List Gat) (n : Nat) : Nat → List Gat × List Nat
  | 0 => (G, [])
  | k + 1 => ((ofSt G n k).1 ++ conL (n / 2 ^ k % 2), (ofSt G n k).2 ++ [(ofSt G n k).1.length])
theorem ofSt_len (G : List Gat) (n : Nat) : ∀ k, (ofSt G n k).1.length = G.length + k ∧ (ofSt G n k).2.length = k ∧ ∀ x ∈ (ofSt G n k).2, x < (ofSt G n k).1.length := by
  intro k
  induction k with
  | zero => exact ⟨rfl, rfl, by intro x hx; simp [ofSt] at hx⟩
  | succ k ih =>
    obtain ⟨h1, h2, h3⟩ := ih
    refine ⟨by simp [ofSt, conL, h1]; omega, by simp [ofSt, h2], ?_⟩
    intro x hx
    simp only [ofSt, List.length_append, conL, List.length_cons, List.length_nil] at hx ⊢
    rcases List.mem_append.1 hx with e | e
    · have := h3 x e; omega
    · have := List.mem_singleton.1 e; omega
set_option maxHeartbeats 1000000 in
set_option maxRecDepth 100000 in
theorem of_ok (B p : Nat) (hp : 1 < p) (sl : List Slo) (G : List Gat) (xs : List Exi) (v1 v2 v3 : Value) (m n : Nat) (hm : m ≤ 16) (hn : n < 18446744073709551616) (hf : G.length + m ≤ 65536) (w : World) (h : IsB B p sl G xs v1 v2 v3 w) :
    Calls Try.prog 12 #[.pointer (some ⟨B, 0, none⟩), .int .i64 ((m : Nat) : Int), .int .u64 ((n : Nat) : Int)] w fun e W' => ∃ vo v, e = .returned vo ∧ IsB B p sl (ofSt G n m).1 xs v1 v v3 W' ∧ Fr B v2 v w W' ∧ W'.ownsRow w.heap.size 3 1 vo m (nCells (ofSt G n m).2) := by
  have HB := Lib.hid h
  have HLT := Lib.hid h.lt
  have HL := Lib.hid (ofSt_len G n)
  have HF := Lib.hid hf
  have HP := Lib.hid hp
  clear h hf hp
  go_enter Try.func12, Try.ntmps12
  go_wp2
  go_loopg [7, 12] m (fun g o' i' wr => ∃ (k : Nat) (Gk : List Gat) (ok : List Nat) (vo vk : Value), k ≤ m ∧ g = m - k ∧ o' = vo ∧ i' = .int .i64 k ∧ Hid (ofSt G n k = (Gk, ok)) ∧ wr.ownsRow w.heap.size 3 1 vo k (nCells ok) ∧ IsB B p sl Gk xs v1 vk v3 wr ∧ Fr B v2 vk w wr)
  case atStart => exact ⟨0, G, [], .slice none 0 0, v2, Nat.zero_le _, rfl, rfl, rfl, Lib.hid rfl, World.ownsRow_nil _ _ _ _, HB.out, Fr.refl _ _ _⟩
  case round =>
    obtain ⟨k, Gk, ok, vo, vk, hk, rfl, rfl, rfl, hst, hown, hIk, hFk⟩ := hrel
    have HO0 := Lib.hid hown; have HI0 := Lib.hid hIk; have HF0 := Lib.hid hFk
    clear hown hIk hFk
    by_cases hlt : k < m
    · have hL := (HL.out k).1
      rw [hst.out] at hL
      have hf := HF.out
      have HN : Hid (Calls Try.prog 9 #[.pointer (some ⟨B, 0, none⟩), .int .u64 ((n / 2 ^ k % 2 : Nat) : Int)] wr fun e W' => e = .returned (.tuple #[.int .i64 ((Gk.length : Nat) : Int), .int .i64 0]) ∧ ∃ v', IsB B p sl (Gk ++ conL (n / 2 ^ k % 2)) xs v1 v' v3 W' ∧ Fr B v2 v' w W' ∧ W'.ownsRow w.heap.size 3 1 u7 k (nCells ok)) :=
        Lib.hid ((const_ok B p sl Gk xs v1 vk v3 (n / 2 ^ k % 2) (by have := HP.out; omega) (by simp only at hL; omega) wr HI0.out).mono fun _ _ he => OkPost.row he HF0.out HI0.out HO0.out HLT.out)
      have HSU : Hid (ofSt G n (k + 1) = (Gk ++ conL (n / 2 ^ k % 2), ok ++ [Gk.length])) := Lib.hid (by show ((ofSt G n k).1 ++ _, _) = _; rw [hst.out])
      clear hL hf
      have i1 : (0 : Int) ≤ (k : Int) := by omega
      have i2 : (k : Int) < (m : Int) := by omega
      have hbit : bits BinOp.and IntKind.u64 ((n : Int) / 2 ^ k) 1 = ((n / 2 ^ k % 2 : Nat) : Int) := by
        have e : (n : Int) / 2 ^ k = ((n / 2 ^ k : Nat) : Int) := by simp
        have l : n / 2 ^ k ≤ n := Nat.div_le_self _ _
        rw [e]
        generalize n / 2 ^ k = q at l
        rw [and_one_u64 _ (by omega) (by omega)]
        simp
      go_wp2_with (first | (go_at_call 9; (try rw [hbit]); refine HN.out.mono ?_; rintro e w1 ⟨rfl, x1, hI, hF, hO⟩; have HI1 := Lib.hid hI; have HF1 := Lib.hid hF; have HO1 := Lib.hid hO; clear hI hF hO) | (at_builtin; refine list_append_own (W0 := w1) (below_snoc (Below.refl _ _) _) w.heap.size rfl _ _ 44 3 _ 8 rfl Try.underlying44 infoInt rfl (by decide) u7 k _ (.int .i64 ((Gk.length : Nat) : Int)) rfl _ rfl (by simp) rfl HO1.out (by have h5 := HF1.out.size; omega) (by omega) ?_; intro v9 w9 hown9 hg9; have HO9 := Lib.hid hown9; have HI9 := Lib.hid (HI1.out.grown HB.out HO1.out (Nat.le_refl _) hg9); have HF9 := Lib.hid (HF1.out.grown HO1.out (Nat.le_refl _) hg9); clear hown9 hg9))
      go_roundg (m - (k + 1))
      case measure => omega
      case rel => exact ⟨k + 1, _, ok ++ [Gk.length], _, _, by omega, rfl, rfl, by go_num, HSU, by rw [nCells_snoc]; exact HO9.out, HI9.out, HF9.out⟩
    · obtain rfl : k = m := by omega
      have HST := hst
      go_wp2
      go_ret
      refine ⟨_, vk, rfl, ?_, HF0.out, ?_⟩
      · rw [HST.out]; exact HI0.out
      · rw [HST.out]; exact HO0.out
end Go.Proofs.Ytkcdlbclodjjhaa
