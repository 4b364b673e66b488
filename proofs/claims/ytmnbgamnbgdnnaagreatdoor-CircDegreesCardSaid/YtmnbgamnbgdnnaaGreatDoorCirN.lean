/- Plain: decimal numerals, and a text cut at a byte. -/
import Derived.Test.YtmnbgamnbgdnnaaGreatDoorCirM
import Derived.Lib.SplitLaws
import Derived.Lib.AtoiTie
import Derived.Lib.AtoiAllCases
import Derived.Lib.ItoaMem
namespace Go.Proofs.YtmnbgamnbgdnnaaGreatDoor
open Go.RowKit

def isDigitU (c : UInt8) : Bool := decide (48 ≤ c.toNat) && decide (c.toNat ≤ 57)
def allDig (l : List UInt8) : Bool := l.all isDigitU
def numVal (l : List UInt8) : Nat := l.foldl (fun n c => 10 * n + (c.toNat - 48)) 0
/-- The number that a word spells: decimal, no leading zero, at most nine digits. -/
def valOf (l : List UInt8) : Option Nat := if l = [] ∨ 9 < l.length ∨ allDig l = false ∨ (l.head? = some 48 ∧ 1 < l.length) then none else some (numVal l)

theorem head_app (a b : List UInt8) (h : a ≠ []) : (a ++ b).head? = a.head? := by
  cases a with
  | nil => exact absurd rfl h
  | cons x r => rfl
theorem dec_facts : ∀ (k u : Nat), u < 10 ^ (k + 1) → (Lib.decDigits u).length ≤ k + 1 ∧ Lib.decDigits u ≠ [] ∧ allDig (Lib.decDigits u) = true ∧ numVal (Lib.decDigits u) = u ∧ ((Lib.decDigits u).head? = some 48 → u = 0) := by
  intro k
  induction k with
  | zero =>
    intro u h
    have h10 : u < 10 := by simpa using h
    rw [Lib.decDigits_one h10]
    refine ⟨by simp, by simp, ?_, ?_, ?_⟩
    · simp [allDig, isDigitU]; omega
    · simp [numVal]; omega
    · intro he
      simp only [List.head?_cons, Option.some.injEq] at he
      have := congrArg UInt8.toNat he
      simp at this; omega
  | succ k ih =>
    intro u h
    by_cases h10 : u < 10
    · rw [Lib.decDigits_one h10]
      refine ⟨by simp, by simp, ?_, ?_, ?_⟩
      · simp [allDig, isDigitU]; omega
      · simp [numVal]; omega
      · intro he
        simp only [List.head?_cons, Option.some.injEq] at he
        have := congrArg UInt8.toNat he
        simp at this; omega
    · obtain ⟨a1, a2, a3, a4, a5⟩ := ih (u / 10) (by rw [Nat.pow_succ] at h; omega)
      rw [Lib.decDigits.eq_1 u, dif_neg h10]
      refine ⟨by simp; omega, by simp, ?_, ?_, ?_⟩
      · unfold allDig at *
        rw [List.all_append, a3]
        simp [isDigitU]; omega
      · unfold numVal at *
        rw [List.foldl_append, a4]
        simp; omega
      · intro he
        rw [head_app _ _ a2] at he
        have := a5 he
        omega
theorem dec_nine {u : Nat} (h : u < 1000000000) : (Lib.decDigits u).length ≤ 9 := (dec_facts 8 u (by omega)).1
theorem dec_ne (u : Nat) : Lib.decDigits u ≠ [] := by
  rw [Lib.decDigits.eq_1 u]
  split <;> simp
theorem dec_zero : Lib.decDigits 0 = [48] := Lib.decDigits_one (by omega)
theorem dec_snoc (u d : Nat) (hu : 0 < u) (hd : d < 10) : Lib.decDigits (10 * u + d) = Lib.decDigits u ++ [UInt8.ofNat (48 + d)] := by
  rw [Lib.decDigits.eq_1 (10 * u + d), dif_neg (by omega), show (10 * u + d) / 10 = u by omega, show (10 * u + d) % 10 = d by omega]
theorem canon (n : Nat) : ∀ (l : List UInt8), l.length = n → l ≠ [] → allDig l = true → ¬ (l.head? = some 48 ∧ 1 < l.length) → Lib.decDigits (numVal l) = l ∧ (l.head? ≠ some 48 → 0 < numVal l) ∧ numVal l < 10 ^ n := by
  induction n with
  | zero => intro l h h0; exact absurd (List.eq_nil_of_length_eq_zero h) h0
  | succ n ih =>
    intro l hl h0 had hlead
    obtain ⟨r, c, rfl⟩ : ∃ r c, l = r ++ [c] := ⟨l.dropLast, l.getLast h0, (List.dropLast_concat_getLast h0).symm⟩
    have hr : r.length = n := by simpa using hl
    unfold allDig at had
    rw [List.all_append, Bool.and_eq_true] at had
    obtain ⟨har, hac⟩ := had
    have hc : 48 ≤ c.toNat ∧ c.toNat ≤ 57 := by simpa [isDigitU] using hac
    have hcc : UInt8.ofNat (48 + (c.toNat - 48)) = c := by rw [show 48 + (c.toNat - 48) = c.toNat by omega]; simp
    have hv : numVal (r ++ [c]) = 10 * numVal r + (c.toNat - 48) := by unfold numVal; rw [List.foldl_append]; rfl
    rw [hv]
    by_cases hr0 : r = []
    · subst hr0
      obtain rfl : n = 0 := by simpa using hr.symm
      have hz : numVal [] = 0 := rfl
      rw [hz, Lib.decDigits_one (by omega), show 10 * 0 + (c.toNat - 48) = c.toNat - 48 by omega, hcc]
      refine ⟨rfl, fun h => ?_, by omega⟩
      have : c.toNat ≠ 48 := fun hh => h (by
        have : c = 48 := UInt8.toNat_inj.1 hh
        simp [this])
      omega
    · have hhd : (r ++ [c]).head? = r.head? := head_app _ _ hr0
      have hrl : 0 < r.length := List.length_pos_iff.2 hr0
      have hne : r.head? ≠ some 48 := fun hh => hlead ⟨by rw [hhd]; exact hh, by simp; omega⟩
      obtain ⟨b1, b2, b3⟩ := ih r hr hr0 har (fun hh => hne hh.1)
      have hp := b2 hne
      refine ⟨by rw [dec_snoc _ _ hp (by omega), b1, hcc], fun _ => by omega, by rw [Nat.pow_succ]; omega⟩
theorem valOf_some {l : List UInt8} {v : Nat} (h : valOf l = some v) : l = Lib.decDigits v ∧ v < 1000000000 := by
  unfold valOf at h
  split at h
  · cases h
  · rename_i hc
    injection h with h
    subst h
    have h0 : l ≠ [] := fun e => hc (.inl e)
    have h9 : l.length ≤ 9 := Nat.not_lt.1 fun e => hc (.inr (.inl e))
    have ha : allDig l = true := by
      cases e : allDig l
      · exact absurd (.inr (.inr (.inl e))) hc
      · rfl
    obtain ⟨c1, _, c3⟩ := canon l.length l rfl h0 ha (fun e => hc (.inr (.inr (.inr e))))
    exact ⟨c1.symm, Nat.lt_of_lt_of_le c3 (Nat.pow_le_pow_right (by omega) h9)⟩
theorem valOf_dec {v : Nat} (h : v < 1000000000) : valOf (Lib.decDigits v) = some v := by
  obtain ⟨a1, a2, a3, a4, a5⟩ := dec_facts 8 v (by omega)
  unfold valOf
  rw [if_neg, a4]
  rintro (e | e | e | ⟨e1, e2⟩)
  · exact a2 e
  · omega
  · rw [a3] at e; cases e
  · have := a5 e1
    subst this
    rw [dec_zero] at e2
    simp at e2
theorem decFrom_val (l : List UInt8) : ∀ acc, allDig l = true → Lib.decFrom acc l = some (l.foldl (fun n (c : UInt8) => 10 * n + (c.toNat - 48)) acc) := by
  induction l with
  | nil => intro acc _; rfl
  | cons c r ih =>
    intro acc h
    unfold allDig at h
    rw [List.all_cons, Bool.and_eq_true] at h
    have hc : 48 ≤ c.toNat ∧ c.toNat ≤ 57 := by simpa [isDigitU] using h.1
    have hd : Lib.digitVal c = some (c.toNat - 48) := by unfold Lib.digitVal; rw [if_pos hc]
    rw [Lib.decFrom, hd]
    simp only [List.foldl_cons]
    rw [show acc * 10 + (c.toNat - 48) = 10 * acc + (c.toNat - 48) by omega]
    exact ih _ h.2
/-- strconv.Atoi of a word that spells a number. -/
theorem atoi_val {l : List UInt8} {v : Nat} (h : valOf l = some v) : Lib.atoiAll l = .ok (v : Int) := by
  obtain ⟨rfl, hv⟩ := valOf_some h
  obtain ⟨a1, a2, a3, a4, a5⟩ := dec_facts 8 v (by omega)
  generalize hL : Lib.decDigits v = L at a1 a2 a3 a4 a5
  cases L with
  | nil => exact absurd rfl a2
  | cons c r =>
    have hc : 48 ≤ c.toNat ∧ c.toNat ≤ 57 := by
      unfold allDig at a3
      rw [List.all_cons, Bool.and_eq_true] at a3
      simpa [isDigitU] using a3.1
    rw [Lib.atoiAll_plain c r (by omega) (by omega), Lib.signless_short (by omega)]
    have : Lib.decNat (c :: r) = some v := by
      unfold Lib.decNat
      rw [if_neg (by simp), decFrom_val _ _ a3]
      exact congrArg some a4
    rw [this]
    rfl
/-- What strconv.Atoi reads and strconv.Itoa writes back spells a number. -/
theorem val_atoi {l : List UInt8} {n : Int} (h0 : 0 ≤ n) (h9 : l.length ≤ 9) (h : Lib.itoa n = l) : valOf l = some n.toNat := by
  obtain ⟨u, rfl⟩ : ∃ u : Nat, n = u := ⟨n.toNat, by omega⟩
  rw [Lib.itoa_nonneg] at h
  subst h
  simp only [Int.toNat_natCast]
  refine valOf_dec ?_
  rw [Lib.decDigits_length] at h9
  exact Nat.lt_of_lt_of_le (Lib.lt_pow_nDigits u) (Nat.pow_le_pow_right (by omega) h9)

/-- A text cut at each of the bytes c. -/
def cut (c : UInt8) : List UInt8 → List (List UInt8)
  | [] => [[]]
  | x :: r => if x = c then [] :: cut c r else match cut c r with
    | [] => [[x]]
    | y :: ys => (x :: y) :: ys
theorem cut_ne (c : UInt8) (l : List UInt8) : cut c l ≠ [] := by
  cases l with
  | nil => simp [cut]
  | cons x r =>
    unfold cut
    split
    · simp
    · split <;> simp
theorem cut_app (c : UInt8) (a : List UInt8) (h : ∀ x ∈ a, x ≠ c) : ∀ r, cut c (a ++ r) = (a ++ (cut c r).headD []) :: (cut c r).tail := by
  induction a with
  | nil =>
    intro r
    cases e : cut c r with
    | nil => exact absurd e (cut_ne c r)
    | cons y ys => simp [e]
  | cons x t ih =>
    intro r
    rw [List.cons_append, cut, if_neg (h x (List.mem_cons_self ..)), ih (fun y hy => h y (List.mem_cons_of_mem _ hy))]
    rfl
theorem cut_piece (c : UInt8) (a r : List UInt8) (h : ∀ x ∈ a, x ≠ c) : cut c (a ++ c :: r) = a :: cut c r := by
  rw [cut_app c a h, cut, if_pos rfl]
  simp
theorem cut_last (c : UInt8) (a : List UInt8) (h : ∀ x ∈ a, x ≠ c) : cut c a = [a] := by
  have := cut_app c a h []
  rw [List.append_nil] at this
  rw [this]
  simp [cut]
theorem cut_len (c : UInt8) (l : List UInt8) : (cut c l).length = l.count c + 1 := by
  induction l with
  | nil => rfl
  | cons x r ih =>
    unfold cut
    by_cases h : x = c
    · rw [if_pos h]; subst h; simp [ih]
    · rw [if_neg h, List.count_cons_of_ne h]
      cases e : cut c r with
      | nil => exact absurd e (cut_ne c r)
      | cons y ys => rw [e] at ih; simpa using ih
theorem index_mid (c : UInt8) (a r : List UInt8) (h : ∀ x ∈ a, x ≠ c) : Lib.index (a ++ c :: r) [c] = a.length := by
  induction a with
  | nil => simp [Lib.index]
  | cons x t ih =>
    have hx : x ≠ c := h x (List.mem_cons_self ..)
    have hi := ih (fun y hy => h y (List.mem_cons_of_mem _ hy))
    have he : ([c].isPrefixOf (x :: (t ++ c :: r))) = false := by simp [List.isPrefixOf, Ne.symm hx]
    rw [List.cons_append, Lib.index, he, hi]
    have : ((t.length : Int) == -1) = false := by simp
    rw [this]
    simp
theorem first_cut (c : UInt8) (l : List UInt8) (h : c ∈ l) : ∃ a r, l = a ++ c :: r ∧ ∀ x ∈ a, x ≠ c := by
  induction l with
  | nil => simp at h
  | cons x t ih =>
    by_cases hx : x = c
    · exact ⟨[], t, by simp [hx], by simp⟩
    · rcases List.mem_cons.1 h with e | e
      · exact absurd e.symm hx
      · obtain ⟨a, r, rfl, ha⟩ := ih e
        refine ⟨x :: a, r, rfl, fun y hy => ?_⟩
        rcases List.mem_cons.1 hy with e2 | e2
        · exact e2 ▸ hx
        · exact ha y e2
theorem split_cut (c : UInt8) : ∀ (n : Nat) (l : List UInt8), l.count c = n → Lib.splitK [c] 0 n l = cut c l := by
  intro n
  induction n with
  | zero =>
    intro l h
    rw [cut_last c l (fun x hx e => by
      subst e
      have := List.count_pos_iff.2 hx
      omega)]
    rfl
  | succ n ih =>
    intro l h
    have hm : c ∈ l := List.count_pos_iff.1 (by omega)
    obtain ⟨a, r, rfl, ha⟩ := first_cut c l hm
    have h0 : a.count c = 0 := List.count_eq_zero.2 fun e => ha c e rfl
    have hr : r.count c = n := by
      rw [List.count_append, List.count_cons_self, h0] at h
      omega
    rw [Lib.splitK, index_mid c a r ha, cut_piece c a r ha, ← ih r hr]
    have : ((a.length : Int) == -1) = false := by simp
    rw [this]
    simp
end Go.Proofs.YtmnbgamnbgdnnaaGreatDoor
