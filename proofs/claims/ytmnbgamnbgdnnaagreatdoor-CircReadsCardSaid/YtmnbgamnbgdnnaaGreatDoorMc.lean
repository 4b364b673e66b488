/- Contracts and plain laws of chapter 12, merged: CirN CirO CirP CirQ. -/
import Derived.Test.YtmnbgamnbgdnnaaGreatDoorMb
import Derived.Lib.SplitLaws
import Derived.Lib.AtoiTie
import Derived.Lib.AtoiAllCases
import Derived.Lib.ItoaMem
import Derived.Lib.Join
/- Plain: decimal numerals, and a text cut at a byte. -/
namespace Go.Proofs.YtmnbgamnbgdnnaaGreatDoor
open Go.RowKit

def isDigitU (c : UInt8) : Bool := decide (48 ≤ c.toNat) && decide (c.toNat ≤ 57)
def allDig (l : List UInt8) : Bool := l.all isDigitU
def numVal (l : List UInt8) : Nat := l.foldl (fun n c => 10 * n + (c.toNat - 48)) 0
/-- The number that a word spells: decimal, no leading zero, at most nine digits. -/
def valOf (l : List UInt8) : Option Nat := if l = [] ∨ 9 < l.length ∨ allDig l = false ∨ (l.head? = some 48 ∧ 1 < l.length) then none else some (numVal l)

theorem head_app (a b : List UInt8) (h : a ≠ []) : (a ++ b).head? = a.head? := by
  cases a with
  | nil => exact absurd rfl h
  | cons x r => rfl
theorem dec_facts : ∀ (k u : Nat), u < 10 ^ (k + 1) → (Lib.decDigits u).length ≤ k + 1 ∧ Lib.decDigits u ≠ [] ∧ allDig (Lib.decDigits u) = true ∧ numVal (Lib.decDigits u) = u ∧ ((Lib.decDigits u).head? = some 48 → u = 0) := by
  intro k
  induction k with
  | zero =>
    intro u h
    have h10 : u < 10 := by simpa using h
    rw [Lib.decDigits_one h10]
    refine ⟨by simp, by simp, ?_, ?_, ?_⟩
    · simp [allDig, isDigitU]; omega
    · simp [numVal]; omega
    · intro he
      simp only [List.head?_cons, Option.some.injEq] at he
      have := congrArg UInt8.toNat he
      simp at this; omega
  | succ k ih =>
    intro u h
    by_cases h10 : u < 10
    · rw [Lib.decDigits_one h10]
      refine ⟨by simp, by simp, ?_, ?_, ?_⟩
      · simp [allDig, isDigitU]; omega
      · simp [numVal]; omega
      · intro he
        simp only [List.head?_cons, Option.some.injEq] at he
        have := congrArg UInt8.toNat he
        simp at this; omega
    · obtain ⟨a1, a2, a3, a4, a5⟩ := ih (u / 10) (by rw [Nat.pow_succ] at h; omega)
      rw [Lib.decDigits.eq_1 u, dif_neg h10]
      refine ⟨by simp; omega, by simp, ?_, ?_, ?_⟩
      · unfold allDig at *
        rw [List.all_append, a3]
        simp [isDigitU]; omega
      · unfold numVal at *
        rw [List.foldl_append, a4]
        simp; omega
      · intro he
        rw [head_app _ _ a2] at he
        have := a5 he
        omega
theorem dec_nine {u : Nat} (h : u < 1000000000) : (Lib.decDigits u).length ≤ 9 := (dec_facts 8 u (by omega)).1
theorem dec_ne (u : Nat) : Lib.decDigits u ≠ [] := by
  rw [Lib.decDigits.eq_1 u]
  split <;> simp
theorem dec_zero : Lib.decDigits 0 = [48] := Lib.decDigits_one (by omega)
theorem dec_snoc (u d : Nat) (hu : 0 < u) (hd : d < 10) : Lib.decDigits (10 * u + d) = Lib.decDigits u ++ [UInt8.ofNat (48 + d)] := by
  rw [Lib.decDigits.eq_1 (10 * u + d), dif_neg (by omega), show (10 * u + d) / 10 = u by omega, show (10 * u + d) % 10 = d by omega]
theorem canon (n : Nat) : ∀ (l : List UInt8), l.length = n → l ≠ [] → allDig l = true → ¬ (l.head? = some 48 ∧ 1 < l.length) → Lib.decDigits (numVal l) = l ∧ (l.head? ≠ some 48 → 0 < numVal l) ∧ numVal l < 10 ^ n := by
  induction n with
  | zero => intro l h h0; exact absurd (List.eq_nil_of_length_eq_zero h) h0
  | succ n ih =>
    intro l hl h0 had hlead
    obtain ⟨r, c, rfl⟩ : ∃ r c, l = r ++ [c] := ⟨l.dropLast, l.getLast h0, (List.dropLast_concat_getLast h0).symm⟩
    have hr : r.length = n := by simpa using hl
    unfold allDig at had
    rw [List.all_append, Bool.and_eq_true] at had
    obtain ⟨har, hac⟩ := had
    have hc : 48 ≤ c.toNat ∧ c.toNat ≤ 57 := by simpa [isDigitU] using hac
    have hcc : UInt8.ofNat (48 + (c.toNat - 48)) = c := by rw [show 48 + (c.toNat - 48) = c.toNat by omega]; simp
    have hv : numVal (r ++ [c]) = 10 * numVal r + (c.toNat - 48) := by unfold numVal; rw [List.foldl_append]; rfl
    rw [hv]
    by_cases hr0 : r = []
    · subst hr0
      obtain rfl : n = 0 := by simpa using hr.symm
      have hz : numVal [] = 0 := rfl
      rw [hz, Lib.decDigits_one (by omega), show 10 * 0 + (c.toNat - 48) = c.toNat - 48 by omega, hcc]
      refine ⟨rfl, fun h => ?_, by omega⟩
      have : c.toNat ≠ 48 := fun hh => h (by
        have : c = 48 := UInt8.toNat_inj.1 hh
        simp [this])
      omega
    · have hhd : (r ++ [c]).head? = r.head? := head_app _ _ hr0
      have hrl : 0 < r.length := List.length_pos_iff.2 hr0
      have hne : r.head? ≠ some 48 := fun hh => hlead ⟨by rw [hhd]; exact hh, by simp; omega⟩
      obtain ⟨b1, b2, b3⟩ := ih r hr hr0 har (fun hh => hne hh.1)
      have hp := b2 hne
      refine ⟨by rw [dec_snoc _ _ hp (by omega), b1, hcc], fun _ => by omega, by rw [Nat.pow_succ]; omega⟩
theorem valOf_some {l : List UInt8} {v : Nat} (h : valOf l = some v) : l = Lib.decDigits v ∧ v < 1000000000 := by
  unfold valOf at h
  split at h
  · cases h
  · rename_i hc
    injection h with h
    subst h
    have h0 : l ≠ [] := fun e => hc (.inl e)
    have h9 : l.length ≤ 9 := Nat.not_lt.1 fun e => hc (.inr (.inl e))
    have ha : allDig l = true := by
      cases e : allDig l
      · exact absurd (.inr (.inr (.inl e))) hc
      · rfl
    obtain ⟨c1, _, c3⟩ := canon l.length l rfl h0 ha (fun e => hc (.inr (.inr (.inr e))))
    exact ⟨c1.symm, Nat.lt_of_lt_of_le c3 (Nat.pow_le_pow_right (by omega) h9)⟩
theorem valOf_dec {v : Nat} (h : v < 1000000000) : valOf (Lib.decDigits v) = some v := by
  obtain ⟨a1, a2, a3, a4, a5⟩ := dec_facts 8 v (by omega)
  unfold valOf
  rw [if_neg, a4]
  rintro (e | e | e | ⟨e1, e2⟩)
  · exact a2 e
  · omega
  · rw [a3] at e; cases e
  · have := a5 e1
    subst this
    rw [dec_zero] at e2
    simp at e2
theorem decFrom_val (l : List UInt8) : ∀ acc, allDig l = true → Lib.decFrom acc l = some (l.foldl (fun n (c : UInt8) => 10 * n + (c.toNat - 48)) acc) := by
  induction l with
  | nil => intro acc _; rfl
  | cons c r ih =>
    intro acc h
    unfold allDig at h
    rw [List.all_cons, Bool.and_eq_true] at h
    have hc : 48 ≤ c.toNat ∧ c.toNat ≤ 57 := by simpa [isDigitU] using h.1
    have hd : Lib.digitVal c = some (c.toNat - 48) := by unfold Lib.digitVal; rw [if_pos hc]
    rw [Lib.decFrom, hd]
    simp only [List.foldl_cons]
    rw [show acc * 10 + (c.toNat - 48) = 10 * acc + (c.toNat - 48) by omega]
    exact ih _ h.2
/-- strconv.Atoi of a word that spells a number. -/
theorem atoi_val {l : List UInt8} {v : Nat} (h : valOf l = some v) : Lib.atoiAll l = .ok (v : Int) := by
  obtain ⟨rfl, hv⟩ := valOf_some h
  obtain ⟨a1, a2, a3, a4, a5⟩ := dec_facts 8 v (by omega)
  generalize hL : Lib.decDigits v = L at a1 a2 a3 a4 a5
  cases L with
  | nil => exact absurd rfl a2
  | cons c r =>
    have hc : 48 ≤ c.toNat ∧ c.toNat ≤ 57 := by
      unfold allDig at a3
      rw [List.all_cons, Bool.and_eq_true] at a3
      simpa [isDigitU] using a3.1
    rw [Lib.atoiAll_plain c r (by omega) (by omega), Lib.signless_short (by omega)]
    have : Lib.decNat (c :: r) = some v := by
      unfold Lib.decNat
      rw [if_neg (by simp), decFrom_val _ _ a3]
      exact congrArg some a4
    rw [this]
    rfl
/-- What strconv.Atoi reads and strconv.Itoa writes back spells a number. -/
theorem val_atoi {l : List UInt8} {n : Int} (h0 : 0 ≤ n) (h9 : l.length ≤ 9) (h : Lib.itoa n = l) : valOf l = some n.toNat := by
  obtain ⟨u, rfl⟩ : ∃ u : Nat, n = u := ⟨n.toNat, by omega⟩
  rw [Lib.itoa_nonneg] at h
  subst h
  simp only [Int.toNat_natCast]
  refine valOf_dec ?_
  rw [Lib.decDigits_length] at h9
  exact Nat.lt_of_lt_of_le (Lib.lt_pow_nDigits u) (Nat.pow_le_pow_right (by omega) h9)

/-- A text cut at each of the bytes c. -/
def cut (c : UInt8) : List UInt8 → List (List UInt8)
  | [] => [[]]
  | x :: r => if x = c then [] :: cut c r else match cut c r with
    | [] => [[x]]
    | y :: ys => (x :: y) :: ys
theorem cut_ne (c : UInt8) (l : List UInt8) : cut c l ≠ [] := by
  cases l with
  | nil => simp [cut]
  | cons x r =>
    unfold cut
    split
    · simp
    · split <;> simp
theorem cut_app (c : UInt8) (a : List UInt8) (h : ∀ x ∈ a, x ≠ c) : ∀ r, cut c (a ++ r) = (a ++ (cut c r).headD []) :: (cut c r).tail := by
  induction a with
  | nil =>
    intro r
    cases e : cut c r with
    | nil => exact absurd e (cut_ne c r)
    | cons y ys => simp [e]
  | cons x t ih =>
    intro r
    rw [List.cons_append, cut, if_neg (h x (List.mem_cons_self ..)), ih (fun y hy => h y (List.mem_cons_of_mem _ hy))]
    rfl
theorem cut_piece (c : UInt8) (a r : List UInt8) (h : ∀ x ∈ a, x ≠ c) : cut c (a ++ c :: r) = a :: cut c r := by
  rw [cut_app c a h, cut, if_pos rfl]
  simp
theorem cut_last (c : UInt8) (a : List UInt8) (h : ∀ x ∈ a, x ≠ c) : cut c a = [a] := by
  have := cut_app c a h []
  rw [List.append_nil] at this
  rw [this]
  simp [cut]
theorem cut_len (c : UInt8) (l : List UInt8) : (cut c l).length = l.count c + 1 := by
  induction l with
  | nil => rfl
  | cons x r ih =>
    unfold cut
    by_cases h : x = c
    · rw [if_pos h]; subst h; simp [ih]
    · rw [if_neg h, List.count_cons_of_ne h]
      cases e : cut c r with
      | nil => exact absurd e (cut_ne c r)
      | cons y ys => rw [e] at ih; simpa using ih
theorem index_mid (c : UInt8) (a r : List UInt8) (h : ∀ x ∈ a, x ≠ c) : Lib.index (a ++ c :: r) [c] = a.length := by
  induction a with
  | nil => simp [Lib.index]
  | cons x t ih =>
    have hx : x ≠ c := h x (List.mem_cons_self ..)
    have hi := ih (fun y hy => h y (List.mem_cons_of_mem _ hy))
    have he : ([c].isPrefixOf (x :: (t ++ c :: r))) = false := by simp [List.isPrefixOf, Ne.symm hx]
    rw [List.cons_append, Lib.index, he, hi]
    have : ((t.length : Int) == -1) = false := by simp
    rw [this]
    simp
theorem first_cut (c : UInt8) (l : List UInt8) (h : c ∈ l) : ∃ a r, l = a ++ c :: r ∧ ∀ x ∈ a, x ≠ c := by
  induction l with
  | nil => simp at h
  | cons x t ih =>
    by_cases hx : x = c
    · exact ⟨[], t, by simp [hx], by simp⟩
    · rcases List.mem_cons.1 h with e | e
      · exact absurd e.symm hx
      · obtain ⟨a, r, rfl, ha⟩ := ih e
        refine ⟨x :: a, r, rfl, fun y hy => ?_⟩
        rcases List.mem_cons.1 hy with e2 | e2
        · exact e2 ▸ hx
        · exact ha y e2
theorem split_cut (c : UInt8) : ∀ (n : Nat) (l : List UInt8), l.count c = n → Lib.splitK [c] 0 n l = cut c l := by
  intro n
  induction n with
  | zero =>
    intro l h
    rw [cut_last c l (fun x hx e => by
      subst e
      have := List.count_pos_iff.2 hx
      omega)]
    rfl
  | succ n ih =>
    intro l h
    have hm : c ∈ l := List.count_pos_iff.1 (by omega)
    obtain ⟨a, r, rfl, ha⟩ := first_cut c l hm
    have h0 : a.count c = 0 := List.count_eq_zero.2 fun e => ha c e rfl
    have hr : r.count c = n := by
      rw [List.count_append, List.count_cons_self, h0] at h
      omega
    rw [Lib.splitK, index_mid c a r ha, cut_piece c a r ha, ← ih r hr]
    have : ((a.length : Int) == -1) = false := by simp
    rw [this]
    simp
end Go.Proofs.YtmnbgamnbgdnnaaGreatDoor

/- Plain: the text of a circuit, and what a text spells. -/
namespace Go.Proofs.YtmnbgamnbgdnnaaGreatDoor
open Go.RowKit

abbrev Bs := List UInt8
abbrev ExL := List Int × List Int
def Exi.l (x : Exi) : ExL := (x.tl, x.gl)
/-- A circuit without its places in memory. -/
abbrev Lis := List Slo × List Gat × List ExL
def Cir.l (C : Cir) : Lis := (C.slots, C.gates, C.exits.map Exi.l)
def numI (n : Int) : Bs := Lib.decDigits n.toNat
def spaced (l : List Bs) : Bs := l.flatMap fun x => 32 :: x
def kwSlots : Bs := [115, 108, 111, 116, 115]
def kwOut : Bs := [111, 117, 116]
def kwAll : Bs := [97, 108, 108]
def kwIn : Bs := [105, 110]
def kwConst : Bs := [99, 111, 110, 115, 116]
def kwAdd : Bs := [97, 100, 100]
def kwSub : Bs := [115, 117, 98]
def kwMul : Bs := [109, 117, 108]
def kwScale : Bs := [115, 99, 97, 108, 101]
/-- The words of a gate's line. -/
def gateWords (g : Gat) : List Bs :=
  if g.1 = 1 then [kwIn, numI g.2.1] else if g.1 = 2 then [kwConst, numI g.2.2.2] else if g.1 = 3 then [kwAdd, numI g.2.1, numI g.2.2.1] else
  if g.1 = 4 then [kwSub, numI g.2.1, numI g.2.2.1] else if g.1 = 5 then [kwMul, numI g.2.1, numI g.2.2.1] else [kwScale, numI g.2.1, numI g.2.2.2]
def slotText (x : Slo) : Bs := 32 :: (if x.2 then 98 else 110) :: numI x.1
def slotLine (l : List Slo) : Bs := kwSlots ++ l.flatMap slotText
def gateLine (g : Gat) : Bs := Lib.join (gateWords g) [32]
/-- The words of an exit's line. -/
def exitWords (x : ExL) : List Bs := kwOut :: ((if x.1 = [] then [kwAll] else x.1.map numI) ++ [58] :: x.2.map numI)
def exitLine (x : ExL) : Bs := Lib.join (exitWords x) [32]
/-- The lines of a circuit's text. -/
def lineList (L : Lis) : List Bs := slotLine L.1 :: (L.2.1.map gateLine ++ L.2.2.map exitLine)
def ended (l : List Bs) : Bs := l.flatMap fun x => x ++ [10]
def textOf (L : Lis) : Bs := ended (lineList L)

theorem join_spaced (x : Bs) (l : List Bs) : Lib.join (x :: l) [32] = x ++ spaced l := by
  rw [Lib.join_cons]
  rfl
theorem ended_snoc (l : List Bs) (x : Bs) : ended (l ++ [x]) = ended l ++ (x ++ [10]) := by simp [ended]
theorem ended_app (l k : List Bs) : ended (l ++ k) = ended l ++ ended k := by simp [ended]
theorem spaced_snoc (l : List Bs) (x : Bs) : spaced (l ++ [x]) = spaced l ++ 32 :: x := by simp [spaced]
theorem spaced_app (l k : List Bs) : spaced (l ++ k) = spaced l ++ spaced k := by simp [spaced]

/-- What f says of each word; nothing if it says nothing of one. -/
def allOf {α : Type} (f : Bs → Option α) : List Bs → Option (List α)
  | [] => some []
  | x :: r => match f x, allOf f r with
    | some a, some l => some (a :: l)
    | _, _ => none
def slotOfW : Bs → Option Slo
  | [] => none
  | c :: r => if c = 110 ∨ c = 98 then (valOf r).map fun (n : Nat) => (Int.ofNat n, decide (c = 98)) else none
def slotsOf (s : Bs) : Option (List Slo) := if (cut 32 s).headD [] = kwSlots then allOf slotOfW (cut 32 s).tail else none
def gateOf (s : Bs) : Option Gat := match allOf valOf (cut 32 s).tail with
  | some [a] => if (cut 32 s).headD [] = kwIn then some (1, a, 0, 0) else if (cut 32 s).headD [] = kwConst then some (2, 0, 0, a) else none
  | some [a, b] => if (cut 32 s).headD [] = kwAdd then some (3, a, b, 0) else if (cut 32 s).headD [] = kwSub then some (4, a, b, 0) else if (cut 32 s).headD [] = kwMul then some (5, a, b, 0) else
      if (cut 32 s).headD [] = kwScale then some (6, a, 0, b) else none
  | _ => none
/-- The number of words ahead of the colon, behind the first word. -/
def upTo (l : List Bs) : Nat := (l.takeWhile fun x => decide (x ≠ [58])).length
def exitOf (s : Bs) : Option ExL :=
  if (cut 32 s).headD [] = kwOut ∧ upTo (cut 32 s).tail ≠ 0 ∧ upTo (cut 32 s).tail < (cut 32 s).tail.length then
    match allOf valOf (if (cut 32 s).tail.take (upTo (cut 32 s).tail) = [kwAll] then [] else (cut 32 s).tail.take (upTo (cut 32 s).tail)), allOf valOf ((cut 32 s).tail.drop (upTo (cut 32 s).tail + 1)) with
    | some a, some b => some (a.map Int.ofNat, b.map Int.ofNat)
    | _, _ => none
  else none
/-- One more line. -/
def stepL (i : Nat) (st : Lis) (s : Bs) : Option Lis :=
  if i = 0 then (slotsOf s).map fun l => (l, st.2.1, st.2.2) else
  if (gateOf s).isSome ∧ st.2.2 = [] then (gateOf s).map fun g => (st.1, st.2.1 ++ [g], st.2.2) else (exitOf s).map fun x => (st.1, st.2.1, st.2.2 ++ [x])
def runL (i : Nat) (st : Lis) : List Bs → Nat ⊕ Lis
  | [] => .inr st
  | s :: r => match stepL i st s with
    | none => .inl i
    | some st' => runL (i + 1) st' r
def lisCir (L : Lis) : Cir := ⟨L.1, L.2.1, L.2.2.map (fun x => ⟨x.1, x.2, none, none, 0, 0⟩), none, none, none, 0, 0, 0⟩
def checkL (p : Nat) (L : Lis) : Int := checkErr p (lisCir L)
theorem exitsErr_l (m : Int) (l k : List Exi) (h : l.map Exi.l = k.map Exi.l) : exitsErr m l = exitsErr m k := by
  induction l generalizing k with
  | nil => cases k with
    | nil => rfl
    | cons y r => simp at h
  | cons x t ih => cases k with
    | nil => simp at h
    | cons y r =>
      simp only [List.map_cons, List.cons.injEq] at h
      have h1 : xErr m x = xErr m y := by
        unfold xErr
        have h2 : x.tl = y.tl ∧ x.gl = y.gl := by simpa [Exi.l] using h.1
        rw [h2.1, h2.2]
      unfold exitsErr
      rw [h1, ih r h.2]
theorem check_l (p : Nat) (C D : Cir) (h : C.l = D.l) : checkErr p C = checkErr p D := by
  have h1 : C.slots = D.slots := congrArg (fun x : Lis => x.1) h
  have h2 : C.gates = D.gates := congrArg (fun x : Lis => x.2.1) h
  have h3 : C.exits.map Exi.l = D.exits.map Exi.l := congrArg (fun x : Lis => x.2.2) h
  have h4 : C.exits.length = D.exits.length := by simpa using congrArg List.length h3
  have ht : tooBig C ↔ tooBig D := by unfold tooBig; rw [h1, h2, h4]
  unfold checkErr
  by_cases hp : isP p = false
  · rw [if_pos hp, if_pos hp]
  rw [if_neg hp, if_neg hp]
  by_cases hb : tooBig C
  · rw [if_pos hb, if_pos (ht.1 hb)]
  rw [if_neg hb, if_neg (fun h => hb (ht.2 h)), h1, h2, exitsErr_l _ _ _ h3]
theorem lis_l (L : Lis) : (lisCir L).l = L := by
  unfold lisCir Cir.l
  simp [Exi.l, Function.comp_def]
theorem check_cl (p : Nat) (C : Cir) : checkL p C.l = checkErr p C := check_l p _ _ (lis_l _)
/-- What circ.Read says of a text: the circuit, the line, the error. -/
def readOf (p : Nat) (t : Bs) : Lis × Nat × Int :=
  if isP p = false then (([], [], []), 0, 2) else if 4194304 < t.length then (([], [], []), 0, 3) else
  match runL 0 ([], [], []) (cut 10 t).dropLast with
  | .inl i => (([], [], []), i, 4)
  | .inr L => if (cut 10 t).dropLast = [] ∨ (cut 10 t).getLastD [] ≠ [] then (([], [], []), (cut 10 t).dropLast.length, 4) else if checkL p L ≠ 0 then (([], [], []), 0, checkL p L) else (L, 0, 0)
end Go.Proofs.YtmnbgamnbgdnnaaGreatDoor

/- Plain laws: reading a circuit's text gives the circuit, and writing what was read gives the text. -/
namespace Go.Proofs.YtmnbgamnbgdnnaaGreatDoor
open Go.RowKit

theorem dec_dig (n : Nat) : ∀ c ∈ Lib.decDigits n, 48 ≤ c.toNat ∧ c.toNat ≤ 57 := by
  intro c hc
  have h := (dec_facts (Lib.nDigits n) n (Nat.lt_of_lt_of_le (Lib.lt_pow_nDigits n) (Nat.pow_le_pow_right (by omega) (by omega)))).2.2.1
  unfold allDig at h
  have := List.all_eq_true.1 h c hc
  simpa [isDigitU] using this
theorem u8_ne {a b : UInt8} (h : a.toNat ≠ b.toNat) : a ≠ b := fun e => h (by rw [e])
theorem cut_spaced (l : List Bs) : ∀ x : Bs, (∀ c ∈ x, c ≠ 32) → (∀ y ∈ l, ∀ c ∈ y, c ≠ 32) → cut 32 (x ++ spaced l) = x :: l := by
  induction l with
  | nil => intro x hx _; simp only [spaced, List.flatMap_nil, List.append_nil]; exact cut_last 32 x hx
  | cons y r ih =>
    intro x hx hl
    have : x ++ spaced (y :: r) = x ++ 32 :: (y ++ spaced r) := by simp [spaced]
    rw [this, cut_piece 32 x _ hx, ih y (hl y (List.mem_cons_self ..)) (fun z hz => hl z (List.mem_cons_of_mem _ hz))]
theorem cut_join (x : Bs) (l : List Bs) (h : ∀ y ∈ x :: l, ∀ c ∈ y, c ≠ 32) : cut 32 (Lib.join (x :: l) [32]) = x :: l := by
  rw [join_spaced]
  exact cut_spaced l x (h x (List.mem_cons_self ..)) fun y hy => h y (List.mem_cons_of_mem _ hy)
theorem cut_ended (l : List Bs) (h : ∀ y ∈ l, ∀ c ∈ y, c ≠ 10) : cut 10 (ended l) = l ++ [[]] := by
  induction l with
  | nil => rfl
  | cons x r ih =>
    have : ended (x :: r) = x ++ 10 :: ended r := by simp [ended]
    rw [this, cut_piece 10 x _ (h x (List.mem_cons_self ..)), ih fun y hy => h y (List.mem_cons_of_mem _ hy)]
    rfl
theorem spaced_cut (s : Bs) : (cut 32 s).headD [] ++ spaced (cut 32 s).tail = s := by
  induction s with
  | nil => rfl
  | cons x r ih =>
    unfold cut
    by_cases h : x = 32
    · rw [if_pos h]
      cases e : cut 32 r with
      | nil => exact absurd e (cut_ne 32 r)
      | cons y ys =>
        rw [e] at ih
        subst h
        simp [spaced] at ih ⊢
        exact ih
    · rw [if_neg h]
      cases e : cut 32 r with
      | nil => exact absurd e (cut_ne 32 r)
      | cons y ys =>
        rw [e] at ih
        simp at ih ⊢
        exact ih
theorem ended_cut (s : Bs) : ended (cut 10 s).dropLast ++ (cut 10 s).getLastD [] = s := by
  induction s with
  | nil => rfl
  | cons x r ih =>
    unfold cut
    by_cases h : x = 10
    · rw [if_pos h]
      cases e : cut 10 r with
      | nil => exact absurd e (cut_ne 10 r)
      | cons y ys =>
        rw [e] at ih
        subst h
        simp [ended] at ih ⊢
        exact ih
    · rw [if_neg h]
      cases e : cut 10 r with
      | nil => exact absurd e (cut_ne 10 r)
      | cons y ys =>
        rw [e] at ih
        cases ys with
        | nil => simp [ended] at ih ⊢; exact ih
        | cons z zs => simp [ended] at ih ⊢; exact ih
theorem allOf_map {α β : Type} (f : Bs → Option α) (g : β → Bs) (h : β → α) (l : List β) (hf : ∀ x ∈ l, f (g x) = some (h x)) : allOf f (l.map g) = some (l.map h) := by
  induction l with
  | nil => rfl
  | cons x r ih => rw [List.map_cons, allOf, hf x (List.mem_cons_self ..), ih fun y hy => hf y (List.mem_cons_of_mem _ hy)]; rfl
theorem allOf_back {α : Type} (f : Bs → Option α) (g : α → Bs) (hf : ∀ w x, f w = some x → g x = w) (ws : List Bs) : ∀ l, allOf f ws = some l → l.map g = ws := by
  induction ws with
  | nil => intro l h; injection h with h; subst h; rfl
  | cons w r ih =>
    intro l h
    rw [allOf] at h
    cases e1 : f w with
    | none => rw [e1] at h; cases h
    | some x =>
      cases e2 : allOf f r with
      | none => rw [e1, e2] at h; cases h
      | some t =>
        rw [e1, e2] at h
        injection h with h
        subst h
        rw [List.map_cons, hf w x e1, ih t e2]

def slotW (x : Slo) : Bs := (if x.2 then 98 else 110) :: numI x.1
theorem slotLine_join (l : List Slo) : slotLine l = Lib.join (kwSlots :: l.map slotW) [32] := by
  rw [join_spaced]
  unfold slotLine spaced
  rw [List.flatMap_map]
  rfl
theorem kw_no (k : Bs) (h : k.all fun c => decide (c ≠ 32) && decide (c ≠ 10)) : ∀ c ∈ k, c ≠ 32 ∧ c ≠ 10 := by
  intro c hc
  have := List.all_eq_true.1 h c hc
  simpa using this
theorem num_no (n : Int) : ∀ c ∈ numI n, c ≠ 32 ∧ c ≠ 10 := by
  intro c hc
  have := dec_dig _ c hc
  exact ⟨u8_ne (by simp; omega), u8_ne (by simp; omega)⟩
theorem slotW_no (x : Slo) : ∀ c ∈ slotW x, c ≠ 32 ∧ c ≠ 10 := by
  intro c hc
  unfold slotW at hc
  rcases List.mem_cons.1 hc with h | h
  · subst h
    split <;> decide
  · exact num_no _ c h
theorem slotW_of (x : Slo) (h : 0 ≤ x.1 ∧ x.1 < 1000000000) : slotOfW (slotW x) = some x := by
  obtain ⟨n, b⟩ := x
  have h : 0 ≤ n ∧ n < 1000000000 := h
  unfold slotW slotOfW numI
  have hv := valOf_dec (v := n.toNat) (by omega)
  have hn : ((n.toNat : Nat) : Int) = n := by omega
  cases b
  · simp [hv, hn]
  · simp [hv, hn]
theorem slots_of (l : List Slo) (h : ∀ x ∈ l, 0 ≤ x.1 ∧ x.1 < 1000000000) : slotsOf (slotLine l) = some l := by
  have hc : cut 32 (slotLine l) = kwSlots :: l.map slotW := by
    rw [slotLine_join]
    refine cut_join _ _ fun y hy c hc => ?_
    rcases List.mem_cons.1 hy with e | e
    · subst e
      exact (kw_no kwSlots (by decide) c hc).1
    · obtain ⟨x, _, rfl⟩ := List.mem_map.1 e
      exact (slotW_no x c hc).1
  unfold slotsOf
  rw [hc]
  simp only [List.headD_cons, List.tail_cons, if_true]
  rw [allOf_map slotOfW slotW id l fun x hx => slotW_of x (h x hx), List.map_id]
theorem slotW_back (w : Bs) (x : Slo) (hw : slotOfW w = some x) : slotW x = w := by
  cases w with
  | nil => cases hw
  | cons c r =>
    have e0 : slotOfW (c :: r) = if c = 110 ∨ c = 98 then (valOf r).map fun (n : Nat) => (Int.ofNat n, decide (c = 98)) else none := rfl
    rw [e0] at hw
    split at hw
    · rename_i hc
      cases e : valOf r with
      | none => rw [e] at hw; cases hw
      | some n =>
        rw [e] at hw
        injection hw with hw
        subst hw
        have := (valOf_some e).1
        unfold slotW numI
        have e1 : (Int.ofNat n).toNat = n := rfl
        rw [e1, ← this]
        rcases hc with rfl | rfl <;> rfl
    · cases hw
theorem slots_back {s : Bs} {l : List Slo} (h : slotsOf s = some l) : slotLine l = s := by
  unfold slotsOf at h
  split at h
  · rename_i h0
    have h1 := allOf_back slotOfW slotW slotW_back _ l h
    rw [slotLine_join, h1, join_spaced, ← h0]
    exact spaced_cut s
  · cases h

def badKind (k : Int) : Prop := k ≠ 1 ∧ k ≠ 2 ∧ k ≠ 3 ∧ k ≠ 4 ∧ k ≠ 5 ∧ k ≠ 6
theorem head_in : kwIn ≠ kwConst ∧ kwAdd ≠ kwSub ∧ kwAdd ≠ kwMul ∧ kwAdd ≠ kwScale ∧ kwSub ≠ kwMul ∧ kwSub ≠ kwScale ∧ kwMul ≠ kwScale := by decide
theorem nat_no (n : Nat) : ∀ c ∈ Lib.decDigits n, c ≠ 32 ∧ c ≠ 10 := num_no n
/-- A valid gate's line spells the gate. -/
theorem gate_of (g : Gat) (k1 : g.1 = 1 → g.2.2.1 = 0 ∧ g.2.2.2 = 0) (k2 : g.1 = 2 → g.2.1 = 0 ∧ g.2.2.1 = 0) (k3 : g.1 = 3 ∨ g.1 = 4 ∨ g.1 = 5 → g.2.2.2 = 0) (k6 : g.1 = 6 → g.2.2.1 = 0)
    (hk : 1 ≤ g.1 ∧ g.1 ≤ 6) (ha : 0 ≤ g.2.1 ∧ g.2.1 < 1000000000) (hb : 0 ≤ g.2.2.1 ∧ g.2.2.1 < 1000000000) (hc : 0 ≤ g.2.2.2 ∧ g.2.2.2 < 1000000000) : gateOf (gateLine g) = some g := by
  obtain ⟨k, a, b, c⟩ := g
  obtain ⟨a, rfl⟩ : ∃ n : Nat, a = n := ⟨a.toNat, by have : 0 ≤ a := ha.1; omega⟩
  obtain ⟨b, rfl⟩ : ∃ n : Nat, b = n := ⟨b.toNat, by have : 0 ≤ b := hb.1; omega⟩
  obtain ⟨c, rfl⟩ : ∃ n : Nat, c = n := ⟨c.toNat, by have : 0 ≤ c := hc.1; omega⟩
  have va := valOf_dec (v := a) (by have : (a : Int) < 1000000000 := ha.2; omega)
  have vb := valOf_dec (v := b) (by have : (b : Int) < 1000000000 := hb.2; omega)
  have vc := valOf_dec (v := c) (by have : (c : Int) < 1000000000 := hc.2; omega)
  have hk : 1 ≤ k ∧ k ≤ 6 := hk
  have cutw : ∀ (kw : Bs) (l : List Nat), (kw.all fun c => decide (c ≠ 32) && decide (c ≠ 10)) → cut 32 (Lib.join (kw :: l.map Lib.decDigits) [32]) = kw :: l.map Lib.decDigits := by
    intro kw l hkw
    refine cut_join _ _ fun y hy z hz => ?_
    rcases List.mem_cons.1 hy with e | e
    · subst e; exact (kw_no _ hkw z hz).1
    · obtain ⟨n, _, rfl⟩ := List.mem_map.1 e
      exact (nat_no n z hz).1
  rcases (show k = 1 ∨ k = 2 ∨ k = 3 ∨ k = 4 ∨ k = 5 ∨ k = 6 by omega) with rfl | rfl | rfl | rfl | rfl | rfl
  · obtain ⟨e1, e2⟩ := k1 rfl
    have e1 : (b : Int) = 0 := e1
    have e2 : (c : Int) = 0 := e2
    have hl : cut 32 (gateLine (1, a, b, c)) = [kwIn, Lib.decDigits a] := cutw kwIn [a] (by decide)
    unfold gateOf
    rw [hl]
    simp [allOf, va, e1, e2]
  · obtain ⟨e1, e2⟩ := k2 rfl
    have e1 : (a : Int) = 0 := e1
    have e2 : (b : Int) = 0 := e2
    have hl : cut 32 (gateLine (2, a, b, c)) = [kwConst, Lib.decDigits c] := cutw kwConst [c] (by decide)
    unfold gateOf
    rw [hl]
    simp [allOf, vc, e1, e2, head_in.1.symm]
  · have e1 : (c : Int) = 0 := k3 (by simp)
    have hl : cut 32 (gateLine (3, a, b, c)) = [kwAdd, Lib.decDigits a, Lib.decDigits b] := cutw kwAdd [a, b] (by decide)
    unfold gateOf
    rw [hl]
    simp [allOf, va, vb, e1]
  · have e1 : (c : Int) = 0 := k3 (by simp)
    have hl : cut 32 (gateLine (4, a, b, c)) = [kwSub, Lib.decDigits a, Lib.decDigits b] := cutw kwSub [a, b] (by decide)
    unfold gateOf
    rw [hl]
    simp [allOf, va, vb, e1, head_in.2.1.symm]
  · have e1 : (c : Int) = 0 := k3 (by simp)
    have hl : cut 32 (gateLine (5, a, b, c)) = [kwMul, Lib.decDigits a, Lib.decDigits b] := cutw kwMul [a, b] (by decide)
    unfold gateOf
    rw [hl]
    simp [allOf, va, vb, e1, head_in.2.2.1.symm, head_in.2.2.2.2.1.symm]
  · have e1 : (b : Int) = 0 := k6 rfl
    have hl : cut 32 (gateLine (6, a, b, c)) = [kwScale, Lib.decDigits a, Lib.decDigits c] := cutw kwScale [a, c] (by decide)
    unfold gateOf
    rw [hl]
    simp [allOf, va, vc, e1, head_in.2.2.2.1.symm, head_in.2.2.2.2.2.1.symm, head_in.2.2.2.2.2.2.symm]
theorem val_back (w : Bs) (v : Nat) (h : valOf w = some v) : Lib.decDigits v = w := (valOf_some h).1.symm
theorem gate_back {s : Bs} {g : Gat} (h : gateOf s = some g) : gateLine g = s := by
  have hs := spaced_cut s
  unfold gateOf at h
  split at h
  · rename_i a he
    have hw := allOf_back valOf Lib.decDigits val_back _ _ he
    rw [← hw] at hs
    split at h
    · rename_i hk
      injection h with h; subst h
      rw [hk] at hs
      rw [← hs, ← join_spaced]
      rfl
    · split at h
      · rename_i hk
        injection h with h; subst h
        rw [hk] at hs
        rw [← hs, ← join_spaced]
        rfl
      · cases h
  · rename_i a b he
    have hw := allOf_back valOf Lib.decDigits val_back _ _ he
    rw [← hw] at hs
    split at h
    · rename_i hk
      injection h with h; subst h
      rw [hk] at hs
      rw [← hs, ← join_spaced]
      rfl
    · split at h
      · rename_i hk
        injection h with h; subst h
        rw [hk] at hs
        rw [← hs, ← join_spaced]
        rfl
      · split at h
        · rename_i hk
          injection h with h; subst h
          rw [hk] at hs
          rw [← hs, ← join_spaced]
          rfl
        · split at h
          · rename_i hk
            injection h with h; subst h
            rw [hk] at hs
            rw [← hs, ← join_spaced]
            rfl
          · cases h
  · cases h

theorem upTo_mid (a b : List Bs) (h : ∀ x ∈ a, x ≠ [58]) : upTo (a ++ [58] :: b) = a.length := by
  unfold upTo
  induction a with
  | nil => simp
  | cons x r ih =>
    rw [List.cons_append, List.takeWhile_cons, if_pos (by simpa using h x (List.mem_cons_self ..))]
    simpa using ih fun y hy => h y (List.mem_cons_of_mem _ hy)
theorem upTo_split (l : List Bs) (h : upTo l < l.length) : l = l.take (upTo l) ++ [58] :: l.drop (upTo l + 1) := by
  unfold upTo at *
  induction l with
  | nil => simp at h
  | cons x r ih =>
    rw [List.takeWhile_cons] at h ⊢
    by_cases hx : x = [58]
    · rw [if_neg (by simpa using hx)]
      simp [hx]
    · rw [if_pos (by simpa using hx)] at h ⊢
      have := ih (by simpa using h)
      simp only [List.length_cons, List.take_succ_cons, List.drop_succ_cons, List.cons_append]
      rw [← this]
theorem num_ne (n : Int) (c : UInt8) (hc : c.toNat < 48 ∨ 57 < c.toNat) (l : Bs) : numI n ≠ c :: l := fun e => by
  have := dec_dig n.toNat c (by unfold numI at e; rw [e]; exact List.mem_cons_self ..)
  omega
/-- An exit's line spells the exit. -/
theorem exit_of (x : ExL) (h1 : ∀ i ∈ x.1, 0 ≤ i ∧ i < 1000000000) (h2 : ∀ i ∈ x.2, 0 ≤ i ∧ i < 1000000000) : exitOf (exitLine x) = some x := by
  have hc : cut 32 (exitLine x) = exitWords x := by
    refine cut_join _ _ fun y hy c hc => ?_
    rcases List.mem_cons.1 hy with e | e
    · subst e; exact (kw_no kwOut (by decide) c hc).1
    · rcases List.mem_append.1 e with e | e
      · split at e
        · have := List.mem_singleton.1 e
          subst this
          exact (kw_no kwAll (by decide) c hc).1
        · obtain ⟨n, _, rfl⟩ := List.mem_map.1 e
          exact (num_no n c hc).1
      · rcases List.mem_cons.1 e with e | e
        · subst e
          exact (kw_no [58] (by decide) c hc).1
        · obtain ⟨n, _, rfl⟩ := List.mem_map.1 e
          exact (num_no n c hc).1
  have hval : ∀ l : List Int, (∀ i ∈ l, 0 ≤ i ∧ i < 1000000000) → allOf valOf (l.map numI) = some (l.map Int.toNat) := fun l hl => allOf_map valOf numI Int.toNat l fun i hi => valOf_dec (by have := hl i hi; omega)
  have hback : ∀ l : List Int, (∀ i ∈ l, 0 ≤ i ∧ i < 1000000000) → (l.map Int.toNat).map Int.ofNat = l := fun l hl => by
    rw [List.map_map]
    conv => rhs; rw [← List.map_id l]
    refine List.map_congr_left fun i hi => ?_
    have := hl i hi
    simp only [Function.comp, Int.ofNat_eq_natCast, id]
    omega
  have hu : upTo (exitWords x).tail = (if x.1 = [] then [kwAll] else x.1.map numI).length := by
    refine upTo_mid _ _ fun y hy => ?_
    split at hy
    · have := List.mem_singleton.1 hy
      subst this; decide
    · obtain ⟨n, _, rfl⟩ := List.mem_map.1 hy
      exact num_ne n 58 (by decide) []
  have ht : (exitWords x).tail = (if x.1 = [] then [kwAll] else x.1.map numI) ++ [58] :: x.2.map numI := rfl
  unfold exitOf
  rw [hc, hu, ht, List.take_left, List.drop_append]
  rw [if_pos ⟨rfl, by split <;> simp_all, by simp⟩]
  have e1 : (if (if x.1 = [] then [kwAll] else x.1.map numI) = [kwAll] then [] else if x.1 = [] then [kwAll] else x.1.map numI) = x.1.map numI := by
    by_cases h0 : x.1 = []
    · simp [h0]
    · rw [if_neg h0, if_neg]
      intro e
      cases hx : x.1 with
      | nil => exact h0 hx
      | cons i r =>
        rw [hx, List.map_cons] at e
        injection e with e _
        exact num_ne i 97 (by decide) _ e
  have e2 : List.drop ((if x.1 = [] then [kwAll] else x.1.map numI).length + 1) (if x.1 = [] then [kwAll] else x.1.map numI) = [] := List.drop_of_length_le (by omega)
  rw [e1, e2, List.nil_append, show (if x.1 = [] then [kwAll] else x.1.map numI).length + 1 - (if x.1 = [] then [kwAll] else x.1.map numI).length = 1 by omega, List.drop_succ_cons, List.drop_zero, hval _ h1, hval _ h2]
  simp only
  rw [hback _ h1, hback _ h2]
theorem exit_back {s : Bs} {x : ExL} (h : exitOf s = some x) : exitLine x = s := by
  have hs := spaced_cut s
  unfold exitOf at h
  split at h
  · rename_i hc
    obtain ⟨c1, c2, c3⟩ := hc
    have hsp := upTo_split _ c3
    split at h
    · rename_i a b ha hb
      injection h with h
      subst h
      have wa := allOf_back valOf Lib.decDigits val_back _ _ ha
      have wb := allOf_back valOf Lib.decDigits val_back _ _ hb
      have hmap : ∀ l : List Nat, (l.map Int.ofNat).map numI = l.map Lib.decDigits := fun l => by rw [List.map_map]; rfl
      have hw : (if a.map Int.ofNat = [] then [kwAll] else (a.map Int.ofNat).map numI) = (cut 32 s).tail.take (upTo (cut 32 s).tail) := by
        rw [hmap]
        by_cases h0 : (cut 32 s).tail.take (upTo (cut 32 s).tail) = [kwAll]
        · rw [if_pos h0] at wa
          have : a = [] := by simpa using wa
          rw [h0, if_pos (by simp [this])]
        · rw [if_neg h0] at wa
          rw [if_neg, wa]
          intro e
          have : a = [] := by simpa using e
          rw [this] at wa
          have hl := congrArg List.length wa
          simp only [List.map_nil, List.length_nil, List.length_take] at hl
          omega
      unfold exitLine exitWords
      rw [join_spaced]
      simp only
      rw [hw, hmap, wb, ← hsp, ← c1]
      exact hs
    · cases h
  · cases h
theorem gate_not_exit (x : ExL) : gateOf (exitLine x) = none := by
  have hc : (cut 32 (exitLine x)).headD [] = kwOut := by
    unfold exitLine exitWords
    rw [join_spaced]
    cases hb : ((if x.1 = [] then [kwAll] else x.1.map numI) ++ [58] :: x.2.map numI) with
    | nil => simp at hb
    | cons y r =>
      have : kwOut ++ spaced (y :: r) = kwOut ++ 32 :: (y ++ spaced r) := by simp [spaced]
      rw [this, cut_piece 32 kwOut _ (by decide)]
      rfl
  unfold gateOf
  rw [hc]
  have k1 : kwOut ≠ kwIn := by decide
  have k2 : kwOut ≠ kwConst := by decide
  have k3 : kwOut ≠ kwAdd := by decide
  have k4 : kwOut ≠ kwSub := by decide
  have k5 : kwOut ≠ kwMul := by decide
  have k6 : kwOut ≠ kwScale := by decide
  split
  · rw [if_neg k1, if_neg k2]
  · rw [if_neg k3, if_neg k4, if_neg k5, if_neg k6]
  · rfl
theorem run_gates (gs : List Gat) (R : List Bs) : ∀ (i : Nat) (st : Lis), 0 < i → st.2.2 = [] → (∀ g ∈ gs, gateOf (gateLine g) = some g) → runL i st (gs.map gateLine ++ R) = runL (i + gs.length) (st.1, st.2.1 ++ gs, []) R := by
  induction gs with
  | nil => intro i st _ h _; rw [← h]; simp
  | cons g r ih =>
    intro i st hi h0 hg
    have hs : stepL i st (gateLine g) = some (st.1, st.2.1 ++ [g], []) := by
      unfold stepL
      rw [if_neg (by omega), hg g (List.mem_cons_self ..), if_pos ⟨rfl, h0⟩, h0]
      rfl
    rw [List.map_cons, List.cons_append, runL, hs]
    simp only
    rw [ih (i + 1) _ (by omega) rfl fun y hy => hg y (List.mem_cons_of_mem _ hy)]
    simp only [List.length_cons, List.append_assoc, List.singleton_append]
    rw [show i + 1 + r.length = i + (r.length + 1) by omega]
theorem run_exits (xs : List ExL) : ∀ (i : Nat) (st : Lis), 0 < i → (∀ x ∈ xs, exitOf (exitLine x) = some x) → runL i st (xs.map exitLine) = .inr (st.1, st.2.1, st.2.2 ++ xs) := by
  induction xs with
  | nil => intro i st _ _; simp [runL]
  | cons x r ih =>
    intro i st hi hx
    have hs : stepL i st (exitLine x) = some (st.1, st.2.1, st.2.2 ++ [x]) := by
      unfold stepL
      rw [if_neg (by omega), gate_not_exit, if_neg (by simp), hx x (List.mem_cons_self ..)]
      rfl
    rw [List.map_cons, runL, hs]
    simp only
    rw [ih (i + 1) _ (by omega) fun y hy => hx y (List.mem_cons_of_mem _ hy)]
    simp
theorem run_back (ls : List Bs) : ∀ (i : Nat) (st L : Lis), 0 < i → runL i st ls = .inr L → lineList L = lineList st ++ ls := by
  induction ls with
  | nil => intro i st L _ h; injection h with h; subst h; simp
  | cons s r ih =>
    intro i st L hi h
    rw [runL] at h
    cases e : stepL i st s with
    | none => rw [e] at h; cases h
    | some st' =>
      rw [e] at h
      have h1 := ih (i + 1) st' L (by omega) h
      have h2 : lineList st' = lineList st ++ [s] := by
        unfold stepL at e
        rw [if_neg (by omega)] at e
        split at e
        · rename_i hc
          cases eg : gateOf s with
          | none => rw [eg] at e; cases e
          | some g =>
            rw [eg] at e
            injection e with e
            subst e
            simp [lineList, hc.2, gate_back eg]
        · cases ex : exitOf s with
          | none => rw [ex] at e; cases e
          | some x =>
            rw [ex] at e
            injection e with e
            subst e
            simp [lineList, exit_back ex]
      rw [h1, h2]
      simp
end Go.Proofs.YtmnbgamnbgdnnaaGreatDoor

/- Plain laws: a valid circuit's lines; reading and writing are inverse. -/
namespace Go.Proofs.YtmnbgamnbgdnnaaGreatDoor
open Go.RowKit

theorem exitsErr_zero {m : Int} {l : List Exi} (h : exitsErr m l = 0) : ∀ x ∈ l, xErr m x = 0 := by
  induction l with
  | nil => intro x hx; simp at hx
  | cons y r ih =>
    intro x hx
    unfold exitsErr at h
    split at h
    · rename_i h0
      rcases List.mem_cons.1 hx with e | e
      · exact e ▸ h0
      · exact ih h x e
    · rename_i h0; exact absurd h h0
theorem check_exits {p : Nat} {C : Cir} (h : checkErr p C = 0) : exitsErr C.gates.length C.exits = 0 ∧ C.slots.any badSlot = false := by
  unfold checkErr at h
  split at h
  · cases h
  split at h
  · cases h
  split at h
  · cases h
  rename_i h3
  split at h
  · exact ⟨h, by simpa using h3⟩
  · rename_i h4; exact absurd h h4
theorem rising_in : ∀ (l : List Int) (last : Int), risingFrom last l = true → ∀ i ∈ l, last < i ∧ i ≤ 13 := by
  intro l
  induction l with
  | nil => intro _ _ i hi; simp at hi
  | cons x r ih =>
    intro last h i hi
    unfold risingFrom at h
    simp only [Bool.and_eq_true, decide_eq_true_eq] at h
    rcases List.mem_cons.1 hi with e | e
    · subst e; exact h.1
    · have := ih x h.2 i e
      omega
/-- What is known of a valid circuit's numbers. -/
structure Fine (p : Nat) (L : Lis) : Prop where
  p1 : 3 ≤ p
  p2 : p ≤ 65537
  s : ∀ x ∈ L.1, 1 ≤ x.1 ∧ x.1 ≤ 13
  g : ∀ g ∈ L.2.1, gateOf (gateLine g) = some g ∧ (1 ≤ g.1 ∧ g.1 ≤ 6) ∧ (0 ≤ g.2.1 ∧ g.2.1 < 65536) ∧ (0 ≤ g.2.2.1 ∧ g.2.2.1 < 65536) ∧ (0 ≤ g.2.2.2 ∧ g.2.2.2 < 65537)
  x : ∀ x ∈ L.2.2, (∀ i ∈ x.1, 1 ≤ i ∧ i ≤ 13) ∧ (∀ i ∈ x.2, 0 ≤ i ∧ i < 65536) ∧ x.2.length ≤ 1024 ∧ x.1.length ≤ 13
  n : L.1.length ≤ 256 ∧ L.2.1.length ≤ 65536 ∧ L.2.2.length ≤ 4096
theorem rising_len : ∀ (l : List Int) (last : Int), risingFrom last l = true → (l.length : Int) ≤ 13 - last ∨ l = [] := by
  intro l
  induction l with
  | nil => intro _ _; exact .inr rfl
  | cons x r ih =>
    intro last h
    unfold risingFrom at h
    simp only [Bool.and_eq_true, decide_eq_true_eq] at h
    refine .inl ?_
    rcases ih x h.2 with e | e
    · simp only [List.length_cons]; omega
    · subst e; simp; omega
theorem fine_of {p : Nat} {L : Lis} (h : checkL p L = 0) (hk : ∀ g ∈ L.2.1, 0 ≤ g.2.2.2) : Fine p L := by
  obtain ⟨hP, hT, hg⟩ := check_ok h
  obtain ⟨hx, hs⟩ := check_exits h
  obtain ⟨p1, p2, _⟩ := (isP_iff p).1 hP
  have hT : ¬ (256 < L.1.length ∨ 65536 < L.2.1.length ∨ 4096 < (lisCir L).exits.length) := hT
  have hxl : (lisCir L).exits.length = L.2.2.length := by simp [lisCir]
  rw [hxl] at hT
  have hs : L.1.any badSlot = false := hs
  have hg : gatesErr p L.1.length 0 L.2.1 = 0 := hg
  have hx : exitsErr L.2.1.length (lisCir L).exits = 0 := hx
  refine ⟨p1, p2, ?_, ?_, ?_, by omega, by omega, by omega⟩
  · intro x hm
    have := List.any_eq_false.1 hs x hm
    simp [badSlot] at this
    omega
  · intro g hm
    obtain ⟨k, hk1, rfl⟩ := List.getElem_of_mem hm
    have hz := gatesErr_zero hg k hk1
    have hK := hk _ hm
    generalize L.2.1[k] = gg at hz hK ⊢
    obtain ⟨kd, a, b, K⟩ := gg
    have hf := gate_fits (by omega) hz
    simp only at hf hK ⊢
    rcases hf with ⟨rfl, rfl, rfl, h1, h2⟩ | ⟨rfl, rfl, rfl, h1⟩ | ⟨h3, rfl, h1, h2, h4, h5⟩ | ⟨rfl, rfl, h1, h2, h3⟩
    · exact ⟨gate_of _ (by simp) (by simp) (by simp) (by simp) (by simp) ⟨h1, by simp only; omega⟩ (by simp) (by simp), by omega, by omega, by omega, by omega⟩
    · exact ⟨gate_of _ (by simp) (by simp) (by simp) (by simp) (by simp) (by simp) (by simp) ⟨hK, by simp only; omega⟩, by omega, by omega, by omega, by omega⟩
    · exact ⟨gate_of _ (fun e => by simp only at e; omega) (fun e => by simp only at e; omega) (fun _ => rfl) (fun e => by simp only at e; omega) (by simp only; omega) ⟨h1, by simp only; omega⟩ ⟨h4, by simp only; omega⟩ (by simp), by omega, by omega, by omega, by omega⟩
    · exact ⟨gate_of _ (by simp) (by simp) (by simp) (by simp) (by simp) ⟨h1, by simp only; omega⟩ (by simp) ⟨hK, by simp only; omega⟩, by omega, by omega, by omega, by omega⟩
  · intro x hm
    have hz := exitsErr_zero hx ⟨x.1, x.2, none, none, 0, 0⟩ (by unfold lisCir; exact List.mem_map.2 ⟨x, hm, rfl⟩)
    unfold xErr exitErr at hz
    simp only at hz
    split at hz
    · cases hz
    rename_i h1
    have h1 : risingFrom 0 x.1 = true := by simpa using h1
    split at hz
    · cases hz
    rename_i h2
    split at hz
    · cases hz
    rename_i h3
    refine ⟨fun i hi => ?_, fun i hi => ?_, by omega, ?_⟩
    · have := rising_in _ _ h1 i hi
      omega
    · have h4 : x.2.any (outside L.2.1.length) = false := by simpa using h3
      have := List.any_eq_false.1 h4 i hi
      simp [outside] at this
      omega
    · rcases rising_len _ _ h1 with e | e
      · omega
      · rw [e]; simp
theorem line_no (L : Lis) : ∀ y ∈ lineList L, ∀ c ∈ y, c ≠ 10 := by
  have hj : ∀ ws : List Bs, (∀ w ∈ ws, ∀ c ∈ w, c ≠ 32 ∧ c ≠ 10) → ∀ c ∈ Lib.join ws [32], c ≠ 10 := by
    intro ws hw c hc
    cases ws with
    | nil => simp [Lib.join_nil] at hc
    | cons w r =>
      rw [join_spaced] at hc
      rcases List.mem_append.1 hc with e | e
      · exact (hw w (List.mem_cons_self ..) c e).2
      · unfold spaced at e
        obtain ⟨y, hy, e⟩ := List.mem_flatMap.1 e
        rcases List.mem_cons.1 e with e | e
        · subst e; decide
        · exact (hw y (List.mem_cons_of_mem _ hy) c e).2
  intro y hy c hc
  unfold lineList at hy
  rcases List.mem_cons.1 hy with e | e
  · subst e
    rw [slotLine_join] at hc
    refine hj _ (fun w hw => ?_) c hc
    rcases List.mem_cons.1 hw with e | e
    · subst e; exact kw_no _ (by decide)
    · obtain ⟨x, _, rfl⟩ := List.mem_map.1 e
      exact slotW_no x
  · rcases List.mem_append.1 e with e | e
    · obtain ⟨g, _, rfl⟩ := List.mem_map.1 e
      refine hj _ (fun w hw => ?_) c hc
      unfold gateWords at hw
      have kin : ∀ c ∈ kwIn, c ≠ 32 ∧ c ≠ 10 := kw_no _ (by decide)
      have kco : ∀ c ∈ kwConst, c ≠ 32 ∧ c ≠ 10 := kw_no _ (by decide)
      have kad : ∀ c ∈ kwAdd, c ≠ 32 ∧ c ≠ 10 := kw_no _ (by decide)
      have ksu : ∀ c ∈ kwSub, c ≠ 32 ∧ c ≠ 10 := kw_no _ (by decide)
      have kmu : ∀ c ∈ kwMul, c ≠ 32 ∧ c ≠ 10 := kw_no _ (by decide)
      have ksc : ∀ c ∈ kwScale, c ≠ 32 ∧ c ≠ 10 := kw_no _ (by decide)
      split at hw
      · simp only [List.mem_cons, List.not_mem_nil, or_false] at hw
        rcases hw with rfl | rfl
        · exact kin
        · exact num_no _
      split at hw
      · simp only [List.mem_cons, List.not_mem_nil, or_false] at hw
        rcases hw with rfl | rfl
        · exact kco
        · exact num_no _
      split at hw
      · simp only [List.mem_cons, List.not_mem_nil, or_false] at hw
        rcases hw with rfl | rfl | rfl
        · exact kad
        · exact num_no _
        · exact num_no _
      split at hw
      · simp only [List.mem_cons, List.not_mem_nil, or_false] at hw
        rcases hw with rfl | rfl | rfl
        · exact ksu
        · exact num_no _
        · exact num_no _
      split at hw
      · simp only [List.mem_cons, List.not_mem_nil, or_false] at hw
        rcases hw with rfl | rfl | rfl
        · exact kmu
        · exact num_no _
        · exact num_no _
      · simp only [List.mem_cons, List.not_mem_nil, or_false] at hw
        rcases hw with rfl | rfl | rfl
        · exact ksc
        · exact num_no _
        · exact num_no _
    · obtain ⟨x, _, rfl⟩ := List.mem_map.1 e
      refine hj _ (fun w hw => ?_) c hc
      unfold exitWords at hw
      rcases List.mem_cons.1 hw with e | e
      · subst e; exact kw_no _ (by decide)
      · rcases List.mem_append.1 e with e | e
        · split at e
          · have := List.mem_singleton.1 e
            subst this
            exact kw_no _ (by decide)
          · obtain ⟨n, _, rfl⟩ := List.mem_map.1 e
            exact num_no n
        · rcases List.mem_cons.1 e with e | e
          · subst e; exact kw_no _ (by decide)
          · obtain ⟨n, _, rfl⟩ := List.mem_map.1 e
            exact num_no n
theorem run_write {p : Nat} {L : Lis} (h : Fine p L) : runL 0 ([], [], []) (lineList L) = .inr L := by
  have hs : stepL 0 ([], [], []) (slotLine L.1) = some (L.1, [], []) := by
    unfold stepL
    rw [if_pos rfl, slots_of L.1 fun x hx => by have := h.s x hx; omega]
    rfl
  unfold lineList
  rw [runL, hs]
  simp only
  rw [run_gates L.2.1 _ _ _ (by omega) rfl fun g hg => (h.g g hg).1, run_exits _ _ _ (by omega) fun x hx => ?_]
  · simp
  · obtain ⟨h1, h2, _⟩ := h.x x hx
    exact exit_of x (fun i hi => by have := h1 i hi; omega) (fun i hi => by have := h2 i hi; omega)
/-- Reading a valid circuit's text gives the circuit. -/
theorem read_write {p : Nat} {L : Lis} (h : checkL p L = 0) (hk : ∀ g ∈ L.2.1, 0 ≤ g.2.2.2) (hl : (textOf L).length ≤ 4194304) : readOf p (textOf L) = (L, 0, 0) := by
  have hf := fine_of h hk
  have hP := (check_ok h).1
  have hc : cut 10 (textOf L) = lineList L ++ [[]] := cut_ended _ (line_no L)
  unfold readOf
  rw [if_neg (by rw [hP]; simp), if_neg (by omega), hc, List.dropLast_concat, run_write hf]
  simp only
  rw [if_neg, if_neg (by simp [h])]
  rintro (e | e)
  · simp [lineList] at e
  · simp at e
/-- Writing what was read gives the text. -/
theorem write_read {p : Nat} {t : Bs} {L : Lis} {i : Nat} (h : readOf p t = (L, i, 0)) : textOf L = t ∧ checkL p L = 0 ∧ t.length ≤ 4194304 ∧ i = 0 := by
  unfold readOf at h
  split at h
  · cases h
  split at h
  · cases h
  rename_i hl
  split at h
  · cases h
  rename_i L' he
  split at h
  · cases h
  rename_i hc
  split at h
  · rename_i h0
    injection h with _ h
    injection h with _ h
    exact absurd h h0
  rename_i h0
  injection h with h h'
  subst h
  injection h' with hi _
  have hne : (cut 10 t).dropLast ≠ [] := fun e => hc (.inl e)
  have hlast : (cut 10 t).getLastD [] = [] := Classical.byContradiction fun e => hc (.inr e)
  refine ⟨?_, by simpa using h0, by omega, hi.symm⟩
  have hb := ended_cut t
  rw [hlast, List.append_nil] at hb
  rw [← hb]
  unfold textOf
  congr 1
  cases hd : (cut 10 t).dropLast with
  | nil => exact absurd hd hne
  | cons s r =>
    rw [hd, runL] at he
    cases e : stepL 0 ([], [], []) s with
    | none => rw [e] at he; cases he
    | some st =>
      rw [e] at he
      have h1 := run_back r 1 st L' (by omega) he
      unfold stepL at e
      rw [if_pos rfl] at e
      cases es : slotsOf s with
      | none => rw [es] at e; cases e
      | some l =>
        rw [es] at e
        injection e with e
        subst e
        rw [h1]
        simp [lineList, slots_back es]
end Go.Proofs.YtmnbgamnbgdnnaaGreatDoor
