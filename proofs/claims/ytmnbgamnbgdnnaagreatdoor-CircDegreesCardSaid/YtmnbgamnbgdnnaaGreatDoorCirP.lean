/- Plain laws: reading a circuit's text gives the circuit, and writing what was read gives the text. -/
import Derived.Test.YtmnbgamnbgdnnaaGreatDoorCirO
namespace Go.Proofs.YtmnbgamnbgdnnaaGreatDoor
open Go.RowKit

theorem dec_dig (n : Nat) : ∀ c ∈ Lib.decDigits n, 48 ≤ c.toNat ∧ c.toNat ≤ 57 := by
  intro c hc
  have h := (dec_facts (Lib.nDigits n) n (Nat.lt_of_lt_of_le (Lib.lt_pow_nDigits n) (Nat.pow_le_pow_right (by omega) (by omega)))).2.2.1
  unfold allDig at h
  have := List.all_eq_true.1 h c hc
  simpa [isDigitU] using this
theorem u8_ne {a b : UInt8} (h : a.toNat ≠ b.toNat) : a ≠ b := fun e => h (by rw [e])
theorem cut_spaced (l : List Bs) : ∀ x : Bs, (∀ c ∈ x, c ≠ 32) → (∀ y ∈ l, ∀ c ∈ y, c ≠ 32) → cut 32 (x ++ spaced l) = x :: l := by
  induction l with
  | nil => intro x hx _; simp only [spaced, List.flatMap_nil, List.append_nil]; exact cut_last 32 x hx
  | cons y r ih =>
    intro x hx hl
    have : x ++ spaced (y :: r) = x ++ 32 :: (y ++ spaced r) := by simp [spaced]
    rw [this, cut_piece 32 x _ hx, ih y (hl y (List.mem_cons_self ..)) (fun z hz => hl z (List.mem_cons_of_mem _ hz))]
theorem cut_join (x : Bs) (l : List Bs) (h : ∀ y ∈ x :: l, ∀ c ∈ y, c ≠ 32) : cut 32 (Lib.join (x :: l) [32]) = x :: l := by
  rw [join_spaced]
  exact cut_spaced l x (h x (List.mem_cons_self ..)) fun y hy => h y (List.mem_cons_of_mem _ hy)
theorem cut_ended (l : List Bs) (h : ∀ y ∈ l, ∀ c ∈ y, c ≠ 10) : cut 10 (ended l) = l ++ [[]] := by
  induction l with
  | nil => rfl
  | cons x r ih =>
    have : ended (x :: r) = x ++ 10 :: ended r := by simp [ended]
    rw [this, cut_piece 10 x _ (h x (List.mem_cons_self ..)), ih fun y hy => h y (List.mem_cons_of_mem _ hy)]
    rfl
theorem spaced_cut (s : Bs) : (cut 32 s).headD [] ++ spaced (cut 32 s).tail = s := by
  induction s with
  | nil => rfl
  | cons x r ih =>
    unfold cut
    by_cases h : x = 32
    · rw [if_pos h]
      cases e : cut 32 r with
      | nil => exact absurd e (cut_ne 32 r)
      | cons y ys =>
        rw [e] at ih
        subst h
        simp [spaced] at ih ⊢
        exact ih
    · rw [if_neg h]
      cases e : cut 32 r with
      | nil => exact absurd e (cut_ne 32 r)
      | cons y ys =>
        rw [e] at ih
        simp at ih ⊢
        exact ih
theorem ended_cut (s : Bs) : ended (cut 10 s).dropLast ++ (cut 10 s).getLastD [] = s := by
  induction s with
  | nil => rfl
  | cons x r ih =>
    unfold cut
    by_cases h : x = 10
    · rw [if_pos h]
      cases e : cut 10 r with
      | nil => exact absurd e (cut_ne 10 r)
      | cons y ys =>
        rw [e] at ih
        subst h
        simp [ended, List.getLastD_cons] at ih ⊢
        exact ih
    · rw [if_neg h]
      cases e : cut 10 r with
      | nil => exact absurd e (cut_ne 10 r)
      | cons y ys =>
        rw [e] at ih
        cases ys with
        | nil => simp [ended] at ih ⊢; exact ih
        | cons z zs => simp [ended, List.getLastD_cons] at ih ⊢; exact ih
theorem allOf_map {α β : Type} (f : Bs → Option α) (g : β → Bs) (h : β → α) (l : List β) (hf : ∀ x ∈ l, f (g x) = some (h x)) : allOf f (l.map g) = some (l.map h) := by
  induction l with
  | nil => rfl
  | cons x r ih => rw [List.map_cons, allOf, hf x (List.mem_cons_self ..), ih fun y hy => hf y (List.mem_cons_of_mem _ hy)]; rfl
theorem allOf_back {α : Type} (f : Bs → Option α) (g : α → Bs) (hf : ∀ w x, f w = some x → g x = w) (ws : List Bs) : ∀ l, allOf f ws = some l → l.map g = ws := by
  induction ws with
  | nil => intro l h; injection h with h; subst h; rfl
  | cons w r ih =>
    intro l h
    rw [allOf] at h
    cases e1 : f w with
    | none => rw [e1] at h; cases h
    | some x =>
      cases e2 : allOf f r with
      | none => rw [e1, e2] at h; cases h
      | some t =>
        rw [e1, e2] at h
        injection h with h
        subst h
        rw [List.map_cons, hf w x e1, ih t e2]

def slotW (x : Slo) : Bs := (if x.2 then 98 else 110) :: numI x.1
theorem slotLine_join (l : List Slo) : slotLine l = Lib.join (kwSlots :: l.map slotW) [32] := by
  rw [join_spaced]
  unfold slotLine spaced
  rw [List.flatMap_map]
  rfl
theorem kw_no (k : Bs) (h : k.all fun c => decide (c ≠ 32) && decide (c ≠ 10)) : ∀ c ∈ k, c ≠ 32 ∧ c ≠ 10 := by
  intro c hc
  have := List.all_eq_true.1 h c hc
  simpa using this
theorem num_no (n : Int) : ∀ c ∈ numI n, c ≠ 32 ∧ c ≠ 10 := by
  intro c hc
  have := dec_dig _ c hc
  exact ⟨u8_ne (by simp; omega), u8_ne (by simp; omega)⟩
theorem slotW_no (x : Slo) : ∀ c ∈ slotW x, c ≠ 32 ∧ c ≠ 10 := by
  intro c hc
  unfold slotW at hc
  rcases List.mem_cons.1 hc with h | h
  · subst h
    split <;> decide
  · exact num_no _ c h
theorem slotW_of (x : Slo) (h : 0 ≤ x.1 ∧ x.1 < 1000000000) : slotOfW (slotW x) = some x := by
  obtain ⟨n, b⟩ := x
  have h : 0 ≤ n ∧ n < 1000000000 := h
  unfold slotW slotOfW numI
  have hv := valOf_dec (v := n.toNat) (by omega)
  have hn : ((n.toNat : Nat) : Int) = n := by omega
  cases b
  · simp [hv, hn]
  · simp [hv, hn]
theorem slots_of (l : List Slo) (h : ∀ x ∈ l, 0 ≤ x.1 ∧ x.1 < 1000000000) : slotsOf (slotLine l) = some l := by
  have hc : cut 32 (slotLine l) = kwSlots :: l.map slotW := by
    rw [slotLine_join]
    refine cut_join _ _ fun y hy c hc => ?_
    rcases List.mem_cons.1 hy with e | e
    · subst e
      exact (kw_no kwSlots (by decide) c hc).1
    · obtain ⟨x, _, rfl⟩ := List.mem_map.1 e
      exact (slotW_no x c hc).1
  unfold slotsOf
  rw [hc]
  simp only [List.headD_cons, List.tail_cons, if_true]
  rw [allOf_map slotOfW slotW id l fun x hx => slotW_of x (h x hx), List.map_id]
theorem slotW_back (w : Bs) (x : Slo) (hw : slotOfW w = some x) : slotW x = w := by
  cases w with
  | nil => cases hw
  | cons c r =>
    have e0 : slotOfW (c :: r) = if c = 110 ∨ c = 98 then (valOf r).map fun (n : Nat) => (Int.ofNat n, decide (c = 98)) else none := rfl
    rw [e0] at hw
    split at hw
    · rename_i hc
      cases e : valOf r with
      | none => rw [e] at hw; cases hw
      | some n =>
        rw [e] at hw
        injection hw with hw
        subst hw
        have := (valOf_some e).1
        unfold slotW numI
        have e1 : (Int.ofNat n).toNat = n := rfl
        rw [e1, ← this]
        rcases hc with rfl | rfl <;> rfl
    · cases hw
theorem slots_back {s : Bs} {l : List Slo} (h : slotsOf s = some l) : slotLine l = s := by
  unfold slotsOf at h
  split at h
  · rename_i h0
    have h1 := allOf_back slotOfW slotW slotW_back _ l h
    rw [slotLine_join, h1, join_spaced, ← h0]
    exact spaced_cut s
  · cases h

def badKind (k : Int) : Prop := k ≠ 1 ∧ k ≠ 2 ∧ k ≠ 3 ∧ k ≠ 4 ∧ k ≠ 5 ∧ k ≠ 6
theorem head_in : kwIn ≠ kwConst ∧ kwAdd ≠ kwSub ∧ kwAdd ≠ kwMul ∧ kwAdd ≠ kwScale ∧ kwSub ≠ kwMul ∧ kwSub ≠ kwScale ∧ kwMul ≠ kwScale := by decide
theorem nat_no (n : Nat) : ∀ c ∈ Lib.decDigits n, c ≠ 32 ∧ c ≠ 10 := num_no n
/-- A valid gate's line spells the gate. -/
theorem gate_of (g : Gat) (k1 : g.1 = 1 → g.2.2.1 = 0 ∧ g.2.2.2 = 0) (k2 : g.1 = 2 → g.2.1 = 0 ∧ g.2.2.1 = 0) (k3 : g.1 = 3 ∨ g.1 = 4 ∨ g.1 = 5 → g.2.2.2 = 0) (k6 : g.1 = 6 → g.2.2.1 = 0)
    (hk : 1 ≤ g.1 ∧ g.1 ≤ 6) (ha : 0 ≤ g.2.1 ∧ g.2.1 < 1000000000) (hb : 0 ≤ g.2.2.1 ∧ g.2.2.1 < 1000000000) (hc : 0 ≤ g.2.2.2 ∧ g.2.2.2 < 1000000000) : gateOf (gateLine g) = some g := by
  obtain ⟨k, a, b, c⟩ := g
  obtain ⟨a, rfl⟩ : ∃ n : Nat, a = n := ⟨a.toNat, by have : 0 ≤ a := ha.1; omega⟩
  obtain ⟨b, rfl⟩ : ∃ n : Nat, b = n := ⟨b.toNat, by have : 0 ≤ b := hb.1; omega⟩
  obtain ⟨c, rfl⟩ : ∃ n : Nat, c = n := ⟨c.toNat, by have : 0 ≤ c := hc.1; omega⟩
  have va := valOf_dec (v := a) (by have : (a : Int) < 1000000000 := ha.2; omega)
  have vb := valOf_dec (v := b) (by have : (b : Int) < 1000000000 := hb.2; omega)
  have vc := valOf_dec (v := c) (by have : (c : Int) < 1000000000 := hc.2; omega)
  have hk : 1 ≤ k ∧ k ≤ 6 := hk
  have cutw : ∀ (kw : Bs) (l : List Nat), (kw.all fun c => decide (c ≠ 32) && decide (c ≠ 10)) → cut 32 (Lib.join (kw :: l.map Lib.decDigits) [32]) = kw :: l.map Lib.decDigits := by
    intro kw l hkw
    refine cut_join _ _ fun y hy z hz => ?_
    rcases List.mem_cons.1 hy with e | e
    · subst e; exact (kw_no _ hkw z hz).1
    · obtain ⟨n, _, rfl⟩ := List.mem_map.1 e
      exact (nat_no n z hz).1
  rcases (show k = 1 ∨ k = 2 ∨ k = 3 ∨ k = 4 ∨ k = 5 ∨ k = 6 by omega) with rfl | rfl | rfl | rfl | rfl | rfl
  · obtain ⟨e1, e2⟩ := k1 rfl
    have e1 : (b : Int) = 0 := e1
    have e2 : (c : Int) = 0 := e2
    have hl : cut 32 (gateLine (1, a, b, c)) = [kwIn, Lib.decDigits a] := cutw kwIn [a] (by decide)
    unfold gateOf
    rw [hl]
    simp [allOf, va, e1, e2]
  · obtain ⟨e1, e2⟩ := k2 rfl
    have e1 : (a : Int) = 0 := e1
    have e2 : (b : Int) = 0 := e2
    have hl : cut 32 (gateLine (2, a, b, c)) = [kwConst, Lib.decDigits c] := cutw kwConst [c] (by decide)
    unfold gateOf
    rw [hl]
    simp [allOf, vc, e1, e2, head_in.1.symm]
  · have e1 : (c : Int) = 0 := k3 (by simp)
    have hl : cut 32 (gateLine (3, a, b, c)) = [kwAdd, Lib.decDigits a, Lib.decDigits b] := cutw kwAdd [a, b] (by decide)
    unfold gateOf
    rw [hl]
    simp [allOf, va, vb, e1]
  · have e1 : (c : Int) = 0 := k3 (by simp)
    have hl : cut 32 (gateLine (4, a, b, c)) = [kwSub, Lib.decDigits a, Lib.decDigits b] := cutw kwSub [a, b] (by decide)
    unfold gateOf
    rw [hl]
    simp [allOf, va, vb, e1, head_in.2.1.symm]
  · have e1 : (c : Int) = 0 := k3 (by simp)
    have hl : cut 32 (gateLine (5, a, b, c)) = [kwMul, Lib.decDigits a, Lib.decDigits b] := cutw kwMul [a, b] (by decide)
    unfold gateOf
    rw [hl]
    simp [allOf, va, vb, e1, head_in.2.2.1.symm, head_in.2.2.2.2.1.symm]
  · have e1 : (b : Int) = 0 := k6 rfl
    have hl : cut 32 (gateLine (6, a, b, c)) = [kwScale, Lib.decDigits a, Lib.decDigits c] := cutw kwScale [a, c] (by decide)
    unfold gateOf
    rw [hl]
    simp [allOf, va, vc, e1, head_in.2.2.2.1.symm, head_in.2.2.2.2.2.1.symm, head_in.2.2.2.2.2.2.symm]
theorem val_back (w : Bs) (v : Nat) (h : valOf w = some v) : Lib.decDigits v = w := (valOf_some h).1.symm
theorem gate_back {s : Bs} {g : Gat} (h : gateOf s = some g) : gateLine g = s := by
  have hs := spaced_cut s
  unfold gateOf at h
  split at h
  · rename_i a he
    have hw := allOf_back valOf Lib.decDigits val_back _ _ he
    rw [← hw] at hs
    split at h
    · rename_i hk
      injection h with h; subst h
      rw [hk] at hs
      rw [← hs, ← join_spaced]
      rfl
    · split at h
      · rename_i hk
        injection h with h; subst h
        rw [hk] at hs
        rw [← hs, ← join_spaced]
        rfl
      · cases h
  · rename_i a b he
    have hw := allOf_back valOf Lib.decDigits val_back _ _ he
    rw [← hw] at hs
    split at h
    · rename_i hk
      injection h with h; subst h
      rw [hk] at hs
      rw [← hs, ← join_spaced]
      rfl
    · split at h
      · rename_i hk
        injection h with h; subst h
        rw [hk] at hs
        rw [← hs, ← join_spaced]
        rfl
      · split at h
        · rename_i hk
          injection h with h; subst h
          rw [hk] at hs
          rw [← hs, ← join_spaced]
          rfl
        · split at h
          · rename_i hk
            injection h with h; subst h
            rw [hk] at hs
            rw [← hs, ← join_spaced]
            rfl
          · cases h
  · cases h

theorem upTo_mid (a b : List Bs) (h : ∀ x ∈ a, x ≠ [58]) : upTo (a ++ [58] :: b) = a.length := by
  unfold upTo
  induction a with
  | nil => simp
  | cons x r ih =>
    rw [List.cons_append, List.takeWhile_cons, if_pos (by simpa using h x (List.mem_cons_self ..))]
    simpa using ih fun y hy => h y (List.mem_cons_of_mem _ hy)
theorem upTo_split (l : List Bs) (h : upTo l < l.length) : l = l.take (upTo l) ++ [58] :: l.drop (upTo l + 1) := by
  unfold upTo at *
  induction l with
  | nil => simp at h
  | cons x r ih =>
    rw [List.takeWhile_cons] at h ⊢
    by_cases hx : x = [58]
    · rw [if_neg (by simpa using hx)]
      simp [hx]
    · rw [if_pos (by simpa using hx)] at h ⊢
      have := ih (by simpa using h)
      simp only [List.length_cons, List.take_succ_cons, List.drop_succ_cons, List.cons_append]
      rw [← this]
theorem num_ne (n : Int) (c : UInt8) (hc : c.toNat < 48 ∨ 57 < c.toNat) (l : Bs) : numI n ≠ c :: l := fun e => by
  have := dec_dig n.toNat c (by unfold numI at e; rw [e]; exact List.mem_cons_self ..)
  omega
/-- An exit's line spells the exit. -/
theorem exit_of (x : ExL) (h1 : ∀ i ∈ x.1, 0 ≤ i ∧ i < 1000000000) (h2 : ∀ i ∈ x.2, 0 ≤ i ∧ i < 1000000000) : exitOf (exitLine x) = some x := by
  have hc : cut 32 (exitLine x) = exitWords x := by
    refine cut_join _ _ fun y hy c hc => ?_
    rcases List.mem_cons.1 hy with e | e
    · subst e; exact (kw_no kwOut (by decide) c hc).1
    · rcases List.mem_append.1 e with e | e
      · split at e
        · have := List.mem_singleton.1 e
          subst this
          exact (kw_no kwAll (by decide) c hc).1
        · obtain ⟨n, _, rfl⟩ := List.mem_map.1 e
          exact (num_no n c hc).1
      · rcases List.mem_cons.1 e with e | e
        · subst e
          exact (kw_no [58] (by decide) c hc).1
        · obtain ⟨n, _, rfl⟩ := List.mem_map.1 e
          exact (num_no n c hc).1
  have hval : ∀ l : List Int, (∀ i ∈ l, 0 ≤ i ∧ i < 1000000000) → allOf valOf (l.map numI) = some (l.map Int.toNat) := fun l hl => allOf_map valOf numI Int.toNat l fun i hi => valOf_dec (by have := hl i hi; omega)
  have hback : ∀ l : List Int, (∀ i ∈ l, 0 ≤ i ∧ i < 1000000000) → (l.map Int.toNat).map Int.ofNat = l := fun l hl => by
    rw [List.map_map]
    conv => rhs; rw [← List.map_id l]
    refine List.map_congr_left fun i hi => ?_
    have := hl i hi
    simp only [Function.comp, Int.ofNat_eq_natCast, id]
    omega
  have hu : upTo (exitWords x).tail = (if x.1 = [] then [kwAll] else x.1.map numI).length := by
    refine upTo_mid _ _ fun y hy => ?_
    split at hy
    · have := List.mem_singleton.1 hy
      subst this; decide
    · obtain ⟨n, _, rfl⟩ := List.mem_map.1 hy
      exact num_ne n 58 (by decide) []
  have ht : (exitWords x).tail = (if x.1 = [] then [kwAll] else x.1.map numI) ++ [58] :: x.2.map numI := rfl
  unfold exitOf
  rw [hc, hu, ht, List.take_left, List.drop_append]
  rw [if_pos ⟨rfl, by split <;> simp_all, by simp⟩]
  have e1 : (if (if x.1 = [] then [kwAll] else x.1.map numI) = [kwAll] then [] else if x.1 = [] then [kwAll] else x.1.map numI) = x.1.map numI := by
    by_cases h0 : x.1 = []
    · simp [h0]
    · rw [if_neg h0, if_neg]
      intro e
      cases hx : x.1 with
      | nil => exact h0 hx
      | cons i r =>
        rw [hx, List.map_cons] at e
        injection e with e _
        exact num_ne i 97 (by decide) _ e
  have e2 : List.drop ((if x.1 = [] then [kwAll] else x.1.map numI).length + 1) (if x.1 = [] then [kwAll] else x.1.map numI) = [] := List.drop_of_length_le (by omega)
  rw [e1, e2, List.nil_append, show (if x.1 = [] then [kwAll] else x.1.map numI).length + 1 - (if x.1 = [] then [kwAll] else x.1.map numI).length = 1 by omega, List.drop_succ_cons, List.drop_zero, hval _ h1, hval _ h2]
  simp only
  rw [hback _ h1, hback _ h2]
theorem exit_back {s : Bs} {x : ExL} (h : exitOf s = some x) : exitLine x = s := by
  have hs := spaced_cut s
  unfold exitOf at h
  split at h
  · rename_i hc
    obtain ⟨c1, c2, c3⟩ := hc
    have hsp := upTo_split _ c3
    split at h
    · rename_i a b ha hb
      injection h with h
      subst h
      have wa := allOf_back valOf Lib.decDigits val_back _ _ ha
      have wb := allOf_back valOf Lib.decDigits val_back _ _ hb
      have hmap : ∀ l : List Nat, (l.map Int.ofNat).map numI = l.map Lib.decDigits := fun l => by rw [List.map_map]; rfl
      have hw : (if a.map Int.ofNat = [] then [kwAll] else (a.map Int.ofNat).map numI) = (cut 32 s).tail.take (upTo (cut 32 s).tail) := by
        rw [hmap]
        by_cases h0 : (cut 32 s).tail.take (upTo (cut 32 s).tail) = [kwAll]
        · rw [if_pos h0] at wa
          have : a = [] := by simpa using wa
          rw [h0, if_pos (by simp [this])]
        · rw [if_neg h0] at wa
          rw [if_neg, wa]
          intro e
          have : a = [] := by simpa using e
          rw [this] at wa
          have hl := congrArg List.length wa
          simp only [List.map_nil, List.length_nil, List.length_take] at hl
          omega
      unfold exitLine exitWords
      rw [join_spaced]
      simp only
      rw [hw, hmap, wb, ← hsp, ← c1]
      exact hs
    · cases h
  · cases h
theorem gate_not_exit (x : ExL) : gateOf (exitLine x) = none := by
  have hc : (cut 32 (exitLine x)).headD [] = kwOut := by
    unfold exitLine exitWords
    rw [join_spaced]
    cases hb : ((if x.1 = [] then [kwAll] else x.1.map numI) ++ [58] :: x.2.map numI) with
    | nil => simp at hb
    | cons y r =>
      have : kwOut ++ spaced (y :: r) = kwOut ++ 32 :: (y ++ spaced r) := by simp [spaced]
      rw [this, cut_piece 32 kwOut _ (by decide)]
      rfl
  unfold gateOf
  rw [hc]
  have k1 : kwOut ≠ kwIn := by decide
  have k2 : kwOut ≠ kwConst := by decide
  have k3 : kwOut ≠ kwAdd := by decide
  have k4 : kwOut ≠ kwSub := by decide
  have k5 : kwOut ≠ kwMul := by decide
  have k6 : kwOut ≠ kwScale := by decide
  split
  · rw [if_neg k1, if_neg k2]
  · rw [if_neg k3, if_neg k4, if_neg k5, if_neg k6]
  · rfl
theorem run_gates (gs : List Gat) (R : List Bs) : ∀ (i : Nat) (st : Lis), 0 < i → st.2.2 = [] → (∀ g ∈ gs, gateOf (gateLine g) = some g) → runL i st (gs.map gateLine ++ R) = runL (i + gs.length) (st.1, st.2.1 ++ gs, []) R := by
  induction gs with
  | nil => intro i st _ h _; rw [← h]; simp
  | cons g r ih =>
    intro i st hi h0 hg
    have hs : stepL i st (gateLine g) = some (st.1, st.2.1 ++ [g], []) := by
      unfold stepL
      rw [if_neg (by omega), hg g (List.mem_cons_self ..), if_pos ⟨rfl, h0⟩, h0]
      rfl
    rw [List.map_cons, List.cons_append, runL, hs]
    simp only
    rw [ih (i + 1) _ (by omega) rfl fun y hy => hg y (List.mem_cons_of_mem _ hy)]
    simp only [List.length_cons, List.append_assoc, List.singleton_append]
    rw [show i + 1 + r.length = i + (r.length + 1) by omega]
theorem run_exits (xs : List ExL) : ∀ (i : Nat) (st : Lis), 0 < i → (∀ x ∈ xs, exitOf (exitLine x) = some x) → runL i st (xs.map exitLine) = .inr (st.1, st.2.1, st.2.2 ++ xs) := by
  induction xs with
  | nil => intro i st _ _; simp [runL]
  | cons x r ih =>
    intro i st hi hx
    have hs : stepL i st (exitLine x) = some (st.1, st.2.1, st.2.2 ++ [x]) := by
      unfold stepL
      rw [if_neg (by omega), gate_not_exit, if_neg (by simp), hx x (List.mem_cons_self ..)]
      rfl
    rw [List.map_cons, runL, hs]
    simp only
    rw [ih (i + 1) _ (by omega) fun y hy => hx y (List.mem_cons_of_mem _ hy)]
    simp
theorem run_back (ls : List Bs) : ∀ (i : Nat) (st L : Lis), 0 < i → runL i st ls = .inr L → lineList L = lineList st ++ ls := by
  induction ls with
  | nil => intro i st L _ h; injection h with h; subst h; simp
  | cons s r ih =>
    intro i st L hi h
    rw [runL] at h
    cases e : stepL i st s with
    | none => rw [e] at h; cases h
    | some st' =>
      rw [e] at h
      have h1 := ih (i + 1) st' L (by omega) h
      have h2 : lineList st' = lineList st ++ [s] := by
        unfold stepL at e
        rw [if_neg (by omega)] at e
        split at e
        · rename_i hc
          cases eg : gateOf s with
          | none => rw [eg] at e; cases e
          | some g =>
            rw [eg] at e
            injection e with e
            subst e
            simp [lineList, hc.2, gate_back eg]
        · cases ex : exitOf s with
          | none => rw [ex] at e; cases e
          | some x =>
            rw [ex] at e
            injection e with e
            subst e
            simp [lineList, exit_back ex]
      rw [h1, h2]
      simp
end Go.Proofs.YtmnbgamnbgdnnaaGreatDoor
