/- Plain laws: a valid circuit's lines; reading and writing are inverse. -/
import Derived.Test.YtmnbgamnbgdnnaaGreatDoorCirP
namespace Go.Proofs.YtmnbgamnbgdnnaaGreatDoor
open Go.RowKit

theorem exitsErr_zero {m : Int} {l : List Exi} (h : exitsErr m l = 0) : ∀ x ∈ l, xErr m x = 0 := by
  induction l with
  | nil => intro x hx; simp at hx
  | cons y r ih =>
    intro x hx
    unfold exitsErr at h
    split at h
    · rename_i h0
      rcases List.mem_cons.1 hx with e | e
      · exact e ▸ h0
      · exact ih h x e
    · rename_i h0; exact absurd h h0
theorem check_exits {p : Nat} {C : Cir} (h : checkErr p C = 0) : exitsErr C.gates.length C.exits = 0 ∧ C.slots.any badSlot = false := by
  unfold checkErr at h
  split at h
  · cases h
  split at h
  · cases h
  split at h
  · cases h
  rename_i h3
  split at h
  · exact ⟨h, by simpa using h3⟩
  · rename_i h4; exact absurd h h4
theorem rising_in : ∀ (l : List Int) (last : Int), risingFrom last l = true → ∀ i ∈ l, last < i ∧ i ≤ 13 := by
  intro l
  induction l with
  | nil => intro _ _ i hi; simp at hi
  | cons x r ih =>
    intro last h i hi
    unfold risingFrom at h
    simp only [Bool.and_eq_true, decide_eq_true_eq] at h
    rcases List.mem_cons.1 hi with e | e
    · subst e; exact h.1
    · have := ih x h.2 i e
      omega
/-- What is known of a valid circuit's numbers. -/
structure Fine (p : Nat) (L : Lis) : Prop where
  p1 : 3 ≤ p
  p2 : p ≤ 65537
  s : ∀ x ∈ L.1, 1 ≤ x.1 ∧ x.1 ≤ 13
  g : ∀ g ∈ L.2.1, gateOf (gateLine g) = some g ∧ (1 ≤ g.1 ∧ g.1 ≤ 6) ∧ (0 ≤ g.2.1 ∧ g.2.1 < 65536) ∧ (0 ≤ g.2.2.1 ∧ g.2.2.1 < 65536) ∧ (0 ≤ g.2.2.2 ∧ g.2.2.2 < 65537)
  x : ∀ x ∈ L.2.2, (∀ i ∈ x.1, 1 ≤ i ∧ i ≤ 13) ∧ (∀ i ∈ x.2, 0 ≤ i ∧ i < 65536) ∧ x.2.length ≤ 1024 ∧ x.1.length ≤ 13
  n : L.1.length ≤ 256 ∧ L.2.1.length ≤ 65536 ∧ L.2.2.length ≤ 4096
theorem rising_len : ∀ (l : List Int) (last : Int), risingFrom last l = true → (l.length : Int) ≤ 13 - last ∨ l = [] := by
  intro l
  induction l with
  | nil => intro _ _; exact .inr rfl
  | cons x r ih =>
    intro last h
    unfold risingFrom at h
    simp only [Bool.and_eq_true, decide_eq_true_eq] at h
    refine .inl ?_
    rcases ih x h.2 with e | e
    · simp only [List.length_cons]; omega
    · subst e; simp; omega
theorem fine_of {p : Nat} {L : Lis} (h : checkL p L = 0) (hk : ∀ g ∈ L.2.1, 0 ≤ g.2.2.2) : Fine p L := by
  obtain ⟨hP, hT, hg⟩ := check_ok h
  obtain ⟨hx, hs⟩ := check_exits h
  obtain ⟨p1, p2, _⟩ := (isP_iff p).1 hP
  have hT : ¬ (256 < L.1.length ∨ 65536 < L.2.1.length ∨ 4096 < (lisCir L).exits.length) := hT
  have hxl : (lisCir L).exits.length = L.2.2.length := by simp [lisCir]
  rw [hxl] at hT
  have hs : L.1.any badSlot = false := hs
  have hg : gatesErr p L.1.length 0 L.2.1 = 0 := hg
  have hx : exitsErr L.2.1.length (lisCir L).exits = 0 := hx
  refine ⟨p1, p2, ?_, ?_, ?_, by omega, by omega, by omega⟩
  · intro x hm
    have := List.any_eq_false.1 hs x hm
    simp [badSlot] at this
    omega
  · intro g hm
    obtain ⟨k, hk1, rfl⟩ := List.getElem_of_mem hm
    have hz := gatesErr_zero hg k hk1
    have hK := hk _ hm
    generalize L.2.1[k] = gg at hz hK ⊢
    obtain ⟨kd, a, b, K⟩ := gg
    have hf := gate_fits (by omega) hz
    simp only at hf hK ⊢
    rcases hf with ⟨rfl, rfl, rfl, h1, h2⟩ | ⟨rfl, rfl, rfl, h1⟩ | ⟨h3, rfl, h1, h2, h4, h5⟩ | ⟨rfl, rfl, h1, h2, h3⟩
    · exact ⟨gate_of _ (by simp) (by simp) (by simp) (by simp) (by simp) ⟨h1, by simp only; omega⟩ (by simp) (by simp), by omega, by omega, by omega, by omega⟩
    · exact ⟨gate_of _ (by simp) (by simp) (by simp) (by simp) (by simp) (by simp) (by simp) ⟨hK, by simp only; omega⟩, by omega, by omega, by omega, by omega⟩
    · exact ⟨gate_of _ (fun e => by simp only at e; omega) (fun e => by simp only at e; omega) (fun _ => rfl) (fun e => by simp only at e; omega) (by simp only; omega) ⟨h1, by simp only; omega⟩ ⟨h4, by simp only; omega⟩ (by simp), by omega, by omega, by omega, by omega⟩
    · exact ⟨gate_of _ (by simp) (by simp) (by simp) (by simp) (by simp) ⟨h1, by simp only; omega⟩ (by simp) ⟨hK, by simp only; omega⟩, by omega, by omega, by omega, by omega⟩
  · intro x hm
    have hz := exitsErr_zero hx ⟨x.1, x.2, none, none, 0, 0⟩ (by unfold lisCir; exact List.mem_map.2 ⟨x, hm, rfl⟩)
    unfold xErr exitErr at hz
    simp only at hz
    split at hz
    · cases hz
    rename_i h1
    have h1 : risingFrom 0 x.1 = true := by simpa using h1
    split at hz
    · cases hz
    rename_i h2
    split at hz
    · cases hz
    rename_i h3
    refine ⟨fun i hi => ?_, fun i hi => ?_, by omega, ?_⟩
    · have := rising_in _ _ h1 i hi
      omega
    · have h4 : x.2.any (outside L.2.1.length) = false := by simpa using h3
      have := List.any_eq_false.1 h4 i hi
      simp [outside] at this
      omega
    · rcases rising_len _ _ h1 with e | e
      · omega
      · rw [e]; simp
theorem line_no (L : Lis) : ∀ y ∈ lineList L, ∀ c ∈ y, c ≠ 10 := by
  have hj : ∀ ws : List Bs, (∀ w ∈ ws, ∀ c ∈ w, c ≠ 32 ∧ c ≠ 10) → ∀ c ∈ Lib.join ws [32], c ≠ 10 := by
    intro ws hw c hc
    cases ws with
    | nil => simp [Lib.join_nil] at hc
    | cons w r =>
      rw [join_spaced] at hc
      rcases List.mem_append.1 hc with e | e
      · exact (hw w (List.mem_cons_self ..) c e).2
      · unfold spaced at e
        obtain ⟨y, hy, e⟩ := List.mem_flatMap.1 e
        rcases List.mem_cons.1 e with e | e
        · subst e; decide
        · exact (hw y (List.mem_cons_of_mem _ hy) c e).2
  intro y hy c hc
  unfold lineList at hy
  rcases List.mem_cons.1 hy with e | e
  · subst e
    rw [slotLine_join] at hc
    refine hj _ (fun w hw => ?_) c hc
    rcases List.mem_cons.1 hw with e | e
    · subst e; exact kw_no _ (by decide)
    · obtain ⟨x, _, rfl⟩ := List.mem_map.1 e
      exact slotW_no x
  · rcases List.mem_append.1 e with e | e
    · obtain ⟨g, _, rfl⟩ := List.mem_map.1 e
      refine hj _ (fun w hw => ?_) c hc
      unfold gateWords at hw
      have kin : ∀ c ∈ kwIn, c ≠ 32 ∧ c ≠ 10 := kw_no _ (by decide)
      have kco : ∀ c ∈ kwConst, c ≠ 32 ∧ c ≠ 10 := kw_no _ (by decide)
      have kad : ∀ c ∈ kwAdd, c ≠ 32 ∧ c ≠ 10 := kw_no _ (by decide)
      have ksu : ∀ c ∈ kwSub, c ≠ 32 ∧ c ≠ 10 := kw_no _ (by decide)
      have kmu : ∀ c ∈ kwMul, c ≠ 32 ∧ c ≠ 10 := kw_no _ (by decide)
      have ksc : ∀ c ∈ kwScale, c ≠ 32 ∧ c ≠ 10 := kw_no _ (by decide)
      split at hw
      · simp only [List.mem_cons, List.not_mem_nil, or_false] at hw
        rcases hw with rfl | rfl
        · exact kin
        · exact num_no _
      split at hw
      · simp only [List.mem_cons, List.not_mem_nil, or_false] at hw
        rcases hw with rfl | rfl
        · exact kco
        · exact num_no _
      split at hw
      · simp only [List.mem_cons, List.not_mem_nil, or_false] at hw
        rcases hw with rfl | rfl | rfl
        · exact kad
        · exact num_no _
        · exact num_no _
      split at hw
      · simp only [List.mem_cons, List.not_mem_nil, or_false] at hw
        rcases hw with rfl | rfl | rfl
        · exact ksu
        · exact num_no _
        · exact num_no _
      split at hw
      · simp only [List.mem_cons, List.not_mem_nil, or_false] at hw
        rcases hw with rfl | rfl | rfl
        · exact kmu
        · exact num_no _
        · exact num_no _
      · simp only [List.mem_cons, List.not_mem_nil, or_false] at hw
        rcases hw with rfl | rfl | rfl
        · exact ksc
        · exact num_no _
        · exact num_no _
    · obtain ⟨x, _, rfl⟩ := List.mem_map.1 e
      refine hj _ (fun w hw => ?_) c hc
      unfold exitWords at hw
      rcases List.mem_cons.1 hw with e | e
      · subst e; exact kw_no _ (by decide)
      · rcases List.mem_append.1 e with e | e
        · split at e
          · have := List.mem_singleton.1 e
            subst this
            exact kw_no _ (by decide)
          · obtain ⟨n, _, rfl⟩ := List.mem_map.1 e
            exact num_no n
        · rcases List.mem_cons.1 e with e | e
          · subst e; exact kw_no _ (by decide)
          · obtain ⟨n, _, rfl⟩ := List.mem_map.1 e
            exact num_no n
theorem run_write {p : Nat} {L : Lis} (h : Fine p L) : runL 0 ([], [], []) (lineList L) = .inr L := by
  have hs : stepL 0 ([], [], []) (slotLine L.1) = some (L.1, [], []) := by
    unfold stepL
    rw [if_pos rfl, slots_of L.1 fun x hx => by have := h.s x hx; omega]
    rfl
  unfold lineList
  rw [runL, hs]
  simp only
  rw [run_gates L.2.1 _ _ _ (by omega) rfl fun g hg => (h.g g hg).1, run_exits _ _ _ (by omega) fun x hx => ?_]
  · simp
  · obtain ⟨h1, h2, _⟩ := h.x x hx
    exact exit_of x (fun i hi => by have := h1 i hi; omega) (fun i hi => by have := h2 i hi; omega)
/-- Reading a valid circuit's text gives the circuit. -/
theorem read_write {p : Nat} {L : Lis} (h : checkL p L = 0) (hk : ∀ g ∈ L.2.1, 0 ≤ g.2.2.2) (hl : (textOf L).length ≤ 4194304) : readOf p (textOf L) = (L, 0, 0) := by
  have hf := fine_of h hk
  have hP := (check_ok h).1
  have hc : cut 10 (textOf L) = lineList L ++ [[]] := cut_ended _ (line_no L)
  unfold readOf
  rw [if_neg (by rw [hP]; simp), if_neg (by omega), hc, List.dropLast_concat, run_write hf]
  simp only
  rw [if_neg, if_neg (by simp [h])]
  rintro (e | e)
  · simp [lineList] at e
  · simp at e
/-- Writing what was read gives the text. -/
theorem write_read {p : Nat} {t : Bs} {L : Lis} {i : Nat} (h : readOf p t = (L, i, 0)) : textOf L = t ∧ checkL p L = 0 ∧ t.length ≤ 4194304 ∧ i = 0 := by
  unfold readOf at h
  split at h
  · cases h
  split at h
  · cases h
  rename_i hl
  split at h
  · cases h
  rename_i L' he
  split at h
  · cases h
  rename_i hc
  split at h
  · rename_i h0
    injection h with _ h
    injection h with _ h
    exact absurd h h0
  rename_i h0
  injection h with h h'
  subst h
  injection h' with hi _
  have hne : (cut 10 t).dropLast ≠ [] := fun e => hc (.inl e)
  have hlast : (cut 10 t).getLastD [] = [] := Classical.byContradiction fun e => hc (.inr e)
  refine ⟨?_, by simpa using h0, by omega, hi.symm⟩
  have hb := ended_cut t
  rw [hlast, List.append_nil] at hb
  rw [← hb]
  unfold textOf
  congr 1
  cases hd : (cut 10 t).dropLast with
  | nil => exact absurd hd hne
  | cons s r =>
    rw [hd, runL] at he
    cases e : stepL 0 ([], [], []) s with
    | none => rw [e] at he; cases he
    | some st =>
      rw [e] at he
      have h1 := run_back r 1 st L' (by omega) he
      unfold stepL at e
      rw [if_pos rfl] at e
      cases es : slotsOf s with
      | none => rw [es] at e; cases e
      | some l =>
        rw [es] at e
        injection e with e
        subst e
        rw [h1]
        simp [lineList, slots_back es]
end Go.Proofs.YtmnbgamnbgdnnaaGreatDoor
