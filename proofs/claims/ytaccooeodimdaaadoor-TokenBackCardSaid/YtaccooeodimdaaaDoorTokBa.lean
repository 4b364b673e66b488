/- Plain law: what is written of valid tokens is read as the same tokens, with ascending offsets. -/
import Derived.Test.YtaccooeodimdaaaDoorTokY
import Derived.Test.YtaccooeodimdaaaDoorTokT
namespace Go.Proofs.YtaccooeodimdaaaDoor
open Go.RowKit

theorem signs_apart : ∀ c ∈ signs1, isLetter (c.toNat : Int) = false ∧ isDigit (c.toNat : Int) = false ∧ isBlank (c.toNat : Int) = false ∧ c ≠ 47 := by decide
theorem letter_apart (c : UInt8) (h : isLetter (c.toNat : Int) = true) : isBlank (c.toNat : Int) = false ∧ c ≠ 47 := by
  simp only [isLetter, Bool.and_eq_true, decide_eq_true_eq] at h
  refine ⟨?_, ?_⟩
  · simp [isBlank]; omega
  · rintro rfl; exact absurd h.1 (by decide)
theorem digit_apart (c : UInt8) (h : isDigit (c.toNat : Int) = true) : isLetter (c.toNat : Int) = false ∧ isBlank (c.toNat : Int) = false ∧ c ≠ 47 := by
  have h1 := (dig_iff c).1 h
  refine ⟨?_, ?_, ?_⟩
  · simp [isLetter]; omega
  · simp [isBlank]; omega
  · rintro rfl; exact absurd h1.1 (by decide)
/-- What a valid token's text is. -/
theorem ok_shape {k : Int} {l : List UInt8} (h : okTok k l = true) :
    (k = 1 ∧ (∃ c r, l = c :: r ∧ isLetter (c.toNat : Int) = true) ∧ (l.all fun c => isWithin (c.toNat : Int)) = true) ∨
    (k = 2 ∧ (∃ c r, l = c :: r ∧ isDigit (c.toNat : Int) = true) ∧ (l.all fun c => isDigit (c.toNat : Int)) = true) ∨
    (k = 3 ∧ l = [61, 61]) ∨ (k = 3 ∧ ∃ c, l = [c] ∧ c ∈ signs1) := by
  unfold okTok at h
  split at h
  · rename_i hk
    unfold isNameL at h
    simp only [Bool.and_eq_true, decide_eq_true_eq] at h
    cases l with
    | nil => simp at h
    | cons c r => exact .inl ⟨hk, ⟨c, r, rfl, h.1.2⟩, h.2⟩
  split at h
  · rename_i hk
    have h0 : (numOf l).2 = 0 := by simpa using h
    have h1 : ¬ (l = [] ∨ allDig l = false) := by
      intro hc
      unfold numOf at h0
      rw [if_pos hc] at h0
      exact absurd h0 (by decide)
    cases l with
    | nil => exact absurd (.inl rfl) h1
    | cons c r =>
      have h2 : allDig (c :: r) = true := by simpa using fun h => h1 (.inr h)
      have h3 := h2
      unfold allDig at h3
      rw [List.all_cons, Bool.and_eq_true] at h3
      exact .inr (.inl ⟨hk, ⟨c, r, rfl, h3.1⟩, h2⟩)
  split at h
  · rename_i hk
    rw [Bool.or_eq_true, beq_iff_eq, Bool.and_eq_true, decide_eq_true_eq] at h
    rcases h with h | ⟨h1, h2⟩
    · exact .inr (.inr (.inl ⟨hk, h⟩))
    · match l, h1 with
      | [c], _ => exact .inr (.inr (.inr ⟨hk, c, rfl, (isSign_mem c).1 h2⟩))
  · cases h
theorem ok_first {k : Int} {l : List UInt8} (h : okTok k l = true) : ∃ c r, l = c :: r ∧ isBlank (c.toNat : Int) = false ∧ c ≠ 47 := by
  rcases ok_shape h with ⟨_, ⟨c, r, e, hc⟩, _⟩ | ⟨_, ⟨c, r, e, hc⟩, _⟩ | ⟨_, e⟩ | ⟨_, c, e, hc⟩
  · exact ⟨c, r, e, letter_apart c hc⟩
  · exact ⟨c, r, e, (digit_apart c hc).2⟩
  · exact ⟨61, [61], e, by decide, by decide⟩
  · exact ⟨c, [], e, (signs_apart c hc).2.2⟩
theorem span_of (p : Int → Bool) (l : List UInt8) (i : Nat) (w rest : List UInt8) (hd : l.drop i = w ++ rest) (hw : (w.all fun c => p (c.toNat : Int)) = true) (hr : rest = [] ∨ ∃ c r, rest = c :: r ∧ p (c.toNat : Int) = false) : spanEnd p l i = i + w.length := by
  unfold spanEnd
  rw [hd, List.takeWhile_append_of_pos (fun c hc => List.all_eq_true.1 hw c hc)]
  rcases hr with rfl | ⟨c, r, rfl, hc⟩
  · simp
  · rw [List.takeWhile_cons, if_neg (by simp [hc])]; simp
theorem ext_of (s w : ByteArray) (i : Nat) (rest : List UInt8) (hd : s.data.toList.drop i = w.data.toList ++ rest) : s.extract i (i + w.data.toList.length) = w := by
  apply ba_ext
  rw [Lib.extract_data, hd, show i + w.data.toList.length - i = w.data.toList.length by omega, List.take_left]
theorem getD_drop (l : List UInt8) (i : Nat) (c : UInt8) (r : List UInt8) (hd : l.drop i = c :: r) : l.getD i 0 = c := by
  have h : (l.drop i)[0]? = some c := by rw [hd]; rfl
  rw [List.getElem?_drop, Nat.add_zero] at h
  rw [List.getD_eq_getElem?_getD, h]; rfl
/-- One token is read. -/
theorem raw_of (s : ByteArray) (p : Nat) (k : Int) (w : ByteArray) (rest : List UInt8) (hok : okTok k w.data.toList = true) (hrest : rest = [] ∨ ∃ r, rest = 32 :: r) (hd : s.data.toList.drop p = w.data.toList ++ rest) :
    rawTok s p = some (k, w, p + w.data.toList.length) := by
  have hx := ext_of s w p rest hd
  have hb : ∀ q : Int → Bool, q 32 = false → (rest = [] ∨ ∃ c r, rest = c :: r ∧ q (c.toNat : Int) = false) := by
    intro q hq
    rcases hrest with h | ⟨r, h⟩
    · exact .inl h
    · exact .inr ⟨32, r, h, hq⟩
  unfold rawTok
  rcases ok_shape hok with ⟨rfl, ⟨c, r, e, hc⟩, ha⟩ | ⟨rfl, ⟨c, r, e, hc⟩, ha⟩ | ⟨rfl, e⟩ | ⟨rfl, c, e, hc⟩
  · have hg := getD_drop s.data.toList p c (r ++ rest) (by rw [hd, e]; rfl)
    have hsp := span_of isWithin s.data.toList p _ rest hd ha (hb _ (by decide))
    simp only [hg, hc, if_true, hsp, hx]
  · have hg := getD_drop s.data.toList p c (r ++ rest) (by rw [hd, e]; rfl)
    have hsp := span_of isDigit s.data.toList p _ rest hd ha (hb _ (by decide))
    simp only [hg, (digit_apart c hc).1, hc, if_true, hsp, hx, Bool.false_eq_true, if_false]
  · have hg := getD_drop s.data.toList p 61 (61 :: rest) (by rw [hd, e]; rfl)
    have hE : Lib.hasPrefix (s.data.toList.drop p) [61, 61] = true := by rw [hd, e]; simp [Lib.hasPrefix]
    have hw : w = ⟨#[61, 61]⟩ := ba_ext e
    simp only [hg, hE, if_true]
    rw [if_neg (by decide), if_neg (by decide), hw]
    rfl
  · have hg := getD_drop s.data.toList p c rest (by rw [hd, e]; rfl)
    have hE : Lib.hasPrefix (s.data.toList.drop p) [61, 61] = false := by
      rw [hd, e]
      rcases hrest with h | ⟨r, h⟩ <;> rw [h] <;> simp [Lib.hasPrefix, List.isPrefixOf]
    have hs := (isSign_mem c).2 hc
    obtain ⟨a1, a2, _⟩ := signs_apart c hc
    rw [e] at hx ⊢
    simp only [hg, a1, a2, hE, hs, if_true, Bool.false_eq_true, if_false]
    rw [← hx]
    rfl
theorem skip_of (l : List UInt8) (i : Nat) (pre : List UInt8) (hpre : pre = [] ∨ pre = [32]) (c : UInt8) (r : List UInt8) (hd : l.drop i = pre ++ c :: r) (hc : isBlank (c.toNat : Int) = false) (h47 : c ≠ 47) : skipTo l i = i + pre.length := by
  have hsp := span_of isBlank l i pre (c :: r) hd (by rcases hpre with rfl | rfl <;> decide) (.inr ⟨c, r, rfl, hc⟩)
  have hdp : l.drop (i + pre.length) = c :: r := by rw [← List.drop_drop, hd, List.drop_left]
  rw [skipTo_no l i (by rw [hsp, hdp]; simp [Lib.hasPrefix, List.isPrefixOf, Ne.symm h47]), hsp]
theorem next_ok {k : Int} {l : List UInt8} (h : okTok k l = true) (p : Nat) : nextErr k l p = 0 := by
  have h1 : chkTok k l p = 0 := by
    unfold chkTok
    rw [if_neg (by simp [h])]
  unfold nextErr
  rw [if_pos h1]

def glue (ts : List ITok) : List UInt8 := ts.flatMap fun t => 32 :: t.2.1.data.toList
def Asc : Nat → List Tok → Prop
  | _, [] => True
  | b, t :: r => b ≤ t.2.2 ∧ Asc (t.2.2 + 1) r
def Alike (us : List Tok) (ts : List ITok) : Prop := ts.length = us.length ∧ ∀ k (h1 : k < us.length) (h2 : k < ts.length), us[k].1 = ts[k].1 ∧ us[k].2.1 = ts[k].2.1
theorem alike_cons {us : List Tok} {ts : List ITok} {u : Tok} {t : ITok} (h1 : u.1 = t.1) (h2 : u.2.1 = t.2.1) (h : Alike us ts) : Alike (u :: us) (t :: ts) := by
  refine ⟨by simp [h.1], fun k h3 h4 => ?_⟩
  cases k with
  | zero => exact ⟨h1, h2⟩
  | succ k => exact h.2 k (by simpa using h3) (by simpa using h4)
theorem ok_of {t : ITok} (h : (chkTok t.1 t.2.1.data.toList t.2.2 == 0) = true) : okTok t.1 t.2.1.data.toList = true := by
  have h1 : chkTok t.1 t.2.1.data.toList t.2.2 = 0 := by simpa using h
  unfold chkTok at h1
  split at h1
  · exact absurd h1 (by decide)
  · rename_i h2
    simpa using fun h => h2 (.inl h)
theorem glue_head (ts : List ITok) : glue ts = [] ∨ ∃ r, glue ts = 32 :: r := by
  cases ts with
  | nil => exact .inl rfl
  | cons t r => exact .inr ⟨_, rfl⟩
theorem read_one (s : ByteArray) (i : Nat) (pre : List UInt8) (hpre : pre = [] ∨ pre = [32]) (t : ITok) (ts : List ITok) (hok : okTok t.1 t.2.1.data.toList = true) (hd : s.data.toList.drop i = pre ++ (t.2.1.data.toList ++ glue ts))
    (us : List Tok) (hus : readFrom s (i + pre.length + t.2.1.data.toList.length) = (us, 0, 0)) : readFrom s i = ((t.1, t.2.1, i + pre.length) :: us, 0, 0) := by
  obtain ⟨c, r, e, hc, h47⟩ := ok_first hok
  have hsk := skip_of s.data.toList i pre hpre c (r ++ glue ts) (by rw [hd, e]; rfl) hc h47
  have hdp : s.data.toList.drop (i + pre.length) = t.2.1.data.toList ++ glue ts := by rw [← List.drop_drop, hd, List.drop_left]
  have hraw := raw_of s (i + pre.length) t.1 t.2.1 (glue ts) hok (glue_head ts) hdp
  have hlt : i + pre.length < s.size := by
    have h1 := congrArg List.length hdp
    rw [e, List.length_drop, data_len] at h1
    simp at h1
    omega
  rw [readFrom_next s i (by rw [hsk]; omega) (by rw [hsk]; exact hraw) (by rw [hsk]; exact next_ok hok _), hus, hsk]
  rfl
theorem asc_mono {b b' : Nat} {us : List Tok} (h : b ≤ b') (ha : Asc b' us) : Asc b us := by
  cases us with
  | nil => trivial
  | cons u r => exact ⟨Nat.le_trans h ha.1, ha.2⟩
theorem read_glue (s : ByteArray) : ∀ (ts : List ITok) (i : Nat), i ≤ s.size → okAll ts = true → s.data.toList.drop i = glue ts → ∃ us, readFrom s i = (us, 0, 0) ∧ Alike us ts ∧ Asc i us := by
  intro ts
  induction ts with
  | nil =>
    intro i hi _ hd
    have h1 := congrArg List.length hd
    rw [List.length_drop, data_len] at h1
    have h2 := skipTo_ge s.data.toList i
    simp [glue] at h1
    exact ⟨[], readFrom_end s i (by omega), ⟨rfl, fun k h => by simp at h⟩, trivial⟩
  | cons t r ih =>
    intro i hi hok hd
    have hok2 : okTok t.1 t.2.1.data.toList = true ∧ okAll r = true := by
      unfold okAll at hok ⊢
      rw [List.all_cons, Bool.and_eq_true] at hok
      exact ⟨ok_of hok.1, hok.2⟩
    have hd' : s.data.toList.drop i = [32] ++ (t.2.1.data.toList ++ glue r) := hd
    have hd2 : s.data.toList.drop (i + 1 + t.2.1.data.toList.length) = glue r := by
      rw [← List.drop_drop, ← List.drop_drop, hd', show [32] ++ (t.2.1.data.toList ++ glue r) = 32 :: (t.2.1.data.toList ++ glue r) from rfl, List.drop_succ_cons, List.drop_zero, List.drop_left]
    have hlen := congrArg List.length hd'
    rw [List.length_drop, data_len] at hlen
    simp at hlen
    obtain ⟨us, hus, hal, has⟩ := ih (i + 1 + t.2.1.data.toList.length) (by simp; omega) hok2.2 hd2
    obtain ⟨c, r2, e, _, _⟩ := ok_first hok2.1
    refine ⟨_, read_one s i [32] (.inr rfl) t r hok2.1 hd' us hus, alike_cons rfl rfl hal, ?_, ?_⟩
    · show i ≤ i + 1; omega
    · have hw : 1 ≤ t.2.1.data.toList.length := by rw [e]; simp
      exact asc_mono (by show i + 1 + 1 ≤ i + 1 + t.2.1.data.toList.length; omega) has
theorem joined_glue (t : ITok) (r : List ITok) : joined (t :: r) = t.2.1.data.toList ++ glue r := by
  unfold joined texts glue
  rw [List.map_cons, List.map_cons, Lib.join_cons]
  congr 1
  unfold Lib.joinTail
  rw [List.map_map, List.map_map]
  rfl
theorem read_joined (ts : List ITok) (s : ByteArray) (hs : s.data.toList = joined ts) (hok : okAll ts = true) (hl : (joined ts).length ≤ 20000) : ∃ us, readAll s = (us, 0, 0) ∧ Alike us ts ∧ Asc 0 us := by
  have hsz : s.size ≤ 20000 := by rw [← data_len, hs]; exact hl
  have key : ∃ us, readFrom s 0 = (us, 0, 0) ∧ Alike us ts ∧ Asc 0 us := by
    cases ts with
    | nil => exact read_glue s [] 0 (by omega) rfl hs
    | cons t r =>
      rw [joined_glue] at hs
      have hok2 : okTok t.1 t.2.1.data.toList = true ∧ okAll r = true := by
        unfold okAll at hok ⊢
        rw [List.all_cons, Bool.and_eq_true] at hok
        exact ⟨ok_of hok.1, hok.2⟩
      have hlen := congrArg List.length hs
      rw [data_len] at hlen
      simp at hlen
      have hd' : s.data.toList.drop 0 = [] ++ (t.2.1.data.toList ++ glue r) := hs
      have hd2 : s.data.toList.drop (0 + 0 + t.2.1.data.toList.length) = glue r := by
        rw [hs]; simp
      obtain ⟨us, hus, hal, has⟩ := read_glue s r (0 + 0 + t.2.1.data.toList.length) (by simp; omega) hok2.2 hd2
      obtain ⟨c, r2, e, _, _⟩ := ok_first hok2.1
      refine ⟨_, read_one s 0 [] (.inl rfl) t r hok2.1 hd' us hus, alike_cons rfl rfl hal, Nat.zero_le _, ?_⟩
      have hw : 1 ≤ t.2.1.data.toList.length := by rw [e]; simp
      exact asc_mono (by show 0 + 0 + 1 ≤ 0 + 0 + t.2.1.data.toList.length; omega) has
  obtain ⟨us, h1, h2⟩ := key
  refine ⟨us, ?_, h2⟩
  unfold readAll
  rw [if_neg (by omega), h1]
  rfl
theorem asc_at : ∀ {us : List Tok} {b : Nat}, Asc b us → ∀ k (h : k + 1 < us.length), us[k].2.2 < us[k + 1].2.2
  | [], _, _, k, h => by simp at h
  | [_], _, _, k, h => by simp at h
  | u :: v :: r, b, ha, 0, h => ha.2.1
  | u :: v :: r, b, ha, k + 1, h => asc_at (us := v :: r) ha.2 k (by simpa using h)
/-- What Write says of tokens, and what is read of what it returns. -/
theorem write_cases (ts : List ITok) : ((writeOf ts).2 ≠ 0 ∧ (writeOf ts).1 = []) ∨ ((writeOf ts).2 = 0 ∧ ∃ us, readAll ⟨(writeOf ts).1.toArray⟩ = (us, 0, 0) ∧ Alike us ts ∧ Asc 0 us) := by
  unfold writeOf
  by_cases h1 : 20000 < ts.length
  · rw [if_pos h1]; exact .inl ⟨(by show (3 : Int) ≠ 0; decide), rfl⟩
  rw [if_neg h1]
  by_cases h2 : okAll ts = false
  · rw [if_pos h2]; exact .inl ⟨(by show (4 : Int) ≠ 0; decide), rfl⟩
  rw [if_neg h2]
  by_cases h3 : 20000 < (joined ts).length
  · rw [if_pos h3]; exact .inl ⟨(by show (3 : Int) ≠ 0; decide), rfl⟩
  rw [if_neg h3]
  exact .inr ⟨rfl, read_joined ts _ (by simp) (by simpa using h2) (by omega)⟩
end Go.Proofs.YtaccooeodimdaaaDoor
