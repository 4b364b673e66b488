/- Plain laws of reading: what is read lies in the text, one token behind the other. -/
import Derived.Test.YtaccooeodimdaaaDoorTokQ
namespace Go.Proofs.YtaccooeodimdaaaDoor
open Go.RowKit

theorem ba_ext {a b : ByteArray} (h : a.data.toList = b.data.toList) : a = b := by
  cases a; cases b
  simp only at h
  rw [Array.toList_inj.1 h]
theorem rawTok_ext (s : ByteArray) (i : Nat) (hi : i < s.size) {k : Int} {t : ByteArray} {j : Nat} (h : rawTok s i = some (k, t, j)) : s.extract i j = t := by
  unfold rawTok at h
  rw [getD_i hi] at h
  by_cases hL : isLetter (s[i].toNat : Int) = true
  · simp only [hL, if_true] at h
    injection h with h
    injection h with _ h
    injection h with h1 h2
    rw [← h2]; exact h1
  rw [if_neg hL] at h
  by_cases hD : isDigit (s[i].toNat : Int) = true
  · rw [if_pos hD] at h
    injection h with h
    injection h with _ h
    injection h with h1 h2
    rw [← h2]; exact h1
  rw [if_neg hD] at h
  by_cases hE : Lib.hasPrefix (s.data.toList.drop i) [61, 61] = true
  · rw [if_pos hE] at h
    injection h with h
    injection h with _ h
    injection h with h1 h2
    have hlt := drop_lt s i hE
    rw [← h2, ← h1]
    have hm := match_iff s ⟨#[61, 61]⟩ i hlt
    rw [hE] at hm
    apply ba_ext
    have h9 := beq_iff_eq.1 hm
    rw [ByteArray.toList_eq, ByteArray.toList_eq] at h9
    exact h9
  rw [if_neg hE] at h
  by_cases hS : isSign (s[i].toNat : Int) = true
  · rw [if_pos hS] at h
    injection h with h
    injection h with _ h
    injection h with h1 h2
    rw [← h2]; exact h1
  rw [if_neg hS] at h
  cases h
theorem ext_size (s : ByteArray) (i j : Nat) (h1 : i ≤ j) (h2 : j ≤ s.size) : i + (s.extract i j).size = j := by
  rw [ByteArray.size_extract]; omega

/-- The tokens lie in s from i on, with nothing but blanks and remarks between and behind. -/
def Between (s : ByteArray) : Nat → List Tok → Prop
  | i, [] => skipTo s.data.toList i = s.size
  | i, (_, t, p) :: r => skipTo s.data.toList i = p ∧ p + t.size ≤ s.size ∧ s.extract p (p + t.size) = t ∧ Between s (p + t.size) r
theorem readFrom_cases (s : ByteArray) (i : Nat) :
    (s.size ≤ skipTo s.data.toList i ∧ readFrom s i = ([], 0, 0)) ∨
    (skipTo s.data.toList i < s.size ∧ (readFrom s i).2.2 ≠ 0 ∧ (readFrom s i).1 = []) ∨
    (skipTo s.data.toList i < s.size ∧ ∃ k t j, rawTok s (skipTo s.data.toList i) = some (k, t, j) ∧ (readFrom s j).2.2 = 0 ∧ readFrom s i = ((k, t, skipTo s.data.toList i) :: (readFrom s j).1, 0, 0)) := by
  rcases Nat.lt_or_ge (skipTo s.data.toList i) s.size with h | h
  · right
    have h' : ¬ s.size ≤ skipTo s.data.toList i := by omega
    cases hr : rawTok s (skipTo s.data.toList i) with
    | none => left; rw [readFrom_none s i h' hr]; exact ⟨h, (by show (4 : Int) ≠ 0; decide), rfl⟩
    | some q =>
      obtain ⟨k, t, j⟩ := q
      by_cases hn : nextErr k t.data.toList (skipTo s.data.toList i) = 0
      · have hx := readFrom_next s i h' hr hn
        by_cases h0 : (readFrom s j).2.2 = 0
        · rw [if_pos h0] at hx
          exact .inr ⟨h, k, t, j, rfl, h0, hx⟩
        · rw [if_neg h0] at hx
          rw [hx]
          exact .inl ⟨h, h0, rfl⟩
      · rw [readFrom_bad s i h' hr hn]
        exact .inl ⟨h, (by show (3 : Int) ≠ 0; decide), rfl⟩
  · exact .inl ⟨h, readFrom_end s i h⟩
theorem readFrom_ok (s : ByteArray) (i : Nat) (h : (readFrom s i).2.2 = 0) : (readFrom s i).2.1 = 0 := by
  rcases readFrom_cases s i with ⟨_, h1⟩ | ⟨_, h1, _⟩ | ⟨_, k, t, j, _, _, h1⟩
  · rw [h1]
  · exact absurd h h1
  · rw [h1]
theorem between_of (s : ByteArray) : ∀ (n i : Nat), i ≤ s.size → s.size - i ≤ n → (readFrom s i).2.2 = 0 → Between s i (readFrom s i).1 := by
  intro n
  induction n with
  | zero =>
    intro i hi hn h
    have hl := skipTo_le s.data.toList i (by rw [data_len]; exact hi)
    rw [data_len] at hl
    rcases readFrom_cases s i with ⟨h0, h1⟩ | ⟨_, h1, _⟩ | ⟨h0, _⟩
    · rw [h1]; show skipTo _ _ = _; omega
    · exact absurd h h1
    · omega
  | succ n ih =>
    intro i hi hn h
    have hl := skipTo_le s.data.toList i (by rw [data_len]; exact hi)
    rw [data_len] at hl
    rcases readFrom_cases s i with ⟨h0, h1⟩ | ⟨_, h1, _⟩ | ⟨h0, k, t, j, hr, hj0, h1⟩
    · rw [h1]; show skipTo _ _ = _; omega
    · exact absurd h h1
    · have hlt := rawTok_lt s _ h0 hr
      have hex := rawTok_ext s _ h0 hr
      have hsz := ext_size s (skipTo s.data.toList i) j (by omega) hlt.2
      rw [hex] at hsz
      rw [h1]
      show _ ∧ _ ∧ _ ∧ _
      rw [hsz]
      exact ⟨rfl, hlt.2, hex, ih j hlt.2 (by omega) hj0⟩
theorem readAll_err (s : ByteArray) (h : (readAll s).2.2 ≠ 0) : (readAll s).1 = [] := by
  unfold readAll at *
  split
  · rfl
  · rename_i h1
    rw [if_neg h1] at h
    unfold after at *
    split
    · rename_i h2; rw [if_pos h2] at h; exact absurd rfl h
    · rfl
theorem readAll_ok (s : ByteArray) (h : (readAll s).2.2 = 0) : s.size ≤ 20000 ∧ (readFrom s 0).2.2 = 0 ∧ readAll s = ((readFrom s 0).1, 0, 0) := by
  unfold readAll at *
  by_cases h1 : 20000 < s.size
  · rw [if_pos h1] at h; exact absurd h (by decide)
  · rw [if_neg h1] at h ⊢
    unfold after at *
    by_cases h2 : (readFrom s 0).2.2 = 0
    · rw [if_pos h2]; exact ⟨by omega, h2, rfl⟩
    · rw [if_neg h2] at h; exact absurd h h2
theorem readAll_between (s : ByteArray) (h : (readAll s).2.2 = 0) : Between s 0 (readAll s).1 := by
  obtain ⟨_, h1, h2⟩ := readAll_ok s h
  rw [h2]
  exact between_of s s.size 0 (by omega) (by omega) h1
end Go.Proofs.YtaccooeodimdaaaDoor
