/- Contracts of the reference's Digit, Number and value. -/
import Derived.Test.YtmnbgamnbgdnnaaGreatDoorMe
namespace Go.Proofs.YtmnbgamnbgdnnaaGreatDoor
open Go.RowKit

theorem dig_iff (c : UInt8) : isDigitU c = true ↔ 48 ≤ c.toNat ∧ c.toNat ≤ 57 := by simp [isDigitU]
theorem rt_b {a b : Bool} (h : a = b) : Ending.returned (.bool a) = .returned (.bool b) := by rw [h]
theorem numVal_take (l : List UInt8) (k : Nat) (h : k < l.length) : numVal (l.take (k + 1)) = 10 * numVal (l.take k) + (l[k].toNat - 48) := by
  unfold numVal
  rw [List.take_succ_eq_append_getElem h, List.foldl_append]
  rfl
theorem allDig_at (l : List UInt8) (h : allDig l = true) (k : Nat) (hk : k < l.length) : 48 ≤ l[k].toNat ∧ l[k].toNat ≤ 57 :=
  (dig_iff l[k]).1 (List.all_eq_true.1 h _ (List.getElem_mem hk))
theorem allDig_bad (l : List UInt8) (k : Nat) (hk : k < l.length) (h : isDigitU l[k] = false) : allDig l = false := by
  unfold allDig
  rw [List.all_eq_false]
  exact ⟨l[k], List.getElem_mem hk, by simp [h]⟩
theorem allDig_succ (l : List UInt8) (k : Nat) (hk : k < l.length) (h0 : allDig (l.take k) = true) (h : isDigitU l[k] = true) : allDig (l.take (k + 1)) = true := by
  unfold allDig at *
  rw [List.take_succ_eq_append_getElem hk, List.all_append, h0]
  simp [h]
theorem num_lt (l : List UInt8) (h : allDig l = true) : ∀ i, i ≤ l.length → numVal (l.take i) < 10 ^ i := by
  intro i
  induction i with
  | zero => intro _; simp [numVal]
  | succ i ih =>
    intro hi
    have hlt : i < l.length := by omega
    have hdg := allDig_at l h i hlt
    have := ih (by omega)
    rw [numVal_take l i hlt, Nat.pow_succ]
    omega
theorem num_lt9 (l : List UInt8) (h : allDig l = true) (h9 : l.length ≤ 9) (i : Nat) (hi : i ≤ l.length) : numVal (l.take i) < 1000000000 := by
  have h1 := num_lt l h i hi
  have h2 : 10 ^ i ≤ 10 ^ 9 := Nat.pow_le_pow_right (by omega) (by omega)
  omega
theorem str_get (s : ByteArray) (k : Nat) (h : k < s.size) : s.data.toList[k]'(by rw [data_len]; exact h) = s[k] := rfl
set_option maxRecDepth 100000 in
theorem rdigit_any (c : UInt8) (w : World) : Calls Tryz.prog 120 #[.int .u8 (c.toNat : Int)] w fun e w' => e = .returned (.bool (isDigitU c)) ∧ w = w' := by
  by_cases h1 : 48 ≤ c.toNat
  · have h2 : (48 : Int) ≤ (c.toNat : Int) := by omega
    have hd : isDigitU c = decide ((c.toNat : Int) ≤ 57) := by
      unfold isDigitU
      rw [decide_eq_true h1, Bool.true_and]
      by_cases h3 : c.toNat ≤ 57
      · rw [decide_eq_true h3, decide_eq_true (by omega)]
      · rw [decide_eq_false h3, decide_eq_false (by omega)]
    rw [hd]
    go_enter Tryz.func120, Tryz.ntmps120
    go_wp2
    go_ret
    exact ⟨rt_b (by simp), rfl⟩
  · have h2 : (c.toNat : Int) < 48 := by omega
    have hd : isDigitU c = false := by
      unfold isDigitU
      rw [decide_eq_false h1]
      rfl
    rw [hd]
    go_enter Tryz.func120, Tryz.ntmps120
    go_wp2
    go_ret
    exact ⟨rt_b (by simp), rfl⟩
def RNmPost (s : Bs) (w : World) (e : Ending) (w' : World) : Prop := (e = if allDig s = true then .returned (.tuple #[.int .u64 (numVal s), .int .i64 0]) else .returned (.tuple #[.int .u64 0, .int .i64 4])) ∧ w = w'
set_option maxRecDepth 100000 in
theorem rnum_any (s : ByteArray) (h0 : s.data.toList ≠ []) (h9 : s.size ≤ 9) (w : World) : Calls Tryz.prog 107 #[.string s] w (RNmPost s.data.toList w) := by
  have hl := data_len s
  have g1 : s.toList.isEmpty = false := by rw [ByteArray.toList_eq]; cases hh : s.data.toList with | nil => exact absurd hh h0 | cons _ _ => rfl
  have g2 : ¬ s.toList = [] := by rw [ByteArray.toList_eq]; exact h0
  have hs : s.size ≤ 9223372036854775807 := by omega
  have h10 : ¬ 10 < s.size := by omega
  have HL := Lib.hid hl; clear hl
  clear h0
  go_enter Tryz.func107, Tryz.ntmps107
  go_wp2
  go_loopg [11] s.size (fun g i wr => ∃ k : Nat, k ≤ s.size ∧ g = s.size - k ∧ i = .int .i64 k ∧ Hid (allDig (s.data.toList.take k) = true) ∧ w = wr)
  case atStart => exact ⟨0, by omega, rfl, rfl, rfl, rfl⟩
  case round =>
    obtain ⟨k, hk, rfl, rfl, hd, rfl⟩ := hrel
    by_cases hlt : k < s.size
    · have hlt' : k < s.data.toList.length := by rw [HL.out]; exact hlt
      have hdg := rdigit_any s[k] w
      rcases Bool.eq_false_or_eq_true (isDigitU s[k]) with hq | hq
      · rw [hq] at hdg
        have HD := Lib.hid hdg; clear hdg
        have HN := Lib.hid (allDig_succ s.data.toList k hlt' hd.out hq)
        clear hq hd
        go_wp2_with (go_at_call 120; refine HD.out.mono ?_; rintro e w1 ⟨rfl, rfl⟩)
        go_roundg (s.size - (k + 1))
        case measure => omega
        case rel => exact ⟨k + 1, by omega, rfl, by go_num, HN.out, rfl⟩
      · rw [hq] at hdg
        have HD := Lib.hid hdg; clear hdg
        have HN := Lib.hid (allDig_bad s.data.toList k hlt' hq)
        clear hq hd
        go_wp2_with (go_at_call 120; refine HD.out.mono ?_; rintro e w1 ⟨rfl, rfl⟩)
        go_ret2
        refine ⟨?_, rfl⟩
        rw [if_neg (by rw [HN.out]; simp)]
        rfl
    · obtain rfl : k = s.size := by omega
      have hd' := hd.out
      rw [List.take_of_length_le (by rw [HL.out]; omega)] at hd'
      have HQ := Lib.hid hd'; clear hd' hd
      go_wp2
      go_loopg [5, 25] s.size (fun g n i wr => ∃ k : Nat, k ≤ s.size ∧ g = s.size - k ∧ i = .int .i64 k ∧ n = .int .u64 (numVal (s.data.toList.take k)) ∧ w = wr)
      case atStart => exact ⟨0, by omega, rfl, rfl, rfl, rfl⟩
      case round =>
        obtain ⟨k, hk, rfl, rfl, rfl, rfl⟩ := hrel
        by_cases hlt : k < s.size
        · have hlt' : k < s.data.toList.length := by rw [HL.out]; exact hlt
          have hv := num_lt9 s.data.toList HQ.out (by rw [HL.out]; exact h9) k (by omega)
          have hdk := allDig_at _ HQ.out k hlt'
          have hst := numVal_take s.data.toList k hlt'
          rw [str_get s k hlt] at hdk hst
          have HST := Lib.hid hst; clear hst
          obtain ⟨hd1, hd2⟩ := hdk
          go_wp2
          go_roundg (s.size - (k + 1))
          case measure => omega
          case rel => exact ⟨k + 1, by omega, rfl, by go_num, congrArg (Value.int .u64) (by rw [HST.out]; omega), rfl⟩
        · obtain rfl : k = s.size := by omega
          have htk : s.data.toList.take s.size = s.data.toList := List.take_of_length_le (by rw [HL.out]; omega)
          have hv := num_lt9 s.data.toList HQ.out (by rw [HL.out]; exact h9) s.size (by rw [HL.out]; omega)
          rw [htk] at hv ⊢
          have hm' : (numVal s.data.toList : Int) ≤ (4294967295 : Int) := by omega
          go_wp2
          go_ret2
          refine ⟨?_, rfl⟩
          rw [if_pos HQ.out]
          rfl
theorem valOf_lt {s : Bs} {n : Nat} (h : valOf s = some n) : s ≠ [] ∧ s.length ≤ 9 ∧ allDig s = true ∧ ¬ (s.head? = some 48 ∧ 1 < s.length) ∧ n = numVal s ∧ n < 1000000000 := by
  unfold valOf at h
  split at h
  · cases h
  · rename_i hc
    have h1 : s ≠ [] := fun e => hc (.inl e)
    have h2 : s.length ≤ 9 := by
      by_cases h3 : 9 < s.length
      · exact absurd (.inr (.inl h3)) hc
      · omega
    have h3 : allDig s = true := by
      cases h4 : allDig s with
      | true => rfl
      | false => exact absurd (.inr (.inr (.inl h4))) hc
    have h5 := num_lt9 s h3 h2 s.length (Nat.le_refl _)
    rw [List.take_length] at h5
    cases h
    exact ⟨h1, h2, h3, fun e => hc (.inr (.inr (.inr e))), rfl, h5⟩
def NoVal (w : World) (e : Ending) (w' : World) : Prop := e = .returned (.tuple #[.int .i64 0, .bool false]) ∧ Below w.heap.size w w'
set_option maxRecDepth 100000 in
theorem rval_some (s : Bs) (v : Nat) (h : valOf s = some v) (w : World) : Calls Tryz.prog 94 #[.string ⟨s.toArray⟩] w fun e w' => e = .returned (.tuple #[.int .i64 v, .bool true]) ∧ Below w.heap.size w w' := by
  obtain ⟨h1, h2, h3, h4, rfl, h6⟩ := valOf_lt h
  obtain ⟨c, r, rfl⟩ : ∃ c r, s = c :: r := by
    cases s with
    | nil => exact absurd rfl h1
    | cons a l => exact ⟨a, l, rfl⟩
  have hn := rnum_any ⟨(c :: r).toArray⟩ (by simp) (by simpa [ByteArray.size] using h2) w
  unfold RNmPost at hn
  simp only [if_pos h3] at hn
  have HN := Lib.hid hn; clear hn
  have hsz : (⟨(c :: r).toArray⟩ : ByteArray).size = r.length + 1 := rfl
  have hne : ((c :: r) == []) = false := rfl
  have hix : ∀ h, ((⟨(c :: r).toArray⟩ : ByteArray)[0]'h) = c := fun _ => rfl
  have hw : IntKind.i64.wrap (numVal (c :: r) : Int) = (numVal (c :: r) : Int) := IntWalk.i64_in _ ⟨by omega, by omega⟩
  have h2 : r.length + 1 ≤ 9 := h2
  have h9 : ((r.length : Int) + 1) ≤ 9 := by omega
  generalize numVal (c :: r) = v at *
  by_cases hc : c = 48
  · subst hc
    have hr : r = [] := by
      cases r with
      | nil => rfl
      | cons a l => exact absurd ⟨rfl, by simp⟩ h4
    subst hr
    clear h h1 h3 h4
    go_enter Tryz.func94, Tryz.ntmps94
    go_wp2_with (go_at_call 107; refine HN.out.mono ?_; rintro e w1 ⟨rfl, rfl⟩)
    go_ret2
    exact ⟨rfl, Below.refl _ _⟩
  · have hb : ((c.toNat : Int) == 48) = false := by
      rw [beq_eq_false_iff_ne]
      exact fun e => hc (UInt8.toNat_inj.1 (by simp; omega))
    have hb2 : ¬ (c.toNat : Int) = 48 := by simpa using hb
    clear h h1 h3 h4 hc
    go_enter Tryz.func94, Tryz.ntmps94
    go_wp2_with (go_at_call 107; refine HN.out.mono ?_; rintro e w1 ⟨rfl, rfl⟩)
    go_ret2
    exact ⟨rfl, Below.refl _ _⟩
set_option maxRecDepth 100000 in
theorem rval_none (s : Bs) (h : valOf s = none) (hs : s.length ≤ 281474976710656) (w : World) : Calls Tryz.prog 94 #[.string ⟨s.toArray⟩] w (NoVal w) := by
  cases s with
  | nil =>
    go_enter Tryz.func94, Tryz.ntmps94
    go_wp2
    go_ret2
    exact ⟨rfl, Below.refl _ _⟩
  | cons c r =>
    have hsz : (⟨(c :: r).toArray⟩ : ByteArray).size = r.length + 1 := rfl
    have hne : ((c :: r) == []) = false := rfl
    have hix : ∀ h, ((⟨(c :: r).toArray⟩ : ByteArray)[0]'h) = c := fun _ => rfl
    simp only [List.length_cons] at hs
    by_cases h9 : 9 < r.length + 1
    · have h9' : (9 : Int) < (r.length : Int) + 1 := by omega
      go_enter Tryz.func94, Tryz.ntmps94
      go_wp2
      go_ret2
      exact ⟨rfl, Below.refl _ _⟩
    have h9' : ((r.length : Int) + 1) ≤ 9 := by omega
    by_cases hc : c = 48
    · subst hc
      by_cases h1 : 0 < r.length
      · have h1' : (0 : Int) < (r.length : Int) := by omega
        have h1'' : (1 : Int) < (r.length : Int) + 1 := by omega
        go_enter Tryz.func94, Tryz.ntmps94
        go_wp2
        go_ret2
        exact ⟨rfl, Below.refl _ _⟩
      · have hr : r = [] := List.eq_nil_of_length_eq_zero (by omega)
        subst hr
        exact absurd h (by decide)
    · have hb : ((c.toNat : Int) == 48) = false := by
        rw [beq_eq_false_iff_ne]
        exact fun e => hc (UInt8.toNat_inj.1 (by simp; omega))
      have hb2 : ¬ (c.toNat : Int) = 48 := by simpa using hb
      have hd : allDig (c :: r) = false := by
        cases h4 : allDig (c :: r) with
        | false => rfl
        | true =>
          unfold valOf at h
          rw [if_neg] at h
          · cases h
          · rintro (e | e | e | e)
            · cases e
            · simp at e; omega
            · rw [h4] at e; cases e
            · simp at e; exact hc e.1
      have hn := rnum_any ⟨(c :: r).toArray⟩ (by simp) (by rw [hsz]; omega) w
      unfold RNmPost at hn
      rw [if_neg (by rw [show (⟨(c :: r).toArray⟩ : ByteArray).data.toList = c :: r from rfl, hd]; simp)] at hn
      have HN := Lib.hid hn
      clear hn h hc hd
      go_enter Tryz.func94, Tryz.ntmps94
      go_wp2_with (go_at_call 107; refine HN.out.mono ?_; rintro e w1 ⟨rfl, rfl⟩)
      go_ret2
      exact ⟨rfl, Below.refl _ _⟩
end Go.Proofs.YtmnbgamnbgdnnaaGreatDoor
