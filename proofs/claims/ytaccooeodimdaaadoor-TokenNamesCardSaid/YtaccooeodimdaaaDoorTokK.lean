/- Contracts of the reference's classes of bytes, Number and Skip. -/
import Derived.Test.YtaccooeodimdaaaDoorTokJ
namespace Go.Proofs.YtaccooeodimdaaaDoor
open Go.RowKit

theorem rletter_any (c : Int) (w : World) : Calls Tryd.prog 42 #[.int .u8 c] w fun e w' => e = .returned (.bool (isLetter c)) ∧ w = w' := by
  by_cases h1 : 97 ≤ c
  · go_enter Tryd.func42, Tryd.ntmps42
    go_wp2
    go_ret
    exact ⟨ret_b (by simp [isLetter, h1]), rfl⟩
  · have h1' : c < 97 := by omega
    go_enter Tryd.func42, Tryd.ntmps42
    go_wp2
    go_ret
    exact ⟨ret_b (by simp [isLetter]; omega), rfl⟩
theorem rdigit_any (c : Int) (w : World) : Calls Tryd.prog 38 #[.int .u8 c] w fun e w' => e = .returned (.bool (isDigit c)) ∧ w = w' := by
  by_cases h1 : 48 ≤ c
  · go_enter Tryd.func38, Tryd.ntmps38
    go_wp2
    go_ret
    exact ⟨ret_b (by simp [isDigit, h1]), rfl⟩
  · have h1' : c < 48 := by omega
    go_enter Tryd.func38, Tryd.ntmps38
    go_wp2
    go_ret
    exact ⟨ret_b (by simp [isDigit]; omega), rfl⟩
theorem rblank_any (c : Int) (w : World) : Calls Tryd.prog 34 #[.int .u8 c] w fun e w' => e = .returned (.bool (isBlank c)) ∧ w = w' := by
  rcases Bool.eq_false_or_eq_true (c == 32) with h1 | h1 <;> rcases Bool.eq_false_or_eq_true (c == 9) with h2 | h2 <;> rcases Bool.eq_false_or_eq_true (c == 10) with h3 | h3
  all_goals
    go_enter Tryd.func34, Tryd.ntmps34
    go_wp2
    go_ret
    exact ⟨ret_b (by simp [isBlank, h1, h2, h3]), rfl⟩

theorem numVal_take (l : List UInt8) (k : Nat) (h : k < l.length) : numVal (l.take (k + 1)) = 10 * numVal (l.take k) + (l[k].toNat - 48) := by
  unfold numVal
  rw [List.take_succ_eq_append_getElem h, List.foldl_append]
  rfl
theorem allDig_take (l : List UInt8) (h : allDig l = true) (k : Nat) : allDig (l.take k) = true := by
  unfold allDig at *
  rw [List.all_eq_true] at *
  exact fun x hx => h x (List.mem_of_mem_take hx)
theorem allDig_at (l : List UInt8) (h : allDig l = true) (k : Nat) (hk : k < l.length) : 48 ≤ l[k].toNat ∧ l[k].toNat ≤ 57 :=
  (dig_iff l[k]).1 (List.all_eq_true.1 h _ (List.getElem_mem hk))
theorem allDig_bad (l : List UInt8) (k : Nat) (hk : k < l.length) (h : isDigit (l[k].toNat : Int) = false) : allDig l = false := by
  unfold allDig
  rw [List.all_eq_false]
  exact ⟨l[k], List.getElem_mem hk, by simp [h]⟩
theorem allDig_succ (l : List UInt8) (k : Nat) (hk : k < l.length) (h0 : allDig (l.take k) = true) (h : isDigit (l[k].toNat : Int) = true) : allDig (l.take (k + 1)) = true := by
  unfold allDig at *
  rw [List.take_succ_eq_append_getElem hk, List.all_append, h0]
  simp [h]

def RNumPost (s : ByteArray) (w : World) (e : Ending) (w' : World) : Prop := e = .returned (.tuple #[.int .u64 (numOf s.data.toList).1, .int .i64 (numOf s.data.toList).2]) ∧ w = w'
set_option maxRecDepth 100000 in
theorem rnumber_any (s : ByteArray) (hs : s.size ≤ 9223372036854775807) (w : World) : Calls Tryd.prog 20 #[.string s] w (RNumPost s w) := by
  have hl := data_len s
  by_cases h0 : s.data.toList = []
  · have he : s = ⟨#[]⟩ := by cases s with | mk d => cases d with | mk l => cases l <;> simp_all
    subst he
    go_enter Tryd.func20, Tryd.ntmps20
    go_wp2
    go_ret2
    exact ⟨rfl, rfl⟩
  · have g1 := size_pos h0
    have g2 := toList_ne h0
    have HL := Lib.hid hl; clear hl
    have H0 := Lib.hid h0; clear h0
    go_enter Tryd.func20, Tryd.ntmps20
    go_wp2
    go_loopg [11] s.size (fun g i wr => ∃ k : Nat, k ≤ s.size ∧ g = s.size - k ∧ i = .int .i64 k ∧ Hid (allDig (s.data.toList.take k) = true) ∧ w = wr)
    case atStart => exact ⟨0, by omega, rfl, rfl, rfl, rfl⟩
    case round =>
      obtain ⟨k, hk, rfl, rfl, hd, rfl⟩ := hrel
      by_cases hlt : k < s.size
      · have hlt' : k < s.data.toList.length := by rw [HL.out]; exact hlt
        have hdg := rdigit_any (s[k].toNat : Int) w
        rcases Bool.eq_false_or_eq_true (isDigit (s[k].toNat : Int)) with hq | hq
        · rw [hq] at hdg
          have HD := Lib.hid hdg; clear hdg
          have HN := Lib.hid (allDig_succ s.data.toList k hlt' hd.out hq)
          clear hq hd
          go_wp2_with (go_at_call 38; refine HD.out.mono ?_; rintro e w1 ⟨rfl, rfl⟩)
          go_roundg (s.size - (k + 1))
          case measure => omega
          case rel => exact ⟨k + 1, by omega, rfl, by go_num, HN.out, rfl⟩
        · rw [hq] at hdg
          have HD := Lib.hid hdg; clear hdg
          have HN := Lib.hid (allDig_bad s.data.toList k hlt' hq)
          clear hq hd
          go_wp2_with (go_at_call 38; refine HD.out.mono ?_; rintro e w1 ⟨rfl, rfl⟩)
          go_ret2
          refine ⟨ret_num ?_ ?_, rfl⟩ <;> unfold numOf <;> rw [if_pos (.inr HN.out)] <;> rfl
      · obtain rfl : k = s.size := by omega
        have hd' := hd.out
        rw [List.take_of_length_le (by rw [HL.out]; omega)] at hd'
        have HQ := Lib.hid hd'; clear hd' hd
        by_cases h10 : 10 < s.size
        · go_wp2
          go_ret2
          refine ⟨ret_num ?_ ?_, rfl⟩ <;> unfold numOf <;> rw [if_neg (by simp [H0.out, HQ.out]), if_pos (by rw [HL.out]; exact h10)] <;> rfl
        · go_wp2
          go_loopg [5, 25] s.size (fun g n i wr => ∃ k : Nat, k ≤ s.size ∧ g = s.size - k ∧ i = .int .i64 k ∧ n = .int .u64 (numVal (s.data.toList.take k)) ∧ w = wr)
          case atStart => exact ⟨0, by omega, rfl, rfl, rfl, rfl⟩
          case round =>
            obtain ⟨k, hk, rfl, rfl, rfl, rfl⟩ := hrel
            by_cases hlt : k < s.size
            · have hlt' : k < s.data.toList.length := by rw [HL.out]; exact hlt
              have hv := numVal_lt (s.data.toList.take k) (allDig_take _ HQ.out k) (by rw [List.length_take, HL.out]; omega)
              have hdk := allDig_at _ HQ.out k hlt'
              have hst := numVal_take s.data.toList k hlt'
              rw [str_get s k hlt] at hdk hst
              have HST := Lib.hid hst; clear hst
              obtain ⟨hd1, hd2⟩ := hdk
              go_wp2
              go_roundg (s.size - (k + 1))
              case measure => omega
              case rel => exact ⟨k + 1, by omega, rfl, by go_num, congrArg (Value.int .u64) (by rw [HST.out]; omega), rfl⟩
            · obtain rfl : k = s.size := by omega
              have htk : s.data.toList.take s.size = s.data.toList := List.take_of_length_le (by rw [HL.out]; omega)
              rw [htk]
              have HTK := Lib.hid htk; clear htk
              by_cases hm : 4294967295 < numVal s.data.toList
              · have hm' : (4294967295 : Int) < (numVal s.data.toList : Int) := by omega
                go_wp2
                go_ret2
                refine ⟨ret_num ?_ ?_, rfl⟩ <;> unfold numOf <;> rw [if_neg (by simp [H0.out, HQ.out]), if_neg (by rw [HL.out]; exact h10), if_pos hm] <;> rfl
              · have hm' : (numVal s.data.toList : Int) ≤ (4294967295 : Int) := by omega
                go_wp2
                go_ret2
                refine ⟨ret_num ?_ ?_, rfl⟩ <;> unfold numOf <;> rw [if_neg (by simp [H0.out, HQ.out]), if_neg (by rw [HL.out]; exact h10), if_neg hm]

theorem byte_eq {b : UInt8} {n : Nat} (h : ((b.toNat : Int) == (n : Int)) = true) (hn : n < 256) : b = UInt8.ofNat n := by
  have h1 : b.toNat = n := by simp at h; omega
  apply UInt8.toNat_inj.1
  rw [h1]
  simp
  omega
theorem skipTo_congr (l : List UInt8) (i j : Nat) (h : spanEnd isBlank l i = spanEnd isBlank l j) : skipTo l i = skipTo l j := by
  rcases Bool.eq_false_or_eq_true (Lib.hasPrefix (l.drop (spanEnd isBlank l i)) [47, 47]) with hq | hq
  · rw [skipTo_yes l i hq, skipTo_yes l j (by rw [← h]; exact hq), h]
  · rw [skipTo_no l i hq, skipTo_no l j (by rw [← h]; exact hq), h]
theorem skipTo_blank (l : List UInt8) (i : Nat) (h : i < l.length) (hb : isBlank (l[i].toNat : Int) = true) : skipTo l i = skipTo l (i + 1) :=
  skipTo_congr l i (i + 1) (spanEnd_yes isBlank l i h hb)
theorem skipTo_slash (l : List UInt8) (i : Nat) (h : i + 1 < l.length) (h1 : l[i] = 47) (h2 : l[i + 1] = 47) : skipTo l i = skipTo l (spanEnd notNL l i) := by
  have hs := spanEnd_no isBlank l i (by omega) (by rw [h1]; rfl)
  rw [skipTo_yes l i (by rw [hs, List.drop_eq_getElem_cons (by omega), List.drop_eq_getElem_cons h, h1, h2]; rfl), hs]
theorem skipTo_stop (l : List UInt8) (i : Nat) (h : i < l.length) (hb : isBlank (l[i].toNat : Int) = false) (hn : ¬ (l[i] = 47 ∧ ∃ h2 : i + 1 < l.length, l[i + 1] = 47)) : skipTo l i = i := by
  have hs := spanEnd_no isBlank l i h hb
  rw [skipTo_no l i ?_, hs]
  rw [hs, List.drop_eq_getElem_cons h]
  rcases Nat.lt_or_ge (i + 1) l.length with h2 | h2
  · rw [List.drop_eq_getElem_cons h2]
    rw [Bool.eq_false_iff]
    intro h3
    simp only [Lib.hasPrefix, List.isPrefixOf_cons_cons, Bool.and_eq_true, beq_iff_eq] at h3
    exact hn ⟨h3.1.symm, h2, h3.2.1.symm⟩
  · rw [List.drop_eq_nil_of_le h2, Lib.hasPrefix, List.isPrefixOf_cons_cons]
    simp
theorem skipTo_out (l : List UInt8) (i : Nat) (h : l.length ≤ i) : skipTo l i = i := by
  have hs := spanEnd_out isBlank l i h
  rw [skipTo_no l i ?_, hs]
  rw [hs, List.drop_eq_nil_of_le h]
  simp [Lib.hasPrefix]

set_option maxRecDepth 100000 in
theorem rskip_any (s : ByteArray) (hs : s.size ≤ 9223372036854775807) (i : Nat) (hi : i ≤ s.size) (w : World) : Calls Tryd.prog 18 #[.string s, .int .i64 i] w fun e w' => e = .returned (.int .i64 (skipTo s.data.toList i)) ∧ w = w' := by
  have hl := data_len s
  have HL := Lib.hid hl; clear hl
  go_enter Tryd.func18, Tryd.ntmps18
  go_wp2
  go_loopg [1] (s.size - i) (fun g a wr => ∃ k : Nat, k ≤ s.size ∧ g = s.size - k ∧ a = .int .i64 k ∧ Hid (skipTo s.data.toList k = skipTo s.data.toList i) ∧ w = wr)
  case atStart => exact ⟨i, hi, rfl, rfl, rfl, rfl⟩
  case round =>
    obtain ⟨k, hk, rfl, rfl, hsk, rfl⟩ := hrel
    by_cases hlt : k < s.size
    · have hlt' : k < s.data.toList.length := by rw [HL.out]; exact hlt
      have hbl := rblank_any (s[k].toNat : Int) w
      rcases Bool.eq_false_or_eq_true (isBlank (s[k].toNat : Int)) with hq | hq
      · rw [hq] at hbl
        have HB := Lib.hid hbl; clear hbl
        have hst := skipTo_blank s.data.toList k hlt' hq
        have HST := Lib.hid (hst.symm.trans hsk.out); clear hst hq
        go_wp2_with (go_at_call 34; refine HB.out.mono ?_; rintro e w1 ⟨rfl, rfl⟩)
        go_roundg (s.size - (k + 1))
        case measure => omega
        case rel => exact ⟨k + 1, by omega, rfl, by go_num, HST.out, rfl⟩
      · rw [hq] at hbl
        have HB := Lib.hid hbl; clear hbl
        rcases Bool.eq_false_or_eq_true ((s[k].toNat : Int) == 47) with h1 | h1
        · by_cases hlt2 : k + 1 < s.size
          · have hlt2' : k + 1 < s.data.toList.length := by rw [HL.out]; exact hlt2
            rcases Bool.eq_false_or_eq_true ((s[k + 1].toNat : Int) == 47) with h2 | h2
            · have hst := skipTo_slash s.data.toList k hlt2' (byte_eq h1 (by decide)) (byte_eq h2 (by decide))
              have HST := Lib.hid (hst.symm.trans hsk.out); clear hst hq
              have hne := spanEnd_le notNL s.data.toList k (by omega)
              rw [HL.out] at hne
              obtain ⟨hne1, hne2⟩ := hne
              have hne3 : k + 1 ≤ spanEnd notNL s.data.toList k := by
                rw [spanEnd_yes notNL s.data.toList k hlt' (by rw [str_get s k hlt, byte_eq h1 (by decide)]; rfl)]
                exact spanEnd_ge _ _ _
              go_wp2_with (go_at_call 34; refine HB.out.mono ?_; rintro e w1 ⟨rfl, rfl⟩)
              go_loopg [1] (s.size - k) (fun g a wr => ∃ q : Nat, q ≤ s.size ∧ g = s.size - q ∧ a = .int .i64 q ∧ Hid (spanEnd notNL s.data.toList q = spanEnd notNL s.data.toList k) ∧ w = wr)
              case atStart => exact ⟨k, hk, rfl, rfl, rfl, rfl⟩
              case round =>
                obtain ⟨q, hq, rfl, rfl, hsq, rfl⟩ := hrel
                by_cases hql : q < s.size
                · have hql' : q < s.data.toList.length := by rw [HL.out]; exact hql
                  rcases Bool.eq_false_or_eq_true ((s[q].toNat : Int) == 10) with hnl | hnl
                  · have hst := spanEnd_no notNL s.data.toList q hql' (by rw [str_get s q hql]; simp [notNL]; simpa using hnl)
                    have HE := Lib.hid (hst.symm.trans hsq.out); clear hst hsq
                    go_wp2
                    go_roundg (s.size - q)
                    case measure => have := HE.out; omega
                    case rel => exact ⟨q, hq, rfl, rfl, by rw [HE.out]; exact HST.out, rfl⟩
                  · have hst := spanEnd_yes notNL s.data.toList q hql' (by rw [str_get s q hql]; simp [notNL]; simpa using hnl)
                    have HE := Lib.hid (hst.symm.trans hsq.out); clear hst hsq
                    go_wp2
                    go_roundg (s.size - (q + 1))
                    case measure => omega
                    case rel => exact ⟨q + 1, by omega, rfl, by go_num, HE.out, rfl⟩
                · obtain rfl : q = s.size := by omega
                  have hst := spanEnd_out notNL s.data.toList s.size (by rw [HL.out]; omega)
                  have HE := Lib.hid (hst.symm.trans hsq.out); clear hst hsq
                  go_wp2
                  go_roundg (s.size - s.size)
                  case measure => omega
                  case rel => exact ⟨s.size, by omega, rfl, rfl, by rw [HE.out]; exact HST.out, rfl⟩
            · have hst := skipTo_stop s.data.toList k hlt' hq (fun h => by
                obtain ⟨_, h3, h4⟩ := h
                simp at h2
                exact h2 (by rw [← str_get s (k + 1) hlt2, h4]; rfl))
              have HST := Lib.hid (hst.symm.trans hsk.out); clear hst hq
              go_wp2_with (go_at_call 34; refine HB.out.mono ?_; rintro e w1 ⟨rfl, rfl⟩)
              go_ret
              exact ⟨ret_i (by rw [HST.out]), rfl⟩
          · have hst := skipTo_stop s.data.toList k hlt' hq (fun h => by
              obtain ⟨_, h3, h4⟩ := h
              rw [HL.out] at h3; omega)
            have HST := Lib.hid (hst.symm.trans hsk.out); clear hst hq
            go_wp2_with (go_at_call 34; refine HB.out.mono ?_; rintro e w1 ⟨rfl, rfl⟩)
            go_ret
            exact ⟨ret_i (by rw [HST.out]), rfl⟩
        · have hst := skipTo_stop s.data.toList k hlt' hq (fun h => by
            obtain ⟨h3, _⟩ := h
            simp at h1
            exact h1 (by rw [← str_get s k hlt, h3]; rfl))
          have HST := Lib.hid (hst.symm.trans hsk.out); clear hst hq
          go_wp2_with (go_at_call 34; refine HB.out.mono ?_; rintro e w1 ⟨rfl, rfl⟩)
          go_ret
          exact ⟨ret_i (by rw [HST.out]), rfl⟩
    · obtain rfl : k = s.size := by omega
      have hst := skipTo_out s.data.toList s.size (by rw [HL.out]; omega)
      have HST := Lib.hid (hst.symm.trans hsk.out); clear hst
      go_wp2
      go_ret
      exact ⟨ret_i (by rw [HST.out]), rfl⟩
end Go.Proofs.YtaccooeodimdaaaDoor
