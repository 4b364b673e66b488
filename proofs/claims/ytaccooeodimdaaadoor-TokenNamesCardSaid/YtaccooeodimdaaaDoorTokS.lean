/- Contracts of the reference's IsName, among and Check. -/
import Derived.Test.YtaccooeodimdaaaDoorTokQ
import Derived.Deep.RegionWith
namespace Go.Proofs.YtaccooeodimdaaaDoor
open Go.RowKit

theorem within_take (l : List UInt8) (k : Nat) (hk : k < l.length) (h0 : (l.take k).all (fun c => isWithin (c.toNat : Int)) = true) (h : isWithin (l[k].toNat : Int) = true) : (l.take (k + 1)).all (fun c => isWithin (c.toNat : Int)) = true := by
  rw [List.take_succ_eq_append_getElem hk, List.all_append, h0]
  simp [h]
theorem within_bad (l : List UInt8) (k : Nat) (hk : k < l.length) (h : isWithin (l[k].toNat : Int) = false) : l.all (fun c => isWithin (c.toNat : Int)) = false := by
  rw [List.all_eq_false]
  exact ⟨l[k], List.getElem_mem hk, by simp [h]⟩
def RBPost (b : Bool) (w : World) (e : Ending) (w' : World) : Prop := e = .returned (.bool b) ∧ w = w'
set_option maxRecDepth 100000 in
theorem risName_any (s : ByteArray) (hs : s.size ≤ 9223372036854775807) (w : World) : Calls Tryd.prog 24 #[.string s] w (RBPost (isNameL s.data.toList) w) := by
  have hl := data_len s
  by_cases h0 : s.data.toList = []
  · have he : s = ⟨#[]⟩ := by cases s with | mk d => cases d with | mk l => cases l <;> simp_all
    subst he
    go_enter Tryd.func24, Tryd.ntmps24
    go_wp2
    go_ret
    exact ⟨rfl, rfl⟩
  · have g1 := size_pos h0
    have g2 := toList_ne h0
    have g3 : 0 < s.size := Nat.pos_of_ne_zero fun h => h0 (List.eq_nil_of_length_eq_zero (hl.trans h))
    have HL := Lib.hid hl; clear hl
    have H0 := Lib.hid h0; clear h0
    by_cases h24 : 24 < s.size
    · go_enter Tryd.func24, Tryd.ntmps24
      go_wp2
      go_ret
      refine ⟨ret_b ?_, rfl⟩
      unfold isNameL
      rw [HL.out]
      simp; omega
    · have hg := getD_zero g3
      have HG := Lib.hid hg; clear hg
      have hlet := fun W => rletter_any (s[0].toNat : Int) W
      rcases Bool.eq_false_or_eq_true (isLetter (s[0].toNat : Int)) with hq | hq
      · rw [hq] at hlet
        have HT := Lib.hid hlet; clear hlet
        have HQ := Lib.hid hq; clear hq
        go_enter Tryd.func24, Tryd.ntmps24
        go_wp2_with (go_at_call 42; refine (HT.out _).mono ?_; rintro e w1 ⟨rfl, rfl⟩)
        go_loopg [19] s.size (fun g i wr => ∃ k : Nat, k ≤ s.size ∧ g = s.size - k ∧ i = .int .i64 k ∧ Hid ((s.data.toList.take k).all (fun c => isWithin (c.toNat : Int)) = true) ∧ w = wr)
        case atStart => exact ⟨0, by omega, rfl, rfl, rfl, rfl⟩
        case round =>
          obtain ⟨k, hk, rfl, rfl, hd, rfl⟩ := hrel
          by_cases hlt : k < s.size
          · have hlt' : k < s.data.toList.length := by rw [HL.out]; exact hlt
            have hlk := fun W => rletter_any (s[k].toNat : Int) W
            have hdk := fun W => rdigit_any (s[k].toNat : Int) W
            have hw0 : isWithin (s[k].toNat : Int) = (isLetter (s[k].toNat : Int) || isDigit (s[k].toNat : Int) || ((s[k].toNat : Int) == 95)) := rfl
            rcases Bool.eq_false_or_eq_true (isLetter (s[k].toNat : Int)) with hq1 | hq1
            · rw [hq1] at hlk hw0
              have HK := Lib.hid hlk; clear hlk hdk
              have HN := Lib.hid (within_take s.data.toList k hlt' hd.out (hw0.trans rfl))
              clear hq1 hd hw0
              go_wp2_with (go_at_call 42; refine (HK.out _).mono ?_; rintro e w1 ⟨rfl, rfl⟩)
              go_roundg (s.size - (k + 1))
              case measure => omega
              case rel => exact ⟨k + 1, by omega, rfl, by go_num, HN.out, rfl⟩
            rcases Bool.eq_false_or_eq_true (isDigit (s[k].toNat : Int)) with hq2 | hq2
            · rw [hq1] at hlk hw0
              rw [hq2] at hdk hw0
              have HK := Lib.hid hlk; clear hlk
              have HD := Lib.hid hdk; clear hdk
              have HN := Lib.hid (within_take s.data.toList k hlt' hd.out (hw0.trans rfl))
              clear hq1 hq2 hd hw0
              go_wp2_with (first | (go_at_call 42; refine (HK.out _).mono ?_; rintro e w1 ⟨rfl, rfl⟩) | (go_at_call 38; refine (HD.out _).mono ?_; rintro e w1 ⟨rfl, rfl⟩))
              go_roundg (s.size - (k + 1))
              case measure => omega
              case rel => exact ⟨k + 1, by omega, rfl, by go_num, HN.out, rfl⟩
            rcases Bool.eq_false_or_eq_true ((s[k].toNat : Int) == 95) with hq3 | hq3
            · rw [hq1] at hlk hw0
              rw [hq2] at hdk hw0
              have HK := Lib.hid hlk; clear hlk
              have HD := Lib.hid hdk; clear hdk
              have HN := Lib.hid (within_take s.data.toList k hlt' hd.out (hw0.trans (by rw [hq3]; rfl)))
              clear hq1 hq2 hd hw0
              go_wp2_with (first | (go_at_call 42; refine (HK.out _).mono ?_; rintro e w1 ⟨rfl, rfl⟩) | (go_at_call 38; refine (HD.out _).mono ?_; rintro e w1 ⟨rfl, rfl⟩))
              go_roundg (s.size - (k + 1))
              case measure => omega
              case rel => exact ⟨k + 1, by omega, rfl, by go_num, HN.out, rfl⟩
            · rw [hq1] at hlk hw0
              rw [hq2] at hdk hw0
              have HK := Lib.hid hlk; clear hlk
              have HD := Lib.hid hdk; clear hdk
              have HN := Lib.hid (within_bad s.data.toList k hlt' (hw0.trans (by rw [hq3]; rfl)))
              clear hq1 hq2 hd hw0
              go_wp2_with (first | (go_at_call 42; refine (HK.out _).mono ?_; rintro e w1 ⟨rfl, rfl⟩) | (go_at_call 38; refine (HD.out _).mono ?_; rintro e w1 ⟨rfl, rfl⟩))
              go_ret
              refine ⟨ret_b ?_, rfl⟩
              unfold isNameL
              rw [HN.out, Bool.and_false]
          · obtain rfl : k = s.size := by omega
            have hd' := hd.out
            rw [List.take_of_length_le (by rw [HL.out]; omega)] at hd'
            have HD := Lib.hid hd'; clear hd hd'
            go_wp2
            go_ret
            refine ⟨ret_b ?_, rfl⟩
            unfold isNameL
            rw [HL.out, HG.out, HQ.out, HD.out]
            simp; omega
      · rw [hq] at hlet
        have HT := Lib.hid hlet; clear hlet
        have HQ := Lib.hid hq; clear hq
        go_enter Tryd.func24, Tryd.ntmps24
        go_wp2_with (go_at_call 42; refine (HT.out _).mono ?_; rintro e w1 ⟨rfl, rfl⟩)
        go_ret
        refine ⟨ret_b ?_, rfl⟩
        unfold isNameL
        rw [HG.out, HQ.out]
        simp

def inL (L : List ByteArray) (x : ByteArray) : Bool := L.any fun y => y.toList == x.toList
set_option maxRecDepth 100000 in
theorem among_any (L : List ByteArray) (hn : L.length ≤ 1000) (x : ByteArray) (b c : Nat) (w : World) (hc : ∀ k, (h : k < L.length) → w.cell? ⟨b, k, none⟩ = some (.string L[k])) :
    Calls Tryd.prog 32 #[.slice (some ⟨b, 0, none⟩) L.length c, .string x] w (RBPost (inL L x) w) := by
  have HC := Lib.hid hc; clear hc
  go_enter Tryd.func32, Tryd.ntmps32
  go_wp2
  go_loopg [9] L.length (fun g i wr => ∃ k : Nat, k ≤ L.length ∧ g = L.length - k ∧ i = .int .i64 k ∧ Hid (inL (L.take k) x = false) ∧ w = wr)
  case atStart => exact ⟨0, by omega, rfl, rfl, rfl, rfl⟩
  case round =>
    obtain ⟨k, hk, rfl, rfl, hd, rfl⟩ := hrel
    by_cases hlt : k < L.length
    · have q0 := HC.out k hlt
      rcases Bool.eq_false_or_eq_true (L[k].toList == x.toList) with hq | hq
      · have hin : inL L x = true := List.any_eq_true.2 ⟨L[k], List.getElem_mem hlt, hq⟩
        have HI := Lib.hid hin; clear hin hd
        go_wp2
        go_ret
        exact ⟨ret_b HI.out.symm, rfl⟩
      · have hst : inL (L.take (k + 1)) x = false := by
          unfold inL
          rw [List.take_succ_eq_append_getElem hlt, List.any_append]
          have := hd.out
          unfold inL at this
          rw [this]
          simp [hq]
        have HI := Lib.hid hst; clear hst hd
        go_wp2
        go_roundg (L.length - (k + 1))
        case measure => omega
        case rel => exact ⟨k + 1, by omega, rfl, by go_num, HI.out, rfl⟩
    · obtain rfl : k = L.length := by omega
      have hin := hd.out
      rw [List.take_length] at hin
      have HI := Lib.hid hin; clear hin hd
      go_wp2
      go_ret
      exact ⟨ret_b HI.out.symm, rfl⟩

theorem rsigns_map : rsigns = ⟨#[61, 61]⟩ :: signs1.map fun b => ⟨#[b]⟩ := rfl
theorem any_one (l : List UInt8) : ((signs1.map fun b => (⟨#[b]⟩ : ByteArray)).any fun y => y.data.toList == l) = true ↔ ∃ b ∈ signs1, [b] = l := by
  rw [List.any_eq_true]
  constructor
  · rintro ⟨y, hy, h⟩
    obtain ⟨b, hb, rfl⟩ := List.mem_map.1 hy
    exact ⟨b, hb, by simpa using h⟩
  · rintro ⟨b, hb, h⟩
    exact ⟨_, List.mem_map.2 ⟨b, hb, rfl⟩, by simpa using h⟩
theorem signs_ok (x : ByteArray) : inL rsigns x = okTok 3 x.data.toList := by
  have h : ∀ l : List UInt8, (rsigns.any fun y => y.data.toList == l) = okTok 3 l := by
    intro l
    rw [Bool.eq_iff_iff, rsigns_map, List.any_cons, Bool.or_eq_true, any_one]
    match l with
    | [] => simp [okTok]
    | [b] =>
      have h1 : okTok 3 [b] = isSign (b.toNat : Int) := by simp [okTok]
      rw [h1, isSign_mem]
      simp
    | a :: b :: r =>
      have h1 : okTok 3 (a :: b :: r) = ((a :: b :: r) == [61, 61]) := by
        unfold okTok
        rw [if_neg (by decide), if_neg (by decide), if_pos rfl, show decide ((a :: b :: r).length = 1) = false by simp, Bool.false_and, Bool.or_false]
      rw [h1, beq_iff_eq, beq_iff_eq]
      constructor
      · rintro (h | ⟨b, _, h⟩)
        · exact h.symm
        · simp at h
      · exact fun h => .inl h.symm
  unfold inL
  rw [← h]
  simp only [ByteArray.toList_eq]
theorem signs_cells (w : World) (k : Nat) (h : k < rsigns.length) : (w.alloc (.cells signCells 9)).cell? ⟨w.heap.size, k, none⟩ = some (.string rsigns[k]) := by
  rw [cell_of_row _ _ k _ _ _ (heap_alloc_new w _)]
  simp [signCells, List.getElem?_eq_getElem h]

set_option maxRecDepth 100000 in
theorem rcheck_name (s : ByteArray) (hs : s.size ≤ 9223372036854775807) (a : Int) (w : World) : Calls Tryd.prog 17 #[.agg #[.int .i64 1, .string s, .int .i64 a]] w (ChkPost 1 s a w) := by
  have hk := fun W => risName_any s (by omega) W
  rcases Bool.eq_false_or_eq_true (isNameL s.data.toList) with hq | hq
  all_goals
    rw [hq] at hk
    have HK := Lib.hid hk; clear hk
    have ho : okTok 1 s.data.toList = isNameL s.data.toList := rfl
    rw [hq] at ho
    have HO := Lib.hid ho; clear ho hq hs
    by_cases h0 : a < 0
    all_goals
      go_enter Tryd.func17, Tryd.ntmps17
      go_wp2_with (go_at_call 24; refine (HK.out _).mono ?_; rintro e w1 ⟨rfl, rfl⟩)
      go_ret
      refine ⟨ret_i ?_, (Below.refl _ _).alloc (Nat.le_refl _) _⟩
      first | exact chk_bad (.inl HO.out) | exact chk_bad (.inr h0) | exact chk_good HO.out (by omega)
set_option maxRecDepth 100000 in
theorem rcheck_number (s : ByteArray) (hs : s.size ≤ 9223372036854775807) (a : Int) (w : World) : Calls Tryd.prog 17 #[.agg #[.int .i64 2, .string s, .int .i64 a]] w (ChkPost 2 s a w) := by
  have hk := fun W => rnumber_any s hs W
  have HK := Lib.hid hk; clear hk
  rcases Bool.eq_false_or_eq_true ((numOf s.data.toList).2 == 0) with hq | hq
  all_goals
    have ho : okTok 2 s.data.toList = ((numOf s.data.toList).2 == 0) := by rw [Bool.eq_iff_iff]; simp [okTok]
    have HO := Lib.hid (ho.trans hq); clear ho hs
    by_cases h0 : a < 0
    all_goals
      go_enter Tryd.func17, Tryd.ntmps17
      go_wp2_with (go_at_call 20; refine (HK.out _).mono ?_; rintro e w1 ⟨rfl, rfl⟩)
      go_ret
      refine ⟨ret_i ?_, (Below.refl _ _).alloc (Nat.le_refl _) _⟩
      first | exact chk_bad (.inl HO.out) | exact chk_bad (.inr h0) | exact chk_good HO.out (by omega)
set_option maxRecDepth 100000 in
theorem rcheck_else (k : Int) (h1 : (k == 1) = false) (h2 : (k == 2) = false) (h3 : (k == 3) = false) (s : ByteArray) (a : Int) (w : World) : Calls Tryd.prog 17 #[.agg #[.int .i64 k, .string s, .int .i64 a]] w (ChkPost k s a w) := by
  go_enter Tryd.func17, Tryd.ntmps17
  go_wp2
  go_ret
  exact ⟨ret_i (chk_bad (.inl (by simp at h1 h2 h3; simp [okTok, h1, h2, h3]))), (Below.refl _ _).alloc (Nat.le_refl _) _⟩
set_option maxHeartbeats 1000000 in
set_option maxRecDepth 100000 in
theorem rcheck_sign (s : ByteArray) (a : Int) (w : World) : Calls Tryd.prog 17 #[.agg #[.int .i64 3, .string s, .int .i64 a]] w (ChkPost 3 s a w) := by
  have hsig := rsigns_any
  have HSIG := Lib.hid hsig; clear hsig
  have ham := among_any rsigns (by decide) s (w.heap.size + 1) 19 ((w.alloc (.cells #[.int .i64 3, .string s, .int .i64 a] 32)).alloc (.cells signCells 9)).drew (by have := signs_cells (w.alloc (.cells #[.int .i64 3, .string s, .int .i64 a] 32)); simpa using this)
  rw [signs_ok, show rsigns.length = 19 from rfl] at ham
  rcases Bool.eq_false_or_eq_true (okTok 3 s.data.toList) with hq | hq
  all_goals
    rw [hq] at ham
    have HAM := Lib.hid ham; clear ham
    have HO := Lib.hid hq; clear hq
    by_cases h0 : a < 0
    all_goals
      go_enter Tryd.func17, Tryd.ntmps17
      go_wp2
      go_region_with (first | (go_at_call 33; refine (HSIG.out _).mono ?_; rintro e w1 ⟨rfl, rfl⟩) | (go_at_call 32; refine HAM.out.mono ?_; rintro e w1 ⟨rfl, rfl⟩))
      all_goals go_wp2
      all_goals go_ret
      all_goals refine ⟨ret_i ?_, ?_⟩
      all_goals first | exact below_drewN (((Below.refl _ _).alloc (Nat.le_refl _) _).alloc (by simp) _) _ | exact ((Below.refl _ _).alloc (Nat.le_refl _) _).alloc (by simp) _ | exact Below.drew (((Below.refl _ _).alloc (Nat.le_refl _) _).alloc (by simp) _) | exact chk_bad (.inl HO.out) | exact chk_bad (.inr h0) | exact chk_good HO.out (by omega)
theorem rcheck_any (k : Int) (s : ByteArray) (hs : s.size ≤ 9223372036854775807) (a : Int) (w : World) : Calls Tryd.prog 17 #[.agg #[.int .i64 k, .string s, .int .i64 a]] w (ChkPost k s a w) := by
  rcases Bool.eq_false_or_eq_true (k == 1) with h1 | h1
  · obtain rfl : k = 1 := by simpa using h1
    exact rcheck_name s hs a w
  rcases Bool.eq_false_or_eq_true (k == 2) with h2 | h2
  · obtain rfl : k = 2 := by simpa using h2
    exact rcheck_number s hs a w
  rcases Bool.eq_false_or_eq_true (k == 3) with h3 | h3
  · obtain rfl : k = 3 := by simpa using h3
    exact rcheck_sign s a w
  exact rcheck_else k h1 h2 h3 s a w
end Go.Proofs.YtaccooeodimdaaaDoor
