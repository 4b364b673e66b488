/- Contracts of the reference's Rising and Exit. -/
import Derived.Test.YtmnbgamnbgdnnaaGreatDoorCirB
namespace Go.Proofs.YtmnbgamnbgdnnaaGreatDoor
open Go.RowKit

theorem add_pos (ad : Addr) (j : Nat) (h : 0 < j) : ad.add j = ⟨ad.block, ad.off + j, none⟩ := by
  unfold Addr.add
  rw [if_neg (by omega)]
theorem add_nil (ad : Addr) : ad.add 0 = ad := by simp [Addr.add]
set_option maxHeartbeats 1000000 in
set_option maxRecDepth 100000 in
theorem rising_any (l : List Int) (hl : l.length ≤ 9223372036854775807) (A : Option Addr) (c : Nat) (w : World) (hR : Reads w A (iCells l)) : Calls Tryz.prog 80 #[.int .i64 13, .slice A l.length c] w (BRet (risingFrom 0 l) w) := by
  have HR := Lib.hid hR; clear hR
  go_enter Tryz.func80, Tryz.ntmps80
  go_wp2
  go_loopg [9] l.length (fun g v wr => ∃ (k : Nat) (last : Int), k ≤ l.length ∧ g = l.length - k ∧ v = .int .i64 k ∧ ((k = 0 ∧ last = 0) ∨ ∃ m, ∃ hm : m < l.length, k = m + 1 ∧ last = l[m] ∧ 1 ≤ last) ∧ Hid (risingFrom last (l.drop k) = risingFrom 0 l) ∧ w = wr)
  case atStart => exact ⟨0, 0, by omega, rfl, rfl, .inl ⟨rfl, rfl⟩, rfl, rfl⟩
  case round =>
    obtain ⟨k, last, hk, rfl, rfl, hor, hd, rfl⟩ := hrel
    by_cases hlt : k < l.length
    · obtain ⟨ad, rfl, q0⟩ := HR.out.i k hlt
      have hst := rising_drop hlt last
      have HST := Lib.hid (hst.symm.trans hd.out); clear hst hd
      by_cases g0 : l[k] < 1
      · have HN : Hid (risingFrom 0 l = false) := Lib.hid (by rw [← HST.out]; rcases hor with ⟨_, rfl⟩ | ⟨m, hm, _, _, hl1⟩ <;> simp <;> omega)
        clear hor
        go_wp2
        go_ret
        exact ⟨ret_bl HN.out.symm, rfl⟩
      have g0' : 1 ≤ l[k] := by omega
      by_cases g2 : l[k] ≤ 13
      · rcases hor with ⟨rfl, rfl⟩ | ⟨m, hm, rfl, rfl, hl1⟩
        · have HN : Hid (risingFrom l[0] (l.drop (0 + 1)) = risingFrom 0 l) := Lib.hid (by have h := HST.out; rw [← h]; simp [g2]; omega)
          rw [add_nil] at q0
          go_wp2
          go_roundg (l.length - (0 + 1))
          case measure => omega
          case rel => exact ⟨0 + 1, l[0], by omega, rfl, by go_num, .inr ⟨0, hlt, rfl, rfl, g0'⟩, HN.out, rfl⟩
        · have r0 := HR.out.some_i m hm
          rw [add_pos _ _ (by omega)] at q0
          have hw : IntKind.i64.wrap ((m : Int) + 1 - 1) = (m : Int) := by rw [IntWalk.i64_in _ (by omega)]; omega
          by_cases g1 : l[m] < l[m + 1]
          · have HN : Hid (risingFrom l[m + 1] (l.drop (m + 1 + 1)) = risingFrom 0 l) := Lib.hid (by have h := HST.out; rw [← h]; simp [g2, g1])
            go_wp2
            go_roundg (l.length - (m + 1 + 1))
            case measure => omega
            case rel => exact ⟨m + 1 + 1, l[m + 1], by omega, rfl, by go_num, .inr ⟨m + 1, hlt, rfl, rfl, g0'⟩, HN.out, rfl⟩
          · have g1' : l[m + 1] ≤ l[m] := by omega
            have HN : Hid (risingFrom 0 l = false) := Lib.hid (by rw [← HST.out]; simp [g1])
            go_wp2
            go_ret
            exact ⟨ret_bl HN.out.symm, rfl⟩
      · have g2' : 13 < l[k] := by omega
        have HN : Hid (risingFrom 0 l = false) := Lib.hid (by rw [← HST.out]; simp [g2])
        clear hor
        go_wp2
        go_ret
        exact ⟨ret_bl HN.out.symm, rfl⟩
    · obtain rfl : k = l.length := by omega
      have HN := Lib.hid ((rising_end last).symm.trans hd.out).symm; clear hd hor
      go_wp2
      go_ret
      exact ⟨ret_bl HN.out.symm, rfl⟩
set_option maxHeartbeats 1000000 in
set_option maxRecDepth 100000 in
theorem rexit_any (gates : Int) (tl gs : List Int) (A B : Option Addr) (c d : Nat) (h1 : tl.length ≤ 9223372036854775807) (h2 : gs.length ≤ 9223372036854775807) (w : World) (hA : Reads w A (iCells tl)) (hB : Reads w B (iCells gs)) :
    Calls Tryz.prog 41 #[.int .i64 gates, .agg #[.slice A tl.length c, .slice B gs.length d]] w (GatePost (exitErr gates tl gs) w) := by
  have hb0 : Below w.heap.size w (w.alloc (.cells #[.slice A tl.length c, .slice B gs.length d] 72)) := (Below.refl _ _).alloc (Nat.le_refl _) _
  have hri := rising_any tl h1 A c _ (hA.below hb0)
  have HB := Lib.hid (hB.below hb0)
  have HB0 := Lib.hid hb0
  clear hA hB hb0
  rcases Bool.eq_false_or_eq_true (risingFrom 0 tl) with hq | hq
  · rw [hq] at hri
    have HRI := Lib.hid hri; clear hri
    have HQ := Lib.hid hq; clear hq
    by_cases g3 : 1024 < gs.length
    · go_enter Tryz.func41, Tryz.ntmps41
      go_wp2_with (go_at_call 80; refine HRI.out.mono ?_; rintro e w' ⟨rfl, rfl⟩)
      go_ret
      exact ⟨ret_e (by unfold exitErr; rw [if_neg (by rw [HQ.out]; simp), if_pos g3]), HB0.out⟩
    · go_enter Tryz.func41, Tryz.ntmps41
      go_wp2_with (go_at_call 80; refine HRI.out.mono ?_; rintro e w' ⟨rfl, rfl⟩)
      go_loopg [18] gs.length (fun g v wr => ∃ k : Nat, k ≤ gs.length ∧ g = gs.length - k ∧ v = .int .i64 k ∧ Hid ((gs.take k).any (outside gates) = false) ∧ (w.alloc (.cells #[.slice A tl.length c, .slice B gs.length d] 72)) = wr)
      case atStart => exact ⟨0, by omega, rfl, rfl, rfl, rfl⟩
      case round =>
        obtain ⟨k, hk, rfl, rfl, hd, rfl⟩ := hrel
        by_cases hlt : k < gs.length
        · obtain ⟨ad, rfl, q0⟩ := HB.out.i k hlt
          by_cases g1 : gs[k] < 0
          · have HN := Lib.hid (any_at (q := outside gates) hlt (by simp [outside, g1])); clear hd
            go_wp2
            go_ret
            exact ⟨ret_e (by unfold exitErr; rw [if_neg (by rw [HQ.out]; simp), if_neg g3, if_pos HN.out]), HB0.out⟩
          have g1' : 0 ≤ gs[k] := by omega
          by_cases g2 : gates ≤ gs[k]
          · have HN := Lib.hid (any_at (q := outside gates) hlt (by simp [outside, g2])); clear hd
            go_wp2
            go_ret
            exact ⟨ret_e (by unfold exitErr; rw [if_neg (by rw [HQ.out]; simp), if_neg g3, if_pos HN.out]), HB0.out⟩
          · have g2' : gs[k] < gates := by omega
            have HN := Lib.hid (any_succ (q := outside gates) hlt hd.out (by simp [outside]; omega)); clear hd
            go_wp2
            go_roundg (gs.length - (k + 1))
            case measure => omega
            case rel => exact ⟨k + 1, by omega, rfl, by go_num, HN.out, rfl⟩
        · obtain rfl : k = gs.length := by omega
          have h := hd.out
          rw [List.take_length] at h
          have HN := Lib.hid h; clear h hd
          go_wp2
          go_ret
          exact ⟨ret_e (by unfold exitErr; rw [if_neg (by rw [HQ.out]; simp), if_neg g3, if_neg (by rw [HN.out]; simp)]), HB0.out⟩
  · rw [hq] at hri
    have HRI := Lib.hid hri; clear hri
    have HQ := Lib.hid hq; clear hq
    go_enter Tryz.func41, Tryz.ntmps41
    go_wp2_with (go_at_call 80; refine HRI.out.mono ?_; rintro e w' ⟨rfl, rfl⟩)
    go_ret
    exact ⟨ret_e (by unfold exitErr; rw [if_pos HQ.out]), HB0.out⟩
end Go.Proofs.YtmnbgamnbgdnnaaGreatDoor
