/- Contracts of the reference's Setup and Fits. -/
import Derived.Test.YtmnbgamnbgdnnaaGreatDoorFtB
namespace Go.Proofs.YtmnbgamnbgdnnaaGreatDoor
open Go.RowKit

section
variable (p : Nat) (hp : p < 18446744073709551616) (N T : Int) (w : World)
include hp
set_option maxHeartbeats 2000000 in
set_option maxRecDepth 100000 in
theorem rsetup_any : Calls Tryz.prog 75 #[.agg #[.int .u64 p, .int .i64 N, .int .i64 T]] w (GatePost (if badSetup p N T then 2 else 0) w) := by
  have HB0 := Lib.hid (((Below.refl w.heap.size w).alloc (Nat.le_refl _) (.cells #[.int .u64 p, .int .i64 N, .int .i64 T] 58)))
  have his := rIs_any p hp
  by_cases h1 : isP p = false
  · rw [if_pos (.inl h1)]
    rw [h1] at his
    have HIS := Lib.hid his; clear his h1
    go_enter Tryz.func75, Tryz.ntmps75
    go_wp2_with (go_at_call 39; refine (HIS.out _).mono ?_; rintro e w1 ⟨rfl, rfl⟩)
    go_ret
    exact ⟨rfl, HB0.out⟩
  have h1' : isP p = true := by simpa using h1
  rw [h1'] at his
  have HIS := Lib.hid his
  obtain ⟨p3, pm, _⟩ := (isP_iff p).1 h1'
  clear his h1'

  by_cases h2 : N < 1
  · rw [if_pos (by unfold badSetup; omega)]
    clear h1
    go_enter Tryz.func75, Tryz.ntmps75
    go_wp2_with (go_at_call 39; refine (HIS.out _).mono ?_; rintro e w1 ⟨rfl, rfl⟩)
    go_ret
    exact ⟨rfl, HB0.out⟩
  have i2 : 1 ≤ N := by omega
  by_cases h3 : 13 < N
  · rw [if_pos (by unfold badSetup; omega)]
    clear h1 h2
    go_enter Tryz.func75, Tryz.ntmps75
    go_wp2_with (go_at_call 39; refine (HIS.out _).mono ?_; rintro e w1 ⟨rfl, rfl⟩)
    go_ret
    exact ⟨rfl, HB0.out⟩
  have i3 : N ≤ 13 := by omega
  by_cases h4 : T < 0
  · rw [if_pos (by unfold badSetup; omega)]
    clear h1 h2 h3
    go_enter Tryz.func75, Tryz.ntmps75
    go_wp2_with (go_at_call 39; refine (HIS.out _).mono ?_; rintro e w1 ⟨rfl, rfl⟩)
    go_ret
    exact ⟨rfl, HB0.out⟩
  have i4 : 0 ≤ T := by omega
  by_cases h5 : 13 < T
  · rw [if_pos (by unfold badSetup; omega)]
    clear h1 h2 h3 h4
    go_enter Tryz.func75, Tryz.ntmps75
    go_wp2_with (go_at_call 39; refine (HIS.out _).mono ?_; rintro e w1 ⟨rfl, rfl⟩)
    go_ret
    exact ⟨rfl, HB0.out⟩
  have i5 : T ≤ 13 := by omega
  by_cases h6 : N < 4 * T + 1
  · rw [if_pos (by unfold badSetup; omega)]
    clear h1 h2 h3 h4 h5
    go_enter Tryz.func75, Tryz.ntmps75
    go_wp2_with (go_at_call 39; refine (HIS.out _).mono ?_; rintro e w1 ⟨rfl, rfl⟩)
    go_ret
    exact ⟨rfl, HB0.out⟩
  have i6 : 4 * T + 1 ≤ N := by omega
  have hw : IntKind.u64.wrap N = N := IntWalk.u64_in _ (by omega)
  by_cases h7 : (p : Int) ≤ N
  · rw [if_pos (by unfold badSetup; omega)]
    clear h1 h2 h3 h4 h5 h6
    go_enter Tryz.func75, Tryz.ntmps75
    go_wp2_with (go_at_call 39; refine (HIS.out _).mono ?_; rintro e w1 ⟨rfl, rfl⟩)
    go_ret
    exact ⟨rfl, HB0.out⟩
  have i7 : N < (p : Int) := by omega
  rw [if_neg (by unfold badSetup; rintro (h | h | h | h | h | h); exact h1 h; all_goals omega)]
  clear h1 h2 h3 h4 h5 h6 h7
  go_enter Tryz.func75, Tryz.ntmps75
  go_wp2_with (go_at_call 39; refine (HIS.out _).mono ?_; rintro e w1 ⟨rfl, rfl⟩)
  go_ret
  exact ⟨rfl, HB0.out⟩
end
section
variable (p : Nat) (hp : p < 18446744073709551616) (N T : Int) (C : Cir) (w : World)
include hp
set_option maxHeartbeats 2000000 in
set_option maxRecDepth 100000 in
theorem rfits_set (hbad : badSetup p N T) : Calls Tryz.prog 30 #[.agg #[.int .u64 p, .int .i64 N, .int .i64 T], .agg #[.slice C.SA C.slots.length C.sc, .slice C.GA C.gates.length C.gc, .slice C.EA C.exits.length C.ec]] w (GatePost 2 w) := by
  have hst := rsetup_any p hp N T
  rw [if_pos hbad] at hst
  have HST := Lib.hid hst; clear hst hbad
  go_enter Tryz.func30, Tryz.ntmps30
  go_wp2_with (go_at_call 75; refine (HST.out _).mono ?_; rintro e w1 ⟨rfl, hb⟩; have c0 := hb.cell (p := ⟨w.heap.size, 0, none⟩) (by simp; omega); have c1 := hb.cell (p := ⟨w.heap.size, 1, none⟩) (by simp; omega); have c2 := hb.cell (p := ⟨w.heap.size + 1, 0, none⟩) (by simp); have c3 := hb.cell (p := ⟨w.heap.size + 1, 1, none⟩) (by simp); have c4 := hb.cell (p := ⟨w.heap.size + 1, 2, none⟩) (by simp); simp at c0 c1 c2 c3 c4; have HB1 := Lib.hid (below_box2 hb); have hz1 := hb.size; simp at hz1; clear hb)
  go_ret
  exact ⟨rfl, HB1.out⟩
end
section
variable (p : Nat) (hp : p < 18446744073709551616) (N T : Int) (C : Cir) (w : World) (hC : HoldsC w C)
include hp hC
set_option maxHeartbeats 2000000 in
set_option maxRecDepth 100000 in
theorem rfits_bad (hgood : ¬ badSetup p N T) (h0 : checkErr p C ≠ 0) : Calls Tryz.prog 30 #[.agg #[.int .u64 p, .int .i64 N, .int .i64 T], .agg #[.slice C.SA C.slots.length C.sc, .slice C.GA C.gates.length C.gc, .slice C.EA C.exits.length C.ec]] w (GatePost (checkErr p C) w) := by
  have hst := rsetup_any p hp N T
  rw [if_neg hgood] at hst
  have hck := fun W (h : Below w.heap.size w W) => rcheck_any p hp C W (hC.below h)
  unfold GatePost at hck
  have hz : (checkErr p C == 0) = false := by simpa using h0
  generalize checkErr p C = er at *
  have HST := Lib.hid hst
  have HCK := Lib.hid hck
  clear hst hgood hC hck h0
  go_enter Tryz.func30, Tryz.ntmps30
  go_wp2_with (first
    | (go_at_call 75; refine (HST.out _).mono ?_; rintro e w1 ⟨rfl, hb⟩; have c0 := hb.cell (p := ⟨w.heap.size, 0, none⟩) (by simp; omega); have c1 := hb.cell (p := ⟨w.heap.size, 1, none⟩) (by simp; omega); have c2 := hb.cell (p := ⟨w.heap.size + 1, 0, none⟩) (by simp); have c3 := hb.cell (p := ⟨w.heap.size + 1, 1, none⟩) (by simp); have c4 := hb.cell (p := ⟨w.heap.size + 1, 2, none⟩) (by simp); simp at c0 c1 c2 c3 c4; have HB1 := Lib.hid (below_box2 hb); have hz1 := hb.size; simp at hz1; clear hb)
    | (go_at_call 11; refine (HCK.out _ HB1.out).mono ?_; rintro e w2 ⟨rfl, hb⟩; have d1 := (hb.cell (p := ⟨w.heap.size, 1, none⟩) (by simp; omega)).trans c1; have d2 := (hb.cell (p := ⟨w.heap.size + 1, 0, none⟩) (by simp; omega)).trans c2; have d4 := (hb.cell (p := ⟨w.heap.size + 1, 2, none⟩) (by simp; omega)).trans c4; have HB2 := Lib.hid (below_twoF HB1.out hb); have hz2 : w.heap.size + 1 < w2.heap.size := (by have h5 := hb.size; omega); clear hb))
  go_ret
  exact ⟨rfl, HB2.out⟩
set_option maxHeartbeats 4000000 in
set_option maxRecDepth 100000 in
theorem rfits_go (hgood : ¬ badSetup p N T) (h0 : checkErr p C = 0) : Calls Tryz.prog 30 #[.agg #[.int .u64 p, .int .i64 N, .int .i64 T], .agg #[.slice C.SA C.slots.length C.sc, .slice C.GA C.gates.length C.gc, .slice C.EA C.exits.length C.ec]] w (GatePost (if anyAbove N C then 2 else 0) w) := by
  have hst := rsetup_any p hp N T
  rw [if_neg hgood] at hst
  have hck := fun W (h : Below w.heap.size w W) => rcheck_any p hp C W (hC.below h)
  rw [h0] at hck
  unfold GatePost at hck
  obtain ⟨n1, n2, n3⟩ := hC.n
  have HC := Lib.hid hC
  have HST := Lib.hid hst
  have HCK := Lib.hid hck
  obtain ⟨R, hR⟩ : ∃ R : Int, R = if anyAbove N C then 2 else 0 := ⟨_, rfl⟩
  rw [← hR]
  have HR := Lib.hid hR
  clear hst hgood hC hck h0 hR
  go_enter Tryz.func30, Tryz.ntmps30
  go_wp2_with (first
    | (go_at_call 75; refine (HST.out _).mono ?_; rintro e w1 ⟨rfl, hb⟩; have c0 := hb.cell (p := ⟨w.heap.size, 0, none⟩) (by simp; omega); have c1 := hb.cell (p := ⟨w.heap.size, 1, none⟩) (by simp; omega); have c2 := hb.cell (p := ⟨w.heap.size + 1, 0, none⟩) (by simp); have c3 := hb.cell (p := ⟨w.heap.size + 1, 1, none⟩) (by simp); have c4 := hb.cell (p := ⟨w.heap.size + 1, 2, none⟩) (by simp); simp at c0 c1 c2 c3 c4; have HB1 := Lib.hid (below_box2 hb); have hz1 := hb.size; simp at hz1; clear hb)
    | (go_at_call 11; refine (HCK.out _ HB1.out).mono ?_; rintro e w2 ⟨rfl, hb⟩; have d1 := (hb.cell (p := ⟨w.heap.size, 1, none⟩) (by simp; omega)).trans c1; have d2 := (hb.cell (p := ⟨w.heap.size + 1, 0, none⟩) (by simp; omega)).trans c2; have d4 := (hb.cell (p := ⟨w.heap.size + 1, 2, none⟩) (by simp; omega)).trans c4; have HB2 := Lib.hid (below_twoF HB1.out hb); have hz2 : w.heap.size + 1 < w2.heap.size := (by have h5 := hb.size; omega); clear hb))
  clear c0 c1 c2 c3 c4 HB1 hz1
  go_loopg [28] C.slots.length (fun g v wr => ∃ k : Nat, k ≤ C.slots.length ∧ g = C.slots.length - k ∧ v = .int .i64 k ∧ Hid ((C.slots.take k).any (fun z => aboveN N z.1) = false) ∧ Below w2.heap.size w2 wr)
  case atStart => exact ⟨0, by omega, rfl, rfl, rfl, Below.refl _ _⟩
  case round =>
    obtain ⟨k, hk, rfl, rfl, hd, hbel⟩ := hrel
    have e1 := (hbel.cell (p := ⟨w.heap.size, 1, none⟩) (by simp; omega)).trans d1
    have e4 := (hbel.cell (p := ⟨w.heap.size + 1, 2, none⟩) (by simp; omega)).trans d4
    have hz3 : w.heap.size + 1 < wr.heap.size := by have h5 := hbel.size; omega
    have hy3 : w.heap.size < wr.heap.size := by omega
    have HB := Lib.hid hbel; clear hbel
    by_cases hlt : k < C.slots.length
    · obtain ⟨ad, had, q0, q1⟩ := ((HC.out.below HB2.out).below HB.out).s.slo k hlt
      rw [had] at d2 ⊢
      by_cases hq : N < C.slots[k].1
      · have HN : Hid (2 = R) := Lib.hid (by rw [HR.out, if_pos]; unfold anyAbove; rw [any_at (q := fun z : Slo => aboveN N z.1) hlt (by simp [aboveN, hq])]; rfl)
        clear hd
        go_wp2
        go_ret
        exact ⟨ret_e HN.out, below_twoF HB2.out (HB.out.alloc HB.out.size _)⟩
      · have hq' : C.slots[k].1 ≤ N := by omega
        have HN := Lib.hid (any_succ (q := fun z : Slo => aboveN N z.1) hlt hd.out (by simp [aboveN]; omega)); clear hd
        go_wp2
        rw [← had]
        go_roundg (C.slots.length - (k + 1))
        case measure => omega
        case rel => exact ⟨k + 1, by omega, rfl, by go_num, HN.out, HB.out.alloc HB.out.size _⟩
    · obtain rfl : k = C.slots.length := by omega
      have hd' := hd.out
      rw [List.take_length] at hd'
      have HS := Lib.hid hd'; clear hd hd'
      go_wp2
      go_loopg [41] C.exits.length (fun g v wr' => ∃ k : Nat, k ≤ C.exits.length ∧ g = C.exits.length - k ∧ v = .int .i64 k ∧ Hid ((C.exits.take k).any (fun z => z.tl.any (aboveN N)) = false) ∧ Below wr.heap.size wr wr')
      case atStart => exact ⟨0, by omega, rfl, rfl, rfl, Below.refl _ _⟩
      case round =>
        obtain ⟨k, hk, rfl, rfl, hd, hbel⟩ := hrel
        rename World => wq
        have f1 := (hbel.cell (p := ⟨w.heap.size, 1, none⟩) (by simp; omega)).trans e1
        have hz4 : w.heap.size + 1 < wq.heap.size := by have h5 := hbel.size; omega
        have hy4 : w.heap.size < wq.heap.size := by omega
        have HBQ := Lib.hid hbel; clear hbel
        by_cases hlt : k < C.exits.length
        · obtain ⟨ad, had, q0, q1⟩ := (((HC.out.below HB2.out).below HB.out).below HBQ.out).e.exi k hlt
          obtain ⟨x1, _⟩ := (((HC.out.below HB2.out).below HB.out).below HBQ.out).x _ (List.getElem_mem hlt)
          obtain ⟨m1, _⟩ := HC.out.m _ (List.getElem_mem hlt)
          have HNT : Hid (C.exits[k].tl.any (aboveN N) = true → 2 = R) := Lib.hid (fun h => by rw [HR.out, if_pos]; unfold anyAbove; rw [any_at (q := fun z : Exi => z.tl.any (aboveN N)) hlt h, Bool.or_true])
          have HNF : Hid (C.exits[k].tl.any (aboveN N) = false → (C.exits.take (k + 1)).any (fun z => z.tl.any (aboveN N)) = false) := Lib.hid (fun h => any_succ (q := fun z : Exi => z.tl.any (aboveN N)) hlt hd.out h)
          rw [had] at e4 ⊢
          generalize C.exits[k] = t at q0 q1 x1 m1 HNT HNF
          obtain ⟨tl, gl, tA, tB, tc, td⟩ := t
          simp only at q0 q1 x1 m1
          have HX := Lib.hid x1
          clear x1 hd
          go_wp2
          go_loopg [48] tl.length (fun g v wr'' => ∃ j : Nat, j ≤ tl.length ∧ g = tl.length - j ∧ v = .int .i64 j ∧ Hid ((tl.take j).any (aboveN N) = false) ∧ Below wq.heap.size wq wr'')
          case atStart => exact ⟨0, by omega, rfl, rfl, rfl, (Below.refl _ _).alloc (Nat.le_refl _) _⟩
          case round =>
            obtain ⟨j, hj, rfl, rfl, hd, hbel⟩ := hrel
            rename World => ws
            have g1 := (hbel.cell (p := ⟨w.heap.size, 1, none⟩) (by simp; omega)).trans f1
            have HBS := Lib.hid hbel; clear hbel
            by_cases hjl : j < tl.length
            · obtain ⟨ae, rfl, r0⟩ := (HX.out.below HBS.out).i j hjl
              by_cases hq : N < tl[j]
              · have HN := Lib.hid (HNT.out (any_at (q := aboveN N) hjl (by simp [aboveN, hq]))); clear hd
                go_wp2
                go_ret
                exact ⟨ret_e HN.out, below_twoF HB2.out (below_twoF HB.out (below_twoF HBQ.out HBS.out))⟩
              · have hq' : tl[j] ≤ N := by omega
                have HN := Lib.hid (any_succ (q := aboveN N) hjl hd.out (by simp [aboveN]; omega)); clear hd
                go_wp2
                go_roundg (tl.length - (j + 1))
                case measure => omega
                case rel => exact ⟨j + 1, by omega, rfl, by go_num, HN.out, HBS.out⟩
            · obtain rfl : j = tl.length := by omega
              have hd' := hd.out
              rw [List.take_length] at hd'
              have HN := Lib.hid (HNF.out hd'); clear hd hd'
              go_wp2
              rw [← had]
              go_roundg (C.exits.length - (k + 1))
              case measure => omega
              case rel => exact ⟨k + 1, by omega, rfl, by go_num, HN.out, below_twoF HBQ.out HBS.out⟩
        · obtain rfl : k = C.exits.length := by omega
          have hd' := hd.out
          rw [List.take_length] at hd'
          have HN : Hid (0 = R) := Lib.hid (by rw [HR.out, if_neg]; unfold anyAbove; rw [HS.out, hd']; simp)
          clear hd hd'
          go_wp2
          go_ret
          exact ⟨ret_e HN.out, below_twoF HB2.out (below_twoF HB.out HBQ.out)⟩
end
theorem rfits_any (p : Nat) (hp : p < 18446744073709551616) (N T : Int) (C : Cir) (w : World) (hC : HoldsC w C) : Calls Tryz.prog 30 #[.agg #[.int .u64 p, .int .i64 N, .int .i64 T], .agg #[.slice C.SA C.slots.length C.sc, .slice C.GA C.gates.length C.gc, .slice C.EA C.exits.length C.ec]] w (GatePost (fitErr p N T C) w) := by
  unfold fitErr
  split
  · rename_i h
    exact rfits_set p hp N T C w h
  · rename_i h
    split
    · rename_i h0
      exact rfits_bad p hp N T C w hC h h0
    · rename_i h0
      exact rfits_go p hp N T C w hC h (by simpa using h0)
end Go.Proofs.YtmnbgamnbgdnnaaGreatDoor
