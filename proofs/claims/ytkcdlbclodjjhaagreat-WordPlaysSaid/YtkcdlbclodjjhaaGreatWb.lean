/- Contracts and plain laws of chapter 12, those that chapter 13 needs (kept by wip/tools/trim13.py). -/
import Derived.Test.YtkcdlbclodjjhaaGreatWa
namespace Go.Proofs.YtkcdlbclodjjhaaGreat
open Go.RowKit

set_option maxRecDepth 100000 in
theorem within_any (x n : Int) (w : World) : Calls Tryz.prog 96 #[.int .i64 x, .int .i64 n] w fun e w' => e = .returned (.bool (decide (0 ≤ x) && decide (x < n))) ∧ w = w' := by
  by_cases h : 0 ≤ x
  · go_enter Tryz.func96, Tryz.ntmps96
    go_wp2
    go_ret
    exact ⟨ret_bl (by simp [h]), rfl⟩
  · have h' : x < 0 := by omega
    go_enter Tryz.func96, Tryz.ntmps96
    go_wp2
    go_ret
    exact ⟨ret_bl (by simp; omega), rfl⟩
set_option maxRecDepth 100000 in
theorem named_1 (w : World) : Calls Tryz.prog 95 #[.int .i64 1] w (NamedPost true false false false true w) := by
  go_enter Tryz.func95, Tryz.ntmps95
  go_wp2
  exact bodyPost_ret (v := .tuple #[.agg #[.bool true, .bool false, .bool false, .bool false], .bool true]) (by simp [results, Tryz.results95, go_sem]) rfl ⟨rfl, (Below.refl _ _).alloc (Nat.le_refl _) _⟩
set_option maxRecDepth 100000 in
theorem named_2 (w : World) : Calls Tryz.prog 95 #[.int .i64 2] w (NamedPost false false false true true w) := by
  go_enter Tryz.func95, Tryz.ntmps95
  go_wp2
  exact bodyPost_ret (v := .tuple #[.agg #[.bool false, .bool false, .bool false, .bool true], .bool true]) (by simp [results, Tryz.results95, go_sem]) rfl ⟨rfl, (Below.refl _ _).alloc (Nat.le_refl _) _⟩
set_option maxRecDepth 100000 in
theorem named_3 (w : World) : Calls Tryz.prog 95 #[.int .i64 3] w (NamedPost false true true false true w) := by
  go_enter Tryz.func95, Tryz.ntmps95
  go_wp2
  exact bodyPost_ret (v := .tuple #[.agg #[.bool false, .bool true, .bool true, .bool false], .bool true]) (by simp [results, Tryz.results95, go_sem]) rfl ⟨rfl, (Below.refl _ _).alloc (Nat.le_refl _) _⟩
set_option maxRecDepth 100000 in
theorem named_4 (w : World) : Calls Tryz.prog 95 #[.int .i64 4] w (NamedPost false true true false true w) := by
  go_enter Tryz.func95, Tryz.ntmps95
  go_wp2
  exact bodyPost_ret (v := .tuple #[.agg #[.bool false, .bool true, .bool true, .bool false], .bool true]) (by simp [results, Tryz.results95, go_sem]) rfl ⟨rfl, (Below.refl _ _).alloc (Nat.le_refl _) _⟩
set_option maxRecDepth 100000 in
theorem named_5 (w : World) : Calls Tryz.prog 95 #[.int .i64 5] w (NamedPost false true true false true w) := by
  go_enter Tryz.func95, Tryz.ntmps95
  go_wp2
  exact bodyPost_ret (v := .tuple #[.agg #[.bool false, .bool true, .bool true, .bool false], .bool true]) (by simp [results, Tryz.results95, go_sem]) rfl ⟨rfl, (Below.refl _ _).alloc (Nat.le_refl _) _⟩
set_option maxRecDepth 100000 in
theorem named_6 (w : World) : Calls Tryz.prog 95 #[.int .i64 6] w (NamedPost false true false true true w) := by
  go_enter Tryz.func95, Tryz.ntmps95
  go_wp2
  exact bodyPost_ret (v := .tuple #[.agg #[.bool false, .bool true, .bool false, .bool true], .bool true]) (by simp [results, Tryz.results95, go_sem]) rfl ⟨rfl, (Below.refl _ _).alloc (Nat.le_refl _) _⟩
set_option maxRecDepth 100000 in
theorem named_else (k : Int) (h1 : (k == 1) = false) (h2 : (k == 2) = false) (h3 : (k == 3) = false) (h4 : (k == 4) = false) (h5 : (k == 5) = false) (h6 : (k == 6) = false) (w : World) : Calls Tryz.prog 95 #[.int .i64 k] w (NamedPost false false false false false w) := by
  go_enter Tryz.func95, Tryz.ntmps95
  go_wp2
  exact bodyPost_ret (v := .tuple #[.agg #[.bool false, .bool false, .bool false, .bool false], .bool false]) (by simp [results, Tryz.results95, go_sem]) rfl ⟨rfl, (Below.refl _ _).alloc (Nat.le_refl _) _⟩
set_option maxHeartbeats 2000000 in
set_option maxRecDepth 100000 in
theorem gate_1 (p : Nat) (hp : 0 < p) (slots at_ a b K : Int) (w : World) : Calls Tryz.prog 61 #[.int .u64 p, .int .i64 slots, .int .i64 at_, .agg #[.int .i64 1, .int .i64 a, .int .i64 b, .int .u64 K]] w (GatePost (gateErr p slots at_ 1 a b K) w) := by
  have ip : (0 : Int) < (p : Int) := by omega
  by_cases hb : b = 0
  · subst hb
    by_cases hK : K = 0
    · subst hK
      by_cases la : 0 ≤ a
      · by_cases ua : a < slots
        · skip
          have HN := Lib.hid (fun W => named_1 W)
          go_enter Tryz.func61, Tryz.ntmps61
          go_wp2_with (first | (go_at_call 95; refine (HN.out _).mono ?_; rintro e w1 ⟨rfl, hb1⟩; have hz : w.heap.size < w1.heap.size := (by have h5 := hb1.size; simp at h5; omega); have c0 := hb1.cell (p := ⟨w.heap.size, 0, none⟩) (by simp); have c1 := hb1.cell (p := ⟨w.heap.size, 1, none⟩) (by simp); have c2 := hb1.cell (p := ⟨w.heap.size, 2, none⟩) (by simp); have c3 := hb1.cell (p := ⟨w.heap.size, 3, none⟩) (by simp); have HB := Lib.hid (below_box hb1); clear hb1) | (go_at_call 96; refine (within_any _ _ _).mono ?_; rintro e w1 ⟨rfl, rfl⟩))
          go_ret
          exact ⟨ret_e (by unfold gateErr; simp; omega), by first | exact HB.out.alloc HB.out.size _ | exact HB.out⟩
        · have ua' : slots ≤ a := by omega
          have dua : decide (a < slots) = false := decide_eq_false ua
          have HN := Lib.hid (fun W => named_1 W)
          go_enter Tryz.func61, Tryz.ntmps61
          go_wp2_with (first | (go_at_call 95; refine (HN.out _).mono ?_; rintro e w1 ⟨rfl, hb1⟩; have hz : w.heap.size < w1.heap.size := (by have h5 := hb1.size; simp at h5; omega); have c0 := hb1.cell (p := ⟨w.heap.size, 0, none⟩) (by simp); have c1 := hb1.cell (p := ⟨w.heap.size, 1, none⟩) (by simp); have c2 := hb1.cell (p := ⟨w.heap.size, 2, none⟩) (by simp); have c3 := hb1.cell (p := ⟨w.heap.size, 3, none⟩) (by simp); have HB := Lib.hid (below_box hb1); clear hb1) | (go_at_call 96; refine (within_any _ _ _).mono ?_; rintro e w1 ⟨rfl, rfl⟩))
          go_ret
          exact ⟨ret_e (by unfold gateErr; simp; omega), by first | exact HB.out.alloc HB.out.size _ | exact HB.out⟩
      · have la' : a < 0 := by omega
        have dla : decide (0 ≤ a) = false := decide_eq_false la
        have HN := Lib.hid (fun W => named_1 W)
        go_enter Tryz.func61, Tryz.ntmps61
        go_wp2_with (first | (go_at_call 95; refine (HN.out _).mono ?_; rintro e w1 ⟨rfl, hb1⟩; have hz : w.heap.size < w1.heap.size := (by have h5 := hb1.size; simp at h5; omega); have c0 := hb1.cell (p := ⟨w.heap.size, 0, none⟩) (by simp); have c1 := hb1.cell (p := ⟨w.heap.size, 1, none⟩) (by simp); have c2 := hb1.cell (p := ⟨w.heap.size, 2, none⟩) (by simp); have c3 := hb1.cell (p := ⟨w.heap.size, 3, none⟩) (by simp); have HB := Lib.hid (below_box hb1); clear hb1) | (go_at_call 96; refine (within_any _ _ _).mono ?_; rintro e w1 ⟨rfl, rfl⟩))
        go_ret
        exact ⟨ret_e (by unfold gateErr; simp; omega), by first | exact HB.out.alloc HB.out.size _ | exact HB.out⟩
    · have iK : (K == 0) = false := by simpa using hK
      have HN := Lib.hid (fun W => named_1 W)
      go_enter Tryz.func61, Tryz.ntmps61
      go_wp2_with (first | (go_at_call 95; refine (HN.out _).mono ?_; rintro e w1 ⟨rfl, hb1⟩; have hz : w.heap.size < w1.heap.size := (by have h5 := hb1.size; simp at h5; omega); have c0 := hb1.cell (p := ⟨w.heap.size, 0, none⟩) (by simp); have c1 := hb1.cell (p := ⟨w.heap.size, 1, none⟩) (by simp); have c2 := hb1.cell (p := ⟨w.heap.size, 2, none⟩) (by simp); have c3 := hb1.cell (p := ⟨w.heap.size, 3, none⟩) (by simp); have HB := Lib.hid (below_box hb1); clear hb1) | (go_at_call 96; refine (within_any _ _ _).mono ?_; rintro e w1 ⟨rfl, rfl⟩))
      go_ret
      exact ⟨ret_e (by simp [gateErr, hK]), by first | exact HB.out.alloc HB.out.size _ | exact HB.out⟩
  · have ib : (b == 0) = false := by simpa using hb
    have HN := Lib.hid (fun W => named_1 W)
    go_enter Tryz.func61, Tryz.ntmps61
    go_wp2_with (first | (go_at_call 95; refine (HN.out _).mono ?_; rintro e w1 ⟨rfl, hb1⟩; have hz : w.heap.size < w1.heap.size := (by have h5 := hb1.size; simp at h5; omega); have c0 := hb1.cell (p := ⟨w.heap.size, 0, none⟩) (by simp); have c1 := hb1.cell (p := ⟨w.heap.size, 1, none⟩) (by simp); have c2 := hb1.cell (p := ⟨w.heap.size, 2, none⟩) (by simp); have c3 := hb1.cell (p := ⟨w.heap.size, 3, none⟩) (by simp); have HB := Lib.hid (below_box hb1); clear hb1) | (go_at_call 96; refine (within_any _ _ _).mono ?_; rintro e w1 ⟨rfl, rfl⟩))
    go_ret
    exact ⟨ret_e (by simp [gateErr, hb]), by first | exact HB.out.alloc HB.out.size _ | exact HB.out⟩
set_option maxHeartbeats 2000000 in
set_option maxRecDepth 100000 in
theorem gate_2 (p : Nat) (hp : 0 < p) (slots at_ a b K : Int) (w : World) : Calls Tryz.prog 61 #[.int .u64 p, .int .i64 slots, .int .i64 at_, .agg #[.int .i64 2, .int .i64 a, .int .i64 b, .int .u64 K]] w (GatePost (gateErr p slots at_ 2 a b K) w) := by
  have ip : (0 : Int) < (p : Int) := by omega
  by_cases ha : a = 0
  · subst ha
    by_cases hb : b = 0
    · subst hb
      by_cases hk : K < (p : Int)
      · skip
        have HN := Lib.hid (fun W => named_2 W)
        go_enter Tryz.func61, Tryz.ntmps61
        go_wp2_with (first | (go_at_call 95; refine (HN.out _).mono ?_; rintro e w1 ⟨rfl, hb1⟩; have hz : w.heap.size < w1.heap.size := (by have h5 := hb1.size; simp at h5; omega); have c0 := hb1.cell (p := ⟨w.heap.size, 0, none⟩) (by simp); have c1 := hb1.cell (p := ⟨w.heap.size, 1, none⟩) (by simp); have c2 := hb1.cell (p := ⟨w.heap.size, 2, none⟩) (by simp); have c3 := hb1.cell (p := ⟨w.heap.size, 3, none⟩) (by simp); have HB := Lib.hid (below_box hb1); clear hb1) | (go_at_call 96; refine (within_any _ _ _).mono ?_; rintro e w1 ⟨rfl, rfl⟩))
        go_ret
        exact ⟨ret_e (by unfold gateErr; simp; omega), by first | exact HB.out.alloc HB.out.size _ | exact HB.out⟩
      · have hk' : (p : Int) ≤ K := by omega
        have HN := Lib.hid (fun W => named_2 W)
        go_enter Tryz.func61, Tryz.ntmps61
        go_wp2_with (first | (go_at_call 95; refine (HN.out _).mono ?_; rintro e w1 ⟨rfl, hb1⟩; have hz : w.heap.size < w1.heap.size := (by have h5 := hb1.size; simp at h5; omega); have c0 := hb1.cell (p := ⟨w.heap.size, 0, none⟩) (by simp); have c1 := hb1.cell (p := ⟨w.heap.size, 1, none⟩) (by simp); have c2 := hb1.cell (p := ⟨w.heap.size, 2, none⟩) (by simp); have c3 := hb1.cell (p := ⟨w.heap.size, 3, none⟩) (by simp); have HB := Lib.hid (below_box hb1); clear hb1) | (go_at_call 96; refine (within_any _ _ _).mono ?_; rintro e w1 ⟨rfl, rfl⟩))
        go_ret
        exact ⟨ret_e (by unfold gateErr; simp; omega), by first | exact HB.out.alloc HB.out.size _ | exact HB.out⟩
    · have ib : (b == 0) = false := by simpa using hb
      have HN := Lib.hid (fun W => named_2 W)
      go_enter Tryz.func61, Tryz.ntmps61
      go_wp2_with (first | (go_at_call 95; refine (HN.out _).mono ?_; rintro e w1 ⟨rfl, hb1⟩; have hz : w.heap.size < w1.heap.size := (by have h5 := hb1.size; simp at h5; omega); have c0 := hb1.cell (p := ⟨w.heap.size, 0, none⟩) (by simp); have c1 := hb1.cell (p := ⟨w.heap.size, 1, none⟩) (by simp); have c2 := hb1.cell (p := ⟨w.heap.size, 2, none⟩) (by simp); have c3 := hb1.cell (p := ⟨w.heap.size, 3, none⟩) (by simp); have HB := Lib.hid (below_box hb1); clear hb1) | (go_at_call 96; refine (within_any _ _ _).mono ?_; rintro e w1 ⟨rfl, rfl⟩))
      go_ret
      exact ⟨ret_e (by simp [gateErr, hb]), by first | exact HB.out.alloc HB.out.size _ | exact HB.out⟩
  · have ia : (a == 0) = false := by simpa using ha
    have HN := Lib.hid (fun W => named_2 W)
    go_enter Tryz.func61, Tryz.ntmps61
    go_wp2_with (first | (go_at_call 95; refine (HN.out _).mono ?_; rintro e w1 ⟨rfl, hb1⟩; have hz : w.heap.size < w1.heap.size := (by have h5 := hb1.size; simp at h5; omega); have c0 := hb1.cell (p := ⟨w.heap.size, 0, none⟩) (by simp); have c1 := hb1.cell (p := ⟨w.heap.size, 1, none⟩) (by simp); have c2 := hb1.cell (p := ⟨w.heap.size, 2, none⟩) (by simp); have c3 := hb1.cell (p := ⟨w.heap.size, 3, none⟩) (by simp); have HB := Lib.hid (below_box hb1); clear hb1) | (go_at_call 96; refine (within_any _ _ _).mono ?_; rintro e w1 ⟨rfl, rfl⟩))
    go_ret
    exact ⟨ret_e (by simp [gateErr, ha]), by first | exact HB.out.alloc HB.out.size _ | exact HB.out⟩
set_option maxHeartbeats 2000000 in
set_option maxRecDepth 100000 in
theorem gate_3 (p : Nat) (hp : 0 < p) (slots at_ a b K : Int) (w : World) : Calls Tryz.prog 61 #[.int .u64 p, .int .i64 slots, .int .i64 at_, .agg #[.int .i64 3, .int .i64 a, .int .i64 b, .int .u64 K]] w (GatePost (gateErr p slots at_ 3 a b K) w) := by
  have ip : (0 : Int) < (p : Int) := by omega
  by_cases hK : K = 0
  · subst hK
    by_cases la : 0 ≤ a
    · by_cases ua : a < at_
      · skip
        by_cases lb : 0 ≤ b
        · by_cases ub : b < at_
          · skip
            have HN := Lib.hid (fun W => named_3 W)
            go_enter Tryz.func61, Tryz.ntmps61
            go_wp2_with (first | (go_at_call 95; refine (HN.out _).mono ?_; rintro e w1 ⟨rfl, hb1⟩; have hz : w.heap.size < w1.heap.size := (by have h5 := hb1.size; simp at h5; omega); have c0 := hb1.cell (p := ⟨w.heap.size, 0, none⟩) (by simp); have c1 := hb1.cell (p := ⟨w.heap.size, 1, none⟩) (by simp); have c2 := hb1.cell (p := ⟨w.heap.size, 2, none⟩) (by simp); have c3 := hb1.cell (p := ⟨w.heap.size, 3, none⟩) (by simp); have HB := Lib.hid (below_box hb1); clear hb1) | (go_at_call 96; refine (within_any _ _ _).mono ?_; rintro e w1 ⟨rfl, rfl⟩))
            go_ret
            exact ⟨ret_e (by unfold gateErr; simp; omega), by first | exact HB.out.alloc HB.out.size _ | exact HB.out⟩
          · have ub' : at_ ≤ b := by omega
            have dub : decide (b < at_) = false := decide_eq_false ub
            have HN := Lib.hid (fun W => named_3 W)
            go_enter Tryz.func61, Tryz.ntmps61
            go_wp2_with (first | (go_at_call 95; refine (HN.out _).mono ?_; rintro e w1 ⟨rfl, hb1⟩; have hz : w.heap.size < w1.heap.size := (by have h5 := hb1.size; simp at h5; omega); have c0 := hb1.cell (p := ⟨w.heap.size, 0, none⟩) (by simp); have c1 := hb1.cell (p := ⟨w.heap.size, 1, none⟩) (by simp); have c2 := hb1.cell (p := ⟨w.heap.size, 2, none⟩) (by simp); have c3 := hb1.cell (p := ⟨w.heap.size, 3, none⟩) (by simp); have HB := Lib.hid (below_box hb1); clear hb1) | (go_at_call 96; refine (within_any _ _ _).mono ?_; rintro e w1 ⟨rfl, rfl⟩))
            go_ret
            exact ⟨ret_e (by unfold gateErr; simp; omega), by first | exact HB.out.alloc HB.out.size _ | exact HB.out⟩
        · have lb' : b < 0 := by omega
          have dlb : decide (0 ≤ b) = false := decide_eq_false lb
          have HN := Lib.hid (fun W => named_3 W)
          go_enter Tryz.func61, Tryz.ntmps61
          go_wp2_with (first | (go_at_call 95; refine (HN.out _).mono ?_; rintro e w1 ⟨rfl, hb1⟩; have hz : w.heap.size < w1.heap.size := (by have h5 := hb1.size; simp at h5; omega); have c0 := hb1.cell (p := ⟨w.heap.size, 0, none⟩) (by simp); have c1 := hb1.cell (p := ⟨w.heap.size, 1, none⟩) (by simp); have c2 := hb1.cell (p := ⟨w.heap.size, 2, none⟩) (by simp); have c3 := hb1.cell (p := ⟨w.heap.size, 3, none⟩) (by simp); have HB := Lib.hid (below_box hb1); clear hb1) | (go_at_call 96; refine (within_any _ _ _).mono ?_; rintro e w1 ⟨rfl, rfl⟩))
          go_ret
          exact ⟨ret_e (by unfold gateErr; simp; omega), by first | exact HB.out.alloc HB.out.size _ | exact HB.out⟩
      · have ua' : at_ ≤ a := by omega
        have dua : decide (a < at_) = false := decide_eq_false ua
        have HN := Lib.hid (fun W => named_3 W)
        go_enter Tryz.func61, Tryz.ntmps61
        go_wp2_with (first | (go_at_call 95; refine (HN.out _).mono ?_; rintro e w1 ⟨rfl, hb1⟩; have hz : w.heap.size < w1.heap.size := (by have h5 := hb1.size; simp at h5; omega); have c0 := hb1.cell (p := ⟨w.heap.size, 0, none⟩) (by simp); have c1 := hb1.cell (p := ⟨w.heap.size, 1, none⟩) (by simp); have c2 := hb1.cell (p := ⟨w.heap.size, 2, none⟩) (by simp); have c3 := hb1.cell (p := ⟨w.heap.size, 3, none⟩) (by simp); have HB := Lib.hid (below_box hb1); clear hb1) | (go_at_call 96; refine (within_any _ _ _).mono ?_; rintro e w1 ⟨rfl, rfl⟩))
        go_ret
        exact ⟨ret_e (by unfold gateErr; simp; omega), by first | exact HB.out.alloc HB.out.size _ | exact HB.out⟩
    · have la' : a < 0 := by omega
      have dla : decide (0 ≤ a) = false := decide_eq_false la
      have HN := Lib.hid (fun W => named_3 W)
      go_enter Tryz.func61, Tryz.ntmps61
      go_wp2_with (first | (go_at_call 95; refine (HN.out _).mono ?_; rintro e w1 ⟨rfl, hb1⟩; have hz : w.heap.size < w1.heap.size := (by have h5 := hb1.size; simp at h5; omega); have c0 := hb1.cell (p := ⟨w.heap.size, 0, none⟩) (by simp); have c1 := hb1.cell (p := ⟨w.heap.size, 1, none⟩) (by simp); have c2 := hb1.cell (p := ⟨w.heap.size, 2, none⟩) (by simp); have c3 := hb1.cell (p := ⟨w.heap.size, 3, none⟩) (by simp); have HB := Lib.hid (below_box hb1); clear hb1) | (go_at_call 96; refine (within_any _ _ _).mono ?_; rintro e w1 ⟨rfl, rfl⟩))
      go_ret
      exact ⟨ret_e (by unfold gateErr; simp; omega), by first | exact HB.out.alloc HB.out.size _ | exact HB.out⟩
  · have iK : (K == 0) = false := by simpa using hK
    have HN := Lib.hid (fun W => named_3 W)
    go_enter Tryz.func61, Tryz.ntmps61
    go_wp2_with (first | (go_at_call 95; refine (HN.out _).mono ?_; rintro e w1 ⟨rfl, hb1⟩; have hz : w.heap.size < w1.heap.size := (by have h5 := hb1.size; simp at h5; omega); have c0 := hb1.cell (p := ⟨w.heap.size, 0, none⟩) (by simp); have c1 := hb1.cell (p := ⟨w.heap.size, 1, none⟩) (by simp); have c2 := hb1.cell (p := ⟨w.heap.size, 2, none⟩) (by simp); have c3 := hb1.cell (p := ⟨w.heap.size, 3, none⟩) (by simp); have HB := Lib.hid (below_box hb1); clear hb1) | (go_at_call 96; refine (within_any _ _ _).mono ?_; rintro e w1 ⟨rfl, rfl⟩))
    go_ret
    exact ⟨ret_e (by simp [gateErr, hK]), by first | exact HB.out.alloc HB.out.size _ | exact HB.out⟩
set_option maxHeartbeats 2000000 in
set_option maxRecDepth 100000 in
theorem gate_4 (p : Nat) (hp : 0 < p) (slots at_ a b K : Int) (w : World) : Calls Tryz.prog 61 #[.int .u64 p, .int .i64 slots, .int .i64 at_, .agg #[.int .i64 4, .int .i64 a, .int .i64 b, .int .u64 K]] w (GatePost (gateErr p slots at_ 4 a b K) w) := by
  have ip : (0 : Int) < (p : Int) := by omega
  by_cases hK : K = 0
  · subst hK
    by_cases la : 0 ≤ a
    · by_cases ua : a < at_
      · skip
        by_cases lb : 0 ≤ b
        · by_cases ub : b < at_
          · skip
            have HN := Lib.hid (fun W => named_4 W)
            go_enter Tryz.func61, Tryz.ntmps61
            go_wp2_with (first | (go_at_call 95; refine (HN.out _).mono ?_; rintro e w1 ⟨rfl, hb1⟩; have hz : w.heap.size < w1.heap.size := (by have h5 := hb1.size; simp at h5; omega); have c0 := hb1.cell (p := ⟨w.heap.size, 0, none⟩) (by simp); have c1 := hb1.cell (p := ⟨w.heap.size, 1, none⟩) (by simp); have c2 := hb1.cell (p := ⟨w.heap.size, 2, none⟩) (by simp); have c3 := hb1.cell (p := ⟨w.heap.size, 3, none⟩) (by simp); have HB := Lib.hid (below_box hb1); clear hb1) | (go_at_call 96; refine (within_any _ _ _).mono ?_; rintro e w1 ⟨rfl, rfl⟩))
            go_ret
            exact ⟨ret_e (by unfold gateErr; simp; omega), by first | exact HB.out.alloc HB.out.size _ | exact HB.out⟩
          · have ub' : at_ ≤ b := by omega
            have dub : decide (b < at_) = false := decide_eq_false ub
            have HN := Lib.hid (fun W => named_4 W)
            go_enter Tryz.func61, Tryz.ntmps61
            go_wp2_with (first | (go_at_call 95; refine (HN.out _).mono ?_; rintro e w1 ⟨rfl, hb1⟩; have hz : w.heap.size < w1.heap.size := (by have h5 := hb1.size; simp at h5; omega); have c0 := hb1.cell (p := ⟨w.heap.size, 0, none⟩) (by simp); have c1 := hb1.cell (p := ⟨w.heap.size, 1, none⟩) (by simp); have c2 := hb1.cell (p := ⟨w.heap.size, 2, none⟩) (by simp); have c3 := hb1.cell (p := ⟨w.heap.size, 3, none⟩) (by simp); have HB := Lib.hid (below_box hb1); clear hb1) | (go_at_call 96; refine (within_any _ _ _).mono ?_; rintro e w1 ⟨rfl, rfl⟩))
            go_ret
            exact ⟨ret_e (by unfold gateErr; simp; omega), by first | exact HB.out.alloc HB.out.size _ | exact HB.out⟩
        · have lb' : b < 0 := by omega
          have dlb : decide (0 ≤ b) = false := decide_eq_false lb
          have HN := Lib.hid (fun W => named_4 W)
          go_enter Tryz.func61, Tryz.ntmps61
          go_wp2_with (first | (go_at_call 95; refine (HN.out _).mono ?_; rintro e w1 ⟨rfl, hb1⟩; have hz : w.heap.size < w1.heap.size := (by have h5 := hb1.size; simp at h5; omega); have c0 := hb1.cell (p := ⟨w.heap.size, 0, none⟩) (by simp); have c1 := hb1.cell (p := ⟨w.heap.size, 1, none⟩) (by simp); have c2 := hb1.cell (p := ⟨w.heap.size, 2, none⟩) (by simp); have c3 := hb1.cell (p := ⟨w.heap.size, 3, none⟩) (by simp); have HB := Lib.hid (below_box hb1); clear hb1) | (go_at_call 96; refine (within_any _ _ _).mono ?_; rintro e w1 ⟨rfl, rfl⟩))
          go_ret
          exact ⟨ret_e (by unfold gateErr; simp; omega), by first | exact HB.out.alloc HB.out.size _ | exact HB.out⟩
      · have ua' : at_ ≤ a := by omega
        have dua : decide (a < at_) = false := decide_eq_false ua
        have HN := Lib.hid (fun W => named_4 W)
        go_enter Tryz.func61, Tryz.ntmps61
        go_wp2_with (first | (go_at_call 95; refine (HN.out _).mono ?_; rintro e w1 ⟨rfl, hb1⟩; have hz : w.heap.size < w1.heap.size := (by have h5 := hb1.size; simp at h5; omega); have c0 := hb1.cell (p := ⟨w.heap.size, 0, none⟩) (by simp); have c1 := hb1.cell (p := ⟨w.heap.size, 1, none⟩) (by simp); have c2 := hb1.cell (p := ⟨w.heap.size, 2, none⟩) (by simp); have c3 := hb1.cell (p := ⟨w.heap.size, 3, none⟩) (by simp); have HB := Lib.hid (below_box hb1); clear hb1) | (go_at_call 96; refine (within_any _ _ _).mono ?_; rintro e w1 ⟨rfl, rfl⟩))
        go_ret
        exact ⟨ret_e (by unfold gateErr; simp; omega), by first | exact HB.out.alloc HB.out.size _ | exact HB.out⟩
    · have la' : a < 0 := by omega
      have dla : decide (0 ≤ a) = false := decide_eq_false la
      have HN := Lib.hid (fun W => named_4 W)
      go_enter Tryz.func61, Tryz.ntmps61
      go_wp2_with (first | (go_at_call 95; refine (HN.out _).mono ?_; rintro e w1 ⟨rfl, hb1⟩; have hz : w.heap.size < w1.heap.size := (by have h5 := hb1.size; simp at h5; omega); have c0 := hb1.cell (p := ⟨w.heap.size, 0, none⟩) (by simp); have c1 := hb1.cell (p := ⟨w.heap.size, 1, none⟩) (by simp); have c2 := hb1.cell (p := ⟨w.heap.size, 2, none⟩) (by simp); have c3 := hb1.cell (p := ⟨w.heap.size, 3, none⟩) (by simp); have HB := Lib.hid (below_box hb1); clear hb1) | (go_at_call 96; refine (within_any _ _ _).mono ?_; rintro e w1 ⟨rfl, rfl⟩))
      go_ret
      exact ⟨ret_e (by unfold gateErr; simp; omega), by first | exact HB.out.alloc HB.out.size _ | exact HB.out⟩
  · have iK : (K == 0) = false := by simpa using hK
    have HN := Lib.hid (fun W => named_4 W)
    go_enter Tryz.func61, Tryz.ntmps61
    go_wp2_with (first | (go_at_call 95; refine (HN.out _).mono ?_; rintro e w1 ⟨rfl, hb1⟩; have hz : w.heap.size < w1.heap.size := (by have h5 := hb1.size; simp at h5; omega); have c0 := hb1.cell (p := ⟨w.heap.size, 0, none⟩) (by simp); have c1 := hb1.cell (p := ⟨w.heap.size, 1, none⟩) (by simp); have c2 := hb1.cell (p := ⟨w.heap.size, 2, none⟩) (by simp); have c3 := hb1.cell (p := ⟨w.heap.size, 3, none⟩) (by simp); have HB := Lib.hid (below_box hb1); clear hb1) | (go_at_call 96; refine (within_any _ _ _).mono ?_; rintro e w1 ⟨rfl, rfl⟩))
    go_ret
    exact ⟨ret_e (by simp [gateErr, hK]), by first | exact HB.out.alloc HB.out.size _ | exact HB.out⟩
set_option maxHeartbeats 2000000 in
set_option maxRecDepth 100000 in
theorem gate_5 (p : Nat) (hp : 0 < p) (slots at_ a b K : Int) (w : World) : Calls Tryz.prog 61 #[.int .u64 p, .int .i64 slots, .int .i64 at_, .agg #[.int .i64 5, .int .i64 a, .int .i64 b, .int .u64 K]] w (GatePost (gateErr p slots at_ 5 a b K) w) := by
  have ip : (0 : Int) < (p : Int) := by omega
  by_cases hK : K = 0
  · subst hK
    by_cases la : 0 ≤ a
    · by_cases ua : a < at_
      · skip
        by_cases lb : 0 ≤ b
        · by_cases ub : b < at_
          · skip
            have HN := Lib.hid (fun W => named_5 W)
            go_enter Tryz.func61, Tryz.ntmps61
            go_wp2_with (first | (go_at_call 95; refine (HN.out _).mono ?_; rintro e w1 ⟨rfl, hb1⟩; have hz : w.heap.size < w1.heap.size := (by have h5 := hb1.size; simp at h5; omega); have c0 := hb1.cell (p := ⟨w.heap.size, 0, none⟩) (by simp); have c1 := hb1.cell (p := ⟨w.heap.size, 1, none⟩) (by simp); have c2 := hb1.cell (p := ⟨w.heap.size, 2, none⟩) (by simp); have c3 := hb1.cell (p := ⟨w.heap.size, 3, none⟩) (by simp); have HB := Lib.hid (below_box hb1); clear hb1) | (go_at_call 96; refine (within_any _ _ _).mono ?_; rintro e w1 ⟨rfl, rfl⟩))
            go_ret
            exact ⟨ret_e (by unfold gateErr; simp; omega), by first | exact HB.out.alloc HB.out.size _ | exact HB.out⟩
          · have ub' : at_ ≤ b := by omega
            have dub : decide (b < at_) = false := decide_eq_false ub
            have HN := Lib.hid (fun W => named_5 W)
            go_enter Tryz.func61, Tryz.ntmps61
            go_wp2_with (first | (go_at_call 95; refine (HN.out _).mono ?_; rintro e w1 ⟨rfl, hb1⟩; have hz : w.heap.size < w1.heap.size := (by have h5 := hb1.size; simp at h5; omega); have c0 := hb1.cell (p := ⟨w.heap.size, 0, none⟩) (by simp); have c1 := hb1.cell (p := ⟨w.heap.size, 1, none⟩) (by simp); have c2 := hb1.cell (p := ⟨w.heap.size, 2, none⟩) (by simp); have c3 := hb1.cell (p := ⟨w.heap.size, 3, none⟩) (by simp); have HB := Lib.hid (below_box hb1); clear hb1) | (go_at_call 96; refine (within_any _ _ _).mono ?_; rintro e w1 ⟨rfl, rfl⟩))
            go_ret
            exact ⟨ret_e (by unfold gateErr; simp; omega), by first | exact HB.out.alloc HB.out.size _ | exact HB.out⟩
        · have lb' : b < 0 := by omega
          have dlb : decide (0 ≤ b) = false := decide_eq_false lb
          have HN := Lib.hid (fun W => named_5 W)
          go_enter Tryz.func61, Tryz.ntmps61
          go_wp2_with (first | (go_at_call 95; refine (HN.out _).mono ?_; rintro e w1 ⟨rfl, hb1⟩; have hz : w.heap.size < w1.heap.size := (by have h5 := hb1.size; simp at h5; omega); have c0 := hb1.cell (p := ⟨w.heap.size, 0, none⟩) (by simp); have c1 := hb1.cell (p := ⟨w.heap.size, 1, none⟩) (by simp); have c2 := hb1.cell (p := ⟨w.heap.size, 2, none⟩) (by simp); have c3 := hb1.cell (p := ⟨w.heap.size, 3, none⟩) (by simp); have HB := Lib.hid (below_box hb1); clear hb1) | (go_at_call 96; refine (within_any _ _ _).mono ?_; rintro e w1 ⟨rfl, rfl⟩))
          go_ret
          exact ⟨ret_e (by unfold gateErr; simp; omega), by first | exact HB.out.alloc HB.out.size _ | exact HB.out⟩
      · have ua' : at_ ≤ a := by omega
        have dua : decide (a < at_) = false := decide_eq_false ua
        have HN := Lib.hid (fun W => named_5 W)
        go_enter Tryz.func61, Tryz.ntmps61
        go_wp2_with (first | (go_at_call 95; refine (HN.out _).mono ?_; rintro e w1 ⟨rfl, hb1⟩; have hz : w.heap.size < w1.heap.size := (by have h5 := hb1.size; simp at h5; omega); have c0 := hb1.cell (p := ⟨w.heap.size, 0, none⟩) (by simp); have c1 := hb1.cell (p := ⟨w.heap.size, 1, none⟩) (by simp); have c2 := hb1.cell (p := ⟨w.heap.size, 2, none⟩) (by simp); have c3 := hb1.cell (p := ⟨w.heap.size, 3, none⟩) (by simp); have HB := Lib.hid (below_box hb1); clear hb1) | (go_at_call 96; refine (within_any _ _ _).mono ?_; rintro e w1 ⟨rfl, rfl⟩))
        go_ret
        exact ⟨ret_e (by unfold gateErr; simp; omega), by first | exact HB.out.alloc HB.out.size _ | exact HB.out⟩
    · have la' : a < 0 := by omega
      have dla : decide (0 ≤ a) = false := decide_eq_false la
      have HN := Lib.hid (fun W => named_5 W)
      go_enter Tryz.func61, Tryz.ntmps61
      go_wp2_with (first | (go_at_call 95; refine (HN.out _).mono ?_; rintro e w1 ⟨rfl, hb1⟩; have hz : w.heap.size < w1.heap.size := (by have h5 := hb1.size; simp at h5; omega); have c0 := hb1.cell (p := ⟨w.heap.size, 0, none⟩) (by simp); have c1 := hb1.cell (p := ⟨w.heap.size, 1, none⟩) (by simp); have c2 := hb1.cell (p := ⟨w.heap.size, 2, none⟩) (by simp); have c3 := hb1.cell (p := ⟨w.heap.size, 3, none⟩) (by simp); have HB := Lib.hid (below_box hb1); clear hb1) | (go_at_call 96; refine (within_any _ _ _).mono ?_; rintro e w1 ⟨rfl, rfl⟩))
      go_ret
      exact ⟨ret_e (by unfold gateErr; simp; omega), by first | exact HB.out.alloc HB.out.size _ | exact HB.out⟩
  · have iK : (K == 0) = false := by simpa using hK
    have HN := Lib.hid (fun W => named_5 W)
    go_enter Tryz.func61, Tryz.ntmps61
    go_wp2_with (first | (go_at_call 95; refine (HN.out _).mono ?_; rintro e w1 ⟨rfl, hb1⟩; have hz : w.heap.size < w1.heap.size := (by have h5 := hb1.size; simp at h5; omega); have c0 := hb1.cell (p := ⟨w.heap.size, 0, none⟩) (by simp); have c1 := hb1.cell (p := ⟨w.heap.size, 1, none⟩) (by simp); have c2 := hb1.cell (p := ⟨w.heap.size, 2, none⟩) (by simp); have c3 := hb1.cell (p := ⟨w.heap.size, 3, none⟩) (by simp); have HB := Lib.hid (below_box hb1); clear hb1) | (go_at_call 96; refine (within_any _ _ _).mono ?_; rintro e w1 ⟨rfl, rfl⟩))
    go_ret
    exact ⟨ret_e (by simp [gateErr, hK]), by first | exact HB.out.alloc HB.out.size _ | exact HB.out⟩
set_option maxHeartbeats 2000000 in
set_option maxRecDepth 100000 in
theorem gate_6 (p : Nat) (hp : 0 < p) (slots at_ a b K : Int) (w : World) : Calls Tryz.prog 61 #[.int .u64 p, .int .i64 slots, .int .i64 at_, .agg #[.int .i64 6, .int .i64 a, .int .i64 b, .int .u64 K]] w (GatePost (gateErr p slots at_ 6 a b K) w) := by
  have ip : (0 : Int) < (p : Int) := by omega
  by_cases hb : b = 0
  · subst hb
    by_cases la : 0 ≤ a
    · by_cases ua : a < at_
      · skip
        by_cases hk : K < (p : Int)
        · skip
          have HN := Lib.hid (fun W => named_6 W)
          go_enter Tryz.func61, Tryz.ntmps61
          go_wp2_with (first | (go_at_call 95; refine (HN.out _).mono ?_; rintro e w1 ⟨rfl, hb1⟩; have hz : w.heap.size < w1.heap.size := (by have h5 := hb1.size; simp at h5; omega); have c0 := hb1.cell (p := ⟨w.heap.size, 0, none⟩) (by simp); have c1 := hb1.cell (p := ⟨w.heap.size, 1, none⟩) (by simp); have c2 := hb1.cell (p := ⟨w.heap.size, 2, none⟩) (by simp); have c3 := hb1.cell (p := ⟨w.heap.size, 3, none⟩) (by simp); have HB := Lib.hid (below_box hb1); clear hb1) | (go_at_call 96; refine (within_any _ _ _).mono ?_; rintro e w1 ⟨rfl, rfl⟩))
          go_ret
          exact ⟨ret_e (by unfold gateErr; simp; omega), by first | exact HB.out.alloc HB.out.size _ | exact HB.out⟩
        · have hk' : (p : Int) ≤ K := by omega
          have HN := Lib.hid (fun W => named_6 W)
          go_enter Tryz.func61, Tryz.ntmps61
          go_wp2_with (first | (go_at_call 95; refine (HN.out _).mono ?_; rintro e w1 ⟨rfl, hb1⟩; have hz : w.heap.size < w1.heap.size := (by have h5 := hb1.size; simp at h5; omega); have c0 := hb1.cell (p := ⟨w.heap.size, 0, none⟩) (by simp); have c1 := hb1.cell (p := ⟨w.heap.size, 1, none⟩) (by simp); have c2 := hb1.cell (p := ⟨w.heap.size, 2, none⟩) (by simp); have c3 := hb1.cell (p := ⟨w.heap.size, 3, none⟩) (by simp); have HB := Lib.hid (below_box hb1); clear hb1) | (go_at_call 96; refine (within_any _ _ _).mono ?_; rintro e w1 ⟨rfl, rfl⟩))
          go_ret
          exact ⟨ret_e (by unfold gateErr; simp; omega), by first | exact HB.out.alloc HB.out.size _ | exact HB.out⟩
      · have ua' : at_ ≤ a := by omega
        have dua : decide (a < at_) = false := decide_eq_false ua
        have HN := Lib.hid (fun W => named_6 W)
        go_enter Tryz.func61, Tryz.ntmps61
        go_wp2_with (first | (go_at_call 95; refine (HN.out _).mono ?_; rintro e w1 ⟨rfl, hb1⟩; have hz : w.heap.size < w1.heap.size := (by have h5 := hb1.size; simp at h5; omega); have c0 := hb1.cell (p := ⟨w.heap.size, 0, none⟩) (by simp); have c1 := hb1.cell (p := ⟨w.heap.size, 1, none⟩) (by simp); have c2 := hb1.cell (p := ⟨w.heap.size, 2, none⟩) (by simp); have c3 := hb1.cell (p := ⟨w.heap.size, 3, none⟩) (by simp); have HB := Lib.hid (below_box hb1); clear hb1) | (go_at_call 96; refine (within_any _ _ _).mono ?_; rintro e w1 ⟨rfl, rfl⟩))
        go_ret
        exact ⟨ret_e (by unfold gateErr; simp; omega), by first | exact HB.out.alloc HB.out.size _ | exact HB.out⟩
    · have la' : a < 0 := by omega
      have dla : decide (0 ≤ a) = false := decide_eq_false la
      have HN := Lib.hid (fun W => named_6 W)
      go_enter Tryz.func61, Tryz.ntmps61
      go_wp2_with (first | (go_at_call 95; refine (HN.out _).mono ?_; rintro e w1 ⟨rfl, hb1⟩; have hz : w.heap.size < w1.heap.size := (by have h5 := hb1.size; simp at h5; omega); have c0 := hb1.cell (p := ⟨w.heap.size, 0, none⟩) (by simp); have c1 := hb1.cell (p := ⟨w.heap.size, 1, none⟩) (by simp); have c2 := hb1.cell (p := ⟨w.heap.size, 2, none⟩) (by simp); have c3 := hb1.cell (p := ⟨w.heap.size, 3, none⟩) (by simp); have HB := Lib.hid (below_box hb1); clear hb1) | (go_at_call 96; refine (within_any _ _ _).mono ?_; rintro e w1 ⟨rfl, rfl⟩))
      go_ret
      exact ⟨ret_e (by unfold gateErr; simp; omega), by first | exact HB.out.alloc HB.out.size _ | exact HB.out⟩
  · have ib : (b == 0) = false := by simpa using hb
    have HN := Lib.hid (fun W => named_6 W)
    go_enter Tryz.func61, Tryz.ntmps61
    go_wp2_with (first | (go_at_call 95; refine (HN.out _).mono ?_; rintro e w1 ⟨rfl, hb1⟩; have hz : w.heap.size < w1.heap.size := (by have h5 := hb1.size; simp at h5; omega); have c0 := hb1.cell (p := ⟨w.heap.size, 0, none⟩) (by simp); have c1 := hb1.cell (p := ⟨w.heap.size, 1, none⟩) (by simp); have c2 := hb1.cell (p := ⟨w.heap.size, 2, none⟩) (by simp); have c3 := hb1.cell (p := ⟨w.heap.size, 3, none⟩) (by simp); have HB := Lib.hid (below_box hb1); clear hb1) | (go_at_call 96; refine (within_any _ _ _).mono ?_; rintro e w1 ⟨rfl, rfl⟩))
    go_ret
    exact ⟨ret_e (by simp [gateErr, hb]), by first | exact HB.out.alloc HB.out.size _ | exact HB.out⟩
set_option maxHeartbeats 2000000 in
set_option maxRecDepth 100000 in
theorem gate_else (p : Nat) (hp : 0 < p) (slots at_ k a b K : Int) (n1 : (k == 1) = false) (n2 : (k == 2) = false) (n3 : (k == 3) = false) (n4 : (k == 4) = false) (n5 : (k == 5) = false) (n6 : (k == 6) = false) (w : World) : Calls Tryz.prog 61 #[.int .u64 p, .int .i64 slots, .int .i64 at_, .agg #[.int .i64 k, .int .i64 a, .int .i64 b, .int .u64 K]] w (GatePost (gateErr p slots at_ k a b K) w) := by
  have ip : (0 : Int) < (p : Int) := by omega
  have HN := Lib.hid (fun W => named_else k n1 n2 n3 n4 n5 n6 W)
  go_enter Tryz.func61, Tryz.ntmps61
  go_wp2_with (first | (go_at_call 95; refine (HN.out _).mono ?_; rintro e w1 ⟨rfl, hb1⟩; have hz : w.heap.size < w1.heap.size := (by have h5 := hb1.size; simp at h5; omega); have c0 := hb1.cell (p := ⟨w.heap.size, 0, none⟩) (by simp); have c1 := hb1.cell (p := ⟨w.heap.size, 1, none⟩) (by simp); have c2 := hb1.cell (p := ⟨w.heap.size, 2, none⟩) (by simp); have c3 := hb1.cell (p := ⟨w.heap.size, 3, none⟩) (by simp); have HB := Lib.hid (below_box hb1); clear hb1) | (go_at_call 96; refine (within_any _ _ _).mono ?_; rintro e w1 ⟨rfl, rfl⟩))
  go_ret
  exact ⟨ret_e (by simp at n1 n2 n3 n4 n5 n6; simp [gateErr, n1, n2, n3, n4, n5, n6]), by first | exact HB.out.alloc HB.out.size _ | exact HB.out⟩
set_option maxHeartbeats 2000000 in
set_option maxRecDepth 100000 in
theorem rgate_1 (p : Nat) (hp : 0 < p) (slots at_ a b K : Int) (w : World) : Calls Tryz.prog 56 #[.int .u64 p, .int .i64 slots, .int .i64 at_, .agg #[.int .i64 1, .int .i64 a, .int .i64 b, .int .u64 K]] w (GatePost (gateErr p slots at_ 1 a b K) w) := by
  have ip : (0 : Int) < (p : Int) := by omega
  by_cases hb : b = 0
  · subst hb
    by_cases hK : K = 0
    · subst hK
      by_cases la : 0 ≤ a
      · by_cases ua : a < slots
        · skip
          go_enter Tryz.func56, Tryz.ntmps56
          go_wp2
          go_ret
          exact ⟨ret_e (by unfold gateErr; simp; omega), (Below.refl _ _).alloc (Nat.le_refl _) _⟩
        · have ua' : slots ≤ a := by omega
          have dua : decide (a < slots) = false := decide_eq_false ua
          go_enter Tryz.func56, Tryz.ntmps56
          go_wp2
          go_ret
          exact ⟨ret_e (by unfold gateErr; simp; omega), (Below.refl _ _).alloc (Nat.le_refl _) _⟩
      · have la' : a < 0 := by omega
        have dla : decide (0 ≤ a) = false := decide_eq_false la
        go_enter Tryz.func56, Tryz.ntmps56
        go_wp2
        go_ret
        exact ⟨ret_e (by unfold gateErr; simp; omega), (Below.refl _ _).alloc (Nat.le_refl _) _⟩
    · have iK : (K == 0) = false := by simpa using hK
      go_enter Tryz.func56, Tryz.ntmps56
      go_wp2
      go_ret
      exact ⟨ret_e (by simp [gateErr, hK]), (Below.refl _ _).alloc (Nat.le_refl _) _⟩
  · have ib : (b == 0) = false := by simpa using hb
    go_enter Tryz.func56, Tryz.ntmps56
    go_wp2
    go_ret
    exact ⟨ret_e (by simp [gateErr, hb]), (Below.refl _ _).alloc (Nat.le_refl _) _⟩
set_option maxHeartbeats 2000000 in
set_option maxRecDepth 100000 in
theorem rgate_2 (p : Nat) (hp : 0 < p) (slots at_ a b K : Int) (w : World) : Calls Tryz.prog 56 #[.int .u64 p, .int .i64 slots, .int .i64 at_, .agg #[.int .i64 2, .int .i64 a, .int .i64 b, .int .u64 K]] w (GatePost (gateErr p slots at_ 2 a b K) w) := by
  have ip : (0 : Int) < (p : Int) := by omega
  by_cases ha : a = 0
  · subst ha
    by_cases hb : b = 0
    · subst hb
      by_cases hk : K < (p : Int)
      · skip
        go_enter Tryz.func56, Tryz.ntmps56
        go_wp2
        go_ret
        exact ⟨ret_e (by unfold gateErr; simp; omega), (Below.refl _ _).alloc (Nat.le_refl _) _⟩
      · have hk' : (p : Int) ≤ K := by omega
        go_enter Tryz.func56, Tryz.ntmps56
        go_wp2
        go_ret
        exact ⟨ret_e (by unfold gateErr; simp; omega), (Below.refl _ _).alloc (Nat.le_refl _) _⟩
    · have ib : (b == 0) = false := by simpa using hb
      go_enter Tryz.func56, Tryz.ntmps56
      go_wp2
      go_ret
      exact ⟨ret_e (by simp [gateErr, hb]), (Below.refl _ _).alloc (Nat.le_refl _) _⟩
  · have ia : (a == 0) = false := by simpa using ha
    go_enter Tryz.func56, Tryz.ntmps56
    go_wp2
    go_ret
    exact ⟨ret_e (by simp [gateErr, ha]), (Below.refl _ _).alloc (Nat.le_refl _) _⟩
set_option maxHeartbeats 2000000 in
set_option maxRecDepth 100000 in
theorem rgate_3 (p : Nat) (hp : 0 < p) (slots at_ a b K : Int) (w : World) : Calls Tryz.prog 56 #[.int .u64 p, .int .i64 slots, .int .i64 at_, .agg #[.int .i64 3, .int .i64 a, .int .i64 b, .int .u64 K]] w (GatePost (gateErr p slots at_ 3 a b K) w) := by
  have ip : (0 : Int) < (p : Int) := by omega
  by_cases hK : K = 0
  · subst hK
    by_cases la : 0 ≤ a
    · by_cases ua : a < at_
      · skip
        by_cases lb : 0 ≤ b
        · by_cases ub : b < at_
          · skip
            go_enter Tryz.func56, Tryz.ntmps56
            go_wp2
            go_ret
            exact ⟨ret_e (by unfold gateErr; simp; omega), (Below.refl _ _).alloc (Nat.le_refl _) _⟩
          · have ub' : at_ ≤ b := by omega
            have dub : decide (b < at_) = false := decide_eq_false ub
            go_enter Tryz.func56, Tryz.ntmps56
            go_wp2
            go_ret
            exact ⟨ret_e (by unfold gateErr; simp; omega), (Below.refl _ _).alloc (Nat.le_refl _) _⟩
        · have lb' : b < 0 := by omega
          have dlb : decide (0 ≤ b) = false := decide_eq_false lb
          go_enter Tryz.func56, Tryz.ntmps56
          go_wp2
          go_ret
          exact ⟨ret_e (by unfold gateErr; simp; omega), (Below.refl _ _).alloc (Nat.le_refl _) _⟩
      · have ua' : at_ ≤ a := by omega
        have dua : decide (a < at_) = false := decide_eq_false ua
        go_enter Tryz.func56, Tryz.ntmps56
        go_wp2
        go_ret
        exact ⟨ret_e (by unfold gateErr; simp; omega), (Below.refl _ _).alloc (Nat.le_refl _) _⟩
    · have la' : a < 0 := by omega
      have dla : decide (0 ≤ a) = false := decide_eq_false la
      go_enter Tryz.func56, Tryz.ntmps56
      go_wp2
      go_ret
      exact ⟨ret_e (by unfold gateErr; simp; omega), (Below.refl _ _).alloc (Nat.le_refl _) _⟩
  · have iK : (K == 0) = false := by simpa using hK
    go_enter Tryz.func56, Tryz.ntmps56
    go_wp2
    go_ret
    exact ⟨ret_e (by simp [gateErr, hK]), (Below.refl _ _).alloc (Nat.le_refl _) _⟩
set_option maxHeartbeats 2000000 in
set_option maxRecDepth 100000 in
theorem rgate_4 (p : Nat) (hp : 0 < p) (slots at_ a b K : Int) (w : World) : Calls Tryz.prog 56 #[.int .u64 p, .int .i64 slots, .int .i64 at_, .agg #[.int .i64 4, .int .i64 a, .int .i64 b, .int .u64 K]] w (GatePost (gateErr p slots at_ 4 a b K) w) := by
  have ip : (0 : Int) < (p : Int) := by omega
  by_cases hK : K = 0
  · subst hK
    by_cases la : 0 ≤ a
    · by_cases ua : a < at_
      · skip
        by_cases lb : 0 ≤ b
        · by_cases ub : b < at_
          · skip
            go_enter Tryz.func56, Tryz.ntmps56
            go_wp2
            go_ret
            exact ⟨ret_e (by unfold gateErr; simp; omega), (Below.refl _ _).alloc (Nat.le_refl _) _⟩
          · have ub' : at_ ≤ b := by omega
            have dub : decide (b < at_) = false := decide_eq_false ub
            go_enter Tryz.func56, Tryz.ntmps56
            go_wp2
            go_ret
            exact ⟨ret_e (by unfold gateErr; simp; omega), (Below.refl _ _).alloc (Nat.le_refl _) _⟩
        · have lb' : b < 0 := by omega
          have dlb : decide (0 ≤ b) = false := decide_eq_false lb
          go_enter Tryz.func56, Tryz.ntmps56
          go_wp2
          go_ret
          exact ⟨ret_e (by unfold gateErr; simp; omega), (Below.refl _ _).alloc (Nat.le_refl _) _⟩
      · have ua' : at_ ≤ a := by omega
        have dua : decide (a < at_) = false := decide_eq_false ua
        go_enter Tryz.func56, Tryz.ntmps56
        go_wp2
        go_ret
        exact ⟨ret_e (by unfold gateErr; simp; omega), (Below.refl _ _).alloc (Nat.le_refl _) _⟩
    · have la' : a < 0 := by omega
      have dla : decide (0 ≤ a) = false := decide_eq_false la
      go_enter Tryz.func56, Tryz.ntmps56
      go_wp2
      go_ret
      exact ⟨ret_e (by unfold gateErr; simp; omega), (Below.refl _ _).alloc (Nat.le_refl _) _⟩
  · have iK : (K == 0) = false := by simpa using hK
    go_enter Tryz.func56, Tryz.ntmps56
    go_wp2
    go_ret
    exact ⟨ret_e (by simp [gateErr, hK]), (Below.refl _ _).alloc (Nat.le_refl _) _⟩
set_option maxHeartbeats 2000000 in
set_option maxRecDepth 100000 in
theorem rgate_5 (p : Nat) (hp : 0 < p) (slots at_ a b K : Int) (w : World) : Calls Tryz.prog 56 #[.int .u64 p, .int .i64 slots, .int .i64 at_, .agg #[.int .i64 5, .int .i64 a, .int .i64 b, .int .u64 K]] w (GatePost (gateErr p slots at_ 5 a b K) w) := by
  have ip : (0 : Int) < (p : Int) := by omega
  by_cases hK : K = 0
  · subst hK
    by_cases la : 0 ≤ a
    · by_cases ua : a < at_
      · skip
        by_cases lb : 0 ≤ b
        · by_cases ub : b < at_
          · skip
            go_enter Tryz.func56, Tryz.ntmps56
            go_wp2
            go_ret
            exact ⟨ret_e (by unfold gateErr; simp; omega), (Below.refl _ _).alloc (Nat.le_refl _) _⟩
          · have ub' : at_ ≤ b := by omega
            have dub : decide (b < at_) = false := decide_eq_false ub
            go_enter Tryz.func56, Tryz.ntmps56
            go_wp2
            go_ret
            exact ⟨ret_e (by unfold gateErr; simp; omega), (Below.refl _ _).alloc (Nat.le_refl _) _⟩
        · have lb' : b < 0 := by omega
          have dlb : decide (0 ≤ b) = false := decide_eq_false lb
          go_enter Tryz.func56, Tryz.ntmps56
          go_wp2
          go_ret
          exact ⟨ret_e (by unfold gateErr; simp; omega), (Below.refl _ _).alloc (Nat.le_refl _) _⟩
      · have ua' : at_ ≤ a := by omega
        have dua : decide (a < at_) = false := decide_eq_false ua
        go_enter Tryz.func56, Tryz.ntmps56
        go_wp2
        go_ret
        exact ⟨ret_e (by unfold gateErr; simp; omega), (Below.refl _ _).alloc (Nat.le_refl _) _⟩
    · have la' : a < 0 := by omega
      have dla : decide (0 ≤ a) = false := decide_eq_false la
      go_enter Tryz.func56, Tryz.ntmps56
      go_wp2
      go_ret
      exact ⟨ret_e (by unfold gateErr; simp; omega), (Below.refl _ _).alloc (Nat.le_refl _) _⟩
  · have iK : (K == 0) = false := by simpa using hK
    go_enter Tryz.func56, Tryz.ntmps56
    go_wp2
    go_ret
    exact ⟨ret_e (by simp [gateErr, hK]), (Below.refl _ _).alloc (Nat.le_refl _) _⟩
set_option maxHeartbeats 2000000 in
set_option maxRecDepth 100000 in
theorem rgate_6 (p : Nat) (hp : 0 < p) (slots at_ a b K : Int) (w : World) : Calls Tryz.prog 56 #[.int .u64 p, .int .i64 slots, .int .i64 at_, .agg #[.int .i64 6, .int .i64 a, .int .i64 b, .int .u64 K]] w (GatePost (gateErr p slots at_ 6 a b K) w) := by
  have ip : (0 : Int) < (p : Int) := by omega
  by_cases hb : b = 0
  · subst hb
    by_cases la : 0 ≤ a
    · by_cases ua : a < at_
      · skip
        by_cases hk : K < (p : Int)
        · skip
          go_enter Tryz.func56, Tryz.ntmps56
          go_wp2
          go_ret
          exact ⟨ret_e (by unfold gateErr; simp; omega), (Below.refl _ _).alloc (Nat.le_refl _) _⟩
        · have hk' : (p : Int) ≤ K := by omega
          go_enter Tryz.func56, Tryz.ntmps56
          go_wp2
          go_ret
          exact ⟨ret_e (by unfold gateErr; simp; omega), (Below.refl _ _).alloc (Nat.le_refl _) _⟩
      · have ua' : at_ ≤ a := by omega
        have dua : decide (a < at_) = false := decide_eq_false ua
        go_enter Tryz.func56, Tryz.ntmps56
        go_wp2
        go_ret
        exact ⟨ret_e (by unfold gateErr; simp; omega), (Below.refl _ _).alloc (Nat.le_refl _) _⟩
    · have la' : a < 0 := by omega
      have dla : decide (0 ≤ a) = false := decide_eq_false la
      go_enter Tryz.func56, Tryz.ntmps56
      go_wp2
      go_ret
      exact ⟨ret_e (by unfold gateErr; simp; omega), (Below.refl _ _).alloc (Nat.le_refl _) _⟩
  · have ib : (b == 0) = false := by simpa using hb
    go_enter Tryz.func56, Tryz.ntmps56
    go_wp2
    go_ret
    exact ⟨ret_e (by simp [gateErr, hb]), (Below.refl _ _).alloc (Nat.le_refl _) _⟩
set_option maxHeartbeats 2000000 in
set_option maxRecDepth 100000 in
theorem rgate_else (p : Nat) (hp : 0 < p) (slots at_ k a b K : Int) (n1 : (k == 1) = false) (n2 : (k == 2) = false) (n3 : (k == 3) = false) (n4 : (k == 4) = false) (n5 : (k == 5) = false) (n6 : (k == 6) = false) (w : World) : Calls Tryz.prog 56 #[.int .u64 p, .int .i64 slots, .int .i64 at_, .agg #[.int .i64 k, .int .i64 a, .int .i64 b, .int .u64 K]] w (GatePost (gateErr p slots at_ k a b K) w) := by
  have ip : (0 : Int) < (p : Int) := by omega
  go_enter Tryz.func56, Tryz.ntmps56
  go_wp2
  go_ret
  exact ⟨ret_e (by simp at n1 n2 n3 n4 n5 n6; simp [gateErr, n1, n2, n3, n4, n5, n6]), (Below.refl _ _).alloc (Nat.le_refl _) _⟩
theorem gate_any (p : Nat) (hp : 0 < p) (slots at_ k a b K : Int) (w : World) : Calls Tryz.prog 61 #[.int .u64 p, .int .i64 slots, .int .i64 at_, .agg #[.int .i64 k, .int .i64 a, .int .i64 b, .int .u64 K]] w (GatePost (gateErr p slots at_ k a b K) w) := by
  rcases Bool.eq_false_or_eq_true (k == 1) with n1 | n1
  · obtain rfl : k = 1 := by simpa using n1
    exact gate_1 p hp slots at_ a b K w
  rcases Bool.eq_false_or_eq_true (k == 2) with n2 | n2
  · obtain rfl : k = 2 := by simpa using n2
    exact gate_2 p hp slots at_ a b K w
  rcases Bool.eq_false_or_eq_true (k == 3) with n3 | n3
  · obtain rfl : k = 3 := by simpa using n3
    exact gate_3 p hp slots at_ a b K w
  rcases Bool.eq_false_or_eq_true (k == 4) with n4 | n4
  · obtain rfl : k = 4 := by simpa using n4
    exact gate_4 p hp slots at_ a b K w
  rcases Bool.eq_false_or_eq_true (k == 5) with n5 | n5
  · obtain rfl : k = 5 := by simpa using n5
    exact gate_5 p hp slots at_ a b K w
  rcases Bool.eq_false_or_eq_true (k == 6) with n6 | n6
  · obtain rfl : k = 6 := by simpa using n6
    exact gate_6 p hp slots at_ a b K w
  exact gate_else p hp slots at_ k a b K n1 n2 n3 n4 n5 n6 w
theorem rgate_any (p : Nat) (hp : 0 < p) (slots at_ k a b K : Int) (w : World) : Calls Tryz.prog 56 #[.int .u64 p, .int .i64 slots, .int .i64 at_, .agg #[.int .i64 k, .int .i64 a, .int .i64 b, .int .u64 K]] w (GatePost (gateErr p slots at_ k a b K) w) := by
  rcases Bool.eq_false_or_eq_true (k == 1) with n1 | n1
  · obtain rfl : k = 1 := by simpa using n1
    exact rgate_1 p hp slots at_ a b K w
  rcases Bool.eq_false_or_eq_true (k == 2) with n2 | n2
  · obtain rfl : k = 2 := by simpa using n2
    exact rgate_2 p hp slots at_ a b K w
  rcases Bool.eq_false_or_eq_true (k == 3) with n3 | n3
  · obtain rfl : k = 3 := by simpa using n3
    exact rgate_3 p hp slots at_ a b K w
  rcases Bool.eq_false_or_eq_true (k == 4) with n4 | n4
  · obtain rfl : k = 4 := by simpa using n4
    exact rgate_4 p hp slots at_ a b K w
  rcases Bool.eq_false_or_eq_true (k == 5) with n5 | n5
  · obtain rfl : k = 5 := by simpa using n5
    exact rgate_5 p hp slots at_ a b K w
  rcases Bool.eq_false_or_eq_true (k == 6) with n6 | n6
  · obtain rfl : k = 6 := by simpa using n6
    exact rgate_6 p hp slots at_ a b K w
  exact rgate_else p hp slots at_ k a b K n1 n2 n3 n4 n5 n6 w
end Go.Proofs.YtkcdlbclodjjhaaGreat
