/- Contract of circ.words, one theorem a kind of gate. (Printed by wip/tools/gen_words.py.) -/
import Derived.Test.YtmnbgamnbgdnnaaGreatDoorCirS
namespace Go.Proofs.YtmnbgamnbgdnnaaGreatDoor
open Go.RowKit

/-- A block that holds these words. -/
def Strs (w : World) (N : Nat) (l : List Bs) : Prop := w.heap[N]? = some (.cells (l.map fun x => Value.string ⟨x.toArray⟩).toArray 9 (0, 0))
def WPost (l : List Bs) (w : World) (e : Ending) (w' : World) : Prop := ∃ N, e = .returned (.slice (some ⟨N, 0, none⟩) l.length l.length) ∧ Strs w' N l ∧ Below w.heap.size w w'
theorem startS {w w1 : World} {a b : Int} (h1 : w1.cell? ⟨w.heap.size, 1, none⟩ = some (.int .i64 a)) (h2 : w1.cell? ⟨w.heap.size, 2, none⟩ = some (.int .i64 b)) (h3 : w.heap.size < w1.heap.size) (h4 : PowTab w1) (h5 : Below w.heap.size w w1) :
    w1.drew.cell? ⟨w.heap.size, 1, none⟩ = some (.int .i64 a) ∧ w1.drew.cell? ⟨w.heap.size, 2, none⟩ = some (.int .i64 b) ∧ w.heap.size < w1.drew.heap.size ∧ Hid (PowTab w1.drew) ∧ Hid (Below w.heap.size w w1.drew) :=
  ⟨h1, h2, h3, PowTab.below h4 (below_drewN (Below.refl _ _) 1), below_drewN h5 1⟩
theorem stepS {w W W' : World} {a b : Int} (h : W.cell? ⟨w.heap.size, 1, none⟩ = some (.int .i64 a) ∧ W.cell? ⟨w.heap.size, 2, none⟩ = some (.int .i64 b) ∧ w.heap.size < W.heap.size ∧ Hid (PowTab W) ∧ Hid (Below w.heap.size w W)) (hb : Below W.heap.size W W') :
    W'.cell? ⟨w.heap.size, 1, none⟩ = some (.int .i64 a) ∧ W'.cell? ⟨w.heap.size, 2, none⟩ = some (.int .i64 b) ∧ w.heap.size < W'.heap.size ∧ Hid (PowTab W') ∧ Hid (Below w.heap.size w W') :=
  ⟨(hb.cell (p := ⟨w.heap.size, 1, none⟩) h.2.2.1).trans h.1, (hb.cell (p := ⟨w.heap.size, 2, none⟩) h.2.2.1).trans h.2.1, Nat.lt_of_lt_of_le h.2.2.1 hb.size, h.2.2.2.1.out.below hb, h.2.2.2.2.out.trans (hb.mono (Nat.le_of_lt h.2.2.1))⟩
theorem pow_S {A B C D : Prop} {W : World} (h : A ∧ B ∧ C ∧ Hid (PowTab W) ∧ D) : PowTab W := h.2.2.2.1.out
theorem below_S {A B C D : Prop} {w W : World} (h : A ∧ B ∧ C ∧ D ∧ Hid (Below w.heap.size w W)) : Below w.heap.size w W := h.2.2.2.2.out
theorem fmtB (K : Nat) (hK : K < 18446744073709551616) (w : World) (htab : PowTab w) : Calls Tryz.prog 88 #[.int .u64 K, .int .i64 10] w (SPost (numI K) w) := fmtPub_any K hK w htab

set_option maxHeartbeats 1000000 in
set_option maxRecDepth 100000 in
theorem words_1 (a b : Int) (K : Nat) (ha : 0 ≤ a ∧ a ≤ 9223372036854775807) (hb : 0 ≤ b ∧ b ≤ 9223372036854775807) (hK : K < 18446744073709551616) (w : World) (htab : PowTab w) :
    Calls Tryz.prog 55 #[.agg #[.int .i64 1, .int .i64 a, .int .i64 b, .int .u64 K]] w (WPost [kwIn, numI a] w) := by
  have HT := Lib.hid htab; clear htab
  have HA := Lib.hid (fun W h => words1_any a ha.1 ha.2 W h); clear ha
  have HC := Lib.hid (fun W h => words1_any b hb.1 hb.2 W h); clear hb
  have HF := Lib.hid (fmtB K hK); clear hK
  go_enter Tryz.func55, Tryz.ntmps55
  go_wp2_with (first | (go_at_call 88; refine (HF.out _ (Lib.tabIs_alloc HT.out _)).mono ?_; rintro e w1 ⟨rfl, hb1⟩; have hc1 := hb1.cell (p := ⟨w.heap.size, 1, none⟩) (by simp); have hc2 := hb1.cell (p := ⟨w.heap.size, 2, none⟩) (by simp); have hc0 := hb1.cell (p := ⟨w.heap.size, 0, none⟩) (by simp); simp at hc0 hc1 hc2; have hsz1 := hb1.size; simp at hsz1; have HT1 := Lib.hid (PowTab.below (Lib.tabIs_alloc HT.out _) hb1); have HB1 := Lib.hid (below_box hb1); clear hb1) | (go_at_call 87; refine (HA.out _ HT1.out).mono ?_; rintro e w2 ⟨rfl, hb2⟩; have HB2 := Lib.hid hb2; clear hb2))
  go_ret
  exact ⟨_, rfl, heap_alloc_new _ _, ((HB1.out.trans (HB2.out.mono HB1.out.size)).alloc (HB1.out.trans (HB2.out.mono HB1.out.size)).size _)⟩

set_option maxHeartbeats 1000000 in
set_option maxRecDepth 100000 in
theorem words_2 (a b : Int) (K : Nat) (ha : 0 ≤ a ∧ a ≤ 9223372036854775807) (hb : 0 ≤ b ∧ b ≤ 9223372036854775807) (hK : K < 18446744073709551616) (w : World) (htab : PowTab w) :
    Calls Tryz.prog 55 #[.agg #[.int .i64 2, .int .i64 a, .int .i64 b, .int .u64 K]] w (WPost [kwConst, numI K] w) := by
  have HT := Lib.hid htab; clear htab
  have HA := Lib.hid (fun W h => words1_any a ha.1 ha.2 W h); clear ha
  have HC := Lib.hid (fun W h => words1_any b hb.1 hb.2 W h); clear hb
  have HF := Lib.hid (fmtB K hK); clear hK
  go_enter Tryz.func55, Tryz.ntmps55
  go_wp2_with (first | (go_at_call 88; refine (HF.out _ (Lib.tabIs_alloc HT.out _)).mono ?_; rintro e w1 ⟨rfl, hb1⟩; have hc1 := hb1.cell (p := ⟨w.heap.size, 1, none⟩) (by simp); have hc2 := hb1.cell (p := ⟨w.heap.size, 2, none⟩) (by simp); have hc0 := hb1.cell (p := ⟨w.heap.size, 0, none⟩) (by simp); simp at hc0 hc1 hc2; have hsz1 := hb1.size; simp at hsz1; have HT1 := Lib.hid (PowTab.below (Lib.tabIs_alloc HT.out _) hb1); have HB1 := Lib.hid (below_box hb1); clear hb1))
  go_ret
  exact ⟨_, rfl, heap_alloc_new _ _, (HB1.out.alloc (Below.size HB1.out) _)⟩

set_option maxHeartbeats 1000000 in
set_option maxRecDepth 100000 in
theorem words_6 (a b : Int) (K : Nat) (ha : 0 ≤ a ∧ a ≤ 9223372036854775807) (hb : 0 ≤ b ∧ b ≤ 9223372036854775807) (hK : K < 18446744073709551616) (w : World) (htab : PowTab w) :
    Calls Tryz.prog 55 #[.agg #[.int .i64 6, .int .i64 a, .int .i64 b, .int .u64 K]] w (WPost [kwScale, numI a, numI K] w) := by
  have HT := Lib.hid htab; clear htab
  have HA := Lib.hid (fun W h => words1_any a ha.1 ha.2 W h); clear ha
  have HC := Lib.hid (fun W h => words1_any b hb.1 hb.2 W h); clear hb
  have HF := Lib.hid (fmtB K hK); clear hK
  go_enter Tryz.func55, Tryz.ntmps55
  go_wp2_with (first | (go_at_call 88; refine (HF.out _ (Lib.tabIs_alloc HT.out _)).mono ?_; rintro e w1 ⟨rfl, hb1⟩; have hc1 := hb1.cell (p := ⟨w.heap.size, 1, none⟩) (by simp); have hc2 := hb1.cell (p := ⟨w.heap.size, 2, none⟩) (by simp); have hc0 := hb1.cell (p := ⟨w.heap.size, 0, none⟩) (by simp); simp at hc0 hc1 hc2; have hsz1 := hb1.size; simp at hsz1; have HT1 := Lib.hid (PowTab.below (Lib.tabIs_alloc HT.out _) hb1); have HB1 := Lib.hid (below_box hb1); clear hb1) | (go_at_call 87; refine (HA.out _ HT1.out).mono ?_; rintro e w2 ⟨rfl, hb2⟩; have HB2 := Lib.hid hb2; clear hb2))
  go_ret
  exact ⟨_, rfl, heap_alloc_new _ _, ((HB1.out.trans (HB2.out.mono HB1.out.size)).alloc (HB1.out.trans (HB2.out.mono HB1.out.size)).size _)⟩

set_option maxHeartbeats 1000000 in
set_option maxRecDepth 100000 in
theorem words_3 (a b : Int) (K : Nat) (ha : 0 ≤ a ∧ a ≤ 9223372036854775807) (hb : 0 ≤ b ∧ b ≤ 9223372036854775807) (hK : K < 18446744073709551616) (w : World) (htab : PowTab w) :
    Calls Tryz.prog 55 #[.agg #[.int .i64 3, .int .i64 a, .int .i64 b, .int .u64 K]] w (WPost [kwAdd, numI a, numI b] w) := by
  have HT := Lib.hid htab; clear htab
  have HA := Lib.hid (fun W h => words1_any a ha.1 ha.2 W h); clear ha
  have HC := Lib.hid (fun W h => words1_any b hb.1 hb.2 W h); clear hb
  have HF := Lib.hid (fmtB K hK); clear hK
  go_enter Tryz.func55, Tryz.ntmps55
  go_wp2_with (first | (go_at_call 88; refine (HF.out _ (Lib.tabIs_alloc HT.out _)).mono ?_; rintro e w1 ⟨rfl, hb1⟩; have hc1 := hb1.cell (p := ⟨w.heap.size, 1, none⟩) (by simp); have hc2 := hb1.cell (p := ⟨w.heap.size, 2, none⟩) (by simp); have hc0 := hb1.cell (p := ⟨w.heap.size, 0, none⟩) (by simp); simp at hc0 hc1 hc2; have hsz1 := hb1.size; simp at hsz1; have HT1 := Lib.hid (PowTab.below (Lib.tabIs_alloc HT.out _) hb1); have HB1 := Lib.hid (below_box hb1); clear hb1))
  have hS0 := startS hc1 hc2 hsz1 HT1.out HB1.out
  go_region_held3 (fun W => W.cell? ⟨w.heap.size, 1, none⟩ = some (.int .i64 a) ∧ W.cell? ⟨w.heap.size, 2, none⟩ = some (.int .i64 b) ∧ w.heap.size < W.heap.size ∧ Hid (PowTab W) ∧ Hid (Below w.heap.size w W)) (first | assumption | exact stepS (by assumption) ((Below.refl _ _).alloc (Nat.le_refl _) _)) (first | (go_at_call 87; refine (HA.out _ (pow_S (by assumption))).mono ?_; rintro e w2 ⟨rfl, hb2⟩; have hS2 := stepS (by assumption) hb2; clear hb2) | (go_at_call 87; refine (HC.out _ (pow_S (by assumption))).mono ?_; rintro e w2 ⟨rfl, hb2⟩; have hS2 := stepS (by assumption) hb2; clear hb2))
  all_goals (try go_wp2)
  all_goals go_ret
  all_goals exact ⟨_, rfl, heap_alloc_new _ _, below_S (by assumption)⟩

set_option maxHeartbeats 1000000 in
set_option maxRecDepth 100000 in
theorem words_4 (a b : Int) (K : Nat) (ha : 0 ≤ a ∧ a ≤ 9223372036854775807) (hb : 0 ≤ b ∧ b ≤ 9223372036854775807) (hK : K < 18446744073709551616) (w : World) (htab : PowTab w) :
    Calls Tryz.prog 55 #[.agg #[.int .i64 4, .int .i64 a, .int .i64 b, .int .u64 K]] w (WPost [kwSub, numI a, numI b] w) := by
  have HT := Lib.hid htab; clear htab
  have HA := Lib.hid (fun W h => words1_any a ha.1 ha.2 W h); clear ha
  have HC := Lib.hid (fun W h => words1_any b hb.1 hb.2 W h); clear hb
  have HF := Lib.hid (fmtB K hK); clear hK
  go_enter Tryz.func55, Tryz.ntmps55
  go_wp2_with (first | (go_at_call 88; refine (HF.out _ (Lib.tabIs_alloc HT.out _)).mono ?_; rintro e w1 ⟨rfl, hb1⟩; have hc1 := hb1.cell (p := ⟨w.heap.size, 1, none⟩) (by simp); have hc2 := hb1.cell (p := ⟨w.heap.size, 2, none⟩) (by simp); have hc0 := hb1.cell (p := ⟨w.heap.size, 0, none⟩) (by simp); simp at hc0 hc1 hc2; have hsz1 := hb1.size; simp at hsz1; have HT1 := Lib.hid (PowTab.below (Lib.tabIs_alloc HT.out _) hb1); have HB1 := Lib.hid (below_box hb1); clear hb1))
  have hS0 := startS hc1 hc2 hsz1 HT1.out HB1.out
  go_region_held3 (fun W => W.cell? ⟨w.heap.size, 1, none⟩ = some (.int .i64 a) ∧ W.cell? ⟨w.heap.size, 2, none⟩ = some (.int .i64 b) ∧ w.heap.size < W.heap.size ∧ Hid (PowTab W) ∧ Hid (Below w.heap.size w W)) (first | assumption | exact stepS (by assumption) ((Below.refl _ _).alloc (Nat.le_refl _) _)) (first | (go_at_call 87; refine (HA.out _ (pow_S (by assumption))).mono ?_; rintro e w2 ⟨rfl, hb2⟩; have hS2 := stepS (by assumption) hb2; clear hb2) | (go_at_call 87; refine (HC.out _ (pow_S (by assumption))).mono ?_; rintro e w2 ⟨rfl, hb2⟩; have hS2 := stepS (by assumption) hb2; clear hb2))
  all_goals (try go_wp2)
  all_goals go_ret
  all_goals exact ⟨_, rfl, heap_alloc_new _ _, below_S (by assumption)⟩

set_option maxHeartbeats 1000000 in
set_option maxRecDepth 100000 in
theorem words_5 (a b : Int) (K : Nat) (ha : 0 ≤ a ∧ a ≤ 9223372036854775807) (hb : 0 ≤ b ∧ b ≤ 9223372036854775807) (hK : K < 18446744073709551616) (w : World) (htab : PowTab w) :
    Calls Tryz.prog 55 #[.agg #[.int .i64 5, .int .i64 a, .int .i64 b, .int .u64 K]] w (WPost [kwMul, numI a, numI b] w) := by
  have HT := Lib.hid htab; clear htab
  have HA := Lib.hid (fun W h => words1_any a ha.1 ha.2 W h); clear ha
  have HC := Lib.hid (fun W h => words1_any b hb.1 hb.2 W h); clear hb
  have HF := Lib.hid (fmtB K hK); clear hK
  go_enter Tryz.func55, Tryz.ntmps55
  go_wp2_with (first | (go_at_call 88; refine (HF.out _ (Lib.tabIs_alloc HT.out _)).mono ?_; rintro e w1 ⟨rfl, hb1⟩; have hc1 := hb1.cell (p := ⟨w.heap.size, 1, none⟩) (by simp); have hc2 := hb1.cell (p := ⟨w.heap.size, 2, none⟩) (by simp); have hc0 := hb1.cell (p := ⟨w.heap.size, 0, none⟩) (by simp); simp at hc0 hc1 hc2; have hsz1 := hb1.size; simp at hsz1; have HT1 := Lib.hid (PowTab.below (Lib.tabIs_alloc HT.out _) hb1); have HB1 := Lib.hid (below_box hb1); clear hb1))
  have hS0 := startS hc1 hc2 hsz1 HT1.out HB1.out
  go_region_held3 (fun W => W.cell? ⟨w.heap.size, 1, none⟩ = some (.int .i64 a) ∧ W.cell? ⟨w.heap.size, 2, none⟩ = some (.int .i64 b) ∧ w.heap.size < W.heap.size ∧ Hid (PowTab W) ∧ Hid (Below w.heap.size w W)) (first | assumption | exact stepS (by assumption) ((Below.refl _ _).alloc (Nat.le_refl _) _)) (first | (go_at_call 87; refine (HA.out _ (pow_S (by assumption))).mono ?_; rintro e w2 ⟨rfl, hb2⟩; have hS2 := stepS (by assumption) hb2; clear hb2) | (go_at_call 87; refine (HC.out _ (pow_S (by assumption))).mono ?_; rintro e w2 ⟨rfl, hb2⟩; have hS2 := stepS (by assumption) hb2; clear hb2))
  all_goals (try go_wp2)
  all_goals go_ret
  all_goals exact ⟨_, rfl, heap_alloc_new _ _, below_S (by assumption)⟩

theorem words_any (p : Nat) (L : Lis) (h : Fine p L) (g : Gat) (hg : g ∈ L.2.1) (w : World) (htab : PowTab w) :
    Calls Tryz.prog 55 #[.agg #[.int .i64 g.1, .int .i64 g.2.1, .int .i64 g.2.2.1, .int .u64 g.2.2.2]] w (WPost (gateWords g) w) := by
  obtain ⟨_, hk, ha, hb, hc⟩ := h.g g hg
  obtain ⟨k, a, b, K⟩ := g
  simp only at hk ha hb hc ⊢
  obtain ⟨K, rfl⟩ : ∃ n : Nat, K = n := ⟨K.toNat, by omega⟩
  rcases (show k = 1 ∨ k = 2 ∨ k = 3 ∨ k = 4 ∨ k = 5 ∨ k = 6 by omega) with rfl | rfl | rfl | rfl | rfl | rfl
  · exact words_1 a b K (by omega) (by omega) (by omega) w htab
  · exact words_2 a b K (by omega) (by omega) (by omega) w htab
  · exact words_3 a b K (by omega) (by omega) (by omega) w htab
  · exact words_4 a b K (by omega) (by omega) (by omega) w htab
  · exact words_5 a b K (by omega) (by omega) (by omega) w htab
  · exact words_6 a b K (by omega) (by omega) (by omega) w htab
end Go.Proofs.YtmnbgamnbgdnnaaGreatDoor
