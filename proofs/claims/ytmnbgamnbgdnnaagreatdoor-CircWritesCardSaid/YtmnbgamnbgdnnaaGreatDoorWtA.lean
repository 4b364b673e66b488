/- Contract of the reference's gateLine; a row of bytes that begins as a constant and grows. -/
import Derived.Test.YtmnbgamnbgdnnaaGreatDoorMi
import Derived.Deep.RegionHeld3
import Derived.Lib.AppendStr
import Derived.Lib.SlBytesConst
import Derived.ArgAppend
namespace Go.Proofs.YtmnbgamnbgdnnaaGreatDoor
open Go.RowKit

def NumS (n : Int) (w : World) (e : Ending) (w' : World) : Prop := ∃ t : ByteArray, e = .returned (.string t) ∧ t.size ≤ 20 ∧ Hid (t.data.toList = numI n) ∧ Below w.heap.size w w'
theorem numS_of {n : Int} (h0 : 0 ≤ n) (h1 : n ≤ 18446744073709551615) {w : World} {e : Ending} {w' : World} (h : SPost (numI n) w e w') : NumS n w e w' :=
  ⟨⟨(numI n).toArray⟩, h.1, by have := dec_len n.toNat (by omega); show (numI n).toArray.size ≤ 20; simpa [numI] using this, Lib.hid (by simp), h.2⟩
theorem rdig_s (n : Int) (h0 : 0 ≤ n) (h1 : n ≤ 18446744073709551615) (w : World) : Calls Tryz.prog 89 #[.int .u64 n] w (NumS n w) := by
  obtain ⟨u, rfl⟩ : ∃ u : Nat, n = u := ⟨n.toNat, by omega⟩
  exact (rdigits_any u (by omega) w).mono fun e w' h => numS_of h0 h1 h
theorem rnum_s (n : Int) (h0 : 0 ≤ n) (h1 : n ≤ 9223372036854775807) (w : World) : Calls Tryz.prog 59 #[.int .i64 n] w (NumS n w) :=
  (rnumber_any n h0 h1 w).mono fun e w' h => numS_of h0 (by omega) h
theorem stepGl {w W W' : World} {v0 v1 v2 v3 : Value} (h : W.cell? ⟨w.heap.size, 0, none⟩ = some v0 ∧ W.cell? ⟨w.heap.size, 1, none⟩ = some v1 ∧ W.cell? ⟨w.heap.size, 2, none⟩ = some v2 ∧ W.cell? ⟨w.heap.size, 3, none⟩ = some v3 ∧ Hid (Below w.heap.size w W)) (hb : Below W.heap.size W W') :
    W'.cell? ⟨w.heap.size, 0, none⟩ = some v0 ∧ W'.cell? ⟨w.heap.size, 1, none⟩ = some v1 ∧ W'.cell? ⟨w.heap.size, 2, none⟩ = some v2 ∧ W'.cell? ⟨w.heap.size, 3, none⟩ = some v3 ∧ Hid (Below w.heap.size w W') :=
  ⟨(hb.cell (World.block_lt_of_cell? W _ h.1)).trans h.1, (hb.cell (World.block_lt_of_cell? W _ h.2.1)).trans h.2.1, (hb.cell (World.block_lt_of_cell? W _ h.2.2.1)).trans h.2.2.1, (hb.cell (World.block_lt_of_cell? W _ h.2.2.2.1)).trans h.2.2.2.1, Lib.hid (below_alive h.2.2.2.2.out hb)⟩
section
variable (a b K : Int) (ha : 0 ≤ a ∧ a ≤ 9223372036854775807) (hb : 0 ≤ b ∧ b ≤ 9223372036854775807) (hK : 0 ≤ K ∧ K ≤ 18446744073709551615) (w : World)
include ha hb hK
set_option maxHeartbeats 2000000 in
set_option maxRecDepth 100000 in
theorem rgline_1 : Calls Tryz.prog 60 #[.agg #[.int .i64 1, .int .i64 a, .int .i64 b, .int .u64 K]] w (SPost (gateLine (1, a, b, K)) w) := by
  have HA := Lib.hid (fun W => rnum_s a ha.1 ha.2 W)
  have HB := Lib.hid (fun W => rnum_s b hb.1 hb.2 W)
  have HK := Lib.hid (fun W => rdig_s K hK.1 hK.2 W)
  have HBX := Lib.hid (((Below.refl w.heap.size w).alloc (Nat.le_refl _) (.cells #[.int .i64 1, .int .i64 a, .int .i64 b, .int .u64 K] 69)).drew)
  clear ha hb hK
  go_enter Tryz.func60, Tryz.ntmps60
  go_wp2_with fail
  go_region_held3 (fun W => W.cell? ⟨w.heap.size, 0, none⟩ = some (.int .i64 1) ∧ W.cell? ⟨w.heap.size, 1, none⟩ = some (.int .i64 a) ∧ W.cell? ⟨w.heap.size, 2, none⟩ = some (.int .i64 b) ∧ W.cell? ⟨w.heap.size, 3, none⟩ = some (.int .u64 K) ∧ Hid (Below w.heap.size w W)) (first | assumption | exact ⟨by go_simp, by go_simp, by go_simp, by go_simp, HBX⟩) (first | (go_at_call 59; (with_reducible refine (HA.out _).mono ?_); rintro e wa ⟨ta, rfl, hta, HTA, hba⟩; have hSa := stepGl (by assumption) hba; have fa : (9223372036854775807 < 1 + ta.size) = False := eq_false (by omega); clear hba) | (go_at_call 59; (with_reducible refine (HB.out _).mono ?_); rintro e wb ⟨tb, rfl, htb, HTB, hbb⟩; have hSb := stepGl (by assumption) hbb; have fb : (9223372036854775807 < 1 + tb.size) = False := eq_false (by omega); clear hbb) | (go_at_call 89; (with_reducible refine (HK.out _).mono ?_); rintro e wc ⟨tc, rfl, htc, HTC, hbc⟩; have hSc := stepGl (by assumption) hbc; have fc : (9223372036854775807 < 1 + tc.size) = False := eq_false (by omega); clear hbc))
  have c0 := hSc.1
  have g1 : (9223372036854775807 < 2 + (1 + ta.size)) = False := eq_false (by omega)
  go_wp2
  go_ret
  exact ⟨ret_s (ba_eq (by rw [show gateLine (1, a, b, K) = kwIn ++ (32 :: numI a) from by unfold gateLine; rw [show gateWords (1, a, b, K) = [kwIn, numI a] from by simp [gateWords], join_spaced]; simp [spaced]]; simp [kwIn, HTA.out])), hSc.2.2.2.2.out⟩
set_option maxHeartbeats 2000000 in
set_option maxRecDepth 100000 in
theorem rgline_2 : Calls Tryz.prog 60 #[.agg #[.int .i64 2, .int .i64 a, .int .i64 b, .int .u64 K]] w (SPost (gateLine (2, a, b, K)) w) := by
  have HA := Lib.hid (fun W => rnum_s a ha.1 ha.2 W)
  have HB := Lib.hid (fun W => rnum_s b hb.1 hb.2 W)
  have HK := Lib.hid (fun W => rdig_s K hK.1 hK.2 W)
  have HBX := Lib.hid (((Below.refl w.heap.size w).alloc (Nat.le_refl _) (.cells #[.int .i64 2, .int .i64 a, .int .i64 b, .int .u64 K] 69)).drew)
  clear ha hb hK
  go_enter Tryz.func60, Tryz.ntmps60
  go_wp2_with fail
  go_region_held3 (fun W => W.cell? ⟨w.heap.size, 0, none⟩ = some (.int .i64 2) ∧ W.cell? ⟨w.heap.size, 1, none⟩ = some (.int .i64 a) ∧ W.cell? ⟨w.heap.size, 2, none⟩ = some (.int .i64 b) ∧ W.cell? ⟨w.heap.size, 3, none⟩ = some (.int .u64 K) ∧ Hid (Below w.heap.size w W)) (first | assumption | exact ⟨by go_simp, by go_simp, by go_simp, by go_simp, HBX⟩) (first | (go_at_call 59; (with_reducible refine (HA.out _).mono ?_); rintro e wa ⟨ta, rfl, hta, HTA, hba⟩; have hSa := stepGl (by assumption) hba; have fa : (9223372036854775807 < 1 + ta.size) = False := eq_false (by omega); clear hba) | (go_at_call 59; (with_reducible refine (HB.out _).mono ?_); rintro e wb ⟨tb, rfl, htb, HTB, hbb⟩; have hSb := stepGl (by assumption) hbb; have fb : (9223372036854775807 < 1 + tb.size) = False := eq_false (by omega); clear hbb) | (go_at_call 89; (with_reducible refine (HK.out _).mono ?_); rintro e wc ⟨tc, rfl, htc, HTC, hbc⟩; have hSc := stepGl (by assumption) hbc; have fc : (9223372036854775807 < 1 + tc.size) = False := eq_false (by omega); clear hbc))
  have c0 := hSc.1
  have g1 : (9223372036854775807 < 5 + (1 + tc.size)) = False := eq_false (by omega)
  go_wp2
  go_ret
  exact ⟨ret_s (ba_eq (by rw [show gateLine (2, a, b, K) = kwConst ++ (32 :: numI K) from by unfold gateLine; rw [show gateWords (2, a, b, K) = [kwConst, numI K] from by simp [gateWords], join_spaced]; simp [spaced]]; simp [kwConst, HTC.out])), hSc.2.2.2.2.out⟩
set_option maxHeartbeats 2000000 in
set_option maxRecDepth 100000 in
theorem rgline_3 : Calls Tryz.prog 60 #[.agg #[.int .i64 3, .int .i64 a, .int .i64 b, .int .u64 K]] w (SPost (gateLine (3, a, b, K)) w) := by
  have HA := Lib.hid (fun W => rnum_s a ha.1 ha.2 W)
  have HB := Lib.hid (fun W => rnum_s b hb.1 hb.2 W)
  have HK := Lib.hid (fun W => rdig_s K hK.1 hK.2 W)
  have HBX := Lib.hid (((Below.refl w.heap.size w).alloc (Nat.le_refl _) (.cells #[.int .i64 3, .int .i64 a, .int .i64 b, .int .u64 K] 69)).drew)
  clear ha hb hK
  go_enter Tryz.func60, Tryz.ntmps60
  go_wp2_with fail
  go_region_held3 (fun W => W.cell? ⟨w.heap.size, 0, none⟩ = some (.int .i64 3) ∧ W.cell? ⟨w.heap.size, 1, none⟩ = some (.int .i64 a) ∧ W.cell? ⟨w.heap.size, 2, none⟩ = some (.int .i64 b) ∧ W.cell? ⟨w.heap.size, 3, none⟩ = some (.int .u64 K) ∧ Hid (Below w.heap.size w W)) (first | assumption | exact ⟨by go_simp, by go_simp, by go_simp, by go_simp, HBX⟩) (first | (go_at_call 59; (with_reducible refine (HA.out _).mono ?_); rintro e wa ⟨ta, rfl, hta, HTA, hba⟩; have hSa := stepGl (by assumption) hba; have fa : (9223372036854775807 < 1 + ta.size) = False := eq_false (by omega); clear hba) | (go_at_call 59; (with_reducible refine (HB.out _).mono ?_); rintro e wb ⟨tb, rfl, htb, HTB, hbb⟩; have hSb := stepGl (by assumption) hbb; have fb : (9223372036854775807 < 1 + tb.size) = False := eq_false (by omega); clear hbb) | (go_at_call 89; (with_reducible refine (HK.out _).mono ?_); rintro e wc ⟨tc, rfl, htc, HTC, hbc⟩; have hSc := stepGl (by assumption) hbc; have fc : (9223372036854775807 < 1 + tc.size) = False := eq_false (by omega); clear hbc))
  have c0 := hSc.1
  have g1 : (9223372036854775807 < 3 + (1 + ta.size)) = False := eq_false (by omega)
  have g2 : (9223372036854775807 < 3 + (1 + ta.size) + (1 + tb.size)) = False := eq_false (by omega)
  go_wp2
  go_ret
  exact ⟨ret_s (ba_eq (by rw [show gateLine (3, a, b, K) = kwAdd ++ (32 :: numI a ++ 32 :: numI b) from by unfold gateLine; rw [show gateWords (3, a, b, K) = [kwAdd, numI a, numI b] from by simp [gateWords], join_spaced]; simp [spaced]]; simp [kwAdd, HTA.out, HTB.out])), hSc.2.2.2.2.out⟩
set_option maxHeartbeats 2000000 in
set_option maxRecDepth 100000 in
theorem rgline_4 : Calls Tryz.prog 60 #[.agg #[.int .i64 4, .int .i64 a, .int .i64 b, .int .u64 K]] w (SPost (gateLine (4, a, b, K)) w) := by
  have HA := Lib.hid (fun W => rnum_s a ha.1 ha.2 W)
  have HB := Lib.hid (fun W => rnum_s b hb.1 hb.2 W)
  have HK := Lib.hid (fun W => rdig_s K hK.1 hK.2 W)
  have HBX := Lib.hid (((Below.refl w.heap.size w).alloc (Nat.le_refl _) (.cells #[.int .i64 4, .int .i64 a, .int .i64 b, .int .u64 K] 69)).drew)
  clear ha hb hK
  go_enter Tryz.func60, Tryz.ntmps60
  go_wp2_with fail
  go_region_held3 (fun W => W.cell? ⟨w.heap.size, 0, none⟩ = some (.int .i64 4) ∧ W.cell? ⟨w.heap.size, 1, none⟩ = some (.int .i64 a) ∧ W.cell? ⟨w.heap.size, 2, none⟩ = some (.int .i64 b) ∧ W.cell? ⟨w.heap.size, 3, none⟩ = some (.int .u64 K) ∧ Hid (Below w.heap.size w W)) (first | assumption | exact ⟨by go_simp, by go_simp, by go_simp, by go_simp, HBX⟩) (first | (go_at_call 59; (with_reducible refine (HA.out _).mono ?_); rintro e wa ⟨ta, rfl, hta, HTA, hba⟩; have hSa := stepGl (by assumption) hba; have fa : (9223372036854775807 < 1 + ta.size) = False := eq_false (by omega); clear hba) | (go_at_call 59; (with_reducible refine (HB.out _).mono ?_); rintro e wb ⟨tb, rfl, htb, HTB, hbb⟩; have hSb := stepGl (by assumption) hbb; have fb : (9223372036854775807 < 1 + tb.size) = False := eq_false (by omega); clear hbb) | (go_at_call 89; (with_reducible refine (HK.out _).mono ?_); rintro e wc ⟨tc, rfl, htc, HTC, hbc⟩; have hSc := stepGl (by assumption) hbc; have fc : (9223372036854775807 < 1 + tc.size) = False := eq_false (by omega); clear hbc))
  have c0 := hSc.1
  have g1 : (9223372036854775807 < 3 + (1 + ta.size)) = False := eq_false (by omega)
  have g2 : (9223372036854775807 < 3 + (1 + ta.size) + (1 + tb.size)) = False := eq_false (by omega)
  go_wp2
  go_ret
  exact ⟨ret_s (ba_eq (by rw [show gateLine (4, a, b, K) = kwSub ++ (32 :: numI a ++ 32 :: numI b) from by unfold gateLine; rw [show gateWords (4, a, b, K) = [kwSub, numI a, numI b] from by simp [gateWords], join_spaced]; simp [spaced]]; simp [kwSub, HTA.out, HTB.out])), hSc.2.2.2.2.out⟩
set_option maxHeartbeats 2000000 in
set_option maxRecDepth 100000 in
theorem rgline_5 : Calls Tryz.prog 60 #[.agg #[.int .i64 5, .int .i64 a, .int .i64 b, .int .u64 K]] w (SPost (gateLine (5, a, b, K)) w) := by
  have HA := Lib.hid (fun W => rnum_s a ha.1 ha.2 W)
  have HB := Lib.hid (fun W => rnum_s b hb.1 hb.2 W)
  have HK := Lib.hid (fun W => rdig_s K hK.1 hK.2 W)
  have HBX := Lib.hid (((Below.refl w.heap.size w).alloc (Nat.le_refl _) (.cells #[.int .i64 5, .int .i64 a, .int .i64 b, .int .u64 K] 69)).drew)
  clear ha hb hK
  go_enter Tryz.func60, Tryz.ntmps60
  go_wp2_with fail
  go_region_held3 (fun W => W.cell? ⟨w.heap.size, 0, none⟩ = some (.int .i64 5) ∧ W.cell? ⟨w.heap.size, 1, none⟩ = some (.int .i64 a) ∧ W.cell? ⟨w.heap.size, 2, none⟩ = some (.int .i64 b) ∧ W.cell? ⟨w.heap.size, 3, none⟩ = some (.int .u64 K) ∧ Hid (Below w.heap.size w W)) (first | assumption | exact ⟨by go_simp, by go_simp, by go_simp, by go_simp, HBX⟩) (first | (go_at_call 59; (with_reducible refine (HA.out _).mono ?_); rintro e wa ⟨ta, rfl, hta, HTA, hba⟩; have hSa := stepGl (by assumption) hba; have fa : (9223372036854775807 < 1 + ta.size) = False := eq_false (by omega); clear hba) | (go_at_call 59; (with_reducible refine (HB.out _).mono ?_); rintro e wb ⟨tb, rfl, htb, HTB, hbb⟩; have hSb := stepGl (by assumption) hbb; have fb : (9223372036854775807 < 1 + tb.size) = False := eq_false (by omega); clear hbb) | (go_at_call 89; (with_reducible refine (HK.out _).mono ?_); rintro e wc ⟨tc, rfl, htc, HTC, hbc⟩; have hSc := stepGl (by assumption) hbc; have fc : (9223372036854775807 < 1 + tc.size) = False := eq_false (by omega); clear hbc))
  have c0 := hSc.1
  have g1 : (9223372036854775807 < 3 + (1 + ta.size)) = False := eq_false (by omega)
  have g2 : (9223372036854775807 < 3 + (1 + ta.size) + (1 + tb.size)) = False := eq_false (by omega)
  go_wp2
  go_ret
  exact ⟨ret_s (ba_eq (by rw [show gateLine (5, a, b, K) = kwMul ++ (32 :: numI a ++ 32 :: numI b) from by unfold gateLine; rw [show gateWords (5, a, b, K) = [kwMul, numI a, numI b] from by simp [gateWords], join_spaced]; simp [spaced]]; simp [kwMul, HTA.out, HTB.out])), hSc.2.2.2.2.out⟩
set_option maxHeartbeats 2000000 in
set_option maxRecDepth 100000 in
theorem rgline_6 : Calls Tryz.prog 60 #[.agg #[.int .i64 6, .int .i64 a, .int .i64 b, .int .u64 K]] w (SPost (gateLine (6, a, b, K)) w) := by
  have HA := Lib.hid (fun W => rnum_s a ha.1 ha.2 W)
  have HB := Lib.hid (fun W => rnum_s b hb.1 hb.2 W)
  have HK := Lib.hid (fun W => rdig_s K hK.1 hK.2 W)
  have HBX := Lib.hid (((Below.refl w.heap.size w).alloc (Nat.le_refl _) (.cells #[.int .i64 6, .int .i64 a, .int .i64 b, .int .u64 K] 69)).drew)
  clear ha hb hK
  go_enter Tryz.func60, Tryz.ntmps60
  go_wp2_with fail
  go_region_held3 (fun W => W.cell? ⟨w.heap.size, 0, none⟩ = some (.int .i64 6) ∧ W.cell? ⟨w.heap.size, 1, none⟩ = some (.int .i64 a) ∧ W.cell? ⟨w.heap.size, 2, none⟩ = some (.int .i64 b) ∧ W.cell? ⟨w.heap.size, 3, none⟩ = some (.int .u64 K) ∧ Hid (Below w.heap.size w W)) (first | assumption | exact ⟨by go_simp, by go_simp, by go_simp, by go_simp, HBX⟩) (first | (go_at_call 59; (with_reducible refine (HA.out _).mono ?_); rintro e wa ⟨ta, rfl, hta, HTA, hba⟩; have hSa := stepGl (by assumption) hba; have fa : (9223372036854775807 < 1 + ta.size) = False := eq_false (by omega); clear hba) | (go_at_call 59; (with_reducible refine (HB.out _).mono ?_); rintro e wb ⟨tb, rfl, htb, HTB, hbb⟩; have hSb := stepGl (by assumption) hbb; have fb : (9223372036854775807 < 1 + tb.size) = False := eq_false (by omega); clear hbb) | (go_at_call 89; (with_reducible refine (HK.out _).mono ?_); rintro e wc ⟨tc, rfl, htc, HTC, hbc⟩; have hSc := stepGl (by assumption) hbc; have fc : (9223372036854775807 < 1 + tc.size) = False := eq_false (by omega); clear hbc))
  have c0 := hSc.1
  have g1 : (9223372036854775807 < 5 + (1 + ta.size)) = False := eq_false (by omega)
  have g2 : (9223372036854775807 < 5 + (1 + ta.size) + (1 + tc.size)) = False := eq_false (by omega)
  go_wp2
  go_ret
  exact ⟨ret_s (ba_eq (by rw [show gateLine (6, a, b, K) = kwScale ++ (32 :: numI a ++ 32 :: numI K) from by unfold gateLine; rw [show gateWords (6, a, b, K) = [kwScale, numI a, numI K] from by simp [gateWords], join_spaced]; simp [spaced]]; simp [kwScale, HTA.out, HTC.out])), hSc.2.2.2.2.out⟩
end
theorem rgline_any {p : Nat} {L : Lis} (h : Fine p L) (g : Gat) (hg : g ∈ L.2.1) (w : World) : Calls Tryz.prog 60 #[.agg #[.int .i64 g.1, .int .i64 g.2.1, .int .i64 g.2.2.1, .int .u64 g.2.2.2]] w (SPost (gateLine g) w) := by
  obtain ⟨_, hk, ha, hb, hK⟩ := h.g g hg
  obtain ⟨k, a, b, K⟩ := g
  simp only at hk ha hb hK ⊢
  obtain rfl | rfl | rfl | rfl | rfl | rfl : k = 1 ∨ k = 2 ∨ k = 3 ∨ k = 4 ∨ k = 5 ∨ k = 6 := by omega
  · exact rgline_1 a b K (by omega) (by omega) (by omega) w
  · exact rgline_2 a b K (by omega) (by omega) (by omega) w
  · exact rgline_3 a b K (by omega) (by omega) (by omega) w
  · exact rgline_4 a b K (by omega) (by omega) (by omega) w
  · exact rgline_5 a b K (by omega) (by omega) (by omega) w
  · exact rgline_6 a b K (by omega) (by omega) (by omega) w
end Go.Proofs.YtmnbgamnbgdnnaaGreatDoor
