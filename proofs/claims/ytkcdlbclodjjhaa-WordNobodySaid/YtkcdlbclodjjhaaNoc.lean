/- The walk of WordNobody. (Printed by wip/tools/gen_noc.py.) -/
import Derived.Test.YtkcdlbclodjjhaaNob
namespace Go.Proofs.Ytkcdlbclodjjhaa
open Go.RowKit

theorem nobdo_any (pb : Option Addr) (m : Nat) (hm : m < 15) (a b c k s1 g1 g2 g3 g4 : Int) (s2 : Bool) (VA WA TA GA : Option Addr) (vn vc wn wc tn tc gn gc : Nat) (w : World) (h : Nob pb w) :
    Calls Try.prog 21 #[.pointer pb, .agg #[.int .i64 ((m : Nat) : Int), .int .i64 a, .int .i64 b, .int .i64 c, .int .u64 k, .slice VA vn vc, .slice WA wn wc, .int .i64 s1, .bool s2, .int .i64 g1, .int .i64 g2, .int .i64 g3, .int .u64 g4, .slice TA tn tc, .slice GA gn gc]] w fun e W' => e = .returned (.agg #[.int .i64 0, nilS, .int .i64 1]) ∧ Below w.heap.size w W' := by
  have hc : m = 0 ∨ m = 1 ∨ m = 2 ∨ m = 3 ∨ m = 4 ∨ m = 5 ∨ m = 6 ∨ m = 7 ∨ m = 8 ∨ m = 9 ∨ m = 10 ∨ m = 11 ∨ m = 12 ∨ m = 13 ∨ m = 14 := by omega
  rcases hc with rfl | rfl | rfl | rfl | rfl | rfl | rfl | rfl | rfl | rfl | rfl | rfl | rfl | rfl | rfl
  · exact nobdo_0 pb a b c k s1 g1 g2 g3 g4 s2 VA WA TA GA vn vc wn wc tn tc gn gc w h
  · exact nobdo_1 pb a b c k s1 g1 g2 g3 g4 s2 VA WA TA GA vn vc wn wc tn tc gn gc w h
  · exact nobdo_2 pb a b c k s1 g1 g2 g3 g4 s2 VA WA TA GA vn vc wn wc tn tc gn gc w h
  · exact nobdo_3 pb a b c k s1 g1 g2 g3 g4 s2 VA WA TA GA vn vc wn wc tn tc gn gc w h
  · exact nobdo_4 pb a b c k s1 g1 g2 g3 g4 s2 VA WA TA GA vn vc wn wc tn tc gn gc w h
  · exact nobdo_5 pb a b c k s1 g1 g2 g3 g4 s2 VA WA TA GA vn vc wn wc tn tc gn gc w h
  · exact nobdo_6 pb a b c k s1 g1 g2 g3 g4 s2 VA WA TA GA vn vc wn wc tn tc gn gc w h
  · exact nobdo_7 pb a b c k s1 g1 g2 g3 g4 s2 VA WA TA GA vn vc wn wc tn tc gn gc w h
  · exact nobdo_8 pb a b c k s1 g1 g2 g3 g4 s2 VA WA TA GA vn vc wn wc tn tc gn gc w h
  · exact nobdo_9 pb a b c k s1 g1 g2 g3 g4 s2 VA WA TA GA vn vc wn wc tn tc gn gc w h
  · exact nobdo_10 pb a b c k s1 g1 g2 g3 g4 s2 VA WA TA GA vn vc wn wc tn tc gn gc w h
  · exact nobdo_11 pb a b c k s1 g1 g2 g3 g4 s2 VA WA TA GA vn vc wn wc tn tc gn gc w h
  · exact nobdo_12 pb a b c k s1 g1 g2 g3 g4 s2 VA WA TA GA vn vc wn wc tn tc gn gc w h
  · exact nobdo_13 pb a b c k s1 g1 g2 g3 g4 s2 VA WA TA GA vn vc wn wc tn tc gn gc w h
  · exact nobdo_14 pb a b c k s1 g1 g2 g3 g4 s2 VA WA TA GA vn vc wn wc tn tc gn gc w h
set_option maxHeartbeats 4000000 in
set_option maxRecDepth 100000 in
theorem nobody_walk (d : Int) (a b c k s1 g1 g2 g3 g4 : Int) (s2 : Bool) (VA WA TA GA : Option Addr) (vn vc wn wc tn tc gn gc : Nat) (w : World) :
    Calls Try.prog 5 #[.agg #[.int .i64 d, .int .i64 a, .int .i64 b, .int .i64 c, .int .u64 k, .slice VA vn vc, .slice WA wn wc, .int .i64 s1, .bool s2, .int .i64 g1, .int .i64 g2, .int .i64 g3, .int .u64 g4, .slice TA tn tc, .slice GA gn gc]] w fun e W' => e = .returned (.bool true) ∧ Below w.heap.size w W' := by
  obtain ⟨m, hm, hmv⟩ : ∃ m : Nat, m < 15 ∧ wrap64 ((IntKind.u64.wrap d).tmod 15) = ((m : Nat) : Int) := by
    have h0 : 0 ≤ IntKind.u64.wrap d ∧ IntKind.u64.wrap d < 18446744073709551616 := by rw [IntKind.wrap_u64]; omega
    rw [Int.tmod_eq_emod_of_nonneg h0.1]
    refine ⟨(IntKind.u64.wrap d % 15).toNat, by omega, ?_⟩
    have h1 : 0 ≤ IntKind.u64.wrap d % 15 ∧ IntKind.u64.wrap d % 15 < 15 := by omega
    generalize IntKind.u64.wrap d % 15 = z at *
    unfold wrap64
    omega
  have HSM : Hid (∀ W, Calls Try.prog 22 #[.agg #[nilS, nilS, nilS], .agg #[nilS, nilS, nilS]] W fun e W' => e = .returned (.bool true) ∧ Below W.heap.size W W') :=
    Lib.hid fun W => (rsame_any ⟨[], [], [], none, none, none, 0, 0, 0⟩ ⟨[], [], [], none, none, none, 0, 0, 0⟩ rfl W ⟨.inl rfl, .inl rfl, .inl rfl, by simp, ⟨Nat.zero_le _, Nat.zero_le _, Nat.zero_le _⟩, by simp, by simp⟩ ⟨.inl rfl, .inl rfl, .inl rfl, by simp, ⟨Nat.zero_le _, Nat.zero_le _, Nat.zero_le _⟩, by simp, by simp⟩).mono fun _ _ he => he
  go_enter Try.func5, Try.ntmps5
  go_wp2_with fail
  rw [hmv]
  obtain ⟨k0, k1, k2, hsz, hb3⟩ := three w (.cells #[.int .i64 ((m : Nat) : Int), .int .i64 a, .int .i64 b, .int .i64 c, .int .u64 k, .slice VA vn vc, .slice WA wn wc, .int .i64 s1, .bool s2, .int .i64 g1, .int .i64 g2, .int .i64 g3, .int .u64 g4, .slice TA tn tc, .slice GA gn gc] 58) (.cells #[.int .u64 0, nilS, nilS, nilS] 61) (.cells #[.pointer none, .pointer (some ⟨w.heap.size + 1, 0, none⟩)] 22)
  generalize hW3 : (((w.alloc (.cells #[.int .i64 ((m : Nat) : Int), .int .i64 a, .int .i64 b, .int .i64 c, .int .u64 k, .slice VA vn vc, .slice WA wn wc, .int .i64 s1, .bool s2, .int .i64 g1, .int .i64 g2, .int .i64 g3, .int .u64 g4, .slice TA tn tc, .slice GA gn gc] 58)).alloc (.cells #[.int .u64 0, nilS, nilS, nilS] 61)).alloc (.cells #[.pointer none, .pointer (some ⟨w.heap.size + 1, 0, none⟩)] 22)) = W3 at *
  have HB3' := Lib.hid hb3
  have HKK := Lib.hid (And.intro k0 (And.intro k1 k2))
  clear k0 k1 k2 hb3 hW3
  go_loopg [16] 2 (fun g i wr => ∃ k' : Nat, k' ≤ 2 ∧ g = 2 - k' ∧ i = .int .i64 k' ∧ Below W3.heap.size W3 wr)
  case atStart => exact ⟨0, by omega, rfl, rfl, Below.refl _ _⟩
  case round =>
    obtain ⟨k', hk', rfl, rfl, hB⟩ := hrel
    have HB := Lib.hid hB
    have HH : Hid (wr.heap[w.heap.size]? = some (.cells #[.int .i64 ((m : Nat) : Int), .int .i64 a, .int .i64 b, .int .i64 c, .int .u64 k, .slice VA vn vc, .slice WA wn wc, .int .i64 s1, .bool s2, .int .i64 g1, .int .i64 g2, .int .i64 g3, .int .u64 g4, .slice TA tn tc, .slice GA gn gc] 58 (0, 0)) ∧ wr.heap[w.heap.size + 1]? = some (.cells #[.int .u64 0, nilS, nilS, nilS] 61 (0, 0)) ∧ wr.heap[w.heap.size + 1 + 1]? = some (.cells #[.pointer none, .pointer (some ⟨w.heap.size + 1, 0, none⟩)] 22 (0, 0))) :=
      Lib.hid ⟨(hB.block _ (by omega)).trans HKK.out.1, (hB.block _ (by omega)).trans HKK.out.2.1, (hB.block _ (by omega)).trans HKK.out.2.2⟩
    clear hB
    have hc : k' = 0 ∨ k' = 1 ∨ k' = 2 := by omega
    by_cases h2 : k' = 2
    · subst h2
      go_wp2_with (go_at_call 11; refine (alive_any _).mono ?_; rintro e wa ⟨rfl, hb⟩; have HBa := Lib.hid (HB.out.trans (hb.mono HB.out.size)); clear hb)
      go_ret
      exact ⟨rfl, HB3'.out.trans (HBa.out.mono HB3'.out.size)⟩
    · have hc2 : k' = 0 ∨ k' = 1 := by omega
      clear hc h2
      have q0 : wr.cell? ⟨w.heap.size, 0, none⟩ = some (.int .i64 ((m : Nat) : Int)) := cell_in HH.out.1
      have q1 : wr.cell? ⟨w.heap.size, 1, none⟩ = some (.int .i64 a) := cell_in HH.out.1
      have q2 : wr.cell? ⟨w.heap.size, 2, none⟩ = some (.int .i64 b) := cell_in HH.out.1
      have q3 : wr.cell? ⟨w.heap.size, 3, none⟩ = some (.int .i64 c) := cell_in HH.out.1
      have q4 : wr.cell? ⟨w.heap.size, 4, none⟩ = some (.int .u64 k) := cell_in HH.out.1
      have q5 : wr.cell? ⟨w.heap.size, 5, none⟩ = some (.slice VA vn vc) := cell_in HH.out.1
      have q6 : wr.cell? ⟨w.heap.size, 6, none⟩ = some (.slice WA wn wc) := cell_in HH.out.1
      have q7 : wr.cell? ⟨w.heap.size, 7, none⟩ = some (.int .i64 s1) := cell_in HH.out.1
      have q8 : wr.cell? ⟨w.heap.size, 8, none⟩ = some (.bool s2) := cell_in HH.out.1
      have q9 : wr.cell? ⟨w.heap.size, 9, none⟩ = some (.int .i64 g1) := cell_in HH.out.1
      have q10 : wr.cell? ⟨w.heap.size, 10, none⟩ = some (.int .i64 g2) := cell_in HH.out.1
      have q11 : wr.cell? ⟨w.heap.size, 11, none⟩ = some (.int .i64 g3) := cell_in HH.out.1
      have q12 : wr.cell? ⟨w.heap.size, 12, none⟩ = some (.int .u64 g4) := cell_in HH.out.1
      have q13 : wr.cell? ⟨w.heap.size, 13, none⟩ = some (.slice TA tn tc) := cell_in HH.out.1
      have q14 : wr.cell? ⟨w.heap.size, 14, none⟩ = some (.slice GA gn gc) := cell_in HH.out.1
      rcases hc2 with rfl | rfl
      · have HN : Hid (Nob (none) wr) := Lib.hid (nob_nil wr)
        have p0 : wr.cell? ⟨w.heap.size + 1 + 1, 0, none⟩ = some (.pointer (none)) := cell_in HH.out.2.2
        go_wp2_with (first
          | (go_at_call 21; refine (nobdo_any (none) m hm a b c k s1 g1 g2 g3 g4 s2 VA WA TA GA vn vc wn wc tn tc gn gc _ HN.out).mono ?_; rintro e w1 ⟨rfl, hb⟩; have HN1 := Lib.hid (HN.out.below hb); have HB1 := Lib.hid (HB.out.trans (hb.mono HB.out.size)); clear hb)
          | (go_at_call 10; refine (nob_circuit (none) _ (HN1.out.below ((Below.refl _ _).alloc (Nat.le_refl _) _))).mono ?_; rintro e w2 ⟨rfl, hb⟩; have HB2 := Lib.hid ((HB1.out.alloc HB1.out.size (.cells #[.int .i64 0, nilS, .int .i64 1] 64)).trans (hb.mono (by have := HB1.out.size; simp; omega))); clear hb)
          | (go_at_call 22; refine (HSM.out _).mono ?_; rintro e w3 ⟨rfl, hb⟩; have HB3 := Lib.hid (HB2.out.trans (hb.mono HB2.out.size)); clear hb))
        go_roundg (2 - (0 + 1))
        case measure => omega
        case rel => exact ⟨1, by omega, rfl, by go_num, HB3.out⟩
      · have HN : Hid (Nob (some ⟨w.heap.size + 1, 0, none⟩) wr) := Lib.hid (nob_zero (cell_in HH.out.2.1))
        have p0 : wr.cell? ⟨w.heap.size + 1 + 1, 1, none⟩ = some (.pointer (some ⟨w.heap.size + 1, 0, none⟩)) := cell_in HH.out.2.2
        go_wp2_with (first
          | (go_at_call 21; refine (nobdo_any (some ⟨w.heap.size + 1, 0, none⟩) m hm a b c k s1 g1 g2 g3 g4 s2 VA WA TA GA vn vc wn wc tn tc gn gc _ HN.out).mono ?_; rintro e w1 ⟨rfl, hb⟩; have HN1 := Lib.hid (HN.out.below hb); have HB1 := Lib.hid (HB.out.trans (hb.mono HB.out.size)); clear hb)
          | (go_at_call 10; refine (nob_circuit (some ⟨w.heap.size + 1, 0, none⟩) _ (HN1.out.below ((Below.refl _ _).alloc (Nat.le_refl _) _))).mono ?_; rintro e w2 ⟨rfl, hb⟩; have HB2 := Lib.hid ((HB1.out.alloc HB1.out.size (.cells #[.int .i64 0, nilS, .int .i64 1] 64)).trans (hb.mono (by have := HB1.out.size; simp; omega))); clear hb)
          | (go_at_call 22; refine (HSM.out _).mono ?_; rintro e w3 ⟨rfl, hb⟩; have HB3 := Lib.hid (HB2.out.trans (hb.mono HB2.out.size)); clear hb))
        go_roundg (2 - (1 + 1))
        case measure => omega
        case rel => exact ⟨2, by omega, rfl, by go_num, HB3.out⟩
end Go.Proofs.Ytkcdlbclodjjhaa
