/- The walk of WordFull. -/
import Derived.Test.YtkcdlbclodjjhaaWv
namespace Go.Proofs.Ytkcdlbclodjjhaa
open Go.RowKit

theorem isP7 : isP 7 = true := by kernel_rfl
theorem const_full (B : Nat) (sl : List Slo) (G : List Gat) (v1 v2 : Value) (k : Nat) (hk : k < 7) (hG : 65536 ≤ G.length) (w : World) (h : IsB B 7 sl G [] v1 v2 nilS w) :
    Calls Try.prog 9 #[.pointer (some ⟨B, 0, none⟩), .int .u64 ((k : Nat) : Int)] w fun e W' => e = .returned (.tuple #[.int .i64 0, .int .i64 3]) ∧ Below w.heap.size w W' :=
  (const_any B 7 (by decide) sl G [] v1 v2 nilS k (by omega) w h).mono fun e W' he => by
    have hg := gErr_con (s := sl.length) (m := G.length) hk
    rcases he with ⟨h1, _⟩ | ⟨_, h1, h2, h3⟩ | ⟨_, h1, _⟩
    · exact absurd hg h1
    · exact ⟨h2, h3⟩
    · omega
theorem const_seven (B : Nat) (sl : List Slo) (G : List Gat) (v1 v2 : Value) (w : World) (h : IsB B 7 sl G [] v1 v2 nilS w) :
    Calls Try.prog 9 #[.pointer (some ⟨B, 0, none⟩), .int .u64 7] w fun e W' => e = .returned (.tuple #[.int .i64 0, .int .i64 2]) ∧ Below w.heap.size w W' :=
  (const_any B 7 (by decide) sl G [] v1 v2 nilS 7 (by decide) w h).mono fun e W' he => by
    have hg : gErr 7 sl.length G.length (2, 0, 0, 7) = 2 := by unfold gErr gateErr; simp
    rcases he with ⟨_, h2, h3⟩ | ⟨h1, _⟩ | ⟨h1, _⟩
    · rw [hg] at h2; exact ⟨h2, h3⟩
    · rw [hg] at h1; cases h1
    · rw [hg] at h1; cases h1
theorem put_add_full (B : Nat) (sl : List Slo) (G : List Gat) (v1 v2 : Value) (hG : 65536 ≤ G.length) (w : World) (h : IsB B 7 sl G [] v1 v2 nilS w) :
    Calls Try.prog 8 #[.pointer (some ⟨B, 0, none⟩), .agg #[.int .i64 3, .int .i64 0, .int .i64 0, .int .u64 0]] w fun e W' => e = .returned (.tuple #[.int .i64 0, .int .i64 3]) ∧ Below w.heap.size w W' :=
  (put_full B 7 (by decide) sl G [] v1 v2 nilS (3, 0, 0, 0) w h (gErr_bin (x := 0) (y := 0) (by decide) (by omega) (by omega)) hG).mono fun e W' he => by
    rcases he with ⟨h1, _⟩ | ⟨_, _, h2, h3⟩ | ⟨_, h1, _⟩
    · exact absurd (gErr_bin (x := 0) (y := 0) (by decide) (by omega) (by omega)) h1
    · exact ⟨h2, h3⟩
    · omega
set_option maxHeartbeats 4000000 in
set_option maxRecDepth 100000 in
theorem full_walk (w : World) : Calls Try.prog 3 #[] w fun e W' => e = .returned (.bool true) ∧ Below w.heap.size w W' := by
  have HN := Lib.hid (new_ok 7 (by decide) isP7 w)
  have HSL : Hid (∀ (W : World) (sl : List Slo) (G : List Gat) (v1 v2 : Value), IsB w.heap.size 7 sl G [] v1 v2 nilS W → sl.length < 256 → G.length < 65536 → Calls Try.prog 7 #[.pointer (some ⟨w.heap.size, 0, none⟩), .agg #[.int .i64 1, .bool false]] W fun e W' => e = .returned (.tuple #[.int .i64 ((G.length : Nat) : Int), .int .i64 0]) ∧ ∃ u1 u2, IsB w.heap.size 7 (sl ++ [(1, false)]) (G ++ [((1, ((sl.length : Nat) : Int), 0, 0) : Gat)]) [] u1 u2 nilS W' ∧ Below w.heap.size W W') :=
    Lib.hid fun W sl G v1 v2 hI h1 h2 => slot_ok w.heap.size 7 (by decide) sl G [] v1 v2 nilS (1, false) (by decide) (by decide) h1 h2 W hI
  have HSF : Hid (∀ (W : World) (sl : List Slo) (G : List Gat) (v1 v2 : Value), IsB w.heap.size 7 sl G [] v1 v2 nilS W → 256 ≤ sl.length → Calls Try.prog 7 #[.pointer (some ⟨w.heap.size, 0, none⟩), .agg #[.int .i64 1, .bool false]] W fun e W' => e = .returned (.tuple #[.int .i64 0, .int .i64 3]) ∧ Below W.heap.size W W') :=
    Lib.hid fun W sl G v1 v2 hI h1 => slot_full w.heap.size 7 (by decide) sl G [] v1 v2 nilS (1, false) (by decide) (by decide) h1 W hI
  have HPT : Hid (∀ (W : World) (sl : List Slo) (G : List Gat) (v1 v2 : Value), IsB w.heap.size 7 sl G [] v1 v2 nilS W → G.length < 65536 → Calls Try.prog 8 #[.pointer (some ⟨w.heap.size, 0, none⟩), .agg #[.int .i64 2, .int .i64 0, .int .i64 0, .int .u64 0]] W fun e W' => e = .returned (.tuple #[.int .i64 ((G.length : Nat) : Int), .int .i64 0]) ∧ ∃ u2, IsB w.heap.size 7 sl (G ++ [((2, 0, 0, 0) : Gat)]) [] v1 u2 nilS W' ∧ Below w.heap.size W W') :=
    Lib.hid fun W sl G v1 v2 hI h1 => (put_ok w.heap.size 7 (by decide) sl G [] v1 v2 nilS (2, 0, 0, 0) (by decide) (gErr_con (k := 0) (by decide)) h1 W hI).mono fun _ _ he => by
      obtain ⟨e1, v, h2, h3⟩ := he
      exact ⟨e1, v, h2, h3.low hI.h2 hI.lt⟩
  have HA := Lib.hid (fun W => alive_any W)
  go_enter Try.func3, Try.ntmps3
  go_wp2_with (go_at_call 6; refine HN.out.mono ?_; rintro e w0 ⟨rfl, hI, hb⟩; have HI0 := Lib.hid hI; have HB0 := Lib.hid hb; clear hI hb)
  go_loopg [21] 256 (fun g i wr => ∃ (k : Nat) (sl : List Slo) (G : List Gat) (v1 v2 : Value), k ≤ 256 ∧ g = 256 - k ∧ i = .int .i64 k ∧ sl.length = k ∧ G.length = k ∧ IsB w.heap.size 7 sl G [] v1 v2 nilS wr ∧ Below w.heap.size w wr)
  case atStart => exact ⟨0, [], [], _, _, by omega, rfl, rfl, rfl, rfl, HI0.out, HB0.out⟩
  case round =>
    obtain ⟨k, sl, G, v1, v2, hk, rfl, rfl, hsl, hG, hI, hB⟩ := hrel
    have HI := Lib.hid hI; have HB := Lib.hid hB
    clear hI hB
    by_cases hlt : k < 256
    · have i1 : (k : Int) < 256 := by omega
      go_wp2_with (go_at_call 7; refine (HSL.out _ _ _ _ _ HI.out (by omega) (by omega)).mono ?_; rintro e w1 ⟨rfl, u1, u2, hI, hb⟩; have HI1 := Lib.hid hI; have HB1 := Lib.hid (HB.out.trans hb); clear hI hb)
      go_roundg (256 - (k + 1))
      case measure => omega
      case rel => exact ⟨k + 1, _, _, _, _, by omega, rfl, by go_num, by simp; omega, by simp; omega, HI1.out, HB1.out⟩
    · have i1 : ¬ (k : Int) < 256 := by omega
      obtain rfl : k = 256 := by omega
      go_wp2_with (go_at_call 7; refine (HSF.out _ _ _ _ _ HI.out (by omega)).mono ?_; rintro e w1 ⟨rfl, hb⟩; have HI1 := Lib.hid (HI.out.below hb); have HB1 := Lib.hid (HB.out.trans (hb.mono HB.out.size)); clear hb)
      go_loopg [5] 65280 (fun g i wr => ∃ (G : List Gat) (v2 : Value), 256 ≤ G.length ∧ G.length ≤ 65536 ∧ g = 65536 - G.length ∧ i = .int .i64 ((G.length : Nat) : Int) ∧ IsB w.heap.size 7 sl G [] v1 v2 nilS wr ∧ Below w.heap.size w wr)
      case atStart => exact ⟨G, v2, by omega, by omega, by omega, by rw [hG]; rfl, HI1.out, HB1.out⟩
      case round =>
        clear HI HB HI1 HB1 hG
        obtain ⟨G, v2, hg1, hg2, rfl, rfl, hI, hB⟩ := hrel
        have HI := Lib.hid hI; have HB := Lib.hid hB
        clear hI hB
        by_cases hlt : G.length < 65536
        · have i2 : (G.length : Int) < 65536 := by omega
          go_wp2_with (go_at_call 8; refine (HPT.out _ _ _ _ _ HI.out hlt).mono ?_; rintro e w2 ⟨rfl, u2, hI, hb⟩; have HI2 := Lib.hid hI; have HB2 := Lib.hid (HB.out.trans hb); clear hI hb)
          go_roundg (65536 - (G.length + 1))
          case measure => omega
          case rel => exact ⟨G ++ [((2, 0, 0, 0) : Gat)], u2, by simp; omega, by simp; omega, by simp, by rw [List.length_append]; go_num, HI2.out, HB2.out⟩
        · have hG : G.length = 65536 := by omega
          have i2 : ¬ (G.length : Int) < 65536 := by omega
          have HC1 : Hid (∀ W v, IsB w.heap.size 7 sl G [] v1 v nilS W → Calls Try.prog 9 #[.pointer (some ⟨w.heap.size, 0, none⟩), .int .u64 1] W fun e W' => e = .returned (.tuple #[.int .i64 0, .int .i64 3]) ∧ Below W.heap.size W W') := Lib.hid fun W v hI => const_full w.heap.size sl G v1 v 1 (by decide) (by omega) W hI
          have HC7 : Hid (∀ W v, IsB w.heap.size 7 sl G [] v1 v nilS W → Calls Try.prog 9 #[.pointer (some ⟨w.heap.size, 0, none⟩), .int .u64 7] W fun e W' => e = .returned (.tuple #[.int .i64 0, .int .i64 2]) ∧ Below W.heap.size W W') := Lib.hid fun W v hI => const_seven w.heap.size sl G v1 v W hI
          have HPA : Hid (∀ W v, IsB w.heap.size 7 sl G [] v1 v nilS W → Calls Try.prog 8 #[.pointer (some ⟨w.heap.size, 0, none⟩), .agg #[.int .i64 3, .int .i64 0, .int .i64 0, .int .u64 0]] W fun e W' => e = .returned (.tuple #[.int .i64 0, .int .i64 3]) ∧ Below W.heap.size W W') := Lib.hid fun W v hI => put_add_full w.heap.size sl G v1 v (by omega) W hI
          have HCI : Hid (∀ W v, IsB w.heap.size 7 sl G [] v1 v nilS W → Calls Try.prog 10 #[.pointer (some ⟨w.heap.size, 0, none⟩)] W fun e W' => ∃ S sc Ga gc, e = .returned (.agg #[.slice S 256 sc, .slice Ga 65536 gc, nilS]) ∧ Below W.heap.size W W') := Lib.hid fun W v hI => (circuit_ok w.heap.size 7 (by decide) sl G v1 v (by omega) (by omega) W hI).mono fun _ _ he => by
            obtain ⟨S, sc, Ga, gc, e1, _, _, h4⟩ := he
            rw [hsl, hG] at e1
            exact ⟨S, sc, Ga, gc, e1, h4⟩
          clear hG hsl hg1 hg2 hlt
          go_wp2_with (first
            | (go_at_call 10; refine (HCI.out _ _ HI5.out).mono ?_; rintro e w6 ⟨S, sc, Ga, gc, rfl, hb⟩; have HB6 := Lib.hid (HB5.out.trans (hb.mono HB5.out.size)); clear hb)
            | (go_at_call 9; with_reducible refine (HC7.out _ _ HI4.out).mono ?_; rintro e w5 ⟨rfl, hb⟩; have HI5 := Lib.hid (HI4.out.below hb); have HB5 := Lib.hid (HB4.out.trans (hb.mono HB4.out.size)); clear hb)
            | (go_at_call 8; refine (HPA.out _ _ HI3.out).mono ?_; rintro e w4 ⟨rfl, hb⟩; have HI4 := Lib.hid (HI3.out.below hb); have HB4 := Lib.hid (HB3.out.trans (hb.mono HB3.out.size)); clear hb)
            | (go_at_call 9; refine (HC1.out _ _ HI.out).mono ?_; rintro e w3 ⟨rfl, hb⟩; have HI3 := Lib.hid (HI.out.below hb); have HB3 := Lib.hid (HB.out.trans (hb.mono HB.out.size)); clear hb)
            | (go_at_call 11; refine (HA.out _).mono ?_; rintro e w7 ⟨rfl, hb⟩; have HB7 := Lib.hid ((HB6.out.alloc HB6.out.size _).trans (hb.mono (by have := HB6.out.size; simp; omega))); clear hb))
          go_ret
          exact ⟨rfl, HB7.out⟩
end Go.Proofs.Ytkcdlbclodjjhaa
