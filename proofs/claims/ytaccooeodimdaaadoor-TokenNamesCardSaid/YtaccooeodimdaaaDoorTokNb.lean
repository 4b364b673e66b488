/- The walks of the laws TokenNumbers and TokenDigits; what the listed table gives them. -/
import Derived.Test.YtaccooeodimdaaaDoorTokNa
import Derived.Test.YtaccooeodimdaaaDoorTokR
import Derived.Test.YtaccooeodimdaaaDoorRows
import Derived.Lib.LaidTab
namespace Go.Proofs.YtaccooeodimdaaaDoor
open Go.RowKit

theorem laidMet_tail {P : Program} {W : World} {x : String × DataW Unit} {l : List (String × DataW Unit)} (h : laidMet P (x :: l) W) : laidMet P l W := by
  obtain ⟨ps, ⟨g, t, cs, fuel, p, q, _, _, _, _, hq, e⟩, hn, hr⟩ := h
  subst e
  exact ⟨q, hq, (List.nodup_append.1 hn).2.1, fun b off hp => hr b off (List.mem_append_right _ hp)⟩
theorem pow_of_laid {W : World} (h : laidMetH Tryd.prog Rows.tokenReadsRow.laid W) : PowTab W :=
  Lib.tabIs_of_head (g := 3) (t := 103) (e := 37) (n := 20) (by kernel_rfl) (by kernel_rfl) Tryd.underlying103 Tryd.underlying37 (by kernel_rfl) (by kernel_rfl) (laidMet_tail (laidMet_tail h))
theorem pow_below {W W' : World} (h : PowTab W) (hb : Below W.heap.size W W') : PowTab W' := Lib.tabBelow_of_tabIs h W' hb

set_option maxHeartbeats 1000000 in
set_option maxRecDepth 100000 in
theorem numbers_walk (s : ByteArray) (hs : s.size ≤ 140737488355328) (u : Nat) (hu : u < 18446744073709551616) (w : World) (htab : PowTab w) : Calls Tryd.prog 7 #[.string s, .int .u64 u] w fun e w' => e = .returned (.bool true) ∧ Below w.heap.size w w' := by
  have hn := number_any s (by omega) w
  have hrn := fun W => rnumber_any s (by omega) W
  unfold NumPost at hn
  unfold RNumPost at hrn
  generalize (numOf s.data.toList).1 = nv at hn hrn
  generalize (numOf s.data.toList).2 = ne at hn hrn
  have HN := Lib.hid hn; clear hn
  have HRN := Lib.hid hrn; clear hrn
  have hd := fun W h => digits_any u hu W h
  have hrd := fun W => rdigits_any u hu W
  generalize ByteArray.mk (Lib.decDigits u).toArray = ds at hd hrd
  have HD := Lib.hid hd; clear hd
  have HRD := Lib.hid hrd; clear hrd
  have HT := Lib.hid htab
  have iu : (u : Int) ≤ 18446744073709551615 := by omega
  clear htab hs hu
  go_enter Tryd.func7, Tryd.ntmps7
  go_wp2_with fail
  refine HN.out.mono ?_
  rintro e w1 ⟨rfl, hb1⟩
  have HB1 := Lib.hid hb1; clear hb1
  go_wp2_with fail
  refine (HRN.out _).mono ?_
  rintro e w2 ⟨rfl, rfl⟩
  go_wp2_with fail
  refine (HD.out _ (pow_below HT.out HB1.out)).mono ?_
  rintro e w3 ⟨rfl, hb3⟩
  have HB3 := Lib.hid (below_alive HB1.out hb3); clear hb3
  go_wp2_with fail
  refine (HRD.out _).mono ?_
  rintro e w4 ⟨rfl, hb4⟩
  have HB4 := Lib.hid (below_alive HB3.out hb4); clear hb4
  go_wp2_with (go_at_call 13; refine (alive_any _).mono ?_; rintro e w5 ⟨rfl, hb5⟩; have HB5 := Lib.hid (below_alive HB4.out hb5); clear hb5)
  go_ret
  exact ⟨rfl, HB5.out⟩
set_option maxHeartbeats 1000000 in
set_option maxRecDepth 100000 in
theorem digits_walk (u : Nat) (hu : u < 18446744073709551616) (w : World) (htab : PowTab w) : Calls Tryd.prog 8 #[.int .u64 u] w fun e w' => e = .returned (.bool true) ∧ Below w.heap.size w w' := by
  have hn := fun W => number_any ⟨(Lib.decDigits u).toArray⟩ (by show (Lib.decDigits u).toArray.size ≤ _; have := dec_len u hu; simp; omega) W
  unfold NumPost at hn
  rw [show (ByteArray.mk (Lib.decDigits u).toArray).data.toList = Lib.decDigits u by simp, num_dec u hu] at hn
  have hd := digits_any u hu w htab
  generalize ByteArray.mk (Lib.decDigits u).toArray = ds at hd hn
  have HD := Lib.hid hd; clear hd
  have iu : (u : Int) ≤ 18446744073709551615 := by omega
  by_cases h : 4294967295 < u
  · rw [if_pos h] at hn
    have HN := Lib.hid hn; clear hn
    have h' : (4294967295 : Int) < (u : Int) := by omega
    clear htab hu
    go_enter Tryd.func8, Tryd.ntmps8
    go_wp2_with fail
    refine HD.out.mono ?_
    rintro e w1 ⟨rfl, hb1⟩
    have HB1 := Lib.hid hb1; clear hb1
    go_wp2_with fail
    refine (HN.out _).mono ?_
    rintro e w2 ⟨rfl, hb2⟩
    have HB2 := Lib.hid (below_alive HB1.out hb2); clear hb2
    go_wp2_with (go_at_call 13; refine (alive_any _).mono ?_; rintro e w5 ⟨rfl, hb5⟩; have HB5 := Lib.hid (below_alive HB2.out hb5); clear hb5)
    go_ret
    exact ⟨rfl, HB5.out⟩
  · rw [if_neg h] at hn
    have HN := Lib.hid hn; clear hn
    have h' : (u : Int) ≤ (4294967295 : Int) := by omega
    clear htab hu
    go_enter Tryd.func8, Tryd.ntmps8
    go_wp2_with fail
    refine HD.out.mono ?_
    rintro e w1 ⟨rfl, hb1⟩
    have HB1 := Lib.hid hb1; clear hb1
    go_wp2_with fail
    refine (HN.out _).mono ?_
    rintro e w2 ⟨rfl, hb2⟩
    have HB2 := Lib.hid (below_alive HB1.out hb2); clear hb2
    go_wp2_with (go_at_call 13; refine (alive_any _).mono ?_; rintro e w5 ⟨rfl, hb5⟩; have HB5 := Lib.hid (below_alive HB2.out hb5); clear hb5)
    go_ret
    exact ⟨rfl, HB5.out⟩
theorem u64_nat (n : Int) (h : (Lit.int .u64 n).wf = true) : ∃ u : Nat, n = u ∧ u < 18446744073709551616 := by
  have e1 : IntKind.u64.min = 0 := rfl
  have e2 : IntKind.u64.max = 18446744073709551615 := rfl
  simp [Lit.wf, e1, e2] at h
  exact ⟨n.toNat, by omega, by omega⟩
theorem numbers_card (s : ByteArray) (hs : s.size ≤ 140737488355328) (n : Int) (hn : (Lit.int .u64 n).wf = true) (w : World) (htab : PowTab w) : Calls Tryd.prog 7 #[.string s, .int .u64 n] w fun e w' => e = .returned (.bool true) ∧ Below w.heap.size w w' := by
  obtain ⟨u, rfl, hu⟩ := u64_nat n hn
  exact numbers_walk s hs u hu w htab
theorem digits_card (n : Int) (hn : (Lit.int .u64 n).wf = true) (w : World) (htab : PowTab w) : Calls Tryd.prog 8 #[.int .u64 n] w fun e w' => e = .returned (.bool true) ∧ Below w.heap.size w w' := by
  obtain ⟨u, rfl, hu⟩ := u64_nat n hn
  exact digits_walk u hu w htab
end Go.Proofs.YtaccooeodimdaaaDoor
