/- The walk of the law TokenNames. -/
import Derived.Test.YtaccooeodimdaaaDoorTokNm
import Derived.Lib.AppendIntMem
namespace Go.Proofs.YtaccooeodimdaaaDoor
open Go.RowKit Go.Maps

theorem space_below {W W' : World} (h : SpaceTab W) (hb : Below W.heap.size W W') : SpaceTab W' := by
  exact Lib.tabBelow_of_tabIs h W' hb
set_option maxRecDepth 100000 in
theorem isRes_any (s : ByteArray) (hs : s.size ≤ maxLen) (w : World) (htab : SpaceTab w) : Calls Tryd.prog 25 #[.string s] w fun e w' => e = .returned (.bool (inW resW s.data.toList)) ∧ Below w.heap.size w w' := by
  have hr := reserved_any w htab
  unfold ResPost at hr
  have HR := Lib.hid hr; clear hr htab
  go_enter Tryd.func25, Tryd.ntmps25
  go_wp2_with fail
  refine HR.out.mono ?_
  rintro e w1 ⟨rfl, ⟨D, hown, hset⟩, hb⟩
  obtain ⟨c, hrun, hat⟩ := lookup_bool hown s hs
  have hc : inW resW s.data.toList = c := by
    rw [hset.2] at hat
    injection hat with hat
    injection hat
  have HB := Lib.hid hb; clear hb hset hown hat
  go_wp2
  go_ret
  exact ⟨ret_b hc.symm, HB.out⟩
set_option maxRecDepth 100000 in
theorem rres_any (w : World) : Calls Tryd.prog 44 #[] w fun e w' => e = .returned (.slice (some ⟨w.heap.size, 0, none⟩) 14 14) ∧ w.alloc (.cells (resW.map Value.string).toArray 9) = w' := by
  go_enter Tryd.func44, Tryd.ntmps44
  go_wp2
  go_ret
  exact ⟨rfl, rfl⟩
theorem inL_inW (s : ByteArray) : inL resW s = inW resW s.data.toList := by
  unfold inL inW
  simp only [ByteArray.toList_eq]
set_option maxRecDepth 100000 in
theorem risRes_any (s : ByteArray) (w : World) : Calls Tryd.prog 26 #[.string s] w fun e w' => e = .returned (.bool (inW resW s.data.toList)) ∧ Below w.heap.size w w' := by
  have ham := among_any resW (by decide) s w.heap.size 14 (w.alloc (.cells (resW.map Value.string).toArray 9)) (fun k h => by rw [cell_of_row _ _ k _ _ _ (heap_alloc_new w _)]; exact res_at k h)
  rw [inL_inW, show resW.length = 14 from rfl] at ham
  have HAM := Lib.hid ham; clear ham
  have HR := Lib.hid (rres_any w)
  go_enter Tryd.func26, Tryd.ntmps26
  go_wp2_with (first | (go_at_call 44; refine HR.out.mono ?_; rintro e w1 ⟨rfl, rfl⟩) | (go_at_call 32; refine HAM.out.mono ?_; rintro e w1 ⟨rfl, rfl⟩))
  go_ret
  exact ⟨rfl, (Below.refl _ _).alloc (Nat.le_refl _) _⟩
theorem res_names (l : List UInt8) (h : inW resW l = true) : isNameL l = true := by
  have h1 : (resW.all fun y => isNameL y.data.toList) = true := by decide
  obtain ⟨y, hy, e⟩ := List.any_eq_true.1 h
  have h2 := List.all_eq_true.1 h1 y hy
  rwa [beq_iff_eq.1 e] at h2
set_option maxHeartbeats 1000000 in
set_option maxRecDepth 100000 in
theorem names_walk (s : ByteArray) (hs : s.size ≤ 140737488355328) (w : World) (htab : SpaceTab w) : Calls Tryd.prog 9 #[.string s] w fun e w' => e = .returned (.bool true) ∧ Below w.heap.size w w' := by
  have hn := fun W => isName_any s (by omega) W
  have hrn := fun W => risName_any s (by omega) W
  have hi := fun W h => isRes_any s (by unfold maxLen; omega) W h
  have hri := fun W => risRes_any s W
  have himp := res_names s.data.toList
  unfold BPost at hn
  unfold RBPost at hrn
  generalize isNameL s.data.toList = nb at hn hrn himp
  generalize inW resW s.data.toList = rb at hi hri himp
  have HT := Lib.hid htab
  have HN := Lib.hid hn; clear hn
  have HRN := Lib.hid hrn; clear hrn
  have HI := Lib.hid hi; clear hi
  have HRI := Lib.hid hri; clear hri
  clear htab hs
  cases rb
  · clear himp
    go_enter Tryd.func9, Tryd.ntmps9
    go_wp2_with fail
    refine (HN.out _).mono ?_
    rintro e w1 ⟨rfl, hb1⟩
    have HB1 := Lib.hid hb1; clear hb1
    go_wp2_with fail
    refine (HRN.out _).mono ?_
    rintro e w2 ⟨rfl, rfl⟩
    go_wp2_with fail
    refine (HI.out _ (space_below HT.out HB1.out)).mono ?_
    rintro e w3 ⟨rfl, hb3⟩
    have HB3 := Lib.hid (below_alive HB1.out hb3); clear hb3
    go_wp2_with fail
    refine (HRI.out _).mono ?_
    rintro e w4 ⟨rfl, hb4⟩
    have HB4 := Lib.hid (below_alive HB3.out hb4); clear hb4
    go_wp2_with fail
    refine (HI.out _ (space_below HT.out HB4.out)).mono ?_
    rintro e w5 ⟨rfl, hb5⟩
    have HB5 := Lib.hid (below_alive HB4.out hb5); clear hb5
    go_wp2_with (go_at_call 13; refine (alive_any _).mono ?_; rintro e w6 ⟨rfl, hb6⟩; have HB6 := Lib.hid (below_alive HB5.out hb6); clear hb6)
    go_ret
    exact ⟨rfl, HB6.out⟩
  · obtain rfl : nb = true := himp rfl
    go_enter Tryd.func9, Tryd.ntmps9
    go_wp2_with fail
    refine (HN.out _).mono ?_
    rintro e w1 ⟨rfl, hb1⟩
    have HB1 := Lib.hid hb1; clear hb1
    go_wp2_with fail
    refine (HRN.out _).mono ?_
    rintro e w2 ⟨rfl, rfl⟩
    go_wp2_with fail
    refine (HI.out _ (space_below HT.out HB1.out)).mono ?_
    rintro e w3 ⟨rfl, hb3⟩
    have HB3 := Lib.hid (below_alive HB1.out hb3); clear hb3
    go_wp2_with fail
    refine (HRI.out _).mono ?_
    rintro e w4 ⟨rfl, hb4⟩
    have HB4 := Lib.hid (below_alive HB3.out hb4); clear hb4
    go_wp2_with fail
    refine (HI.out _ (space_below HT.out HB4.out)).mono ?_
    rintro e w5 ⟨rfl, hb5⟩
    have HB5 := Lib.hid (below_alive HB4.out hb5); clear hb5
    go_wp2_with fail
    refine (HN.out _).mono ?_
    rintro e w7 ⟨rfl, hb7⟩
    have HB7 := Lib.hid (below_alive HB5.out hb7); clear hb7
    go_wp2_with (go_at_call 13; refine (alive_any _).mono ?_; rintro e w6 ⟨rfl, hb6⟩; have HB6 := Lib.hid (below_alive HB7.out hb6); clear hb6)
    go_ret
    exact ⟨rfl, HB6.out⟩
end Go.Proofs.YtaccooeodimdaaaDoor
