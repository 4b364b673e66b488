/- The walk of the law CircDegrees. -/
import Derived.Test.YtmnbgamnbgdnnaaGreatDoorCkD
import Derived.Test.YtmnbgamnbgdnnaaGreatDoorCkF
namespace Go.Proofs.YtmnbgamnbgdnnaaGreatDoor
open Go.RowKit

set_option maxHeartbeats 1000000 in
set_option maxRecDepth 100000 in
theorem degrees_bad (p : Nat) (hp : p < 18446744073709551616) (C : Cir) (w : World) (hC : HoldsC w C) (hE : Env w) (hbad : checkErr p C ≠ 0) :
    Calls Tryz.prog 9 #[.int .u64 p, .agg #[.slice C.SA C.slots.length C.sc, .slice C.GA C.gates.length C.gc, .slice C.EA C.exits.length C.ec]] w fun e w' => e = .returned (.bool true) ∧ Below w.heap.size w w' := by
  have hk1 := fun W (h : Hid (Below w.heap.size w W)) => (degree_any p hp C W (hC.below h.out)).mono (R' := fun e w' => e = .returned (.tuple #[.slice none 0 0, .int .i64 (checkErr p C)]) ∧ Below W.heap.size W w') (by
    rintro e w' ⟨h1 | h1, hb⟩
    · exact ⟨h1.2, hb⟩
    · exact absurd h1.1 hbad)
  have hk2 := fun W (h : Hid (Below w.heap.size w W)) => rcheck_any p hp C W (hC.below h.out)
  unfold GatePost at hk2
  have hk3 := fun W (h : Hid (Below w.heap.size w W)) => alive_any W (hE.below h.out)
  generalize checkErr p C = r at *
  have HK1 := Lib.hid hk1; clear hk1
  have HK2 := Lib.hid hk2; clear hk2
  have HK3 := Lib.hid hk3; clear hk3
  have HQ0 := Lib.hid (kbox_start w C)
  clear hC hE hp
  go_enter Tryz.func9, Tryz.ntmps9
  go_wp2_with (first
    | (go_at_call 32; refine (HK1.out _ HQ0.out.2.2.2).mono ?_; rintro e w1 ⟨rfl, hb⟩; have hK := HQ0.out.step hb; have c0 := hK.1; have c1 := hK.2.1; have c2 := hK.2.2.1; have HQ1 := Lib.hid hK; clear hK hb)
    | (go_at_call 11; refine (HK2.out _ HQ1.out.2.2.2).mono ?_; rintro e w2 ⟨rfl, hb⟩; have HQ2 := Lib.hid (HQ1.out.step hb); clear hb)
    | (go_at_call 12; refine (HK3.out _ HQ2.out.2.2.2).mono ?_; rintro e w3 ⟨rfl, hb⟩; have HQ3 := Lib.hid (HQ2.out.step hb); clear hb))
  go_ret
  exact ⟨rfl, HQ3.out.2.2.2.out⟩
set_option maxHeartbeats 1000000 in
set_option maxRecDepth 100000 in
theorem degrees_ok (p : Nat) (hp : p < 18446744073709551616) (C : Cir) (w : World) (hC : HoldsC w C) (hE : Env w) (hok : checkErr p C = 0) :
    Calls Tryz.prog 9 #[.int .u64 p, .agg #[.slice C.SA C.slots.length C.sc, .slice C.GA C.gates.length C.gc, .slice C.EA C.exits.length C.ec]] w fun e w' => e = .returned (.bool true) ∧ Below w.heap.size w w' := by
  obtain ⟨k1, k2, k3⟩ := check_ok hok
  obtain ⟨p3, pm, _⟩ := (isP_iff p).1 k1
  have hgz := gatesErr_zero k3
  have hgl : C.gates.length ≤ 65536 := by unfold tooBig at k2; omega
  have hDl : (degL C.gates).length = C.gates.length := by
    have := degL_len C.gates C.gates.length (Nat.le_refl _)
    rw [List.take_length] at this
    exact this
  have hk1 := fun W (h : Hid (Below w.heap.size w W)) => (degree_any p hp C W (hC.below h.out)).mono (R' := fun e w' => (∃ B d, e = .returned (.tuple #[.slice B C.gates.length d, .int .i64 0]) ∧ Reads w' B (iCells (degL C.gates))) ∧ Below W.heap.size W w') (by
    rintro e w' ⟨h1 | ⟨_, v, rfl, ho⟩, hb⟩
    · exact absurd hok h1.1
    · obtain ⟨B, d, rfl, hr⟩ := own_reads ho
      exact ⟨⟨B, d, rfl, hr⟩, hb⟩)
  have hk2 := fun W (h : Hid (Below w.heap.size w W)) => rcheck_any p hp C W (hC.below h.out)
  unfold GatePost at hk2
  rw [hok] at hk2
  have hk4 := fun W (h : Hid (Below w.heap.size w W)) => (rdegree_any p (by omega) C _ hgz hgl W (hC.below h.out)).mono (R' := fun e w' => (∃ B d, e = .returned (.slice B C.gates.length d) ∧ Reads w' B (iCells (degL C.gates))) ∧ Below W.heap.size W w') (by
    rintro e w' ⟨v, rfl, ho, hb⟩
    obtain ⟨B, d, rfl, hr⟩ := own_reads ho
    exact ⟨⟨B, d, rfl, hr⟩, hb⟩)
  have hk3 := fun W (h : Hid (Below w.heap.size w W)) => alive_any W (hE.below h.out)
  generalize degL C.gates = D at *
  have HK1 := Lib.hid hk1; clear hk1
  have HK2 := Lib.hid hk2; clear hk2
  have HK3 := Lib.hid hk3; clear hk3
  have HK4 := Lib.hid hk4; clear hk4
  have HQ0 := Lib.hid (kbox_start w C)
  clear hC hE hp hok k1 k2 k3 p3 pm hgz
  go_enter Tryz.func9, Tryz.ntmps9
  go_wp2_with (first
    | (go_at_call 32; refine (HK1.out _ HQ0.out.2.2.2).mono ?_; rintro e w1 ⟨⟨A1, d1, rfl, hr⟩, hb⟩; have hK := HQ0.out.step hb; have c0 := hK.1; have c1 := hK.2.1; have c2 := hK.2.2.1; have HQ1 := Lib.hid hK; have RA := Lib.hid hr; clear hK hb hr)
    | (go_at_call 11; refine (HK2.out _ HQ1.out.2.2.2).mono ?_; rintro e w2 ⟨rfl, hb⟩; have hK := HQ1.out.step hb; have c0 := hK.1; have c1 := hK.2.1; have c2 := hK.2.2.1; have HQ2 := Lib.hid hK; have RB := Lib.hid (RA.out.below hb); clear hK hb)
    | (go_at_call 33; refine (HK4.out _ HQ2.out.2.2.2).mono ?_; rintro e w3 ⟨⟨A3, d3, rfl, hr⟩, hb⟩; have hK := HQ2.out.step hb; have HQ3 := Lib.hid hK; have RC := Lib.hid (RB.out.below hb); have RD := Lib.hid hr; clear hK hb hr))
  go_loopg [45] C.gates.length (fun g v wr => ∃ k m : Nat, k ≤ C.gates.length ∧ g = C.gates.length - k ∧ v = .int .i64 k ∧ wr = w3.drewN m)
  case atStart => exact ⟨0, 0, by omega, rfl, rfl, by simp [World.drewN_zero]⟩
  case round =>
    obtain ⟨k, m, hk, rfl, rfl, rfl⟩ := hrel
    by_cases hlt : k < C.gates.length
    · obtain ⟨a1, rfl, q0⟩ := RC.out.i k (by omega)
      obtain ⟨a3, rfl, r0⟩ := RD.out.i k (by omega)
      go_wp2
      go_quiet (fail)
      try go_wp2
      go_roundg (C.gates.length - (k + 1))
      case measure => omega
      case rel => exact ⟨k + 1, _, by omega, rfl, by go_num, by first | rfl | (rw [World.drewN_drewN]) | (rw [World.drewN_add])⟩
    · obtain rfl : k = C.gates.length := by omega
      have hb3 : Below w3.heap.size w3 (w3.drewN m) := below_drewN (Below.refl _ _) _
      have HQ4 := Lib.hid (HQ3.out.step hb3); clear hb3
      go_wp2_with (first
        | (go_at_call 12; refine (HK3.out _ HQ4.out.2.2.2).mono ?_; rintro e w5 ⟨rfl, hb⟩; have HQ5 := Lib.hid (HQ4.out.step hb); clear hb))
      go_ret
      exact ⟨rfl, HQ5.out.2.2.2.out⟩
theorem degrees_walk (p : Nat) (hp : p < 18446744073709551616) (C : Cir) (w : World) (hC : HoldsC w C) (hE : Env w) :
    Calls Tryz.prog 9 #[.int .u64 p, .agg #[.slice C.SA C.slots.length C.sc, .slice C.GA C.gates.length C.gc, .slice C.EA C.exits.length C.ec]] w fun e w' => e = .returned (.bool true) ∧ Below w.heap.size w w' := by
  by_cases h : checkErr p C = 0
  · exact degrees_ok p hp C w hC hE h
  · exact degrees_bad p hp C w hC hE h
end Go.Proofs.YtmnbgamnbgdnnaaGreatDoor
