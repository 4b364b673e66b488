/- The walk of the law CircWrites. -/
import Derived.Test.YtmnbgamnbgdnnaaGreatDoorWtC
import Derived.Test.YtmnbgamnbgdnnaaGreatDoorCkH
namespace Go.Proofs.YtmnbgamnbgdnnaaGreatDoor
open Go.RowKit

section
variable (p : Nat) (hp : p < 18446744073709551616) (C : Cir) (w : World) (hC : HoldsC w C) (hE : Env w)
include hp hC hE
set_option maxHeartbeats 2000000 in
set_option maxRecDepth 100000 in
theorem writes_bad (hbad : checkErr p C ≠ 0) :
    Calls Tryz.prog 5 #[.int .u64 p, .agg #[.slice C.SA C.slots.length C.sc, .slice C.GA C.gates.length C.gc, .slice C.EA C.exits.length C.ec]] w fun e w' => e = .returned (.bool true) ∧ Below w.heap.size w w' := by
  have hk1 := fun W (h : Hid (Below w.heap.size w W)) => write_any p hp C W (hC.below h.out) (hE.below h.out).1
  have hk2 := fun W (h : Hid (Below w.heap.size w W)) => rcheck_any p hp C W (hC.below h.out)
  unfold GatePost at hk2
  unfold WrPost at hk1
  have hk6 := fun W (h : Hid (Below w.heap.size w W)) => alive_any W (hE.below h.out)
  have e1 : wrErr p C = checkErr p C := by unfold wrErr; rw [if_pos hbad]
  have e2 : wrText p C = [] := by unfold wrText; rw [if_neg (by rw [e1]; exact hbad)]
  rw [e1, e2] at hk1
  have hz : (checkErr p C == 0) = false := by simpa using hbad
  clear e1 e2
  generalize checkErr p C = r at *
  have HK1 := Lib.hid hk1; clear hk1
  have HK2 := Lib.hid hk2; clear hk2
  have HK6 := Lib.hid hk6; clear hk6
  have HQ0 := Lib.hid (kbox_start w C)
  clear hC hE hp
  go_enter Tryz.func5, Tryz.ntmps5
  go_wp2_with (first
    | (go_at_call 21; refine (HK1.out _ HQ0.out.2.2.2).mono ?_; rintro e w1 ⟨rfl, hb⟩; have hK := HQ0.out.step hb; have c0 := hK.1; have c1 := hK.2.1; have c2 := hK.2.2.1; have HQ1 := Lib.hid hK; clear hK hb)
    | (go_at_call 11; refine (HK2.out _ HQ1.out.2.2.2).mono ?_; rintro e w2 ⟨rfl, hb⟩; have hK := HQ1.out.step hb; have c0 := hK.1; have c1 := hK.2.1; have c2 := hK.2.2.1; have HQ2 := Lib.hid hK; clear hK hb)
    | (go_at_call 12; refine (HK6.out _ HQ2.out.2.2.2).mono ?_; rintro e w3 ⟨rfl, hb⟩; have hK := HQ2.out.step hb; have c0 := hK.1; have c1 := hK.2.1; have c2 := hK.2.2.1; have HQ3 := Lib.hid hK; clear hK hb))
  go_ret
  exact ⟨rfl, HQ3.out.2.2.2.out⟩
set_option maxHeartbeats 2000000 in
set_option maxRecDepth 100000 in
theorem writes_big (hok : checkErr p C = 0) (hbig : 4194304 < (textOf C.l).length) :
    Calls Tryz.prog 5 #[.int .u64 p, .agg #[.slice C.SA C.slots.length C.sc, .slice C.GA C.gates.length C.gc, .slice C.EA C.exits.length C.ec]] w fun e w' => e = .returned (.bool true) ∧ Below w.heap.size w w' := by
  have hk1 := fun W (h : Hid (Below w.heap.size w W)) => write_any p hp C W (hC.below h.out) (hE.below h.out).1
  have hk2 := fun W (h : Hid (Below w.heap.size w W)) => rcheck_any p hp C W (hC.below h.out)
  unfold GatePost at hk2
  unfold WrPost at hk1
  have hk6 := fun W (h : Hid (Below w.heap.size w W)) => alive_any W (hE.below h.out)
  have HF := fine_of (by rw [check_cl]; exact hok) hC.k
  have hk3 := fun W (h : Hid (Below w.heap.size w W)) => (rwrite_any p C HF W (hC.below h.out)).mono (R' := fun e w' => e = .returned (.string ⟨(textOf C.l).toArray⟩) ∧ Below W.heap.size W w') (fun e w' h => h)
  rw [hok] at hk2
  have e1 : wrErr p C = 3 := by unfold wrErr; rw [if_neg (by rw [hok]; simp), if_pos hbig]
  have e2 : wrText p C = [] := by unfold wrText; rw [if_neg (by rw [e1]; decide)]
  rw [e1, e2] at hk1
  have hsz : (4194304 : Nat) < (⟨(textOf C.l).toArray⟩ : ByteArray).size := by simpa [ByteArray.size] using hbig
  clear e1 e2 hok HF hbig
  generalize (⟨(textOf C.l).toArray⟩ : ByteArray) = S at *
  have hsz2 : (4194304 : Int) < (S.size : Int) := by omega
  have HK1 := Lib.hid hk1; clear hk1
  have HK2 := Lib.hid hk2; clear hk2
  have HK3 := Lib.hid hk3; clear hk3
  have HK6 := Lib.hid hk6; clear hk6
  have HQ0 := Lib.hid (kbox_start w C)
  clear hC hE hp
  go_enter Tryz.func5, Tryz.ntmps5
  go_wp2_with (first
    | (go_at_call 21; refine (HK1.out _ HQ0.out.2.2.2).mono ?_; rintro e w1 ⟨rfl, hb⟩; have hK := HQ0.out.step hb; have c0 := hK.1; have c1 := hK.2.1; have c2 := hK.2.2.1; have HQ1 := Lib.hid hK; clear hK hb)
    | (go_at_call 11; refine (HK2.out _ HQ1.out.2.2.2).mono ?_; rintro e w2 ⟨rfl, hb⟩; have hK := HQ1.out.step hb; have c0 := hK.1; have c1 := hK.2.1; have c2 := hK.2.2.1; have HQ2 := Lib.hid hK; clear hK hb)
    | (go_at_call 22; refine (HK3.out _ HQ2.out.2.2.2).mono ?_; rintro e w3 ⟨rfl, hb⟩; have hK := HQ2.out.step hb; have c0 := hK.1; have c1 := hK.2.1; have c2 := hK.2.2.1; have HQ3 := Lib.hid hK; clear hK hb)
    | (go_at_call 12; refine (HK6.out _ HQ3.out.2.2.2).mono ?_; rintro e w4 ⟨rfl, hb⟩; have hK := HQ3.out.step hb; have c0 := hK.1; have c1 := hK.2.1; have c2 := hK.2.2.1; have HQ4 := Lib.hid hK; clear hK hb))
  go_ret
  exact ⟨rfl, HQ4.out.2.2.2.out⟩
set_option maxHeartbeats 2000000 in
set_option maxRecDepth 100000 in
theorem writes_ok (hok : checkErr p C = 0) (hl : (textOf C.l).length ≤ 4194304) :
    Calls Tryz.prog 5 #[.int .u64 p, .agg #[.slice C.SA C.slots.length C.sc, .slice C.GA C.gates.length C.gc, .slice C.EA C.exits.length C.ec]] w fun e w' => e = .returned (.bool true) ∧ Below w.heap.size w w' := by
  have hk1 := fun W (h : Hid (Below w.heap.size w W)) => write_any p hp C W (hC.below h.out) (hE.below h.out).1
  have hk2 := fun W (h : Hid (Below w.heap.size w W)) => rcheck_any p hp C W (hC.below h.out)
  unfold GatePost at hk2
  unfold WrPost at hk1
  have hk6 := fun W (h : Hid (Below w.heap.size w W)) => alive_any W (hE.below h.out)
  have HF := fine_of (by rw [check_cl]; exact hok) hC.k
  have hk3 := fun W (h : Hid (Below w.heap.size w W)) => (rwrite_any p C HF W (hC.below h.out)).mono (R' := fun e w' => e = .returned (.string ⟨(textOf C.l).toArray⟩) ∧ Below W.heap.size W w') (fun e w' h => h)
  rw [hok] at hk2
  have e1 : wrErr p C = 0 := by unfold wrErr; rw [if_neg (by rw [hok]; simp), if_neg (by omega)]
  have e2 : wrText p C = textOf C.l := by unfold wrText; rw [if_pos e1]
  rw [e1, e2] at hk1
  have hrw := read_write (p := p) (L := C.l) (by rw [check_cl]; exact hok) hC.k hl
  have hk4 := fun W (h : Hid (Below w.heap.size w W)) => (read_any p hp (textOf C.l) W (hE.below h.out)).mono (R' := fun e w' => (∃ D : Cir, e = .returned (.tuple #[.agg #[.slice D.SA D.slots.length D.sc, .slice D.GA D.gates.length D.gc, .slice D.EA D.exits.length D.ec], .int .i64 0, .int .i64 0]) ∧ Hid (D.l = C.l) ∧ Hid (HoldsC w' D)) ∧ Below W.heap.size W w') (by
    rintro e w' ⟨hb, D, h1, h2, h3⟩
    rw [hrw] at h1 h2
    exact ⟨⟨D, h1, h2, h3⟩, hb⟩)
  have hk5 := fun (D : Cir) (hD : D.l = C.l) W (h : Hid (Below w.heap.size w W)) (hH : HoldsC W D) => rsame_any D C hD W hH (hC.below h.out)
  have hsz : (⟨(textOf C.l).toArray⟩ : ByteArray).size ≤ 4194304 := by simpa [ByteArray.size] using hl
  clear e1 e2 hok HF hl hrw
  generalize (⟨(textOf C.l).toArray⟩ : ByteArray) = S at *
  have hsz2 : (S.size : Int) ≤ (4194304 : Int) := by omega
  have HK1 := Lib.hid hk1; clear hk1
  have HK2 := Lib.hid hk2; clear hk2
  have HK3 := Lib.hid hk3; clear hk3
  have HK4 := Lib.hid hk4; clear hk4
  have HK5 := Lib.hid hk5; clear hk5
  have HK6 := Lib.hid hk6; clear hk6
  have HQ0 := Lib.hid (kbox_start w C)
  clear hC hE hp
  go_enter Tryz.func5, Tryz.ntmps5
  go_wp2_with (first
    | (go_at_call 21; refine (HK1.out _ HQ0.out.2.2.2).mono ?_; rintro e w1 ⟨rfl, hb⟩; have hK := HQ0.out.step hb; have c0 := hK.1; have c1 := hK.2.1; have c2 := hK.2.2.1; have HQ1 := Lib.hid hK; clear hK hb)
    | (go_at_call 11; refine (HK2.out _ HQ1.out.2.2.2).mono ?_; rintro e w2 ⟨rfl, hb⟩; have hK := HQ1.out.step hb; have c0 := hK.1; have c1 := hK.2.1; have c2 := hK.2.2.1; have HQ2 := Lib.hid hK; clear hK hb)
    | (go_at_call 22; refine (HK3.out _ HQ2.out.2.2.2).mono ?_; rintro e w3 ⟨rfl, hb⟩; have hK := HQ2.out.step hb; have c0 := hK.1; have c1 := hK.2.1; have c2 := hK.2.2.1; have HQ3 := Lib.hid hK; clear hK hb)
    | (go_at_call 23; refine (HK4.out _ HQ3.out.2.2.2).mono ?_; rintro e w4 ⟨⟨D, rfl, HDL, hD⟩, hb⟩; have hK := HQ3.out.step hb; have c0 := hK.1; have c1 := hK.2.1; have c2 := hK.2.2.1; have z0 : w.heap.size < w4.heap.size := World.block_lt_of_cell? _ _ c0; have hbx : Below w4.heap.size w4 (w4.alloc (.cells #[.slice D.SA D.slots.length D.sc, .slice D.GA D.gates.length D.gc, .slice D.EA D.exits.length D.ec] 27)) := (Below.refl _ _).alloc (Nat.le_refl _) _; have HDH := Lib.hid (hD.out.below hbx); have HQB := Lib.hid (hK.step hbx); clear hD hbx; have HQ4 := Lib.hid hK; clear hK hb)
    | (go_at_call 24; refine (HK5.out _ HDL.out _ HQB.out.2.2.2 HDH.out).mono ?_; rintro e w5 ⟨rfl, hb⟩; have hK := HQB.out.step hb; have HQ5 := Lib.hid hK; clear hK hb)
    | (go_at_call 12; refine (HK6.out _ HQ5.out.2.2.2).mono ?_; rintro e w6 ⟨rfl, hb⟩; have HQ6 := Lib.hid (HQ5.out.step hb); clear hb))
  go_ret
  exact ⟨rfl, HQ6.out.2.2.2.out⟩
end
theorem writes_walk (p : Nat) (hp : p < 18446744073709551616) (C : Cir) (w : World) (hC : HoldsC w C) (hE : Env w) :
    Calls Tryz.prog 5 #[.int .u64 p, .agg #[.slice C.SA C.slots.length C.sc, .slice C.GA C.gates.length C.gc, .slice C.EA C.exits.length C.ec]] w fun e w' => e = .returned (.bool true) ∧ Below w.heap.size w w' := by
  by_cases h : checkErr p C = 0
  · by_cases h2 : 4194304 < (textOf C.l).length
    · exact writes_big p hp C w hC hE h h2
    · exact writes_ok p hp C w hC hE h (by omega)
  · exact writes_bad p hp C w hC hE h
end Go.Proofs.YtmnbgamnbgdnnaaGreatDoor
