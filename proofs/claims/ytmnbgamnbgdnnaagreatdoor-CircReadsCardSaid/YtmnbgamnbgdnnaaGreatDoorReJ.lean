/- The walk of the law CircReads. -/
import Derived.Test.YtmnbgamnbgdnnaaGreatDoorReI
import Derived.Test.YtmnbgamnbgdnnaaGreatDoorCkD
import Derived.Test.YtmnbgamnbgdnnaaGreatDoorCkH
namespace Go.Proofs.YtmnbgamnbgdnnaaGreatDoor
open Go.RowKit

theorem rread_any (p : Nat) (hp : p < 18446744073709551616) (t : Bs) (w : World) : Calls Tryz.prog 25 #[.int .u64 p, .string ⟨t.toArray⟩] w (ReadPost p t w) := by
  cases hP : isP p with
  | false => exact (rread_p p hp hP t w).mono fun e w' h => err_read (i := 0) (er := 2) (by unfold readOf; rw [if_pos hP]) h
  | true =>
    by_cases ht : 4194304 < t.length
    · exact (rread_big p hp hP t ht w).mono fun e w' h => err_read (i := 0) (er := 3) (by unfold readOf; rw [if_neg (by rw [hP]; simp), if_pos ht]) h
    · exact rread_go (fun s hs W => rgateOf_any s hs W) p hp hP t (by omega) w
/-- A call's circuit, kept in a box. -/
def GotC (L : Lis) (i er : Int) (w : World) (e : Ending) (w' : World) : Prop :=
  ∃ C : Cir, e = .returned (.tuple #[.agg #[.slice C.SA C.slots.length C.sc, .slice C.GA C.gates.length C.gc, .slice C.EA C.exits.length C.ec], .int .i64 i, .int .i64 er]) ∧ C.l = L ∧ HoldsC w' C ∧ Below w.heap.size w w'
theorem got_of {p : Nat} {t : Bs} {w w' : World} {e : Ending} (h : ReadPost p t w e w') : GotC (readOf p t).1 (readOf p t).2.1 (readOf p t).2.2 w e w' := by
  obtain ⟨hb, C, h1, h2, h3⟩ := h
  exact ⟨C, h1, h2, h3, hb⟩
section
variable (p : Nat) (hp : p < 18446744073709551616) (t : Bs) (w : World) (hE : Env w)
include hp hE
set_option maxHeartbeats 2000000 in
set_option maxRecDepth 100000 in
theorem reads_bad (hbad : (readOf p t).2.2 ≠ 0) :
    Calls Tryz.prog 6 #[.int .u64 p, .string ⟨t.toArray⟩] w fun e w' => e = .returned (.bool true) ∧ Below w.heap.size w w' := by
  have hk1 := fun W (h : Hid (Below w.heap.size w W)) => (read_any p hp t W (hE.below h.out)).mono (fun e w' k => got_of k)
  have hk2 := fun W => (rread_any p hp t W).mono (fun e w' k => got_of k)
  have hk5 := fun (C D : Cir) (e : C.l = D.l) W hC hD => rsame_any C D e W hC hD
  have hk6 := fun W (h : Hid (Below w.heap.size w W)) => alive_any W (hE.below h.out)
  have hz : ((readOf p t).2.2 == 0) = false := by simpa using hbad
  generalize readOf p t = R at *
  obtain ⟨L, i, er⟩ := R
  unfold GotC at hk1 hk2
  simp only at hk1 hk2 hz
  generalize (⟨t.toArray⟩ : ByteArray) = S at *
  have HK1 := Lib.hid hk1; clear hk1
  have HK2 := Lib.hid hk2; clear hk2
  have HK5 := Lib.hid hk5; clear hk5
  have HK6 := Lib.hid hk6; clear hk6
  clear hE hp hbad
  go_enter Tryz.func6, Tryz.ntmps6
  go_wp2_with (first
    | (go_at_call 23; refine (HK1.out _ (Lib.hid (Below.refl _ _))).mono ?_; rintro e w1 ⟨C, rfl, HCL, hC, hb⟩; have hbx : Below w1.heap.size w1 (w1.alloc (.cells #[.slice C.SA C.slots.length C.sc, .slice C.GA C.gates.length C.gc, .slice C.EA C.exits.length C.ec] 27)) := (Below.refl _ _).alloc (Nat.le_refl _) _; have HQ1 := Lib.hid (kbox_start w1 C); have HC1 := Lib.hid (hC.below hbx); have HB1 := Lib.hid hb; clear hC hbx hb)
    | (go_at_call 25; refine (HK2.out _).mono ?_; rintro e w2 ⟨D, rfl, HDL, hD, hb⟩; have hK := HQ1.out.step hb; have c0 := hK.1; have c1 := hK.2.1; have c2 := hK.2.2.1; have z0 : w1.heap.size < w2.heap.size := World.block_lt_of_cell? _ _ c0; have hbx : Below w2.heap.size w2 (w2.alloc (.cells #[.slice D.SA D.slots.length D.sc, .slice D.GA D.gates.length D.gc, .slice D.EA D.exits.length D.ec] 27)) := (Below.refl _ _).alloc (Nat.le_refl _) _; have HC2 := Lib.hid ((HC1.out.below hb).below hbx); have HD2 := Lib.hid (hD.below hbx); have HQ2 := Lib.hid (hK.step hbx); clear hD hbx hK hb)
    | (go_at_call 24; refine (HK5.out C D (HCL.trans HDL.symm) _ HC2.out HD2.out).mono ?_; rintro e w3 ⟨rfl, hb⟩; have HQ3 := Lib.hid (HQ2.out.step hb); clear hb)
    | (go_at_call 12; refine (HK6.out _ (Lib.hid (HB1.out.trans (HQ3.out.2.2.2.out.mono HB1.out.size)))).mono ?_; rintro e w4 ⟨rfl, hb⟩; have HQ4 := Lib.hid (HQ3.out.step hb); clear hb))
  go_ret
  exact ⟨rfl, HB1.out.trans (HQ4.out.2.2.2.out.mono HB1.out.size)⟩
set_option maxHeartbeats 2000000 in
set_option maxRecDepth 100000 in
theorem reads_ok (hok : (readOf p t).2.2 = 0) :
    Calls Tryz.prog 6 #[.int .u64 p, .string ⟨t.toArray⟩] w fun e w' => e = .returned (.bool true) ∧ Below w.heap.size w w' := by
  have hk1 := fun W (h : Hid (Below w.heap.size w W)) => (read_any p hp t W (hE.below h.out)).mono (fun e w' k => got_of k)
  have hk2 := fun W => (rread_any p hp t W).mono (fun e w' k => got_of k)
  have hk5 := fun (C D : Cir) (e : C.l = D.l) W hC hD => rsame_any C D e W hC hD
  have hk6 := fun W (h : Hid (Below w.heap.size w W)) => alive_any W (hE.below h.out)
  have hwr := write_read (p := p) (t := t) (L := (readOf p t).1) (i := (readOf p t).2.1) (by rw [← hok])
  have hk7 : ∀ (C : Cir), C.l = (readOf p t).1 → ∀ W, Hid (Below w.heap.size w W) → HoldsC W C → Calls Tryz.prog 21 #[.int .u64 p, .agg #[.slice C.SA C.slots.length C.sc, .slice C.GA C.gates.length C.gc, .slice C.EA C.exits.length C.ec]] W fun e w' => e = .returned (.tuple #[.string ⟨t.toArray⟩, .int .i64 0]) ∧ Below W.heap.size W w' := by
    intro C hl W h hC
    have he : checkErr p C = 0 := by rw [← check_cl, hl]; exact hwr.2.1
    have e1 : wrErr p C = 0 := by unfold wrErr; rw [if_neg (by rw [he]; simp), hl, hwr.1, if_neg (by have := hwr.2.2.1; omega)]
    have e2 : wrText p C = t := by unfold wrText; rw [if_pos e1, hl, hwr.1]
    have h5 := write_any p hp C W hC (hE.below h.out).1
    unfold WrPost at h5
    rw [e1, e2] at h5
    exact h5
  clear hwr
  generalize readOf p t = R at *
  obtain ⟨L, i, er⟩ := R
  unfold GotC at hk1 hk2
  simp only at hk1 hk2 hok hk7
  subst hok
  generalize (⟨t.toArray⟩ : ByteArray) = S at *
  have HK1 := Lib.hid hk1; clear hk1
  have HK2 := Lib.hid hk2; clear hk2
  have HK5 := Lib.hid hk5; clear hk5
  have HK6 := Lib.hid hk6; clear hk6
  have HK7 := Lib.hid hk7; clear hk7
  clear hE hp
  go_enter Tryz.func6, Tryz.ntmps6
  go_wp2_with (first
    | (go_at_call 23; refine (HK1.out _ (Lib.hid (Below.refl _ _))).mono ?_; rintro e w1 ⟨C, rfl, HCL, hC, hb⟩; have hbx : Below w1.heap.size w1 (w1.alloc (.cells #[.slice C.SA C.slots.length C.sc, .slice C.GA C.gates.length C.gc, .slice C.EA C.exits.length C.ec] 27)) := (Below.refl _ _).alloc (Nat.le_refl _) _; have HQ1 := Lib.hid (kbox_start w1 C); have HC1 := Lib.hid (hC.below hbx); have HB1 := Lib.hid hb; clear hC hbx hb)
    | (go_at_call 25; refine (HK2.out _).mono ?_; rintro e w2 ⟨D, rfl, HDL, hD, hb⟩; have hK := HQ1.out.step hb; have c0 := hK.1; have c1 := hK.2.1; have c2 := hK.2.2.1; have z0 : w1.heap.size < w2.heap.size := World.block_lt_of_cell? _ _ c0; have hbx : Below w2.heap.size w2 (w2.alloc (.cells #[.slice D.SA D.slots.length D.sc, .slice D.GA D.gates.length D.gc, .slice D.EA D.exits.length D.ec] 27)) := (Below.refl _ _).alloc (Nat.le_refl _) _; have HC2 := Lib.hid ((HC1.out.below hb).below hbx); have HD2 := Lib.hid (hD.below hbx); have HQ2 := Lib.hid (hK.step hbx); clear hD hbx hK hb)
    | (go_at_call 24; refine (HK5.out C D (HCL.trans HDL.symm) _ HC2.out HD2.out).mono ?_; rintro e w3 ⟨rfl, hb⟩; have hK := HQ2.out.step hb; have c0 := hK.1; have c1 := hK.2.1; have c2 := hK.2.2.1; have HC3 := Lib.hid (HC2.out.below hb); have HQ3 := Lib.hid hK; clear hK hb)
    | (go_at_call 21; refine (HK7.out C HCL _ (Lib.hid (HB1.out.trans (HQ3.out.2.2.2.out.mono HB1.out.size))) HC3.out).mono ?_; rintro e w4 ⟨rfl, hb⟩; have HQ4 := Lib.hid (HQ3.out.step hb); clear hb)
    | (go_at_call 12; refine (HK6.out _ (Lib.hid (HB1.out.trans (HQ4.out.2.2.2.out.mono HB1.out.size)))).mono ?_; rintro e w5 ⟨rfl, hb⟩; have HQ5 := Lib.hid (HQ4.out.step hb); clear hb))
  go_ret
  exact ⟨rfl, HB1.out.trans (HQ5.out.2.2.2.out.mono HB1.out.size)⟩
end
theorem reads_walk (p : Nat) (hp : p < 18446744073709551616) (t : Bs) (w : World) (hE : Env w) :
    Calls Tryz.prog 6 #[.int .u64 p, .string ⟨t.toArray⟩] w fun e w' => e = .returned (.bool true) ∧ Below w.heap.size w w' := by
  by_cases h : (readOf p t).2.2 = 0
  · exact reads_ok p hp t w hE h
  · exact reads_bad p hp t w hE h
theorem reads_walk_s (p : Nat) (hp : p < 18446744073709551616) (s : ByteArray) (_ : s.size ≤ 140737488355328) (w : World) (hE : Env w) :
    Calls Tryz.prog 6 #[.int .u64 p, .string s] w fun e w' => e = .returned (.bool true) ∧ Below w.heap.size w w' := by
  have h := reads_walk p hp s.data.toList w hE
  rwa [str_eta] at h
end Go.Proofs.YtmnbgamnbgdnnaaGreatDoor
