/- The walk of the law CircRuns. -/
import Derived.Test.YtmnbgamnbgdnnaaGreatDoorCkA
import Derived.Test.YtmnbgamnbgdnnaaGreatDoorMi
namespace Go.Proofs.YtmnbgamnbgdnnaaGreatDoor
open Go.RowKit

theorem rinputs_any (p : Nat) (hp : p < 18446744073709551616) (C : Cir) (x : List Nat) (hx : x.length ≤ 17592186044416) (A : Option Addr) (c : Nat) (hn : A = none → c = 0) (w : World) (hC : HoldsC w C) (hA : Reads w A (uCells x)) :
    Calls Tryz.prog 16 #[.int .u64 p, .agg #[.slice C.SA C.slots.length C.sc, .slice C.GA C.gates.length C.gc, .slice C.EA C.exits.length C.ec], .slice A x.length c] w (InPost p C x w) := by
  by_cases h : inErr p C x = 0
  · obtain ⟨h1, h2, h3⟩ := inErr_ok h
    cases A with
    | some aa => exact rinputs_some p hp C x hx aa c w hC hA h1 h2 h3
    | none =>
      obtain rfl := hn rfl
      have hx0 : x = [] := by
        rcases hA with h4 | ⟨ad, h4, _⟩
        · simpa [uCells] using h4
        · cases h4
      subst hx0
      exact rinputs_nil p hp C w hC h1 h2.symm
  · exact rinputs_bad p hp C x hx A c w hC hA h
set_option maxRecDepth 100000 in
theorem list_bad (r : Int) (h : r ≠ 0) (w : World) : Calls Tryz.prog 17 #[.slice none 0 0, .int .i64 r, .slice none 0 0, .int .i64 r] w fun e w' => e = .returned (.bool true) ∧ w = w' := by
  go_enter Tryz.func17, Tryz.ntmps17
  go_wp2
  go_ret
  exact ⟨rfl, rfl⟩
set_option maxRecDepth 100000 in
theorem list_ok (l : List Nat) (hl : l.length ≤ 9223372036854775807) (A B : Option Addr) (c d : Nat) (w : World) (hA : Reads w A (uCells l)) (hB : Reads w B (uCells l)) :
    Calls Tryz.prog 17 #[.slice A l.length c, .int .i64 0, .slice B l.length d, .int .i64 0] w fun e w' => e = .returned (.bool true) ∧ Below w.heap.size w w' := by
  have HS := Lib.hid (same_any l hl A B c d w hA hB)
  clear hA hB
  generalize l.length = n at *
  go_enter Tryz.func17, Tryz.ntmps17
  go_wp2_with (first | (go_at_call 46; refine HS.out.mono ?_; rintro e w1 ⟨rfl, n1, rfl⟩))
  go_ret
  exact ⟨rfl, below_drewN (Below.refl _ _) _⟩
/-- What the law's box and the world below it keep. -/
def KBox (w : World) (C : Cir) (W : World) : Prop := W.cell? ⟨w.heap.size, 0, none⟩ = some (.slice C.SA C.slots.length C.sc) ∧ W.cell? ⟨w.heap.size, 1, none⟩ = some (.slice C.GA C.gates.length C.gc) ∧ W.cell? ⟨w.heap.size, 2, none⟩ = some (.slice C.EA C.exits.length C.ec) ∧ Hid (Below w.heap.size w W)
theorem KBox.step {w W W' : World} {C : Cir} (h : KBox w C W) (hb : Below W.heap.size W W') : KBox w C W' := stepK h hb
theorem kbox_start (w : World) (C : Cir) : KBox w C (w.alloc (.cells #[.slice C.SA C.slots.length C.sc, .slice C.GA C.gates.length C.gc, .slice C.EA C.exits.length C.ec] 27)) := by
  have h := heap_alloc_new w (.cells #[.slice C.SA C.slots.length C.sc, .slice C.GA C.gates.length C.gc, .slice C.EA C.exits.length C.ec] 27)
  exact ⟨by rw [cell_in h]; rfl, by rw [cell_in h]; rfl, by rw [cell_in h]; rfl, Lib.hid ((Below.refl _ _).alloc (Nat.le_refl _) _)⟩
set_option maxHeartbeats 1000000 in
set_option maxRecDepth 100000 in
theorem runs_bad (p : Nat) (hp : p < 18446744073709551616) (C : Cir) (x : List Nat) (hx : x.length ≤ 17592186044416) (A : Option Addr) (c : Nat) (hn : A = none → c = 0) (w : World) (hC : HoldsC w C) (hA : Reads w A (uCells x)) (hE : Env w) (hbad : inErr p C x ≠ 0) :
    Calls Tryz.prog 4 #[.int .u64 p, .agg #[.slice C.SA C.slots.length C.sc, .slice C.GA C.gates.length C.gc, .slice C.EA C.exits.length C.ec], .slice A x.length c] w fun e w' => e = .returned (.bool true) ∧ Below w.heap.size w w' := by
  have hk1 := fun W (h : Hid (Below w.heap.size w W)) => (inputs_any p hp C x hx A c W (hC.below h.out) (hA.below h.out)).mono (R' := fun e w' => e = .returned (.tuple #[.slice none 0 0, .int .i64 (inErr p C x)]) ∧ Below W.heap.size W w') (by
    rintro e w' ⟨h1 | h1, hb⟩
    · exact ⟨h1.2, hb⟩
    · exact absurd h1.1 hbad)
  have hk2 := fun W (h : Hid (Below w.heap.size w W)) => (values_any p hp C x hx A c W (hC.below h.out) (hA.below h.out)).mono (R' := fun e w' => e = .returned (.tuple #[.slice none 0 0, .int .i64 (inErr p C x)]) ∧ Below W.heap.size W w') (by
    rintro e w' ⟨h1 | h1, hb⟩
    · exact ⟨h1.2, hb⟩
    · exact absurd h1.1 hbad)
  have hk3 := fun W (h : Hid (Below w.heap.size w W)) => (run_any p hp C x hx A c W (hC.below h.out) (hA.below h.out)).mono (R' := fun e w' => e = .returned (.tuple #[.slice none 0 0, .int .i64 (inErr p C x)]) ∧ Below W.heap.size W w') (by
    rintro e w' ⟨h1 | h1, hb⟩
    · exact ⟨h1.2, hb⟩
    · exact absurd h1.1 hbad)
  have hk4 := fun W (h : Hid (Below w.heap.size w W)) => (rinputs_any p hp C x hx A c hn W (hC.below h.out) (hA.below h.out)).mono (R' := fun e w' => e = .returned (.tuple #[.slice none 0 0, .int .i64 (inErr p C x)]) ∧ Below W.heap.size W w') (by
    rintro e w' ⟨h1 | h1, hb⟩
    · exact ⟨h1.2, hb⟩
    · exact absurd h1.1 hbad)
  have hk5 := fun W => list_bad (inErr p C x) hbad W
  have hk6 := fun W (h : Hid (Below w.heap.size w W)) => alive_any W (hE.below h.out)
  generalize inErr p C x = r at *
  have HK1 := Lib.hid hk1; clear hk1
  have HK2 := Lib.hid hk2; clear hk2
  have HK3 := Lib.hid hk3; clear hk3
  have HK4 := Lib.hid hk4; clear hk4
  have HK5 := Lib.hid hk5; clear hk5
  have HK6 := Lib.hid hk6; clear hk6
  have HQ0 := Lib.hid (kbox_start w C)
  clear hC hA hE hx hp hn
  generalize x.length = n at *
  go_enter Tryz.func4, Tryz.ntmps4
  go_wp2_with (first
    | (go_at_call 13; refine (HK1.out _ HQ0.out.2.2.2).mono ?_; rintro e w1 ⟨rfl, hb⟩; have hK := HQ0.out.step hb; have c0 := hK.1; have c1 := hK.2.1; have c2 := hK.2.2.1; have HQ1 := Lib.hid hK; clear hK hb)
    | (go_at_call 14; refine (HK2.out _ HQ1.out.2.2.2).mono ?_; rintro e w2 ⟨rfl, hb⟩; have hK := HQ1.out.step hb; have c0 := hK.1; have c1 := hK.2.1; have c2 := hK.2.2.1; have HQ2 := Lib.hid hK; clear hK hb)
    | (go_at_call 15; refine (HK3.out _ HQ2.out.2.2.2).mono ?_; rintro e w3 ⟨rfl, hb⟩; have hK := HQ2.out.step hb; have c0 := hK.1; have c1 := hK.2.1; have c2 := hK.2.2.1; have HQ3 := Lib.hid hK; clear hK hb)
    | (go_at_call 16; refine (HK4.out _ HQ3.out.2.2.2).mono ?_; rintro e w4 ⟨rfl, hb⟩; have hK := HQ3.out.step hb; have HQ4 := Lib.hid hK; clear hK hb)
    | (go_at_call 17; refine (HK5.out _).mono ?_; rintro e w5 ⟨rfl, rfl⟩)
    | (go_at_call 12; refine (HK6.out _ HQ4.out.2.2.2).mono ?_; rintro e w6 ⟨rfl, hb⟩; have HQ6 := Lib.hid (HQ4.out.step hb); clear hb))
  go_ret
  exact ⟨rfl, HQ6.out.2.2.2.out⟩
set_option maxHeartbeats 1000000 in
set_option maxRecDepth 100000 in
theorem runs_ok (p : Nat) (hp : p < 18446744073709551616) (C : Cir) (x : List Nat) (hx : x.length ≤ 17592186044416) (A : Option Addr) (c : Nat) (hn : A = none → c = 0) (hnil : ∀ y ∈ C.exits, y.A = none → y.c = 0) (w : World) (hC : HoldsC w C) (hA : Reads w A (uCells x)) (hE : Env w) (hok : inErr p C x = 0) :
    Calls Tryz.prog 4 #[.int .u64 p, .agg #[.slice C.SA C.slots.length C.sc, .slice C.GA C.gates.length C.gc, .slice C.EA C.exits.length C.ec], .slice A x.length c] w fun e w' => e = .returned (.bool true) ∧ Below w.heap.size w w' := by
  obtain ⟨i1, i2, i3⟩ := inErr_ok hok
  obtain ⟨k1, k2, k3⟩ := check_ok i1
  obtain ⟨p3, pm, _⟩ := (isP_iff p).1 k1
  have hI := allLt_eff (s := C.slots) (by omega : 0 < p) i3
  have hIl : (effL C.slots x).length = x.length := by unfold effL; rw [List.length_zipWith]; omega
  have hgz := gatesErr_zero k3
  rw [← i2, ← hIl] at hgz
  have hgl : C.gates.length ≤ 65536 := by unfold tooBig at k2; omega
  have hgx := gl_lt i1
  have HF := fine_of (by rw [check_cl]; exact i1) hC.k
  have hxn : ∀ y ∈ C.exits, y.tl.length ≤ 13 ∧ y.gl.length ≤ 1024 := fun y hy => by
    obtain ⟨_, _, h3, h4⟩ := HF.x y.l (List.mem_map.2 ⟨y, hy, rfl⟩)
    exact ⟨h4, h3⟩
  have n3 : C.exits.length ≤ 4096 := by have := HF.n.2.2; simpa [Cir.l] using this
  have hVl : (valsL p (effL C.slots x) C.gates).length = C.gates.length := by
    have := valsL_len p (effL C.slots x) C.gates C.gates.length (Nat.le_refl _)
    rw [List.take_length] at this
    exact this
  have hk1 := fun W (h : Hid (Below w.heap.size w W)) => (inputs_any p hp C x hx A c W (hC.below h.out) (hA.below h.out)).mono (R' := fun e w' => (∃ B d, e = .returned (.tuple #[.slice B x.length d, .int .i64 0]) ∧ Reads w' B (uCells (effL C.slots x))) ∧ Below W.heap.size W w') (by
    rintro e w' ⟨h1 | ⟨_, v, rfl, ho⟩, hb⟩
    · exact absurd hok h1.1
    · obtain ⟨B, d, rfl, hr⟩ := own_reads ho
      exact ⟨⟨B, d, rfl, hr⟩, hb⟩)
  have hk2 := fun W (h : Hid (Below w.heap.size w W)) => (values_any p hp C x hx A c W (hC.below h.out) (hA.below h.out)).mono (R' := fun e w' => (∃ B d, e = .returned (.tuple #[.slice B C.gates.length d, .int .i64 0]) ∧ Reads w' B (uCells (valsL p (effL C.slots x) C.gates))) ∧ Below W.heap.size W w') (by
    rintro e w' ⟨h1 | ⟨_, v, rfl, ho⟩, hb⟩
    · exact absurd hok h1.1
    · obtain ⟨B, d, rfl, hr⟩ := own_reads ho
      exact ⟨⟨B, d, rfl, hr⟩, hb⟩)
  have hk3 := fun W (h : Hid (Below w.heap.size w W)) => (run_any p hp C x hx A c W (hC.below h.out) (hA.below h.out)).mono (R' := fun e w' => (∃ ts B d, e = .returned (.tuple #[.slice B C.exits.length d, .int .i64 0]) ∧ ts.map Tel.l = C.exits.map (toldOf (valsL p (effL C.slots x) C.gates)) ∧ HoldsT w' B ts) ∧ Below W.heap.size W w') (by
    rintro e w' ⟨h1 | ⟨_, ts, v, rfl, ht, hi⟩, hb⟩
    · exact absurd hok h1.1
    · obtain ⟨B, d, rfl, hh⟩ := hi.holds
      have hl : ts.length = C.exits.length := by simpa [runOf] using congrArg List.length ht
      rw [hl]
      exact ⟨⟨ts, B, d, rfl, ht, hh⟩, hb⟩)
  have hk4 := fun W (h : Hid (Below w.heap.size w W)) => (rinputs_any p hp C x hx A c hn W (hC.below h.out) (hA.below h.out)).mono (R' := fun e w' => (∃ B d, e = .returned (.tuple #[.slice B x.length d, .int .i64 0]) ∧ Reads w' B (uCells (effL C.slots x))) ∧ Below W.heap.size W w') (by
    rintro e w' ⟨h1 | ⟨_, v, rfl, ho⟩, hb⟩
    · exact absurd hok h1.1
    · obtain ⟨B, d, rfl, hr⟩ := own_reads ho
      exact ⟨⟨B, d, rfl, hr⟩, hb⟩)
  have hk5 := fun (W : World) (B D : Option Addr) (b d : Nat) (h1 : Reads W B (uCells (effL C.slots x))) (h2 : Reads W D (uCells (effL C.slots x))) => list_ok (effL C.slots x) (by omega) B D b d W h1 h2
  rw [hIl] at hk5
  have hk7 := fun (W : World) (B : Option Addr) (b : Nat) (h : Hid (Below w.heap.size w W)) (h1 : Reads W B (uCells (effL C.slots x))) => (rvalues_any p (by omega) pm C (effL C.slots x) hI hgz hgl B b W (hC.below h.out) h1).mono (R' := fun e w' => (∃ D d, e = .returned (.slice D C.gates.length d) ∧ Reads w' D (uCells (valsL p (effL C.slots x) C.gates))) ∧ Below W.heap.size W w') (by
    rintro e w' ⟨v, rfl, ho, hb⟩
    obtain ⟨D, d, rfl, hr⟩ := own_reads ho
    exact ⟨⟨D, d, rfl, hr⟩, hb⟩)
  rw [hIl] at hk7
  have hk8 := fun (W : World) (B D : Option Addr) (b d : Nat) (h1 : Reads W B (uCells (valsL p (effL C.slots x) C.gates))) (h2 : Reads W D (uCells (valsL p (effL C.slots x) C.gates))) => list_ok (valsL p (effL C.slots x) C.gates) (by omega) B D b d W h1 h2
  rw [hVl] at hk8
  have hk9 := fun (W : World) (B : Option Addr) (b : Nat) (h : Hid (Below w.heap.size w W)) (h1 : Reads W B (uCells (effL C.slots x))) => (rrun_any p (by omega) pm C (effL C.slots x) hI hgz hgl hgx hxn n3 hnil B b W (hC.below h.out) h1).mono (R' := fun e w' => (∃ ts D d, e = .returned (.slice D C.exits.length d) ∧ ts.map Tel.l = C.exits.map (toldOf (valsL p (effL C.slots x) C.gates)) ∧ HoldsT w' D ts) ∧ Below W.heap.size W w') (by
    rintro e w' ⟨ts, v, rfl, ht, hi, hb⟩
    obtain ⟨D, d, rfl, hh⟩ := hi.holds
    have hl : ts.length = C.exits.length := by simpa using congrArg List.length ht
    rw [hl]
    exact ⟨⟨ts, D, d, rfl, ht, hh⟩, hb⟩)
  rw [hIl] at hk9
  have hk10 := fun (W : World) (ts us : List Tel) (B D : Option Addr) (b d : Nat) (h1 : ts.map Tel.l = C.exits.map (toldOf (valsL p (effL C.slots x) C.gates))) (h2 : us.map Tel.l = C.exits.map (toldOf (valsL p (effL C.slots x) C.gates))) (g1 : HoldsT W B ts) (g2 : HoldsT W D us) => show Calls Tryz.prog 19 #[.slice B C.exits.length b, .slice D C.exits.length d] W fun e w' => e = .returned (.bool true) ∧ Below W.heap.size W w' from by
    have hl : ts.length = C.exits.length := by simpa using congrArg List.length h1
    have h := told_same ts us (h1.trans h2.symm) (by omega) B D b d W g1 g2
    rw [hl] at h
    refine h.mono ?_
    rintro e w' ⟨rfl, n, rfl⟩
    exact ⟨rfl, below_drewN (Below.refl _ _) _⟩
  have hk6 := fun W (h : Hid (Below w.heap.size w W)) => alive_any W (hE.below h.out)
  generalize C.exits.map (toldOf (valsL p (effL C.slots x) C.gates)) = TL at *
  generalize valsL p (effL C.slots x) C.gates = V at *
  generalize effL C.slots x = I at *
  have HK1 := Lib.hid hk1; clear hk1
  have HK2 := Lib.hid hk2; clear hk2
  have HK3 := Lib.hid hk3; clear hk3
  have HK4 := Lib.hid hk4; clear hk4
  have HK5 := Lib.hid hk5; clear hk5
  have HK6 := Lib.hid hk6; clear hk6
  have HK7 := Lib.hid hk7; clear hk7
  have HK8 := Lib.hid hk8; clear hk8
  have HK9 := Lib.hid hk9; clear hk9
  have HK10 := Lib.hid hk10; clear hk10
  have HQ0 := Lib.hid (kbox_start w C)
  clear hC hA hE hx hp hn hnil hok i1 i2 i3 k1 k2 k3 p3 pm hI hIl hgz hgl hgx HF hxn n3 hVl
  generalize x.length = n at *
  go_enter Tryz.func4, Tryz.ntmps4
  go_wp2_with (first
    | (go_at_call 17; refine (HK8.out _ _ _ _ _ ((((RV.out.below B3.out).below B4.out).below B5.out).below B6.out) RU.out).mono ?_; rintro e w7 ⟨rfl, hb⟩; have hK := HQ6.out.step hb; have c0 := hK.1; have c1 := hK.2.1; have c2 := hK.2.2.1; have HQ7 := Lib.hid hK; have B7 := Lib.hid hb; clear hK hb)
    | (go_at_call 17; refine (HK5.out _ _ _ _ _ (((RA.out.below B2.out).below B3.out).below B4.out) RW.out).mono ?_; rintro e w5 ⟨rfl, hb⟩; have hK := HQ4.out.step hb; have c0 := hK.1; have c1 := hK.2.1; have c2 := hK.2.2.1; have HQ5 := Lib.hid hK; have B5 := Lib.hid hb; clear hK hb)
    | (go_at_call 13; refine (HK1.out _ HQ0.out.2.2.2).mono ?_; rintro e w1 ⟨⟨A1, d1, rfl, hr⟩, hb⟩; have hK := HQ0.out.step hb; have c0 := hK.1; have c1 := hK.2.1; have c2 := hK.2.2.1; have HQ1 := Lib.hid hK; have RA := Lib.hid hr; clear hK hb hr)
    | (go_at_call 14; refine (HK2.out _ HQ1.out.2.2.2).mono ?_; rintro e w2 ⟨⟨A2, d2, rfl, hr⟩, hb⟩; have hK := HQ1.out.step hb; have c0 := hK.1; have c1 := hK.2.1; have c2 := hK.2.2.1; have HQ2 := Lib.hid hK; have RV := Lib.hid hr; have B2 := Lib.hid hb; clear hK hb hr)
    | (go_at_call 15; refine (HK3.out _ HQ2.out.2.2.2).mono ?_; rintro e w3 ⟨⟨ts, A3, d3, rfl, ht, hr⟩, hb⟩; have hK := HQ2.out.step hb; have c0 := hK.1; have c1 := hK.2.1; have c2 := hK.2.2.1; have HQ3 := Lib.hid hK; have RT := Lib.hid hr; have HT := Lib.hid ht; have B3 := Lib.hid hb; clear hK hb hr ht)
    | (go_at_call 16; refine (HK4.out _ HQ3.out.2.2.2).mono ?_; rintro e w4 ⟨⟨A4, d4, rfl, hr⟩, hb⟩; have hK := HQ3.out.step hb; have c0 := hK.1; have c1 := hK.2.1; have c2 := hK.2.2.1; have HQ4 := Lib.hid hK; have RW := Lib.hid hr; have B4 := Lib.hid hb; clear hK hb hr)
    | (go_at_call 18; refine (HK7.out _ _ _ HQ5.out.2.2.2 (RW.out.below B5.out)).mono ?_; rintro e w6 ⟨⟨A6, d6, rfl, hr⟩, hb⟩; have hK := HQ5.out.step hb; have c0 := hK.1; have c1 := hK.2.1; have c2 := hK.2.2.1; have HQ6 := Lib.hid hK; have RU := Lib.hid hr; have B6 := Lib.hid hb; clear hK hb hr)
    | (go_at_call 20; refine (HK9.out _ _ _ HQ7.out.2.2.2 (((RW.out.below B5.out).below B6.out).below B7.out)).mono ?_; rintro e w8 ⟨⟨us, A8, d8, rfl, ht, hr⟩, hb⟩; have hK := HQ7.out.step hb; have HQ8 := Lib.hid hK; have RS := Lib.hid hr; have HU := Lib.hid ht; have B8 := Lib.hid hb; clear hK hb hr ht)
    | (go_at_call 19; refine (HK10.out _ ts us _ _ _ _ HT.out HU.out (((((RT.out.below B4.out).below B5.out).below B6.out).below B7.out).below B8.out) RS.out).mono ?_; rintro e w9 ⟨rfl, hb⟩; have HQ9 := Lib.hid (HQ8.out.step hb); clear hb)
    | (go_at_call 12; refine (HK6.out _ HQ9.out.2.2.2).mono ?_; rintro e w10 ⟨rfl, hb⟩; have HQ10 := Lib.hid (HQ9.out.step hb); clear hb))
  go_ret
  exact ⟨rfl, HQ10.out.2.2.2.out⟩
theorem runs_walk (p : Nat) (hp : p < 18446744073709551616) (C : Cir) (x : List Nat) (hx : x.length ≤ 17592186044416) (A : Option Addr) (c : Nat) (hn : A = none → c = 0) (hnil : ∀ y ∈ C.exits, y.A = none → y.c = 0) (w : World) (hC : HoldsC w C) (hA : Reads w A (uCells x)) (hE : Env w) :
    Calls Tryz.prog 4 #[.int .u64 p, .agg #[.slice C.SA C.slots.length C.sc, .slice C.GA C.gates.length C.gc, .slice C.EA C.exits.length C.ec], .slice A x.length c] w fun e w' => e = .returned (.bool true) ∧ Below w.heap.size w w' := by
  by_cases h : inErr p C x = 0
  · exact runs_ok p hp C x hx A c hn hnil w hC hA hE h
  · exact runs_bad p hp C x hx A c hn w hC hA hE h
end Go.Proofs.YtmnbgamnbgdnnaaGreatDoor
