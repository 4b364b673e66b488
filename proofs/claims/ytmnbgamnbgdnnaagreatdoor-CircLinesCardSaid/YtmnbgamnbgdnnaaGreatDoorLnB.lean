/- The walk of the law CircLines. -/
import Derived.Test.YtmnbgamnbgdnnaaGreatDoorLnA
import Derived.Test.YtmnbgamnbgdnnaaGreatDoorCkD
import Derived.StillTailTactics
namespace Go.Proofs.YtmnbgamnbgdnnaaGreatDoor
open Go.RowKit

/-- What the law's two boxes and the world below them keep. -/
def LBox (w : World) (C : Cir) (u v : Value) (W : World) : Prop := KBox w C W ∧ W.cell? ⟨w.heap.size + 1, 0, none⟩ = some u ∧ W.cell? ⟨w.heap.size + 1, 1, none⟩ = some v
theorem LBox.step {w W W' : World} {C : Cir} {u v : Value} (h : LBox w C u v W) (hb : Below W.heap.size W W') : LBox w C u v W' :=
  ⟨h.1.step hb, (hb.cell (World.block_lt_of_cell? W _ h.2.1)).trans h.2.1, (hb.cell (World.block_lt_of_cell? W _ h.2.2)).trans h.2.2⟩
theorem lbox_start (w : World) (C : Cir) (u v : Value) : LBox w C u v ((w.alloc (.cells #[.slice C.SA C.slots.length C.sc, .slice C.GA C.gates.length C.gc, .slice C.EA C.exits.length C.ec] 27)).alloc (.cells #[u, v] 50)) := by
  have h := heap_alloc_new (w.alloc (.cells #[.slice C.SA C.slots.length C.sc, .slice C.GA C.gates.length C.gc, .slice C.EA C.exits.length C.ec] 27)) (.cells #[u, v] 50)
  have e : (w.alloc (.cells #[.slice C.SA C.slots.length C.sc, .slice C.GA C.gates.length C.gc, .slice C.EA C.exits.length C.ec] 27)).heap.size = w.heap.size + 1 := by simp
  rw [e] at h
  exact ⟨(kbox_start w C).step ((Below.refl _ _).alloc (Nat.le_refl _) _), by rw [cell_in h]; rfl, by rw [cell_in h]; rfl⟩
def TrueB (w : World) (e : Ending) (w' : World) : Prop := e = .returned (.bool true) ∧ Below w.heap.size w w'
section
variable (p : Nat) (hp : p < 18446744073709551616) (C : Cir) (x y : List Nat) (hlx : x.length ≤ 9223372036854775807) (hly : y.length ≤ 9223372036854775807) (A B : Option Addr) (c d : Nat) (w : World) (hC : HoldsC w C) (hA : Reads w A (uCells x)) (hB : Reads w B (uCells y)) (hE : Env w)
include hp hlx hly hC hA hB hE
set_option maxHeartbeats 2000000 in
set_option maxRecDepth 100000 in
theorem lines_a (hbad : checkErr p C ≠ 0) :
    Calls Tryz.prog 7 #[.int .u64 p, .agg #[.slice C.SA C.slots.length C.sc, .slice C.GA C.gates.length C.gc, .slice C.EA C.exits.length C.ec], .agg #[.slice A x.length c, .slice B y.length d]] w (TrueB w) := by
  have hk1 := fun W (h : Hid (Below w.heap.size w W)) => rcheck_any p hp C W (hC.below h.out)
  have hk2 := fun W (h : Hid (Below w.heap.size w W)) => rcount_any C 5 W (hC.below h.out)
  have hk3 := fun W (h : Hid (Below w.heap.size w W)) => withinL_any p x (by omega) A c W (hA.below h.out)
  have hk4 := fun W (h : Hid (Below w.heap.size w W)) => withinL_any p y (by omega) B d W (hB.below h.out)
  have hk5 := fun W (h : Hid (Below w.heap.size w W)) => alive_any W (hE.below h.out)
  unfold GatePost at hk1 hk2
  unfold IPost at hk3 hk4
  have hz : (checkErr p C == 0) = false := by simpa using hbad
  have hz2 : (checkErr p C != 0) = true := by simpa using hbad
  generalize checkErr p C = er at *
  clear hk2 hk3 hk4
  have HK1 := Lib.hid hk1; clear hk1
  have HK5 := Lib.hid hk5; clear hk5
  have HQ0 := Lib.hid (lbox_start w C (.slice A x.length c) (.slice B y.length d))
  clear hC hA hB hE hp hlx hly
  generalize x.length = n at *
  generalize y.length = m at *
  go_enter Tryz.func7, Tryz.ntmps7
  go_wp2_with (first
    | (go_at_call 11; refine (HK1.out _ HQ0.out.1.2.2.2).mono ?_; rintro e w1 ⟨rfl, hb⟩; have hK := HQ0.out.step hb; have BA := hK.1.2.2.2; have c0 := hK.1.1; have c1 := hK.1.2.1; have c2 := hK.1.2.2.1; have c3 := hK.2.1; have c4 := hK.2.2; have HQ1 := Lib.hid hK; clear hK hb)
    | (go_at_call 12; refine (HK5.out _ HQ1.out.1.2.2.2).mono ?_; rintro e w5 ⟨rfl, hb⟩; have HQ5 := Lib.hid (HQ1.out.step hb); clear hb))
  go_ret
  exact ⟨rfl, HQ5.out.1.2.2.2.out⟩
set_option maxHeartbeats 2000000 in
set_option maxRecDepth 100000 in
theorem lines_b (h0 : checkErr p C = 0) (hbad : 0 < countK 5 C.gates) :
    Calls Tryz.prog 7 #[.int .u64 p, .agg #[.slice C.SA C.slots.length C.sc, .slice C.GA C.gates.length C.gc, .slice C.EA C.exits.length C.ec], .agg #[.slice A x.length c, .slice B y.length d]] w (TrueB w) := by
  have hk1 := fun W (h : Hid (Below w.heap.size w W)) => rcheck_any p hp C W (hC.below h.out)
  have hk2 := fun W (h : Hid (Below w.heap.size w W)) => rcount_any C 5 W (hC.below h.out)
  have hk3 := fun W (h : Hid (Below w.heap.size w W)) => withinL_any p x (by omega) A c W (hA.below h.out)
  have hk4 := fun W (h : Hid (Below w.heap.size w W)) => withinL_any p y (by omega) B d W (hB.below h.out)
  have hk5 := fun W (h : Hid (Below w.heap.size w W)) => alive_any W (hE.below h.out)
  unfold GatePost at hk1 hk2
  unfold IPost at hk3 hk4
  rw [h0] at hk1
  generalize countK 5 C.gates = q at *
  have hq : (0 : Int) < (q : Int) := by omega
  clear hk3 hk4 h0
  have HK1 := Lib.hid hk1; clear hk1
  have HK2 := Lib.hid hk2; clear hk2
  have HK5 := Lib.hid hk5; clear hk5
  have HQ0 := Lib.hid (lbox_start w C (.slice A x.length c) (.slice B y.length d))
  clear hC hA hB hE hp hlx hly
  generalize x.length = n at *
  generalize y.length = m at *
  go_enter Tryz.func7, Tryz.ntmps7
  go_wp2_with (first
    | (go_at_call 11; refine (HK1.out _ HQ0.out.1.2.2.2).mono ?_; rintro e w1 ⟨rfl, hb⟩; have hK := HQ0.out.step hb; have BA := hK.1.2.2.2; have c0 := hK.1.1; have c1 := hK.1.2.1; have c2 := hK.1.2.2.1; have c3 := hK.2.1; have c4 := hK.2.2; have HQ1 := Lib.hid hK; clear hK hb)
    | (go_at_call 26; refine (HK2.out _ HQ1.out.1.2.2.2).mono ?_; rintro e w2 ⟨rfl, hb⟩; have hK := HQ1.out.step hb; have BB := hK.1.2.2.2; have c0 := hK.1.1; have c1 := hK.1.2.1; have c2 := hK.1.2.2.1; have c3 := hK.2.1; have c4 := hK.2.2; have z1 : w.heap.size + 1 < w2.heap.size := (World.block_lt_of_cell? _ _ c3); have z0 : w.heap.size < w2.heap.size := Nat.lt_of_succ_lt z1; have HQ2 := Lib.hid hK; clear hK hb)
    | (go_at_call 12; refine (HK5.out _ HQ2.out.1.2.2.2).mono ?_; rintro e w5 ⟨rfl, hb⟩; have HQ5 := Lib.hid (HQ2.out.step hb); clear hb))
  go_ret
  exact ⟨rfl, HQ5.out.1.2.2.2.out⟩
set_option maxHeartbeats 2000000 in
set_option maxRecDepth 100000 in
theorem lines_c (h0 : checkErr p C = 0) (h1 : countK 5 C.gates = 0) (hbad : x.length ≠ C.slots.length) :
    Calls Tryz.prog 7 #[.int .u64 p, .agg #[.slice C.SA C.slots.length C.sc, .slice C.GA C.gates.length C.gc, .slice C.EA C.exits.length C.ec], .agg #[.slice A x.length c, .slice B y.length d]] w (TrueB w) := by
  have hk1 := fun W (h : Hid (Below w.heap.size w W)) => rcheck_any p hp C W (hC.below h.out)
  have hk2 := fun W (h : Hid (Below w.heap.size w W)) => rcount_any C 5 W (hC.below h.out)
  have hk3 := fun W (h : Hid (Below w.heap.size w W)) => withinL_any p x (by omega) A c W (hA.below h.out)
  have hk4 := fun W (h : Hid (Below w.heap.size w W)) => withinL_any p y (by omega) B d W (hB.below h.out)
  have hk5 := fun W (h : Hid (Below w.heap.size w W)) => alive_any W (hE.below h.out)
  unfold GatePost at hk1 hk2
  unfold IPost at hk3 hk4
  rw [h0] at hk1
  rw [h1] at hk2
  rw [show ((0 : Nat) : Int) = 0 from rfl] at hk2
  clear h0 h1
  have hn1 : ((x.length : Int) == (C.slots.length : Int)) = false := by simp; omega
  have hn2 : (x.length == C.slots.length) = false := by simpa using hbad
  have hn3 : ((x.length : Int) != (C.slots.length : Int)) = true := by simp; omega
  have hn4 : (x.length != C.slots.length) = true := by simpa using hbad
  clear hk3 hk4 hbad
  have HK1 := Lib.hid hk1; clear hk1
  have HK2 := Lib.hid hk2; clear hk2
  have HK5 := Lib.hid hk5; clear hk5
  have HQ0 := Lib.hid (lbox_start w C (.slice A x.length c) (.slice B y.length d))
  clear hC hA hB hE hp hlx hly
  generalize x.length = n at *
  generalize y.length = m at *
  go_enter Tryz.func7, Tryz.ntmps7
  go_wp2_with (first
    | (go_at_call 11; refine (HK1.out _ HQ0.out.1.2.2.2).mono ?_; rintro e w1 ⟨rfl, hb⟩; have hK := HQ0.out.step hb; have BA := hK.1.2.2.2; have c0 := hK.1.1; have c1 := hK.1.2.1; have c2 := hK.1.2.2.1; have c3 := hK.2.1; have c4 := hK.2.2; have HQ1 := Lib.hid hK; clear hK hb)
    | (go_at_call 26; refine (HK2.out _ HQ1.out.1.2.2.2).mono ?_; rintro e w2 ⟨rfl, hb⟩; have hK := HQ1.out.step hb; have BB := hK.1.2.2.2; have c0 := hK.1.1; have c1 := hK.1.2.1; have c2 := hK.1.2.2.1; have c3 := hK.2.1; have c4 := hK.2.2; have z1 : w.heap.size + 1 < w2.heap.size := (World.block_lt_of_cell? _ _ c3); have z0 : w.heap.size < w2.heap.size := Nat.lt_of_succ_lt z1; have HQ2 := Lib.hid hK; clear hK hb)
    | (go_at_call 12; refine (HK5.out _ HQ2.out.1.2.2.2).mono ?_; rintro e w5 ⟨rfl, hb⟩; have HQ5 := Lib.hid (HQ2.out.step hb); clear hb))
  go_ret
  exact ⟨rfl, HQ5.out.1.2.2.2.out⟩
set_option maxHeartbeats 2000000 in
set_option maxRecDepth 100000 in
theorem lines_d (h0 : checkErr p C = 0) (h1 : countK 5 C.gates = 0) (h2 : x.length = C.slots.length) (hbad : y.length ≠ C.slots.length) :
    Calls Tryz.prog 7 #[.int .u64 p, .agg #[.slice C.SA C.slots.length C.sc, .slice C.GA C.gates.length C.gc, .slice C.EA C.exits.length C.ec], .agg #[.slice A x.length c, .slice B y.length d]] w (TrueB w) := by
  have hk1 := fun W (h : Hid (Below w.heap.size w W)) => rcheck_any p hp C W (hC.below h.out)
  have hk2 := fun W (h : Hid (Below w.heap.size w W)) => rcount_any C 5 W (hC.below h.out)
  have hk3 := fun W (h : Hid (Below w.heap.size w W)) => withinL_any p x (by omega) A c W (hA.below h.out)
  have hk4 := fun W (h : Hid (Below w.heap.size w W)) => withinL_any p y (by omega) B d W (hB.below h.out)
  have hk5 := fun W (h : Hid (Below w.heap.size w W)) => alive_any W (hE.below h.out)
  unfold GatePost at hk1 hk2
  unfold IPost at hk3 hk4
  rw [h0] at hk1
  rw [h1] at hk2
  rw [show ((0 : Nat) : Int) = 0 from rfl] at hk2
  clear h0 h1
  have hn1 : ((y.length : Int) == (C.slots.length : Int)) = false := by simp; omega
  have hn2 : (y.length == C.slots.length) = false := by simpa using hbad
  have hn3 : ((y.length : Int) != (C.slots.length : Int)) = true := by simp; omega
  have hn4 : (y.length != C.slots.length) = true := by simpa using hbad
  rw [h2] at *
  clear hk3 hk4 hbad h2
  have HK1 := Lib.hid hk1; clear hk1
  have HK2 := Lib.hid hk2; clear hk2
  have HK5 := Lib.hid hk5; clear hk5
  have HQ0 := Lib.hid (lbox_start w C (.slice A C.slots.length c) (.slice B y.length d))
  clear hC hA hB hE hp hlx hly
  generalize y.length = m at *
  go_enter Tryz.func7, Tryz.ntmps7
  go_wp2_with (first
    | (go_at_call 11; refine (HK1.out _ HQ0.out.1.2.2.2).mono ?_; rintro e w1 ⟨rfl, hb⟩; have hK := HQ0.out.step hb; have BA := hK.1.2.2.2; have c0 := hK.1.1; have c1 := hK.1.2.1; have c2 := hK.1.2.2.1; have c3 := hK.2.1; have c4 := hK.2.2; have HQ1 := Lib.hid hK; clear hK hb)
    | (go_at_call 26; refine (HK2.out _ HQ1.out.1.2.2.2).mono ?_; rintro e w2 ⟨rfl, hb⟩; have hK := HQ1.out.step hb; have BB := hK.1.2.2.2; have c0 := hK.1.1; have c1 := hK.1.2.1; have c2 := hK.1.2.2.1; have c3 := hK.2.1; have c4 := hK.2.2; have z1 : w.heap.size + 1 < w2.heap.size := (World.block_lt_of_cell? _ _ c3); have z0 : w.heap.size < w2.heap.size := Nat.lt_of_succ_lt z1; have HQ2 := Lib.hid hK; clear hK hb)
    | (go_at_call 12; refine (HK5.out _ HQ2.out.1.2.2.2).mono ?_; rintro e w5 ⟨rfl, hb⟩; have HQ5 := Lib.hid (HQ2.out.step hb); clear hb))
  go_ret
  exact ⟨rfl, HQ5.out.1.2.2.2.out⟩
set_option maxHeartbeats 2000000 in
set_option maxRecDepth 100000 in
theorem lines_e (h0 : checkErr p C = 0) (h1 : countK 5 C.gates = 0) (h2 : x.length = C.slots.length) (h3 : y.length = C.slots.length) (hbad : ltErr p x ≠ 0) :
    Calls Tryz.prog 7 #[.int .u64 p, .agg #[.slice C.SA C.slots.length C.sc, .slice C.GA C.gates.length C.gc, .slice C.EA C.exits.length C.ec], .agg #[.slice A x.length c, .slice B y.length d]] w (TrueB w) := by
  have hk1 := fun W (h : Hid (Below w.heap.size w W)) => rcheck_any p hp C W (hC.below h.out)
  have hk2 := fun W (h : Hid (Below w.heap.size w W)) => rcount_any C 5 W (hC.below h.out)
  have hk3 := fun W (h : Hid (Below w.heap.size w W)) => withinL_any p x (by omega) A c W (hA.below h.out)
  have hk4 := fun W (h : Hid (Below w.heap.size w W)) => withinL_any p y (by omega) B d W (hB.below h.out)
  have hk5 := fun W (h : Hid (Below w.heap.size w W)) => alive_any W (hE.below h.out)
  unfold GatePost at hk1 hk2
  unfold IPost at hk3 hk4
  rw [h0] at hk1
  rw [h1] at hk2
  rw [show ((0 : Nat) : Int) = 0 from rfl] at hk2
  clear h0 h1
  have hz : (ltErr p x == 0) = false := by simpa using hbad
  have hz2 : (ltErr p x != 0) = true := by simpa using hbad
  rw [h2] at *
  rw [h3]
  have hu := hly
  clear hk4 h2 h3 hu
  generalize ltErr p x = er at *
  have HK1 := Lib.hid hk1; clear hk1
  have HK2 := Lib.hid hk2; clear hk2
  have HK3 := Lib.hid hk3; clear hk3
  have HK5 := Lib.hid hk5; clear hk5
  have HQ0 := Lib.hid (lbox_start w C (.slice A C.slots.length c) (.slice B C.slots.length d))
  clear hC hA hB hE hp hlx hly
  go_enter Tryz.func7, Tryz.ntmps7
  go_wp2_with (first
    | (go_at_call 11; refine (HK1.out _ HQ0.out.1.2.2.2).mono ?_; rintro e w1 ⟨rfl, hb⟩; have hK := HQ0.out.step hb; have BA := hK.1.2.2.2; have c0 := hK.1.1; have c1 := hK.1.2.1; have c2 := hK.1.2.2.1; have c3 := hK.2.1; have c4 := hK.2.2; have HQ1 := Lib.hid hK; clear hK hb)
    | (go_at_call 26; refine (HK2.out _ HQ1.out.1.2.2.2).mono ?_; rintro e w2 ⟨rfl, hb⟩; have hK := HQ1.out.step hb; have BB := hK.1.2.2.2; have c0 := hK.1.1; have c1 := hK.1.2.1; have c2 := hK.1.2.2.1; have c3 := hK.2.1; have c4 := hK.2.2; have z1 : w.heap.size + 1 < w2.heap.size := (World.block_lt_of_cell? _ _ c3); have z0 : w.heap.size < w2.heap.size := Nat.lt_of_succ_lt z1; have HQ2 := Lib.hid hK; clear hK hb)
    | (go_at_call 27; (with_reducible refine (HK3.out _ BB).mono ?_); rintro e w3 ⟨rfl, rfl⟩)
    | (go_at_call 12; refine (HK5.out _ HQ2.out.1.2.2.2).mono ?_; rintro e w5 ⟨rfl, hb⟩; have HQ5 := Lib.hid (HQ2.out.step hb); clear hb))
  go_ret
  exact ⟨rfl, HQ5.out.1.2.2.2.out⟩
set_option maxHeartbeats 2000000 in
set_option maxRecDepth 100000 in
theorem lines_f (h0 : checkErr p C = 0) (h1 : countK 5 C.gates = 0) (h2 : x.length = C.slots.length) (h3 : y.length = C.slots.length) (h4 : ltErr p x = 0) (hbad : ltErr p y ≠ 0) :
    Calls Tryz.prog 7 #[.int .u64 p, .agg #[.slice C.SA C.slots.length C.sc, .slice C.GA C.gates.length C.gc, .slice C.EA C.exits.length C.ec], .agg #[.slice A x.length c, .slice B y.length d]] w (TrueB w) := by
  have hk1 := fun W (h : Hid (Below w.heap.size w W)) => rcheck_any p hp C W (hC.below h.out)
  have hk2 := fun W (h : Hid (Below w.heap.size w W)) => rcount_any C 5 W (hC.below h.out)
  have hk3 := fun W (h : Hid (Below w.heap.size w W)) => withinL_any p x (by omega) A c W (hA.below h.out)
  have hk4 := fun W (h : Hid (Below w.heap.size w W)) => withinL_any p y (by omega) B d W (hB.below h.out)
  have hk5 := fun W (h : Hid (Below w.heap.size w W)) => alive_any W (hE.below h.out)
  unfold GatePost at hk1 hk2
  unfold IPost at hk3 hk4
  rw [h0] at hk1
  rw [h1] at hk2
  rw [show ((0 : Nat) : Int) = 0 from rfl] at hk2
  clear h0 h1
  have hz : (ltErr p y == 0) = false := by simpa using hbad
  have hz2 : (ltErr p y != 0) = true := by simpa using hbad
  rw [h4] at hk3
  rw [h2] at *
  have hu := hly
  rw [h3] at *
  clear h2 h3 h4 hu
  generalize ltErr p y = er at *
  have HK1 := Lib.hid hk1; clear hk1
  have HK2 := Lib.hid hk2; clear hk2
  have HK3 := Lib.hid hk3; clear hk3
  have HK4 := Lib.hid hk4; clear hk4
  have HK5 := Lib.hid hk5; clear hk5
  have HQ0 := Lib.hid (lbox_start w C (.slice A C.slots.length c) (.slice B C.slots.length d))
  clear hC hA hB hE hp hlx hly
  go_enter Tryz.func7, Tryz.ntmps7
  go_wp2_with (first
    | (go_at_call 11; refine (HK1.out _ HQ0.out.1.2.2.2).mono ?_; rintro e w1 ⟨rfl, hb⟩; have hK := HQ0.out.step hb; have BA := hK.1.2.2.2; have c0 := hK.1.1; have c1 := hK.1.2.1; have c2 := hK.1.2.2.1; have c3 := hK.2.1; have c4 := hK.2.2; have HQ1 := Lib.hid hK; clear hK hb)
    | (go_at_call 26; refine (HK2.out _ HQ1.out.1.2.2.2).mono ?_; rintro e w2 ⟨rfl, hb⟩; have hK := HQ1.out.step hb; have BB := hK.1.2.2.2; have c0 := hK.1.1; have c1 := hK.1.2.1; have c2 := hK.1.2.2.1; have c3 := hK.2.1; have c4 := hK.2.2; have z1 : w.heap.size + 1 < w2.heap.size := (World.block_lt_of_cell? _ _ c3); have z0 : w.heap.size < w2.heap.size := Nat.lt_of_succ_lt z1; have HQ2 := Lib.hid hK; clear hK hb)
    | (go_at_call 27; (with_reducible refine (HK3.out _ BB).mono ?_); rintro e w3 ⟨rfl, rfl⟩)
    | (go_at_call 27; (with_reducible refine (HK4.out _ BB).mono ?_); rintro e w4 ⟨rfl, rfl⟩)
    | (go_at_call 12; refine (HK5.out _ HQ2.out.1.2.2.2).mono ?_; rintro e w5 ⟨rfl, hb⟩; have HQ5 := Lib.hid (HQ2.out.step hb); clear hb))
  go_ret
  exact ⟨rfl, HQ5.out.1.2.2.2.out⟩
end
end Go.Proofs.YtmnbgamnbgdnnaaGreatDoor
