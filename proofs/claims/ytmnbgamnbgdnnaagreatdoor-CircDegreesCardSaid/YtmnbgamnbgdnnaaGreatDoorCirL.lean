/- Contract of circ.Values. -/
import Derived.Test.YtmnbgamnbgdnnaaGreatDoorCirK
import Derived.Deep.AppendLies
namespace Go.Proofs.YtmnbgamnbgdnnaaGreatDoor
open Go.RowKit

def ValPost (p : Nat) (C : Cir) (x : List Nat) (w : World) (e : Ending) (w' : World) : Prop :=
  ((inErr p C x ≠ 0 ∧ e = .returned (.tuple #[.slice none 0 0, .int .i64 (inErr p C x)])) ∨
   (inErr p C x = 0 ∧ ∃ v, e = .returned (.tuple #[v, .int .i64 0]) ∧ w'.ownsRow w.heap.size 22 1 v C.gates.length (uCells (valsL p (effL C.slots x) C.gates)))) ∧ Below w.heap.size w w'
set_option maxHeartbeats 1000000 in
set_option maxRecDepth 100000 in
theorem values_bad (p : Nat) (hp : p < 18446744073709551616) (C : Cir) (x : List Nat) (hx : x.length ≤ 17592186044416) (A : Option Addr) (c : Nat) (w : World) (hC : HoldsC w C) (hA : Reads w A (uCells x)) (hbad : inErr p C x ≠ 0) :
    Calls Tryz.prog 14 #[.int .u64 p, .agg #[.slice C.SA C.slots.length C.sc, .slice C.GA C.gates.length C.gc, .slice C.EA C.exits.length C.ec], .slice A x.length c] w (ValPost p C x w) := by
  have hb0 : Below w.heap.size w (w.alloc (.cells #[.slice C.SA C.slots.length C.sc, .slice C.GA C.gates.length C.gc, .slice C.EA C.exits.length C.ec] 27)) := (Below.refl _ _).alloc (Nat.le_refl _) _
  have hin := inputs_any p hp C x hx A c _ (hC.below hb0) (hA.below hb0)
  have hz : (inErr p C x == 0) = false := by simpa using hbad
  unfold InPost at hin
  unfold ValPost
  generalize inErr p C x = er at hin hbad hz
  have HI := Lib.hid hin; clear hin hC hA hb0
  have HBAD := Lib.hid hbad; clear hbad
  go_enter Tryz.func14, Tryz.ntmps14
  go_wp2_with fail
  refine HI.out.mono ?_
  rintro e w1 ⟨hor, hb1⟩
  rcases hor with ⟨_, rfl⟩ | ⟨h, _⟩
  · have HB1 := Lib.hid hb1; clear hb1
    go_wp2
    go_ret2
    exact ⟨.inl ⟨HBAD.out, rfl⟩, below_box HB1.out⟩
  · exact absurd h HBAD.out
theorem own_below {w w1 : World} {base : Nat} {e : TypeId} {size n : Nat} {v : Value} {xs : List Value} (h : w.ownsRow base e size v n xs) (hb : Below w.heap.size w w1) : w1.ownsRow base e size v n xs :=
  h.kept (row := none) ⟨hb.os, hb.tape, hb.output, hb.size, fun i hi _ => hb.block i hi⟩ (by cases v.ownBlock <;> simp)
set_option maxHeartbeats 4000000 in
set_option maxRecDepth 100000 in
theorem values_ok (p : Nat) (hp : p < 18446744073709551616) (C : Cir) (x : List Nat) (hx : x.length ≤ 17592186044416) (A : Option Addr) (c : Nat) (w : World) (hC : HoldsC w C) (hA : Reads w A (uCells x)) (hok : inErr p C x = 0) :
    Calls Tryz.prog 14 #[.int .u64 p, .agg #[.slice C.SA C.slots.length C.sc, .slice C.GA C.gates.length C.gc, .slice C.EA C.exits.length C.ec], .slice A x.length c] w (ValPost p C x w) := by
  have hb0 : Below w.heap.size w (w.alloc (.cells #[.slice C.SA C.slots.length C.sc, .slice C.GA C.gates.length C.gc, .slice C.EA C.exits.length C.ec] 27)) := (Below.refl _ _).alloc (Nat.le_refl _) _
  have hin := inputs_any p hp C x hx A c _ (hC.below hb0) (hA.below hb0)
  obtain ⟨i1, i2, i3⟩ := inErr_ok hok
  obtain ⟨k1, k2, k3⟩ := check_ok i1
  obtain ⟨p3, pm, _⟩ := (isP_iff p).1 k1
  have hI := allLt_eff (s := C.slots) (by omega : 0 < p) i3
  have hIl : (effL C.slots x).length = x.length := by unfold effL; rw [List.length_zipWith]; omega
  have hgz := gatesErr_zero k3
  rw [← i2, ← hIl] at hgz
  have HGZ := Lib.hid hgz
  have HK := Lib.hid hC.k
  have HC := Lib.hid (hC.below hb0)
  have hgl : C.gates.length ≤ 65536 := by unfold tooBig at k2; omega
  have HII := Lib.hid hI
  have HIL := Lib.hid hIl
  unfold InPost at hin
  unfold ValPost
  have HOK := Lib.hid hok
  have HI := Lib.hid hin
  clear hin hC hA hb0 i1 i2 i3 k1 k2 k3 hI hIl hgz hok
  obtain ⟨i0, hi0, hzz⟩ := Option.map_eq_some_iff.1 infoU
  simp only [Prod.mk.injEq] at hzz
  obtain ⟨hz0, hz1, hz2⟩ := hzz
  have hmk : ∀ W, (Instr.makeSlice 32 (.int .i64 0) (.int .i64 (C.gates.length : Int))).run Tryz.prog W = .ok (.slice (some ⟨W.heap.size, 0, none⟩) 0 C.gates.length) (W.alloc (.cells (madeCells #[.int .u64 0] (C.gates.length * 1)) 22)) := fun W => by
    have h := run_make (P := Tryz.prog) W 32 22 i0 _ Tryz.underlying32 hi0 hz0 .i64 .i64 0 (C.gates.length : Int) (by omega) (by omega) (by rw [hz2]; omega) (by omega)
    rw [hz1] at h
    simpa [Value.cells] using h
  clear hz0 hz1 hz2 hi0
  go_enter Tryz.func14, Tryz.ntmps14
  go_wp2_with fail
  refine HI.out.mono ?_
  rintro e w1 ⟨hor, hb1⟩
  rcases hor with ⟨h, _⟩ | ⟨_, v, rfl, hown⟩
  · exact absurd HOK.out h
  have c1 := hb1.cell (p := ⟨w.heap.size, 1, none⟩) (by simp)
  have hsz1 : w.heap.size < w1.heap.size := by have h5 := hb1.size; simp at h5; omega
  obtain ⟨IA, ic, rfl, hIr⟩ := own_reads hown
  have HB1 := Lib.hid hb1; clear hb1 hown
  have HIR := Lib.hid hIr; clear hIr
  go_wp2
  go_loopg [9, 29] C.gates.length (fun g a v wr => ∃ k : Nat, k ≤ C.gates.length ∧ g = C.gates.length - k ∧ v = .int .i64 k ∧ wr.ownsRow w1.heap.size 22 1 a k (uCells (valsL p (effL C.slots x) (C.gates.take k))) ∧ Hid (allLt p (valsL p (effL C.slots x) (C.gates.take k)) = true) ∧ Below w1.heap.size w1 wr)
  case atStart => exact ⟨0, by omega, rfl, rfl, by simpa [valsL, uCells] using made_own w1 C.gates.length (by unfold maxLen; omega), rfl, (Below.refl _ _).alloc (Nat.le_refl _) _⟩
  case round =>
    obtain ⟨k, hk, rfl, rfl, hown, hal, hbel⟩ := hrel
    have HB := Lib.hid hbel; clear hbel
    have HO := Lib.hid hown; clear hown
    by_cases hlt : k < C.gates.length
    · obtain ⟨ad, had, q0, q1, q2, q3⟩ := (((HC.out.below HB1.out).below HB.out).g).gat k hlt
      obtain ⟨VA, vc, rfl, hvr⟩ := own_reads HO.out
      have HVR := Lib.hid hvr; clear hvr
      have hVl := valsL_len p (effL C.slots x) C.gates k (by omega)
      have hsu := valsL_succ p (effL C.slots x) C.gates k hlt
      have hof := fun W (h1 : Reads W IA (uCells (effL C.slots x))) (h2 : Reads W VA (uCells (valsL p (effL C.slots x) (C.gates.take k)))) => of_any p (by omega) pm (effL C.slots x) _ HII.out hal.out IA VA ic vc C.gates[k] (HK.out _ (List.getElem_mem hlt)) (by rw [hVl]; exact HGZ.out k hlt) W h1 h2
      have hgv := (hof wr ((HIR.out).below HB.out) HVR.out).1
      have hof2 := fun W h1 h2 => (hof W h1 h2).2
      clear hof
      rw [hVl, HIL.out] at hof2
      have HAL : Hid (allLt p (valsL p (effL C.slots x) (C.gates.take (k + 1))) = true) := Lib.hid (by rw [hsu]; exact allLt_snoc hal.out hgv)
      have HSU := Lib.hid hsu
      clear hsu hal hVl
      generalize gval p (effL C.slots x) (valsL p (effL C.slots x) (C.gates.take k)) C.gates[k] = val at hof2 hgv HSU
      generalize valsL p (effL C.slots x) (C.gates.take k) = V at hof2 HSU HO HVR
      have HOF := Lib.hid hof2; clear hof2
      rw [had] at c1 ⊢
      have hszr : w1.heap.size ≤ wr.heap.size := HB.out.size
      have hb3 : Below wr.heap.size wr (wr.alloc (.cells #[.int .i64 C.gates[k].1, .int .i64 C.gates[k].2.1, .int .i64 C.gates[k].2.2.1, .int .u64 C.gates[k].2.2.2] 69)) := (Below.refl _ _).alloc (Nat.le_refl _) _
      have HIR2 := Lib.hid ((HIR.out.below HB.out).below hb3)
      have HVR2 := Lib.hid (HVR.out.below hb3)
      clear hb3
      go_wp2_with (first | (go_at_call 44; refine (HOF.out _ HIR2.out HVR2.out).mono ?_; rintro e w2 ⟨rfl, hb2⟩; have hsz2 : w1.heap.size ≤ w2.heap.size := (by have h5 := hb2.size; simp at h5; omega); have HO2 := Lib.hid (own_below (HO.out.alloc _) hb2); have HB2 := Lib.hid (below_alive (HB.out.alloc hszr _) (hb2.mono (Nat.le_refl _))); clear hb2) | (at_builtin; refine app_slice w1.heap.size rfl _ _ 32 22 _ 8 rfl Tryz.underlying32 infoU rfl (by decide) (.slice VA k vc) k (uCells V) [.int .u64 val] rfl ⟨w2.heap.size, 0, none⟩ 1 1 rfl (by simp) (by simpa using World.news_of_block (cs := #[.int .u64 val]) (t := 22) (fr := (0, 0)) (heap_alloc_new w2 (.cells #[.int .u64 val] 22))) (by intro u hu; simp at hu; subst hu; rfl) (HO2.out.alloc _) (by simp; omega) (by omega) ?_; intro v3 w3 hown3 hg3; have HO3 := Lib.hid hown3; clear hown3; have HG3 := Lib.hid hg3; clear hg3))
      rw [← had]
      go_roundg (C.gates.length - (k + 1))
      case measure => omega
      case rel => exact ⟨k + 1, by omega, rfl, by go_num, by rw [HSU.out]; simpa [uCells] using HO3.out, HAL.out, (HB2.out.alloc hsz2 _).grown HG3.out (by simp; omega) (fun q hq => (HO2.out.lt q hq).1)⟩
    · obtain rfl : k = C.gates.length := by omega
      have hO := HO.out
      rw [List.take_length] at hO
      have HO2 := Lib.hid hO; clear hO hal
      go_wp2
      go_ret2
      exact ⟨.inr ⟨HOK.out, _, rfl, own_lower HO2.out (by omega)⟩, below_box (below_alive HB1.out HB.out)⟩
theorem values_any (p : Nat) (hp : p < 18446744073709551616) (C : Cir) (x : List Nat) (hx : x.length ≤ 17592186044416) (A : Option Addr) (c : Nat) (w : World) (hC : HoldsC w C) (hA : Reads w A (uCells x)) :
    Calls Tryz.prog 14 #[.int .u64 p, .agg #[.slice C.SA C.slots.length C.sc, .slice C.GA C.gates.length C.gc, .slice C.EA C.exits.length C.ec], .slice A x.length c] w (ValPost p C x w) := by
  by_cases h : inErr p C x = 0
  · exact values_ok p hp C x hx A c w hC hA h
  · exact values_bad p hp C x hx A c w hC hA h
end Go.Proofs.YtmnbgamnbgdnnaaGreatDoor
