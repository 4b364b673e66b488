/- The chapter's example: it is read, written and run as it should be. -/
import Derived.Test.YtmnbgamnbgdnnaaGreatDoorCjK
namespace Go.Proofs.YtmnbgamnbgdnnaaGreatDoor
open Go.RowKit

def exText : Bs := [115, 108, 111, 116, 115, 32, 110, 49, 32, 98, 50, 10, 105, 110, 32, 48, 10, 105, 110, 32, 49, 10, 109, 117, 108, 32, 48, 32, 49, 10, 111, 117, 116, 32, 97, 108, 108, 32, 58, 32, 50, 10]
def exL : Lis := ([(1, false), (2, true)], [(1, 0, 0, 0), (1, 1, 0, 0), (5, 0, 1, 0)], [([], [2])])
set_option maxRecDepth 100000 in
theorem ex_read : readOf 11 exText = (exL, 0, 0) := by rfl
theorem ex_write : textOf exL = exText ∧ checkL 11 exL = 0 := by
  obtain ⟨h1, h2, _⟩ := write_read ex_read
  exact ⟨h1, h2⟩
def runL0 (p : Nat) (L : Lis) (x : List Nat) : List (List Int × List Nat) := L.2.2.map fun y => (y.1, y.2.map fun g => (valsL p (effL L.1 x) L.2.1).getD g.toNat 0)
theorem runOf_l (p : Nat) (C : Cir) (x : List Nat) : runOf p C x = runL0 p C.l x := by
  unfold runOf runL0 Cir.l
  simp only
  rw [List.map_map]
  rfl
theorem ex_run1 : runL0 11 exL [5, 1] = [([], [5])] := by decide
theorem ex_run2 : runL0 11 exL [5, 3] = [([], [0])] := by decide
theorem ex_fits {C : Cir} (h : C.l = exL) (x : List Nat) (hx : x.length = 2) (ha : allLt 11 x = true) : inErr 11 C x = 0 := by
  have h1 : checkErr 11 C = 0 := by rw [← check_cl, h]; exact ex_write.2
  have h2 : C.slots = [(1, false), (2, true)] := congrArg (fun x : Lis => x.1) h
  unfold inErr
  rw [if_pos h1, if_pos ⟨by rw [hx, h2]; rfl, ha⟩]
theorem cell_in {W : World} {b i : Nat} {cs : Array Value} {t : TypeId} {fr : Nat × Nat} (h : W.heap[b]? = some (.cells cs t fr)) : W.cell? ⟨b, i, none⟩ = cs[i]? := by simp only [World.cell?, h]; rfl
theorem add_k (b k : Nat) : (⟨b, 0, none⟩ : Addr).add k = ⟨b, k, none⟩ := by unfold Addr.add; split <;> simp_all
theorem one_told (W : World) (v : Nat) : HoldsT ((W.alloc (.cells #[.int .u64 v] 22)).alloc (.cells #[.slice none 0 0, .slice (some ⟨W.heap.size, 0, none⟩) 1 1] 75)) (some ⟨W.heap.size + 1, 0, none⟩) [⟨[], [v], none, some ⟨W.heap.size, 0, none⟩, 0, 1⟩] := by
  have h1 : (W.alloc (.cells #[.int .u64 v] 22)).heap.size = W.heap.size + 1 := by simp
  have b2 := heap_alloc_new (W.alloc (.cells #[.int .u64 v] 22)) (.cells #[.slice none 0 0, .slice (some ⟨W.heap.size, 0, none⟩) 1 1] 75)
  rw [h1] at b2
  have b1 := (Below.heap_alloc (W.alloc (.cells #[.int .u64 v] 22)) (.cells #[.slice none 0 0, .slice (some ⟨W.heap.size, 0, none⟩) 1 1] 75) W.heap.size (by rw [h1]; omega)).trans (heap_alloc_new W _)
  refine ⟨.inr ⟨_, rfl, fun j u hj => ?_⟩, fun t ht => ?_, fun t ht => ?_⟩
  · match j, hj with
    | 0, hj => rw [add_k, cell_in b2]; simpa [telCells] using hj
    | 1, hj => rw [add_k, cell_in b2]; simpa [telCells] using hj
    | j + 2, hj => simp [telCells] at hj
  · rw [List.mem_singleton.1 ht]
    refine ⟨.inl rfl, .inr ⟨_, rfl, fun j u hj => ?_⟩⟩
    match j, hj with
    | 0, hj => rw [add_k, cell_in b1]; simpa [uCells] using hj
    | j + 1, hj => simp [uCells] at hj
  · rw [List.mem_singleton.1 ht]
    simp
theorem two_reads (W : World) (a b : Nat) : Reads (W.alloc (.cells #[.int .u64 a, .int .u64 b] 22)) (some ⟨W.heap.size, 0, none⟩) (uCells [a, b]) := by
  have b1 := heap_alloc_new W (.cells #[.int .u64 a, .int .u64 b] 22)
  refine .inr ⟨_, rfl, fun j u hj => ?_⟩
  match j, hj with
  | 0, hj => rw [add_k, cell_in b1]; simpa [uCells] using hj
  | 1, hj => rw [add_k, cell_in b1]; simpa [uCells] using hj
  | j + 2, hj => simp [uCells] at hj

theorem tels_one {ts : List Tel} {L : List (List Int × List Nat)} (h : ts.map Tel.l = L) {y : List Int × List Nat} (hL : L = [y]) {u : Tel} (hu : u.l = y) : ts.map Tel.l = [u].map Tel.l ∧ ts.length = 1 := by
  subst hL
  refine ⟨by rw [h]; simp [hu], by simpa using congrArg List.length h⟩
/-- What a run of the example gives. -/
def ExRun (v : Nat) (w : World) (e : Ending) (w' : World) : Prop := ∃ ts A c, e = .returned (.tuple #[.slice A 1 c, .int .i64 0]) ∧ ts.map Tel.l = [([], [v])] ∧ ts.length = 1 ∧ HoldsT w' A ts ∧ Below w.heap.size w w'
theorem run_ex (C : Cir) (hl : C.l = exL) (a b v : Nat) (hab : allLt 11 [a, b] = true) (hr : runL0 11 exL [a, b] = [([], [v])]) (w : World) (hC : HoldsC w C) :
    Calls Tryz.prog 15 #[.int .u64 11, .agg #[.slice C.SA C.slots.length C.sc, .slice C.GA C.gates.length C.gc, .slice C.EA C.exits.length C.ec], .slice (some ⟨w.heap.size, 0, none⟩) 2 2] (w.alloc (.cells #[.int .u64 a, .int .u64 b] 22)) (ExRun v (w.alloc (.cells #[.int .u64 a, .int .u64 b] 22))) := by
  have h := run_any 11 (by decide) C [a, b] (show 2 ≤ 17592186044416 by decide) (some ⟨w.heap.size, 0, none⟩) 2 (w.alloc (.cells #[.int .u64 a, .int .u64 b] 22)) (hC.below ((Below.refl _ _).alloc (Nat.le_refl _) _)) (two_reads w a b)
  refine h.mono ?_
  rintro e w' ⟨hor, hb⟩
  rcases hor with ⟨h0, _⟩ | ⟨_, ts, v', rfl, hts, hinv⟩
  · exact absurd (ex_fits hl _ rfl hab) h0
  · obtain ⟨A, c, rfl, hH⟩ := hinv.holds
    rw [runOf_l, hl, hr] at hts
    have hl1 : ts.length = 1 := by simpa using congrArg List.length hts
    exact ⟨ts, A, c, by rw [hl1], hts, hl1, hH, hb⟩
theorem same_one (ts : List Tel) (v : Nat) (hm : ts.map Tel.l = [([], [v])]) (hl : ts.length = 1) (A : Option Addr) (c : Nat) (W : World) (hH : HoldsT W A ts) :
    Calls Tryz.prog 19 #[.slice A 1 c, .slice (some ⟨W.heap.size + 1, 0, none⟩) 1 1] ((W.alloc (.cells #[.int .u64 v] 22)).alloc (.cells #[.slice none 0 0, .slice (some ⟨W.heap.size, 0, none⟩) 1 1] 75)) (DPost ((W.alloc (.cells #[.int .u64 v] 22)).alloc (.cells #[.slice none 0 0, .slice (some ⟨W.heap.size, 0, none⟩) 1 1] 75))) := by
  have h := told_same ts [⟨[], [v], none, some ⟨W.heap.size, 0, none⟩, 0, 1⟩] (by rw [hm]; rfl) (by omega) A (some ⟨W.heap.size + 1, 0, none⟩) c 1 _ (hH.below (((Below.refl _ _).alloc (Nat.le_refl _) _).alloc (by simp) _)) (one_told W v)
  rw [hl] at h
  exact h
theorem same_two (ts : List Tel) (a : Int) (n v : Nat) (hm : ts.map Tel.l = [([], [v])]) (hl : ts.length = 1) (A : Option Addr) (c : Nat) (w4 : World) (hH : HoldsT w4 A ts) :
    Calls Tryz.prog 19 #[.slice A 1 c, .slice (some ⟨w4.heap.size + 1 + 1 + 1, 0, none⟩) 1 1] ((((((w4.alloc (.cells #[.int .u64 a] 22)).alloc (.cells #[.slice none 0 0, .slice (some ⟨w4.heap.size, 0, none⟩) 1 1] 75)).drewN n)).alloc (.cells #[.int .u64 v] 22)).alloc (.cells #[.slice none 0 0, .slice (some ⟨w4.heap.size + 1 + 1, 0, none⟩) 1 1] 75)) (DPost ((((((w4.alloc (.cells #[.int .u64 a] 22)).alloc (.cells #[.slice none 0 0, .slice (some ⟨w4.heap.size, 0, none⟩) 1 1] 75)).drewN n)).alloc (.cells #[.int .u64 v] 22)).alloc (.cells #[.slice none 0 0, .slice (some ⟨w4.heap.size + 1 + 1, 0, none⟩) 1 1] 75))) := by
  have h := same_one ts v hm hl A c ((((w4.alloc (.cells #[.int .u64 a] 22)).alloc (.cells #[.slice none 0 0, .slice (some ⟨w4.heap.size, 0, none⟩) 1 1] 75)).drewN n)) (hH.below (below_drewN (((Below.refl _ _).alloc (Nat.le_refl _) _).alloc (by simp) _) n))
  have e : ((((w4.alloc (.cells #[.int .u64 a] 22)).alloc (.cells #[.slice none 0 0, .slice (some ⟨w4.heap.size, 0, none⟩) 1 1] 75)).drewN n)).heap.size = w4.heap.size + 1 + 1 := by
    show ((w4.alloc (.cells #[.int .u64 a] 22)).alloc (.cells #[.slice none 0 0, .slice (some ⟨w4.heap.size, 0, none⟩) 1 1] 75)).heap.size = _
    simp
  rw [e] at h
  exact h
theorem below_two (w4 : World) (a v : Int) (n m : Nat) : Below w4.heap.size w4 (((((((w4.alloc (.cells #[.int .u64 a] 22)).alloc (.cells #[.slice none 0 0, .slice (some ⟨w4.heap.size, 0, none⟩) 1 1] 75)).drewN n)).alloc (.cells #[.int .u64 v] 22)).alloc (.cells #[.slice none 0 0, .slice (some ⟨w4.heap.size + 1 + 1, 0, none⟩) 1 1] 75)).drewN m) :=
  below_drewN (((below_drewN (((Below.refl _ _).alloc (Nat.le_refl _) _).alloc (by simp) _) n).alloc (by show _ ≤ ((w4.alloc _).alloc _).heap.size; simp; omega) _).alloc (by show _ ≤ (World.alloc _ _).heap.size; simp; omega) _) m
set_option maxHeartbeats 2000000 in
set_option maxRecDepth 100000 in
theorem alive_any (w : World) (hE : Env w) : Calls Tryz.prog 12 #[] w fun e w' => e = .returned (.bool true) ∧ Below w.heap.size w w' := by
  have hrd := (read_any 11 (by decide) exText w hE).mono (R' := fun e w' => ∃ C : Cir, e = .returned (.tuple #[.agg #[.slice C.SA C.slots.length C.sc, .slice C.GA C.gates.length C.gc, .slice C.EA C.exits.length C.ec], .int .i64 0, .int .i64 0]) ∧ C.l = exL ∧ HoldsC w' C ∧ Below w.heap.size w w') (by
    rintro e w' ⟨hb, C, he, hl, hC⟩
    rw [ex_read] at he hl
    exact ⟨C, he, hl, hC, hb⟩)
  have HRD := Lib.hid hrd
  have HE := Lib.hid hE
  clear hrd hE
  go_enter Tryz.func12, Tryz.ntmps12
  go_wp2_with fail
  refine HRD.out.mono ?_
  rintro e w1 ⟨C, rfl, hl, hC, hb1⟩
  have hck : checkErr 11 C = 0 := by rw [← check_cl, hl]; exact ex_write.2
  have hbx : Below w1.heap.size w1 (w1.alloc (.cells #[.slice C.SA C.slots.length C.sc, .slice C.GA C.gates.length C.gc, .slice C.EA C.exits.length C.ec] 27)) := (Below.refl _ _).alloc (Nat.le_refl _) _
  have hwr := write_any 11 (by decide) C _ (hC.below hbx) ((HE.out.below hb1).pow.below hbx)
  have hw1 : wrErr 11 C = 0 := by
    unfold wrErr
    rw [if_neg (by rw [hck]; simp), hl, ex_write.1, if_neg (by decide)]
  have hw2 : wrText 11 C = exText := by unfold wrText; rw [if_pos hw1, hl, ex_write.1]
  unfold WrPost at hwr
  rw [hw1, hw2] at hwr
  have HWR := Lib.hid hwr
  have HC := Lib.hid hC
  have HR1 : Hid (∀ W, HoldsC W C → Calls Tryz.prog 15 #[.int .u64 11, .agg #[.slice C.SA C.slots.length C.sc, .slice C.GA C.gates.length C.gc, .slice C.EA C.exits.length C.ec], .slice (some ⟨W.heap.size, 0, none⟩) 2 2] (W.alloc (.cells #[.int .u64 5, .int .u64 1] 22)) (ExRun 5 (W.alloc (.cells #[.int .u64 5, .int .u64 1] 22)))) := Lib.hid (fun W h => run_ex C hl 5 1 5 (by decide) ex_run1 W h)
  have HR2 : Hid (∀ W, HoldsC W C → Calls Tryz.prog 15 #[.int .u64 11, .agg #[.slice C.SA C.slots.length C.sc, .slice C.GA C.gates.length C.gc, .slice C.EA C.exits.length C.ec], .slice (some ⟨W.heap.size, 0, none⟩) 2 2] (W.alloc (.cells #[.int .u64 5, .int .u64 3] 22)) (ExRun 0 (W.alloc (.cells #[.int .u64 5, .int .u64 3] 22)))) := Lib.hid (fun W h => run_ex C hl 5 3 0 (by decide) ex_run2 W h)
  have hcn : (countK 1 C.gates : Int) = 2 := by
    have h2 : C.gates = [(1, 0, 0, 0), (1, 1, 0, 0), (5, 0, 1, 0)] := congrArg (fun x : Lis => x.2.1) hl
    rw [h2]
    rfl
  have hct := fun W h => count_any C 1 W h
  rw [hcn] at hct
  have HCT := Lib.hid hct
  have HB1 := Lib.hid hb1
  have HBX := Lib.hid hbx
  clear hwr hw1 hw2 hck hC hl hcn hct hb1 hbx HRD
  go_wp2_with (first | (go_at_call 21; refine HWR.out.mono ?_; rintro e w2 ⟨rfl, hb2⟩; have c0 := hb2.cell (p := ⟨w1.heap.size, 0, none⟩) (by simp); have c1 := hb2.cell (p := ⟨w1.heap.size, 1, none⟩) (by simp); have c2 := hb2.cell (p := ⟨w1.heap.size, 2, none⟩) (by simp); simp at c0 c1 c2; have sz2 : w1.heap.size < w2.heap.size := (by have h5 := hb2.size; simp at h5; omega); have HB2 := Lib.hid (HBX.out.trans (hb2.mono HBX.out.size)); clear hb2) | (go_at_call 15; refine (HR2.out w3 (HC.out.below HB3.out)).mono ?_; rintro e w4 ⟨ts2, A2, e2, rfl, hts2, hl2, hh2, hb4⟩; have hb34 := ((Below.refl w3.heap.size w3).alloc (Nat.le_refl _) (.cells #[.int .u64 5, .int .u64 3] 22)).trans (hb4.mono (by simp)); have c0 := (hb34.cell (p := ⟨w1.heap.size, 0, none⟩) (by omega)).trans c0; have c1 := (hb34.cell (p := ⟨w1.heap.size, 1, none⟩) (by omega)).trans c1; have c2 := (hb34.cell (p := ⟨w1.heap.size, 2, none⟩) (by omega)).trans c2; have sz4 : w1.heap.size < w4.heap.size := (by have h5 := hb34.size; omega); have HT1' := Lib.hid (HT1.out.below hb34); have HB4 := Lib.hid (HB3.out.trans (hb34.mono HB3.out.size)); have HT2 := Lib.hid hh2; have HM2 := Lib.hid hts2; have HL2 := Lib.hid hl2; clear hb34 hb4 hh2 hts2 hl2) | (go_at_call 15; refine (HR1.out w2 (HC.out.below HB2.out)).mono ?_; rintro e w3 ⟨ts1, A1, e1, rfl, hts1, hl1, hh1, hb3⟩; have hb23 := ((Below.refl w2.heap.size w2).alloc (Nat.le_refl _) (.cells #[.int .u64 5, .int .u64 1] 22)).trans (hb3.mono (by simp)); have c0 := (hb23.cell (p := ⟨w1.heap.size, 0, none⟩) (by omega)).trans c0; have c1 := (hb23.cell (p := ⟨w1.heap.size, 1, none⟩) (by omega)).trans c1; have c2 := (hb23.cell (p := ⟨w1.heap.size, 2, none⟩) (by omega)).trans c2; have sz3 : w1.heap.size < w3.heap.size := (by have h5 := hb23.size; omega); have HB3 := Lib.hid (HB2.out.trans (hb23.mono HB2.out.size)); have HT1 := Lib.hid hh1; have HM1 := Lib.hid hts1; have HL1 := Lib.hid hl1; clear hb23 hb3 hh1 hts1 hl1) | (go_at_call 19; have h5 := H5.out; refine (same_two ts2 5 n5 0 HM2.out HL2.out A2 e2 w4 HT2.out).mono ?_; rintro e w6 ⟨rfl, n6, rfl⟩; have HBW := Lib.hid (below_two w4 5 0 n5 n6)) | (go_at_call 19; refine (same_one ts1 5 HM1.out HL1.out A1 e1 w4 HT1'.out).mono ?_; rintro e w5 ⟨rfl, n5, rfl⟩; have H5 := Lib.hid HL1.out; have t1 : w1.heap.size < w4.heap.size + 1 := (by omega); have t2 : w1.heap.size < w4.heap.size + 1 + 1 := (by omega); have t3 : w1.heap.size < w4.heap.size + 1 + 1 + 1 := (by omega)) | (go_at_call 31; refine (HCT.out _ (HC.out.below (HB4.out.trans (HBW.out.mono HB4.out.size)))).mono ?_; rintro e w7 ⟨rfl, hb7⟩; have HB7 := Lib.hid hb7; clear hb7))
  go_ret
  exact ⟨rfl, HB1.out.trans ((HB4.out.trans ((below_alive HBW.out HB7.out).mono HB4.out.size)).mono HB1.out.size)⟩
end Go.Proofs.YtmnbgamnbgdnnaaGreatDoor
