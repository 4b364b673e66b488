/- Contracts of circ.Check and the reference's Check. -/
import Derived.Test.YtmnbgamnbgdnnaaGreatDoorCirD
namespace Go.Proofs.YtmnbgamnbgdnnaaGreatDoor
open Go.RowKit

def gErr (p : Nat) (n : Int) (i : Int) (g : Gat) : Int := gateErr p n i g.1 g.2.1 g.2.2.1 g.2.2.2
def gatesErr (p : Nat) (n : Int) : Nat → List Gat → Int
  | _, [] => 0
  | i, g :: r => if gErr p n i g = 0 then gatesErr p n (i + 1) r else gErr p n i g
def xErr (m : Int) (x : Exi) : Int := exitErr m x.tl x.gl
def exitsErr (m : Int) : List Exi → Int
  | [] => 0
  | x :: r => if xErr m x = 0 then exitsErr m r else xErr m x
def tooBig (C : Cir) : Prop := 256 < C.slots.length ∨ 65536 < C.gates.length ∨ 4096 < C.exits.length
instance (C : Cir) : Decidable (tooBig C) := inferInstanceAs (Decidable (_ ∨ _ ∨ _))
/-- What is wrong with a circuit. -/
def checkErr (p : Nat) (C : Cir) : Int :=
  if isP p = false then 2 else if tooBig C then 3 else if C.slots.any badSlot = true then 2
  else if gatesErr p C.slots.length 0 C.gates = 0 then exitsErr C.gates.length C.exits else gatesErr p C.slots.length 0 C.gates
theorem gatesErr_at {p : Nat} {n : Int} {l : List Gat} {k : Nat} (hk : k < l.length) : gatesErr p n k (l.drop k) = if gErr p n k l[k] = 0 then gatesErr p n (k + 1) (l.drop (k + 1)) else gErr p n k l[k] := by
  rw [List.drop_eq_getElem_cons hk]; rfl
theorem gatesErr_end {p : Nat} {n : Int} {l : List Gat} : gatesErr p n l.length (l.drop l.length) = 0 := by rw [List.drop_length]; rfl
theorem exitsErr_at {m : Int} {l : List Exi} {k : Nat} (hk : k < l.length) : exitsErr m (l.drop k) = if xErr m l[k] = 0 then exitsErr m (l.drop (k + 1)) else xErr m l[k] := by
  rw [List.drop_eq_getElem_cons hk]; rfl
theorem exitsErr_end {m : Int} {l : List Exi} : exitsErr m (l.drop l.length) = 0 := by rw [List.drop_length]; rfl
theorem ck1 {p : Nat} {C : Cir} (h : isP p = false) : (2 : Int) = checkErr p C := by unfold checkErr; rw [if_pos h]
theorem ck2 {p : Nat} {C : Cir} (h : isP p = true) (h2 : tooBig C) : (3 : Int) = checkErr p C := by unfold checkErr; rw [if_neg (by rw [h]; simp), if_pos h2]
theorem ck3 {p : Nat} {C : Cir} (h : isP p = true) (h2 : ¬ tooBig C) (h3 : C.slots.any badSlot = true) : (2 : Int) = checkErr p C := by unfold checkErr; rw [if_neg (by rw [h]; simp), if_neg h2, if_pos h3]
theorem ck4 {p : Nat} {C : Cir} (h : isP p = true) (h2 : ¬ tooBig C) (h3 : C.slots.any badSlot = false) {x : Int} (h4 : gatesErr p C.slots.length 0 C.gates = x) (h5 : x ≠ 0) : x = checkErr p C := by
  unfold checkErr; rw [if_neg (by rw [h]; simp), if_neg h2, if_neg (by rw [h3]; simp), h4, if_neg h5]
theorem ck5 {p : Nat} {C : Cir} (h : isP p = true) (h2 : ¬ tooBig C) (h3 : C.slots.any badSlot = false) (h4 : gatesErr p C.slots.length 0 C.gates = 0) {x : Int} (h5 : exitsErr C.gates.length C.exits = x) : x = checkErr p C := by
  unfold checkErr; rw [if_neg (by rw [h]; simp), if_neg h2, if_neg (by rw [h3]; simp), h4, if_pos rfl, h5]
theorem below_alive {W0 w w1 : World} (h : Below W0.heap.size W0 w) (k : Below w.heap.size w w1) : Below W0.heap.size W0 w1 := h.trans (k.mono h.size)
set_option maxHeartbeats 4000000 in
set_option maxRecDepth 100000 in
theorem check_any (p : Nat) (hp : p < 18446744073709551616) (C : Cir) (w : World) (hC : HoldsC w C) :
    Calls Tryz.prog 10 #[.int .u64 p, .agg #[.slice C.SA C.slots.length C.sc, .slice C.GA C.gates.length C.gc, .slice C.EA C.exits.length C.ec]] w (GatePost (checkErr p C) w) := by
  have hb0 : Below w.heap.size w (w.alloc (.cells #[.slice C.SA C.slots.length C.sc, .slice C.GA C.gates.length C.gc, .slice C.EA C.exits.length C.ec] 27)) := (Below.refl _ _).alloc (Nat.le_refl _) _
  have HC := Lib.hid (hC.below hb0)
  obtain ⟨n1, n2, n3⟩ := hC.n
  have his := fun W => is_any p hp W
  clear hC
  rcases Bool.eq_false_or_eq_true (isP p) with hq | hq
  · have hp0 : 0 < p := by have := ((isP_iff p).1 hq).1; omega
    rw [hq] at his
    have HI := Lib.hid his; clear his
    have HQ := Lib.hid hq; clear hq
    by_cases hbig : tooBig C
    · have HT := Lib.hid hbig
      unfold tooBig at hbig
      by_cases b1 : 256 < C.slots.length
      · clear hbig
        go_enter Tryz.func10, Tryz.ntmps10
        go_wp2_with (go_at_call 34; refine (HI.out _).mono ?_; rintro e w' ⟨rfl, rfl⟩)
        go_ret
        exact ⟨ret_e (ck2 HQ.out HT.out), hb0⟩
      by_cases b2 : 65536 < C.gates.length
      · clear hbig
        go_enter Tryz.func10, Tryz.ntmps10
        go_wp2_with (go_at_call 34; refine (HI.out _).mono ?_; rintro e w' ⟨rfl, rfl⟩)
        go_ret
        exact ⟨ret_e (ck2 HQ.out HT.out), hb0⟩
      · have b3 : 4096 < C.exits.length := by omega
        clear hbig
        go_enter Tryz.func10, Tryz.ntmps10
        go_wp2_with (go_at_call 34; refine (HI.out _).mono ?_; rintro e w' ⟨rfl, rfl⟩)
        go_ret
        exact ⟨ret_e (ck2 HQ.out HT.out), hb0⟩
    · have HT := Lib.hid hbig
      obtain ⟨b1, b2, b3⟩ : C.slots.length ≤ 256 ∧ C.gates.length ≤ 65536 ∧ C.exits.length ≤ 4096 := by unfold tooBig at hbig; omega
      clear hbig
      have hcs := containsS_any _ _ check1_says (w.alloc (.cells #[.slice C.SA C.slots.length C.sc, .slice C.GA C.gates.length C.gc, .slice C.EA C.exits.length C.ec] 27)) C.slots C.SA C.sc n1 HC.out.s
      rcases Bool.eq_false_or_eq_true (C.slots.any badSlot) with hs | hs
      · rw [hs] at hcs
        have HCS := Lib.hid hcs; clear hcs
        have HS := Lib.hid hs; clear hs
        go_enter Tryz.func10, Tryz.ntmps10
        go_wp2_with (first | (go_at_call 34; refine (HI.out _).mono ?_; rintro e w' ⟨rfl, rfl⟩) | (go_at_call 35; refine HCS.out.mono ?_; rintro e w1 ⟨rfl, hb1⟩; have HB1 := Lib.hid hb1; clear hb1))
        go_ret
        exact ⟨ret_e (ck3 HQ.out HT.out HS.out), below_box HB1.out⟩
      · rw [hs] at hcs
        have HCS := Lib.hid hcs; clear hcs
        have HS := Lib.hid hs; clear hs
        go_enter Tryz.func10, Tryz.ntmps10
        go_wp2_with (first | (go_at_call 34; refine (HI.out _).mono ?_; rintro e w' ⟨rfl, rfl⟩) | (go_at_call 35; refine HCS.out.mono ?_; rintro e w1 ⟨rfl, hb1⟩; have c0 := hb1.cell (p := ⟨w.heap.size, 0, none⟩) (by simp); have c1 := hb1.cell (p := ⟨w.heap.size, 1, none⟩) (by simp); have c2 := hb1.cell (p := ⟨w.heap.size, 2, none⟩) (by simp); have HB1 := Lib.hid hb1; clear hb1))
        go_loopg [39] C.gates.length (fun g v wr => ∃ k : Nat, k ≤ C.gates.length ∧ g = C.gates.length - k ∧ v = .int .i64 k ∧ Hid (gatesErr p C.slots.length k (C.gates.drop k) = gatesErr p C.slots.length 0 C.gates) ∧ Below (w.alloc (.cells #[.slice C.SA C.slots.length C.sc, .slice C.GA C.gates.length C.gc, .slice C.EA C.exits.length C.ec] 27)).heap.size (w.alloc (.cells #[.slice C.SA C.slots.length C.sc, .slice C.GA C.gates.length C.gc, .slice C.EA C.exits.length C.ec] 27)) wr)
        case atStart => exact ⟨0, by omega, rfl, rfl, rfl, HB1.out⟩
        case round =>
          obtain ⟨k, hk, rfl, rfl, hd, hbel⟩ := hrel
          have HB := Lib.hid hbel; clear hbel
          have c0 := HB.out.cell (p := ⟨w.heap.size, 0, none⟩) (by simp)
          have c1 := HB.out.cell (p := ⟨w.heap.size, 1, none⟩) (by simp)
          have c2 := HB.out.cell (p := ⟨w.heap.size, 2, none⟩) (by simp)
          have hsz : w.heap.size < wr.heap.size := by have h5 := HB.out.size; simp at h5; omega
          by_cases hlt : k < C.gates.length
          · obtain ⟨ad, had, q0, q1, q2, q3⟩ := (HC.out.below HB.out).g.gat k hlt
            rw [had] at c1 ⊢
            have hst := gatesErr_at (p := p) (n := C.slots.length) hlt
            have HST := Lib.hid (hst.symm.trans hd.out); clear hst hd
            have hg := fun W => gate_any p hp0 C.slots.length k C.gates[k].1 C.gates[k].2.1 C.gates[k].2.2.1 C.gates[k].2.2.2 W
            rw [show gateErr p C.slots.length k C.gates[k].1 C.gates[k].2.1 C.gates[k].2.2.1 C.gates[k].2.2.2 = gErr p C.slots.length k C.gates[k] from rfl] at hg
            rcases Bool.eq_false_or_eq_true (gErr p C.slots.length k C.gates[k] == 0) with hz | hz
            · have hz' : gErr p C.slots.length k C.gates[k] = 0 := by simpa using hz
              rw [hz'] at hg
              have HG := Lib.hid hg; clear hg
              have HN := Lib.hid (show gatesErr p C.slots.length (k + 1) (C.gates.drop (k + 1)) = gatesErr p C.slots.length 0 C.gates by rw [← HST.out, if_pos hz']); clear hz hz'
              go_wp2_with (go_at_call 37; refine (HG.out _).mono ?_; rintro e w2 ⟨rfl, hb2⟩; have HB2 := Lib.hid hb2; clear hb2)
              rw [← had]
              go_roundg (C.gates.length - (k + 1))
              case measure => omega
              case rel => exact ⟨k + 1, by omega, rfl, by go_num, HN.out, below_alive (HB.out.alloc HB.out.size _) HB2.out⟩
            · have HN := Lib.hid (show gatesErr p C.slots.length 0 C.gates = gErr p C.slots.length k C.gates[k] by rw [← HST.out, if_neg (by simpa using hz)])
              generalize gErr p C.slots.length k C.gates[k] = er at hg hz HN
              have HG := Lib.hid hg; clear hg
              go_wp2_with (go_at_call 37; refine (HG.out _).mono ?_; rintro e w2 ⟨rfl, hb2⟩; have HB2 := Lib.hid hb2; clear hb2)
              go_ret
              exact ⟨ret_e (ck4 HQ.out HT.out HS.out HN.out (by simpa using hz)), below_box (below_alive (HB.out.alloc HB.out.size _) HB2.out)⟩
          · obtain rfl : k = C.gates.length := by omega
            have HGE := Lib.hid ((gatesErr_end).symm.trans hd.out).symm; clear hd
            go_wp2
            go_loopg [58] C.exits.length (fun g v wr => ∃ k : Nat, k ≤ C.exits.length ∧ g = C.exits.length - k ∧ v = .int .i64 k ∧ Hid (exitsErr C.gates.length (C.exits.drop k) = exitsErr C.gates.length C.exits) ∧ Below (w.alloc (.cells #[.slice C.SA C.slots.length C.sc, .slice C.GA C.gates.length C.gc, .slice C.EA C.exits.length C.ec] 27)).heap.size (w.alloc (.cells #[.slice C.SA C.slots.length C.sc, .slice C.GA C.gates.length C.gc, .slice C.EA C.exits.length C.ec] 27)) wr)
            case atStart => exact ⟨0, by omega, rfl, rfl, rfl, HB.out⟩
            case round =>
              clear c0 c1 c2
              have HBO := HB
              clear HB
              obtain ⟨k, hk, rfl, rfl, hd, hbel⟩ := hrel
              have HB := Lib.hid hbel; clear hbel
              have c0 := HB.out.cell (p := ⟨w.heap.size, 0, none⟩) (by simp)
              have c1 := HB.out.cell (p := ⟨w.heap.size, 1, none⟩) (by simp)
              have c2 := HB.out.cell (p := ⟨w.heap.size, 2, none⟩) (by simp)
              have hsz : w.heap.size < wr.heap.size := by have h5 := HB.out.size; simp at h5; omega
              by_cases hlt : k < C.exits.length
              · obtain ⟨ad, had, q0, q1⟩ := (HC.out.below HB.out).e.exi k hlt
                rw [had] at c2 ⊢
                have hst := exitsErr_at (m := C.gates.length) hlt
                have HST := Lib.hid (hst.symm.trans hd.out); clear hst hd
                have hmem : C.exits[k] ∈ C.exits := List.getElem_mem hlt
                have hg := fun W (h : Below (w.alloc (.cells #[.slice C.SA C.slots.length C.sc, .slice C.GA C.gates.length C.gc, .slice C.EA C.exits.length C.ec] 27)).heap.size (w.alloc (.cells #[.slice C.SA C.slots.length C.sc, .slice C.GA C.gates.length C.gc, .slice C.EA C.exits.length C.ec] 27)) W) => exit_any C.gates.length C.exits[k].tl C.exits[k].gl C.exits[k].A C.exits[k].B C.exits[k].c C.exits[k].d (HC.out.m _ hmem).1 (HC.out.m _ hmem).2 W ((HC.out.below h).x _ hmem).1 ((HC.out.below h).x _ hmem).2
                rw [show exitErr C.gates.length C.exits[k].tl C.exits[k].gl = xErr C.gates.length C.exits[k] from rfl] at hg
                clear hmem
                rcases Bool.eq_false_or_eq_true (xErr C.gates.length C.exits[k] == 0) with hz | hz
                · have hz' : xErr C.gates.length C.exits[k] = 0 := by simpa using hz
                  rw [hz'] at hg
                  have HG := Lib.hid hg; clear hg
                  have HN := Lib.hid (show exitsErr C.gates.length (C.exits.drop (k + 1)) = exitsErr C.gates.length C.exits by rw [← HST.out, if_pos hz']); clear hz hz'
                  go_wp2_with (go_at_call 38; refine (HG.out _ (HB.out.alloc HB.out.size _)).mono ?_; rintro e w2 ⟨rfl, hb2⟩; have HB2 := Lib.hid hb2; clear hb2)
                  rw [← had]
                  go_roundg (C.exits.length - (k + 1))
                  case measure => omega
                  case rel => exact ⟨k + 1, by omega, rfl, by go_num, HN.out, below_alive (HB.out.alloc HB.out.size _) HB2.out⟩
                · have HN := Lib.hid (show exitsErr C.gates.length C.exits = xErr C.gates.length C.exits[k] by rw [← HST.out, if_neg (by simpa using hz)])
                  generalize xErr C.gates.length C.exits[k] = er at hg hz HN
                  have HG := Lib.hid hg; clear hg
                  go_wp2_with (go_at_call 38; refine (HG.out _ (HB.out.alloc HB.out.size _)).mono ?_; rintro e w2 ⟨rfl, hb2⟩; have HB2 := Lib.hid hb2; clear hb2)
                  go_ret
                  exact ⟨ret_e (ck5 HQ.out HT.out HS.out HGE.out HN.out), below_box (below_alive (HB.out.alloc HB.out.size _) HB2.out)⟩
              · obtain rfl : k = C.exits.length := by omega
                have HXE := Lib.hid ((exitsErr_end).symm.trans hd.out).symm; clear hd
                go_wp2
                go_ret
                exact ⟨ret_e (ck5 HQ.out HT.out HS.out HGE.out HXE.out), below_box HB.out⟩

  · rw [hq] at his
    have HI := Lib.hid his; clear his
    have HQ := Lib.hid hq; clear hq
    go_enter Tryz.func10, Tryz.ntmps10
    go_wp2_with (go_at_call 34; refine (HI.out _).mono ?_; rintro e w' ⟨rfl, rfl⟩)
    go_ret
    exact ⟨ret_e (ck1 HQ.out), hb0⟩
set_option maxHeartbeats 4000000 in
set_option maxRecDepth 100000 in
theorem rcheck_any (p : Nat) (hp : p < 18446744073709551616) (C : Cir) (w : World) (hC : HoldsC w C) :
    Calls Tryz.prog 11 #[.int .u64 p, .agg #[.slice C.SA C.slots.length C.sc, .slice C.GA C.gates.length C.gc, .slice C.EA C.exits.length C.ec]] w (GatePost (checkErr p C) w) := by
  have hb0 : Below w.heap.size w (w.alloc (.cells #[.slice C.SA C.slots.length C.sc, .slice C.GA C.gates.length C.gc, .slice C.EA C.exits.length C.ec] 27)) := (Below.refl _ _).alloc (Nat.le_refl _) _
  have HC := Lib.hid (hC.below hb0)
  obtain ⟨n1, n2, n3⟩ := hC.n
  have his := fun W => rIs_any p hp W
  clear hC
  rcases Bool.eq_false_or_eq_true (isP p) with hq | hq
  · have hp0 : 0 < p := by have := ((isP_iff p).1 hq).1; omega
    rw [hq] at his
    have HI := Lib.hid his; clear his
    have HQ := Lib.hid hq; clear hq
    by_cases hbig : tooBig C
    · have HT := Lib.hid hbig
      unfold tooBig at hbig
      by_cases b1 : 256 < C.slots.length
      · clear hbig
        go_enter Tryz.func11, Tryz.ntmps11
        go_wp2_with (go_at_call 39; refine (HI.out _).mono ?_; rintro e w' ⟨rfl, rfl⟩)
        go_ret
        exact ⟨ret_e (ck2 HQ.out HT.out), hb0⟩
      by_cases b2 : 65536 < C.gates.length
      · clear hbig
        go_enter Tryz.func11, Tryz.ntmps11
        go_wp2_with (go_at_call 39; refine (HI.out _).mono ?_; rintro e w' ⟨rfl, rfl⟩)
        go_ret
        exact ⟨ret_e (ck2 HQ.out HT.out), hb0⟩
      · have b3 : 4096 < C.exits.length := by omega
        clear hbig
        go_enter Tryz.func11, Tryz.ntmps11
        go_wp2_with (go_at_call 39; refine (HI.out _).mono ?_; rintro e w' ⟨rfl, rfl⟩)
        go_ret
        exact ⟨ret_e (ck2 HQ.out HT.out), hb0⟩
    · have HT := Lib.hid hbig
      obtain ⟨b1, b2, b3⟩ : C.slots.length ≤ 256 ∧ C.gates.length ≤ 65536 ∧ C.exits.length ≤ 4096 := by unfold tooBig at hbig; omega
      clear hbig
      go_enter Tryz.func11, Tryz.ntmps11
      go_wp2_with (go_at_call 39; refine (HI.out _).mono ?_; rintro e w' ⟨rfl, rfl⟩)
      go_loopg [35] C.slots.length (fun g v wr => ∃ k : Nat, k ≤ C.slots.length ∧ g = C.slots.length - k ∧ v = .int .i64 k ∧ Hid ((C.slots.take k).any badSlot = false) ∧ Below (w.alloc (.cells #[.slice C.SA C.slots.length C.sc, .slice C.GA C.gates.length C.gc, .slice C.EA C.exits.length C.ec] 27)).heap.size (w.alloc (.cells #[.slice C.SA C.slots.length C.sc, .slice C.GA C.gates.length C.gc, .slice C.EA C.exits.length C.ec] 27)) wr)
      case atStart => exact ⟨0, by omega, rfl, rfl, rfl, Below.refl _ _⟩
      case round =>
        obtain ⟨k, hk, rfl, rfl, hd, hbel⟩ := hrel
        have HB1 := Lib.hid hbel; clear hbel
        have c0 := HB1.out.cell (p := ⟨w.heap.size, 0, none⟩) (by simp)
        have c1 := HB1.out.cell (p := ⟨w.heap.size, 1, none⟩) (by simp)
        have c2 := HB1.out.cell (p := ⟨w.heap.size, 2, none⟩) (by simp)
        have hsz : w.heap.size < wr.heap.size := by have h5 := HB1.out.size; simp at h5; omega
        by_cases hlt : k < C.slots.length
        · obtain ⟨ad, had, q0, q1⟩ := (HC.out.below HB1.out).s.slo k hlt
          rw [had] at c0 ⊢
          by_cases g1 : C.slots[k].1 < 1
          · have HN := Lib.hid (any_at (q := badSlot) hlt (by simp [badSlot, g1])); clear hd
            go_wp2
            go_ret
            exact ⟨ret_e (ck3 HQ.out HT.out HN.out), below_box (HB1.out.alloc HB1.out.size _)⟩
          have g1' : 1 ≤ C.slots[k].1 := by omega
          by_cases g2 : 13 < C.slots[k].1
          · have HN := Lib.hid (any_at (q := badSlot) hlt (by simp [badSlot, g2])); clear hd
            go_wp2
            go_ret
            exact ⟨ret_e (ck3 HQ.out HT.out HN.out), below_box (HB1.out.alloc HB1.out.size _)⟩
          · have g2' : C.slots[k].1 ≤ 13 := by omega
            have HN := Lib.hid (any_succ (q := badSlot) hlt hd.out (by simp [badSlot]; omega)); clear hd
            go_wp2
            rw [← had]
            go_roundg (C.slots.length - (k + 1))
            case measure => omega
            case rel => exact ⟨k + 1, by omega, rfl, by go_num, HN.out, HB1.out.alloc HB1.out.size _⟩
        · obtain rfl : k = C.slots.length := by omega
          have hs := hd.out
          rw [List.take_length] at hs
          have HS := Lib.hid hs; clear hs hd
          go_wp2
          clear c0 c1 c2 hsz
          go_loopg [51] C.gates.length (fun g v wr => ∃ k : Nat, k ≤ C.gates.length ∧ g = C.gates.length - k ∧ v = .int .i64 k ∧ Hid (gatesErr p C.slots.length k (C.gates.drop k) = gatesErr p C.slots.length 0 C.gates) ∧ Below (w.alloc (.cells #[.slice C.SA C.slots.length C.sc, .slice C.GA C.gates.length C.gc, .slice C.EA C.exits.length C.ec] 27)).heap.size (w.alloc (.cells #[.slice C.SA C.slots.length C.sc, .slice C.GA C.gates.length C.gc, .slice C.EA C.exits.length C.ec] 27)) wr)
          case atStart => exact ⟨0, by omega, rfl, rfl, rfl, HB1.out⟩
          case round =>
            obtain ⟨k, hk, rfl, rfl, hd, hbel⟩ := hrel
            have HB := Lib.hid hbel; clear hbel
            have c0 := HB.out.cell (p := ⟨w.heap.size, 0, none⟩) (by simp)
            have c1 := HB.out.cell (p := ⟨w.heap.size, 1, none⟩) (by simp)
            have c2 := HB.out.cell (p := ⟨w.heap.size, 2, none⟩) (by simp)
            have hsz : w.heap.size < wr.heap.size := by have h5 := HB.out.size; simp at h5; omega
            by_cases hlt : k < C.gates.length
            · obtain ⟨ad, had, q0, q1, q2, q3⟩ := (HC.out.below HB.out).g.gat k hlt
              rw [had] at c1 ⊢
              have hst := gatesErr_at (p := p) (n := C.slots.length) hlt
              have HST := Lib.hid (hst.symm.trans hd.out); clear hst hd
              have hg := fun W => rgate_any p hp0 C.slots.length k C.gates[k].1 C.gates[k].2.1 C.gates[k].2.2.1 C.gates[k].2.2.2 W
              rw [show gateErr p C.slots.length k C.gates[k].1 C.gates[k].2.1 C.gates[k].2.2.1 C.gates[k].2.2.2 = gErr p C.slots.length k C.gates[k] from rfl] at hg
              rcases Bool.eq_false_or_eq_true (gErr p C.slots.length k C.gates[k] == 0) with hz | hz
              · have hz' : gErr p C.slots.length k C.gates[k] = 0 := by simpa using hz
                rw [hz'] at hg
                have HG := Lib.hid hg; clear hg
                have HN := Lib.hid (show gatesErr p C.slots.length (k + 1) (C.gates.drop (k + 1)) = gatesErr p C.slots.length 0 C.gates by rw [← HST.out, if_pos hz']); clear hz hz'
                go_wp2_with (go_at_call 40; refine (HG.out _).mono ?_; rintro e w2 ⟨rfl, hb2⟩; have HB2 := Lib.hid hb2; clear hb2)
                rw [← had]
                go_roundg (C.gates.length - (k + 1))
                case measure => omega
                case rel => exact ⟨k + 1, by omega, rfl, by go_num, HN.out, below_alive (HB.out.alloc HB.out.size _) HB2.out⟩
              · have HN := Lib.hid (show gatesErr p C.slots.length 0 C.gates = gErr p C.slots.length k C.gates[k] by rw [← HST.out, if_neg (by simpa using hz)])
                generalize gErr p C.slots.length k C.gates[k] = er at hg hz HN
                have HG := Lib.hid hg; clear hg
                go_wp2_with (go_at_call 40; refine (HG.out _).mono ?_; rintro e w2 ⟨rfl, hb2⟩; have HB2 := Lib.hid hb2; clear hb2)
                go_ret
                exact ⟨ret_e (ck4 HQ.out HT.out HS.out HN.out (by simpa using hz)), below_box (below_alive (HB.out.alloc HB.out.size _) HB2.out)⟩
            · obtain rfl : k = C.gates.length := by omega
              have HGE := Lib.hid ((gatesErr_end).symm.trans hd.out).symm; clear hd
              go_wp2
              go_loopg [70] C.exits.length (fun g v wr => ∃ k : Nat, k ≤ C.exits.length ∧ g = C.exits.length - k ∧ v = .int .i64 k ∧ Hid (exitsErr C.gates.length (C.exits.drop k) = exitsErr C.gates.length C.exits) ∧ Below (w.alloc (.cells #[.slice C.SA C.slots.length C.sc, .slice C.GA C.gates.length C.gc, .slice C.EA C.exits.length C.ec] 27)).heap.size (w.alloc (.cells #[.slice C.SA C.slots.length C.sc, .slice C.GA C.gates.length C.gc, .slice C.EA C.exits.length C.ec] 27)) wr)
              case atStart => exact ⟨0, by omega, rfl, rfl, rfl, HB.out⟩
              case round =>
                clear c0 c1 c2
                have HBO := HB
                clear HB
                obtain ⟨k, hk, rfl, rfl, hd, hbel⟩ := hrel
                have HB := Lib.hid hbel; clear hbel
                have c0 := HB.out.cell (p := ⟨w.heap.size, 0, none⟩) (by simp)
                have c1 := HB.out.cell (p := ⟨w.heap.size, 1, none⟩) (by simp)
                have c2 := HB.out.cell (p := ⟨w.heap.size, 2, none⟩) (by simp)
                have hsz : w.heap.size < wr.heap.size := by have h5 := HB.out.size; simp at h5; omega
                by_cases hlt : k < C.exits.length
                · obtain ⟨ad, had, q0, q1⟩ := (HC.out.below HB.out).e.exi k hlt
                  rw [had] at c2 ⊢
                  have hst := exitsErr_at (m := C.gates.length) hlt
                  have HST := Lib.hid (hst.symm.trans hd.out); clear hst hd
                  have hmem : C.exits[k] ∈ C.exits := List.getElem_mem hlt
                  have hg := fun W (h : Below (w.alloc (.cells #[.slice C.SA C.slots.length C.sc, .slice C.GA C.gates.length C.gc, .slice C.EA C.exits.length C.ec] 27)).heap.size (w.alloc (.cells #[.slice C.SA C.slots.length C.sc, .slice C.GA C.gates.length C.gc, .slice C.EA C.exits.length C.ec] 27)) W) => rexit_any C.gates.length C.exits[k].tl C.exits[k].gl C.exits[k].A C.exits[k].B C.exits[k].c C.exits[k].d (HC.out.m _ hmem).1 (HC.out.m _ hmem).2 W ((HC.out.below h).x _ hmem).1 ((HC.out.below h).x _ hmem).2
                  rw [show exitErr C.gates.length C.exits[k].tl C.exits[k].gl = xErr C.gates.length C.exits[k] from rfl] at hg
                  clear hmem
                  rcases Bool.eq_false_or_eq_true (xErr C.gates.length C.exits[k] == 0) with hz | hz
                  · have hz' : xErr C.gates.length C.exits[k] = 0 := by simpa using hz
                    rw [hz'] at hg
                    have HG := Lib.hid hg; clear hg
                    have HN := Lib.hid (show exitsErr C.gates.length (C.exits.drop (k + 1)) = exitsErr C.gates.length C.exits by rw [← HST.out, if_pos hz']); clear hz hz'
                    go_wp2_with (go_at_call 41; refine (HG.out _ (HB.out.alloc HB.out.size _)).mono ?_; rintro e w2 ⟨rfl, hb2⟩; have HB2 := Lib.hid hb2; clear hb2)
                    rw [← had]
                    go_roundg (C.exits.length - (k + 1))
                    case measure => omega
                    case rel => exact ⟨k + 1, by omega, rfl, by go_num, HN.out, below_alive (HB.out.alloc HB.out.size _) HB2.out⟩
                  · have HN := Lib.hid (show exitsErr C.gates.length C.exits = xErr C.gates.length C.exits[k] by rw [← HST.out, if_neg (by simpa using hz)])
                    generalize xErr C.gates.length C.exits[k] = er at hg hz HN
                    have HG := Lib.hid hg; clear hg
                    go_wp2_with (go_at_call 41; refine (HG.out _ (HB.out.alloc HB.out.size _)).mono ?_; rintro e w2 ⟨rfl, hb2⟩; have HB2 := Lib.hid hb2; clear hb2)
                    go_ret
                    exact ⟨ret_e (ck5 HQ.out HT.out HS.out HGE.out HN.out), below_box (below_alive (HB.out.alloc HB.out.size _) HB2.out)⟩
                · obtain rfl : k = C.exits.length := by omega
                  have HXE := Lib.hid ((exitsErr_end).symm.trans hd.out).symm; clear hd
                  go_wp2
                  go_ret
                  exact ⟨ret_e (ck5 HQ.out HT.out HS.out HGE.out HXE.out), below_box HB.out⟩

  · rw [hq] at his
    have HI := Lib.hid his; clear his
    have HQ := Lib.hid hq; clear hq
    go_enter Tryz.func11, Tryz.ntmps11
    go_wp2_with (go_at_call 39; refine (HI.out _).mono ?_; rintro e w' ⟨rfl, rfl⟩)
    go_ret
    exact ⟨ret_e (ck1 HQ.out), hb0⟩
end Go.Proofs.YtmnbgamnbgdnnaaGreatDoor
