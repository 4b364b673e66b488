/- The walk of the law CircLines: where nothing ends it early. -/
import Derived.Test.YtmnbgamnbgdnnaaGreatDoorLnB
namespace Go.Proofs.YtmnbgamnbgdnnaaGreatDoor
open Go.RowKit

def VRet (V : List Nat) (n : Nat) (w : World) (e : Ending) (w' : World) : Prop := (∃ B d, e = .returned (.tuple #[.slice B n d, .int .i64 0]) ∧ Reads w' B (uCells V)) ∧ Below w.heap.size w w'
theorem made_reads (w : World) (n : Nat) : Reads (w.alloc (.cells (madeCells #[.int .u64 0] n) 22)) (some ⟨w.heap.size, 0, none⟩) (uCells (List.replicate n 0)) := by
  have e : madeCells #[.int .u64 0] n = (uCells (List.replicate n 0)).toArray := by
    unfold madeCells uCells
    apply Array.ext'
    simp [List.ext_getElem_iff]
    intro i _
    simp [Nat.mod_one]
  rw [e]
  refine .inr ⟨_, rfl, fun j u hj => ?_⟩
  rw [add_k, cell_in (heap_alloc_new w _)]
  simpa using hj
theorem below_made (w : World) (n : Nat) : Below w.heap.size w ((w.alloc (.cells (madeCells #[.int .u64 0] n) 22)).drew) := ((Below.refl _ _).alloc (Nat.le_refl _) _).drew
section
variable (p : Nat) (hp : p < 18446744073709551616) (C : Cir) (x y : List Nat) (hlx : x.length ≤ 9223372036854775807) (hly : y.length ≤ 9223372036854775807) (A B : Option Addr) (c d : Nat) (w : World) (hC : HoldsC w C) (hA : Reads w A (uCells x)) (hB : Reads w B (uCells y)) (hE : Env w)
include hp hlx hly hC hA hB hE
set_option maxHeartbeats 8000000 in
set_option maxRecDepth 100000 in
theorem lines_go (h0 : checkErr p C = 0) (h1 : countK 5 C.gates = 0) (h2 : x.length = C.slots.length) (h3 : y.length = C.slots.length) (h4 : ltErr p x = 0) (h5 : ltErr p y = 0) :
    Calls Tryz.prog 7 #[.int .u64 p, .agg #[.slice C.SA C.slots.length C.sc, .slice C.GA C.gates.length C.gc, .slice C.EA C.exits.length C.ec], .agg #[.slice A x.length c, .slice B y.length d]] w (TrueB w) := by
  have hk1 := fun W (h : Hid (Below w.heap.size w W)) => rcheck_any p hp C W (hC.below h.out)
  have hk2 := fun W (h : Hid (Below w.heap.size w W)) => rcount_any C 5 W (hC.below h.out)
  have hk3 := fun W (h : Hid (Below w.heap.size w W)) => withinL_any p x (by omega) A c W (hA.below h.out)
  have hk4 := fun W (h : Hid (Below w.heap.size w W)) => withinL_any p y (by omega) B d W (hB.below h.out)
  have hk5 := fun W (h : Hid (Below w.heap.size w W)) => alive_any W (hE.below h.out)
  unfold GatePost at hk1 hk2
  unfold IPost at hk3 hk4
  have h0' := h0
  have h1' := h1
  rw [h0] at hk1
  rw [h1] at hk2
  rw [show ((0 : Nat) : Int) = 0 from rfl] at hk2
  clear h0 h1
  have ax : allLt p x = true := by unfold ltErr at h4; by_cases h : allLt p x = true; exact h; rw [if_neg h] at h4; cases h4
  have ay : allLt p y = true := by unfold ltErr at h5; by_cases h : allLt p y = true; exact h; rw [if_neg h] at h5; cases h5
  rw [h4] at hk3
  rw [h5] at hk4
  rw [h2] at hk3
  rw [h3] at hk4
  clear h4 h5
  obtain ⟨k1, k2, k3⟩ := check_ok h0'
  obtain ⟨p3, pm, _⟩ := (isP_iff p).1 k1
  have hsl : C.slots.length ≤ 256 := by unfold tooBig at k2; omega
  have LAW := Lib.hid (fun hb => lines_law h0' h1' h2 h3 ax ay hb)
  have HX := Lib.hid hA
  have HY := Lib.hid hB
  have HC := Lib.hid hC
  have AX := Lib.hid (lt_of_allLt ax)
  have AY := Lib.hid (lt_of_allLt ay)
  have LX := Lib.hid h2
  have LY := Lib.hid h3
  have hv := fun (z : List Nat) (hz : inErr p C z = 0) (hzl : z.length = C.slots.length) (W : World) (Z : Option Addr) (zc : Nat) (h : Hid (Below w.heap.size w W)) (hr : Reads W Z (uCells z)) => show Calls Tryz.prog 14 #[.int .u64 p, .agg #[.slice C.SA C.slots.length C.sc, .slice C.GA C.gates.length C.gc, .slice C.EA C.exits.length C.ec], .slice Z C.slots.length zc] W (VRet (valsL p (effL C.slots z) C.gates) C.gates.length W) from by
    have hc := values_any p hp C z (by omega) Z zc W (hC.below h.out) hr
    rw [hzl] at hc
    refine hc.mono ?_
    rintro e w' ⟨h1 | ⟨_, v, rfl, ho⟩, hb⟩
    · exact absurd hz h1.1
    · obtain ⟨B, d, rfl, hr⟩ := own_reads ho
      exact ⟨⟨B, d, rfl, hr⟩, hb⟩
  have HV := Lib.hid hv
  have hgl : C.gates.length ≤ 65536 := by unfold tooBig at k2; omega
  obtain ⟨i0, hi0, hzz⟩ := Option.map_eq_some_iff.1 infoU
  simp only [Prod.mk.injEq] at hzz
  obtain ⟨hz0, hz1, hz2⟩ := hzz
  have hmk : ∀ W, (Instr.makeSlice 32 (.int .i64 (C.slots.length : Int)) (.int .i64 (C.slots.length : Int))).run Tryz.prog W = .ok (.slice (some ⟨W.heap.size, 0, none⟩) C.slots.length C.slots.length) (W.alloc (.cells (madeCells #[.int .u64 0] (C.slots.length * 1)) 22)) := fun W => by
    have h := run_make (P := Tryz.prog) W 32 22 i0 _ Tryz.underlying32 hi0 hz0 .i64 .i64 (C.slots.length : Int) (C.slots.length : Int) (by omega) (by omega) (by rw [hz2]; omega) (by omega)
    rw [hz1] at h
    simpa [Value.cells] using h
  have HMK := Lib.hid hmk
  clear hz0 hz1 hz2 hi0 hmk hv
  clear k1 k2 k3 ax ay h0' h1'
  rw [h2, h3]
  clear h2 h3
  have HK1 := Lib.hid hk1; clear hk1
  have HK2 := Lib.hid hk2; clear hk2
  have HK3 := Lib.hid hk3; clear hk3
  have HK4 := Lib.hid hk4; clear hk4
  have HK5 := Lib.hid hk5; clear hk5
  have HQ0 := Lib.hid (lbox_start w C (.slice A C.slots.length c) (.slice B C.slots.length d))
  clear hC hA hB hE hp hlx hly
  go_enter Tryz.func7, Tryz.ntmps7
  go_wp2_with (first
    | (go_at_call 11; refine (HK1.out _ HQ0.out.1.2.2.2).mono ?_; rintro e w1 ⟨rfl, hb⟩; have hK := HQ0.out.step hb; have BA := hK.1.2.2.2; have c0 := hK.1.1; have c1 := hK.1.2.1; have c2 := hK.1.2.2.1; have c3 := hK.2.1; have c4 := hK.2.2; have HQ1 := Lib.hid hK; clear hK hb)
    | (go_at_call 26; refine (HK2.out _ HQ1.out.1.2.2.2).mono ?_; rintro e w2 ⟨rfl, hb⟩; have hK := HQ1.out.step hb; have BB := hK.1.2.2.2; have c0 := hK.1.1; have c1 := hK.1.2.1; have c2 := hK.1.2.2.1; have c3 := hK.2.1; have c4 := hK.2.2; have z1 : w.heap.size + 1 < w2.heap.size := (World.block_lt_of_cell? _ _ c3); have z0 : w.heap.size < w2.heap.size := Nat.lt_of_succ_lt z1; have HQ2 := Lib.hid hK; clear hK hb)
    | (go_at_call 27; (with_reducible refine (HK3.out _ BB).mono ?_); rintro e w3 ⟨rfl, rfl⟩)
    | (go_at_call 27; (with_reducible refine (HK4.out _ BB).mono ?_); rintro e w4 ⟨rfl, rfl⟩))
  go_loopg [7, 65] C.slots.length (fun g a v wr => ∃ (k : Nat) (vv : Value), k ≤ C.slots.length ∧ g = C.slots.length - k ∧ a = vv ∧ v = .int .i64 k ∧ wr.ownsRow w2.heap.size 22 1 vv k (uCells (sumL p (x.take k) (y.take k))) ∧ Hid ((C.slots.take k).any (fun z => z.2) = false) ∧ Below w2.heap.size w2 wr)
  case atStart => exact ⟨0, _, by omega, rfl, rfl, rfl, own_empty w2 _, rfl, (Below.refl _ _).alloc (Nat.le_refl _) _⟩
  case round =>
    obtain ⟨k, vv, hk, rfl, rfl, rfl, hown, hd, hbel⟩ := hrel
    have HO := Lib.hid hown; clear hown
    have hK := HQ2.out.step hbel
    have e0 := hK.1.1; have e1 := hK.1.2.1; have e2 := hK.1.2.2.1; have e3 := hK.2.1; have e4 := hK.2.2
    have HQr := Lib.hid hK
    have hszr : w2.heap.size ≤ wr.heap.size := hbel.size
    have hy3 : w.heap.size < wr.heap.size := by omega
    have hz3 : w.heap.size + 1 < wr.heap.size := by omega
    have HB := Lib.hid hbel; clear hbel hK
    clear c0 c1 c2 c3 c4
    by_cases hlt : k < C.slots.length
    · obtain ⟨ad, had, q0, q1⟩ := (HC.out.below HQr.out.1.2.2.2.out).s.slo k hlt
      have hkx : k < x.length := by have := LX.out; omega
      have hky : k < y.length := by have := LY.out; omega
      have hb3 : Below wr.heap.size wr (wr.alloc (.cells #[.int .i64 C.slots[k].1, .bool C.slots[k].2] 54)) := (Below.refl _ _).alloc (Nat.le_refl _) _
      obtain ⟨aa, rfl, r0⟩ := ((HX.out.below HQr.out.1.2.2.2.out).below hb3).u k hkx
      obtain ⟨ab, rfl, r1⟩ := ((HY.out.below HQr.out.1.2.2.2.out).below hb3).u k hky
      rw [had] at e0 ⊢
      have HQs := Lib.hid (HQr.out.step hb3)
      clear hb3
      rcases Bool.eq_false_or_eq_true C.slots[k].2 with hb | hb
      · rw [hb] at q1 HQs
        go_wp2_with (first
          | (go_at_call 12; refine (HK5.out _ HQs.out.1.2.2.2).mono ?_; rintro e w5 ⟨rfl, hb⟩; have HQ5 := Lib.hid (HQs.out.step hb); clear hb))
        go_ret
        exact ⟨rfl, HQ5.out.1.2.2.2.out⟩
      · have HBF := Lib.hid hb
        rw [hb] at q1 HQs r0 r1
        clear hb
        have va := AX.out _ (List.getElem_mem hkx)
        have vb := AY.out _ (List.getElem_mem hky)
        have HR := Lib.hid (fun W => radd_any p x[k] y[k] (by omega) pm va vb W)
        have HSU := Lib.hid (sumL_snoc p x y k hkx hky)
        have HN := Lib.hid (any_succ (q := fun z : Slo => z.2) hlt hd.out HBF.out)
        clear hd va vb
        obtain ⟨VA, vc, rfl, _⟩ := own_reads HO.out
        generalize x[k] = xk at *
        generalize y[k] = yk at *
        generalize C.slots[k].1 = sk at *
        go_wp2
        generalize (xk + yk) % p = val at *
        go_region_law (first
          | (refine step_append_own (W0 := wr) (by repeat (first | exact Below.refl _ _ | refine Below.drew ?_ | refine Below.alloc ?_ (by simp) _)) w2.heap.size rfl _ _ 32 22 _ 8 rfl Tryz.underlying32 infoU rfl (by decide) (.slice VA k vc) k _ (.int .u64 val) rfl _ rfl (by simp) rfl HO.out (by omega) (by omega) ?_; intro v3 w3 hown3 hg3; have HO3 := Lib.hid hown3; have HB3 := Lib.hid (HB.out.grown hg3 hszr (fun q hq => (HO.out.lt q hq).1)); clear hown3 hg3)
          | (go_simp; go_at_call 28; refine (HR.out _).mono ?_; rintro e w4 ⟨rfl, rfl⟩))
        all_goals (try go_wp2)
        all_goals rw [← had]
        all_goals go_roundg (C.slots.length - (k + 1))
        all_goals first
          | omega
          | exact ⟨k + 1, _, by omega, rfl, rfl, by go_num, by rw [HSU.out]; simpa [uCells] using HO3.out, HN.out, HB3.out⟩
    · obtain rfl : k = C.slots.length := by omega
      have hd' := hd.out
      rw [List.take_length] at hd'
      have hlaw := LAW.out hd'
      have HSL : Hid ((sumL p x y).length = C.slots.length) := Lib.hid (by have h1 := LX.out; have h2 := LY.out; simp [sumL]; omega)
      have hown := HO.out
      rw [List.take_of_length_le (by have := LX.out; omega), List.take_of_length_le (by have := LY.out; omega)] at hown
      obtain ⟨VA, vc, rfl, hrb⟩ := own_reads hown
      have HBOTH := Lib.hid hrb
      have HV0 := Lib.hid (HV.out _ hlaw.en (by simp))
      have HV1 := Lib.hid (HV.out _ hlaw.ea LX.out)
      have HV2 := Lib.hid (HV.out _ hlaw.eb LY.out)
      have HV3 := Lib.hid (HV.out _ hlaw.el HSL.out)
      have hn := hlaw.n
      have hs := hlaw.s
      have ha := hlaw.a
      have hmk := HMK.out
      have hno : Hid (Reads ((wr.alloc (.cells (madeCells #[.int .u64 0] C.slots.length) 22)).drew) (some ⟨wr.heap.size, 0, none⟩) (uCells (List.replicate C.slots.length 0))) := Lib.hid ((made_reads wr C.slots.length).below (Below.refl _ _).drew)
      have HQm := Lib.hid (HQr.out.step (below_made wr C.slots.length))
      have HYB := Lib.hid (HBOTH.out.below (below_made wr C.slots.length))
      clear hd hd' hown hrb LAW hlaw HV
      generalize valsL p (effL C.slots (List.replicate C.slots.length 0)) C.gates = VN at *
      generalize valsL p (effL C.slots (sumL p x y)) C.gates = VL at *
      generalize valsL p (effL C.slots x) C.gates = VX at *
      generalize valsL p (effL C.slots y) C.gates = VY at *
      have HN := Lib.hid hn
      have HS := Lib.hid hs
      have HA := Lib.hid ha
      clear hn hs ha
      go_wp2
      have BB := HQm.out.1.2.2.2
      go_region_law (first
        | (go_simp; go_at_call 14; refine (HV0.out _ _ C.slots.length BB hno.out).mono ?_; rintro e w5 ⟨⟨NA, nc, rfl, hr⟩, hb⟩; have hK := HQm.out.step hb; have BA := hK.1.2.2.2; have c0 := hK.1.1; have c1 := hK.1.2.1; have c2 := hK.1.2.2.1; have c3 := hK.2.1; have c4 := hK.2.2; have HQ5 := Lib.hid hK; have RN := Lib.hid hr; have HYB5 := Lib.hid (HYB.out.below hb); clear hK hb hr))
      all_goals (try go_wp2_with fail)
      all_goals
        have HX5 := Lib.hid (HX.out.below BA.out)
        have HY5 := Lib.hid (HY.out.below BA.out)
        go_wp2_with (first
          | (go_at_call 14; (with_reducible refine (HV1.out _ _ _ BA HX5.out).mono ?_); rintro e w6 ⟨⟨XA, xc, rfl, hr⟩, hb⟩; have hK := HQ5.out.step hb; have BC := hK.1.2.2.2; have c0 := hK.1.1; have c1 := hK.1.2.1; have c2 := hK.1.2.2.1; have c3 := hK.2.1; have c4 := hK.2.2; have HQ6 := Lib.hid hK; have RX := Lib.hid hr; have RN6 := Lib.hid (RN.out.below hb); have HY6 := Lib.hid (HY5.out.below hb); have HYB6 := Lib.hid (HYB5.out.below hb); clear hK hb hr)
          | (go_at_call 14; (with_reducible refine (HV2.out _ _ _ BC HY6.out).mono ?_); rintro e w7 ⟨⟨YA, yc, rfl, hr⟩, hb⟩; have hK := HQ6.out.step hb; have BD := hK.1.2.2.2; have c0 := hK.1.1; have c1 := hK.1.2.1; have c2 := hK.1.2.2.1; have c3 := hK.2.1; have c4 := hK.2.2; have HQ7 := Lib.hid hK; have RY := Lib.hid hr; have RX7 := Lib.hid (RX.out.below hb); have RN7 := Lib.hid (RN6.out.below hb); have HYB7 := Lib.hid (HYB6.out.below hb); clear hK hb hr)
          | (go_at_call 14; (with_reducible refine (HV3.out _ _ _ BD HYB7.out).mono ?_); rintro e w8 ⟨⟨LA, lc, rfl, hr⟩, hb⟩; have hK := HQ7.out.step hb; have BF := hK.1.2.2.2; have c0 := hK.1.1; have c1 := hK.1.2.1; have c2 := hK.1.2.2.1; have c3 := hK.2.1; have c4 := hK.2.2; have HQ8 := Lib.hid hK; have RL := Lib.hid hr; have RY8 := Lib.hid (RY.out.below hb); have RX8 := Lib.hid (RX7.out.below hb); have RN8 := Lib.hid (RN7.out.below hb); clear hK hb hr))
        go_loopg [166] C.gates.length (fun g v wr => ∃ k m : Nat, k ≤ C.gates.length ∧ g = C.gates.length - k ∧ v = .int .i64 k ∧ wr = w8.drewN m)
        case atStart => exact ⟨0, 0, by omega, rfl, rfl, by simp [World.drewN_zero]⟩
        case round =>
          obtain ⟨k, m, hk, rfl, rfl, rfl⟩ := hrel
          by_cases hlt : k < C.gates.length
          · obtain ⟨n1, n2, n3, n4⟩ := HN.out
            obtain ⟨l1, rfl, g1⟩ := RL.out.u k (by omega)
            obtain ⟨l2, rfl, g2⟩ := RN8.out.u k (by omega)
            obtain ⟨l3, rfl, g3⟩ := RX8.out.u k (by omega)
            obtain ⟨l4, rfl, g4⟩ := RY8.out.u k (by omega)
            have hs := HS.out
            have s1 := hs.1 k
            have s2 := hs.2.1 k
            have s3 := hs.2.2.1 k
            have s4 := hs.2.2.2 k
            have ha := HA.out.2 k
            rw [getD_at (by omega)] at s1 s2 s3 s4
            rw [getD_at (by omega), getD_at (by omega), getD_at (by omega), getD_at (by omega)] at ha
            generalize VL[k] = a1 at *
            generalize VN[k] = a2 at *
            generalize VX[k] = a3 at *
            generalize VY[k] = a4 at *
            clear hs n1 n2 n3 n4
            have hr1 := fun W => radd_any p a1 a2 (by omega) pm s1 s2 W
            have hr2 := fun W => radd_any p a3 a4 (by omega) pm s3 s4 W
            rw [← ha] at hr2
            generalize (a1 + a2) % p = val at *
            have HI1 := Lib.hid (fun m => (hr1 (w8.drewN m)).mono (R' := fun e w' => e = .returned (.int .u64 (val : Nat)) ∧ ∃ k, w' = (w8.drewN m).drewN k) fun _ _ h => ⟨h.1, 0, by rw [World.drewN_zero]; exact h.2.symm⟩)
            have HI2 := Lib.hid (fun m => (hr2 (w8.drewN m)).mono (R' := fun e w' => e = .returned (.int .u64 (val : Nat)) ∧ ∃ k, w' = (w8.drewN m).drewN k) fun _ _ h => ⟨h.1, 0, by rw [World.drewN_zero]; exact h.2.symm⟩)
            clear hr1 hr2 ha s1 s2 s3 s4
            go_wp2
            go_quiet (first | (with_reducible exact quiet_moreD HI1.out) | (with_reducible exact quiet_moreD HI2.out))
            try go_wp2
            go_roundg (C.gates.length - (k + 1))
            case measure => omega
            case rel => exact ⟨k + 1, _, by omega, rfl, by go_num, by first | rfl | (rw [World.drewN_drewN]) | (rw [World.drewN_add])⟩
          · obtain rfl : k = C.gates.length := by omega
            have HQ9 := Lib.hid (HQ8.out.step (below_drewN (Below.refl w8.heap.size w8) m))
            go_wp2_with (first
              | (go_at_call 12; refine (HK5.out _ HQ9.out.1.2.2.2).mono ?_; rintro e w9 ⟨rfl, hb⟩; have HQ10 := Lib.hid (HQ9.out.step hb); clear hb))
            go_ret
            exact ⟨rfl, HQ10.out.1.2.2.2.out⟩
end
end Go.Proofs.YtmnbgamnbgdnnaaGreatDoor
