/- Contract of circ.Run at a circuit and inputs that fit. -/
import Derived.Test.YtmnbgamnbgdnnaaGreatDoorCjI
namespace Go.Proofs.YtmnbgamnbgdnnaaGreatDoor
open Go.RowKit

set_option maxHeartbeats 600000 in
set_option maxRecDepth 100000 in
theorem run_ok (p : Nat) (hp : p < 18446744073709551616) (C : Cir) (x : List Nat) (hx : x.length ≤ 17592186044416) (A : Option Addr) (c : Nat) (w : World) (hC : HoldsC w C) (hA : Reads w A (uCells x)) (hok : inErr p C x = 0) :
    Calls Tryz.prog 15 #[.int .u64 p, .agg #[.slice C.SA C.slots.length C.sc, .slice C.GA C.gates.length C.gc, .slice C.EA C.exits.length C.ec], .slice A x.length c] w (RunPost p C x w) := by
  have hb0 : Below w.heap.size w (w.alloc (.cells #[.slice C.SA C.slots.length C.sc, .slice C.GA C.gates.length C.gc, .slice C.EA C.exits.length C.ec] 27)) := (Below.refl _ _).alloc (Nat.le_refl _) _
  have hv := values_any p hp C x hx A c _ (hC.below hb0) (hA.below hb0)
  unfold ValPost at hv
  have HV := Lib.hid hv
  have hck := (inErr_ok hok).1
  have HGL := Lib.hid (gl_lt hck)
  have HF := fine_of (by rw [check_cl]; exact hck) hC.k
  have HXN : Hid (∀ y ∈ C.exits, y.tl.length ≤ 13 ∧ y.gl.length ≤ 1024) := Lib.hid fun y hy => by
    obtain ⟨_, _, h3, h4⟩ := HF.x y.l (List.mem_map.2 ⟨y, hy, rfl⟩)
    exact ⟨h4, h3⟩
  have n3 : C.exits.length ≤ 4096 := by have := HF.n.2.2; simpa [Cir.l] using this
  have HC := Lib.hid (hC.below hb0)
  have HOK := Lib.hid hok
  obtain ⟨V, hV⟩ : ∃ V, valsL p (effL C.slots x) C.gates = V := ⟨_, rfl⟩
  have hVl : V.length = C.gates.length := by
    have := valsL_len p (effL C.slots x) C.gates C.gates.length (Nat.le_refl _)
    rw [List.take_length, hV] at this
    exact this
  have HRO : Hid (runOf p C x = C.exits.map (toldOf V)) := Lib.hid (by unfold runOf; rw [hV])
  rw [hV] at HV
  have HVL := Lib.hid hVl
  have N3 := Lib.hid n3
  have hv2 := HV.out.mono (R' := fun e w' => ∃ VA vc, e = .returned (.tuple #[.slice VA C.gates.length vc, .int .i64 0]) ∧ Reads w' VA (uCells V) ∧ Below (w.alloc (.cells #[.slice C.SA C.slots.length C.sc, .slice C.GA C.gates.length C.gc, .slice C.EA C.exits.length C.ec] 27)).heap.size (w.alloc (.cells #[.slice C.SA C.slots.length C.sc, .slice C.GA C.gates.length C.gc, .slice C.EA C.exits.length C.ec] 27)) w') (by
    rintro e w1 ⟨hor, hb1⟩
    rcases hor with ⟨h, _⟩ | ⟨_, v, rfl, hown⟩
    · exact absurd hok h
    · obtain ⟨VA, vc, rfl, hVr⟩ := own_reads hown
      exact ⟨VA, vc, rfl, hVr, hb1⟩)
  have HV2 := Lib.hid hv2
  clear hb0 hC hA hv HV hv2 hck HF hV hok hVl n3
  go_enter Tryz.func15, Tryz.ntmps15
  go_wp2_with (first | (go_at_call 14; refine HV2.out.mono ?_; rintro e w1 ⟨VA, vc, rfl, hVr, hb1⟩; have c2 := hb1.cell (p := ⟨w.heap.size, 2, none⟩) (by simp); have hsz1 : w.heap.size < w1.heap.size := (by have h5 := hb1.size; simp at h5; omega); have HVR := Lib.hid hVr; clear hVr; have HB1 := Lib.hid hb1; clear hb1))
  clear c2
  go_loopg [10, 29] C.exits.length (fun g o i wr => ∃ (k : Nat) (ts : List Tel), k ≤ C.exits.length ∧ g = C.exits.length - k ∧ i = .int .i64 k ∧ ts.length = k ∧ Hid (ts.map Tel.l = (C.exits.take k).map (toldOf V)) ∧ InvT w1.heap.size ts o wr ∧ Below w1.heap.size w1 wr)
  case atStart => exact ⟨0, [], Nat.zero_le _, rfl, rfl, rfl, rfl, ⟨World.ownsRow_nil _ _ _ _, by simp⟩, Below.refl _ _⟩
  case round =>
    obtain ⟨k, ts, hk, rfl, rfl, htl, hts, hinv, hbel⟩ := hrel
    have HI := Lib.hid hinv; clear hinv
    have HB := Lib.hid hbel; clear hbel
    have hszr := HB.out.size
    obtain ⟨OA, oc, rfl, _⟩ := own_reads HI.out.1
    by_cases hlt : k < C.exits.length
    · have hCr := (HC.out.below HB1.out).below HB.out
      obtain ⟨ad, had, q0, q1⟩ := hCr.e.exi k hlt
      obtain ⟨rA, rB⟩ := hCr.x _ (List.getElem_mem hlt)
      obtain ⟨hn1, hn2⟩ := HXN.out _ (List.getElem_mem hlt)
      have hgl := HGL.out _ (List.getElem_mem hlt)
      have hsu : (C.exits.take (k + 1)).map (toldOf V) = (C.exits.take k).map (toldOf V) ++ [toldOf V C.exits[k]] := by rw [List.take_succ_eq_append_getElem hlt, List.map_append]; rfl
      rw [had]
      generalize C.exits[k] = y at q0 q1 rA rB hn1 hn2 hgl hsu
      obtain ⟨tl, gl, TA, GA, tc, gc⟩ := y
      simp only at q0 q1 rA rB hn1 hn2 hgl hsu
      have hbx : Below wr.heap.size wr (wr.alloc (.cells #[.slice TA tl.length tc, .slice GA gl.length gc] 72)) := (Below.refl _ _).alloc (Nat.le_refl _) _
      have HCL := Lib.hid (cloneI_any tl (by omega) TA tc _ (rA.below hbx))
      have HGR := Lib.hid rB
      have HBX := Lib.hid hbx
      have HGI := Lib.hid hgl
      have HSU := Lib.hid hsu
      clear hCr rA rB hgl hsu hbx
      go_wp2_with (first | (go_at_call 45; refine HCL.out.mono ?_; rintro e w2 ⟨v2, rfl, hown2, hb2⟩; obtain ⟨TA2, tc2, rfl, _⟩ := own_reads hown2; have hb22 := HBX.out.trans (hb2.mono HBX.out.size); have hsz2 : wr.heap.size < w2.heap.size := (by have h5 := hb2.size; simp at h5; omega); have c1 := hb2.cell (p := ⟨wr.heap.size, 1, none⟩) (by simp); simp at c1; have HO2 := Lib.hid hown2; have HB2 := Lib.hid hb22; clear hown2 hb2 hb22))
      obtain ⟨vf, hvf⟩ : ∃ vf : Int → Nat, (fun g => V.getD g.toNat 0) = vf := ⟨_, rfl⟩
      have HVF := Lib.hid hvf
      clear hvf
      go_loopg [40] gl.length (fun g i wr => ∃ (j : Nat) (v : Value), j ≤ gl.length ∧ g = gl.length - j ∧ i = .int .i64 j ∧ wr.heap[w2.heap.size]? = some (.cells #[.slice TA2 tl.length tc2, v] 75 (0, 0)) ∧ wr.ownsRow (w2.heap.size + 1) 22 1 v j (uCells ((gl.take j).map vf)) ∧ Below w2.heap.size w2 wr)
      case atStart => exact ⟨0, .slice none 0 0, Nat.zero_le _, rfl, rfl, heap_alloc_new _ _, World.ownsRow_nil _ _ _ _, (Below.refl _ _).alloc (Nat.le_refl _) _⟩
      case round =>
        obtain ⟨j, v, hj, rfl, rfl, hbox, hown, hbq⟩ := hrel
        obtain ⟨BA, bc, rfl, _⟩ := own_reads hown
        have HQ := Lib.hid hbq; clear hbq
        have HO := Lib.hid hown; clear hown
        have HX := Lib.hid hbox
        have hbs := (Array.getElem?_eq_some_iff.1 hbox).1
        have b1 : wr.cell? ⟨w2.heap.size, 1, none⟩ = some (.slice BA j bc) := by simp [World.cell?, hbox]
        clear hbox
        by_cases hjl : j < gl.length
        · have h2q := HB2.out.trans (HQ.out.mono HB2.out.size)
          obtain ⟨ga, rfl, q2⟩ := (HGR.out.below h2q).i j hjl
          have hin := HGI.out _ (List.getElem_mem hjl)
          have hsu : uCells ((gl.take (j + 1)).map vf) = uCells ((gl.take j).map vf) ++ [.int .u64 (vf gl[j])] := by rw [List.take_succ_eq_append_getElem hjl, List.map_append]; simp [uCells]
          have hvg : vf gl[j] = V.getD gl[j].toNat 0 := (congrFun HVF.out gl[j]).symm
          generalize gl[j] = gi at q2 hin hsu hvg
          obtain ⟨u, rfl⟩ : ∃ u : Nat, gi = u := ⟨gi.toNat, by omega⟩
          have huV : u < V.length := by rw [HVL.out]; omega
          obtain ⟨va, rfl, q3⟩ := (HVR.out.below (HB.out.trans (h2q.mono hszr))).u u huV
          have hve : vf u = V[u] := by rw [hvg, Int.toNat_natCast, List.getD_eq_getElem?_getD, List.getElem?_eq_getElem huV]; rfl
          rw [← hve] at q3
          have hui : (u : Int) < (C.gates.length : Int) := hin.2
          have HSUJ := Lib.hid hsu
          clear hin hsu hvg hve huV h2q
          generalize vf u = val at q3 HSUJ
          go_wp2
          go_region_law (refine step_append_own (W0 := wr) (by repeat (first | exact Below.refl _ _ | refine Below.drew ?_ | refine Below.alloc ?_ (by simp) _)) (w2.heap.size + 1) rfl _ _ 32 22 _ 8 rfl Tryz.underlying32 infoU rfl (by decide) (.slice BA j bc) j _ (.int .u64 val) rfl _ rfl (by simp) rfl HO.out (by omega) (by omega) ?_; intro v3 w3 hown3 hg3; obtain ⟨BA3, bc3, rfl, _⟩ := own_reads hown3; have hbx3 := (hg3.block w2.heap.size (by omega) (own_past HO.out (Nat.lt_succ_self _))).trans HX.out; have p1 : w3.cell? ⟨w2.heap.size, 1, none⟩ = some (.slice BA j bc) := (by simp [World.cell?, hbx3]); have p2 : w3.frozen? ⟨w2.heap.size, 1, none⟩ = false := (by simp [World.frozen?, hbx3]); have HX3 := Lib.hid hbx3; have HO3 := Lib.hid hown3; have HB3 := Lib.hid (HQ.out.grown hg3 (by omega) (fun q hq => by have h5 := (HO.out.lt q hq).1; omega)); clear hbx3 hown3 hg3)
          all_goals (try go_wp2)
          all_goals go_roundg (gl.length - (j + 1))
          all_goals first
            | omega
            | exact ⟨j + 1, .slice BA3 (j + 1) bc3, by omega, rfl, by go_num, box_set HX3.out _, by rw [HSUJ.out]; exact own_set HO3.out (Nat.lt_succ_self _) _, HB3.out.setCell (Nat.le_refl _) _⟩
        · obtain rfl : j = gl.length := by omega
          have hO := HO.out
          rw [List.take_length] at hO
          have b0 : wr.cell? ⟨w2.heap.size, 0, none⟩ = some (.slice TA2 tl.length tc2) := by simp [World.cell?, HX.out]
          have hbb := HB2.out.trans (HQ.out.mono HB2.out.size)
          have HIW := Lib.hid (HI.out.below hbb)
          have HTA := Lib.hid (own_lower (own_below HO2.out HQ.out) (show w1.heap.size ≤ _ by simp; omega))
          have HTB := Lib.hid (show wr.ownsRow w1.heap.size 22 1 (.slice BA (gl.map vf).length bc) (gl.map vf).length (uCells (gl.map vf)) from by rw [List.length_map]; exact own_lower hO (by omega))
          have HBW := Lib.hid (HB.out.trans (hbb.mono hszr))
          have hszw := HBW.out.size
          have hk13 : k ≤ 4096 := by have := N3.out; omega
          subst htl
          clear hO hbb
          go_wp2_with (first | (at_builtin; refine app_cells w1.heap.size rfl _ _ 35 75 _ 2 48 rfl Tryz.underlying35 infoTol rfl (by decide) (by decide) (.slice OA ts.length oc) ts.length _ [.slice TA2 tl.length tc2, .slice BA gl.length bc] rfl _ rfl (by simp) rfl (by intro u hu; simp at hu; rcases hu with rfl | rfl <;> rfl) HIW.out.1 (by omega) (by omega) ?_; intro v3 w3 hown3 hg3; have HI3 := Lib.hid (HIW.out.add (t := ⟨tl, gl.map vf, TA2, BA, tc2, bc⟩) HTA.out HTB.out (by simpa using hown3) hg3); have HB3 := Lib.hid (HBW.out.grown hg3 hszw (fun q hq => (HIW.out.1.lt q hq).1)); clear hown3 hg3))
          rw [← had]
          go_roundg (C.exits.length - (ts.length + 1))
          case measure => omega
          case rel => exact ⟨ts.length + 1, ts ++ [(⟨tl, gl.map vf, TA2, BA, tc2, bc⟩ : Tel)], by omega, rfl, by go_num, by simp, by rw [HSU.out, List.map_append, hts.out]; show _ ++ [(tl, gl.map vf)] = _ ++ [(tl, gl.map fun g => V.getD g.toNat 0)]; rw [HVF.out], HI3.out, HB3.out⟩
    · obtain rfl : k = C.exits.length := by omega
      have h := hts.out
      rw [List.take_length] at h
      have HT := Lib.hid (h.trans HRO.out.symm)
      clear h hts
      go_wp2
      go_ret2
      exact ⟨.inr ⟨HOK.out, ts, _, rfl, HT.out, ⟨own_lower HI.out.1 (Nat.le_of_lt hsz1), fun t ht => ⟨own_lower (HI.out.2 t ht).1 (Nat.le_of_lt hsz1), own_lower (HI.out.2 t ht).2 (Nat.le_of_lt hsz1)⟩⟩⟩, below_box (below_alive HB1.out HB.out)⟩
theorem run_any (p : Nat) (hp : p < 18446744073709551616) (C : Cir) (x : List Nat) (hx : x.length ≤ 17592186044416) (A : Option Addr) (c : Nat) (w : World) (hC : HoldsC w C) (hA : Reads w A (uCells x)) :
    Calls Tryz.prog 15 #[.int .u64 p, .agg #[.slice C.SA C.slots.length C.sc, .slice C.GA C.gates.length C.gc, .slice C.EA C.exits.length C.ec], .slice A x.length c] w (RunPost p C x w) := by
  by_cases h : inErr p C x = 0
  · exact run_ok p hp C x hx A c w hC hA h
  · exact run_bad p hp C x hx A c w hC hA h
end Go.Proofs.YtmnbgamnbgdnnaaGreatDoor
