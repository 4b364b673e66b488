/- The contract of the reference's Run. -/
import Derived.Test.YtmnbgamnbgdnnaaGreatDoorCkB
namespace Go.Proofs.YtmnbgamnbgdnnaaGreatDoor
open Go.RowKit

section
variable {P : Program} {ops : Array Oper} {o : Oper} {a : Act} {Q : Exit → Act → World → Prop}
/-- A row is appended to a new empty one. -/
theorem list_append_clone {rest : List Oper} {W0 : World} (s x : Operand) (t e : TypeId) (z : Value) (bytes : Nat) (hgd : o.guard = none)
    (ho : o.op = .call { callee := .builtin .append, args := #[s, x], argTypes := #[t, t] })
    (ht : P.underlying t = some (.slice e)) (hinfo : (P.info? e).map (fun i => (i.zero, i.size, i.bytes)) = some (some z, 1, bytes)) (hz : z.cells.size = 1) (hb0 : 0 < bytes)
    (g : Nat) (hs : a.eval s = .slice (some ⟨g, 0, none⟩) 0 0) (hg : g = W0.heap.size) (A : Option Addr) (c : Nat) (xs : List Value) (n : Nat) (hn : xs.length = n) (hx : a.eval x = .slice A n c) (hA : Reads W0 A xs) (hc : A = none → c = 0) (h1 : ∀ u ∈ xs, u.oneCell' = true) (hl : n * bytes ≤ 140737488355328)
    (h : ∀ v1 w1, w1.ownsRow W0.heap.size e 1 v1 n xs → Below W0.heap.size W0 w1 → wpList P ops Q rest (a.put o.dst v1) w1) : wpList P ops Q (o :: rest) a (W0.alloc (.cells #[] e)) := by
  subst hg
  have hb : Below W0.heap.size W0 (W0.alloc (.cells #[] e)) := (Below.refl _ _).alloc (Nat.le_refl _) _
  cases A with
  | none =>
    obtain rfl := hc rfl
    have hxs : xs = [] := by rcases hA with h | ⟨ad, h, _⟩; exact h; cases h
    subst hxs
    obtain rfl : n = 0 := hn.symm
    obtain ⟨i0, hi, hzz⟩ := Option.map_eq_some_iff.1 hinfo
    exact wpList_append_own_none hgd s x t ho W0.heap.size e i0 1 ht hi _ 0 [] hs (own_empty W0 e) hx (h _ _ (own_empty W0 e) hb)
  | some ad =>
    have hr : ∀ j u, xs[j]? = some u → (W0.alloc (.cells #[] e)).cell? (ad.add j) = some u := reads_some hA _ hb
    refine app_slice W0.heap.size hgd s x t e z bytes ho ht hinfo hz hb0 _ 0 [] xs hs ad n c hx hn hr h1 (own_empty W0 e) (by simp) (by rw [Nat.zero_add]; exact hl) fun v1 w1 hown hg => ?_
    exact h v1 w1 (by simpa using hown) (hb.grown hg (by simp) (fun q hq => by cases hq; exact Nat.le_refl _))
end
set_option maxHeartbeats 600000 in
set_option maxRecDepth 100000 in
theorem rrun_any (p : Nat) (h0 : 0 < p) (pm : p ≤ 65537) (C : Cir) (I : List Nat) (hI : allLt p I = true) (hgz : ∀ k, (hk : k < C.gates.length) → gErr p I.length k C.gates[k] = 0) (hgt : C.gates.length ≤ 65536)
    (hgx : ∀ y ∈ C.exits, ∀ i ∈ y.gl, 0 ≤ i ∧ i < C.gates.length) (hxn : ∀ y ∈ C.exits, y.tl.length ≤ 13 ∧ y.gl.length ≤ 1024) (n3 : C.exits.length ≤ 4096) (hnil : ∀ y ∈ C.exits, y.A = none → y.c = 0)
    (IA : Option Addr) (ic : Nat) (w : World) (hC : HoldsC w C) (hA : Reads w IA (uCells I)) :
    Calls Tryz.prog 20 #[.int .u64 p, .agg #[.slice C.SA C.slots.length C.sc, .slice C.GA C.gates.length C.gc, .slice C.EA C.exits.length C.ec], .slice IA I.length ic] w fun e w' => ∃ ts v, e = .returned v ∧ ts.map Tel.l = C.exits.map (toldOf (valsL p I C.gates)) ∧ InvT w.heap.size ts v w' ∧ Below w.heap.size w w' := by
  have hb0 : Below w.heap.size w (w.alloc (.cells #[.slice C.SA C.slots.length C.sc, .slice C.GA C.gates.length C.gc, .slice C.EA C.exits.length C.ec] 27)) := (Below.refl _ _).alloc (Nat.le_refl _) _
  have hv := rvalues_any p h0 pm C I hI hgz hgt IA ic _ (hC.below hb0) (hA.below hb0)
  have HV := Lib.hid hv
  have HGL := Lib.hid hgx
  have HXN := Lib.hid hxn
  have HNIL := Lib.hid hnil
  have HC := Lib.hid (hC.below hb0)
  have hVl : (valsL p I C.gates).length = C.gates.length := by
    have := valsL_len p I C.gates C.gates.length (Nat.le_refl _)
    rw [List.take_length] at this
    exact this
  generalize valsL p I C.gates = V at *
  have HVL := Lib.hid hVl
  have N3 := Lib.hid n3
  have hv2 := HV.out.mono (R' := fun e w' => ∃ VA vc, e = .returned (.slice VA C.gates.length vc) ∧ Reads w' VA (uCells V) ∧ Below (w.alloc (.cells #[.slice C.SA C.slots.length C.sc, .slice C.GA C.gates.length C.gc, .slice C.EA C.exits.length C.ec] 27)).heap.size (w.alloc (.cells #[.slice C.SA C.slots.length C.sc, .slice C.GA C.gates.length C.gc, .slice C.EA C.exits.length C.ec] 27)) w') (by
    rintro e w1 ⟨v, rfl, hown, hb1⟩
    obtain ⟨VA, vc, rfl, hVr⟩ := own_reads hown
    exact ⟨VA, vc, rfl, hVr, hb1⟩)
  have HV2 := Lib.hid hv2
  clear hb0 hC hA hv HV hv2 hVl n3 hgx hxn hnil hI hgz
  go_enter Tryz.func20, Tryz.ntmps20
  go_wp2_with (first | (go_at_call 18; refine HV2.out.mono ?_; rintro e w1 ⟨VA, vc, rfl, hVr, hb1⟩; have c2 := hb1.cell (p := ⟨w.heap.size, 2, none⟩) (by simp); have hsz1 : w.heap.size < w1.heap.size := (by have h5 := hb1.size; simp at h5; omega); have HVR := Lib.hid hVr; clear hVr; have HB1 := Lib.hid hb1; clear hb1))
  clear c2
  go_loopg [8, 21] C.exits.length (fun g o i wr => ∃ (k : Nat) (ts : List Tel), k ≤ C.exits.length ∧ g = C.exits.length - k ∧ i = .int .i64 k ∧ ts.length = k ∧ Hid (ts.map Tel.l = (C.exits.take k).map (toldOf V)) ∧ InvT w1.heap.size ts o wr ∧ Below w1.heap.size w1 wr)
  case atStart => exact ⟨0, [], Nat.zero_le _, rfl, rfl, rfl, rfl, ⟨World.ownsRow_nil _ _ _ _, by simp⟩, Below.refl _ _⟩
  case round =>
    obtain ⟨k, ts, hk, rfl, rfl, htl, hts, hinv, hbel⟩ := hrel
    have HI := Lib.hid hinv; clear hinv
    have HB := Lib.hid hbel; clear hbel
    have hszr := HB.out.size
    obtain ⟨OA, oc, rfl, _⟩ := own_reads HI.out.1
    by_cases hlt : k < C.exits.length
    · have hCr := (HC.out.below HB1.out).below HB.out
      obtain ⟨ad, had, q0, q1⟩ := hCr.e.exi k hlt
      obtain ⟨rA, rB⟩ := hCr.x _ (List.getElem_mem hlt)
      obtain ⟨hn1, hn2⟩ := HXN.out _ (List.getElem_mem hlt)
      have hgl := HGL.out _ (List.getElem_mem hlt)
      have hnl := HNIL.out _ (List.getElem_mem hlt)
      have hsu : (C.exits.take (k + 1)).map (toldOf V) = (C.exits.take k).map (toldOf V) ++ [toldOf V C.exits[k]] := by rw [List.take_succ_eq_append_getElem hlt, List.map_append]; rfl
      rw [had]
      generalize C.exits[k] = y at q0 q1 rA rB hn1 hn2 hgl hsu hnl
      obtain ⟨tl, gl, TA, GA, tc, gc⟩ := y
      simp only at q0 q1 rA rB hn1 hn2 hgl hsu hnl
      have hbx : Below wr.heap.size wr (wr.alloc (.cells #[.slice TA tl.length tc, .slice GA gl.length gc] 72)) := (Below.refl _ _).alloc (Nat.le_refl _) _
      have hra := rA.below hbx
      have HRA := Lib.hid hra
      have HTC := Lib.hid hnl
      have HGR := Lib.hid rB
      have HBX := Lib.hid hbx
      have HGI := Lib.hid hgl
      have HSU := Lib.hid hsu
      clear hCr rA rB hgl hsu hbx hra hnl
      go_wp2_with (first | (at_builtin; (refine list_append_clone (W0 := (wr.alloc (.cells #[.slice TA tl.length tc, .slice GA gl.length gc] 72))) _ _ 61 3 _ 8 rfl rfl Tryz.underlying61 infoI rfl (by decide) _ rfl (by simp) TA tc (iCells tl) tl.length (by simp [iCells]) rfl HRA.out HTC.out (by intro u hu; simp [iCells] at hu; obtain ⟨y, _, rfl⟩ := hu; rfl) (by omega) ?_; intro v2 w2 hown2 hb2; obtain ⟨TA2, tc2, rfl, _⟩ := own_reads hown2); have hb22 := HBX.out.trans (hb2.mono HBX.out.size); have hsz2 : wr.heap.size < w2.heap.size := (by have h5 := hb2.size; simp at h5; omega); have c1 := hb2.cell (p := ⟨wr.heap.size, 1, none⟩) (by simp); simp at c1; have HO2 := Lib.hid hown2; have HB2 := Lib.hid hb22; clear hown2 hb2 hb22))
      obtain ⟨vf, hvf⟩ : ∃ vf : Int → Nat, (fun g => V.getD g.toNat 0) = vf := ⟨_, rfl⟩
      have HVF := Lib.hid hvf
      clear hvf
      go_loopg [33] gl.length (fun g i wr => ∃ (j : Nat) (v : Value), j ≤ gl.length ∧ g = gl.length - j ∧ i = .int .i64 j ∧ wr.heap[w2.heap.size]? = some (.cells #[.slice TA2 tl.length tc2, v] 75 (0, 0)) ∧ wr.ownsRow (w2.heap.size + 1) 22 1 v j (uCells ((gl.take j).map vf)) ∧ Below w2.heap.size w2 wr)
      case atStart => exact ⟨0, .slice none 0 0, Nat.zero_le _, rfl, rfl, heap_alloc_new _ _, World.ownsRow_nil _ _ _ _, (Below.refl _ _).alloc (Nat.le_refl _) _⟩
      case round =>
        obtain ⟨j, v, hj, rfl, rfl, hbox, hown, hbq⟩ := hrel
        obtain ⟨BA, bc, rfl, _⟩ := own_reads hown
        have HQ := Lib.hid hbq; clear hbq
        have HO := Lib.hid hown; clear hown
        have HX := Lib.hid hbox
        have hbs := (Array.getElem?_eq_some_iff.1 hbox).1
        have b1 : wr.cell? ⟨w2.heap.size, 1, none⟩ = some (.slice BA j bc) := by simp [World.cell?, hbox]
        clear hbox
        by_cases hjl : j < gl.length
        · have h2q := HB2.out.trans (HQ.out.mono HB2.out.size)
          obtain ⟨ga, rfl, q2⟩ := (HGR.out.below h2q).i j hjl
          have hin := HGI.out _ (List.getElem_mem hjl)
          have hsu : uCells ((gl.take (j + 1)).map vf) = uCells ((gl.take j).map vf) ++ [.int .u64 (vf gl[j])] := by rw [List.take_succ_eq_append_getElem hjl, List.map_append]; simp [uCells]
          have hvg : vf gl[j] = V.getD gl[j].toNat 0 := (congrFun HVF.out gl[j]).symm
          generalize gl[j] = gi at q2 hin hsu hvg
          obtain ⟨u, rfl⟩ : ∃ u : Nat, gi = u := ⟨gi.toNat, by omega⟩
          have huV : u < V.length := by rw [HVL.out]; omega
          obtain ⟨va, rfl, q3⟩ := (HVR.out.below (HB.out.trans (h2q.mono hszr))).u u huV
          have hve : vf u = V[u] := by rw [hvg, Int.toNat_natCast, List.getD_eq_getElem?_getD, List.getElem?_eq_getElem huV]; rfl
          rw [← hve] at q3
          have hui : (u : Int) < (C.gates.length : Int) := hin.2
          have HSUJ := Lib.hid hsu
          clear hin hsu hvg hve huV h2q
          generalize vf u = val at q3 HSUJ
          go_wp2
          go_region_law (refine step_append_own (W0 := wr) (by repeat (first | exact Below.refl _ _ | refine Below.drew ?_ | refine Below.alloc ?_ (by simp) _)) (w2.heap.size + 1) rfl _ _ 32 22 _ 8 rfl Tryz.underlying32 infoU rfl (by decide) (.slice BA j bc) j _ (.int .u64 val) rfl _ rfl (by simp) rfl HO.out (by omega) (by omega) ?_; intro v3 w3 hown3 hg3; obtain ⟨BA3, bc3, rfl, _⟩ := own_reads hown3; have hbx3 := (hg3.block w2.heap.size (by omega) (own_past HO.out (Nat.lt_succ_self _))).trans HX.out; have p1 : w3.cell? ⟨w2.heap.size, 1, none⟩ = some (.slice BA j bc) := (by simp [World.cell?, hbx3]); have p2 : w3.frozen? ⟨w2.heap.size, 1, none⟩ = false := (by simp [World.frozen?, hbx3]); have HX3 := Lib.hid hbx3; have HO3 := Lib.hid hown3; have HB3 := Lib.hid (HQ.out.grown hg3 (by omega) (fun q hq => by have h5 := (HO.out.lt q hq).1; omega)); clear hbx3 hown3 hg3)
          all_goals (try go_wp2)
          all_goals go_roundg (gl.length - (j + 1))
          all_goals first
            | omega
            | exact ⟨j + 1, .slice BA3 (j + 1) bc3, by omega, rfl, by go_num, box_set HX3.out _, by rw [HSUJ.out]; exact own_set HO3.out (Nat.lt_succ_self _) _, HB3.out.setCell (Nat.le_refl _) _⟩
        · obtain rfl : j = gl.length := by omega
          have hO := HO.out
          rw [List.take_length] at hO
          have b0 : wr.cell? ⟨w2.heap.size, 0, none⟩ = some (.slice TA2 tl.length tc2) := by simp [World.cell?, HX.out]
          have hbb := HB2.out.trans (HQ.out.mono HB2.out.size)
          have HIW := Lib.hid (HI.out.below hbb)
          have HTA := Lib.hid (own_lower (own_below HO2.out HQ.out) (show w1.heap.size ≤ _ by simp; omega))
          have HTB := Lib.hid (show wr.ownsRow w1.heap.size 22 1 (.slice BA (gl.map vf).length bc) (gl.map vf).length (uCells (gl.map vf)) from by rw [List.length_map]; exact own_lower hO (by omega))
          have HBW := Lib.hid (HB.out.trans (hbb.mono hszr))
          have hszw := HBW.out.size
          have hk13 : k ≤ 4096 := by have := N3.out; omega
          subst htl
          clear hO hbb
          go_wp2_with (first | (at_builtin; refine app_cells w1.heap.size rfl _ _ 35 75 _ 2 48 rfl Tryz.underlying35 infoTol rfl (by decide) (by decide) (.slice OA ts.length oc) ts.length _ [.slice TA2 tl.length tc2, .slice BA gl.length bc] rfl _ rfl (by simp) rfl (by intro u hu; simp at hu; rcases hu with rfl | rfl <;> rfl) HIW.out.1 (by omega) (by omega) ?_; intro v3 w3 hown3 hg3; have HI3 := Lib.hid (HIW.out.add (t := ⟨tl, gl.map vf, TA2, BA, tc2, bc⟩) HTA.out HTB.out (by simpa using hown3) hg3); have HB3 := Lib.hid (HBW.out.grown hg3 hszw (fun q hq => (HIW.out.1.lt q hq).1)); clear hown3 hg3))
          rw [← had]
          go_roundg (C.exits.length - (ts.length + 1))
          case measure => omega
          case rel => exact ⟨ts.length + 1, ts ++ [(⟨tl, gl.map vf, TA2, BA, tc2, bc⟩ : Tel)], by omega, rfl, by go_num, by simp, by rw [HSU.out, List.map_append, hts.out]; show _ ++ [(tl, gl.map vf)] = _ ++ [(tl, gl.map fun g => V.getD g.toNat 0)]; rw [HVF.out], HI3.out, HB3.out⟩
    · obtain rfl : k = C.exits.length := by omega
      have h := hts.out
      rw [List.take_length] at h
      have HT := Lib.hid h
      clear h hts
      go_wp2
      go_ret
      exact ⟨ts, _, rfl, HT.out, ⟨own_lower HI.out.1 (Nat.le_of_lt hsz1), fun t ht => ⟨own_lower (HI.out.2 t ht).1 (Nat.le_of_lt hsz1), own_lower (HI.out.2 t ht).2 (Nat.le_of_lt hsz1)⟩⟩, below_box (below_alive HB1.out HB.out)⟩
end Go.Proofs.YtmnbgamnbgdnnaaGreatDoor
