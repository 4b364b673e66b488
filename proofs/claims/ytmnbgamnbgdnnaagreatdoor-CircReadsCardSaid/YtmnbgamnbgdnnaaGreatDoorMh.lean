/- Contracts and plain laws of chapter 12, merged: CjI CjJ CjK CjL. -/
import Derived.Test.YtmnbgamnbgdnnaaGreatDoorMg
import Derived.Deep.RegionLaw
import Derived.BigQuiet
import Derived.Deep.QuietTactic
/- Contract of circ.Run. -/
namespace Go.Proofs.YtmnbgamnbgdnnaaGreatDoor
open Go.RowKit

structure Tel where
  tl : List Int
  vl : List Nat
  A : Option Addr
  B : Option Addr
  c : Nat
  d : Nat
def Tel.l (t : Tel) : List Int × List Nat := (t.tl, t.vl)
def telCells (l : List Tel) : List Value := l.flatMap fun t => [.slice t.A t.tl.length t.c, .slice t.B t.vl.length t.d]
theorem telCells_snoc (l : List Tel) (t : Tel) : telCells (l ++ [t]) = telCells l ++ [.slice t.A t.tl.length t.c, .slice t.B t.vl.length t.d] := by simp [telCells]
theorem infoTol : (Tryz.prog.info? 75).map (fun i => (i.zero, i.size, i.bytes)) = some (some (.agg #[.slice none 0 0, .slice none 0 0]), 2, 48) := by kernel_rfl
/-- What circ.Run returns of a valid circuit. -/
def toldOf (V : List Nat) (x : Exi) : List Int × List Nat := (x.tl, x.gl.map fun g => V.getD g.toNat 0)
def runOf (p : Nat) (C : Cir) (x : List Nat) : List (List Int × List Nat) := C.exits.map (toldOf (valsL p (effL C.slots x) C.gates))
/-- The outputs in memory. -/
def InvT (B : Nat) (ts : List Tel) (v : Value) (W : World) : Prop :=
  W.ownsRow B 75 2 v ts.length (telCells ts) ∧ ∀ t ∈ ts, W.ownsRow B 3 1 (.slice t.A t.tl.length t.c) t.tl.length (iCells t.tl) ∧ W.ownsRow B 22 1 (.slice t.B t.vl.length t.d) t.vl.length (uCells t.vl)
theorem InvT.below {B : Nat} {ts : List Tel} {v : Value} {W W' : World} (h : InvT B ts v W) (hb : Below W.heap.size W W') : InvT B ts v W' :=
  ⟨own_below h.1 hb, fun t ht => ⟨own_below (h.2 t ht).1 hb, own_below (h.2 t ht).2 hb⟩⟩
theorem InvT.add {B : Nat} {ts : List Tel} {v v' : Value} {W W3 : World} (h : InvT B ts v W) {t : Tel}
    (hA : W.ownsRow B 3 1 (.slice t.A t.tl.length t.c) t.tl.length (iCells t.tl)) (hB : W.ownsRow B 22 1 (.slice t.B t.vl.length t.d) t.vl.length (uCells t.vl))
    (ho : W3.ownsRow B 75 2 v' (ts.length + 1) (telCells ts ++ [.slice t.A t.tl.length t.c, .slice t.B t.vl.length t.d])) (hg : W.grownBy W3 v.ownBlock) : InvT B (ts ++ [t]) v' W3 := by
  refine ⟨by rw [telCells_snoc]; simpa using ho, fun y hy => ?_⟩
  rcases List.mem_append.1 hy with e | e
  · exact ⟨(h.2 y e).1.kept hg (own_ne (h.2 y e).1 h.1 (by decide)), (h.2 y e).2.kept hg (own_ne (h.2 y e).2 h.1 (by decide))⟩
  · rw [List.mem_singleton.1 e]
    exact ⟨hA.kept hg (own_ne hA h.1 (by decide)), hB.kept hg (own_ne hB h.1 (by decide))⟩
def RunPost (p : Nat) (C : Cir) (x : List Nat) (w : World) (e : Ending) (w' : World) : Prop :=
  ((inErr p C x ≠ 0 ∧ e = .returned (.tuple #[.slice none 0 0, .int .i64 (inErr p C x)])) ∨
   (inErr p C x = 0 ∧ ∃ ts v, e = .returned (.tuple #[v, .int .i64 0]) ∧ ts.map Tel.l = runOf p C x ∧ InvT w.heap.size ts v w')) ∧ Below w.heap.size w w'
theorem cloneI_any (l : List Int) (hl : l.length ≤ 17592186044416) (A : Option Addr) (c : Nat) (w : World) (hR : Reads w A (iCells l)) : Calls Tryz.prog 45 #[.slice A l.length c] w (OwnPost 3 l.length (iCells l) w) := by
  cases A with
  | none =>
    rcases hR with h | ⟨ad, e, _⟩
    · have := congrArg List.length h
      simp [iCells] at this
      subst this
      exact cloneI_none c w
    · cases e
  | some ad => exact cloneI_some l hl ad c w hR
section
variable {P : Program} {ops : Array Oper} {o : Oper} {a : Act} {K : Act → World → Prop} {Q : Exit → Act → World → Prop} {E : Prop}
/-- One element is appended to a row of the call's own, as a step of a region that draws its order. -/
theorem step_append_own {W0 W : World} (hW : Below W0.heap.size W0 W) (base : Nat) (hgd : o.guard = none) (s x : Operand) (t e : TypeId) (z : Value) (bytes : Nat)
    (ho : o.op = .call { callee := .builtin .append, args := #[s, x], argTypes := #[t, t] })
    (ht : P.underlying t = some (.slice e)) (hinfo : (P.info? e).map (fun i => (i.zero, i.size, i.bytes)) = some (some z, 1, bytes)) (hz : z.cells.size = 1) (hb0 : 0 < bytes)
    (v : Value) (n : Nat) (xs : List Value) (y : Value) (hs : a.eval s = v) (g : Nat) (hx : a.eval x = .slice (some ⟨g, 0, none⟩) 1 1) (hc : W.cell? ⟨g, 0, none⟩ = some y) (h1 : y.oneCell' = true)
    (HO : W0.ownsRow base e 1 v n xs) (hbase : base ≤ W0.heap.size) (hl : (n + 1) * bytes ≤ 140737488355328)
    (h : ∀ v1 w1, w1.ownsRow base e 1 v1 (n + 1) (xs ++ [y]) → W0.grownBy w1 v.ownBlock → K (a.put o.dst v1) w1) :
    if Region.wanted o (yielded ops a.tmps) = true then Oper.wp P o a W K Q else E := by
  have hw : Region.wanted o (yielded ops a.tmps) = true := by simp [Region.wanted, hgd]
  rw [if_pos hw]
  obtain ⟨i0, hi, hzz⟩ := Option.map_eq_some_iff.1 hinfo
  simp only [Prod.mk.injEq] at hzz
  obtain ⟨hz0, hz1, hz2⟩ := hzz
  have hlen : n + 1 ≤ 140737488355328 := Nat.le_trans (Nat.le_mul_of_pos_right _ hb0) hl
  have hg0 : W0.grownBy W v.ownBlock := ⟨hW.os, hW.tape, hW.output, hW.size, fun k hk _ => hW.block k hk⟩
  exact wp_append_own W s x t ho base e i0 z 1 bytes ht hi hz0 hz1 hz2 hz (by omega) v n xs hs (own_below HO hW) ⟨g, 0, none⟩ 1 1 [y] hx rfl
    (by intro j u hj; cases j with
      | zero => simp at hj; subst hj; simpa [Addr.add] using hc
      | succ j => simp at hj) (by intro u hu; simp at hu; subst hu; exact h1) (by simp only [maxLen]; omega) hl (Nat.le_trans hbase hW.size)
    fun v1 w1 hown hg _ => h v1 w1 hown (World.grownBy.trans hg0 hg)
end
theorem gl_lt {p : Nat} {C : Cir} (h : checkErr p C = 0) (x : Exi) (hx : x ∈ C.exits) : ∀ i ∈ x.gl, 0 ≤ i ∧ i < C.gates.length := by
  have hz := exitsErr_zero (check_exits h).1 x hx
  unfold xErr exitErr at hz
  split at hz
  · cases hz
  split at hz
  · cases hz
  split at hz
  · cases hz
  rename_i h3
  intro i hi
  have h4 : x.gl.any (outside C.gates.length) = false := by simpa using h3
  have := List.any_eq_false.1 h4 i hi
  simp [outside] at this
  omega
set_option maxRecDepth 100000 in
theorem run_bad (p : Nat) (hp : p < 18446744073709551616) (C : Cir) (x : List Nat) (hx : x.length ≤ 17592186044416) (A : Option Addr) (c : Nat) (w : World) (hC : HoldsC w C) (hA : Reads w A (uCells x)) (hbad : inErr p C x ≠ 0) :
    Calls Tryz.prog 15 #[.int .u64 p, .agg #[.slice C.SA C.slots.length C.sc, .slice C.GA C.gates.length C.gc, .slice C.EA C.exits.length C.ec], .slice A x.length c] w (RunPost p C x w) := by
  have hb0 : Below w.heap.size w (w.alloc (.cells #[.slice C.SA C.slots.length C.sc, .slice C.GA C.gates.length C.gc, .slice C.EA C.exits.length C.ec] 27)) := (Below.refl _ _).alloc (Nat.le_refl _) _
  have hv := values_any p hp C x hx A c _ (hC.below hb0) (hA.below hb0)
  have hz : (inErr p C x == 0) = false := by simpa using hbad
  unfold ValPost at hv
  have HV := Lib.hid hv
  have HB := Lib.hid hbad
  obtain ⟨er, her⟩ : ∃ er, inErr p C x = er := ⟨_, rfl⟩
  have HER := Lib.hid her
  rw [her] at hz
  clear hb0 hC hA hv hbad her
  go_enter Tryz.func15, Tryz.ntmps15
  go_wp2_with (first | (go_at_call 14; refine HV.out.mono ?_; rintro e w1 ⟨hor, hb1⟩; rcases hor with ⟨_, rfl⟩ | ⟨h, _⟩; rotate_left; exact absurd h HB.out; have HB1 := Lib.hid hb1; clear hb1; rw [HER.out]))
  go_ret2
  exact ⟨.inl ⟨HB.out, by rw [HER.out]; rfl⟩, below_box HB1.out⟩
end Go.Proofs.YtmnbgamnbgdnnaaGreatDoor

/- Contract of circ.Run at a circuit and inputs that fit. -/
namespace Go.Proofs.YtmnbgamnbgdnnaaGreatDoor
open Go.RowKit

set_option maxHeartbeats 600000 in
set_option maxRecDepth 100000 in
theorem run_ok (p : Nat) (hp : p < 18446744073709551616) (C : Cir) (x : List Nat) (hx : x.length ≤ 17592186044416) (A : Option Addr) (c : Nat) (w : World) (hC : HoldsC w C) (hA : Reads w A (uCells x)) (hok : inErr p C x = 0) :
    Calls Tryz.prog 15 #[.int .u64 p, .agg #[.slice C.SA C.slots.length C.sc, .slice C.GA C.gates.length C.gc, .slice C.EA C.exits.length C.ec], .slice A x.length c] w (RunPost p C x w) := by
  have hb0 : Below w.heap.size w (w.alloc (.cells #[.slice C.SA C.slots.length C.sc, .slice C.GA C.gates.length C.gc, .slice C.EA C.exits.length C.ec] 27)) := (Below.refl _ _).alloc (Nat.le_refl _) _
  have hv := values_any p hp C x hx A c _ (hC.below hb0) (hA.below hb0)
  unfold ValPost at hv
  have HV := Lib.hid hv
  have hck := (inErr_ok hok).1
  have HGL := Lib.hid (gl_lt hck)
  have HF := fine_of (by rw [check_cl]; exact hck) hC.k
  have HXN : Hid (∀ y ∈ C.exits, y.tl.length ≤ 13 ∧ y.gl.length ≤ 1024) := Lib.hid fun y hy => by
    obtain ⟨_, _, h3, h4⟩ := HF.x y.l (List.mem_map.2 ⟨y, hy, rfl⟩)
    exact ⟨h4, h3⟩
  have n3 : C.exits.length ≤ 4096 := by have := HF.n.2.2; simpa [Cir.l] using this
  have HC := Lib.hid (hC.below hb0)
  have HOK := Lib.hid hok
  obtain ⟨V, hV⟩ : ∃ V, valsL p (effL C.slots x) C.gates = V := ⟨_, rfl⟩
  have hVl : V.length = C.gates.length := by
    have := valsL_len p (effL C.slots x) C.gates C.gates.length (Nat.le_refl _)
    rw [List.take_length, hV] at this
    exact this
  have HRO : Hid (runOf p C x = C.exits.map (toldOf V)) := Lib.hid (by unfold runOf; rw [hV])
  rw [hV] at HV
  have HVL := Lib.hid hVl
  have N3 := Lib.hid n3
  have hv2 := HV.out.mono (R' := fun e w' => ∃ VA vc, e = .returned (.tuple #[.slice VA C.gates.length vc, .int .i64 0]) ∧ Reads w' VA (uCells V) ∧ Below (w.alloc (.cells #[.slice C.SA C.slots.length C.sc, .slice C.GA C.gates.length C.gc, .slice C.EA C.exits.length C.ec] 27)).heap.size (w.alloc (.cells #[.slice C.SA C.slots.length C.sc, .slice C.GA C.gates.length C.gc, .slice C.EA C.exits.length C.ec] 27)) w') (by
    rintro e w1 ⟨hor, hb1⟩
    rcases hor with ⟨h, _⟩ | ⟨_, v, rfl, hown⟩
    · exact absurd hok h
    · obtain ⟨VA, vc, rfl, hVr⟩ := own_reads hown
      exact ⟨VA, vc, rfl, hVr, hb1⟩)
  have HV2 := Lib.hid hv2
  clear hb0 hC hA hv HV hv2 hck HF hV hok hVl n3
  go_enter Tryz.func15, Tryz.ntmps15
  go_wp2_with (first | (go_at_call 14; refine HV2.out.mono ?_; rintro e w1 ⟨VA, vc, rfl, hVr, hb1⟩; have c2 := hb1.cell (p := ⟨w.heap.size, 2, none⟩) (by simp); have hsz1 : w.heap.size < w1.heap.size := (by have h5 := hb1.size; simp at h5; omega); have HVR := Lib.hid hVr; clear hVr; have HB1 := Lib.hid hb1; clear hb1))
  clear c2
  go_loopg [10, 29] C.exits.length (fun g o i wr => ∃ (k : Nat) (ts : List Tel), k ≤ C.exits.length ∧ g = C.exits.length - k ∧ i = .int .i64 k ∧ ts.length = k ∧ Hid (ts.map Tel.l = (C.exits.take k).map (toldOf V)) ∧ InvT w1.heap.size ts o wr ∧ Below w1.heap.size w1 wr)
  case atStart => exact ⟨0, [], Nat.zero_le _, rfl, rfl, rfl, rfl, ⟨World.ownsRow_nil _ _ _ _, by simp⟩, Below.refl _ _⟩
  case round =>
    obtain ⟨k, ts, hk, rfl, rfl, htl, hts, hinv, hbel⟩ := hrel
    have HI := Lib.hid hinv; clear hinv
    have HB := Lib.hid hbel; clear hbel
    have hszr := HB.out.size
    obtain ⟨OA, oc, rfl, _⟩ := own_reads HI.out.1
    by_cases hlt : k < C.exits.length
    · have hCr := (HC.out.below HB1.out).below HB.out
      obtain ⟨ad, had, q0, q1⟩ := hCr.e.exi k hlt
      obtain ⟨rA, rB⟩ := hCr.x _ (List.getElem_mem hlt)
      obtain ⟨hn1, hn2⟩ := HXN.out _ (List.getElem_mem hlt)
      have hgl := HGL.out _ (List.getElem_mem hlt)
      have hsu : (C.exits.take (k + 1)).map (toldOf V) = (C.exits.take k).map (toldOf V) ++ [toldOf V C.exits[k]] := by rw [List.take_succ_eq_append_getElem hlt, List.map_append]; rfl
      rw [had]
      generalize C.exits[k] = y at q0 q1 rA rB hn1 hn2 hgl hsu
      obtain ⟨tl, gl, TA, GA, tc, gc⟩ := y
      simp only at q0 q1 rA rB hn1 hn2 hgl hsu
      have hbx : Below wr.heap.size wr (wr.alloc (.cells #[.slice TA tl.length tc, .slice GA gl.length gc] 72)) := (Below.refl _ _).alloc (Nat.le_refl _) _
      have HCL := Lib.hid (cloneI_any tl (by omega) TA tc _ (rA.below hbx))
      have HGR := Lib.hid rB
      have HBX := Lib.hid hbx
      have HGI := Lib.hid hgl
      have HSU := Lib.hid hsu
      clear hCr rA rB hgl hsu hbx
      go_wp2_with (first | (go_at_call 45; refine HCL.out.mono ?_; rintro e w2 ⟨v2, rfl, hown2, hb2⟩; obtain ⟨TA2, tc2, rfl, _⟩ := own_reads hown2; have hb22 := HBX.out.trans (hb2.mono HBX.out.size); have hsz2 : wr.heap.size < w2.heap.size := (by have h5 := hb2.size; simp at h5; omega); have c1 := hb2.cell (p := ⟨wr.heap.size, 1, none⟩) (by simp); simp at c1; have HO2 := Lib.hid hown2; have HB2 := Lib.hid hb22; clear hown2 hb2 hb22))
      obtain ⟨vf, hvf⟩ : ∃ vf : Int → Nat, (fun g => V.getD g.toNat 0) = vf := ⟨_, rfl⟩
      have HVF := Lib.hid hvf
      clear hvf
      go_loopg [40] gl.length (fun g i wr => ∃ (j : Nat) (v : Value), j ≤ gl.length ∧ g = gl.length - j ∧ i = .int .i64 j ∧ wr.heap[w2.heap.size]? = some (.cells #[.slice TA2 tl.length tc2, v] 75 (0, 0)) ∧ wr.ownsRow (w2.heap.size + 1) 22 1 v j (uCells ((gl.take j).map vf)) ∧ Below w2.heap.size w2 wr)
      case atStart => exact ⟨0, .slice none 0 0, Nat.zero_le _, rfl, rfl, heap_alloc_new _ _, World.ownsRow_nil _ _ _ _, (Below.refl _ _).alloc (Nat.le_refl _) _⟩
      case round =>
        obtain ⟨j, v, hj, rfl, rfl, hbox, hown, hbq⟩ := hrel
        obtain ⟨BA, bc, rfl, _⟩ := own_reads hown
        have HQ := Lib.hid hbq; clear hbq
        have HO := Lib.hid hown; clear hown
        have HX := Lib.hid hbox
        have hbs := (Array.getElem?_eq_some_iff.1 hbox).1
        have b1 : wr.cell? ⟨w2.heap.size, 1, none⟩ = some (.slice BA j bc) := by simp [World.cell?, hbox]
        clear hbox
        by_cases hjl : j < gl.length
        · have h2q := HB2.out.trans (HQ.out.mono HB2.out.size)
          obtain ⟨ga, rfl, q2⟩ := (HGR.out.below h2q).i j hjl
          have hin := HGI.out _ (List.getElem_mem hjl)
          have hsu : uCells ((gl.take (j + 1)).map vf) = uCells ((gl.take j).map vf) ++ [.int .u64 (vf gl[j])] := by rw [List.take_succ_eq_append_getElem hjl, List.map_append]; simp [uCells]
          have hvg : vf gl[j] = V.getD gl[j].toNat 0 := (congrFun HVF.out gl[j]).symm
          generalize gl[j] = gi at q2 hin hsu hvg
          obtain ⟨u, rfl⟩ : ∃ u : Nat, gi = u := ⟨gi.toNat, by omega⟩
          have huV : u < V.length := by rw [HVL.out]; omega
          obtain ⟨va, rfl, q3⟩ := (HVR.out.below (HB.out.trans (h2q.mono hszr))).u u huV
          have hve : vf u = V[u] := by rw [hvg, Int.toNat_natCast, List.getD_eq_getElem?_getD, List.getElem?_eq_getElem huV]; rfl
          rw [← hve] at q3
          have hui : (u : Int) < (C.gates.length : Int) := hin.2
          have HSUJ := Lib.hid hsu
          clear hin hsu hvg hve huV h2q
          generalize vf u = val at q3 HSUJ
          go_wp2
          go_region_law (refine step_append_own (W0 := wr) (by repeat (first | exact Below.refl _ _ | refine Below.drew ?_ | refine Below.alloc ?_ (by simp) _)) (w2.heap.size + 1) rfl _ _ 32 22 _ 8 rfl Tryz.underlying32 infoU rfl (by decide) (.slice BA j bc) j _ (.int .u64 val) rfl _ rfl (by simp) rfl HO.out (by omega) (by omega) ?_; intro v3 w3 hown3 hg3; obtain ⟨BA3, bc3, rfl, _⟩ := own_reads hown3; have hbx3 := (hg3.block w2.heap.size (by omega) (own_past HO.out (Nat.lt_succ_self _))).trans HX.out; have p1 : w3.cell? ⟨w2.heap.size, 1, none⟩ = some (.slice BA j bc) := (by simp [World.cell?, hbx3]); have p2 : w3.frozen? ⟨w2.heap.size, 1, none⟩ = false := (by simp [World.frozen?, hbx3]); have HX3 := Lib.hid hbx3; have HO3 := Lib.hid hown3; have HB3 := Lib.hid (HQ.out.grown hg3 (by omega) (fun q hq => by have h5 := (HO.out.lt q hq).1; omega)); clear hbx3 hown3 hg3)
          all_goals (try go_wp2)
          all_goals go_roundg (gl.length - (j + 1))
          all_goals first
            | omega
            | exact ⟨j + 1, .slice BA3 (j + 1) bc3, by omega, rfl, by go_num, box_set HX3.out _, by rw [HSUJ.out]; exact own_set HO3.out (Nat.lt_succ_self _) _, HB3.out.setCell (Nat.le_refl _) _⟩
        · obtain rfl : j = gl.length := by omega
          have hO := HO.out
          rw [List.take_length] at hO
          have b0 : wr.cell? ⟨w2.heap.size, 0, none⟩ = some (.slice TA2 tl.length tc2) := by simp [World.cell?, HX.out]
          have hbb := HB2.out.trans (HQ.out.mono HB2.out.size)
          have HIW := Lib.hid (HI.out.below hbb)
          have HTA := Lib.hid (own_lower (own_below HO2.out HQ.out) (show w1.heap.size ≤ _ by simp; omega))
          have HTB := Lib.hid (show wr.ownsRow w1.heap.size 22 1 (.slice BA (gl.map vf).length bc) (gl.map vf).length (uCells (gl.map vf)) from by rw [List.length_map]; exact own_lower hO (by omega))
          have HBW := Lib.hid (HB.out.trans (hbb.mono hszr))
          have hszw := HBW.out.size
          have hk13 : k ≤ 4096 := by have := N3.out; omega
          subst htl
          clear hO hbb
          go_wp2_with (first | (at_builtin; refine app_cells w1.heap.size rfl _ _ 35 75 _ 2 48 rfl Tryz.underlying35 infoTol rfl (by decide) (by decide) (.slice OA ts.length oc) ts.length _ [.slice TA2 tl.length tc2, .slice BA gl.length bc] rfl _ rfl (by simp) rfl (by intro u hu; simp at hu; rcases hu with rfl | rfl <;> rfl) HIW.out.1 (by omega) (by omega) ?_; intro v3 w3 hown3 hg3; have HI3 := Lib.hid (HIW.out.add (t := ⟨tl, gl.map vf, TA2, BA, tc2, bc⟩) HTA.out HTB.out (by simpa using hown3) hg3); have HB3 := Lib.hid (HBW.out.grown hg3 hszw (fun q hq => (HIW.out.1.lt q hq).1)); clear hown3 hg3))
          rw [← had]
          go_roundg (C.exits.length - (ts.length + 1))
          case measure => omega
          case rel => exact ⟨ts.length + 1, ts ++ [(⟨tl, gl.map vf, TA2, BA, tc2, bc⟩ : Tel)], by omega, rfl, by go_num, by simp, by rw [HSU.out, List.map_append, hts.out]; show _ ++ [(tl, gl.map vf)] = _ ++ [(tl, gl.map fun g => V.getD g.toNat 0)]; rw [HVF.out], HI3.out, HB3.out⟩
    · obtain rfl : k = C.exits.length := by omega
      have h := hts.out
      rw [List.take_length] at h
      have HT := Lib.hid (h.trans HRO.out.symm)
      clear h hts
      go_wp2
      go_ret2
      exact ⟨.inr ⟨HOK.out, ts, _, rfl, HT.out, ⟨own_lower HI.out.1 (Nat.le_of_lt hsz1), fun t ht => ⟨own_lower (HI.out.2 t ht).1 (Nat.le_of_lt hsz1), own_lower (HI.out.2 t ht).2 (Nat.le_of_lt hsz1)⟩⟩⟩, below_box (below_alive HB1.out HB.out)⟩
theorem run_any (p : Nat) (hp : p < 18446744073709551616) (C : Cir) (x : List Nat) (hx : x.length ≤ 17592186044416) (A : Option Addr) (c : Nat) (w : World) (hC : HoldsC w C) (hA : Reads w A (uCells x)) :
    Calls Tryz.prog 15 #[.int .u64 p, .agg #[.slice C.SA C.slots.length C.sc, .slice C.GA C.gates.length C.gc, .slice C.EA C.exits.length C.ec], .slice A x.length c] w (RunPost p C x w) := by
  by_cases h : inErr p C x = 0
  · exact run_ok p hp C x hx A c w hC hA h
  · exact run_bad p hp C x hx A c w hC hA h
end Go.Proofs.YtmnbgamnbgdnnaaGreatDoor

/- Contract of the reference's Same over outputs that are the same. -/
namespace Go.Proofs.YtmnbgamnbgdnnaaGreatDoor
open Go.RowKit

def DPost (w : World) (e : Ending) (w' : World) : Prop := e = .returned (.bool true) ∧ ∃ n, w' = w.drewN n
set_option maxRecDepth 100000 in
theorem told_ints_none (A B : Option Addr) (c d : Nat) (w : World) : Calls Tryz.prog 49 #[.slice A 0 c, .slice B 0 d] w (DPost w) := by
  go_enter Tryz.func49, Tryz.ntmps49
  go_wp2
  go_loopg [13] 0 (fun g v wr => v = .int .i64 0 ∧ w = wr)
  case atStart => exact ⟨rfl, rfl⟩
  case round =>
    obtain ⟨rfl, rfl⟩ := hrel
    go_wp2
    go_ret
    exact ⟨rfl, 0, rfl⟩
set_option maxRecDepth 100000 in
theorem same_none (A B : Option Addr) (c d : Nat) (w : World) : Calls Tryz.prog 46 #[.slice A 0 c, .slice B 0 d] w (DPost w) := by
  go_enter Tryz.func46, Tryz.ntmps46
  go_wp2
  go_loopg [13] 0 (fun g v wr => v = .int .i64 0 ∧ w = wr)
  case atStart => exact ⟨rfl, rfl⟩
  case round =>
    obtain ⟨rfl, rfl⟩ := hrel
    go_wp2
    go_ret
    exact ⟨rfl, 0, rfl⟩
theorem told_ints_any (l : List Int) (hl : l.length ≤ 9223372036854775807) (A B : Option Addr) (c d : Nat) (w : World) (hA : Reads w A (iCells l)) (hB : Reads w B (iCells l)) : Calls Tryz.prog 49 #[.slice A l.length c, .slice B l.length d] w (DPost w) := by
  rcases Nat.eq_zero_or_pos l.length with h0 | h0
  · obtain rfl := List.eq_nil_of_length_eq_zero h0
    exact told_ints_none A B c d w
  · obtain ⟨a, rfl, _⟩ := hA.i 0 h0
    obtain ⟨b, rfl, _⟩ := hB.i 0 h0
    exact told_ints_some l hl a b c d w hA hB
theorem same_any (l : List Nat) (hl : l.length ≤ 9223372036854775807) (A B : Option Addr) (c d : Nat) (w : World) (hA : Reads w A (uCells l)) (hB : Reads w B (uCells l)) : Calls Tryz.prog 46 #[.slice A l.length c, .slice B l.length d] w (DPost w) := by
  rcases Nat.eq_zero_or_pos l.length with h0 | h0
  · obtain rfl := List.eq_nil_of_length_eq_zero h0
    exact same_none A B c d w
  · obtain ⟨a, rfl, _⟩ := hA.u 0 h0
    obtain ⟨b, rfl, _⟩ := hB.u 0 h0
    exact same_some l hl a b c d w hA hB
structure HoldsT (w : World) (A : Option Addr) (ts : List Tel) : Prop where
  r : Reads w A (telCells ts)
  x : ∀ t ∈ ts, Reads w t.A (iCells t.tl) ∧ Reads w t.B (uCells t.vl)
  n : ∀ t ∈ ts, t.tl.length ≤ 9223372036854775807 ∧ t.vl.length ≤ 9223372036854775807
theorem HoldsT.below {w w' : World} {A : Option Addr} {ts : List Tel} (h : HoldsT w A ts) (hb : Below w.heap.size w w') : HoldsT w' A ts := ⟨h.r.below hb, fun t ht => ⟨(h.x t ht).1.below hb, (h.x t ht).2.below hb⟩, h.n⟩
theorem InvT.holds {B : Nat} {ts : List Tel} {v : Value} {W : World} (h : InvT B ts v W) : ∃ A c, v = .slice A ts.length c ∧ HoldsT W A ts := by
  obtain ⟨A, c, rfl, r⟩ := own_reads h.1
  have hm : maxLen ≤ 9223372036854775807 := by unfold maxLen; omega
  exact ⟨A, c, rfl, r, fun t ht => ⟨own_reads_at (h.2 t ht).1, own_reads_at (h.2 t ht).2⟩, fun t ht => ⟨Nat.le_trans (own_len (h.2 t ht).1) hm, Nat.le_trans (own_len (h.2 t ht).2) hm⟩⟩
theorem Reads.tel {w : World} {A : Option Addr} {l : List Tel} (h : Reads w A (telCells l)) (k : Nat) (hk : k < l.length) :
    ∃ ad, A = some ad ∧ w.cell? (ad.add (k * 2)) = some (.slice l[k].A l[k].tl.length l[k].c) ∧ w.cell? ⟨(ad.add (k * 2)).block, (ad.add (k * 2)).off + 1, none⟩ = some (.slice l[k].B l[k].vl.length l[k].d) := by
  have e := flat_at (fun x : Tel => [.slice x.A x.tl.length x.c, .slice x.B x.vl.length x.d]) 2 (fun _ => rfl) l k hk
  rcases h with h | ⟨ad, h1, h2⟩
  · have := e 0 (by omega); unfold telCells at h; rw [h] at this; simp at this
  · refine ⟨ad, h1, h2 (k * 2) _ (e 0 (by omega)), ?_⟩
    rw [← add_part _ _ 1 (by omega)]
    exact h2 _ _ (e 1 (by omega))
theorem quiet_moreD {P : Program} {f : FuncId} {args : Array Value} {v : Value} {w : World} (h : ∀ m, Calls P f args (w.drewN m) fun e w' => e = .returned v ∧ ∃ k, w' = (w.drewN m).drewN k) {a n : Nat} :
    Calls P f args (w.drewN (a + n)) fun e w'' => e = .returned v ∧ ∃ m, w'' = w.drewN (a + m) := (h _).mono fun _ _ ⟨he, k, hk⟩ => ⟨he, n + k, by rw [hk, World.drewN_drewN, Nat.add_assoc]⟩
set_option maxHeartbeats 1000000 in
set_option maxRecDepth 100000 in
theorem told_same (ts us : List Tel) (hl : ts.map Tel.l = us.map Tel.l) (hn : ts.length ≤ 9223372036854775807) (A B : Option Addr) (c d : Nat) (w : World) (hA : HoldsT w A ts) (hB : HoldsT w B us) :
    Calls Tryz.prog 19 #[.slice A ts.length c, .slice B ts.length d] w (DPost w) := by
  have HA := Lib.hid hA
  have HB := Lib.hid hB
  have hlen : ts.length = us.length := by simpa using congrArg List.length hl
  have HL := Lib.hid hl
  have HLN := Lib.hid hlen
  clear hA hB hl hlen
  go_enter Tryz.func19, Tryz.ntmps19
  go_wp2
  go_loopg [13] ts.length (fun g v wr => ∃ k n : Nat, k ≤ ts.length ∧ g = ts.length - k ∧ v = .int .i64 k ∧ wr = w.drewN n)
  case atStart => exact ⟨0, 0, by omega, rfl, rfl, by simp [World.drewN_zero]⟩
  case round =>
    obtain ⟨k, n, hk, rfl, rfl, rfl⟩ := hrel
    by_cases hlt : k < ts.length
    · obtain ⟨aa, rfl, q0, q1⟩ := HA.out.r.tel k hlt
      obtain ⟨bb, rfl, r0, r1⟩ := HB.out.r.tel k (by rw [← HLN.out]; exact hlt)
      obtain ⟨x1, x2⟩ := HA.out.x _ (List.getElem_mem hlt)
      obtain ⟨m1, m2⟩ := HA.out.n _ (List.getElem_mem hlt)
      obtain ⟨y1, y2⟩ := HB.out.x _ (List.getElem_mem (show k < us.length by rw [← HLN.out]; exact hlt))
      have he : ts[k].l = (us[k]'(by rw [← HLN.out]; exact hlt)).l := by
        have := congrArg (fun l => l[k]?) HL.out
        simpa [List.getElem?_map, List.getElem?_eq_getElem hlt, List.getElem?_eq_getElem (show k < us.length by rw [← HLN.out]; exact hlt)] using this
      generalize ts[k] = t at *
      generalize (us[k]'(by rw [← HLN.out]; exact hlt)) = u at *
      obtain ⟨tl, vl, tA, tB, tc, td⟩ := t
      obtain ⟨tl', vl', uA, uB, uc, ud⟩ := u
      have e1 : tl = tl' := congrArg (fun x : List Int × List Nat => x.1) he
      have e2 : vl = vl' := congrArg (fun x : List Int × List Nat => x.2) he
      subst e1
      subst e2
      simp only at q0 q1 r0 r1 x1 x2 y1 y2 m1 m2
      have HI := Lib.hid (fun m => told_ints_any tl m1 tA uA tc uc (w.drewN m) x1 y1)
      have HS := Lib.hid (fun m => same_any vl m2 tB uB td ud (w.drewN m) x2 y2)
      clear x1 x2 y1 y2 he m1 m2
      go_wp2
      go_quiet (first | (exact quiet_moreD HI.out) | (exact quiet_moreD HS.out))
      try go_wp2
      go_roundg (ts.length - (k + 1))
      case measure => omega
      case rel => exact ⟨k + 1, _, by omega, rfl, by go_num, by first | rfl | (rw [World.drewN_drewN]) | (rw [World.drewN_add])⟩
    · obtain rfl : k = ts.length := by omega
      go_wp2
      go_ret
      exact ⟨rfl, _, rfl⟩
end Go.Proofs.YtmnbgamnbgdnnaaGreatDoor

/- The chapter's example: it is read, written and run as it should be. -/
namespace Go.Proofs.YtmnbgamnbgdnnaaGreatDoor
open Go.RowKit

def exText : Bs := [115, 108, 111, 116, 115, 32, 110, 49, 32, 98, 50, 10, 105, 110, 32, 48, 10, 105, 110, 32, 49, 10, 109, 117, 108, 32, 48, 32, 49, 10, 111, 117, 116, 32, 97, 108, 108, 32, 58, 32, 50, 10]
def exL : Lis := ([(1, false), (2, true)], [(1, 0, 0, 0), (1, 1, 0, 0), (5, 0, 1, 0)], [([], [2])])
set_option maxRecDepth 100000 in
theorem ex_read : readOf 11 exText = (exL, 0, 0) := by rfl
theorem ex_write : textOf exL = exText ∧ checkL 11 exL = 0 := by
  obtain ⟨h1, h2, _⟩ := write_read ex_read
  exact ⟨h1, h2⟩
def runL0 (p : Nat) (L : Lis) (x : List Nat) : List (List Int × List Nat) := L.2.2.map fun y => (y.1, y.2.map fun g => (valsL p (effL L.1 x) L.2.1).getD g.toNat 0)
theorem runOf_l (p : Nat) (C : Cir) (x : List Nat) : runOf p C x = runL0 p C.l x := by
  unfold runOf runL0 Cir.l
  simp only
  rw [List.map_map]
  rfl
theorem ex_run1 : runL0 11 exL [5, 1] = [([], [5])] := by decide
theorem ex_run2 : runL0 11 exL [5, 3] = [([], [0])] := by decide
theorem ex_fits {C : Cir} (h : C.l = exL) (x : List Nat) (hx : x.length = 2) (ha : allLt 11 x = true) : inErr 11 C x = 0 := by
  have h1 : checkErr 11 C = 0 := by rw [← check_cl, h]; exact ex_write.2
  have h2 : C.slots = [(1, false), (2, true)] := congrArg (fun x : Lis => x.1) h
  unfold inErr
  rw [if_pos h1, if_pos ⟨by rw [hx, h2]; rfl, ha⟩]
theorem cell_in {W : World} {b i : Nat} {cs : Array Value} {t : TypeId} {fr : Nat × Nat} (h : W.heap[b]? = some (.cells cs t fr)) : W.cell? ⟨b, i, none⟩ = cs[i]? := by simp only [World.cell?, h]; rfl
theorem add_k (b k : Nat) : (⟨b, 0, none⟩ : Addr).add k = ⟨b, k, none⟩ := by unfold Addr.add; split <;> simp_all
theorem one_told (W : World) (v : Nat) : HoldsT ((W.alloc (.cells #[.int .u64 v] 22)).alloc (.cells #[.slice none 0 0, .slice (some ⟨W.heap.size, 0, none⟩) 1 1] 75)) (some ⟨W.heap.size + 1, 0, none⟩) [⟨[], [v], none, some ⟨W.heap.size, 0, none⟩, 0, 1⟩] := by
  have h1 : (W.alloc (.cells #[.int .u64 v] 22)).heap.size = W.heap.size + 1 := by simp
  have b2 := heap_alloc_new (W.alloc (.cells #[.int .u64 v] 22)) (.cells #[.slice none 0 0, .slice (some ⟨W.heap.size, 0, none⟩) 1 1] 75)
  rw [h1] at b2
  have b1 := (Below.heap_alloc (W.alloc (.cells #[.int .u64 v] 22)) (.cells #[.slice none 0 0, .slice (some ⟨W.heap.size, 0, none⟩) 1 1] 75) W.heap.size (by rw [h1]; omega)).trans (heap_alloc_new W _)
  refine ⟨.inr ⟨_, rfl, fun j u hj => ?_⟩, fun t ht => ?_, fun t ht => ?_⟩
  · match j, hj with
    | 0, hj => rw [add_k, cell_in b2]; simpa [telCells] using hj
    | 1, hj => rw [add_k, cell_in b2]; simpa [telCells] using hj
    | j + 2, hj => simp [telCells] at hj
  · rw [List.mem_singleton.1 ht]
    refine ⟨.inl rfl, .inr ⟨_, rfl, fun j u hj => ?_⟩⟩
    match j, hj with
    | 0, hj => rw [add_k, cell_in b1]; simpa [uCells] using hj
    | j + 1, hj => simp [uCells] at hj
  · rw [List.mem_singleton.1 ht]
    simp
theorem two_reads (W : World) (a b : Nat) : Reads (W.alloc (.cells #[.int .u64 a, .int .u64 b] 22)) (some ⟨W.heap.size, 0, none⟩) (uCells [a, b]) := by
  have b1 := heap_alloc_new W (.cells #[.int .u64 a, .int .u64 b] 22)
  refine .inr ⟨_, rfl, fun j u hj => ?_⟩
  match j, hj with
  | 0, hj => rw [add_k, cell_in b1]; simpa [uCells] using hj
  | 1, hj => rw [add_k, cell_in b1]; simpa [uCells] using hj
  | j + 2, hj => simp [uCells] at hj

theorem tels_one {ts : List Tel} {L : List (List Int × List Nat)} (h : ts.map Tel.l = L) {y : List Int × List Nat} (hL : L = [y]) {u : Tel} (hu : u.l = y) : ts.map Tel.l = [u].map Tel.l ∧ ts.length = 1 := by
  subst hL
  refine ⟨by rw [h]; simp [hu], by simpa using congrArg List.length h⟩
/-- What a run of the example gives. -/
def ExRun (v : Nat) (w : World) (e : Ending) (w' : World) : Prop := ∃ ts A c, e = .returned (.tuple #[.slice A 1 c, .int .i64 0]) ∧ ts.map Tel.l = [([], [v])] ∧ ts.length = 1 ∧ HoldsT w' A ts ∧ Below w.heap.size w w'
theorem run_ex (C : Cir) (hl : C.l = exL) (a b v : Nat) (hab : allLt 11 [a, b] = true) (hr : runL0 11 exL [a, b] = [([], [v])]) (w : World) (hC : HoldsC w C) :
    Calls Tryz.prog 15 #[.int .u64 11, .agg #[.slice C.SA C.slots.length C.sc, .slice C.GA C.gates.length C.gc, .slice C.EA C.exits.length C.ec], .slice (some ⟨w.heap.size, 0, none⟩) 2 2] (w.alloc (.cells #[.int .u64 a, .int .u64 b] 22)) (ExRun v (w.alloc (.cells #[.int .u64 a, .int .u64 b] 22))) := by
  have h := run_any 11 (by decide) C [a, b] (show 2 ≤ 17592186044416 by decide) (some ⟨w.heap.size, 0, none⟩) 2 (w.alloc (.cells #[.int .u64 a, .int .u64 b] 22)) (hC.below ((Below.refl _ _).alloc (Nat.le_refl _) _)) (two_reads w a b)
  refine h.mono ?_
  rintro e w' ⟨hor, hb⟩
  rcases hor with ⟨h0, _⟩ | ⟨_, ts, v', rfl, hts, hinv⟩
  · exact absurd (ex_fits hl _ rfl hab) h0
  · obtain ⟨A, c, rfl, hH⟩ := hinv.holds
    rw [runOf_l, hl, hr] at hts
    have hl1 : ts.length = 1 := by simpa using congrArg List.length hts
    exact ⟨ts, A, c, by rw [hl1], hts, hl1, hH, hb⟩
theorem same_one (ts : List Tel) (v : Nat) (hm : ts.map Tel.l = [([], [v])]) (hl : ts.length = 1) (A : Option Addr) (c : Nat) (W : World) (hH : HoldsT W A ts) :
    Calls Tryz.prog 19 #[.slice A 1 c, .slice (some ⟨W.heap.size + 1, 0, none⟩) 1 1] ((W.alloc (.cells #[.int .u64 v] 22)).alloc (.cells #[.slice none 0 0, .slice (some ⟨W.heap.size, 0, none⟩) 1 1] 75)) (DPost ((W.alloc (.cells #[.int .u64 v] 22)).alloc (.cells #[.slice none 0 0, .slice (some ⟨W.heap.size, 0, none⟩) 1 1] 75))) := by
  have h := told_same ts [⟨[], [v], none, some ⟨W.heap.size, 0, none⟩, 0, 1⟩] (by rw [hm]; rfl) (by omega) A (some ⟨W.heap.size + 1, 0, none⟩) c 1 _ (hH.below (((Below.refl _ _).alloc (Nat.le_refl _) _).alloc (by simp) _)) (one_told W v)
  rw [hl] at h
  exact h
theorem same_two (ts : List Tel) (a : Int) (n v : Nat) (hm : ts.map Tel.l = [([], [v])]) (hl : ts.length = 1) (A : Option Addr) (c : Nat) (w4 : World) (hH : HoldsT w4 A ts) :
    Calls Tryz.prog 19 #[.slice A 1 c, .slice (some ⟨w4.heap.size + 1 + 1 + 1, 0, none⟩) 1 1] ((((((w4.alloc (.cells #[.int .u64 a] 22)).alloc (.cells #[.slice none 0 0, .slice (some ⟨w4.heap.size, 0, none⟩) 1 1] 75)).drewN n)).alloc (.cells #[.int .u64 v] 22)).alloc (.cells #[.slice none 0 0, .slice (some ⟨w4.heap.size + 1 + 1, 0, none⟩) 1 1] 75)) (DPost ((((((w4.alloc (.cells #[.int .u64 a] 22)).alloc (.cells #[.slice none 0 0, .slice (some ⟨w4.heap.size, 0, none⟩) 1 1] 75)).drewN n)).alloc (.cells #[.int .u64 v] 22)).alloc (.cells #[.slice none 0 0, .slice (some ⟨w4.heap.size + 1 + 1, 0, none⟩) 1 1] 75))) := by
  have h := same_one ts v hm hl A c ((((w4.alloc (.cells #[.int .u64 a] 22)).alloc (.cells #[.slice none 0 0, .slice (some ⟨w4.heap.size, 0, none⟩) 1 1] 75)).drewN n)) (hH.below (below_drewN (((Below.refl _ _).alloc (Nat.le_refl _) _).alloc (by simp) _) n))
  have e : ((((w4.alloc (.cells #[.int .u64 a] 22)).alloc (.cells #[.slice none 0 0, .slice (some ⟨w4.heap.size, 0, none⟩) 1 1] 75)).drewN n)).heap.size = w4.heap.size + 1 + 1 := by
    show ((w4.alloc (.cells #[.int .u64 a] 22)).alloc (.cells #[.slice none 0 0, .slice (some ⟨w4.heap.size, 0, none⟩) 1 1] 75)).heap.size = _
    simp
  rw [e] at h
  exact h
theorem below_two (w4 : World) (a v : Int) (n m : Nat) : Below w4.heap.size w4 (((((((w4.alloc (.cells #[.int .u64 a] 22)).alloc (.cells #[.slice none 0 0, .slice (some ⟨w4.heap.size, 0, none⟩) 1 1] 75)).drewN n)).alloc (.cells #[.int .u64 v] 22)).alloc (.cells #[.slice none 0 0, .slice (some ⟨w4.heap.size + 1 + 1, 0, none⟩) 1 1] 75)).drewN m) :=
  below_drewN (((below_drewN (((Below.refl _ _).alloc (Nat.le_refl _) _).alloc (by simp) _) n).alloc (by show _ ≤ ((w4.alloc _).alloc _).heap.size; simp; omega) _).alloc (by show _ ≤ (World.alloc _ _).heap.size; simp; omega) _) m
set_option maxHeartbeats 2000000 in
set_option maxRecDepth 100000 in
theorem alive_any (w : World) (hE : Env w) : Calls Tryz.prog 12 #[] w fun e w' => e = .returned (.bool true) ∧ Below w.heap.size w w' := by
  have hrd := (read_any 11 (by decide) exText w hE).mono (R' := fun e w' => ∃ C : Cir, e = .returned (.tuple #[.agg #[.slice C.SA C.slots.length C.sc, .slice C.GA C.gates.length C.gc, .slice C.EA C.exits.length C.ec], .int .i64 0, .int .i64 0]) ∧ C.l = exL ∧ HoldsC w' C ∧ Below w.heap.size w w') (by
    rintro e w' ⟨hb, C, he, hl, hC⟩
    rw [ex_read] at he hl
    exact ⟨C, he, hl, hC, hb⟩)
  have HRD := Lib.hid hrd
  have HE := Lib.hid hE
  clear hrd hE
  go_enter Tryz.func12, Tryz.ntmps12
  go_wp2_with fail
  refine HRD.out.mono ?_
  rintro e w1 ⟨C, rfl, hl, hC, hb1⟩
  have hck : checkErr 11 C = 0 := by rw [← check_cl, hl]; exact ex_write.2
  have hbx : Below w1.heap.size w1 (w1.alloc (.cells #[.slice C.SA C.slots.length C.sc, .slice C.GA C.gates.length C.gc, .slice C.EA C.exits.length C.ec] 27)) := (Below.refl _ _).alloc (Nat.le_refl _) _
  have hwr := write_any 11 (by decide) C _ (hC.below hbx) ((HE.out.below hb1).pow.below hbx)
  have hw1 : wrErr 11 C = 0 := by
    unfold wrErr
    rw [if_neg (by rw [hck]; simp), hl, ex_write.1, if_neg (by decide)]
  have hw2 : wrText 11 C = exText := by unfold wrText; rw [if_pos hw1, hl, ex_write.1]
  unfold WrPost at hwr
  rw [hw1, hw2] at hwr
  have HWR := Lib.hid hwr
  have HC := Lib.hid hC
  have HR1 : Hid (∀ W, HoldsC W C → Calls Tryz.prog 15 #[.int .u64 11, .agg #[.slice C.SA C.slots.length C.sc, .slice C.GA C.gates.length C.gc, .slice C.EA C.exits.length C.ec], .slice (some ⟨W.heap.size, 0, none⟩) 2 2] (W.alloc (.cells #[.int .u64 5, .int .u64 1] 22)) (ExRun 5 (W.alloc (.cells #[.int .u64 5, .int .u64 1] 22)))) := Lib.hid (fun W h => run_ex C hl 5 1 5 (by decide) ex_run1 W h)
  have HR2 : Hid (∀ W, HoldsC W C → Calls Tryz.prog 15 #[.int .u64 11, .agg #[.slice C.SA C.slots.length C.sc, .slice C.GA C.gates.length C.gc, .slice C.EA C.exits.length C.ec], .slice (some ⟨W.heap.size, 0, none⟩) 2 2] (W.alloc (.cells #[.int .u64 5, .int .u64 3] 22)) (ExRun 0 (W.alloc (.cells #[.int .u64 5, .int .u64 3] 22)))) := Lib.hid (fun W h => run_ex C hl 5 3 0 (by decide) ex_run2 W h)
  have hcn : (countK 1 C.gates : Int) = 2 := by
    have h2 : C.gates = [(1, 0, 0, 0), (1, 1, 0, 0), (5, 0, 1, 0)] := congrArg (fun x : Lis => x.2.1) hl
    rw [h2]
    rfl
  have hct := fun W h => count_any C 1 W h
  rw [hcn] at hct
  have HCT := Lib.hid hct
  have HB1 := Lib.hid hb1
  have HBX := Lib.hid hbx
  clear hwr hw1 hw2 hck hC hl hcn hct hb1 hbx HRD
  go_wp2_with (first | (go_at_call 21; refine HWR.out.mono ?_; rintro e w2 ⟨rfl, hb2⟩; have c0 := hb2.cell (p := ⟨w1.heap.size, 0, none⟩) (by simp); have c1 := hb2.cell (p := ⟨w1.heap.size, 1, none⟩) (by simp); have c2 := hb2.cell (p := ⟨w1.heap.size, 2, none⟩) (by simp); simp at c0 c1 c2; have sz2 : w1.heap.size < w2.heap.size := (by have h5 := hb2.size; simp at h5; omega); have HB2 := Lib.hid (HBX.out.trans (hb2.mono HBX.out.size)); clear hb2) | (go_at_call 15; refine (HR2.out w3 (HC.out.below HB3.out)).mono ?_; rintro e w4 ⟨ts2, A2, e2, rfl, hts2, hl2, hh2, hb4⟩; have hb34 := ((Below.refl w3.heap.size w3).alloc (Nat.le_refl _) (.cells #[.int .u64 5, .int .u64 3] 22)).trans (hb4.mono (by simp)); have c0 := (hb34.cell (p := ⟨w1.heap.size, 0, none⟩) (by omega)).trans c0; have c1 := (hb34.cell (p := ⟨w1.heap.size, 1, none⟩) (by omega)).trans c1; have c2 := (hb34.cell (p := ⟨w1.heap.size, 2, none⟩) (by omega)).trans c2; have sz4 : w1.heap.size < w4.heap.size := (by have h5 := hb34.size; omega); have HT1' := Lib.hid (HT1.out.below hb34); have HB4 := Lib.hid (HB3.out.trans (hb34.mono HB3.out.size)); have HT2 := Lib.hid hh2; have HM2 := Lib.hid hts2; have HL2 := Lib.hid hl2; clear hb34 hb4 hh2 hts2 hl2) | (go_at_call 15; refine (HR1.out w2 (HC.out.below HB2.out)).mono ?_; rintro e w3 ⟨ts1, A1, e1, rfl, hts1, hl1, hh1, hb3⟩; have hb23 := ((Below.refl w2.heap.size w2).alloc (Nat.le_refl _) (.cells #[.int .u64 5, .int .u64 1] 22)).trans (hb3.mono (by simp)); have c0 := (hb23.cell (p := ⟨w1.heap.size, 0, none⟩) (by omega)).trans c0; have c1 := (hb23.cell (p := ⟨w1.heap.size, 1, none⟩) (by omega)).trans c1; have c2 := (hb23.cell (p := ⟨w1.heap.size, 2, none⟩) (by omega)).trans c2; have sz3 : w1.heap.size < w3.heap.size := (by have h5 := hb23.size; omega); have HB3 := Lib.hid (HB2.out.trans (hb23.mono HB2.out.size)); have HT1 := Lib.hid hh1; have HM1 := Lib.hid hts1; have HL1 := Lib.hid hl1; clear hb23 hb3 hh1 hts1 hl1) | (go_at_call 19; have h5 := H5.out; refine (same_two ts2 5 n5 0 HM2.out HL2.out A2 e2 w4 HT2.out).mono ?_; rintro e w6 ⟨rfl, n6, rfl⟩; have HBW := Lib.hid (below_two w4 5 0 n5 n6)) | (go_at_call 19; refine (same_one ts1 5 HM1.out HL1.out A1 e1 w4 HT1'.out).mono ?_; rintro e w5 ⟨rfl, n5, rfl⟩; have H5 := Lib.hid HL1.out; have t1 : w1.heap.size < w4.heap.size + 1 := (by omega); have t2 : w1.heap.size < w4.heap.size + 1 + 1 := (by omega); have t3 : w1.heap.size < w4.heap.size + 1 + 1 + 1 := (by omega)) | (go_at_call 31; refine (HCT.out _ (HC.out.below (HB4.out.trans (HBW.out.mono HB4.out.size)))).mono ?_; rintro e w7 ⟨rfl, hb7⟩; have HB7 := Lib.hid hb7; clear hb7))
  go_ret
  exact ⟨rfl, HB1.out.trans ((HB4.out.trans ((below_alive HBW.out HB7.out).mono HB4.out.size)).mono HB1.out.size)⟩
end Go.Proofs.YtmnbgamnbgdnnaaGreatDoor
