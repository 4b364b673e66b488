/- Contracts and plain laws of chapter 13, merged: Pj Pk. -/
import Derived.Test.YtkcdlbclodjjhaaGreatGak
import Derived.Test.YtkcdlbclodjjhaaGreatGal
import Derived.Test.YtkcdlbclodjjhaaGreatGaf
import Derived.Test.YtkcdlbclodjjhaaGreatGag
/- Contracts of do over a board, with or without room. (Printed by wip/tools/gen_pj.py.) -/
namespace Go.Proofs.YtkcdlbclodjjhaaGreat
open Go.RowKit

theorem gatCells_len (G : List Gat) : (gatCells G).length = G.length * 4 := by
  unfold gatCells
  induction G with
  | nil => rfl
  | cons g r ih => rw [List.flatMap_cons, List.length_append, ih, List.length_cons]; simp; omega
theorem gatCells_app (G L : List Gat) : gatCells (G ++ L) = gatCells G ++ gatCells L := by unfold gatCells; rw [List.flatMap_append]
/-- A board whose gates' row is cut back. -/
theorem IsB.shrink {B p g cap : Nat} {sl : List Slo} {G G1 : List Gat} {xs : List Exi} {v1 v3 : Value} {W : World} (h : IsB B p sl G1 xs v1 (.slice (some ⟨g, 0, none⟩) G1.length cap) v3 W) (hp : G <+: G1) :
    IsB B p sl G xs v1 (.slice (some ⟨g, 0, none⟩) G.length cap) v3 (W.setCell ⟨B, 2, none⟩ (.slice (some ⟨g, 0, none⟩) G.length cap)) := by
  obtain ⟨L, rfl⟩ := hp
  refine ⟨own_set h.h1 (Nat.lt_succ_self _) _, own_set ?_ (Nat.lt_succ_self _) _, own_set h.h3 (Nat.lt_succ_self _) _, fun x hx => ⟨(h.hx x hx).1.map fun o => own_set o (Nat.lt_succ_self _) _, (h.hx x hx).2.map fun o => own_set o (Nat.lt_succ_self _) _⟩, box_set h.hb _, fun y hy => h.hk y (List.mem_append_left _ hy), by have := h.hz; rw [List.length_append] at this; omega⟩
  rcases h.h2.2 with ⟨e1, _⟩ | ⟨g', cap', cur, e1, hb, hgg, hle, hmx, hsz, htk⟩
  · cases e1
  · injection e1 with e1 e2 e3
    injection e1 with e1
    injection e1 with e1
    subst e1 e3
    rw [List.length_append] at hle htk
    refine ⟨gatCells_len G, .inr ⟨g, cap, cur, rfl, hb, hgg, by omega, hmx, hsz, ?_⟩⟩
    have : (cur.toList.take ((G.length + L.length) * 4)).take (G.length * 4) = gatCells G := by
      rw [htk, gatCells_app, List.take_append_of_le_length (by rw [gatCells_len]; exact Nat.le_refl _), List.take_of_length_le (by rw [gatCells_len]; exact Nat.le_refl _)]
    rw [List.take_take, Nat.min_eq_left (by omega)] at this
    exact this
theorem Fr.setB {B : Nat} {v v' v'' : Value} {w W : World} (h : Fr B v v' w W) (hv : v''.ownBlock = v'.ownBlock) (u : Value) {j : Nat} : Fr B v v'' w (W.setCell ⟨B, j, none⟩ u) :=
  ⟨h.os, h.tape, h.output, by simpa [World.setCell] using h.size, fun k hk hB hn => by rw [Below.heap_setCell _ _ _ _ (by simpa using hB)]; exact h.block k hk hB hn, fun k hk => h.own k (by rw [← hv]; exact hk)⟩
theorem box_farJ {W : World} {b k j : Nat} {o : Obj} {u : Value} (h : W.heap[b]? = some o) (hne : b ≠ k) : (W.setCell ⟨k, j, none⟩ u).heap[b]? = some o := by
  rw [Below.heap_setCell _ _ _ _ (by simpa using hne)]; exact h
set_option maxHeartbeats 4000000 in
set_option maxRecDepth 100000 in
theorem doI_any (B p : Nat) (hp : 1 < p) (sl : List Slo) (G : List Gat) (xs : List Exi) (v1 v2 v3 : Value) (G' : List Gat) (ar : List Nat) (A : Option Addr) (ac : Nat) (har : ∀ x ∈ ar, x < G.length) (hal : ar.length ≤ 9223372036854775807) (C : Int → Prop) (hG0 : 0 < G.length) (F : FuncId) (caps : Array Value) (r : Int) (w : World) (h : IsB B p sl G xs v1 v2 v3 w) (hA : Reads w A (nCells ar))
    (hrun : ∀ (args : Array Value) (W : World), (callFunc F args).run Tryz.prog W = .ok (.enter F args) W)
    (HF : ∀ W, Below w.heap.size w W → Calls Tryz.prog F (#[.iface 126 (.agg #[.pointer (some ⟨B, 0, none⟩)])] ++ caps) W fun e W' => (∃ v, e = .returned (.int .i64 r) ∧ IsB B p sl G' xs v1 v v3 W' ∧ Fr B v2 v W W') ∨ ∃ k, C k ∧ e = .panicked [entry k] ∧ ∃ (G1 : List Gat) (v : Value), G <+: G1 ∧ IsB B p sl G1 xs v1 v v3 W' ∧ Fr B v2 v W W') :
    Calls Tryz.prog 63 #[.pointer (some ⟨B, 0, none⟩), .slice A ar.length ac, .func (.func F) #[] caps] w fun e W' => (∃ v, e = .returned (.tuple #[.int .i64 r, .int .i64 0]) ∧ IsB B p sl G' xs v1 v v3 W' ∧ Fr B v2 v w W') ∨ ∃ k, C k ∧ e = .returned (.tuple #[.int .i64 0, .int .i64 k]) ∧ ∃ v, IsB B p sl G xs v1 v v3 W' ∧ Fr B v2 v w W' := by
  have hmf : ∀ (fn : Fn) (first cap : Array Value) (w : World), (Instr.makeFunc fn first cap).run Tryz.prog w = .ok (.func fn first cap) w := fun _ _ _ _ => rfl
  obtain ⟨GA, gc, rfl, _⟩ := own_reads h.h2
  obtain ⟨q0, q1, q2, q3, q4, q5, q6⟩ := box4 h.hb
  have hlt := h.lt
  have HM := Lib.hid (fun W q => made_any B p (by omega) W q)
  have hout : (ar.map fun (x : Nat) => (x : Int)).any (outside G.length) = false := by
    rw [List.any_eq_false]
    intro x hx
    obtain ⟨y, hy, rfl⟩ := List.mem_map.1 hx
    have := har y hy
    unfold outside
    simp; omega
  have HC : Hid (∀ W, Below w.heap.size w W → W.cell? ⟨w.heap.size, 0, none⟩ = some (.pointer (some ⟨B, 0, none⟩)) → Calls Tryz.prog 97 #[.slice A ar.length ac, .func (.func 99) #[] #[.pointer (some ⟨w.heap.size, 0, none⟩)]] W (BRet false W)) :=
    Lib.hid fun W hb ha => by
      have h5 := containsI_any 99 (.pointer (some ⟨w.heap.size, 0, none⟩)) _ W (do1I_at B w.heap.size G.length gc GA W ha ((hb.cell (World.block_lt_of_cell? _ _ q2)).trans q2)) (ar.map fun (x : Nat) => (x : Int)) A ac (by rw [List.length_map]; exact hal) (by have := hA.below hb; simpa [iCells, nCells, Function.comp_def] using this)
      rw [hout, List.length_map] at h5
      exact h5
  have HFF := Lib.hid HF
  have HI := Lib.hid h
  have nB : ¬ B = w.heap.size := by omega
  clear hA HF h hout har
  go_enter_defers Tryz.func63, Tryz.ntmps63
  go_wp2_with (first | (go_at_call 22; refine (HM.out _ (cell_al (cell_al (cell_al q0)))).mono ?_; rintro e w1 ⟨rfl, hw1⟩; obtain ⟨k0, k1, k2, hsz, hb1⟩ := three w (.cells #[.pointer (some ⟨B, 0, none⟩)] 25) (.cells #[.int .i64 0] 3) (.cells #[.int .i64 0] 26); rw [hw1] at k0 k1 k2 hsz hb1; have HW1 := Lib.hid hw1; clear hw1; clear q1 q3 q4 q5 q6; replace q0 := (hb1.cell (World.block_lt_of_cell? _ _ q0)).trans q0; replace q2 := (hb1.cell (World.block_lt_of_cell? _ _ q2)).trans q2; have c0 := (box1 k0).1; have K0 := Lib.hid k0; have K1 := Lib.hid k1; have K2 := Lib.hid k2; have HB1 := Lib.hid hb1; clear k0 k1 k2 hb1; have nB1 : ¬ B = w1.heap.size := (by omega); have lB1 : B < w1.heap.size := (by omega)) | (go_at_call 97; refine (HC.out _ HB1.out c0).mono ?_; rintro e wc ⟨rfl, rfl⟩))
  refine (HFF.out _ (HB1.out.alloc (by omega) _)).mono ?_
  intro e w3 he
  rcases he with ⟨x3, rfl, hI, hF⟩ | ⟨k, hk, rfl, G1, x3, hpre, hI, hF⟩
  rotate_left
  · have hbA : Below w1.heap.size w1 (w1.alloc (.cells #[.int .i64 (G.length : Nat)] 3)) := (Below.refl _ _).alloc (Nat.le_refl _) _
    have k0 := hF.box hbA K0.out (by omega) (own_past_all HI.out.h2 (by omega))
    have k1 := hF.box hbA K1.out (by omega) (own_past_all HI.out.h2 (by omega))
    have k2 := hF.box hbA K2.out (by omega) (own_past_all HI.out.h2 (by omega))
    have k3 := hF.box (Below.refl _ _) (heap_alloc_new w1 (.cells #[.int .i64 (G.length : Nat)] 3)) (by omega) (own_past_all HI.out.h2 (by omega))
    have hlen := hpre.length_le
    obtain ⟨g, cap, rfl, hgb, hcap⟩ := own_form hI.h2 (by omega)
    rw [hsz] at k3
    refine leaves_cons (f := 100) (args := #[.pointer (some ⟨w.heap.size, 0, none⟩), .pointer (some ⟨w.heap.size + 1 + 1 + 1, 0, none⟩), .pointer (some ⟨w.heap.size + 1, 0, none⟩), .pointer (some ⟨w.heap.size + 1 + 1, 0, none⟩)]) (by simp) (by simp [go_sem]) ?_
    refine (idleFI B w.heap.size (w.heap.size + 1 + 1 + 1) (w.heap.size + 1) (w.heap.size + 1 + 1) g G1.length G.length cap k hlen hcap _ _ _ _ _ w3 (box1 k0).1 (box1 k3).1 hI.hb k1 k2 (by omega) (by omega) (by omega)).mono ?_
    rintro e u' w'' ⟨rfl, hu, rfl⟩
    have hbD : Below w3.heap.size w3 w3.drew := (Below.refl _ _).drew
    have hID := (hI.below hbD).shrink hpre
    have hFD := (((Fr.of_below (HB1.out.alloc (by omega) (.cells #[.int .i64 (G.length : Nat)] 3))).trans hF).below hbD).setB (v'' := .slice (some ⟨g, 0, none⟩) G.length cap) rfl (.slice (some ⟨g, 0, none⟩) G.length cap) (j := 2)
    have k1' : (w3.drew.setCell ⟨B, 2, none⟩ (.slice (some ⟨g, 0, none⟩) G.length cap)).heap[w.heap.size + 1]? = _ := box_farJ k1 (by omega)
    have k2' : (w3.drew.setCell ⟨B, 2, none⟩ (.slice (some ⟨g, 0, none⟩) G.length cap)).heap[w.heap.size + 1 + 1]? = _ := box_farJ k2 (by omega)
    have HI3 := IsB.setBox (IsB.setBox hID HI.out (k := w.heap.size + 1) (j := 0) (u := (.int .i64 0)) (by omega) k1' (by decide)) HI.out (k := w.heap.size + 1 + 1) (j := 0) (u := .int .i64 k) (by omega) (box_far k2' (by omega)) (by decide)
    have HF3 := (hFD.setBox (k := w.heap.size + 1) (j := 0) (u := (.int .i64 0)) (by omega)).setBox (k := w.heap.size + 1 + 1) (j := 0) (u := .int .i64 k) (by omega)
    have HK1 := (box_far (box1_set (u := (.int .i64 0)) k1') (by omega) : (((w3.drew.setCell ⟨B, 2, none⟩ (.slice (some ⟨g, 0, none⟩) G.length cap)).setCell ⟨w.heap.size + 1, 0, none⟩ (.int .i64 0)).setCell ⟨w.heap.size + 1 + 1, 0, none⟩ (.int .i64 k)).heap[w.heap.size + 1]? = _)
    have HK2 := (box1_set (u := .int .i64 k) (box_far (k := w.heap.size + 1) (u := (.int .i64 0)) k2' (by omega)))
    have d1 := (box1 HK1).1
    have d2 := (box1 HK2).1
    generalize ((w3.drew.setCell ⟨B, 2, none⟩ (.slice (some ⟨g, 0, none⟩) G.length cap)).setCell ⟨w.heap.size + 1, 0, none⟩ (.int .i64 0)).setCell ⟨w.heap.size + 1 + 1, 0, none⟩ (.int .i64 k) = w4 at *
    change Leaves _ _ _ _ _ (settle u') _
    rw [hu]
    refine ⟨.tuple #[.int .i64 0, .int .i64 k], ?_, .inr ⟨k, hk, rfl, _, HI3, HF3⟩⟩
    simp [results, Tryz.results63, go_sem, d1, d2]
  have hbA : Below w1.heap.size w1 (w1.alloc (.cells #[.int .i64 (G.length : Nat)] 3)) := (Below.refl _ _).alloc (Nat.le_refl _) _
  have k1 := hF.box hbA K1.out (by omega) (own_past_all HI.out.h2 (by omega))
  have k2 := hF.box hbA K2.out (by omega) (own_past_all HI.out.h2 (by omega))
  have c1 := (box1 k1).1
  have f1 := (box1 k1).2
  have c2 := (box1 k2).1
  have f2 := (box1 k2).2
  have HI3 := Lib.hid (IsB.setBox (IsB.setBox hI HI.out (k := w.heap.size + 1) (j := 0) (u := (.int .i64 r)) (by omega) k1 (by decide)) HI.out (k := w.heap.size + 1 + 1) (j := 0) (u := .int .i64 0) (by omega) (box_far k2 (by omega)) (by decide))
  have HF3 := Lib.hid ((((Fr.of_below (HB1.out.alloc (by omega) (.cells #[.int .i64 (G.length : Nat)] 3))).trans hF).setBox (k := w.heap.size + 1) (j := 0) (u := (.int .i64 r)) (by omega)).setBox (k := w.heap.size + 1 + 1) (j := 0) (u := .int .i64 0) (by omega))
  have HK1 := Lib.hid (box_far (box1_set (u := (.int .i64 r)) k1) (by omega) : ((w3.setCell ⟨w.heap.size + 1, 0, none⟩ (.int .i64 r)).setCell ⟨w.heap.size + 1 + 1, 0, none⟩ (.int .i64 0)).heap[w.heap.size + 1]? = _)
  have HK2 := Lib.hid (box1_set (u := .int .i64 0) (box_far (k := w.heap.size + 1) (u := (.int .i64 r)) k2 (by omega)))
  clear hI hF k1 k2 hbA
  go_wp2
  generalize hw4 : (w3.setCell ⟨w.heap.size + 1, 0, none⟩ (.int .i64 r)).setCell ⟨w.heap.size + 1 + 1, 0, none⟩ (.int .i64 0) = w4 at *
  refine leaves_cons (f := 100) (args := #[.pointer (some ⟨w.heap.size, 0, none⟩), .pointer (some ⟨w.heap.size + 1 + 1 + 1, 0, none⟩), .pointer (some ⟨w.heap.size + 1, 0, none⟩), .pointer (some ⟨w.heap.size + 1 + 1, 0, none⟩)]) (by simp) (by simp [go_sem]) ?_
  refine (idleI _ _ _ _ _).mono ?_
  rintro e u' w'' ⟨rfl, rfl, rfl⟩
  have d1 := (box1 HK1.out).1
  have d2 := (box1 HK2.out).1
  simp [Leaves, settle, results, Tryz.results63, go_sem, d1, d2]
  exact .inl ⟨x3, HI3.out, HF3.out⟩
set_option maxHeartbeats 4000000 in
set_option maxRecDepth 100000 in
theorem doW_any (B p : Nat) (hp : 1 < p) (sl : List Slo) (G : List Gat) (xs : List Exi) (v1 v2 v3 : Value) (G' : List Gat) (ar : List Nat) (A : Option Addr) (ac : Nat) (har : ∀ x ∈ ar, x < G.length) (hal : ar.length ≤ 9223372036854775807) (C : Int → Prop) (hG0 : 0 < G.length) (F : FuncId) (caps : Array Value) (n : Nat) (cs : List Value) (w : World) (h : IsB B p sl G xs v1 v2 v3 w) (hA : Reads w A (nCells ar))
    (hrun : ∀ (args : Array Value) (W : World), (callFunc F args).run Tryz.prog W = .ok (.enter F args) W)
    (HF : ∀ W, Below w.heap.size w W → Calls Tryz.prog F (#[.iface 126 (.agg #[.pointer (some ⟨B, 0, none⟩)])] ++ caps) W fun e W' => (∃ vo v, e = .returned vo ∧ IsB B p sl G' xs v1 v v3 W' ∧ Fr B v2 v W W' ∧ W'.ownsRow W.heap.size 3 1 vo n cs) ∨ ∃ k, C k ∧ e = .panicked [entry k] ∧ ∃ (G1 : List Gat) (v : Value), G <+: G1 ∧ IsB B p sl G1 xs v1 v v3 W' ∧ Fr B v2 v W W') :
    Calls Tryz.prog 87 #[.pointer (some ⟨B, 0, none⟩), .slice A ar.length ac, .func (.func F) #[] caps] w fun e W' => (∃ vo v, e = .returned (.tuple #[vo, .int .i64 0]) ∧ IsB B p sl G' xs v1 v v3 W' ∧ Fr B v2 v w W' ∧ W'.ownsRow w.heap.size 3 1 vo n cs) ∨ ∃ k, C k ∧ e = .returned (.tuple #[.slice none 0 0, .int .i64 k]) ∧ ∃ v, IsB B p sl G xs v1 v v3 W' ∧ Fr B v2 v w W' := by
  have hmf : ∀ (fn : Fn) (first cap : Array Value) (w : World), (Instr.makeFunc fn first cap).run Tryz.prog w = .ok (.func fn first cap) w := fun _ _ _ _ => rfl
  obtain ⟨GA, gc, rfl, _⟩ := own_reads h.h2
  obtain ⟨q0, q1, q2, q3, q4, q5, q6⟩ := box4 h.hb
  have hlt := h.lt
  have HM := Lib.hid (fun W q => made_any B p (by omega) W q)
  have hout : (ar.map fun (x : Nat) => (x : Int)).any (outside G.length) = false := by
    rw [List.any_eq_false]
    intro x hx
    obtain ⟨y, hy, rfl⟩ := List.mem_map.1 hx
    have := har y hy
    unfold outside
    simp; omega
  have HC : Hid (∀ W, Below w.heap.size w W → W.cell? ⟨w.heap.size, 0, none⟩ = some (.pointer (some ⟨B, 0, none⟩)) → Calls Tryz.prog 97 #[.slice A ar.length ac, .func (.func 101) #[] #[.pointer (some ⟨w.heap.size, 0, none⟩)]] W (BRet false W)) :=
    Lib.hid fun W hb ha => by
      have h5 := containsI_any 101 (.pointer (some ⟨w.heap.size, 0, none⟩)) _ W (do1W_at B w.heap.size G.length gc GA W ha ((hb.cell (World.block_lt_of_cell? _ _ q2)).trans q2)) (ar.map fun (x : Nat) => (x : Int)) A ac (by rw [List.length_map]; exact hal) (by have := hA.below hb; simpa [iCells, nCells, Function.comp_def] using this)
      rw [hout, List.length_map] at h5
      exact h5
  have HFF := Lib.hid HF
  have HI := Lib.hid h
  have nB : ¬ B = w.heap.size := by omega
  clear hA HF h hout har
  go_enter_defers Tryz.func87, Tryz.ntmps87
  go_wp2_with (first | (go_at_call 22; refine (HM.out _ (cell_al (cell_al (cell_al q0)))).mono ?_; rintro e w1 ⟨rfl, hw1⟩; obtain ⟨k0, k1, k2, hsz, hb1⟩ := three w (.cells #[.pointer (some ⟨B, 0, none⟩)] 25) (.cells #[.slice none 0 0] 38) (.cells #[.int .i64 0] 26); rw [hw1] at k0 k1 k2 hsz hb1; have HW1 := Lib.hid hw1; clear hw1; clear q1 q3 q4 q5 q6; replace q0 := (hb1.cell (World.block_lt_of_cell? _ _ q0)).trans q0; replace q2 := (hb1.cell (World.block_lt_of_cell? _ _ q2)).trans q2; have c0 := (box1 k0).1; have K0 := Lib.hid k0; have K1 := Lib.hid k1; have K2 := Lib.hid k2; have HB1 := Lib.hid hb1; clear k0 k1 k2 hb1; have nB1 : ¬ B = w1.heap.size := (by omega); have lB1 : B < w1.heap.size := (by omega)) | (go_at_call 97; refine (HC.out _ HB1.out c0).mono ?_; rintro e wc ⟨rfl, rfl⟩))
  refine (HFF.out _ (HB1.out.alloc (by omega) _)).mono ?_
  intro e w3 he
  rcases he with ⟨vo, x3, rfl, hI, hF, hO⟩ | ⟨k, hk, rfl, G1, x3, hpre, hI, hF⟩
  rotate_left
  · have hbA : Below w1.heap.size w1 (w1.alloc (.cells #[.int .i64 (G.length : Nat)] 3)) := (Below.refl _ _).alloc (Nat.le_refl _) _
    have k0 := hF.box hbA K0.out (by omega) (own_past_all HI.out.h2 (by omega))
    have k1 := hF.box hbA K1.out (by omega) (own_past_all HI.out.h2 (by omega))
    have k2 := hF.box hbA K2.out (by omega) (own_past_all HI.out.h2 (by omega))
    have k3 := hF.box (Below.refl _ _) (heap_alloc_new w1 (.cells #[.int .i64 (G.length : Nat)] 3)) (by omega) (own_past_all HI.out.h2 (by omega))
    have hlen := hpre.length_le
    obtain ⟨g, cap, rfl, hgb, hcap⟩ := own_form hI.h2 (by omega)
    rw [hsz] at k3
    refine leaves_cons (f := 102) (args := #[.pointer (some ⟨w.heap.size, 0, none⟩), .pointer (some ⟨w.heap.size + 1 + 1 + 1, 0, none⟩), .pointer (some ⟨w.heap.size + 1, 0, none⟩), .pointer (some ⟨w.heap.size + 1 + 1, 0, none⟩)]) (by simp) (by simp [go_sem]) ?_
    refine (idleFW B w.heap.size (w.heap.size + 1 + 1 + 1) (w.heap.size + 1) (w.heap.size + 1 + 1) g G1.length G.length cap k hlen hcap _ _ _ _ _ w3 (box1 k0).1 (box1 k3).1 hI.hb k1 k2 (by omega) (by omega) (by omega)).mono ?_
    rintro e u' w'' ⟨rfl, hu, rfl⟩
    have hbD : Below w3.heap.size w3 w3.drew := (Below.refl _ _).drew
    have hID := (hI.below hbD).shrink hpre
    have hFD := (((Fr.of_below (HB1.out.alloc (by omega) (.cells #[.int .i64 (G.length : Nat)] 3))).trans hF).below hbD).setB (v'' := .slice (some ⟨g, 0, none⟩) G.length cap) rfl (.slice (some ⟨g, 0, none⟩) G.length cap) (j := 2)
    have k1' : (w3.drew.setCell ⟨B, 2, none⟩ (.slice (some ⟨g, 0, none⟩) G.length cap)).heap[w.heap.size + 1]? = _ := box_farJ k1 (by omega)
    have k2' : (w3.drew.setCell ⟨B, 2, none⟩ (.slice (some ⟨g, 0, none⟩) G.length cap)).heap[w.heap.size + 1 + 1]? = _ := box_farJ k2 (by omega)
    have HI3 := IsB.setBox (IsB.setBox hID HI.out (k := w.heap.size + 1) (j := 0) (u := (.slice none 0 0)) (by omega) k1' (by decide)) HI.out (k := w.heap.size + 1 + 1) (j := 0) (u := .int .i64 k) (by omega) (box_far k2' (by omega)) (by decide)
    have HF3 := (hFD.setBox (k := w.heap.size + 1) (j := 0) (u := (.slice none 0 0)) (by omega)).setBox (k := w.heap.size + 1 + 1) (j := 0) (u := .int .i64 k) (by omega)
    have HK1 := (box_far (box1_set (u := (.slice none 0 0)) k1') (by omega) : (((w3.drew.setCell ⟨B, 2, none⟩ (.slice (some ⟨g, 0, none⟩) G.length cap)).setCell ⟨w.heap.size + 1, 0, none⟩ (.slice none 0 0)).setCell ⟨w.heap.size + 1 + 1, 0, none⟩ (.int .i64 k)).heap[w.heap.size + 1]? = _)
    have HK2 := (box1_set (u := .int .i64 k) (box_far (k := w.heap.size + 1) (u := (.slice none 0 0)) k2' (by omega)))
    have d1 := (box1 HK1).1
    have d2 := (box1 HK2).1
    generalize ((w3.drew.setCell ⟨B, 2, none⟩ (.slice (some ⟨g, 0, none⟩) G.length cap)).setCell ⟨w.heap.size + 1, 0, none⟩ (.slice none 0 0)).setCell ⟨w.heap.size + 1 + 1, 0, none⟩ (.int .i64 k) = w4 at *
    change Leaves _ _ _ _ _ (settle u') _
    rw [hu]
    refine ⟨.tuple #[.slice none 0 0, .int .i64 k], ?_, .inr ⟨k, hk, rfl, _, HI3, HF3⟩⟩
    simp [results, Tryz.results87, go_sem, d1, d2]
  obtain ⟨RA, rc, rfl, _⟩ := own_reads hO
  have hbA : Below w1.heap.size w1 (w1.alloc (.cells #[.int .i64 (G.length : Nat)] 3)) := (Below.refl _ _).alloc (Nat.le_refl _) _
  have k1 := hF.box hbA K1.out (by omega) (own_past_all HI.out.h2 (by omega))
  have k2 := hF.box hbA K2.out (by omega) (own_past_all HI.out.h2 (by omega))
  have c1 := (box1 k1).1
  have f1 := (box1 k1).2
  have c2 := (box1 k2).1
  have f2 := (box1 k2).2
  have HI3 := Lib.hid (IsB.setBox (IsB.setBox hI HI.out (k := w.heap.size + 1) (j := 0) (u := (.slice RA n rc)) (by omega) k1 (by decide)) HI.out (k := w.heap.size + 1 + 1) (j := 0) (u := .int .i64 0) (by omega) (box_far k2 (by omega)) (by decide))
  have HF3 := Lib.hid ((((Fr.of_below (HB1.out.alloc (by omega) (.cells #[.int .i64 (G.length : Nat)] 3))).trans hF).setBox (k := w.heap.size + 1) (j := 0) (u := (.slice RA n rc)) (by omega)).setBox (k := w.heap.size + 1 + 1) (j := 0) (u := .int .i64 0) (by omega))
  have HK1 := Lib.hid (box_far (box1_set (u := (.slice RA n rc)) k1) (by omega) : ((w3.setCell ⟨w.heap.size + 1, 0, none⟩ (.slice RA n rc)).setCell ⟨w.heap.size + 1 + 1, 0, none⟩ (.int .i64 0)).heap[w.heap.size + 1]? = _)
  have HK2 := Lib.hid (box1_set (u := .int .i64 0) (box_far (k := w.heap.size + 1) (u := (.slice RA n rc)) k2 (by omega)))
  have HO3 := Lib.hid (own_lower (own_set (own_set hO (p := ⟨w.heap.size + 1, 0, none⟩) (by simp; omega) (.slice RA n rc)) (p := ⟨w.heap.size + 1 + 1, 0, none⟩) (by simp; omega) (.int .i64 0)) (by simp; omega : w.heap.size ≤ _))
  clear hO
  clear hI hF k1 k2 hbA
  go_wp2
  generalize hw4 : (w3.setCell ⟨w.heap.size + 1, 0, none⟩ (.slice RA n rc)).setCell ⟨w.heap.size + 1 + 1, 0, none⟩ (.int .i64 0) = w4 at *
  refine leaves_cons (f := 102) (args := #[.pointer (some ⟨w.heap.size, 0, none⟩), .pointer (some ⟨w.heap.size + 1 + 1 + 1, 0, none⟩), .pointer (some ⟨w.heap.size + 1, 0, none⟩), .pointer (some ⟨w.heap.size + 1 + 1, 0, none⟩)]) (by simp) (by simp [go_sem]) ?_
  refine (idleW _ _ _ _ _).mono ?_
  rintro e u' w'' ⟨rfl, rfl, rfl⟩
  have d1 := (box1 HK1.out).1
  have d2 := (box1 HK2.out).1
  simp [Leaves, settle, results, Tryz.results87, go_sem, d1, d2]
  exact .inl ⟨x3, HI3.out, HF3.out, HO3.out⟩
end Go.Proofs.YtkcdlbclodjjhaaGreat

/- Contracts of words over a board: bad lengths, places out of range, unlike lengths, with or without room. (Printed by wip/tools/gen_pk.py.) -/
namespace Go.Proofs.YtkcdlbclodjjhaaGreat
open Go.RowKit

theorem readsZ_get {w W : World} {ad : Addr} {l : List Int} (h : Reads w (some ad) (iCells l)) (hb : Below w.heap.size w W) : ∀ (j : Nat) (u : Value), (iCells l)[j]? = some u → W.cell? (ad.add j) = some u := fun j u hj => by
  rcases h.below hb with h | ⟨ad', h1, h2⟩
  · rw [h] at hj; simp at hj
  · injection h1 with h1; subst h1; exact h2 j u hj
theorem one_intZ (l : List Int) : ∀ u ∈ iCells l, u.oneCell' = true := by intro u hu; simp [iCells] at hu; obtain ⟨y, _, rfl⟩ := hu; rfl
set_option maxHeartbeats 2000000 in
set_option maxRecDepth 100000 in
theorem concatZ_ok (vs ws : List Int) (n m : Nat) (hnv : vs.length = n) (hmw : ws.length = m) (hn : 0 < n) (hm : 0 < m) (hn2 : n ≤ 16) (hm2 : m ≤ 16) (va wa : Addr) (vc wc g : Nat) (w : World) (hV : Reads w (some va) (iCells vs)) (hW : Reads w (some wa) (iCells ws))
    (q0 : w.cell? ⟨g, 0, none⟩ = some (.slice (some va) n vc)) (q1 : w.cell? ⟨g, 1, none⟩ = some (.slice (some wa) m wc)) :
    Calls Tryz.prog 88 #[.slice (some ⟨g, 0, none⟩) 2 2] w fun e W' => ∃ A c, e = .returned (.slice A (n + m) c) ∧ W'.ownsRow w.heap.size 3 1 (.slice A (n + m) c) (n + m) (iCells (vs ++ ws)) ∧ Below w.heap.size w W' := by
  have HV := Lib.hid hV; have HW := Lib.hid hW
  have HNV := Lib.hid hnv; have HNW := Lib.hid hmw
  have HG := fun W => grow_ok (n + m) (by omega) (by omega) W
  have HGG := Lib.hid HG
  have HLG := Lib.hid (World.block_lt_of_cell? _ _ q0 : g < w.heap.size)
  have HQ0 := Lib.hid q0; have HQ1 := Lib.hid q1
  clear hV hW hnv hmw HG
  go_enter Tryz.func88, Tryz.ntmps88
  go_wp2
  go_loopg [3, 11] 2 (fun c s' i' wr => ∃ k s : Nat, k ≤ 2 ∧ c = 2 - k ∧ s' = .int .i64 ((s : Nat) : Int) ∧ i' = .int .i64 k ∧ s = (if k = 0 then 0 else if k = 1 then n else n + m) ∧ w = wr)
  case atStart => exact ⟨0, 0, by omega, rfl, rfl, rfl, rfl, rfl⟩
  case round =>
    obtain ⟨k, s, hk, rfl, rfl, rfl, hs, rfl⟩ := hrel
    have hc : k = 0 ∨ k = 1 ∨ k = 2 := by omega
    rcases hc with rfl | rfl | rfl
    · obtain rfl : s = 0 := hs
      go_wp2
      go_roundg (2 - (0 + 1))
      case measure => omega
      case rel => exact ⟨1, n, by omega, rfl, by go_num, by go_num, rfl, rfl⟩
    · obtain rfl : s = n := hs
      have hz : ¬ ((s : Int) + (m : Int)) < 0 := by omega
      go_wp2
      go_roundg (2 - (1 + 1))
      case measure => omega
      case rel => exact ⟨2, s + m, by omega, rfl, by go_num, by go_num, rfl, rfl⟩
    · obtain rfl : s = n + m := hs
      go_wp2_with (go_at_call 103; refine (HGG.out _).mono ?_; rintro e w1 ⟨g1, c1, rfl, hO1, hb1⟩; have HO1 := Lib.hid hO1; have HB1 := Lib.hid hb1; clear hO1 hb1)
      go_loopg [6, 27] 2 (fun c o' i' wr => ∃ (k s : Nat) (l : List Int) (vo : Value), k ≤ 2 ∧ c = 2 - k ∧ o' = vo ∧ i' = .int .i64 k ∧ s = (if k = 0 then 0 else if k = 1 then n else n + m) ∧ l = (if k = 0 then [] else if k = 1 then vs else vs ++ ws) ∧ wr.ownsRow w.heap.size 3 1 vo s (iCells l) ∧ Below w.heap.size w wr)
      case atStart => exact ⟨0, 0, [], _, by omega, rfl, rfl, rfl, rfl, rfl, HO1.out, HB1.out⟩
      case round =>
        obtain ⟨k, s, l, vo, hk, rfl, rfl, rfl, hs, hl, hO, hB⟩ := hrel
        clear q0 q1
        have HO := Lib.hid hO; have HB := Lib.hid hB
        have q0 := (hB.cell (p := ⟨g, 0, none⟩) HLG.out).trans HQ0.out
        have q1 := (hB.cell (p := ⟨g, 1, none⟩) HLG.out).trans HQ1.out
        clear hO hB
        have hc : k = 0 ∨ k = 1 ∨ k = 2 := by omega
        rcases hc with rfl | rfl | rfl
        · obtain rfl : s = 0 := hs
          obtain rfl : l = [] := hl
          go_wp2_with (at_builtin; refine app_slice w.heap.size rfl _ _ 38 3 _ 8 rfl Tryz.underlying38 infoInt rfl (by decide) _ 0 (iCells []) (iCells vs) rfl va n vc rfl (by unfold iCells; rw [List.length_map]; exact HNV.out) (readsZ_get (HV.out.below HB.out) (Below.refl _ _)) (one_intZ _) HO.out (by have h5 := HB.out.size; omega) (by omega) ?_; intro v5 w5 hown5 hg5; have HO5 := Lib.hid hown5; have HB5 := Lib.hid (HB.out.grown hg5 HB.out.size (fun q hq => (HO.out.lt q hq).1)); clear hown5 hg5)
          go_roundg (2 - (0 + 1))
          case measure => omega
          case rel => exact ⟨1, n, vs, _, by omega, rfl, rfl, by go_num, rfl, rfl, by have := HO5.out; simpa [iCells] using this, HB5.out⟩
        · obtain rfl : s = n := hs
          obtain rfl : l = vs := hl
          go_wp2_with (at_builtin; refine app_slice w.heap.size rfl _ _ 38 3 _ 8 rfl Tryz.underlying38 infoInt rfl (by decide) _ s (iCells l) (iCells ws) rfl wa m wc rfl (by unfold iCells; rw [List.length_map]; exact HNW.out) (readsZ_get (HW.out.below HB.out) (Below.refl _ _)) (one_intZ _) HO.out (by have h5 := HB.out.size; omega) (by omega) ?_; intro v5 w5 hown5 hg5; have HO5 := Lib.hid hown5; have HB5 := Lib.hid (HB.out.grown hg5 HB.out.size (fun q hq => (HO.out.lt q hq).1)); clear hown5 hg5)
          go_roundg (2 - (1 + 1))
          case measure => omega
          case rel => exact ⟨2, s + m, l ++ ws, _, by omega, rfl, rfl, by go_num, rfl, rfl, by have := HO5.out; simpa [iCells] using this, HB5.out⟩
        · obtain rfl : s = n + m := hs
          obtain rfl : l = vs ++ ws := hl
          obtain ⟨A, c, rfl, _⟩ := own_reads HO.out
          go_wp2
          go_ret
          exact ⟨A, c, rfl, HO.out, HB.out⟩
set_option maxRecDepth 100000 in
theorem badI_yes (A : Option Addr) (n c : Nat) (h : n < 1 ∨ 16 < n) (w : World) : Calls Tryz.prog 92 #[.slice A n c] w fun e w' => e = .returned (.bool true) ∧ w = w' := by
  rcases h with h | h
  · have i1 : (n : Int) < 1 := by omega
    go_enter Tryz.func92, Tryz.ntmps92
    go_wp2
    go_ret
    exact ⟨ret_bl (by simp), rfl⟩
  · have i1 : ¬ (n : Int) < 1 := by omega
    have i2 : (16 : Int) < (n : Int) := by omega
    have i3 : ¬ n < 1 := by omega
    go_enter Tryz.func92, Tryz.ntmps92
    go_wp2
    go_ret
    exact ⟨ret_bl (by simp), rfl⟩
set_option maxRecDepth 100000 in
theorem wordsI_len (B p : Nat) (hp : 1 < p) (w : World) (q0 : w.cell? ⟨B, 0, none⟩ = some (.int .u64 p)) (va wa : Option Addr) (n m vc wc : Nat) (h : (n < 1 ∨ 16 < n) ∨ (m < 1 ∨ 16 < m)) (F : FuncId) (caps : Array Value) :
    Calls Tryz.prog 53 #[.pointer (some ⟨B, 0, none⟩), .slice va n vc, .slice wa m wc, .func (.func F) #[] caps] w fun e W' => e = .returned (.tuple #[.int .i64 0, .int .i64 3]) ∧ Below w.heap.size w W' := by
  have HM := Lib.hid (fun W q => made_any B p (by omega) W q)
  by_cases hv : n < 1 ∨ 16 < n
  · have HBD := Lib.hid (fun W => badI_yes va n vc hv W)
    clear h hv
    go_enter Tryz.func53, Tryz.ntmps53
    go_wp2_with (first | (go_at_call 22; refine (HM.out _ (cell_al (cell_al (cell_al q0)))).mono ?_; rintro e w1 ⟨rfl, hw1⟩; obtain ⟨k0, k1, k2, hsz, hb1⟩ := three w (.cells #[.slice va n vc] 38) (.cells #[.slice wa m wc] 38) (.cells #[.func (.func F) #[] caps] 92); rw [hw1] at k0 k1 k2 hsz hb1; have HW1 := Lib.hid hw1; clear hw1 q0; have c0 := (box1 k0).1; have c1 := (box1 k1).1; have c2 := (box1 k2).1; have HB1 := Lib.hid hb1; clear k0 k1 k2 hb1; have l0 : w.heap.size < w1.heap.size := (by omega); have l1 : w.heap.size + 1 < w1.heap.size := (by omega); have l2 : w.heap.size + 1 + 1 < w1.heap.size := (by omega)) | (go_at_call 92; refine (HBD.out _).mono ?_; rintro e wc ⟨rfl, rfl⟩))
    refine bodyPost_ret (v := .tuple #[.int .i64 0, .int .i64 3]) ?_ rfl ⟨rfl, HB1.out⟩
    simp [results, Tryz.results53, go_sem]
  · have HBD := Lib.hid (fun W => badI va n vc (by omega) (by omega) W)
    have HBE := Lib.hid (fun W => badI_yes wa m wc (by omega) W)
    clear h hv
    go_enter Tryz.func53, Tryz.ntmps53
    go_wp2_with (first | (go_at_call 22; refine (HM.out _ (cell_al (cell_al (cell_al q0)))).mono ?_; rintro e w1 ⟨rfl, hw1⟩; obtain ⟨k0, k1, k2, hsz, hb1⟩ := three w (.cells #[.slice va n vc] 38) (.cells #[.slice wa m wc] 38) (.cells #[.func (.func F) #[] caps] 92); rw [hw1] at k0 k1 k2 hsz hb1; have HW1 := Lib.hid hw1; clear hw1 q0; have c0 := (box1 k0).1; have c1 := (box1 k1).1; have c2 := (box1 k2).1; have HB1 := Lib.hid hb1; clear k0 k1 k2 hb1; have l0 : w.heap.size < w1.heap.size := (by omega); have l1 : w.heap.size + 1 < w1.heap.size := (by omega); have l2 : w.heap.size + 1 + 1 < w1.heap.size := (by omega)) | (go_at_call 92; with_reducible refine (HBD.out _).mono ?_; rintro e wc ⟨rfl, rfl⟩) | (go_at_call 92; with_reducible refine (HBE.out _).mono ?_; rintro e wc ⟨rfl, rfl⟩))
    refine bodyPost_ret (v := .tuple #[.int .i64 0, .int .i64 3]) ?_ rfl ⟨rfl, HB1.out⟩
    simp [results, Tryz.results53, go_sem]
set_option maxHeartbeats 1000000 in
set_option maxRecDepth 100000 in
theorem innerI_any (B p : Nat) (sl : List Slo) (G : List Gat) (xs : List Exi) (v1 v2 v3 : Value) (G' : List Gat) (n : Nat) (va wa : Option Addr) (vc wc a1 a2 a3 : Nat) (C : Int → Prop) (F : FuncId) (caps : Array Value) (r : Int) (w : World)
    (hrun : ∀ (args : Array Value) (W : World), (callFunc F args).run Tryz.prog W = .ok (.enter F args) W)
    (q1 : w.cell? ⟨a1, 0, none⟩ = some (.slice va n vc)) (q2 : w.cell? ⟨a2, 0, none⟩ = some (.slice wa n wc)) (q3 : w.cell? ⟨a3, 0, none⟩ = some (.func (.func F) #[] caps))
    (HF : Calls Tryz.prog F (#[.iface 126 (.agg #[.pointer (some ⟨B, 0, none⟩)])] ++ caps) w fun e W' => (∃ v, e = .returned (.int .i64 r) ∧ IsB B p sl G' xs v1 v v3 W' ∧ Fr B v2 v w W') ∨ ∃ q, C q ∧ e = .panicked [entry q] ∧ ∃ (G1 : List Gat) (v : Value), G <+: G1 ∧ IsB B p sl G1 xs v1 v v3 W' ∧ Fr B v2 v w W') :
    Calls Tryz.prog 93 #[.iface 126 (.agg #[.pointer (some ⟨B, 0, none⟩)]), .pointer (some ⟨a1, 0, none⟩), .pointer (some ⟨a2, 0, none⟩), .pointer (some ⟨a3, 0, none⟩)] w fun e W' => (∃ v, e = .returned (.int .i64 r) ∧ IsB B p sl G' xs v1 v v3 W' ∧ Fr B v2 v w W') ∨ ∃ q, C q ∧ e = .panicked [entry q] ∧ ∃ (G1 : List Gat) (v : Value), G <+: G1 ∧ IsB B p sl G1 xs v1 v v3 W' ∧ Fr B v2 v w W' := by
  have HFF := Lib.hid HF
  clear HF
  go_enter Tryz.func93, Tryz.ntmps93
  go_wp2
  refine HFF.out.mono ?_
  intro e w1 he
  rcases he with ⟨x2, rfl, hI, hF⟩ | ⟨q, hq, rfl, he⟩
  rotate_left
  · exact ⟨rfl, .inr ⟨q, hq, rfl, he⟩⟩
  have HI := Lib.hid hI; have HF := Lib.hid hF; clear hI hF
  go_wp2
  go_ret
  exact .inl ⟨x2, rfl, HI.out, HF.out⟩
set_option maxRecDepth 100000 in
theorem innerI_un (B p : Nat) (sl : List Slo) (G : List Gat) (xs : List Exi) (v1 v2 v3 : Value) (n m : Nat) (hne : n ≠ m) (va wa : Option Addr) (vc wc a1 a2 a3 : Nat) (w : World) (h : IsB B p sl G xs v1 v2 v3 w)
    (q1 : w.cell? ⟨a1, 0, none⟩ = some (.slice va n vc)) (q2 : w.cell? ⟨a2, 0, none⟩ = some (.slice wa m wc)) :
    Calls Tryz.prog 93 #[.iface 126 (.agg #[.pointer (some ⟨B, 0, none⟩)]), .pointer (some ⟨a1, 0, none⟩), .pointer (some ⟨a2, 0, none⟩), .pointer (some ⟨a3, 0, none⟩)] w fun e W' => ∃ q, q = 2 ∧ e = .panicked [entry q] ∧ ∃ (G1 : List Gat) (v : Value), G <+: G1 ∧ IsB B p sl G1 xs v1 v v3 W' ∧ Fr B v2 v w W' := by
  have HI := Lib.hid h
  have i1 : ((n : Int) == (m : Int)) = false := by simp; omega
  have i2 : ¬ (n : Int) = (m : Int) := by omega
  clear h
  go_enter Tryz.func93, Tryz.ntmps93
  go_wp2
  exact ⟨rfl, 2, rfl, rfl, G, v2, List.prefix_rfl, HI.out, Fr.refl _ _ _⟩
set_option maxHeartbeats 4000000 in
set_option maxRecDepth 100000 in
theorem wordsI_gen (B p : Nat) (hp : 1 < p) (w : World) (q0 : w.cell? ⟨B, 0, none⟩ = some (.int .u64 p)) (vs ws : List Int) (n m : Nat) (hnv : vs.length = n) (hnw : ws.length = m) (h1 : 1 ≤ n) (h2 : n ≤ 16) (h3 : 1 ≤ m) (h4 : m ≤ 16) (va wa : Addr) (vc wc : Nat) (F : FuncId) (caps : Array Value)
    (hV : Reads w (some va) (iCells vs)) (hW : Reads w (some wa) (iCells ws)) (Q : Value → Int → World → Prop)
    (HD0 : ∀ W A c, Below w.heap.size w W → Reads W A (iCells (vs ++ ws)) → W.cell? ⟨w.heap.size, 0, none⟩ = some (.slice (some va) n vc) → W.cell? ⟨w.heap.size + 1, 0, none⟩ = some (.slice (some wa) m wc) → W.cell? ⟨w.heap.size + 1 + 1, 0, none⟩ = some (.func (.func F) #[] caps) →
      Calls Tryz.prog 63 #[.pointer (some ⟨B, 0, none⟩), .slice A (n + m) c, .func (.func 93) #[] #[.pointer (some ⟨w.heap.size, 0, none⟩), .pointer (some ⟨w.heap.size + 1, 0, none⟩), .pointer (some ⟨w.heap.size + 1 + 1, 0, none⟩)]] W fun e W' => ∃ x k, e = .returned (.tuple #[x, .int .i64 k]) ∧ Q x k W') :
    Calls Tryz.prog 53 #[.pointer (some ⟨B, 0, none⟩), .slice (some va) n vc, .slice (some wa) m wc, .func (.func F) #[] caps] w fun e W' => ∃ x k, e = .returned (.tuple #[x, .int .i64 k]) ∧ Q x k W' := by
  have hmf : ∀ (fn : Fn) (first cap : Array Value) (w : World), (Instr.makeFunc fn first cap).run Tryz.prog w = .ok (.func fn first cap) w := fun _ _ _ _ => rfl
  have HM := Lib.hid (fun W q => made_any B p (by omega) W q)
  have HBD := Lib.hid (fun W => badI (some va) n vc h1 h2 W)
  have HBE := Lib.hid (fun W => badI (some wa) m wc h3 h4 W)
  have HC : Hid (∀ W g, Below w.heap.size w W → W.cell? ⟨g, 0, none⟩ = some (.slice (some va) n vc) → W.cell? ⟨g, 1, none⟩ = some (.slice (some wa) m wc) → Calls Tryz.prog 88 #[.slice (some ⟨g, 0, none⟩) 2 2] W fun e W' => ∃ A c, e = .returned (.slice A (n + m) c) ∧ W'.ownsRow W.heap.size 3 1 (.slice A (n + m) c) (n + m) (iCells (vs ++ ws)) ∧ Below W.heap.size W W') :=
    Lib.hid fun W g hb c0 c1 => concatZ_ok vs ws n m hnv hnw h1 h3 h2 h4 va wa vc wc g W (hV.below hb) (hW.below hb) c0 c1
  have HD := Lib.hid HD0
  clear hV hW hnv hnw HD0
  go_enter Tryz.func53, Tryz.ntmps53
  go_wp2_with (first | (go_at_call 22; refine (HM.out _ (cell_al (cell_al (cell_al q0)))).mono ?_; rintro e w1 ⟨rfl, hw1⟩; obtain ⟨k0, k1, k2, hsz, hb1⟩ := three w (.cells #[.slice (some va) n vc] 38) (.cells #[.slice (some wa) m wc] 38) (.cells #[.func (.func F) #[] caps] 92); rw [hw1] at k0 k1 k2 hsz hb1; have HW1 := Lib.hid hw1; clear hw1 q0; have c0 := (box1 k0).1; have c1 := (box1 k1).1; have c2 := (box1 k2).1; have HB1 := Lib.hid hb1; clear k0 k1 k2 hb1; have l0 : w.heap.size < w1.heap.size := (by omega); have l1 : w.heap.size + 1 < w1.heap.size := (by omega); have l2 : w.heap.size + 1 + 1 < w1.heap.size := (by omega)) | (go_at_call 92; with_reducible refine (HBD.out _).mono ?_; rintro e wc ⟨rfl, rfl⟩) | (go_at_call 92; with_reducible refine (HBE.out _).mono ?_; rintro e wc ⟨rfl, rfl⟩))
  go_wp2_with (first | (go_at_call 88; refine (HC.out _ _ (HB1.out.alloc HB1.out.size _) (by rw [← hsz]; exact (two_cells _ _ _ _).1) (by rw [← hsz]; exact (two_cells _ _ _ _).2)).mono ?_; rintro e w2 ⟨A, cc, rfl, hO2, hb2⟩; have hb12 := ((Below.refl w1.heap.size w1).alloc (Nat.le_refl _) _).trans (hb2.mono (by simp)); replace c0 := (hb12.cell (World.block_lt_of_cell? _ _ c0)).trans c0; replace c1 := (hb12.cell (World.block_lt_of_cell? _ _ c1)).trans c1; replace c2 := (hb12.cell (World.block_lt_of_cell? _ _ c2)).trans c2; have HB2 := Lib.hid (HB1.out.trans (hb12.mono HB1.out.size)); have HR2 := Lib.hid (own_reads_at hO2); clear hO2 hb2 hb12) | (go_at_call 63; refine (HD.out _ _ _ HB2.out HR2.out c0 c1 c2).mono ?_; rintro e w3 ⟨x, k, rfl, hq⟩; have HQ := Lib.hid hq; clear hq))
  refine bodyPost_ret (v := .tuple #[x, .int .i64 k]) ?_ rfl ⟨x, k, rfl, HQ.out⟩
  simp [results, Tryz.results53, go_sem]
set_option maxHeartbeats 1000000 in
set_option maxRecDepth 100000 in
theorem doI_range (B p : Nat) (hp : 1 < p) (sl : List Slo) (G : List Gat) (xs : List Exi) (v1 v2 v3 : Value) (ar : List Int) (A : Option Addr) (ac : Nat) (har : ar.any (outside G.length) = true) (hal : ar.length ≤ 9223372036854775807) (f : Value) (w : World) (h : IsB B p sl G xs v1 v2 v3 w) (hA : Reads w A (iCells ar)) :
    Calls Tryz.prog 63 #[.pointer (some ⟨B, 0, none⟩), .slice A ar.length ac, f] w fun e W' => e = .returned (.tuple #[.int .i64 0, .int .i64 13]) ∧ Below w.heap.size w W' := by
  have hmf : ∀ (fn : Fn) (first cap : Array Value) (w : World), (Instr.makeFunc fn first cap).run Tryz.prog w = .ok (.func fn first cap) w := fun _ _ _ _ => rfl
  obtain ⟨GA, gc, rfl, _⟩ := own_reads h.h2
  obtain ⟨q0, q1, q2, q3, q4, q5, q6⟩ := box4 h.hb
  have hlt := h.lt
  have HM := Lib.hid (fun W q => made_any B p (by omega) W q)
  have HC : Hid (∀ W, Below w.heap.size w W → W.cell? ⟨w.heap.size, 0, none⟩ = some (.pointer (some ⟨B, 0, none⟩)) → Calls Tryz.prog 97 #[.slice A ar.length ac, .func (.func 99) #[] #[.pointer (some ⟨w.heap.size, 0, none⟩)]] W (BRet true W)) :=
    Lib.hid fun W hb ha => by
      have h5 := containsI_any 99 (.pointer (some ⟨w.heap.size, 0, none⟩)) _ W (do1I_at B w.heap.size G.length gc GA W ha ((hb.cell (World.block_lt_of_cell? _ _ q2)).trans q2)) ar A ac hal (hA.below hb)
      rw [har] at h5
      exact h5
  have nB : ¬ B = w.heap.size := by omega
  clear hA h har
  go_enter_defers Tryz.func63, Tryz.ntmps63
  go_wp2_with (first | (go_at_call 22; refine (HM.out _ (cell_al (cell_al (cell_al q0)))).mono ?_; rintro e w1 ⟨rfl, hw1⟩; obtain ⟨k0, k1, k2, hsz, hb1⟩ := three w (.cells #[.pointer (some ⟨B, 0, none⟩)] 25) (.cells #[.int .i64 0] 3) (.cells #[.int .i64 0] 26); rw [hw1] at k0 k1 k2 hsz hb1; have HW1 := Lib.hid hw1; clear hw1; clear q1 q3 q4 q5 q6; replace q0 := (hb1.cell (World.block_lt_of_cell? _ _ q0)).trans q0; replace q2 := (hb1.cell (World.block_lt_of_cell? _ _ q2)).trans q2; have c0 := (box1 k0).1; have c1 := (box1 k1).1; have f1 := (box1 k1).2; have c2 := (box1 k2).1; have f2 := (box1 k2).2; have K0 := Lib.hid k0; have K1 := Lib.hid k1; have K2 := Lib.hid k2; have HB1 := Lib.hid hb1; clear k0 k1 k2 hb1; have nB1 : ¬ B = w1.heap.size := (by omega); have lB1 : B < w1.heap.size := (by omega)) | (go_at_call 97; refine (HC.out _ HB1.out c0).mono ?_; rintro e wc ⟨rfl, rfl⟩))
  have HK1 := (box_far (box1_set (u := (.int .i64 0)) K1.out) (by omega) : ((w1.setCell ⟨w.heap.size + 1, 0, none⟩ (.int .i64 0)).setCell ⟨w.heap.size + 1 + 1, 0, none⟩ (.int .i64 13)).heap[w.heap.size + 1]? = _)
  have HK2 := (box1_set (u := .int .i64 13) (box_far (k := w.heap.size + 1) (u := (.int .i64 0)) K2.out (by omega)))
  have d1 := (box1 HK1).1
  have d2 := (box1 HK2).1
  have hbF : Below w.heap.size w ((w1.setCell ⟨w.heap.size + 1, 0, none⟩ (.int .i64 0)).setCell ⟨w.heap.size + 1 + 1, 0, none⟩ (.int .i64 13)) := (HB1.out.setCell (p := ⟨w.heap.size + 1, 0, none⟩) (by show w.heap.size ≤ w.heap.size + 1; omega) _).setCell (p := ⟨w.heap.size + 1 + 1, 0, none⟩) (by show w.heap.size ≤ w.heap.size + 1 + 1; omega) _
  generalize (w1.setCell ⟨w.heap.size + 1, 0, none⟩ (.int .i64 0)).setCell ⟨w.heap.size + 1 + 1, 0, none⟩ (.int .i64 13) = w4 at *
  refine ⟨.tuple #[.int .i64 0, .int .i64 13], ?_, rfl, hbF⟩
  simp [results, Tryz.results63, go_sem, d1, d2]
set_option maxRecDepth 100000 in
theorem badW_yes (A : Option Addr) (n c : Nat) (h : n < 1 ∨ 16 < n) (w : World) : Calls Tryz.prog 86 #[.slice A n c] w fun e w' => e = .returned (.bool true) ∧ w = w' := by
  rcases h with h | h
  · have i1 : (n : Int) < 1 := by omega
    go_enter Tryz.func86, Tryz.ntmps86
    go_wp2
    go_ret
    exact ⟨ret_bl (by simp), rfl⟩
  · have i1 : ¬ (n : Int) < 1 := by omega
    have i2 : (16 : Int) < (n : Int) := by omega
    have i3 : ¬ n < 1 := by omega
    go_enter Tryz.func86, Tryz.ntmps86
    go_wp2
    go_ret
    exact ⟨ret_bl (by simp), rfl⟩
set_option maxRecDepth 100000 in
theorem wordsW_len (B p : Nat) (hp : 1 < p) (w : World) (q0 : w.cell? ⟨B, 0, none⟩ = some (.int .u64 p)) (va wa : Option Addr) (n m vc wc : Nat) (h : (n < 1 ∨ 16 < n) ∨ (m < 1 ∨ 16 < m)) (F : FuncId) (caps : Array Value) :
    Calls Tryz.prog 46 #[.pointer (some ⟨B, 0, none⟩), .slice va n vc, .slice wa m wc, .func (.func F) #[] caps] w fun e W' => e = .returned (.tuple #[.slice none 0 0, .int .i64 3]) ∧ Below w.heap.size w W' := by
  have HM := Lib.hid (fun W q => made_any B p (by omega) W q)
  by_cases hv : n < 1 ∨ 16 < n
  · have HBD := Lib.hid (fun W => badW_yes va n vc hv W)
    clear h hv
    go_enter Tryz.func46, Tryz.ntmps46
    go_wp2_with (first | (go_at_call 22; refine (HM.out _ (cell_al (cell_al (cell_al q0)))).mono ?_; rintro e w1 ⟨rfl, hw1⟩; obtain ⟨k0, k1, k2, hsz, hb1⟩ := three w (.cells #[.slice va n vc] 38) (.cells #[.slice wa m wc] 38) (.cells #[.func (.func F) #[] caps] 89); rw [hw1] at k0 k1 k2 hsz hb1; have HW1 := Lib.hid hw1; clear hw1 q0; have c0 := (box1 k0).1; have c1 := (box1 k1).1; have c2 := (box1 k2).1; have HB1 := Lib.hid hb1; clear k0 k1 k2 hb1; have l0 : w.heap.size < w1.heap.size := (by omega); have l1 : w.heap.size + 1 < w1.heap.size := (by omega); have l2 : w.heap.size + 1 + 1 < w1.heap.size := (by omega)) | (go_at_call 86; refine (HBD.out _).mono ?_; rintro e wc ⟨rfl, rfl⟩))
    refine bodyPost_ret (v := .tuple #[.slice none 0 0, .int .i64 3]) ?_ rfl ⟨rfl, HB1.out⟩
    simp [results, Tryz.results46, go_sem]
  · have HBD := Lib.hid (fun W => badW va n vc (by omega) (by omega) W)
    have HBE := Lib.hid (fun W => badW_yes wa m wc (by omega) W)
    clear h hv
    go_enter Tryz.func46, Tryz.ntmps46
    go_wp2_with (first | (go_at_call 22; refine (HM.out _ (cell_al (cell_al (cell_al q0)))).mono ?_; rintro e w1 ⟨rfl, hw1⟩; obtain ⟨k0, k1, k2, hsz, hb1⟩ := three w (.cells #[.slice va n vc] 38) (.cells #[.slice wa m wc] 38) (.cells #[.func (.func F) #[] caps] 89); rw [hw1] at k0 k1 k2 hsz hb1; have HW1 := Lib.hid hw1; clear hw1 q0; have c0 := (box1 k0).1; have c1 := (box1 k1).1; have c2 := (box1 k2).1; have HB1 := Lib.hid hb1; clear k0 k1 k2 hb1; have l0 : w.heap.size < w1.heap.size := (by omega); have l1 : w.heap.size + 1 < w1.heap.size := (by omega); have l2 : w.heap.size + 1 + 1 < w1.heap.size := (by omega)) | (go_at_call 86; with_reducible refine (HBD.out _).mono ?_; rintro e wc ⟨rfl, rfl⟩) | (go_at_call 86; with_reducible refine (HBE.out _).mono ?_; rintro e wc ⟨rfl, rfl⟩))
    refine bodyPost_ret (v := .tuple #[.slice none 0 0, .int .i64 3]) ?_ rfl ⟨rfl, HB1.out⟩
    simp [results, Tryz.results46, go_sem]
set_option maxHeartbeats 1000000 in
set_option maxRecDepth 100000 in
theorem innerW_any (B p : Nat) (sl : List Slo) (G : List Gat) (xs : List Exi) (v1 v2 v3 : Value) (G' : List Gat) (n : Nat) (va wa : Option Addr) (vc wc a1 a2 a3 : Nat) (C : Int → Prop) (F : FuncId) (caps : Array Value) (k : Nat) (cs : List Value) (w : World)
    (hrun : ∀ (args : Array Value) (W : World), (callFunc F args).run Tryz.prog W = .ok (.enter F args) W)
    (q1 : w.cell? ⟨a1, 0, none⟩ = some (.slice va n vc)) (q2 : w.cell? ⟨a2, 0, none⟩ = some (.slice wa n wc)) (q3 : w.cell? ⟨a3, 0, none⟩ = some (.func (.func F) #[] caps))
    (HF : Calls Tryz.prog F (#[.iface 126 (.agg #[.pointer (some ⟨B, 0, none⟩)])] ++ caps) w fun e W' => (∃ vo v, e = .returned vo ∧ IsB B p sl G' xs v1 v v3 W' ∧ Fr B v2 v w W' ∧ W'.ownsRow w.heap.size 3 1 vo k cs) ∨ ∃ q, C q ∧ e = .panicked [entry q] ∧ ∃ (G1 : List Gat) (v : Value), G <+: G1 ∧ IsB B p sl G1 xs v1 v v3 W' ∧ Fr B v2 v w W') :
    Calls Tryz.prog 89 #[.iface 126 (.agg #[.pointer (some ⟨B, 0, none⟩)]), .pointer (some ⟨a1, 0, none⟩), .pointer (some ⟨a2, 0, none⟩), .pointer (some ⟨a3, 0, none⟩)] w fun e W' => (∃ vo v, e = .returned vo ∧ IsB B p sl G' xs v1 v v3 W' ∧ Fr B v2 v w W' ∧ W'.ownsRow w.heap.size 3 1 vo k cs) ∨ ∃ q, C q ∧ e = .panicked [entry q] ∧ ∃ (G1 : List Gat) (v : Value), G <+: G1 ∧ IsB B p sl G1 xs v1 v v3 W' ∧ Fr B v2 v w W' := by
  have HFF := Lib.hid HF
  clear HF
  go_enter Tryz.func89, Tryz.ntmps89
  go_wp2
  refine HFF.out.mono ?_
  intro e w1 he
  rcases he with ⟨vo, x2, rfl, hI, hF, hO⟩ | ⟨q, hq, rfl, he⟩
  rotate_left
  · exact ⟨rfl, .inr ⟨q, hq, rfl, he⟩⟩
  have HI := Lib.hid hI; have HF := Lib.hid hF; have HO := Lib.hid hO; clear hI hF hO
  go_wp2
  go_ret
  exact .inl ⟨vo, x2, rfl, HI.out, HF.out, HO.out⟩
set_option maxRecDepth 100000 in
theorem innerW_un (B p : Nat) (sl : List Slo) (G : List Gat) (xs : List Exi) (v1 v2 v3 : Value) (n m : Nat) (hne : n ≠ m) (va wa : Option Addr) (vc wc a1 a2 a3 : Nat) (w : World) (h : IsB B p sl G xs v1 v2 v3 w)
    (q1 : w.cell? ⟨a1, 0, none⟩ = some (.slice va n vc)) (q2 : w.cell? ⟨a2, 0, none⟩ = some (.slice wa m wc)) :
    Calls Tryz.prog 89 #[.iface 126 (.agg #[.pointer (some ⟨B, 0, none⟩)]), .pointer (some ⟨a1, 0, none⟩), .pointer (some ⟨a2, 0, none⟩), .pointer (some ⟨a3, 0, none⟩)] w fun e W' => ∃ q, q = 2 ∧ e = .panicked [entry q] ∧ ∃ (G1 : List Gat) (v : Value), G <+: G1 ∧ IsB B p sl G1 xs v1 v v3 W' ∧ Fr B v2 v w W' := by
  have HI := Lib.hid h
  have i1 : ((n : Int) == (m : Int)) = false := by simp; omega
  have i2 : ¬ (n : Int) = (m : Int) := by omega
  clear h
  go_enter Tryz.func89, Tryz.ntmps89
  go_wp2
  exact ⟨rfl, 2, rfl, rfl, G, v2, List.prefix_rfl, HI.out, Fr.refl _ _ _⟩
set_option maxHeartbeats 4000000 in
set_option maxRecDepth 100000 in
theorem wordsW_gen (B p : Nat) (hp : 1 < p) (w : World) (q0 : w.cell? ⟨B, 0, none⟩ = some (.int .u64 p)) (vs ws : List Int) (n m : Nat) (hnv : vs.length = n) (hnw : ws.length = m) (h1 : 1 ≤ n) (h2 : n ≤ 16) (h3 : 1 ≤ m) (h4 : m ≤ 16) (va wa : Addr) (vc wc : Nat) (F : FuncId) (caps : Array Value)
    (hV : Reads w (some va) (iCells vs)) (hW : Reads w (some wa) (iCells ws)) (Q : Value → Int → World → Prop)
    (HD0 : ∀ W A c, Below w.heap.size w W → Reads W A (iCells (vs ++ ws)) → W.cell? ⟨w.heap.size, 0, none⟩ = some (.slice (some va) n vc) → W.cell? ⟨w.heap.size + 1, 0, none⟩ = some (.slice (some wa) m wc) → W.cell? ⟨w.heap.size + 1 + 1, 0, none⟩ = some (.func (.func F) #[] caps) →
      Calls Tryz.prog 87 #[.pointer (some ⟨B, 0, none⟩), .slice A (n + m) c, .func (.func 89) #[] #[.pointer (some ⟨w.heap.size, 0, none⟩), .pointer (some ⟨w.heap.size + 1, 0, none⟩), .pointer (some ⟨w.heap.size + 1 + 1, 0, none⟩)]] W fun e W' => ∃ x k, e = .returned (.tuple #[x, .int .i64 k]) ∧ Q x k W') :
    Calls Tryz.prog 46 #[.pointer (some ⟨B, 0, none⟩), .slice (some va) n vc, .slice (some wa) m wc, .func (.func F) #[] caps] w fun e W' => ∃ x k, e = .returned (.tuple #[x, .int .i64 k]) ∧ Q x k W' := by
  have hmf : ∀ (fn : Fn) (first cap : Array Value) (w : World), (Instr.makeFunc fn first cap).run Tryz.prog w = .ok (.func fn first cap) w := fun _ _ _ _ => rfl
  have HM := Lib.hid (fun W q => made_any B p (by omega) W q)
  have HBD := Lib.hid (fun W => badW (some va) n vc h1 h2 W)
  have HBE := Lib.hid (fun W => badW (some wa) m wc h3 h4 W)
  have HC : Hid (∀ W g, Below w.heap.size w W → W.cell? ⟨g, 0, none⟩ = some (.slice (some va) n vc) → W.cell? ⟨g, 1, none⟩ = some (.slice (some wa) m wc) → Calls Tryz.prog 88 #[.slice (some ⟨g, 0, none⟩) 2 2] W fun e W' => ∃ A c, e = .returned (.slice A (n + m) c) ∧ W'.ownsRow W.heap.size 3 1 (.slice A (n + m) c) (n + m) (iCells (vs ++ ws)) ∧ Below W.heap.size W W') :=
    Lib.hid fun W g hb c0 c1 => concatZ_ok vs ws n m hnv hnw h1 h3 h2 h4 va wa vc wc g W (hV.below hb) (hW.below hb) c0 c1
  have HD := Lib.hid HD0
  clear hV hW hnv hnw HD0
  go_enter Tryz.func46, Tryz.ntmps46
  go_wp2_with (first | (go_at_call 22; refine (HM.out _ (cell_al (cell_al (cell_al q0)))).mono ?_; rintro e w1 ⟨rfl, hw1⟩; obtain ⟨k0, k1, k2, hsz, hb1⟩ := three w (.cells #[.slice (some va) n vc] 38) (.cells #[.slice (some wa) m wc] 38) (.cells #[.func (.func F) #[] caps] 89); rw [hw1] at k0 k1 k2 hsz hb1; have HW1 := Lib.hid hw1; clear hw1 q0; have c0 := (box1 k0).1; have c1 := (box1 k1).1; have c2 := (box1 k2).1; have HB1 := Lib.hid hb1; clear k0 k1 k2 hb1; have l0 : w.heap.size < w1.heap.size := (by omega); have l1 : w.heap.size + 1 < w1.heap.size := (by omega); have l2 : w.heap.size + 1 + 1 < w1.heap.size := (by omega)) | (go_at_call 86; with_reducible refine (HBD.out _).mono ?_; rintro e wc ⟨rfl, rfl⟩) | (go_at_call 86; with_reducible refine (HBE.out _).mono ?_; rintro e wc ⟨rfl, rfl⟩))
  go_wp2_with (first | (go_at_call 88; refine (HC.out _ _ (HB1.out.alloc HB1.out.size _) (by rw [← hsz]; exact (two_cells _ _ _ _).1) (by rw [← hsz]; exact (two_cells _ _ _ _).2)).mono ?_; rintro e w2 ⟨A, cc, rfl, hO2, hb2⟩; have hb12 := ((Below.refl w1.heap.size w1).alloc (Nat.le_refl _) _).trans (hb2.mono (by simp)); replace c0 := (hb12.cell (World.block_lt_of_cell? _ _ c0)).trans c0; replace c1 := (hb12.cell (World.block_lt_of_cell? _ _ c1)).trans c1; replace c2 := (hb12.cell (World.block_lt_of_cell? _ _ c2)).trans c2; have HB2 := Lib.hid (HB1.out.trans (hb12.mono HB1.out.size)); have HR2 := Lib.hid (own_reads_at hO2); clear hO2 hb2 hb12) | (go_at_call 87; refine (HD.out _ _ _ HB2.out HR2.out c0 c1 c2).mono ?_; rintro e w3 ⟨x, k, rfl, hq⟩; have HQ := Lib.hid hq; clear hq))
  refine bodyPost_ret (v := .tuple #[x, .int .i64 k]) ?_ rfl ⟨x, k, rfl, HQ.out⟩
  simp [results, Tryz.results46, go_sem]
set_option maxHeartbeats 1000000 in
set_option maxRecDepth 100000 in
theorem doW_range (B p : Nat) (hp : 1 < p) (sl : List Slo) (G : List Gat) (xs : List Exi) (v1 v2 v3 : Value) (ar : List Int) (A : Option Addr) (ac : Nat) (har : ar.any (outside G.length) = true) (hal : ar.length ≤ 9223372036854775807) (f : Value) (w : World) (h : IsB B p sl G xs v1 v2 v3 w) (hA : Reads w A (iCells ar)) :
    Calls Tryz.prog 87 #[.pointer (some ⟨B, 0, none⟩), .slice A ar.length ac, f] w fun e W' => e = .returned (.tuple #[.slice none 0 0, .int .i64 13]) ∧ Below w.heap.size w W' := by
  have hmf : ∀ (fn : Fn) (first cap : Array Value) (w : World), (Instr.makeFunc fn first cap).run Tryz.prog w = .ok (.func fn first cap) w := fun _ _ _ _ => rfl
  obtain ⟨GA, gc, rfl, _⟩ := own_reads h.h2
  obtain ⟨q0, q1, q2, q3, q4, q5, q6⟩ := box4 h.hb
  have hlt := h.lt
  have HM := Lib.hid (fun W q => made_any B p (by omega) W q)
  have HC : Hid (∀ W, Below w.heap.size w W → W.cell? ⟨w.heap.size, 0, none⟩ = some (.pointer (some ⟨B, 0, none⟩)) → Calls Tryz.prog 97 #[.slice A ar.length ac, .func (.func 101) #[] #[.pointer (some ⟨w.heap.size, 0, none⟩)]] W (BRet true W)) :=
    Lib.hid fun W hb ha => by
      have h5 := containsI_any 101 (.pointer (some ⟨w.heap.size, 0, none⟩)) _ W (do1W_at B w.heap.size G.length gc GA W ha ((hb.cell (World.block_lt_of_cell? _ _ q2)).trans q2)) ar A ac hal (hA.below hb)
      rw [har] at h5
      exact h5
  have nB : ¬ B = w.heap.size := by omega
  clear hA h har
  go_enter_defers Tryz.func87, Tryz.ntmps87
  go_wp2_with (first | (go_at_call 22; refine (HM.out _ (cell_al (cell_al (cell_al q0)))).mono ?_; rintro e w1 ⟨rfl, hw1⟩; obtain ⟨k0, k1, k2, hsz, hb1⟩ := three w (.cells #[.pointer (some ⟨B, 0, none⟩)] 25) (.cells #[.slice none 0 0] 38) (.cells #[.int .i64 0] 26); rw [hw1] at k0 k1 k2 hsz hb1; have HW1 := Lib.hid hw1; clear hw1; clear q1 q3 q4 q5 q6; replace q0 := (hb1.cell (World.block_lt_of_cell? _ _ q0)).trans q0; replace q2 := (hb1.cell (World.block_lt_of_cell? _ _ q2)).trans q2; have c0 := (box1 k0).1; have c1 := (box1 k1).1; have f1 := (box1 k1).2; have c2 := (box1 k2).1; have f2 := (box1 k2).2; have K0 := Lib.hid k0; have K1 := Lib.hid k1; have K2 := Lib.hid k2; have HB1 := Lib.hid hb1; clear k0 k1 k2 hb1; have nB1 : ¬ B = w1.heap.size := (by omega); have lB1 : B < w1.heap.size := (by omega)) | (go_at_call 97; refine (HC.out _ HB1.out c0).mono ?_; rintro e wc ⟨rfl, rfl⟩))
  have HK1 := (box_far (box1_set (u := (.slice none 0 0)) K1.out) (by omega) : ((w1.setCell ⟨w.heap.size + 1, 0, none⟩ (.slice none 0 0)).setCell ⟨w.heap.size + 1 + 1, 0, none⟩ (.int .i64 13)).heap[w.heap.size + 1]? = _)
  have HK2 := (box1_set (u := .int .i64 13) (box_far (k := w.heap.size + 1) (u := (.slice none 0 0)) K2.out (by omega)))
  have d1 := (box1 HK1).1
  have d2 := (box1 HK2).1
  have hbF : Below w.heap.size w ((w1.setCell ⟨w.heap.size + 1, 0, none⟩ (.slice none 0 0)).setCell ⟨w.heap.size + 1 + 1, 0, none⟩ (.int .i64 13)) := (HB1.out.setCell (p := ⟨w.heap.size + 1, 0, none⟩) (by show w.heap.size ≤ w.heap.size + 1; omega) _).setCell (p := ⟨w.heap.size + 1 + 1, 0, none⟩) (by show w.heap.size ≤ w.heap.size + 1 + 1; omega) _
  generalize (w1.setCell ⟨w.heap.size + 1, 0, none⟩ (.slice none 0 0)).setCell ⟨w.heap.size + 1 + 1, 0, none⟩ (.int .i64 13) = w4 at *
  refine ⟨.tuple #[.slice none 0 0, .int .i64 13], ?_, rfl, hbF⟩
  simp [results, Tryz.results87, go_sem, d1, d2]
end Go.Proofs.YtkcdlbclodjjhaaGreat
