/- Contracts and plain laws of chapter 13, merged: Wm Wn. -/
import Derived.Test.YtkcdlbclodjjhaaGreatGaf
import Derived.Recover
import Derived.Lib.AppendZeros
/- Contracts of do over a board, where there is room. (Printed by wip/tools/gen_do.py.) -/
namespace Go.Proofs.YtkcdlbclodjjhaaGreat
open Go.RowKit

theorem wpS_seq_gen {P : Program} {x y : Code} {Q : Exit → Act → List Frame → World → Prop} {a : Act} {cs : List Frame} {w : World} (h : ∀ Q' : Exit → Act → List Frame → World → Prop, (∀ a cs w, y.wpS P Q a cs w → Q' .normal a cs w) → x.wpS P Q' a cs w) : (Code.seq x y).wpS P Q a cs w :=
  wpS_seq (h _ fun _ _ _ h => h)
theorem three (w : World) (o1 o2 o3 : Obj) : (((w.alloc o1).alloc o2).alloc o3).heap[w.heap.size]? = some o1 ∧ (((w.alloc o1).alloc o2).alloc o3).heap[w.heap.size + 1]? = some o2 ∧ (((w.alloc o1).alloc o2).alloc o3).heap[w.heap.size + 1 + 1]? = some o3 ∧ (((w.alloc o1).alloc o2).alloc o3).heap.size = w.heap.size + 1 + 1 + 1 ∧ Below w.heap.size w (((w.alloc o1).alloc o2).alloc o3) := by
  refine ⟨?_, ?_, ?_, by simp, ((((Below.refl _ _).alloc (Nat.le_refl _) o1).alloc (by simp) o2).alloc (by simp; omega) o3)⟩
  · rw [Below.heap_alloc _ _ _ (by simp; omega), Below.heap_alloc _ _ _ (by simp)]; exact heap_alloc_new w o1
  · rw [Below.heap_alloc _ _ _ (by simp)]; have := heap_alloc_new (w.alloc o1) o2; simpa using this
  · have := heap_alloc_new ((w.alloc o1).alloc o2) o3; simpa using this
theorem Fr.box {B : Nat} {v v' : Value} {w1 W2 w3 : World} (hF : Fr B v v' W2 w3) (hb : Below w1.heap.size w1 W2) {k : Nat} {o : Obj} (hk : w1.heap[k]? = some o) (hB : k ≠ B) (hn : some k ≠ v.ownBlock) : w3.heap[k]? = some o := by
  have hlt := (Array.getElem?_eq_some_iff.1 hk).1
  exact (hF.block k (Nat.lt_of_lt_of_le hlt hb.size) hB hn).trans ((hb.block k hlt).trans hk)
theorem grown_box (W : World) (k j : Nat) (u : Value) : W.grownBy (W.setCell ⟨k, j, none⟩ u) (some k) :=
  ⟨rfl, rfl, rfl, by simp [World.setCell], fun i _ hne => Below.heap_setCell _ _ _ _ (by simpa using fun e => hne (by rw [e]))⟩
theorem IsB.setBox {B p : Nat} {sl : List Slo} {G G0 : List Gat} {xs : List Exi} {v1 v v2 v3 : Value} {w W : World} (h : IsB B p sl G xs v1 v v3 W) (h0 : IsB B p sl G0 xs v1 v2 v3 w) {k j : Nat} {u : Value} {cs : Array Value} {t : TypeId} {fr : Nat × Nat} (hk : w.heap.size ≤ k) (hbx : W.heap[k]? = some (.cells cs t fr)) (ht : t ≠ 42) : IsB B p sl G xs v1 v v3 (W.setCell ⟨k, j, none⟩ u) := by
  have hg := grown_box W k j u
  have far : ∀ {e : TypeId} {s : Nat} {x : Value} {m : Nat} {ds : List Value}, w.ownsRow (B + 1) e s x m ds → x.ownBlock = none ∨ x.ownBlock ≠ some k := fun {e s x m ds} hx => by
    cases e1 : x.ownBlock with
    | none => exact .inl rfl
    | some q => exact .inr fun e2 => by have h1 := (hx.lt q e1).2; injection e2 with e2; omega
  refine ⟨h.h1.kept hg (far h0.h1), h.h2.kept hg ?_, h.h3.kept hg (far h0.h3), fun x hx => ⟨(h.hx x hx).1.two (h0.hx x hx).1 fun o o0 => o.kept hg (far o0), (h.hx x hx).2.two (h0.hx x hx).2 fun o o0 => o.kept hg (far o0)⟩, (hg.block _ h.lt (by have := h0.lt; simp; omega)).trans h.hb, h.hk, h.hz⟩
  rcases h.h2.2 with ⟨rfl, _⟩ | ⟨g, cap, cur, rfl, _, hgg, _⟩
  · exact .inl rfl
  · refine .inr fun e2 => ?_
    have e3 : g = k := by simpa [Value.ownBlock] using e2
    subst e3
    rw [hgg] at hbx
    injection hbx with hbx
    injection hbx with _ hbx _
    exact ht hbx.symm
theorem Fr.setBox {B : Nat} {v v' : Value} {w W : World} (h : Fr B v v' w W) {k j : Nat} {u : Value} (hk : w.heap.size ≤ k) : Fr B v v' w (W.setCell ⟨k, j, none⟩ u) :=
  ⟨h.os, h.tape, h.output, by simpa [World.setCell] using h.size, fun i hi hB hn => by rw [Below.heap_setCell _ _ _ _ (by simp; omega)]; exact h.block i hi hB hn, h.own⟩
theorem box1 {W : World} {b : Nat} {v0 : Value} {t : TypeId} (h : W.heap[b]? = some (.cells #[v0] t (0, 0))) : W.cell? ⟨b, 0, none⟩ = some v0 ∧ W.frozen? ⟨b, 0, none⟩ = false := by
  simp [World.cell?, World.frozen?, h]
theorem box1_set {W : World} {b : Nat} {v0 u : Value} {t : TypeId} (h : W.heap[b]? = some (.cells #[v0] t (0, 0))) : (W.setCell ⟨b, 0, none⟩ u).heap[b]? = some (.cells #[u] t (0, 0)) := by
  simp [World.setCell, Array.getElem?_modify, h]
theorem box_far {W : World} {b k : Nat} {o : Obj} {u : Value} (h : W.heap[b]? = some o) (hne : b ≠ k) : (W.setCell ⟨k, 0, none⟩ u).heap[b]? = some o := by
  rw [Below.heap_setCell _ _ _ _ (by simpa using hne)]; exact h
theorem own_past_all {w : World} {base n : Nat} {e : TypeId} {s : Nat} {v : Value} {cs : List Value} (h : w.ownsRow base e s v n cs) {k : Nat} (hk : w.heap.size ≤ k) : some k ≠ v.ownBlock := fun e => by
  have := (h.lt k e.symm).2
  omega
theorem as_nil (w : World) : (Instr.typeAssert .nilIface 20 26 true).run Tryz.prog w = .ok (.tuple #[.int .i64 0, .bool false]) w := by kernel_rfl
theorem as_err (k : Int) (w : World) : (Instr.typeAssert (.iface 26 (.int .i64 k)) 20 26 true).run Tryz.prog w = .ok (.tuple #[.int .i64 k, .bool true]) w := by kernel_rfl
set_option maxRecDepth 100000 in
theorem do1I_at (B a n gc : Nat) (GA : Option Addr) (W : World) (ha : W.cell? ⟨a, 0, none⟩ = some (.pointer (some ⟨B, 0, none⟩))) (hb : W.cell? ⟨B, 2, none⟩ = some (.slice GA n gc)) : SaysI 99 (.pointer (some ⟨a, 0, none⟩)) W (outside n) := by
  refine ⟨fun _ _ => by kernel_rfl, fun c => ?_⟩
  by_cases h : c < 0
  · go_enter Tryz.func99, Tryz.ntmps99
    go_wp2
    go_ret
    exact ⟨ret_bl (by simp [outside, h]), rfl⟩
  · have h' : 0 ≤ c := by omega
    go_enter Tryz.func99, Tryz.ntmps99
    go_wp2
    go_ret
    exact ⟨ret_bl (by simp [outside]; omega), rfl⟩
set_option maxRecDepth 100000 in
theorem idleI (p1 p2 p3 p4 : Value) (w : World) :
    CallsD Tryz.prog 100 #[p1, p2, p3, p4] .returning w fun e u' w' => e = .returned (.tuple #[]) ∧ u' = .returning ∧ w' = w := by
  refine callsD_of_wpS Tryz.func100 rfl fun c₀ cs hu => ?_
  refine wpS_seq_gen fun Q' hQ' => ?_
  apply wpS_region
  simp [wpOpsS, go_sem, recoverD, hu, Tryz.ntmps100, as_nil]
  refine hQ' _ _ _ ?_
  clear hQ' Q'
  refine wpS_seq_gen fun Q' hQ' => ?_
  apply wpS_region
  simp [wpOpsS, go_sem]
  refine hQ' _ _ _ ?_
  clear hQ' Q'
  refine wpS_cond (t := false) (by simp [Act.eval]) ?_
  simp only [Bool.false_eq_true, if_false]
  refine wpS_of_wp (wp_skip ?_)
  cases c₀
  simp_all [bodyPostS, results, Tryz.results100]
set_option maxRecDepth 100000 in
theorem do1W_at (B a n gc : Nat) (GA : Option Addr) (W : World) (ha : W.cell? ⟨a, 0, none⟩ = some (.pointer (some ⟨B, 0, none⟩))) (hb : W.cell? ⟨B, 2, none⟩ = some (.slice GA n gc)) : SaysI 101 (.pointer (some ⟨a, 0, none⟩)) W (outside n) := by
  refine ⟨fun _ _ => by kernel_rfl, fun c => ?_⟩
  by_cases h : c < 0
  · go_enter Tryz.func101, Tryz.ntmps101
    go_wp2
    go_ret
    exact ⟨ret_bl (by simp [outside, h]), rfl⟩
  · have h' : 0 ≤ c := by omega
    go_enter Tryz.func101, Tryz.ntmps101
    go_wp2
    go_ret
    exact ⟨ret_bl (by simp [outside]; omega), rfl⟩
set_option maxRecDepth 100000 in
theorem idleW (p1 p2 p3 p4 : Value) (w : World) :
    CallsD Tryz.prog 102 #[p1, p2, p3, p4] .returning w fun e u' w' => e = .returned (.tuple #[]) ∧ u' = .returning ∧ w' = w := by
  refine callsD_of_wpS Tryz.func102 rfl fun c₀ cs hu => ?_
  refine wpS_seq_gen fun Q' hQ' => ?_
  apply wpS_region
  simp [wpOpsS, go_sem, recoverD, hu, Tryz.ntmps102, as_nil]
  refine hQ' _ _ _ ?_
  clear hQ' Q'
  refine wpS_seq_gen fun Q' hQ' => ?_
  apply wpS_region
  simp [wpOpsS, go_sem]
  refine hQ' _ _ _ ?_
  clear hQ' Q'
  refine wpS_cond (t := false) (by simp [Act.eval]) ?_
  simp only [Bool.false_eq_true, if_false]
  refine wpS_of_wp (wp_skip ?_)
  cases c₀
  simp_all [bodyPostS, results, Tryz.results102]
set_option maxHeartbeats 4000000 in
set_option maxRecDepth 100000 in
theorem doI_ok (B p : Nat) (hp : 1 < p) (sl : List Slo) (G : List Gat) (xs : List Exi) (v1 v2 v3 : Value) (G' : List Gat) (ar : List Nat) (A : Option Addr) (ac : Nat) (har : ∀ x ∈ ar, x < G.length) (hal : ar.length ≤ 9223372036854775807) (F : FuncId) (caps : Array Value) (r : Int) (w : World) (h : IsB B p sl G xs v1 v2 v3 w) (hA : Reads w A (nCells ar))
    (hrun : ∀ (args : Array Value) (W : World), (callFunc F args).run Tryz.prog W = .ok (.enter F args) W)
    (HF : ∀ W, Below w.heap.size w W → Calls Tryz.prog F (#[.iface 126 (.agg #[.pointer (some ⟨B, 0, none⟩)])] ++ caps) W fun e W' => ∃ v, e = .returned (.int .i64 r) ∧ IsB B p sl G' xs v1 v v3 W' ∧ Fr B v2 v W W') :
    Calls Tryz.prog 63 #[.pointer (some ⟨B, 0, none⟩), .slice A ar.length ac, .func (.func F) #[] caps] w fun e W' => ∃ v, e = .returned (.tuple #[.int .i64 r, .int .i64 0]) ∧ IsB B p sl G' xs v1 v v3 W' ∧ Fr B v2 v w W' := by
  have hmf : ∀ (fn : Fn) (first cap : Array Value) (w : World), (Instr.makeFunc fn first cap).run Tryz.prog w = .ok (.func fn first cap) w := fun _ _ _ _ => rfl
  obtain ⟨GA, gc, rfl, _⟩ := own_reads h.h2
  obtain ⟨q0, q1, q2, q3, q4, q5, q6⟩ := box4 h.hb
  have hlt := h.lt
  have HM := Lib.hid (fun W q => made_any B p (by omega) W q)
  have hout : (ar.map fun (x : Nat) => (x : Int)).any (outside G.length) = false := by
    rw [List.any_eq_false]
    intro x hx
    obtain ⟨y, hy, rfl⟩ := List.mem_map.1 hx
    have := har y hy
    unfold outside
    simp; omega
  have HC : Hid (∀ W, Below w.heap.size w W → W.cell? ⟨w.heap.size, 0, none⟩ = some (.pointer (some ⟨B, 0, none⟩)) → Calls Tryz.prog 97 #[.slice A ar.length ac, .func (.func 99) #[] #[.pointer (some ⟨w.heap.size, 0, none⟩)]] W (BRet false W)) :=
    Lib.hid fun W hb ha => by
      have h5 := containsI_any 99 (.pointer (some ⟨w.heap.size, 0, none⟩)) _ W (do1I_at B w.heap.size G.length gc GA W ha ((hb.cell (World.block_lt_of_cell? _ _ q2)).trans q2)) (ar.map fun (x : Nat) => (x : Int)) A ac (by rw [List.length_map]; exact hal) (by have := hA.below hb; simpa [iCells, nCells, Function.comp_def] using this)
      rw [hout, List.length_map] at h5
      exact h5
  have HFF := Lib.hid HF
  have HI := Lib.hid h
  have nB : ¬ B = w.heap.size := by omega
  clear hA HF h hout har
  go_enter_defers Tryz.func63, Tryz.ntmps63
  go_wp2_with (first | (go_at_call 22; refine (HM.out _ (cell_al (cell_al (cell_al q0)))).mono ?_; rintro e w1 ⟨rfl, hw1⟩; obtain ⟨k0, k1, k2, hsz, hb1⟩ := three w (.cells #[.pointer (some ⟨B, 0, none⟩)] 25) (.cells #[.int .i64 0] 3) (.cells #[.int .i64 0] 26); rw [hw1] at k0 k1 k2 hsz hb1; have HW1 := Lib.hid hw1; clear hw1; clear q1 q3 q4 q5 q6; replace q0 := (hb1.cell (World.block_lt_of_cell? _ _ q0)).trans q0; replace q2 := (hb1.cell (World.block_lt_of_cell? _ _ q2)).trans q2; have c0 := (box1 k0).1; have K0 := Lib.hid k0; have K1 := Lib.hid k1; have K2 := Lib.hid k2; have HB1 := Lib.hid hb1; clear k0 k1 k2 hb1; have nB1 : ¬ B = w1.heap.size := (by omega); have lB1 : B < w1.heap.size := (by omega)) | (go_at_call 97; refine (HC.out _ HB1.out c0).mono ?_; rintro e wc ⟨rfl, rfl⟩))
  refine (HFF.out _ (HB1.out.alloc (by omega) _)).mono ?_
  rintro e w3 ⟨x3, rfl, hI, hF⟩
  have hbA : Below w1.heap.size w1 (w1.alloc (.cells #[.int .i64 (G.length : Nat)] 3)) := (Below.refl _ _).alloc (Nat.le_refl _) _
  have k1 := hF.box hbA K1.out (by omega) (own_past_all HI.out.h2 (by omega))
  have k2 := hF.box hbA K2.out (by omega) (own_past_all HI.out.h2 (by omega))
  have c1 := (box1 k1).1
  have f1 := (box1 k1).2
  have c2 := (box1 k2).1
  have f2 := (box1 k2).2
  have HI3 := Lib.hid (IsB.setBox (IsB.setBox hI HI.out (k := w.heap.size + 1) (j := 0) (u := (.int .i64 r)) (by omega) k1 (by decide)) HI.out (k := w.heap.size + 1 + 1) (j := 0) (u := .int .i64 0) (by omega) (box_far k2 (by omega)) (by decide))
  have HF3 := Lib.hid ((((Fr.of_below (HB1.out.alloc (by omega) (.cells #[.int .i64 (G.length : Nat)] 3))).trans hF).setBox (k := w.heap.size + 1) (j := 0) (u := (.int .i64 r)) (by omega)).setBox (k := w.heap.size + 1 + 1) (j := 0) (u := .int .i64 0) (by omega))
  have HK1 := Lib.hid (box_far (box1_set (u := (.int .i64 r)) k1) (by omega) : ((w3.setCell ⟨w.heap.size + 1, 0, none⟩ (.int .i64 r)).setCell ⟨w.heap.size + 1 + 1, 0, none⟩ (.int .i64 0)).heap[w.heap.size + 1]? = _)
  have HK2 := Lib.hid (box1_set (u := .int .i64 0) (box_far (k := w.heap.size + 1) (u := (.int .i64 r)) k2 (by omega)))
  clear hI hF k1 k2 hbA
  go_wp2
  generalize hw4 : (w3.setCell ⟨w.heap.size + 1, 0, none⟩ (.int .i64 r)).setCell ⟨w.heap.size + 1 + 1, 0, none⟩ (.int .i64 0) = w4 at *
  refine leaves_cons (f := 100) (args := #[.pointer (some ⟨w.heap.size, 0, none⟩), .pointer (some ⟨w.heap.size + 1 + 1 + 1, 0, none⟩), .pointer (some ⟨w.heap.size + 1, 0, none⟩), .pointer (some ⟨w.heap.size + 1 + 1, 0, none⟩)]) (by simp) (by simp [go_sem]) ?_
  refine (idleI _ _ _ _ _).mono ?_
  rintro e u' w'' ⟨rfl, rfl, rfl⟩
  have d1 := (box1 HK1.out).1
  have d2 := (box1 HK2.out).1
  simp [Leaves, settle, results, Tryz.results63, go_sem, d1, d2]
  exact ⟨x3, HI3.out, HF3.out⟩
set_option maxHeartbeats 4000000 in
set_option maxRecDepth 100000 in
theorem doW_ok (B p : Nat) (hp : 1 < p) (sl : List Slo) (G : List Gat) (xs : List Exi) (v1 v2 v3 : Value) (G' : List Gat) (ar : List Nat) (A : Option Addr) (ac : Nat) (har : ∀ x ∈ ar, x < G.length) (hal : ar.length ≤ 9223372036854775807) (F : FuncId) (caps : Array Value) (n : Nat) (cs : List Value) (w : World) (h : IsB B p sl G xs v1 v2 v3 w) (hA : Reads w A (nCells ar))
    (hrun : ∀ (args : Array Value) (W : World), (callFunc F args).run Tryz.prog W = .ok (.enter F args) W)
    (HF : ∀ W, Below w.heap.size w W → Calls Tryz.prog F (#[.iface 126 (.agg #[.pointer (some ⟨B, 0, none⟩)])] ++ caps) W fun e W' => ∃ vo v, e = .returned vo ∧ IsB B p sl G' xs v1 v v3 W' ∧ Fr B v2 v W W' ∧ W'.ownsRow W.heap.size 3 1 vo n cs) :
    Calls Tryz.prog 87 #[.pointer (some ⟨B, 0, none⟩), .slice A ar.length ac, .func (.func F) #[] caps] w fun e W' => ∃ vo v, e = .returned (.tuple #[vo, .int .i64 0]) ∧ IsB B p sl G' xs v1 v v3 W' ∧ Fr B v2 v w W' ∧ W'.ownsRow w.heap.size 3 1 vo n cs := by
  have hmf : ∀ (fn : Fn) (first cap : Array Value) (w : World), (Instr.makeFunc fn first cap).run Tryz.prog w = .ok (.func fn first cap) w := fun _ _ _ _ => rfl
  obtain ⟨GA, gc, rfl, _⟩ := own_reads h.h2
  obtain ⟨q0, q1, q2, q3, q4, q5, q6⟩ := box4 h.hb
  have hlt := h.lt
  have HM := Lib.hid (fun W q => made_any B p (by omega) W q)
  have hout : (ar.map fun (x : Nat) => (x : Int)).any (outside G.length) = false := by
    rw [List.any_eq_false]
    intro x hx
    obtain ⟨y, hy, rfl⟩ := List.mem_map.1 hx
    have := har y hy
    unfold outside
    simp; omega
  have HC : Hid (∀ W, Below w.heap.size w W → W.cell? ⟨w.heap.size, 0, none⟩ = some (.pointer (some ⟨B, 0, none⟩)) → Calls Tryz.prog 97 #[.slice A ar.length ac, .func (.func 101) #[] #[.pointer (some ⟨w.heap.size, 0, none⟩)]] W (BRet false W)) :=
    Lib.hid fun W hb ha => by
      have h5 := containsI_any 101 (.pointer (some ⟨w.heap.size, 0, none⟩)) _ W (do1W_at B w.heap.size G.length gc GA W ha ((hb.cell (World.block_lt_of_cell? _ _ q2)).trans q2)) (ar.map fun (x : Nat) => (x : Int)) A ac (by rw [List.length_map]; exact hal) (by have := hA.below hb; simpa [iCells, nCells, Function.comp_def] using this)
      rw [hout, List.length_map] at h5
      exact h5
  have HFF := Lib.hid HF
  have HI := Lib.hid h
  have nB : ¬ B = w.heap.size := by omega
  clear hA HF h hout har
  go_enter_defers Tryz.func87, Tryz.ntmps87
  go_wp2_with (first | (go_at_call 22; refine (HM.out _ (cell_al (cell_al (cell_al q0)))).mono ?_; rintro e w1 ⟨rfl, hw1⟩; obtain ⟨k0, k1, k2, hsz, hb1⟩ := three w (.cells #[.pointer (some ⟨B, 0, none⟩)] 25) (.cells #[.slice none 0 0] 38) (.cells #[.int .i64 0] 26); rw [hw1] at k0 k1 k2 hsz hb1; have HW1 := Lib.hid hw1; clear hw1; clear q1 q3 q4 q5 q6; replace q0 := (hb1.cell (World.block_lt_of_cell? _ _ q0)).trans q0; replace q2 := (hb1.cell (World.block_lt_of_cell? _ _ q2)).trans q2; have c0 := (box1 k0).1; have K0 := Lib.hid k0; have K1 := Lib.hid k1; have K2 := Lib.hid k2; have HB1 := Lib.hid hb1; clear k0 k1 k2 hb1; have nB1 : ¬ B = w1.heap.size := (by omega); have lB1 : B < w1.heap.size := (by omega)) | (go_at_call 97; refine (HC.out _ HB1.out c0).mono ?_; rintro e wc ⟨rfl, rfl⟩))
  refine (HFF.out _ (HB1.out.alloc (by omega) _)).mono ?_
  rintro e w3 ⟨vo, x3, rfl, hI, hF, hO⟩
  obtain ⟨RA, rc, rfl, _⟩ := own_reads hO
  have hbA : Below w1.heap.size w1 (w1.alloc (.cells #[.int .i64 (G.length : Nat)] 3)) := (Below.refl _ _).alloc (Nat.le_refl _) _
  have k1 := hF.box hbA K1.out (by omega) (own_past_all HI.out.h2 (by omega))
  have k2 := hF.box hbA K2.out (by omega) (own_past_all HI.out.h2 (by omega))
  have c1 := (box1 k1).1
  have f1 := (box1 k1).2
  have c2 := (box1 k2).1
  have f2 := (box1 k2).2
  have HI3 := Lib.hid (IsB.setBox (IsB.setBox hI HI.out (k := w.heap.size + 1) (j := 0) (u := (.slice RA n rc)) (by omega) k1 (by decide)) HI.out (k := w.heap.size + 1 + 1) (j := 0) (u := .int .i64 0) (by omega) (box_far k2 (by omega)) (by decide))
  have HF3 := Lib.hid ((((Fr.of_below (HB1.out.alloc (by omega) (.cells #[.int .i64 (G.length : Nat)] 3))).trans hF).setBox (k := w.heap.size + 1) (j := 0) (u := (.slice RA n rc)) (by omega)).setBox (k := w.heap.size + 1 + 1) (j := 0) (u := .int .i64 0) (by omega))
  have HK1 := Lib.hid (box_far (box1_set (u := (.slice RA n rc)) k1) (by omega) : ((w3.setCell ⟨w.heap.size + 1, 0, none⟩ (.slice RA n rc)).setCell ⟨w.heap.size + 1 + 1, 0, none⟩ (.int .i64 0)).heap[w.heap.size + 1]? = _)
  have HK2 := Lib.hid (box1_set (u := .int .i64 0) (box_far (k := w.heap.size + 1) (u := (.slice RA n rc)) k2 (by omega)))
  have HO3 := Lib.hid (own_lower (own_set (own_set hO (p := ⟨w.heap.size + 1, 0, none⟩) (by simp; omega) (.slice RA n rc)) (p := ⟨w.heap.size + 1 + 1, 0, none⟩) (by simp; omega) (.int .i64 0)) (by simp; omega : w.heap.size ≤ _))
  clear hO
  clear hI hF k1 k2 hbA
  go_wp2
  generalize hw4 : (w3.setCell ⟨w.heap.size + 1, 0, none⟩ (.slice RA n rc)).setCell ⟨w.heap.size + 1 + 1, 0, none⟩ (.int .i64 0) = w4 at *
  refine leaves_cons (f := 102) (args := #[.pointer (some ⟨w.heap.size, 0, none⟩), .pointer (some ⟨w.heap.size + 1 + 1 + 1, 0, none⟩), .pointer (some ⟨w.heap.size + 1, 0, none⟩), .pointer (some ⟨w.heap.size + 1 + 1, 0, none⟩)]) (by simp) (by simp [go_sem]) ?_
  refine (idleW _ _ _ _ _).mono ?_
  rintro e u' w'' ⟨rfl, rfl, rfl⟩
  have d1 := (box1 HK1.out).1
  have d2 := (box1 HK2.out).1
  simp [Leaves, settle, results, Tryz.results87, go_sem, d1, d2]
  exact ⟨x3, HI3.out, HF3.out, HO3.out⟩
end Go.Proofs.YtkcdlbclodjjhaaGreat

/- Contracts of Grow, Concat over words. (Printed by wip/tools/gen_words13.py.) -/
namespace Go.Proofs.YtkcdlbclodjjhaaGreat
open Go.RowKit

set_option maxRecDepth 100000 in
theorem grow_ok (n : Nat) (hn : 0 < n) (hl : n ≤ 65536) (w : World) : Calls Tryz.prog 103 #[.slice none 0 0, .int .i64 ((n : Nat) : Int)] w fun e W' => ∃ g c, e = .returned (.slice (some ⟨g, 0, none⟩) 0 c) ∧ W'.ownsRow w.heap.size 3 1 (.slice (some ⟨g, 0, none⟩) 0 c) 0 [] ∧ Below w.heap.size w W' := by
  obtain ⟨i0, hi, hzz⟩ := Option.map_eq_some_iff.1 infoInt
  simp only [Prod.mk.injEq] at hzz
  obtain ⟨hz0, hz1, hz2⟩ := hzz
  have happ := Lib.run_append_nil_zeros (P := Tryz.prog) w 38 3 38 3 i0 (.int .i64 0) .i64 .i64 Tryz.underlying38 Tryz.underlying3 hi hz0 n hn (by omega) (by omega) (by rw [hz2]; omega)
  have hge : n ≤ grownCap w n 0 3 := grownCap_ge w _ 0 _
  have hle : grownCap w n 0 3 ≤ maxLen := grownCap_le_maxLen w _ 0 _ (by unfold maxLen; omega)
  generalize grownCap w n 0 3 = c at *
  generalize hZ : (Builtin.zeroCells (Value.int .i64 0).cells n ++ Builtin.zeroCells (Value.int .i64 0).cells (c - n)) = Z at happ
  have hZs : Z.size = c := by rw [← hZ]; simp [size_zeroCells, Value.cells]; omega
  clear hZ
  have h1 : ¬ (n : Int) < 0 := by omega
  have h2 : 0 < (n : Int) := by omega
  go_enter Tryz.func103, Tryz.ntmps103
  go_wp2_with (at_builtin; refine Lib.wpList_append_run _ rfl _ _ _ _ rfl _ _ rfl rfl _ _ happ ?_)
  go_ret
  refine ⟨_, _, rfl, ⟨rfl, .inr ⟨w.heap.size, c, Z, rfl, Nat.le_refl _, ?_, Nat.zero_le _, hle, by simpa using hZs, by simp⟩⟩, (Below.refl _ _).drew.alloc (by simp) _⟩
  exact heap_alloc_new w.drew _
set_option maxHeartbeats 2000000 in
set_option maxRecDepth 100000 in
theorem concat_ok (vs ws : List Nat) (n m : Nat) (hnv : vs.length = n) (hmw : ws.length = m) (hn : 0 < n) (hm : 0 < m) (hn2 : n ≤ 16) (hm2 : m ≤ 16) (va wa : Addr) (vc wc g : Nat) (w : World) (hV : Reads w (some va) (nCells vs)) (hW : Reads w (some wa) (nCells ws))
    (q0 : w.cell? ⟨g, 0, none⟩ = some (.slice (some va) n vc)) (q1 : w.cell? ⟨g, 1, none⟩ = some (.slice (some wa) m wc)) :
    Calls Tryz.prog 88 #[.slice (some ⟨g, 0, none⟩) 2 2] w fun e W' => ∃ A c, e = .returned (.slice A (n + m) c) ∧ W'.ownsRow w.heap.size 3 1 (.slice A (n + m) c) (n + m) (nCells (vs ++ ws)) ∧ Below w.heap.size w W' := by
  have HV := Lib.hid hV; have HW := Lib.hid hW
  have HNV := Lib.hid hnv; have HNW := Lib.hid hmw
  have HG := fun W => grow_ok (n + m) (by omega) (by omega) W
  have HGG := Lib.hid HG
  have HLG := Lib.hid (World.block_lt_of_cell? _ _ q0 : g < w.heap.size)
  have HQ0 := Lib.hid q0; have HQ1 := Lib.hid q1
  clear hV hW hnv hmw HG
  go_enter Tryz.func88, Tryz.ntmps88
  go_wp2
  go_loopg [3, 11] 2 (fun c s' i' wr => ∃ k s : Nat, k ≤ 2 ∧ c = 2 - k ∧ s' = .int .i64 ((s : Nat) : Int) ∧ i' = .int .i64 k ∧ s = (if k = 0 then 0 else if k = 1 then n else n + m) ∧ w = wr)
  case atStart => exact ⟨0, 0, by omega, rfl, rfl, rfl, rfl, rfl⟩
  case round =>
    obtain ⟨k, s, hk, rfl, rfl, rfl, hs, rfl⟩ := hrel
    have hc : k = 0 ∨ k = 1 ∨ k = 2 := by omega
    rcases hc with rfl | rfl | rfl
    · obtain rfl : s = 0 := hs
      go_wp2
      go_roundg (2 - (0 + 1))
      case measure => omega
      case rel => exact ⟨1, n, by omega, rfl, by go_num, by go_num, rfl, rfl⟩
    · obtain rfl : s = n := hs
      have hz : ¬ ((s : Int) + (m : Int)) < 0 := by omega
      go_wp2
      go_roundg (2 - (1 + 1))
      case measure => omega
      case rel => exact ⟨2, s + m, by omega, rfl, by go_num, by go_num, rfl, rfl⟩
    · obtain rfl : s = n + m := hs
      go_wp2_with (go_at_call 103; refine (HGG.out _).mono ?_; rintro e w1 ⟨g1, c1, rfl, hO1, hb1⟩; have HO1 := Lib.hid hO1; have HB1 := Lib.hid hb1; clear hO1 hb1)
      go_loopg [6, 27] 2 (fun c o' i' wr => ∃ (k s : Nat) (l : List Nat) (vo : Value), k ≤ 2 ∧ c = 2 - k ∧ o' = vo ∧ i' = .int .i64 k ∧ s = (if k = 0 then 0 else if k = 1 then n else n + m) ∧ l = (if k = 0 then [] else if k = 1 then vs else vs ++ ws) ∧ wr.ownsRow w.heap.size 3 1 vo s (nCells l) ∧ Below w.heap.size w wr)
      case atStart => exact ⟨0, 0, [], _, by omega, rfl, rfl, rfl, rfl, rfl, HO1.out, HB1.out⟩
      case round =>
        obtain ⟨k, s, l, vo, hk, rfl, rfl, rfl, hs, hl, hO, hB⟩ := hrel
        clear q0 q1
        have HO := Lib.hid hO; have HB := Lib.hid hB
        have q0 := (hB.cell (p := ⟨g, 0, none⟩) HLG.out).trans HQ0.out
        have q1 := (hB.cell (p := ⟨g, 1, none⟩) HLG.out).trans HQ1.out
        clear hO hB
        have hc : k = 0 ∨ k = 1 ∨ k = 2 := by omega
        rcases hc with rfl | rfl | rfl
        · obtain rfl : s = 0 := hs
          obtain rfl : l = [] := hl
          go_wp2_with (at_builtin; refine app_slice w.heap.size rfl _ _ 38 3 _ 8 rfl Tryz.underlying38 infoInt rfl (by decide) _ 0 (nCells []) (nCells vs) rfl va n vc rfl (by unfold nCells; rw [List.length_map]; exact HNV.out) (reads_get (HV.out.below HB.out) (Below.refl _ _)) (one_nat _) HO.out (by have h5 := HB.out.size; omega) (by omega) ?_; intro v5 w5 hown5 hg5; have HO5 := Lib.hid hown5; have HB5 := Lib.hid (HB.out.grown hg5 HB.out.size (fun q hq => (HO.out.lt q hq).1)); clear hown5 hg5)
          go_roundg (2 - (0 + 1))
          case measure => omega
          case rel => exact ⟨1, n, vs, _, by omega, rfl, rfl, by go_num, rfl, rfl, by have := HO5.out; simpa [nCells] using this, HB5.out⟩
        · obtain rfl : s = n := hs
          obtain rfl : l = vs := hl
          go_wp2_with (at_builtin; refine app_slice w.heap.size rfl _ _ 38 3 _ 8 rfl Tryz.underlying38 infoInt rfl (by decide) _ s (nCells l) (nCells ws) rfl wa m wc rfl (by unfold nCells; rw [List.length_map]; exact HNW.out) (reads_get (HW.out.below HB.out) (Below.refl _ _)) (one_nat _) HO.out (by have h5 := HB.out.size; omega) (by omega) ?_; intro v5 w5 hown5 hg5; have HO5 := Lib.hid hown5; have HB5 := Lib.hid (HB.out.grown hg5 HB.out.size (fun q hq => (HO.out.lt q hq).1)); clear hown5 hg5)
          go_roundg (2 - (1 + 1))
          case measure => omega
          case rel => exact ⟨2, s + m, l ++ ws, _, by omega, rfl, rfl, by go_num, rfl, rfl, by have := HO5.out; simpa [nCells] using this, HB5.out⟩
        · obtain rfl : s = n + m := hs
          obtain rfl : l = vs ++ ws := hl
          obtain ⟨A, c, rfl, _⟩ := own_reads HO.out
          go_wp2
          go_ret
          exact ⟨A, c, rfl, HO.out, HB.out⟩
theorem two_cells (w : World) (x y : Value) (t : TypeId) : (w.alloc (.cells #[x, y] t)).cell? ⟨w.heap.size, 0, none⟩ = some x ∧ (w.alloc (.cells #[x, y] t)).cell? ⟨w.heap.size, 1, none⟩ = some y := by
  have h := heap_alloc_new w (.cells #[x, y] t)
  unfold World.cell?
  rw [h]
  exact ⟨rfl, rfl⟩
set_option maxRecDepth 100000 in
theorem badI (A : Option Addr) (n c : Nat) (h1 : 1 ≤ n) (h2 : n ≤ 16) (w : World) : Calls Tryz.prog 92 #[.slice A n c] w fun e w' => e = .returned (.bool false) ∧ w = w' := by
  have i1 : ¬ (n : Int) < 1 := by omega
  have i2 : ¬ (16 : Int) < (n : Int) := by omega
  have i3 : ¬ n < 1 := by omega
  go_enter Tryz.func92, Tryz.ntmps92
  go_wp2
  go_ret
  exact ⟨ret_bl (by simp), rfl⟩
set_option maxHeartbeats 1000000 in
set_option maxRecDepth 100000 in
theorem innerI (B p : Nat) (sl : List Slo) (xs : List Exi) (v1 v2 v3 : Value) (G' : List Gat) (n : Nat) (va wa : Option Addr) (vc wc a1 a2 a3 : Nat) (F : FuncId) (caps : Array Value) (r : Int) (w : World)
    (hrun : ∀ (args : Array Value) (W : World), (callFunc F args).run Tryz.prog W = .ok (.enter F args) W)
    (q1 : w.cell? ⟨a1, 0, none⟩ = some (.slice va n vc)) (q2 : w.cell? ⟨a2, 0, none⟩ = some (.slice wa n wc)) (q3 : w.cell? ⟨a3, 0, none⟩ = some (.func (.func F) #[] caps))
    (HF : Calls Tryz.prog F (#[.iface 126 (.agg #[.pointer (some ⟨B, 0, none⟩)])] ++ caps) w fun e W' => ∃ v, e = .returned (.int .i64 r) ∧ IsB B p sl G' xs v1 v v3 W' ∧ Fr B v2 v w W') :
    Calls Tryz.prog 93 #[.iface 126 (.agg #[.pointer (some ⟨B, 0, none⟩)]), .pointer (some ⟨a1, 0, none⟩), .pointer (some ⟨a2, 0, none⟩), .pointer (some ⟨a3, 0, none⟩)] w fun e W' => ∃ v, e = .returned (.int .i64 r) ∧ IsB B p sl G' xs v1 v v3 W' ∧ Fr B v2 v w W' := by
  have HFF := Lib.hid HF
  clear HF
  go_enter Tryz.func93, Tryz.ntmps93
  go_wp2
  refine HFF.out.mono ?_
  rintro e w1 ⟨x2, rfl, hI, hF⟩
  have HI := Lib.hid hI; have HF := Lib.hid hF; clear hI hF
  go_wp2
  go_ret
  exact ⟨x2, rfl, HI.out, HF.out⟩
set_option maxHeartbeats 4000000 in
set_option maxRecDepth 100000 in
theorem wordsI_ok (B p : Nat) (hp : 1 < p) (sl : List Slo) (G : List Gat) (xs : List Exi) (v1 v2 v3 : Value) (G' : List Gat) (vs ws : List Nat) (n : Nat) (hnv : vs.length = n) (hnw : ws.length = n) (h1 : 1 ≤ n) (h2 : n ≤ 16) (hvs : ∀ x ∈ vs, x < G.length) (hws : ∀ x ∈ ws, x < G.length) (va wa : Addr) (vc wc : Nat) (F : FuncId) (caps : Array Value) (r : Int) (w : World) (h : IsB B p sl G xs v1 v2 v3 w)
    (hV : Reads w (some va) (nCells vs)) (hW : Reads w (some wa) (nCells ws))
    (hrun : ∀ (args : Array Value) (W : World), (callFunc F args).run Tryz.prog W = .ok (.enter F args) W)
    (HF : ∀ W, Below w.heap.size w W → Calls Tryz.prog F (#[.iface 126 (.agg #[.pointer (some ⟨B, 0, none⟩)])] ++ caps) W fun e W' => ∃ v, e = .returned (.int .i64 r) ∧ IsB B p sl G' xs v1 v v3 W' ∧ Fr B v2 v W W') :
    Calls Tryz.prog 53 #[.pointer (some ⟨B, 0, none⟩), .slice (some va) n vc, .slice (some wa) n wc, .func (.func F) #[] caps] w fun e W' => ∃ v, e = .returned (.tuple #[.int .i64 r, .int .i64 0]) ∧ IsB B p sl G' xs v1 v v3 W' ∧ Fr B v2 v w W' := by
  have hmf : ∀ (fn : Fn) (first cap : Array Value) (w : World), (Instr.makeFunc fn first cap).run Tryz.prog w = .ok (.func fn first cap) w := fun _ _ _ _ => rfl
  have q0 := (box4 h.hb).1
  have hlt := h.lt
  have HM := Lib.hid (fun W q => made_any B p (by omega) W q)
  have HBD := Lib.hid (fun (A : Addr) (c : Nat) W => badI (some A) n c h1 h2 W)
  have HC : Hid (∀ W g, Below w.heap.size w W → W.cell? ⟨g, 0, none⟩ = some (.slice (some va) n vc) → W.cell? ⟨g, 1, none⟩ = some (.slice (some wa) n wc) → Calls Tryz.prog 88 #[.slice (some ⟨g, 0, none⟩) 2 2] W fun e W' => ∃ A c, e = .returned (.slice A (n + n) c) ∧ W'.ownsRow W.heap.size 3 1 (.slice A (n + n) c) (n + n) (nCells (vs ++ ws)) ∧ Below W.heap.size W W') :=
    Lib.hid fun W g hb c0 c1 => concat_ok vs ws n n hnv hnw h1 h1 h2 h2 va wa vc wc g W (hV.below hb) (hW.below hb) c0 c1
  have HD : Hid (∀ W A c, Below w.heap.size w W → Reads W A (nCells (vs ++ ws)) → W.cell? ⟨w.heap.size, 0, none⟩ = some (.slice (some va) n vc) → W.cell? ⟨w.heap.size + 1, 0, none⟩ = some (.slice (some wa) n wc) → W.cell? ⟨w.heap.size + 1 + 1, 0, none⟩ = some (.func (.func F) #[] caps) →
      Calls Tryz.prog 63 #[.pointer (some ⟨B, 0, none⟩), .slice A (n + n) c, .func (.func 93) #[] #[.pointer (some ⟨w.heap.size, 0, none⟩), .pointer (some ⟨w.heap.size + 1, 0, none⟩), .pointer (some ⟨w.heap.size + 1 + 1, 0, none⟩)]] W fun e W' => ∃ v, e = .returned (.tuple #[.int .i64 r, .int .i64 0]) ∧ IsB B p sl G' xs v1 v v3 W' ∧ Fr B v2 v w W') :=
    Lib.hid fun W A c hb hA c0 c1 c2 => by
      have h0 := doI_ok B p hp sl G xs v1 v2 v3 G' (vs ++ ws) A c (fun x hx => by rcases List.mem_append.1 hx with e | e; exact hvs x e; exact hws x e) (by rw [List.length_append]; omega) 93 #[.pointer (some ⟨w.heap.size, 0, none⟩), .pointer (some ⟨w.heap.size + 1, 0, none⟩), .pointer (some ⟨w.heap.size + 1 + 1, 0, none⟩)] r W (h.below hb) hA (fun _ _ => by kernel_rfl) (fun W2 hb2 => innerI B p sl xs v1 v2 v3 G' n (some va) (some wa) vc wc _ _ _ F caps r W2 hrun ((hb2.cell (World.block_lt_of_cell? _ _ c0)).trans c0) ((hb2.cell (World.block_lt_of_cell? _ _ c1)).trans c1) ((hb2.cell (World.block_lt_of_cell? _ _ c2)).trans c2) (HF W2 (hb.trans (hb2.mono hb.size))))
      rw [List.length_append, hnv, hnw] at h0
      refine h0.mono fun _ _ he => ?_
      obtain ⟨v, e1, h3, h4⟩ := he
      exact ⟨v, e1, h3, (Fr.of_below hb).trans h4⟩
  clear hV hW hvs hws hnv hnw HF h
  go_enter Tryz.func53, Tryz.ntmps53
  go_wp2_with (first | (go_at_call 22; refine (HM.out _ (cell_al (cell_al (cell_al q0)))).mono ?_; rintro e w1 ⟨rfl, hw1⟩; obtain ⟨k0, k1, k2, hsz, hb1⟩ := three w (.cells #[.slice (some va) n vc] 38) (.cells #[.slice (some wa) n wc] 38) (.cells #[.func (.func F) #[] caps] 92); rw [hw1] at k0 k1 k2 hsz hb1; have HW1 := Lib.hid hw1; clear hw1 q0; have c0 := (box1 k0).1; have c1 := (box1 k1).1; have c2 := (box1 k2).1; have HB1 := Lib.hid hb1; clear k0 k1 k2 hb1; have l0 : w.heap.size < w1.heap.size := (by omega); have l1 : w.heap.size + 1 < w1.heap.size := (by omega); have l2 : w.heap.size + 1 + 1 < w1.heap.size := (by omega)) | (go_at_call 92; refine (HBD.out _ _ _).mono ?_; rintro e wc ⟨rfl, rfl⟩))
  go_wp2_with (first | (go_at_call 88; refine (HC.out _ _ (HB1.out.alloc HB1.out.size _) (by rw [← hsz]; exact (two_cells _ _ _ _).1) (by rw [← hsz]; exact (two_cells _ _ _ _).2)).mono ?_; rintro e w2 ⟨A, cc, rfl, hO2, hb2⟩; have hb12 := ((Below.refl w1.heap.size w1).alloc (Nat.le_refl _) _).trans (hb2.mono (by simp)); replace c0 := (hb12.cell (World.block_lt_of_cell? _ _ c0)).trans c0; replace c1 := (hb12.cell (World.block_lt_of_cell? _ _ c1)).trans c1; replace c2 := (hb12.cell (World.block_lt_of_cell? _ _ c2)).trans c2; have HB2 := Lib.hid (HB1.out.trans (hb12.mono HB1.out.size)); have HR2 := Lib.hid (own_reads_at hO2); clear hO2 hb2 hb12) | (go_at_call 63; refine (HD.out _ _ _ HB2.out HR2.out c0 c1 c2).mono ?_; rintro e w3 ⟨x2, rfl, hI, hF⟩; have HI := Lib.hid hI; have HF := Lib.hid hF; clear hI hF))
  refine bodyPost_ret (v := .tuple #[.int .i64 r, .int .i64 0]) ?_ rfl ⟨x2, rfl, HI.out, HF.out⟩
  simp [results, Tryz.results53, go_sem]
set_option maxRecDepth 100000 in
theorem badW (A : Option Addr) (n c : Nat) (h1 : 1 ≤ n) (h2 : n ≤ 16) (w : World) : Calls Tryz.prog 86 #[.slice A n c] w fun e w' => e = .returned (.bool false) ∧ w = w' := by
  have i1 : ¬ (n : Int) < 1 := by omega
  have i2 : ¬ (16 : Int) < (n : Int) := by omega
  have i3 : ¬ n < 1 := by omega
  go_enter Tryz.func86, Tryz.ntmps86
  go_wp2
  go_ret
  exact ⟨ret_bl (by simp), rfl⟩
set_option maxHeartbeats 1000000 in
set_option maxRecDepth 100000 in
theorem innerW (B p : Nat) (sl : List Slo) (xs : List Exi) (v1 v2 v3 : Value) (G' : List Gat) (n : Nat) (va wa : Option Addr) (vc wc a1 a2 a3 : Nat) (F : FuncId) (caps : Array Value) (k : Nat) (cs : List Value) (w : World)
    (hrun : ∀ (args : Array Value) (W : World), (callFunc F args).run Tryz.prog W = .ok (.enter F args) W)
    (q1 : w.cell? ⟨a1, 0, none⟩ = some (.slice va n vc)) (q2 : w.cell? ⟨a2, 0, none⟩ = some (.slice wa n wc)) (q3 : w.cell? ⟨a3, 0, none⟩ = some (.func (.func F) #[] caps))
    (HF : Calls Tryz.prog F (#[.iface 126 (.agg #[.pointer (some ⟨B, 0, none⟩)])] ++ caps) w fun e W' => ∃ vo v, e = .returned vo ∧ IsB B p sl G' xs v1 v v3 W' ∧ Fr B v2 v w W' ∧ W'.ownsRow w.heap.size 3 1 vo k cs) :
    Calls Tryz.prog 89 #[.iface 126 (.agg #[.pointer (some ⟨B, 0, none⟩)]), .pointer (some ⟨a1, 0, none⟩), .pointer (some ⟨a2, 0, none⟩), .pointer (some ⟨a3, 0, none⟩)] w fun e W' => ∃ vo v, e = .returned vo ∧ IsB B p sl G' xs v1 v v3 W' ∧ Fr B v2 v w W' ∧ W'.ownsRow w.heap.size 3 1 vo k cs := by
  have HFF := Lib.hid HF
  clear HF
  go_enter Tryz.func89, Tryz.ntmps89
  go_wp2
  refine HFF.out.mono ?_
  rintro e w1 ⟨vo, x2, rfl, hI, hF, hO⟩
  have HI := Lib.hid hI; have HF := Lib.hid hF; have HO := Lib.hid hO; clear hI hF hO
  go_wp2
  go_ret
  exact ⟨vo, x2, rfl, HI.out, HF.out, HO.out⟩
set_option maxHeartbeats 4000000 in
set_option maxRecDepth 100000 in
theorem wordsW_ok (B p : Nat) (hp : 1 < p) (sl : List Slo) (G : List Gat) (xs : List Exi) (v1 v2 v3 : Value) (G' : List Gat) (vs ws : List Nat) (n : Nat) (hnv : vs.length = n) (hnw : ws.length = n) (h1 : 1 ≤ n) (h2 : n ≤ 16) (hvs : ∀ x ∈ vs, x < G.length) (hws : ∀ x ∈ ws, x < G.length) (va wa : Addr) (vc wc : Nat) (F : FuncId) (caps : Array Value) (k : Nat) (cs : List Value) (w : World) (h : IsB B p sl G xs v1 v2 v3 w)
    (hV : Reads w (some va) (nCells vs)) (hW : Reads w (some wa) (nCells ws))
    (hrun : ∀ (args : Array Value) (W : World), (callFunc F args).run Tryz.prog W = .ok (.enter F args) W)
    (HF : ∀ W, Below w.heap.size w W → Calls Tryz.prog F (#[.iface 126 (.agg #[.pointer (some ⟨B, 0, none⟩)])] ++ caps) W fun e W' => ∃ vo v, e = .returned vo ∧ IsB B p sl G' xs v1 v v3 W' ∧ Fr B v2 v W W' ∧ W'.ownsRow W.heap.size 3 1 vo k cs) :
    Calls Tryz.prog 46 #[.pointer (some ⟨B, 0, none⟩), .slice (some va) n vc, .slice (some wa) n wc, .func (.func F) #[] caps] w fun e W' => ∃ vo v, e = .returned (.tuple #[vo, .int .i64 0]) ∧ IsB B p sl G' xs v1 v v3 W' ∧ Fr B v2 v w W' ∧ W'.ownsRow w.heap.size 3 1 vo k cs := by
  have hmf : ∀ (fn : Fn) (first cap : Array Value) (w : World), (Instr.makeFunc fn first cap).run Tryz.prog w = .ok (.func fn first cap) w := fun _ _ _ _ => rfl
  have q0 := (box4 h.hb).1
  have hlt := h.lt
  have HM := Lib.hid (fun W q => made_any B p (by omega) W q)
  have HBD := Lib.hid (fun (A : Addr) (c : Nat) W => badW (some A) n c h1 h2 W)
  have HC : Hid (∀ W g, Below w.heap.size w W → W.cell? ⟨g, 0, none⟩ = some (.slice (some va) n vc) → W.cell? ⟨g, 1, none⟩ = some (.slice (some wa) n wc) → Calls Tryz.prog 88 #[.slice (some ⟨g, 0, none⟩) 2 2] W fun e W' => ∃ A c, e = .returned (.slice A (n + n) c) ∧ W'.ownsRow W.heap.size 3 1 (.slice A (n + n) c) (n + n) (nCells (vs ++ ws)) ∧ Below W.heap.size W W') :=
    Lib.hid fun W g hb c0 c1 => concat_ok vs ws n n hnv hnw h1 h1 h2 h2 va wa vc wc g W (hV.below hb) (hW.below hb) c0 c1
  have HD : Hid (∀ W A c, Below w.heap.size w W → Reads W A (nCells (vs ++ ws)) → W.cell? ⟨w.heap.size, 0, none⟩ = some (.slice (some va) n vc) → W.cell? ⟨w.heap.size + 1, 0, none⟩ = some (.slice (some wa) n wc) → W.cell? ⟨w.heap.size + 1 + 1, 0, none⟩ = some (.func (.func F) #[] caps) →
      Calls Tryz.prog 87 #[.pointer (some ⟨B, 0, none⟩), .slice A (n + n) c, .func (.func 89) #[] #[.pointer (some ⟨w.heap.size, 0, none⟩), .pointer (some ⟨w.heap.size + 1, 0, none⟩), .pointer (some ⟨w.heap.size + 1 + 1, 0, none⟩)]] W fun e W' => ∃ vo v, e = .returned (.tuple #[vo, .int .i64 0]) ∧ IsB B p sl G' xs v1 v v3 W' ∧ Fr B v2 v w W' ∧ W'.ownsRow w.heap.size 3 1 vo k cs) :=
    Lib.hid fun W A c hb hA c0 c1 c2 => by
      have h0 := doW_ok B p hp sl G xs v1 v2 v3 G' (vs ++ ws) A c (fun x hx => by rcases List.mem_append.1 hx with e | e; exact hvs x e; exact hws x e) (by rw [List.length_append]; omega) 89 #[.pointer (some ⟨w.heap.size, 0, none⟩), .pointer (some ⟨w.heap.size + 1, 0, none⟩), .pointer (some ⟨w.heap.size + 1 + 1, 0, none⟩)] k cs W (h.below hb) hA (fun _ _ => by kernel_rfl) (fun W2 hb2 => innerW B p sl xs v1 v2 v3 G' n (some va) (some wa) vc wc _ _ _ F caps k cs W2 hrun ((hb2.cell (World.block_lt_of_cell? _ _ c0)).trans c0) ((hb2.cell (World.block_lt_of_cell? _ _ c1)).trans c1) ((hb2.cell (World.block_lt_of_cell? _ _ c2)).trans c2) (HF W2 (hb.trans (hb2.mono hb.size))))
      rw [List.length_append, hnv, hnw] at h0
      refine h0.mono fun _ _ he => ?_
      obtain ⟨vo, v, e1, h3, h4, h5⟩ := he
      exact ⟨vo, v, e1, h3, (Fr.of_below hb).trans h4, own_lower h5 hb.size⟩
  clear hV hW hvs hws hnv hnw HF h
  go_enter Tryz.func46, Tryz.ntmps46
  go_wp2_with (first | (go_at_call 22; refine (HM.out _ (cell_al (cell_al (cell_al q0)))).mono ?_; rintro e w1 ⟨rfl, hw1⟩; obtain ⟨k0, k1, k2, hsz, hb1⟩ := three w (.cells #[.slice (some va) n vc] 38) (.cells #[.slice (some wa) n wc] 38) (.cells #[.func (.func F) #[] caps] 89); rw [hw1] at k0 k1 k2 hsz hb1; have HW1 := Lib.hid hw1; clear hw1 q0; have c0 := (box1 k0).1; have c1 := (box1 k1).1; have c2 := (box1 k2).1; have HB1 := Lib.hid hb1; clear k0 k1 k2 hb1; have l0 : w.heap.size < w1.heap.size := (by omega); have l1 : w.heap.size + 1 < w1.heap.size := (by omega); have l2 : w.heap.size + 1 + 1 < w1.heap.size := (by omega)) | (go_at_call 86; refine (HBD.out _ _ _).mono ?_; rintro e wc ⟨rfl, rfl⟩))
  go_wp2_with (first | (go_at_call 88; refine (HC.out _ _ (HB1.out.alloc HB1.out.size _) (by rw [← hsz]; exact (two_cells _ _ _ _).1) (by rw [← hsz]; exact (two_cells _ _ _ _).2)).mono ?_; rintro e w2 ⟨A, cc, rfl, hO2, hb2⟩; have hb12 := ((Below.refl w1.heap.size w1).alloc (Nat.le_refl _) _).trans (hb2.mono (by simp)); replace c0 := (hb12.cell (World.block_lt_of_cell? _ _ c0)).trans c0; replace c1 := (hb12.cell (World.block_lt_of_cell? _ _ c1)).trans c1; replace c2 := (hb12.cell (World.block_lt_of_cell? _ _ c2)).trans c2; have HB2 := Lib.hid (HB1.out.trans (hb12.mono HB1.out.size)); have HR2 := Lib.hid (own_reads_at hO2); clear hO2 hb2 hb12) | (go_at_call 87; refine (HD.out _ _ _ HB2.out HR2.out c0 c1 c2).mono ?_; rintro e w3 ⟨vo, x2, rfl, hI, hF, hO⟩; have HI := Lib.hid hI; have HF := Lib.hid hF; have HO := Lib.hid hO; clear hI hF hO))
  refine bodyPost_ret (v := .tuple #[vo, .int .i64 0]) ?_ rfl ⟨vo, x2, rfl, HI.out, HF.out, HO.out⟩
  simp [results, Tryz.results46, go_sem]
end Go.Proofs.YtkcdlbclodjjhaaGreat
