/- Contracts of do over a board, where there is room. (Printed by wip/tools/gen_do.py.) -/
import Derived.Test.YtkcdlbclodjjhaaWl
import Derived.Recover
namespace Go.Proofs.Ytkcdlbclodjjhaa
open Go.RowKit

theorem wpS_seq_gen {P : Program} {x y : Code} {Q : Exit → Act → List Frame → World → Prop} {a : Act} {cs : List Frame} {w : World} (h : ∀ Q' : Exit → Act → List Frame → World → Prop, (∀ a cs w, y.wpS P Q a cs w → Q' .normal a cs w) → x.wpS P Q' a cs w) : (Code.seq x y).wpS P Q a cs w :=
  wpS_seq (h _ fun _ _ _ h => h)
theorem three (w : World) (o1 o2 o3 : Obj) : (((w.alloc o1).alloc o2).alloc o3).heap[w.heap.size]? = some o1 ∧ (((w.alloc o1).alloc o2).alloc o3).heap[w.heap.size + 1]? = some o2 ∧ (((w.alloc o1).alloc o2).alloc o3).heap[w.heap.size + 1 + 1]? = some o3 ∧ (((w.alloc o1).alloc o2).alloc o3).heap.size = w.heap.size + 1 + 1 + 1 ∧ Below w.heap.size w (((w.alloc o1).alloc o2).alloc o3) := by
  refine ⟨?_, ?_, ?_, by simp, ((((Below.refl _ _).alloc (Nat.le_refl _) o1).alloc (by simp) o2).alloc (by simp; omega) o3)⟩
  · rw [Below.heap_alloc _ _ _ (by simp; omega), Below.heap_alloc _ _ _ (by simp)]; exact heap_alloc_new w o1
  · rw [Below.heap_alloc _ _ _ (by simp)]; have := heap_alloc_new (w.alloc o1) o2; simpa using this
  · have := heap_alloc_new ((w.alloc o1).alloc o2) o3; simpa using this
theorem Fr.box {B : Nat} {v v' : Value} {w1 W2 w3 : World} (hF : Fr B v v' W2 w3) (hb : Below w1.heap.size w1 W2) {k : Nat} {o : Obj} (hk : w1.heap[k]? = some o) (hB : k ≠ B) (hn : some k ≠ v.ownBlock) : w3.heap[k]? = some o := by
  have hlt := (Array.getElem?_eq_some_iff.1 hk).1
  exact (hF.block k (Nat.lt_of_lt_of_le hlt hb.size) hB hn).trans ((hb.block k hlt).trans hk)
theorem grown_box (W : World) (k j : Nat) (u : Value) : W.grownBy (W.setCell ⟨k, j, none⟩ u) (some k) :=
  ⟨rfl, rfl, rfl, by simp [World.setCell], fun i _ hne => Below.heap_setCell _ _ _ _ (by simpa using fun e => hne (by rw [e]))⟩
theorem IsB.setBox {B p : Nat} {sl : List Slo} {G G0 : List Gat} {xs : List Exi} {v1 v v2 v3 : Value} {w W : World} (h : IsB B p sl G xs v1 v v3 W) (h0 : IsB B p sl G0 xs v1 v2 v3 w) {k j : Nat} {u : Value} {cs : Array Value} {t : TypeId} {fr : Nat × Nat} (hk : w.heap.size ≤ k) (hbx : W.heap[k]? = some (.cells cs t fr)) (ht : t ≠ 33) : IsB B p sl G xs v1 v v3 (W.setCell ⟨k, j, none⟩ u) := by
  have hg := grown_box W k j u
  have far : ∀ {e : TypeId} {s : Nat} {x : Value} {m : Nat} {ds : List Value}, w.ownsRow (B + 1) e s x m ds → x.ownBlock = none ∨ x.ownBlock ≠ some k := fun {e s x m ds} hx => by
    cases e1 : x.ownBlock with
    | none => exact .inl rfl
    | some q => exact .inr fun e2 => by have h1 := (hx.lt q e1).2; injection e2 with e2; omega
  refine ⟨h.h1.kept hg (far h0.h1), h.h2.kept hg ?_, h.h3.kept hg (far h0.h3), fun x hx => ⟨(h.hx x hx).1.kept hg (far (h0.hx x hx).1), (h.hx x hx).2.kept hg (far (h0.hx x hx).2)⟩, (hg.block _ h.lt (by have := h0.lt; simp; omega)).trans h.hb, h.hk⟩
  rcases h.h2.2 with ⟨rfl, _⟩ | ⟨g, cap, cur, rfl, _, hgg, _⟩
  · exact .inl rfl
  · refine .inr fun e2 => ?_
    have e3 : g = k := by simpa [Value.ownBlock] using e2
    subst e3
    rw [hgg] at hbx
    injection hbx with hbx
    injection hbx with _ hbx _
    exact ht hbx.symm
theorem Fr.setBox {B : Nat} {v v' : Value} {w W : World} (h : Fr B v v' w W) {k j : Nat} {u : Value} (hk : w.heap.size ≤ k) : Fr B v v' w (W.setCell ⟨k, j, none⟩ u) :=
  ⟨h.os, h.tape, h.output, by simpa [World.setCell] using h.size, fun i hi hB hn => by rw [Below.heap_setCell _ _ _ _ (by simp; omega)]; exact h.block i hi hB hn, h.own⟩
theorem box1 {W : World} {b : Nat} {v0 : Value} {t : TypeId} (h : W.heap[b]? = some (.cells #[v0] t (0, 0))) : W.cell? ⟨b, 0, none⟩ = some v0 ∧ W.frozen? ⟨b, 0, none⟩ = false := by
  simp [World.cell?, World.frozen?, h]
theorem box1_set {W : World} {b : Nat} {v0 u : Value} {t : TypeId} (h : W.heap[b]? = some (.cells #[v0] t (0, 0))) : (W.setCell ⟨b, 0, none⟩ u).heap[b]? = some (.cells #[u] t (0, 0)) := by
  simp [World.setCell, Array.getElem?_modify, h]
theorem box_far {W : World} {b k : Nat} {o : Obj} {u : Value} (h : W.heap[b]? = some o) (hne : b ≠ k) : (W.setCell ⟨k, 0, none⟩ u).heap[b]? = some o := by
  rw [Below.heap_setCell _ _ _ _ (by simpa using hne)]; exact h
theorem own_past_all {w : World} {base n : Nat} {e : TypeId} {s : Nat} {v : Value} {cs : List Value} (h : w.ownsRow base e s v n cs) {k : Nat} (hk : w.heap.size ≤ k) : some k ≠ v.ownBlock := fun e => by
  have := (h.lt k e.symm).2
  omega
theorem as_nil (w : World) : (Instr.typeAssert .nilIface 20 23 true).run Try.prog w = .ok (.tuple #[.int .i64 0, .bool false]) w := by kernel_rfl
theorem as_err (k : Int) (w : World) : (Instr.typeAssert (.iface 23 (.int .i64 k)) 20 23 true).run Try.prog w = .ok (.tuple #[.int .i64 k, .bool true]) w := by kernel_rfl
set_option maxRecDepth 100000 in
theorem do1I_at (B a n gc : Nat) (GA : Option Addr) (W : World) (ha : W.cell? ⟨a, 0, none⟩ = some (.pointer (some ⟨B, 0, none⟩))) (hb : W.cell? ⟨B, 2, none⟩ = some (.slice GA n gc)) : SaysI 85 (.pointer (some ⟨a, 0, none⟩)) W (outside n) := by
  refine ⟨fun _ _ => by kernel_rfl, fun c => ?_⟩
  by_cases h : c < 0
  · go_enter Try.func85, Try.ntmps85
    go_wp2
    go_ret
    exact ⟨ret_bl (by simp [outside, h]), rfl⟩
  · have h' : 0 ≤ c := by omega
    go_enter Try.func85, Try.ntmps85
    go_wp2
    go_ret
    exact ⟨ret_bl (by simp [outside]; omega), rfl⟩
set_option maxRecDepth 100000 in
theorem idleI (p1 p2 p3 p4 : Value) (w : World) :
    CallsD Try.prog 86 #[p1, p2, p3, p4] .returning w fun e u' w' => e = .returned (.tuple #[]) ∧ u' = .returning ∧ w' = w := by
  refine callsD_of_wpS Try.func86 rfl fun c₀ cs hu => ?_
  refine wpS_seq_gen fun Q' hQ' => ?_
  apply wpS_region
  simp [wpOpsS, go_sem, recoverD, hu, Try.ntmps86, as_nil]
  refine hQ' _ _ _ ?_
  clear hQ' Q'
  refine wpS_seq_gen fun Q' hQ' => ?_
  apply wpS_region
  simp [wpOpsS, go_sem]
  refine hQ' _ _ _ ?_
  clear hQ' Q'
  refine wpS_cond (t := false) (by simp [Act.eval]) ?_
  simp only [Bool.false_eq_true, if_false]
  refine wpS_of_wp (wp_skip ?_)
  cases c₀
  simp_all [bodyPostS, results, Try.results86]
set_option maxRecDepth 100000 in
theorem do1W_at (B a n gc : Nat) (GA : Option Addr) (W : World) (ha : W.cell? ⟨a, 0, none⟩ = some (.pointer (some ⟨B, 0, none⟩))) (hb : W.cell? ⟨B, 2, none⟩ = some (.slice GA n gc)) : SaysI 89 (.pointer (some ⟨a, 0, none⟩)) W (outside n) := by
  refine ⟨fun _ _ => by kernel_rfl, fun c => ?_⟩
  by_cases h : c < 0
  · go_enter Try.func89, Try.ntmps89
    go_wp2
    go_ret
    exact ⟨ret_bl (by simp [outside, h]), rfl⟩
  · have h' : 0 ≤ c := by omega
    go_enter Try.func89, Try.ntmps89
    go_wp2
    go_ret
    exact ⟨ret_bl (by simp [outside]; omega), rfl⟩
set_option maxRecDepth 100000 in
theorem idleW (p1 p2 p3 p4 : Value) (w : World) :
    CallsD Try.prog 90 #[p1, p2, p3, p4] .returning w fun e u' w' => e = .returned (.tuple #[]) ∧ u' = .returning ∧ w' = w := by
  refine callsD_of_wpS Try.func90 rfl fun c₀ cs hu => ?_
  refine wpS_seq_gen fun Q' hQ' => ?_
  apply wpS_region
  simp [wpOpsS, go_sem, recoverD, hu, Try.ntmps90, as_nil]
  refine hQ' _ _ _ ?_
  clear hQ' Q'
  refine wpS_seq_gen fun Q' hQ' => ?_
  apply wpS_region
  simp [wpOpsS, go_sem]
  refine hQ' _ _ _ ?_
  clear hQ' Q'
  refine wpS_cond (t := false) (by simp [Act.eval]) ?_
  simp only [Bool.false_eq_true, if_false]
  refine wpS_of_wp (wp_skip ?_)
  cases c₀
  simp_all [bodyPostS, results, Try.results90]
set_option maxHeartbeats 4000000 in
set_option maxRecDepth 100000 in
theorem doI_ok (B p : Nat) (hp : 1 < p) (sl : List Slo) (G : List Gat) (xs : List Exi) (v1 v2 v3 : Value) (G' : List Gat) (ar : List Nat) (A : Option Addr) (ac : Nat) (har : ∀ x ∈ ar, x < G.length) (hal : ar.length ≤ 9223372036854775807) (F : FuncId) (caps : Array Value) (r : Int) (w : World) (h : IsB B p sl G xs v1 v2 v3 w) (hA : Reads w A (nCells ar))
    (hrun : ∀ (args : Array Value) (W : World), (callFunc F args).run Try.prog W = .ok (.enter F args) W)
    (HF : ∀ W, Below w.heap.size w W → Calls Try.prog F (#[.iface 115 (.agg #[.pointer (some ⟨B, 0, none⟩)])] ++ caps) W fun e W' => ∃ v, e = .returned (.int .i64 r) ∧ IsB B p sl G' xs v1 v v3 W' ∧ Fr B v2 v W W') :
    Calls Try.prog 62 #[.pointer (some ⟨B, 0, none⟩), .slice A ar.length ac, .func (.func F) #[] caps] w fun e W' => ∃ v, e = .returned (.tuple #[.int .i64 r, .int .i64 0]) ∧ IsB B p sl G' xs v1 v v3 W' ∧ Fr B v2 v w W' := by
  have hmf : ∀ (fn : Fn) (first cap : Array Value) (w : World), (Instr.makeFunc fn first cap).run Try.prog w = .ok (.func fn first cap) w := fun _ _ _ _ => rfl
  obtain ⟨GA, gc, rfl, _⟩ := own_reads h.h2
  obtain ⟨q0, q1, q2, q3, q4, q5, q6⟩ := box4 h.hb
  have hlt := h.lt
  have HM := Lib.hid (fun W q => made_any B p (by omega) W q)
  have hout : (ar.map fun (x : Nat) => (x : Int)).any (outside G.length) = false := by
    rw [List.any_eq_false]
    intro x hx
    obtain ⟨y, hy, rfl⟩ := List.mem_map.1 hx
    have := har y hy
    unfold outside
    simp; omega
  have HC : Hid (∀ W, Below w.heap.size w W → W.cell? ⟨w.heap.size, 0, none⟩ = some (.pointer (some ⟨B, 0, none⟩)) → Calls Try.prog 84 #[.slice A ar.length ac, .func (.func 85) #[] #[.pointer (some ⟨w.heap.size, 0, none⟩)]] W (BRet false W)) :=
    Lib.hid fun W hb ha => by
      have h5 := containsI_any 85 (.pointer (some ⟨w.heap.size, 0, none⟩)) _ W (do1I_at B w.heap.size G.length gc GA W ha ((hb.cell (World.block_lt_of_cell? _ _ q2)).trans q2)) (ar.map fun (x : Nat) => (x : Int)) A ac (by rw [List.length_map]; exact hal) (by have := hA.below hb; simpa [iCells, nCells, Function.comp_def] using this)
      rw [hout, List.length_map] at h5
      exact h5
  have HFF := Lib.hid HF
  have HI := Lib.hid h
  have nB : ¬ B = w.heap.size := by omega
  clear hA HF h hout har
  go_enter_defers Try.func62, Try.ntmps62
  go_wp2_with (first | (go_at_call 24; refine (HM.out _ (cell_al (cell_al (cell_al q0)))).mono ?_; rintro e w1 ⟨rfl, hw1⟩; obtain ⟨k0, k1, k2, hsz, hb1⟩ := three w (.cells #[.pointer (some ⟨B, 0, none⟩)] 22) (.cells #[.int .i64 0] 3) (.cells #[.int .i64 0] 23); rw [hw1] at k0 k1 k2 hsz hb1; have HW1 := Lib.hid hw1; clear hw1; clear q1 q3 q4 q5 q6; replace q0 := (hb1.cell (World.block_lt_of_cell? _ _ q0)).trans q0; replace q2 := (hb1.cell (World.block_lt_of_cell? _ _ q2)).trans q2; have c0 := (box1 k0).1; have K0 := Lib.hid k0; have K1 := Lib.hid k1; have K2 := Lib.hid k2; have HB1 := Lib.hid hb1; clear k0 k1 k2 hb1; have nB1 : ¬ B = w1.heap.size := (by omega); have lB1 : B < w1.heap.size := (by omega)) | (go_at_call 84; refine (HC.out _ HB1.out c0).mono ?_; rintro e wc ⟨rfl, rfl⟩))
  refine (HFF.out _ (HB1.out.alloc (by omega) _)).mono ?_
  rintro e w3 ⟨x3, rfl, hI, hF⟩
  have hbA : Below w1.heap.size w1 (w1.alloc (.cells #[.int .i64 (G.length : Nat)] 3)) := (Below.refl _ _).alloc (Nat.le_refl _) _
  have k1 := hF.box hbA K1.out (by omega) (own_past_all HI.out.h2 (by omega))
  have k2 := hF.box hbA K2.out (by omega) (own_past_all HI.out.h2 (by omega))
  have c1 := (box1 k1).1
  have f1 := (box1 k1).2
  have c2 := (box1 k2).1
  have f2 := (box1 k2).2
  have HI3 := Lib.hid (IsB.setBox (IsB.setBox hI HI.out (k := w.heap.size + 1) (j := 0) (u := (.int .i64 r)) (by omega) k1 (by decide)) HI.out (k := w.heap.size + 1 + 1) (j := 0) (u := .int .i64 0) (by omega) (box_far k2 (by omega)) (by decide))
  have HF3 := Lib.hid ((((Fr.of_below (HB1.out.alloc (by omega) (.cells #[.int .i64 (G.length : Nat)] 3))).trans hF).setBox (k := w.heap.size + 1) (j := 0) (u := (.int .i64 r)) (by omega)).setBox (k := w.heap.size + 1 + 1) (j := 0) (u := .int .i64 0) (by omega))
  have HK1 := Lib.hid (box_far (box1_set (u := (.int .i64 r)) k1) (by omega) : ((w3.setCell ⟨w.heap.size + 1, 0, none⟩ (.int .i64 r)).setCell ⟨w.heap.size + 1 + 1, 0, none⟩ (.int .i64 0)).heap[w.heap.size + 1]? = _)
  have HK2 := Lib.hid (box1_set (u := .int .i64 0) (box_far (k := w.heap.size + 1) (u := (.int .i64 r)) k2 (by omega)))
  clear hI hF k1 k2 hbA
  go_wp2
  generalize hw4 : (w3.setCell ⟨w.heap.size + 1, 0, none⟩ (.int .i64 r)).setCell ⟨w.heap.size + 1 + 1, 0, none⟩ (.int .i64 0) = w4 at *
  refine leaves_cons (f := 86) (args := #[.pointer (some ⟨w.heap.size, 0, none⟩), .pointer (some ⟨w.heap.size + 1 + 1 + 1, 0, none⟩), .pointer (some ⟨w.heap.size + 1, 0, none⟩), .pointer (some ⟨w.heap.size + 1 + 1, 0, none⟩)]) (by simp) (by simp [go_sem]) ?_
  refine (idleI _ _ _ _ _).mono ?_
  rintro e u' w'' ⟨rfl, rfl, rfl⟩
  have d1 := (box1 HK1.out).1
  have d2 := (box1 HK2.out).1
  simp [Leaves, settle, results, Try.results62, go_sem, d1, d2]
  exact ⟨x3, HI3.out, HF3.out⟩
set_option maxHeartbeats 4000000 in
set_option maxRecDepth 100000 in
theorem doW_ok (B p : Nat) (hp : 1 < p) (sl : List Slo) (G : List Gat) (xs : List Exi) (v1 v2 v3 : Value) (G' : List Gat) (ar : List Nat) (A : Option Addr) (ac : Nat) (har : ∀ x ∈ ar, x < G.length) (hal : ar.length ≤ 9223372036854775807) (F : FuncId) (caps : Array Value) (n : Nat) (cs : List Value) (w : World) (h : IsB B p sl G xs v1 v2 v3 w) (hA : Reads w A (nCells ar))
    (hrun : ∀ (args : Array Value) (W : World), (callFunc F args).run Try.prog W = .ok (.enter F args) W)
    (HF : ∀ W, Below w.heap.size w W → Calls Try.prog F (#[.iface 115 (.agg #[.pointer (some ⟨B, 0, none⟩)])] ++ caps) W fun e W' => ∃ vo v, e = .returned vo ∧ IsB B p sl G' xs v1 v v3 W' ∧ Fr B v2 v W W' ∧ W'.ownsRow W.heap.size 3 1 vo n cs) :
    Calls Try.prog 82 #[.pointer (some ⟨B, 0, none⟩), .slice A ar.length ac, .func (.func F) #[] caps] w fun e W' => ∃ vo v, e = .returned (.tuple #[vo, .int .i64 0]) ∧ IsB B p sl G' xs v1 v v3 W' ∧ Fr B v2 v w W' ∧ W'.ownsRow w.heap.size 3 1 vo n cs := by
  have hmf : ∀ (fn : Fn) (first cap : Array Value) (w : World), (Instr.makeFunc fn first cap).run Try.prog w = .ok (.func fn first cap) w := fun _ _ _ _ => rfl
  obtain ⟨GA, gc, rfl, _⟩ := own_reads h.h2
  obtain ⟨q0, q1, q2, q3, q4, q5, q6⟩ := box4 h.hb
  have hlt := h.lt
  have HM := Lib.hid (fun W q => made_any B p (by omega) W q)
  have hout : (ar.map fun (x : Nat) => (x : Int)).any (outside G.length) = false := by
    rw [List.any_eq_false]
    intro x hx
    obtain ⟨y, hy, rfl⟩ := List.mem_map.1 hx
    have := har y hy
    unfold outside
    simp; omega
  have HC : Hid (∀ W, Below w.heap.size w W → W.cell? ⟨w.heap.size, 0, none⟩ = some (.pointer (some ⟨B, 0, none⟩)) → Calls Try.prog 84 #[.slice A ar.length ac, .func (.func 89) #[] #[.pointer (some ⟨w.heap.size, 0, none⟩)]] W (BRet false W)) :=
    Lib.hid fun W hb ha => by
      have h5 := containsI_any 89 (.pointer (some ⟨w.heap.size, 0, none⟩)) _ W (do1W_at B w.heap.size G.length gc GA W ha ((hb.cell (World.block_lt_of_cell? _ _ q2)).trans q2)) (ar.map fun (x : Nat) => (x : Int)) A ac (by rw [List.length_map]; exact hal) (by have := hA.below hb; simpa [iCells, nCells, Function.comp_def] using this)
      rw [hout, List.length_map] at h5
      exact h5
  have HFF := Lib.hid HF
  have HI := Lib.hid h
  have nB : ¬ B = w.heap.size := by omega
  clear hA HF h hout har
  go_enter_defers Try.func82, Try.ntmps82
  go_wp2_with (first | (go_at_call 24; refine (HM.out _ (cell_al (cell_al (cell_al q0)))).mono ?_; rintro e w1 ⟨rfl, hw1⟩; obtain ⟨k0, k1, k2, hsz, hb1⟩ := three w (.cells #[.pointer (some ⟨B, 0, none⟩)] 22) (.cells #[.slice none 0 0] 44) (.cells #[.int .i64 0] 23); rw [hw1] at k0 k1 k2 hsz hb1; have HW1 := Lib.hid hw1; clear hw1; clear q1 q3 q4 q5 q6; replace q0 := (hb1.cell (World.block_lt_of_cell? _ _ q0)).trans q0; replace q2 := (hb1.cell (World.block_lt_of_cell? _ _ q2)).trans q2; have c0 := (box1 k0).1; have K0 := Lib.hid k0; have K1 := Lib.hid k1; have K2 := Lib.hid k2; have HB1 := Lib.hid hb1; clear k0 k1 k2 hb1; have nB1 : ¬ B = w1.heap.size := (by omega); have lB1 : B < w1.heap.size := (by omega)) | (go_at_call 84; refine (HC.out _ HB1.out c0).mono ?_; rintro e wc ⟨rfl, rfl⟩))
  refine (HFF.out _ (HB1.out.alloc (by omega) _)).mono ?_
  rintro e w3 ⟨vo, x3, rfl, hI, hF, hO⟩
  obtain ⟨RA, rc, rfl, _⟩ := own_reads hO
  have hbA : Below w1.heap.size w1 (w1.alloc (.cells #[.int .i64 (G.length : Nat)] 3)) := (Below.refl _ _).alloc (Nat.le_refl _) _
  have k1 := hF.box hbA K1.out (by omega) (own_past_all HI.out.h2 (by omega))
  have k2 := hF.box hbA K2.out (by omega) (own_past_all HI.out.h2 (by omega))
  have c1 := (box1 k1).1
  have f1 := (box1 k1).2
  have c2 := (box1 k2).1
  have f2 := (box1 k2).2
  have HI3 := Lib.hid (IsB.setBox (IsB.setBox hI HI.out (k := w.heap.size + 1) (j := 0) (u := (.slice RA n rc)) (by omega) k1 (by decide)) HI.out (k := w.heap.size + 1 + 1) (j := 0) (u := .int .i64 0) (by omega) (box_far k2 (by omega)) (by decide))
  have HF3 := Lib.hid ((((Fr.of_below (HB1.out.alloc (by omega) (.cells #[.int .i64 (G.length : Nat)] 3))).trans hF).setBox (k := w.heap.size + 1) (j := 0) (u := (.slice RA n rc)) (by omega)).setBox (k := w.heap.size + 1 + 1) (j := 0) (u := .int .i64 0) (by omega))
  have HK1 := Lib.hid (box_far (box1_set (u := (.slice RA n rc)) k1) (by omega) : ((w3.setCell ⟨w.heap.size + 1, 0, none⟩ (.slice RA n rc)).setCell ⟨w.heap.size + 1 + 1, 0, none⟩ (.int .i64 0)).heap[w.heap.size + 1]? = _)
  have HK2 := Lib.hid (box1_set (u := .int .i64 0) (box_far (k := w.heap.size + 1) (u := (.slice RA n rc)) k2 (by omega)))
  have HO3 := Lib.hid (own_lower (own_set (own_set hO (p := ⟨w.heap.size + 1, 0, none⟩) (by simp; omega) (.slice RA n rc)) (p := ⟨w.heap.size + 1 + 1, 0, none⟩) (by simp; omega) (.int .i64 0)) (by simp; omega : w.heap.size ≤ _))
  clear hO
  clear hI hF k1 k2 hbA
  go_wp2
  generalize hw4 : (w3.setCell ⟨w.heap.size + 1, 0, none⟩ (.slice RA n rc)).setCell ⟨w.heap.size + 1 + 1, 0, none⟩ (.int .i64 0) = w4 at *
  refine leaves_cons (f := 90) (args := #[.pointer (some ⟨w.heap.size, 0, none⟩), .pointer (some ⟨w.heap.size + 1 + 1 + 1, 0, none⟩), .pointer (some ⟨w.heap.size + 1, 0, none⟩), .pointer (some ⟨w.heap.size + 1 + 1, 0, none⟩)]) (by simp) (by simp [go_sem]) ?_
  refine (idleW _ _ _ _ _).mono ?_
  rintro e u' w'' ⟨rfl, rfl, rfl⟩
  have d1 := (box1 HK1.out).1
  have d2 := (box1 HK2.out).1
  simp [Leaves, settle, results, Try.results82, go_sem, d1, d2]
  exact ⟨x3, HI3.out, HF3.out, HO3.out⟩
end Go.Proofs.Ytkcdlbclodjjhaa
