/- Contracts and plain laws of chapter 13, merged: Wo Wp Wq Ra Sd. -/
import Derived.Test.YtkcdlbclodjjhaaGreatGag
import Derived.WalkSmall
import Derived.Deep.DeepCutAuto
import Derived.StillTail
import Derived.Laws.AppendOwnNone
/- Contracts of the board's Plus, Minus, Times, Same, Less, where there is room. (Printed by wip/tools/gen_meth.py.) -/
namespace Go.Proofs.YtkcdlbclodjjhaaGreat
open Go.RowKit

theorem two (w : World) (o1 o2 : Obj) : ((w.alloc o1).alloc o2).heap[w.heap.size]? = some o1 ∧ ((w.alloc o1).alloc o2).heap[w.heap.size + 1]? = some o2 ∧ ((w.alloc o1).alloc o2).heap.size = w.heap.size + 1 + 1 ∧ Below w.heap.size w ((w.alloc o1).alloc o2) := by
  refine ⟨?_, ?_, by simp, (((Below.refl _ _).alloc (Nat.le_refl _) o1).alloc (by simp) o2)⟩
  · rw [Below.heap_alloc _ _ _ (by simp)]; exact heap_alloc_new w o1
  · have := heap_alloc_new (w.alloc o1) o2; simpa using this
set_option maxHeartbeats 1000000 in
set_option maxRecDepth 100000 in
theorem plusC_ok (B p : Nat) (hp : 1 < p) (sl : List Slo) (G : List Gat) (xs : List Exi) (v1 v2 v3 : Value) (vs ws : List Nat) (n : Nat) (hnv : vs.length = n) (hnw : ws.length = n) (h1 : 1 ≤ n) (h2 : n ≤ 16) (hvs : ∀ x ∈ vs, x < G.length) (hws : ∀ x ∈ ws, x < G.length) (va wa : Addr) (vc wc : Nat) (hf : G.length + (1 + 9 * n) ≤ 65536) (w : World) (h : IsB B p sl G xs v1 v2 v3 w) (hV : ∀ W v, Fr B v2 v w W → Reads W (some va) (nCells vs)) (hW : ∀ W v, Fr B v2 v w W → Reads W (some wa) (nCells ws)) (a1 a2 : Nat) (q1 : w.cell? ⟨a1, 0, none⟩ = some (.slice (some va) n vc)) (q2 : w.cell? ⟨a2, 0, none⟩ = some (.slice (some wa) n wc)) :
    Calls Tryz.prog 47 #[.iface 126 (.agg #[.pointer (some ⟨B, 0, none⟩)]), .pointer (some ⟨a1, 0, none⟩), .pointer (some ⟨a2, 0, none⟩)] w fun e W' => ∃ vo v, e = .returned vo ∧ IsB B p sl (plusSt G vs ws).1 xs v1 v v3 W' ∧ Fr B v2 v w W' ∧ W'.ownsRow w.heap.size 3 1 vo n (nCells (plusSt G vs ws).2.1) := by
  have h0 := plus_ok B p hp sl G xs v1 v2 v3 vs ws (some va) (some wa) vc wc (by omega) (by omega) hvs hws (by omega) w h hV hW
  rw [hnv] at h0
  have HR := Lib.hid h0
  clear h0 hV hW h hvs hws hf hnv hnw
  go_enter Tryz.func47, Tryz.ntmps47
  go_wp2_with (go_at_call 48; refine HR.out.mono ?_; rintro e w1 ⟨x2, vo, rfl, hI, hF, hO⟩; have HI := Lib.hid hI; have HF := Lib.hid hF; have HO := Lib.hid hO; clear hI hF hO)
  go_ret
  exact ⟨vo, x2, rfl, HI.out, HF.out, HO.out⟩
set_option maxHeartbeats 1000000 in
set_option maxRecDepth 100000 in
theorem plusM_ok (B p : Nat) (hp : 1 < p) (sl : List Slo) (G : List Gat) (xs : List Exi) (v1 v2 v3 : Value) (vs ws : List Nat) (n : Nat) (hnv : vs.length = n) (hnw : ws.length = n) (h1 : 1 ≤ n) (h2 : n ≤ 16) (hvs : ∀ x ∈ vs, x < G.length) (hws : ∀ x ∈ ws, x < G.length) (va wa : Addr) (vc wc : Nat) (hf : G.length + (1 + 9 * n) ≤ 65536) (w : World) (h : IsB B p sl G xs v1 v2 v3 w) (hV : ∀ W v, Fr B v2 v w W → Reads W (some va) (nCells vs)) (hW : ∀ W v, Fr B v2 v w W → Reads W (some wa) (nCells ws)) :
    Calls Tryz.prog 12 #[.pointer (some ⟨B, 0, none⟩), .slice (some va) n vc, .slice (some wa) n wc] w fun e W' => ∃ vo v, e = .returned (.tuple #[vo, .int .i64 0]) ∧ IsB B p sl (plusSt G vs ws).1 xs v1 v v3 W' ∧ Fr B v2 v w W' ∧ W'.ownsRow w.heap.size 3 1 vo n (nCells (plusSt G vs ws).2.1) := by
  have hmf : ∀ (fn : Fn) (first cap : Array Value) (w : World), (Instr.makeFunc fn first cap).run Tryz.prog w = .ok (.func fn first cap) w := fun _ _ _ _ => rfl
  obtain ⟨k0, k1, hsz, hb1⟩ := two w (.cells #[.slice (some va) n vc] 38) (.cells #[.slice (some wa) n wc] 38)
  have HD : Hid (Calls Tryz.prog 46 #[.pointer (some ⟨B, 0, none⟩), .slice (some va) n vc, .slice (some wa) n wc, .func (.func 47) #[] #[.pointer (some ⟨w.heap.size, 0, none⟩), .pointer (some ⟨w.heap.size + 1, 0, none⟩)]] ((w.alloc (.cells #[.slice (some va) n vc] 38)).alloc (.cells #[.slice (some wa) n wc] 38)) fun e W' => ∃ vo v, e = .returned (.tuple #[vo, .int .i64 0]) ∧ IsB B p sl (plusSt G vs ws).1 xs v1 v v3 W' ∧ Fr B v2 v w W' ∧ W'.ownsRow w.heap.size 3 1 vo n (nCells (plusSt G vs ws).2.1)) := Lib.hid (by
    have h0 := wordsW_ok B p hp sl G xs v1 v2 v3 (plusSt G vs ws).1 vs ws n hnv hnw h1 h2 hvs hws va wa vc wc 47 #[.pointer (some ⟨w.heap.size, 0, none⟩), .pointer (some ⟨w.heap.size + 1, 0, none⟩)] n (nCells (plusSt G vs ws).2.1) _ (h.below hb1) (hV _ _ (Fr.of_below hb1)) (hW _ _ (Fr.of_below hb1)) (fun _ _ => by kernel_rfl)
      (fun W hb => plusC_ok B p hp sl G xs v1 v2 v3 vs ws n hnv hnw h1 h2 hvs hws va wa vc wc hf W ((h.below hb1).below hb) (fun W' v' hf' => hV W' v' ((Fr.of_below (hb1.trans (hb.mono hb1.size))).trans hf')) (fun W' v' hf' => hW W' v' ((Fr.of_below (hb1.trans (hb.mono hb1.size))).trans hf')) w.heap.size (w.heap.size + 1) ((hb.cell (World.block_lt_of_cell? _ _ (box1 k0).1)).trans (box1 k0).1) ((hb.cell (World.block_lt_of_cell? _ _ (box1 k1).1)).trans (box1 k1).1))
    refine h0.mono fun _ _ he => ?_
    obtain ⟨vo, v, e1, h3, h4, h5⟩ := he
    exact ⟨vo, v, e1, h3, (Fr.of_below hb1).trans h4, own_lower h5 hb1.size⟩)
  clear hV hW h hvs hws hf hnv hnw k0 k1 hsz hb1
  go_enter Tryz.func12, Tryz.ntmps12
  go_wp2_with (go_at_call 46; refine HD.out.mono ?_; rintro e w1 ⟨vo, x2, rfl, hI, hF, hO⟩; have HI := Lib.hid hI; have HF := Lib.hid hF; have HO := Lib.hid hO; clear hI hF hO)
  refine bodyPost_ret (v := .tuple #[vo, .int .i64 0]) ?_ rfl ⟨vo, x2, rfl, HI.out, HF.out, HO.out⟩
  simp [results, Tryz.results12, go_sem]
set_option maxHeartbeats 1000000 in
set_option maxRecDepth 100000 in
theorem minusC_ok (B p : Nat) (hp : 1 < p) (sl : List Slo) (G : List Gat) (xs : List Exi) (v1 v2 v3 : Value) (vs ws : List Nat) (n : Nat) (hnv : vs.length = n) (hnw : ws.length = n) (h1 : 1 ≤ n) (h2 : n ≤ 16) (hvs : ∀ x ∈ vs, x < G.length) (hws : ∀ x ∈ ws, x < G.length) (va wa : Addr) (vc wc : Nat) (hf : G.length + (1 + 11 * n) ≤ 65536) (w : World) (h : IsB B p sl G xs v1 v2 v3 w) (hV : ∀ W v, Fr B v2 v w W → Reads W (some va) (nCells vs)) (hW : ∀ W v, Fr B v2 v w W → Reads W (some wa) (nCells ws)) (a1 a2 : Nat) (q1 : w.cell? ⟨a1, 0, none⟩ = some (.slice (some va) n vc)) (q2 : w.cell? ⟨a2, 0, none⟩ = some (.slice (some wa) n wc)) :
    Calls Tryz.prog 49 #[.iface 126 (.agg #[.pointer (some ⟨B, 0, none⟩)]), .pointer (some ⟨a1, 0, none⟩), .pointer (some ⟨a2, 0, none⟩)] w fun e W' => ∃ vo v, e = .returned vo ∧ IsB B p sl (minusSt G vs ws).1 xs v1 v v3 W' ∧ Fr B v2 v w W' ∧ W'.ownsRow w.heap.size 3 1 vo n (nCells (minusSt G vs ws).2.1) := by
  have h0 := minus_ok B p hp sl G xs v1 v2 v3 vs ws (some va) (some wa) vc wc (by omega) (by omega) hvs hws (by omega) w h hV hW
  rw [hnv] at h0
  have HR := Lib.hid h0
  clear h0 hV hW h hvs hws hf hnv hnw
  go_enter Tryz.func49, Tryz.ntmps49
  go_wp2_with (go_at_call 50; refine HR.out.mono ?_; rintro e w1 ⟨x2, vo, rfl, hI, hF, hO⟩; have HI := Lib.hid hI; have HF := Lib.hid hF; have HO := Lib.hid hO; clear hI hF hO)
  go_ret
  exact ⟨vo, x2, rfl, HI.out, HF.out, HO.out⟩
set_option maxHeartbeats 1000000 in
set_option maxRecDepth 100000 in
theorem minusM_ok (B p : Nat) (hp : 1 < p) (sl : List Slo) (G : List Gat) (xs : List Exi) (v1 v2 v3 : Value) (vs ws : List Nat) (n : Nat) (hnv : vs.length = n) (hnw : ws.length = n) (h1 : 1 ≤ n) (h2 : n ≤ 16) (hvs : ∀ x ∈ vs, x < G.length) (hws : ∀ x ∈ ws, x < G.length) (va wa : Addr) (vc wc : Nat) (hf : G.length + (1 + 11 * n) ≤ 65536) (w : World) (h : IsB B p sl G xs v1 v2 v3 w) (hV : ∀ W v, Fr B v2 v w W → Reads W (some va) (nCells vs)) (hW : ∀ W v, Fr B v2 v w W → Reads W (some wa) (nCells ws)) :
    Calls Tryz.prog 14 #[.pointer (some ⟨B, 0, none⟩), .slice (some va) n vc, .slice (some wa) n wc] w fun e W' => ∃ vo v, e = .returned (.tuple #[vo, .int .i64 0]) ∧ IsB B p sl (minusSt G vs ws).1 xs v1 v v3 W' ∧ Fr B v2 v w W' ∧ W'.ownsRow w.heap.size 3 1 vo n (nCells (minusSt G vs ws).2.1) := by
  have hmf : ∀ (fn : Fn) (first cap : Array Value) (w : World), (Instr.makeFunc fn first cap).run Tryz.prog w = .ok (.func fn first cap) w := fun _ _ _ _ => rfl
  obtain ⟨k0, k1, hsz, hb1⟩ := two w (.cells #[.slice (some va) n vc] 38) (.cells #[.slice (some wa) n wc] 38)
  have HD : Hid (Calls Tryz.prog 46 #[.pointer (some ⟨B, 0, none⟩), .slice (some va) n vc, .slice (some wa) n wc, .func (.func 49) #[] #[.pointer (some ⟨w.heap.size, 0, none⟩), .pointer (some ⟨w.heap.size + 1, 0, none⟩)]] ((w.alloc (.cells #[.slice (some va) n vc] 38)).alloc (.cells #[.slice (some wa) n wc] 38)) fun e W' => ∃ vo v, e = .returned (.tuple #[vo, .int .i64 0]) ∧ IsB B p sl (minusSt G vs ws).1 xs v1 v v3 W' ∧ Fr B v2 v w W' ∧ W'.ownsRow w.heap.size 3 1 vo n (nCells (minusSt G vs ws).2.1)) := Lib.hid (by
    have h0 := wordsW_ok B p hp sl G xs v1 v2 v3 (minusSt G vs ws).1 vs ws n hnv hnw h1 h2 hvs hws va wa vc wc 49 #[.pointer (some ⟨w.heap.size, 0, none⟩), .pointer (some ⟨w.heap.size + 1, 0, none⟩)] n (nCells (minusSt G vs ws).2.1) _ (h.below hb1) (hV _ _ (Fr.of_below hb1)) (hW _ _ (Fr.of_below hb1)) (fun _ _ => by kernel_rfl)
      (fun W hb => minusC_ok B p hp sl G xs v1 v2 v3 vs ws n hnv hnw h1 h2 hvs hws va wa vc wc hf W ((h.below hb1).below hb) (fun W' v' hf' => hV W' v' ((Fr.of_below (hb1.trans (hb.mono hb1.size))).trans hf')) (fun W' v' hf' => hW W' v' ((Fr.of_below (hb1.trans (hb.mono hb1.size))).trans hf')) w.heap.size (w.heap.size + 1) ((hb.cell (World.block_lt_of_cell? _ _ (box1 k0).1)).trans (box1 k0).1) ((hb.cell (World.block_lt_of_cell? _ _ (box1 k1).1)).trans (box1 k1).1))
    refine h0.mono fun _ _ he => ?_
    obtain ⟨vo, v, e1, h3, h4, h5⟩ := he
    exact ⟨vo, v, e1, h3, (Fr.of_below hb1).trans h4, own_lower h5 hb1.size⟩)
  clear hV hW h hvs hws hf hnv hnw k0 k1 hsz hb1
  go_enter Tryz.func14, Tryz.ntmps14
  go_wp2_with (go_at_call 46; refine HD.out.mono ?_; rintro e w1 ⟨vo, x2, rfl, hI, hF, hO⟩; have HI := Lib.hid hI; have HF := Lib.hid hF; have HO := Lib.hid hO; clear hI hF hO)
  refine bodyPost_ret (v := .tuple #[vo, .int .i64 0]) ?_ rfl ⟨vo, x2, rfl, HI.out, HF.out, HO.out⟩
  simp [results, Tryz.results14, go_sem]
set_option maxHeartbeats 1000000 in
set_option maxRecDepth 100000 in
theorem timesC_ok (B p : Nat) (hp : 1 < p) (sl : List Slo) (G : List Gat) (xs : List Exi) (v1 v2 v3 : Value) (vs ws : List Nat) (n : Nat) (hnv : vs.length = n) (hnw : ws.length = n) (h1 : 1 ≤ n) (h2 : n ≤ 16) (hvs : ∀ x ∈ vs, x < G.length) (hws : ∀ x ∈ ws, x < G.length) (va wa : Addr) (vc wc : Nat) (hcap : n ≤ vc) (hf : G.length + (n * (10 * n + 1)) ≤ 65536) (w : World) (h : IsB B p sl G xs v1 v2 v3 w) (hV : ∀ W v, Fr B v2 v w W → Reads W (some va) (nCells vs)) (hW : ∀ W v, Fr B v2 v w W → Reads W (some wa) (nCells ws)) (a1 a2 : Nat) (q1 : w.cell? ⟨a1, 0, none⟩ = some (.slice (some va) n vc)) (q2 : w.cell? ⟨a2, 0, none⟩ = some (.slice (some wa) n wc)) :
    Calls Tryz.prog 51 #[.iface 126 (.agg #[.pointer (some ⟨B, 0, none⟩)]), .pointer (some ⟨a1, 0, none⟩), .pointer (some ⟨a2, 0, none⟩)] w fun e W' => ∃ vo v, e = .returned vo ∧ IsB B p sl (timesSt G vs ws n).1 xs v1 v v3 W' ∧ Fr B v2 v w W' ∧ W'.ownsRow w.heap.size 3 1 vo n (nCells (timesSt G vs ws n).2) := by
  have h0 := times_ok B p hp sl G xs v1 v2 v3 vs ws (some va) (some wa) vc wc (by omega) (by omega) hvs hws (by omega) (by rw [hnv]; omega) w h hV hW
  rw [hnv] at h0
  have HR := Lib.hid h0
  clear h0 hV hW h hvs hws hf hnv hnw
  go_enter Tryz.func51, Tryz.ntmps51
  go_wp2_with (go_at_call 52; refine HR.out.mono ?_; rintro e w1 ⟨x2, vo, rfl, hI, hF, hO⟩; have HI := Lib.hid hI; have HF := Lib.hid hF; have HO := Lib.hid hO; clear hI hF hO)
  go_ret
  exact ⟨vo, x2, rfl, HI.out, HF.out, HO.out⟩
set_option maxHeartbeats 1000000 in
set_option maxRecDepth 100000 in
theorem timesM_ok (B p : Nat) (hp : 1 < p) (sl : List Slo) (G : List Gat) (xs : List Exi) (v1 v2 v3 : Value) (vs ws : List Nat) (n : Nat) (hnv : vs.length = n) (hnw : ws.length = n) (h1 : 1 ≤ n) (h2 : n ≤ 16) (hvs : ∀ x ∈ vs, x < G.length) (hws : ∀ x ∈ ws, x < G.length) (va wa : Addr) (vc wc : Nat) (hcap : n ≤ vc) (hf : G.length + (n * (10 * n + 1)) ≤ 65536) (w : World) (h : IsB B p sl G xs v1 v2 v3 w) (hV : ∀ W v, Fr B v2 v w W → Reads W (some va) (nCells vs)) (hW : ∀ W v, Fr B v2 v w W → Reads W (some wa) (nCells ws)) :
    Calls Tryz.prog 15 #[.pointer (some ⟨B, 0, none⟩), .slice (some va) n vc, .slice (some wa) n wc] w fun e W' => ∃ vo v, e = .returned (.tuple #[vo, .int .i64 0]) ∧ IsB B p sl (timesSt G vs ws n).1 xs v1 v v3 W' ∧ Fr B v2 v w W' ∧ W'.ownsRow w.heap.size 3 1 vo n (nCells (timesSt G vs ws n).2) := by
  have hmf : ∀ (fn : Fn) (first cap : Array Value) (w : World), (Instr.makeFunc fn first cap).run Tryz.prog w = .ok (.func fn first cap) w := fun _ _ _ _ => rfl
  obtain ⟨k0, k1, hsz, hb1⟩ := two w (.cells #[.slice (some va) n vc] 38) (.cells #[.slice (some wa) n wc] 38)
  have HD : Hid (Calls Tryz.prog 46 #[.pointer (some ⟨B, 0, none⟩), .slice (some va) n vc, .slice (some wa) n wc, .func (.func 51) #[] #[.pointer (some ⟨w.heap.size, 0, none⟩), .pointer (some ⟨w.heap.size + 1, 0, none⟩)]] ((w.alloc (.cells #[.slice (some va) n vc] 38)).alloc (.cells #[.slice (some wa) n wc] 38)) fun e W' => ∃ vo v, e = .returned (.tuple #[vo, .int .i64 0]) ∧ IsB B p sl (timesSt G vs ws n).1 xs v1 v v3 W' ∧ Fr B v2 v w W' ∧ W'.ownsRow w.heap.size 3 1 vo n (nCells (timesSt G vs ws n).2)) := Lib.hid (by
    have h0 := wordsW_ok B p hp sl G xs v1 v2 v3 (timesSt G vs ws n).1 vs ws n hnv hnw h1 h2 hvs hws va wa vc wc 51 #[.pointer (some ⟨w.heap.size, 0, none⟩), .pointer (some ⟨w.heap.size + 1, 0, none⟩)] n (nCells (timesSt G vs ws n).2) _ (h.below hb1) (hV _ _ (Fr.of_below hb1)) (hW _ _ (Fr.of_below hb1)) (fun _ _ => by kernel_rfl)
      (fun W hb => timesC_ok B p hp sl G xs v1 v2 v3 vs ws n hnv hnw h1 h2 hvs hws va wa vc wc hcap hf W ((h.below hb1).below hb) (fun W' v' hf' => hV W' v' ((Fr.of_below (hb1.trans (hb.mono hb1.size))).trans hf')) (fun W' v' hf' => hW W' v' ((Fr.of_below (hb1.trans (hb.mono hb1.size))).trans hf')) w.heap.size (w.heap.size + 1) ((hb.cell (World.block_lt_of_cell? _ _ (box1 k0).1)).trans (box1 k0).1) ((hb.cell (World.block_lt_of_cell? _ _ (box1 k1).1)).trans (box1 k1).1))
    refine h0.mono fun _ _ he => ?_
    obtain ⟨vo, v, e1, h3, h4, h5⟩ := he
    exact ⟨vo, v, e1, h3, (Fr.of_below hb1).trans h4, own_lower h5 hb1.size⟩)
  clear hV hW h hvs hws hf hnv hnw k0 k1 hsz hb1
  go_enter Tryz.func15, Tryz.ntmps15
  go_wp2_with (go_at_call 46; refine HD.out.mono ?_; rintro e w1 ⟨vo, x2, rfl, hI, hF, hO⟩; have HI := Lib.hid hI; have HF := Lib.hid hF; have HO := Lib.hid hO; clear hI hF hO)
  refine bodyPost_ret (v := .tuple #[vo, .int .i64 0]) ?_ rfl ⟨vo, x2, rfl, HI.out, HF.out, HO.out⟩
  simp [results, Tryz.results15, go_sem]
set_option maxHeartbeats 1000000 in
set_option maxRecDepth 100000 in
theorem lessC_ok (B p : Nat) (hp : 1 < p) (sl : List Slo) (G : List Gat) (xs : List Exi) (v1 v2 v3 : Value) (vs ws : List Nat) (n : Nat) (hnv : vs.length = n) (hnw : ws.length = n) (h1 : 1 ≤ n) (h2 : n ≤ 16) (hvs : ∀ x ∈ vs, x < G.length) (hws : ∀ x ∈ ws, x < G.length) (va wa : Addr) (vc wc : Nat) (hf : G.length + (3 + 11 * n) ≤ 65536) (w : World) (h : IsB B p sl G xs v1 v2 v3 w) (hV : ∀ W v, Fr B v2 v w W → Reads W (some va) (nCells vs)) (hW : ∀ W v, Fr B v2 v w W → Reads W (some wa) (nCells ws)) (a1 a2 : Nat) (q1 : w.cell? ⟨a1, 0, none⟩ = some (.slice (some va) n vc)) (q2 : w.cell? ⟨a2, 0, none⟩ = some (.slice (some wa) n wc)) :
    Calls Tryz.prog 54 #[.iface 126 (.agg #[.pointer (some ⟨B, 0, none⟩)]), .pointer (some ⟨a1, 0, none⟩), .pointer (some ⟨a2, 0, none⟩)] w fun e W' => ∃ v, e = .returned (.int .i64 (((belowSt G vs ws).2 : Nat) : Int)) ∧ IsB B p sl (belowSt G vs ws).1 xs v1 v v3 W' ∧ Fr B v2 v w W' := by
  have h0 := below_ok B p hp sl G xs v1 v2 v3 vs ws (some va) (some wa) vc wc (by omega) (by omega) hvs hws (by omega) w h hV hW
  rw [hnv] at h0
  have HR := Lib.hid h0
  clear h0 hV hW h hvs hws hf hnv hnw
  go_enter Tryz.func54, Tryz.ntmps54
  go_wp2_with (go_at_call 55; refine HR.out.mono ?_; rintro e w1 ⟨x2, rfl, hI, hF⟩; have HI := Lib.hid hI; have HF := Lib.hid hF; clear hI hF)
  go_ret
  exact ⟨x2, rfl, HI.out, HF.out⟩
set_option maxHeartbeats 1000000 in
set_option maxRecDepth 100000 in
theorem lessM_ok (B p : Nat) (hp : 1 < p) (sl : List Slo) (G : List Gat) (xs : List Exi) (v1 v2 v3 : Value) (vs ws : List Nat) (n : Nat) (hnv : vs.length = n) (hnw : ws.length = n) (h1 : 1 ≤ n) (h2 : n ≤ 16) (hvs : ∀ x ∈ vs, x < G.length) (hws : ∀ x ∈ ws, x < G.length) (va wa : Addr) (vc wc : Nat) (hf : G.length + (3 + 11 * n) ≤ 65536) (w : World) (h : IsB B p sl G xs v1 v2 v3 w) (hV : ∀ W v, Fr B v2 v w W → Reads W (some va) (nCells vs)) (hW : ∀ W v, Fr B v2 v w W → Reads W (some wa) (nCells ws)) :
    Calls Tryz.prog 16 #[.pointer (some ⟨B, 0, none⟩), .slice (some va) n vc, .slice (some wa) n wc] w fun e W' => ∃ v, e = .returned (.tuple #[.int .i64 (((belowSt G vs ws).2 : Nat) : Int), .int .i64 0]) ∧ IsB B p sl (belowSt G vs ws).1 xs v1 v v3 W' ∧ Fr B v2 v w W' := by
  have hmf : ∀ (fn : Fn) (first cap : Array Value) (w : World), (Instr.makeFunc fn first cap).run Tryz.prog w = .ok (.func fn first cap) w := fun _ _ _ _ => rfl
  obtain ⟨k0, k1, hsz, hb1⟩ := two w (.cells #[.slice (some va) n vc] 38) (.cells #[.slice (some wa) n wc] 38)
  have HD : Hid (Calls Tryz.prog 53 #[.pointer (some ⟨B, 0, none⟩), .slice (some va) n vc, .slice (some wa) n wc, .func (.func 54) #[] #[.pointer (some ⟨w.heap.size, 0, none⟩), .pointer (some ⟨w.heap.size + 1, 0, none⟩)]] ((w.alloc (.cells #[.slice (some va) n vc] 38)).alloc (.cells #[.slice (some wa) n wc] 38)) fun e W' => ∃ v, e = .returned (.tuple #[.int .i64 (((belowSt G vs ws).2 : Nat) : Int), .int .i64 0]) ∧ IsB B p sl (belowSt G vs ws).1 xs v1 v v3 W' ∧ Fr B v2 v w W') := Lib.hid (by
    have h0 := wordsI_ok B p hp sl G xs v1 v2 v3 (belowSt G vs ws).1 vs ws n hnv hnw h1 h2 hvs hws va wa vc wc 54 #[.pointer (some ⟨w.heap.size, 0, none⟩), .pointer (some ⟨w.heap.size + 1, 0, none⟩)] (((belowSt G vs ws).2 : Nat) : Int) _ (h.below hb1) (hV _ _ (Fr.of_below hb1)) (hW _ _ (Fr.of_below hb1)) (fun _ _ => by kernel_rfl)
      (fun W hb => lessC_ok B p hp sl G xs v1 v2 v3 vs ws n hnv hnw h1 h2 hvs hws va wa vc wc hf W ((h.below hb1).below hb) (fun W' v' hf' => hV W' v' ((Fr.of_below (hb1.trans (hb.mono hb1.size))).trans hf')) (fun W' v' hf' => hW W' v' ((Fr.of_below (hb1.trans (hb.mono hb1.size))).trans hf')) w.heap.size (w.heap.size + 1) ((hb.cell (World.block_lt_of_cell? _ _ (box1 k0).1)).trans (box1 k0).1) ((hb.cell (World.block_lt_of_cell? _ _ (box1 k1).1)).trans (box1 k1).1))
    refine h0.mono fun _ _ he => ?_
    obtain ⟨v, e1, h3, h4⟩ := he
    exact ⟨v, e1, h3, (Fr.of_below hb1).trans h4⟩)
  clear hV hW h hvs hws hf hnv hnw k0 k1 hsz hb1
  go_enter Tryz.func16, Tryz.ntmps16
  go_wp2_with (go_at_call 53; refine HD.out.mono ?_; rintro e w1 ⟨x2, rfl, hI, hF⟩; have HI := Lib.hid hI; have HF := Lib.hid hF; clear hI hF)
  refine bodyPost_ret (v := .tuple #[.int .i64 (((belowSt G vs ws).2 : Nat) : Int), .int .i64 0]) ?_ rfl ⟨x2, rfl, HI.out, HF.out⟩
  simp [results, Tryz.results16, go_sem]
end Go.Proofs.YtkcdlbclodjjhaaGreat

/- Contracts of New, of. (Printed by wip/tools/gen_wp.py.) -/
namespace Go.Proofs.YtkcdlbclodjjhaaGreat
open Go.RowKit

abbrev nilS : Value := .slice none 0 0
set_option maxRecDepth 100000 in
theorem new_bad (p : Nat) (hp : p < 18446744073709551616) (hP : isP p = false) (w : World) : Calls Tryz.prog 4 #[.int .u64 p] w fun e W' => e = .returned (.tuple #[.pointer none, .int .i64 2]) ∧ w = W' := by
  have h := fun W => is_any p hp W
  rw [hP] at h
  have H := Lib.hid h; clear h hP
  go_enter Tryz.func4, Tryz.ntmps4
  go_wp2_with (go_at_call 11; refine (H.out _).mono ?_; rintro e w1 ⟨rfl, rfl⟩)
  exact bodyPost_ret (v := .tuple #[.pointer none, .int .i64 2]) (by simp [results, Tryz.results4, go_sem]) rfl ⟨rfl, rfl⟩
set_option maxRecDepth 100000 in
theorem new_ok (p : Nat) (hp : p < 18446744073709551616) (hP : isP p = true) (w : World) : Calls Tryz.prog 4 #[.int .u64 p] w fun e W' => e = .returned (.tuple #[.pointer (some ⟨w.heap.size, 0, none⟩), .int .i64 0]) ∧ IsB w.heap.size p [] [] [] nilS nilS nilS W' ∧ Below w.heap.size w W' := by
  have h := fun W => is_any p hp W
  rw [hP] at h
  have H := Lib.hid h; clear h hP
  go_enter Tryz.func4, Tryz.ntmps4
  go_wp2_with (go_at_call 11; refine (H.out _).mono ?_; rintro e w1 ⟨rfl, rfl⟩)
  exact bodyPost_ret (v := .tuple #[.pointer (some ⟨w.heap.size, 0, none⟩), .int .i64 0]) (by simp [results, Tryz.results4, go_sem]) rfl ⟨rfl, ⟨World.ownsRow_nil _ _ _ _, World.ownsRow_nil _ _ _ _, World.ownsRow_nil _ _ _ _, by simp, heap_alloc_new w _, by simp, by simp⟩, (Below.refl _ _).alloc (Nat.le_refl _) _⟩
theorem const_ok (B p : Nat) (sl : List Slo) (G : List Gat) (xs : List Exi) (v1 v2 v3 : Value) (k : Nat) (hk : k < p) (hf : G.length < 65536) (w : World) (h : IsB B p sl G xs v1 v2 v3 w) :
    Calls Tryz.prog 29 #[.pointer (some ⟨B, 0, none⟩), .int .u64 ((k : Nat) : Int)] w (OkPost B p sl (G ++ conL k) xs v1 v2 v3 w (.tuple #[.int .i64 ((G.length : Nat) : Int), .int .i64 0])) :=
  (const_any B p (by omega) sl G xs v1 v2 v3 k (by omega) w h).mono fun e W' he => by
    have hg := gErr_con (s := sl.length) (m := G.length) hk
    rcases he with ⟨h1, _⟩ | ⟨_, h1, _⟩ | ⟨_, _, v, h1, h2, h3⟩
    · exact absurd hg h1
    · omega
    · exact ⟨h1, v, h2, h3⟩
/-- The bits of a number as constants. -/
def ofSt (G : List Gat) (n : Nat) : Nat → List Gat × List Nat
  | 0 => (G, [])
  | k + 1 => ((ofSt G n k).1 ++ conL (n / 2 ^ k % 2), (ofSt G n k).2 ++ [(ofSt G n k).1.length])
theorem ofSt_len (G : List Gat) (n : Nat) : ∀ k, (ofSt G n k).1.length = G.length + k ∧ (ofSt G n k).2.length = k ∧ ∀ x ∈ (ofSt G n k).2, x < (ofSt G n k).1.length := by
  intro k
  induction k with
  | zero => exact ⟨rfl, rfl, by intro x hx; simp [ofSt] at hx⟩
  | succ k ih =>
    obtain ⟨h1, h2, h3⟩ := ih
    refine ⟨by simp [ofSt, conL, h1]; omega, by simp [ofSt, h2], ?_⟩
    intro x hx
    simp only [ofSt, List.length_append, conL, List.length_cons, List.length_nil] at hx ⊢
    rcases List.mem_append.1 hx with e | e
    · have := h3 x e; omega
    · have := List.mem_singleton.1 e; omega
set_option maxHeartbeats 1000000 in
set_option maxRecDepth 100000 in
theorem of_ok (B p : Nat) (hp : 1 < p) (sl : List Slo) (G : List Gat) (xs : List Exi) (v1 v2 v3 : Value) (m n : Nat) (hm : m ≤ 16) (hn : n < 18446744073709551616) (hf : G.length + m ≤ 65536) (w : World) (h : IsB B p sl G xs v1 v2 v3 w) :
    Calls Tryz.prog 13 #[.pointer (some ⟨B, 0, none⟩), .int .i64 ((m : Nat) : Int), .int .u64 ((n : Nat) : Int)] w fun e W' => ∃ vo v, e = .returned vo ∧ IsB B p sl (ofSt G n m).1 xs v1 v v3 W' ∧ Fr B v2 v w W' ∧ W'.ownsRow w.heap.size 3 1 vo m (nCells (ofSt G n m).2) := by
  have HB := Lib.hid h
  have HLT := Lib.hid h.lt
  have HL := Lib.hid (ofSt_len G n)
  have HF := Lib.hid hf
  have HP := Lib.hid hp
  clear h hf hp
  go_enter Tryz.func13, Tryz.ntmps13
  go_wp2
  go_loopg [7, 12] m (fun g o' i' wr => ∃ (k : Nat) (Gk : List Gat) (ok : List Nat) (vo vk : Value), k ≤ m ∧ g = m - k ∧ o' = vo ∧ i' = .int .i64 k ∧ Hid (ofSt G n k = (Gk, ok)) ∧ wr.ownsRow w.heap.size 3 1 vo k (nCells ok) ∧ IsB B p sl Gk xs v1 vk v3 wr ∧ Fr B v2 vk w wr)
  case atStart => exact ⟨0, G, [], .slice none 0 0, v2, Nat.zero_le _, rfl, rfl, rfl, Lib.hid rfl, World.ownsRow_nil _ _ _ _, HB.out, Fr.refl _ _ _⟩
  case round =>
    obtain ⟨k, Gk, ok, vo, vk, hk, rfl, rfl, rfl, hst, hown, hIk, hFk⟩ := hrel
    have HO0 := Lib.hid hown; have HI0 := Lib.hid hIk; have HF0 := Lib.hid hFk
    clear hown hIk hFk
    by_cases hlt : k < m
    · have hL := (HL.out k).1
      rw [hst.out] at hL
      have hf := HF.out
      have HN : Hid (Calls Tryz.prog 29 #[.pointer (some ⟨B, 0, none⟩), .int .u64 ((n / 2 ^ k % 2 : Nat) : Int)] wr fun e W' => e = .returned (.tuple #[.int .i64 ((Gk.length : Nat) : Int), .int .i64 0]) ∧ ∃ v', IsB B p sl (Gk ++ conL (n / 2 ^ k % 2)) xs v1 v' v3 W' ∧ Fr B v2 v' w W' ∧ W'.ownsRow w.heap.size 3 1 u7 k (nCells ok)) :=
        Lib.hid ((const_ok B p sl Gk xs v1 vk v3 (n / 2 ^ k % 2) (by have := HP.out; omega) (by simp only at hL; omega) wr HI0.out).mono fun _ _ he => OkPost.row he HF0.out HI0.out HO0.out HLT.out)
      have HSU : Hid (ofSt G n (k + 1) = (Gk ++ conL (n / 2 ^ k % 2), ok ++ [Gk.length])) := Lib.hid (by show ((ofSt G n k).1 ++ _, _) = _; rw [hst.out])
      clear hL hf
      have i1 : (0 : Int) ≤ (k : Int) := by omega
      have i2 : (k : Int) < (m : Int) := by omega
      have hbit : bits BinOp.and IntKind.u64 ((n : Int) / 2 ^ k) 1 = ((n / 2 ^ k % 2 : Nat) : Int) := by
        have e : (n : Int) / 2 ^ k = ((n / 2 ^ k : Nat) : Int) := by simp
        have l : n / 2 ^ k ≤ n := Nat.div_le_self _ _
        rw [e]
        generalize n / 2 ^ k = q at l
        rw [and_one_u64 _ (by omega) (by omega)]
        simp
      go_wp2_with (first | (go_at_call 29; (try rw [hbit]); refine HN.out.mono ?_; rintro e w1 ⟨rfl, x1, hI, hF, hO⟩; have HI1 := Lib.hid hI; have HF1 := Lib.hid hF; have HO1 := Lib.hid hO; clear hI hF hO) | (at_builtin; refine list_append_own (W0 := w1) (below_snoc (Below.refl _ _) _) w.heap.size rfl _ _ 38 3 _ 8 rfl Tryz.underlying38 infoInt rfl (by decide) u7 k _ (.int .i64 ((Gk.length : Nat) : Int)) rfl _ rfl (by simp) rfl HO1.out (by have h5 := HF1.out.size; omega) (by omega) ?_; intro v9 w9 hown9 hg9; have HO9 := Lib.hid hown9; have HI9 := Lib.hid (HI1.out.grown HB.out HO1.out (Nat.le_refl _) hg9); have HF9 := Lib.hid (HF1.out.grown HO1.out (Nat.le_refl _) hg9); clear hown9 hg9))
      go_roundg (m - (k + 1))
      case measure => omega
      case rel => exact ⟨k + 1, _, ok ++ [Gk.length], _, _, by omega, rfl, rfl, by go_num, HSU, by rw [nCells_snoc]; exact HO9.out, HI9.out, HF9.out⟩
    · obtain rfl : k = m := by omega
      have HST := hst
      go_wp2
      go_ret
      refine ⟨_, vk, rfl, ?_, HF0.out, ?_⟩
      · rw [HST.out]; exact HI0.out
      · rw [HST.out]; exact HO0.out
end Go.Proofs.YtkcdlbclodjjhaaGreat

/- Contracts of Clone of slots and gates, of a board's Circuit without exits. (Printed by wip/tools/gen_wq.py.) -/
namespace Go.Proofs.YtkcdlbclodjjhaaGreat
open Go.RowKit

section
variable {P : Program} {ops : Array Oper} {rest : List Oper} {o : Oper} {a : Act} {Q : Exit → Act → World → Prop}
/-- Elements of several cells are appended to a row of the call's own. -/
theorem app_rows {W : World} (base : Nat) (hgd : o.guard = none) (s x : Operand) (t e : TypeId) (z : Value) (size bytes : Nat)
    (ho : o.op = .call { callee := .builtin .append, args := #[s, x], argTypes := #[t, t] })
    (ht : P.underlying t = some (.slice e)) (hinfo : (P.info? e).map (fun i => (i.zero, i.size, i.bytes)) = some (some z, size, bytes)) (hz : z.cells.size = size) (hs0 : 0 < size) (hb0 : 0 < bytes)
    (v : Value) (n : Nat) (xs ys : List Value) (hs : a.eval s = v) (ad : Addr) (m c : Nat) (hx : a.eval x = .slice (some ad) m c) (hys : ys.length = m * size) (hr : ∀ j u, ys[j]? = some u → W.cell? (ad.add j) = some u) (h1 : ∀ u ∈ ys, u.oneCell' = true)
    (HO : W.ownsRow base e size v n xs) (hbase : base ≤ W.heap.size) (hl : (n + m) * bytes ≤ 140737488355328)
    (h : ∀ v1 w1, w1.ownsRow base e size v1 (n + m) (xs ++ ys) → W.grownBy w1 v.ownBlock → wpList P ops Q rest (a.put o.dst v1) w1) : wpList P ops Q (o :: rest) a W := by
  obtain ⟨i0, hi, hzz⟩ := Option.map_eq_some_iff.1 hinfo
  simp only [Prod.mk.injEq] at hzz
  obtain ⟨hz0, hz1, hz2⟩ := hzz
  have hlen : n + m ≤ 140737488355328 := Nat.le_trans (Nat.le_mul_of_pos_right _ hb0) hl
  exact wpList_append_own W hgd s x t ho base e i0 z size bytes ht hi hz0 hz1 hz2 hz hs0 v n xs hs HO ad m c ys hx hys hr h1 (by simp only [maxLen]; omega) hl hbase fun v1 w1 hown hg _ => h v1 w1 hown hg
end
theorem own_emptyN (w : World) (e : TypeId) (size : Nat) : (w.alloc (.cells #[] e)).ownsRow w.heap.size e size (.slice (some ⟨w.heap.size, 0, none⟩) 0 0) 0 [] :=
  ⟨by simp, .inr ⟨w.heap.size, 0, #[], rfl, Nat.le_refl _, heap_alloc_new w _, Nat.le_refl _, Nat.zero_le _, by simp, by simp⟩⟩
theorem infoSlo : (Tryz.prog.info? 40).map (fun i => (i.zero, i.size, i.bytes)) = some (some (.agg #[.int .i64 0, .bool false]), 2, 16) := by kernel_rfl
set_option maxRecDepth 100000 in
theorem cloneS_own (base n : Nat) (v : Value) (cs : List Value) (hn : n ≤ 65536) (h1 : ∀ u ∈ cs, u.oneCell' = true) (w : World) (ho : w.ownsRow base 40 2 v n cs) :
    Calls Tryz.prog 23 #[v] w fun e w' => ∃ v', e = .returned v' ∧ w'.ownsRow w.heap.size 40 2 v' n cs ∧ Below w.heap.size w w' := by
  have hcl := ho.1
  rcases ho.2 with ⟨rfl, rfl⟩ | ⟨g, cap, cur, rfl, hb, hg, hnc, hcm, hcs, htk⟩
  · obtain rfl : cs = [] := by simpa using hcl
    have hq2 : ∀ W, (binOp .eql 32 (.slice none 0 0) (.slice none 0 0)).run Tryz.prog W = .ok (.bool true) W := fun _ => by kernel_rfl
    go_enter Tryz.func23, Tryz.ntmps23
    go_wp2
    go_ret
    exact ⟨_, rfl, World.ownsRow_nil _ _ _ _, Below.refl _ _⟩
  · have hq1 : ∀ W, (binOp .eql 32 (.slice (some ⟨g, 0, none⟩) n cap) (.slice none 0 0)).run Tryz.prog W = .ok (.bool false) W := fun _ => by kernel_rfl
    have hr : ∀ j u, cs[j]? = some u → (w.alloc (.cells #[] 40)).cell? ((⟨g, 0, none⟩ : Addr).add j) = some u := fun j u hj => by
      have h5 := ho.cells (g := g) rfl j u hj
      exact (((Below.refl w.heap.size w).alloc (Nat.le_refl _) _).cell (World.block_lt_of_cell? _ _ h5)).trans h5
    have HR := Lib.hid hr
    have H1 := Lib.hid h1
    have HL := Lib.hid hcl
    clear hr ho hcl htk hg hcs h1
    go_enter Tryz.func23, Tryz.ntmps23
    go_wp2_with (at_builtin; refine app_rows w.heap.size rfl _ _ 32 40 _ 2 16 rfl Tryz.underlying32 infoSlo rfl (by decide) (by decide) _ 0 [] cs rfl ⟨g, 0, none⟩ n cap rfl HL.out HR.out H1.out (own_emptyN w _ _) (by simp) (by omega) ?_; intro v3 w3 hown3 hg3; have HO3 := Lib.hid hown3; clear hown3; have HG3 := Lib.hid hg3; clear hg3)
    go_ret
    exact ⟨_, rfl, by have h := HO3.out; rw [Nat.zero_add, List.nil_append] at h; exact h, ((Below.refl _ _).alloc (Nat.le_refl _) _).grown HG3.out (by simp) (fun q hq => by cases hq; exact Nat.le_refl _)⟩
set_option maxRecDepth 100000 in
theorem cloneG_own (base n : Nat) (v : Value) (cs : List Value) (hn : n ≤ 65536) (h1 : ∀ u ∈ cs, u.oneCell' = true) (w : World) (ho : w.ownsRow base 42 4 v n cs) :
    Calls Tryz.prog 24 #[v] w fun e w' => ∃ v', e = .returned v' ∧ w'.ownsRow w.heap.size 42 4 v' n cs ∧ Below w.heap.size w w' := by
  have hcl := ho.1
  rcases ho.2 with ⟨rfl, rfl⟩ | ⟨g, cap, cur, rfl, hb, hg, hnc, hcm, hcs, htk⟩
  · obtain rfl : cs = [] := by simpa using hcl
    have hq2 : ∀ W, (binOp .eql 33 (.slice none 0 0) (.slice none 0 0)).run Tryz.prog W = .ok (.bool true) W := fun _ => by kernel_rfl
    go_enter Tryz.func24, Tryz.ntmps24
    go_wp2
    go_ret
    exact ⟨_, rfl, World.ownsRow_nil _ _ _ _, Below.refl _ _⟩
  · have hq1 : ∀ W, (binOp .eql 33 (.slice (some ⟨g, 0, none⟩) n cap) (.slice none 0 0)).run Tryz.prog W = .ok (.bool false) W := fun _ => by kernel_rfl
    have hr : ∀ j u, cs[j]? = some u → (w.alloc (.cells #[] 42)).cell? ((⟨g, 0, none⟩ : Addr).add j) = some u := fun j u hj => by
      have h5 := ho.cells (g := g) rfl j u hj
      exact (((Below.refl w.heap.size w).alloc (Nat.le_refl _) _).cell (World.block_lt_of_cell? _ _ h5)).trans h5
    have HR := Lib.hid hr
    have H1 := Lib.hid h1
    have HL := Lib.hid hcl
    clear hr ho hcl htk hg hcs h1
    go_enter Tryz.func24, Tryz.ntmps24
    go_wp2_with (at_builtin; refine app_rows w.heap.size rfl _ _ 33 42 _ 4 32 rfl Tryz.underlying33 infoGat rfl (by decide) (by decide) _ 0 [] cs rfl ⟨g, 0, none⟩ n cap rfl HL.out HR.out H1.out (own_emptyN w _ _) (by simp) (by omega) ?_; intro v3 w3 hown3 hg3; have HO3 := Lib.hid hown3; clear hown3; have HG3 := Lib.hid hg3; clear hg3)
    go_ret
    exact ⟨_, rfl, by have h := HO3.out; rw [Nat.zero_add, List.nil_append] at h; exact h, ((Below.refl _ _).alloc (Nat.le_refl _) _).grown HG3.out (by simp) (fun q hq => by cases hq; exact Nat.le_refl _)⟩
theorem own_box {W : World} {base n size k j : Nat} {e t : TypeId} {v u : Value} {cs : List Value} {xs : Array Value} {fr : Nat × Nat} (ho : W.ownsRow base e size v n cs) (hb : W.heap[k]? = some (.cells xs t fr)) (ht : t ≠ e) : (W.setCell ⟨k, j, none⟩ u).ownsRow base e size v n cs := by
  refine ho.kept (grown_box W k j u) ?_
  rcases ho.2 with ⟨rfl, _⟩ | ⟨g, cap, cur, rfl, _, hgg, _⟩
  · exact .inl rfl
  · refine .inr fun e2 => ?_
    have e3 : g = k := by simpa [Value.ownBlock] using e2
    subst e3
    rw [hgg] at hb
    injection hb with hb
    injection hb with _ hb _
    exact ht hb.symm
theorem box_store {W : World} {k : Nat} {a b c x y z : Value} {t : TypeId} (h : W.heap[k]? = some (.cells #[a, b, c] t (0, 0))) : (((W.setCell ⟨k, 0, none⟩ x).setCell ⟨k, 1, none⟩ y).setCell ⟨k, 2, none⟩ z).heap[k]? = some (.cells #[x, y, z] t (0, 0)) := by
  have h1 := box_set h (i := 0) x
  have h2 := box_set h1 (i := 1) y
  have h3 := box_set h2 (i := 2) z
  simpa using h3
theorem own_store {W : World} {k : Nat} {a b c x y z : Value} {t e : TypeId} (h : W.heap[k]? = some (.cells #[a, b, c] t (0, 0))) {base n size : Nat} {v : Value} {cs : List Value} (ho : W.ownsRow base e size v n cs) (ht : t ≠ e) : (((W.setCell ⟨k, 0, none⟩ x).setCell ⟨k, 1, none⟩ y).setCell ⟨k, 2, none⟩ z).ownsRow base e size v n cs :=
  own_box (own_box (own_box ho h ht) (box_set h (i := 0) x) ht) (box_set (box_set h (i := 0) x) (i := 1) y) ht
theorem far_store {W : World} {b k : Nat} {o : Obj} {x y z : Value} (h : W.heap[b]? = some o) (hne : b ≠ k) : (((W.setCell ⟨k, 0, none⟩ x).setCell ⟨k, 1, none⟩ y).setCell ⟨k, 2, none⟩ z).heap[b]? = some o := by
  rw [Below.heap_setCell _ _ _ _ (by simpa using hne), Below.heap_setCell _ _ _ _ (by simpa using hne), Below.heap_setCell _ _ _ _ (by simpa using hne)]; exact h
theorem below_store {n : Nat} {w W : World} {k : Nat} {x y z : Value} (h : Below n w W) (hk : n ≤ k) : Below n w (((W.setCell ⟨k, 0, none⟩ x).setCell ⟨k, 1, none⟩ y).setCell ⟨k, 2, none⟩ z) :=
  ((h.setCell (p := ⟨k, 0, none⟩) hk _).setCell (p := ⟨k, 1, none⟩) hk _).setCell (p := ⟨k, 2, none⟩) hk _
theorem results_cell_tmp1 {fn : Func} {p : Tmp} {ty : TypeId} (h : fn.results = #[.cell p ty]) (tmps : Array Value) (P : Program) (w : World) :
    (results fn tmps).run P w = ((asAddr (tmps.getD p undef)).run P w).andThen fun a w₁ => (loadVar ty a).run P w₁ := by
  simp only [results, h]
  simp [Sem.run_bind, Result.andThen]
theorem one_slo (l : List Slo) : ∀ u ∈ sloCells l, u.oneCell' = true := by
  intro u hu
  obtain ⟨x, _, hx⟩ := List.mem_flatMap.1 hu
  simp at hx
  rcases hx with rfl | rfl <;> rfl
theorem one_gat (l : List Gat) : ∀ u ∈ gatCells l, u.oneCell' = true := by
  intro u hu
  obtain ⟨x, _, hx⟩ := List.mem_flatMap.1 hu
  simp at hx
  rcases hx with rfl | rfl | rfl | rfl <;> rfl
set_option maxHeartbeats 4000000 in
set_option maxRecDepth 10000000 in
theorem circuit_ok (B p : Nat) (hp : 0 < p) (sl : List Slo) (G : List Gat) (v1 v2 : Value) (hs : sl.length ≤ 65536) (hg : G.length ≤ 65536) (w : World) (h : IsB B p sl G [] v1 v2 nilS w) :
    Calls Tryz.prog 8 #[.pointer (some ⟨B, 0, none⟩)] w fun e W' => ∃ S sc Ga gc, e = .returned (.agg #[.slice S sl.length sc, .slice Ga G.length gc, nilS]) ∧ W'.ownsRow w.heap.size 40 2 (.slice S sl.length sc) sl.length (sloCells sl) ∧ W'.ownsRow w.heap.size 42 4 (.slice Ga G.length gc) G.length (gatCells G) ∧ Below w.heap.size w W' := by
  have HM := Lib.hid (fun W q => made_any B p hp W q)
  have HI := Lib.hid h
  have q0 := (box4 h.hb).1
  have hlt := h.lt
  have HS : Hid (∀ W, Below w.heap.size w W → Calls Tryz.prog 23 #[v1] W fun e w' => ∃ S sc, e = .returned (.slice S sl.length sc) ∧ w'.ownsRow W.heap.size 40 2 (.slice S sl.length sc) sl.length (sloCells sl) ∧ Below W.heap.size W w' ∧ Below w.heap.size w w') :=
    Lib.hid fun W hb => (cloneS_own (B + 1) sl.length v1 (sloCells sl) hs (one_slo sl) W (own_below h.h1 hb)).mono fun _ _ he => by
      obtain ⟨v', e1, h2, h3⟩ := he
      obtain ⟨S, sc, rfl, _⟩ := own_reads h2
      exact ⟨S, sc, e1, h2, h3, hb.trans (h3.mono hb.size)⟩
  have HG : Hid (∀ W, Below w.heap.size w W → Calls Tryz.prog 24 #[v2] W fun e w' => ∃ S sc, e = .returned (.slice S G.length sc) ∧ w'.ownsRow W.heap.size 42 4 (.slice S G.length sc) G.length (gatCells G) ∧ Below W.heap.size W w' ∧ Below w.heap.size w w') :=
    Lib.hid fun W hb => (cloneG_own (B + 1) G.length v2 (gatCells G) hg (one_gat G) W (own_below h.h2 hb)).mono fun _ _ he => by
      obtain ⟨v', e1, h2, h3⟩ := he
      obtain ⟨S, sc, rfl, _⟩ := own_reads h2
      exact ⟨S, sc, e1, h2, h3, hb.trans (h3.mono hb.size)⟩
  obtain ⟨SA, sc0, rfl, _⟩ := own_reads h.h1
  obtain ⟨GA, gc0, rfl, _⟩ := own_reads h.h2
  clear h
  go_enter Tryz.func8, Tryz.ntmps8
  go_wp2_with (go_at_call 22; refine (HM.out _ (cell_al q0)).mono ?_; rintro e w1 ⟨rfl, hw1⟩; have HW1 := Lib.hid hw1; clear hw1)
  have hb1 : Below w.heap.size w w1 := by rw [← HW1.out]; exact (Below.refl _ _).alloc (Nat.le_refl _) _
  have k0 : w1.heap[w.heap.size]? = some (.cells #[nilS, nilS, nilS] 36 (0, 0)) := by rw [← HW1.out]; exact heap_alloc_new w _
  have l0 : w.heap.size < w1.heap.size := (Array.getElem?_eq_some_iff.1 k0).1
  have HB1 := Lib.hid hb1; have HK0 := Lib.hid k0
  clear q0 HW1 k0
  have hbx : ∀ W, Below w.heap.size w W → W.cell? ⟨B, 1, none⟩ = some (.slice SA sl.length sc0) ∧ W.cell? ⟨B, 2, none⟩ = some (.slice GA G.length gc0) := fun W hb => by
    have h5 := box4 ((hb.block _ hlt).trans HI.out.hb)
    exact ⟨h5.2.1, h5.2.2.1⟩
  have HBX := Lib.hid hbx
  have q1 := (hbx w1 hb1).1
  have q2 := (hbx w1 hb1).2
  have q3 := (box4 ((hb1.block _ hlt).trans HI.out.hb)).2.2.2.1
  clear hbx hb1
  go_upto_region 3 with fail
  go_cut [3] (fun s3 wx => ∃ (k : Nat) (S : Option Addr) (sc : Nat) (Ga : Option Addr) (gc : Nat), s3 = .pointer (some ⟨k, 0, none⟩) ∧ w.heap.size < k ∧ wx.heap[k]? = some (.cells #[.slice S sl.length sc, .slice Ga G.length gc, nilS] 36 (0, 0)) ∧ wx.ownsRow w.heap.size 40 2 (.slice S sl.length sc) sl.length (sloCells sl) ∧ wx.ownsRow w.heap.size 42 4 (.slice Ga G.length gc) G.length (gatCells G) ∧ Below w.heap.size w wx ∧ wx.heap[w.heap.size]? = some (.cells #[nilS, nilS, nilS] 36 (0, 0)))
  case first =>
    go_region_held3 (fun W => W.cell? ⟨B, 1, none⟩ = some (.slice SA sl.length sc0) ∧ W.cell? ⟨B, 2, none⟩ = some (.slice GA G.length gc0)) (exact HBX.out _ (by repeat (first | exact HB3.out | exact HB2.out | exact HB1.out | refine Below.drew ?_ | refine Below.setCell ?_ (by first | omega | (simp; omega)) _ | refine Below.alloc ?_ (by first | exact HB3.out.size | exact HB2.out.size | exact HB1.out.size | exact HB1.out.drew.size) _))) (first
      | (go_at_call 23; refine (HS.out _ (by repeat (first | exact HB3.out | exact HB2.out | exact HB1.out | refine Below.drew ?_ | refine Below.setCell ?_ (by first | omega | (simp; omega)) _ | refine Below.alloc ?_ (by first | exact HB3.out.size | exact HB2.out.size | exact HB1.out.size | exact HB1.out.drew.size) _))).mono ?_; rintro e w2 ⟨S2, sc2, rfl, hO2, hb2, hbw⟩; have x12 : Below w1.heap.size w1 w2 := (by first | exact (Below.refl w1.heap.size w1).drew.trans hb2 | exact ((Below.refl w1.heap.size w1).alloc (Nat.le_refl _) _).drew.trans (hb2.mono (by simp))); have y2 := x12.size; have X12 := Lib.hid x12; have HO2 := Lib.hid (own_lower hO2 (show w.heap.size ≤ _ by first | (simp; omega) | omega)); clear x12; (try (have kk2 : w2.heap[w1.heap.size]? = some (.cells #[nilS, nilS, nilS] 36 (0, 0)) := (hb2.block w1.heap.size (by simp)).trans (heap_alloc_new w1 _); obtain ⟨c0, c1, c2, f0, f1, f2⟩ := box_facts kk2)); have z2 := hbw.size; have HB2 := Lib.hid hbw; clear hbw hO2 hb2)
      | (go_at_call 24; refine (HG.out _ (by repeat (first | exact HB3.out | exact HB2.out | exact HB1.out | refine Below.drew ?_ | refine Below.setCell ?_ (by first | omega | (simp; omega)) _ | refine Below.alloc ?_ (by first | exact HB3.out.size | exact HB2.out.size | exact HB1.out.size | exact HB1.out.drew.size) _))).mono ?_; rintro e w3 ⟨S3, sc3, rfl, hO3, hb3, hbw⟩; have x23 : Below w2.heap.size w2 w3 := (by first | exact hb3 | exact ((Below.refl w2.heap.size w2).alloc (Nat.le_refl _) _).trans (hb3.mono (by simp))); have y3 := x23.size; have X23 := Lib.hid x23; have HO3 := Lib.hid (own_lower hO3 (show w.heap.size ≤ _ by first | (simp; omega) | omega)); clear x23; (try (have kk3 : w3.heap[w1.heap.size]? = some (.cells #[nilS, nilS, nilS] 36 (0, 0)) := (hb3.block w1.heap.size (World.block_lt_of_cell? _ _ c0)).trans kk2; clear c0 c1 c2 f0 f1 f2; obtain ⟨c0, c1, c2, f0, f1, f2⟩ := box_facts kk3)); (try (have kk4 : w3.heap[w2.heap.size]? = some (.cells #[nilS, nilS, nilS] 36 (0, 0)) := (hb3.block w2.heap.size (by simp)).trans (heap_alloc_new w2 _); obtain ⟨c0, c1, c2, f0, f1, f2⟩ := box_facts kk4)); have z3 := hbw.size; have HB3 := Lib.hid hbw; clear hbw hO3 hb3))
    all_goals (go_wp2_with fail; go_meet)
    all_goals have hk1 := (X23.out.block w.heap.size (by omega)).trans ((X12.out.block w.heap.size l0).trans HK0.out)
    all_goals have hO2 := own_below HO2.out X23.out
    all_goals first
      | exact ⟨w3.heap.size, S2, sc2, S3, sc3, rfl, by omega, heap_alloc_new w3 _, hO2.alloc _, HO3.out.alloc _, HB3.out.alloc HB3.out.size _, by rw [Below.heap_alloc _ _ _ (by omega)]; exact hk1⟩
      | exact ⟨w2.heap.size, S2, sc2, S3, sc3, rfl, by omega, box_store kk4, own_store kk4 hO2 (by decide), own_store kk4 HO3.out (by decide), below_store HB3.out (by omega), far_store hk1 (by omega)⟩
      | exact ⟨w1.heap.size, S2, sc2, S3, sc3, rfl, by omega, box_store kk3, own_store kk3 hO2 (by decide), own_store kk3 HO3.out (by decide), below_store HB3.out (by omega), far_store hk1 (by omega)⟩
  case rest =>
  obtain ⟨k, S, sc, Ga, gc, rfl, hkw, hbx, hO2, hO3, hB, hbr⟩ := hcut
  have q3' := (box4 ((hB.block _ hlt).trans HI.out.hb)).2.2.2.1
  obtain ⟨c0, c1, c2, f0, f1, f2⟩ := box_facts hbx
  obtain ⟨d0, d1, d2, g0, g1, g2⟩ := box_facts hbr
  have HO2 := Lib.hid hO2; have HO3 := Lib.hid hO3; have HBX2 := Lib.hid hB; have HBR := Lib.hid hbr
  clear hO2 hO3 hB hbx hbr q1 q2 q3
  go_wp2
  go_loopg [29] 0 (fun g i wr => i = .int .i64 0 ∧ g = 0 ∧ wc = wr)
  case atStart => exact ⟨rfl, rfl, rfl⟩
  case round =>
    obtain ⟨rfl, rfl, rfl⟩ := hrel
    go_wp2
    refine bodyPost_ret (v := .agg #[.slice S sl.length sc, .slice Ga G.length gc, nilS]) ?_ rfl ⟨S, sc, Ga, gc, rfl, own_store HBR.out HO2.out (by decide), own_store HBR.out HO3.out (by decide), below_store HBX2.out (Nat.le_refl _)⟩
    rw [results_cell_tmp1 rfl]
    go_simp
end Go.Proofs.YtkcdlbclodjjhaaGreat

/- A region that draws its order, walked by an invariant over what has run. -/
namespace Go.Proofs.YtkcdlbclodjjhaaGreat
open Go.RowKit

section
variable {P : Program} {ops : Array Oper} {Q : Exit → Act → World → Prop}
theorem wpAny_inv (hac : ∀ (i : Nat) (o : Oper), ops[i]? = some o → ∀ e ∈ o.after, e.on < i) (I : (Nat → Bool) → Act → World → Prop)
    (hs : ∀ (i : Nat) (o : Oper) (L : Nat → Bool) (a : Act) (w : World), ops[i]? = some o → I L a w → L i = false → (∀ e ∈ o.after, Region.binds .any e = true → L e.on = true) →
      (∀ (j : Nat) (oj : Oper), ops[j]? = some oj → L j = true → ∀ e ∈ oj.after, Region.binds .any e = true → L e.on = true) → wpOp P ops Q i (I (fun j => decide (j = i) || L j)) a w)
    (he : ∀ (L : Nat → Bool) (a : Act) (w : World), I L a w → (∀ i, i < ops.size → L i = true) → Q .normal a w) :
    ∀ (fuel : Nat) (listed : Array Bool) (a : Act) (w : World), listed.size = ops.size → ((List.range ops.size).filter fun j => !listed.getD j false).length ≤ fuel →
      (∀ (j : Nat) (oj : Oper), ops[j]? = some oj → listed.getD j false = true → ∀ e ∈ oj.after, Region.binds .any e = true → listed.getD e.on false = true) →
      I (fun j => listed.getD j false) a w → wpAny P .any ops Q fuel listed a w := by
  have hdone : ∀ (listed : Array Bool), listed.size = ops.size → Region.ready .any ops listed = [] → ∀ i, i < ops.size → listed.getD i false = true := by
    intro listed hz hr i
    induction i using Nat.strongRecOn with
    | _ i ih =>
      intro hi
      cases hl : listed.getD i false with
      | true => rfl
      | false =>
        exfalso
        have : i ∈ Region.ready .any ops listed := mem_ready.2 ⟨getD_in (by omega) hl, ops[i], Array.getElem?_eq_getElem hi, fun e he' _ => ih e.on (hac i _ (Array.getElem?_eq_getElem hi) e he') (by have := hac i _ (Array.getElem?_eq_getElem hi) e he'; omega)⟩
        rw [hr] at this
        cases this
  intro fuel
  induction fuel with
  | zero =>
    intro listed a w hz hc _ hI
    have hall : ∀ i, i < ops.size → listed.getD i false = true := by
      intro i hi
      have h0 : ((List.range ops.size).filter fun j => !listed.getD j false) = [] := List.eq_nil_of_length_eq_zero (by omega)
      have h1 := List.filter_eq_nil_iff.1 h0 i (List.mem_range.2 hi)
      simpa using h1
    refine ⟨?_, he _ _ _ hI hall⟩
    cases hr : Region.ready .any ops listed with
    | nil => rfl
    | cons x xs =>
      exfalso
      have hx : x ∈ Region.ready .any ops listed := by rw [hr]; simp
      obtain ⟨h1, o, ho, _⟩ := mem_ready.1 hx
      have h2 := hall x (Array.getElem?_eq_some_iff.1 ho).1
      rw [getD_both h1] at h2
      cases h2
  | succ fuel ih =>
    intro listed a w hz hc hcl hI
    refine ⟨fun hr => he _ _ _ hI (hdone listed hz hr), fun i hi => ?_⟩
    obtain ⟨h1, o, ho, hd⟩ := mem_ready.1 hi
    have hib := (Array.getElem?_eq_some_iff.1 ho).1
    refine wpOp_mono (fun a' w' h' => ih _ a' w' (by simpa using hz) ?_ ?_ ?_) (hs i o _ a w ho hI (getD_both h1) hd hcl)
    · have hlt : ((List.range ops.size).filter fun j => !(listed.setIfInBounds i true).getD j false).length < ((List.range ops.size).filter fun j => !listed.getD j false).length := by
        rw [← List.countP_eq_length_filter, ← List.countP_eq_length_filter]
        have key : ∀ (l : List Nat), i ∈ l → (List.countP (fun j => !(listed.setIfInBounds i true).getD j false) l) < List.countP (fun j => !listed.getD j false) l := by
          have hle : ∀ (l : List Nat), (List.countP (fun j => !(listed.setIfInBounds i true).getD j false) l) ≤ List.countP (fun j => !listed.getD j false) l := fun l => List.countP_mono_left fun x _ hx => by
            by_cases hxi : i = x
            · subst hxi; rw [getD_both h1]; rfl
            · rw [getD_set_ne false hxi] at hx; exact hx
          intro l
          induction l with
          | nil => intro h; cases h
          | cons x xs ihl =>
            intro h
            rw [List.countP_cons, List.countP_cons]
            by_cases hxi : i = x
            · subst hxi
              have e1 : (listed.setIfInBounds i true).getD i false = true := by
                have : i < listed.size := by omega
                simp [this]
              rw [e1, getD_both h1]
              have := hle xs
              rw [if_neg (by simp), if_pos (by simp)]
              omega
            · rw [getD_set_ne false hxi]
              have := ihl (by rcases List.mem_cons.1 h with h | h; exact absurd h hxi; exact h)
              omega
        exact key _ (List.mem_range.2 hib)
      omega
    · intro j oj hoj hl e he' hb
      by_cases hij : i = j
      · subst hij
        have : oj = o := Option.some.inj (hoj.symm.trans ho)
        subst this
        exact getD_set_true (hd e he' hb)
      · rw [getD_set_ne false hij] at hl
        exact getD_set_true (hcl j oj hoj hl e he' hb)
    · have : (fun j => (listed.setIfInBounds i true).getD j false) = (fun j => decide (j = i) || listed.getD j false) := by
        funext j
        by_cases hij : i = j
        · subst hij
          have : i < listed.size := by omega
          simp [this]
        · rw [getD_set_ne false hij]
          simp [Ne.symm hij]
      rw [this]
      exact h'
theorem afters_of (h : ((List.range ops.size).all fun i => ((ops[i]?).map (·.after.all fun e => decide (e.on < i))).getD true) = true) : ∀ (i : Nat) (o : Oper), ops[i]? = some o → ∀ e ∈ o.after, e.on < i := by
  intro i o ho e he
  have h1 := List.all_eq_true.1 h i (List.mem_range.2 (Array.getElem?_eq_some_iff.1 ho).1)
  rw [ho] at h1
  have h2 : (o.after.all fun e => decide (e.on < i)) = true := h1
  obtain ⟨n, hn, hne⟩ := Array.mem_iff_getElem.1 he
  have h3 := Array.all_eq_true.1 h2 n hn
  rw [hne] at h3
  exact of_decide_eq_true h3
/-- A region that draws its order, by an invariant over the operations that have run. -/
theorem wp_region_inv {id : Nat} {a : Act} {w : World} (hm : P.follows .mixedOrders = true) (hac : ∀ (i : Nat) (o : Oper), ops[i]? = some o → ∀ e ∈ o.after, e.on < i) (I : (Nat → Bool) → Act → World → Prop)
    (h0 : I (fun _ => false) a w.drew)
    (hs : ∀ (i : Nat) (o : Oper) (L : Nat → Bool) (a : Act) (w : World), ops[i]? = some o → I L a w → L i = false → (∀ e ∈ o.after, Region.binds .any e = true → L e.on = true) →
      (∀ (j : Nat) (oj : Oper), ops[j]? = some oj → L j = true → ∀ e ∈ oj.after, Region.binds .any e = true → L e.on = true) → wpOp P ops Q i (I (fun j => decide (j = i) || L j)) a w)
    (he : ∀ (L : Nat → Bool) (a : Act) (w : World), I L a w → (∀ i, i < ops.size → L i = true) → Q .normal a w) : (Code.region id ops true).wp P Q a w := by
  refine wp_region_any hm ?_
  refine wpAny_inv hac I hs he _ _ _ _ (by simp) ?_ ?_ ?_
  · exact Nat.le_trans (List.length_filter_le _ _) (by simp)
  · intro j oj _ hl; rw [getD_replicate_false] at hl; cases hl
  · have : (fun j => (Array.replicate ops.size false).getD j false) = fun _ => false := funext fun j => getD_replicate_false _ j
    rw [this]
    exact h0
/-- A row is appended to a row of the call's own: what is appended may be nil. -/
theorem step_app_any {o : Oper} {a : Act} {K : Act → World → Prop} {W : World} (base : Nat) (s x : Operand) (t e : TypeId) (z : Value) (size bytes : Nat)
    (ho : o.op = .call { callee := .builtin .append, args := #[s, x], argTypes := #[t, t] })
    (ht : P.underlying t = some (.slice e)) (hinfo : (P.info? e).map (fun i => (i.zero, i.size, i.bytes)) = some (some z, size, bytes)) (hz : z.cells.size = size) (hs0 : 0 < size) (hb0 : 0 < bytes)
    (v : Value) (n : Nat) (xs ys : List Value) (hs : a.eval s = v) (A : Option Addr) (m c : Nat) (hx : a.eval x = .slice A m c) (hys : ys.length = m * size) (hc : A = none → c = 0) (hr : Reads W A ys) (h1 : ∀ u ∈ ys, u.oneCell' = true)
    (HO : W.ownsRow base e size v n xs) (hbase : base ≤ W.heap.size) (hl : (n + m) * bytes ≤ 140737488355328)
    (h : ∀ v1 w1, w1.ownsRow base e size v1 (n + m) (xs ++ ys) → W.grownBy w1 v.ownBlock → K (a.put o.dst v1) w1) : Oper.wp P o a W K Q := by
  obtain ⟨i0, hi, hzz⟩ := Option.map_eq_some_iff.1 hinfo
  simp only [Prod.mk.injEq] at hzz
  obtain ⟨hz0, hz1, hz2⟩ := hzz
  have hlen : n + m ≤ 140737488355328 := Nat.le_trans (Nat.le_mul_of_pos_right _ hb0) hl
  cases A with
  | none =>
    have hn : ys = [] := by rcases hr with h2 | ⟨ad, h2, _⟩; exact h2; cases h2
    subst hn
    have hm0 : m = 0 := by
      have h3 : m * size = 0 := by simpa using hys.symm
      rcases Nat.mul_eq_zero.1 h3 with h2 | h2 <;> omega
    have hc0 := hc rfl
    subst hm0 hc0
    have hrun := run_append_owned_none (P := P) (w := W) base t o.type e i0 size ht hi v n xs HO
    unfold Oper.wp
    simp [execOp, ho, resolve, invoke, builtin, hs, hx, hrun, Result.andThen]
    exact h v W (by simpa using HO) ⟨rfl, rfl, rfl, Nat.le_refl _, fun _ _ _ => rfl⟩
  | some ad =>
    have hread : ∀ j u, ys[j]? = some u → W.cell? (ad.add j) = some u := by
      intro j u hj
      rcases hr with rfl | ⟨ad', h2, h3⟩
      · cases hj
      · cases h2; exact h3 j u hj
    exact wp_append_own W s x t ho base e i0 z size bytes ht hi hz0 hz1 hz2 hz hs0 v n xs hs HO ad m c ys hx hys hread h1 (by simp only [maxLen]; omega) hl hbase
      fun v1 w1 hown hg _ => h v1 w1 hown hg
end
end Go.Proofs.YtkcdlbclodjjhaaGreat

/- A region that draws its order and whose operations' values are all known: walked once, each operation by itself. -/
namespace Go.Proofs.YtkcdlbclodjjhaaGreat
open Go.RowKit

theorem belowN {B : Nat} {a w : World} (h : Below B a w) (n : Nat) : Below B a (w.drewN n) := ⟨h.os, h.tape, h.output, h.size, h.block⟩
/-- A region that draws its order: F L is the frame after the operations in L; K is what is known of the world all along. -/
theorem wp_region_det {P : Program} {ops : Array Oper} {Q : Exit → Act → World → Prop} {id : Nat} {w : World} {df : List Deferred} (hm : P.follows .mixedOrders = true) (hac : ((List.range ops.size).all fun i => ((ops[i]?).map (·.after.all fun e => decide (e.on < i))).getD true) = true) (F : (Nat → Bool) → Array Value) (K : World → Prop)
    (k0 : K w.drew)
    (hs : ∀ (i : Nat) (o : Oper) (L : Nat → Bool) (w : World), ops[i]? = some o → K w → (∀ e ∈ o.after, Region.binds .any e = true → L e.on = true) → wpOp P ops Q i (fun a' w' => a' = ⟨F (fun j => decide (j = i) || L j), df⟩ ∧ K w') ⟨F L, df⟩ w)
    (he : ∀ (L : Nat → Bool) (w : World), K w → (∀ i, i < ops.size → L i = true) → Q .normal ⟨F L, df⟩ w) : (Code.region id ops true).wp P Q ⟨F (fun _ => false), df⟩ w := by
  refine wp_region_inv hm (afters_of hac) (fun L a w => a = ⟨F L, df⟩ ∧ K w) ⟨rfl, k0⟩ ?_ ?_
  · rintro i o L a w ho ⟨rfl, hK⟩ _ hd _
    exact hs i o L w ho hK hd
  · rintro L a w ⟨rfl, hK⟩ hL
    exact he L w hK hL
end Go.Proofs.YtkcdlbclodjjhaaGreat
