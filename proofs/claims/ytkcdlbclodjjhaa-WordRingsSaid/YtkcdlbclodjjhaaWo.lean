/- Contracts of the board's Plus, Minus, Times, Same, Less, where there is room. (Printed by wip/tools/gen_meth.py.) -/
import Derived.Test.YtkcdlbclodjjhaaWn
namespace Go.Proofs.Ytkcdlbclodjjhaa
open Go.RowKit

theorem two (w : World) (o1 o2 : Obj) : ((w.alloc o1).alloc o2).heap[w.heap.size]? = some o1 ∧ ((w.alloc o1).alloc o2).heap[w.heap.size + 1]? = some o2 ∧ ((w.alloc o1).alloc o2).heap.size = w.heap.size + 1 + 1 ∧ Below w.heap.size w ((w.alloc o1).alloc o2) := by
  refine ⟨?_, ?_, by simp, (((Below.refl _ _).alloc (Nat.le_refl _) o1).alloc (by simp) o2)⟩
  · rw [Below.heap_alloc _ _ _ (by simp)]; exact heap_alloc_new w o1
  · have := heap_alloc_new (w.alloc o1) o2; simpa using this
set_option maxHeartbeats 1000000 in
set_option maxRecDepth 100000 in
theorem plusC_ok (B p : Nat) (hp : 1 < p) (sl : List Slo) (G : List Gat) (xs : List Exi) (v1 v2 v3 : Value) (vs ws : List Nat) (n : Nat) (hnv : vs.length = n) (hnw : ws.length = n) (h1 : 1 ≤ n) (h2 : n ≤ 16) (hvs : ∀ x ∈ vs, x < G.length) (hws : ∀ x ∈ ws, x < G.length) (va wa : Addr) (vc wc : Nat) (hf : G.length + (1 + 9 * n) ≤ 65536) (w : World) (h : IsB B p sl G xs v1 v2 v3 w) (hV : ∀ W v, Fr B v2 v w W → Reads W (some va) (nCells vs)) (hW : ∀ W v, Fr B v2 v w W → Reads W (some wa) (nCells ws)) (a1 a2 : Nat) (q1 : w.cell? ⟨a1, 0, none⟩ = some (.slice (some va) n vc)) (q2 : w.cell? ⟨a2, 0, none⟩ = some (.slice (some wa) n wc)) :
    Calls Try.prog 55 #[.iface 115 (.agg #[.pointer (some ⟨B, 0, none⟩)]), .pointer (some ⟨a1, 0, none⟩), .pointer (some ⟨a2, 0, none⟩)] w fun e W' => ∃ vo v, e = .returned vo ∧ IsB B p sl (plusSt G vs ws).1 xs v1 v v3 W' ∧ Fr B v2 v w W' ∧ W'.ownsRow w.heap.size 3 1 vo n (nCells (plusSt G vs ws).2.1) := by
  have h0 := plus_ok B p hp sl G xs v1 v2 v3 vs ws (some va) (some wa) vc wc (by omega) (by omega) hvs hws (by omega) w h hV hW
  rw [hnv] at h0
  have HR := Lib.hid h0
  clear h0 hV hW h hvs hws hf hnv hnw
  go_enter Try.func55, Try.ntmps55
  go_wp2_with (go_at_call 56; refine HR.out.mono ?_; rintro e w1 ⟨x2, vo, rfl, hI, hF, hO⟩; have HI := Lib.hid hI; have HF := Lib.hid hF; have HO := Lib.hid hO; clear hI hF hO)
  go_ret
  exact ⟨vo, x2, rfl, HI.out, HF.out, HO.out⟩
set_option maxHeartbeats 1000000 in
set_option maxRecDepth 100000 in
theorem plusM_ok (B p : Nat) (hp : 1 < p) (sl : List Slo) (G : List Gat) (xs : List Exi) (v1 v2 v3 : Value) (vs ws : List Nat) (n : Nat) (hnv : vs.length = n) (hnw : ws.length = n) (h1 : 1 ≤ n) (h2 : n ≤ 16) (hvs : ∀ x ∈ vs, x < G.length) (hws : ∀ x ∈ ws, x < G.length) (va wa : Addr) (vc wc : Nat) (hf : G.length + (1 + 9 * n) ≤ 65536) (w : World) (h : IsB B p sl G xs v1 v2 v3 w) (hV : ∀ W v, Fr B v2 v w W → Reads W (some va) (nCells vs)) (hW : ∀ W v, Fr B v2 v w W → Reads W (some wa) (nCells ws)) :
    Calls Try.prog 29 #[.pointer (some ⟨B, 0, none⟩), .slice (some va) n vc, .slice (some wa) n wc] w fun e W' => ∃ vo v, e = .returned (.tuple #[vo, .int .i64 0]) ∧ IsB B p sl (plusSt G vs ws).1 xs v1 v v3 W' ∧ Fr B v2 v w W' ∧ W'.ownsRow w.heap.size 3 1 vo n (nCells (plusSt G vs ws).2.1) := by
  have hmf : ∀ (fn : Fn) (first cap : Array Value) (w : World), (Instr.makeFunc fn first cap).run Try.prog w = .ok (.func fn first cap) w := fun _ _ _ _ => rfl
  obtain ⟨k0, k1, hsz, hb1⟩ := two w (.cells #[.slice (some va) n vc] 44) (.cells #[.slice (some wa) n wc] 44)
  have HD : Hid (Calls Try.prog 54 #[.pointer (some ⟨B, 0, none⟩), .slice (some va) n vc, .slice (some wa) n wc, .func (.func 55) #[] #[.pointer (some ⟨w.heap.size, 0, none⟩), .pointer (some ⟨w.heap.size + 1, 0, none⟩)]] ((w.alloc (.cells #[.slice (some va) n vc] 44)).alloc (.cells #[.slice (some wa) n wc] 44)) fun e W' => ∃ vo v, e = .returned (.tuple #[vo, .int .i64 0]) ∧ IsB B p sl (plusSt G vs ws).1 xs v1 v v3 W' ∧ Fr B v2 v w W' ∧ W'.ownsRow w.heap.size 3 1 vo n (nCells (plusSt G vs ws).2.1)) := Lib.hid (by
    have h0 := wordsW_ok B p hp sl G xs v1 v2 v3 (plusSt G vs ws).1 vs ws n hnv hnw h1 h2 hvs hws va wa vc wc 55 #[.pointer (some ⟨w.heap.size, 0, none⟩), .pointer (some ⟨w.heap.size + 1, 0, none⟩)] n (nCells (plusSt G vs ws).2.1) _ (h.below hb1) (hV _ _ (Fr.of_below hb1)) (hW _ _ (Fr.of_below hb1)) (fun _ _ => by kernel_rfl)
      (fun W hb => plusC_ok B p hp sl G xs v1 v2 v3 vs ws n hnv hnw h1 h2 hvs hws va wa vc wc hf W ((h.below hb1).below hb) (fun W' v' hf' => hV W' v' ((Fr.of_below (hb1.trans (hb.mono hb1.size))).trans hf')) (fun W' v' hf' => hW W' v' ((Fr.of_below (hb1.trans (hb.mono hb1.size))).trans hf')) w.heap.size (w.heap.size + 1) ((hb.cell (World.block_lt_of_cell? _ _ (box1 k0).1)).trans (box1 k0).1) ((hb.cell (World.block_lt_of_cell? _ _ (box1 k1).1)).trans (box1 k1).1))
    refine h0.mono fun _ _ he => ?_
    obtain ⟨vo, v, e1, h3, h4, h5⟩ := he
    exact ⟨vo, v, e1, h3, (Fr.of_below hb1).trans h4, own_lower h5 hb1.size⟩)
  clear hV hW h hvs hws hf hnv hnw k0 k1 hsz hb1
  go_enter Try.func29, Try.ntmps29
  go_wp2_with (go_at_call 54; refine HD.out.mono ?_; rintro e w1 ⟨vo, x2, rfl, hI, hF, hO⟩; have HI := Lib.hid hI; have HF := Lib.hid hF; have HO := Lib.hid hO; clear hI hF hO)
  refine bodyPost_ret (v := .tuple #[vo, .int .i64 0]) ?_ rfl ⟨vo, x2, rfl, HI.out, HF.out, HO.out⟩
  simp [results, Try.results29, go_sem]
set_option maxHeartbeats 1000000 in
set_option maxRecDepth 100000 in
theorem minusC_ok (B p : Nat) (hp : 1 < p) (sl : List Slo) (G : List Gat) (xs : List Exi) (v1 v2 v3 : Value) (vs ws : List Nat) (n : Nat) (hnv : vs.length = n) (hnw : ws.length = n) (h1 : 1 ≤ n) (h2 : n ≤ 16) (hvs : ∀ x ∈ vs, x < G.length) (hws : ∀ x ∈ ws, x < G.length) (va wa : Addr) (vc wc : Nat) (hf : G.length + (1 + 11 * n) ≤ 65536) (w : World) (h : IsB B p sl G xs v1 v2 v3 w) (hV : ∀ W v, Fr B v2 v w W → Reads W (some va) (nCells vs)) (hW : ∀ W v, Fr B v2 v w W → Reads W (some wa) (nCells ws)) (a1 a2 : Nat) (q1 : w.cell? ⟨a1, 0, none⟩ = some (.slice (some va) n vc)) (q2 : w.cell? ⟨a2, 0, none⟩ = some (.slice (some wa) n wc)) :
    Calls Try.prog 57 #[.iface 115 (.agg #[.pointer (some ⟨B, 0, none⟩)]), .pointer (some ⟨a1, 0, none⟩), .pointer (some ⟨a2, 0, none⟩)] w fun e W' => ∃ vo v, e = .returned vo ∧ IsB B p sl (minusSt G vs ws).1 xs v1 v v3 W' ∧ Fr B v2 v w W' ∧ W'.ownsRow w.heap.size 3 1 vo n (nCells (minusSt G vs ws).2.1) := by
  have h0 := minus_ok B p hp sl G xs v1 v2 v3 vs ws (some va) (some wa) vc wc (by omega) (by omega) hvs hws (by omega) w h hV hW
  rw [hnv] at h0
  have HR := Lib.hid h0
  clear h0 hV hW h hvs hws hf hnv hnw
  go_enter Try.func57, Try.ntmps57
  go_wp2_with (go_at_call 58; refine HR.out.mono ?_; rintro e w1 ⟨x2, vo, rfl, hI, hF, hO⟩; have HI := Lib.hid hI; have HF := Lib.hid hF; have HO := Lib.hid hO; clear hI hF hO)
  go_ret
  exact ⟨vo, x2, rfl, HI.out, HF.out, HO.out⟩
set_option maxHeartbeats 1000000 in
set_option maxRecDepth 100000 in
theorem minusM_ok (B p : Nat) (hp : 1 < p) (sl : List Slo) (G : List Gat) (xs : List Exi) (v1 v2 v3 : Value) (vs ws : List Nat) (n : Nat) (hnv : vs.length = n) (hnw : ws.length = n) (h1 : 1 ≤ n) (h2 : n ≤ 16) (hvs : ∀ x ∈ vs, x < G.length) (hws : ∀ x ∈ ws, x < G.length) (va wa : Addr) (vc wc : Nat) (hf : G.length + (1 + 11 * n) ≤ 65536) (w : World) (h : IsB B p sl G xs v1 v2 v3 w) (hV : ∀ W v, Fr B v2 v w W → Reads W (some va) (nCells vs)) (hW : ∀ W v, Fr B v2 v w W → Reads W (some wa) (nCells ws)) :
    Calls Try.prog 30 #[.pointer (some ⟨B, 0, none⟩), .slice (some va) n vc, .slice (some wa) n wc] w fun e W' => ∃ vo v, e = .returned (.tuple #[vo, .int .i64 0]) ∧ IsB B p sl (minusSt G vs ws).1 xs v1 v v3 W' ∧ Fr B v2 v w W' ∧ W'.ownsRow w.heap.size 3 1 vo n (nCells (minusSt G vs ws).2.1) := by
  have hmf : ∀ (fn : Fn) (first cap : Array Value) (w : World), (Instr.makeFunc fn first cap).run Try.prog w = .ok (.func fn first cap) w := fun _ _ _ _ => rfl
  obtain ⟨k0, k1, hsz, hb1⟩ := two w (.cells #[.slice (some va) n vc] 44) (.cells #[.slice (some wa) n wc] 44)
  have HD : Hid (Calls Try.prog 54 #[.pointer (some ⟨B, 0, none⟩), .slice (some va) n vc, .slice (some wa) n wc, .func (.func 57) #[] #[.pointer (some ⟨w.heap.size, 0, none⟩), .pointer (some ⟨w.heap.size + 1, 0, none⟩)]] ((w.alloc (.cells #[.slice (some va) n vc] 44)).alloc (.cells #[.slice (some wa) n wc] 44)) fun e W' => ∃ vo v, e = .returned (.tuple #[vo, .int .i64 0]) ∧ IsB B p sl (minusSt G vs ws).1 xs v1 v v3 W' ∧ Fr B v2 v w W' ∧ W'.ownsRow w.heap.size 3 1 vo n (nCells (minusSt G vs ws).2.1)) := Lib.hid (by
    have h0 := wordsW_ok B p hp sl G xs v1 v2 v3 (minusSt G vs ws).1 vs ws n hnv hnw h1 h2 hvs hws va wa vc wc 57 #[.pointer (some ⟨w.heap.size, 0, none⟩), .pointer (some ⟨w.heap.size + 1, 0, none⟩)] n (nCells (minusSt G vs ws).2.1) _ (h.below hb1) (hV _ _ (Fr.of_below hb1)) (hW _ _ (Fr.of_below hb1)) (fun _ _ => by kernel_rfl)
      (fun W hb => minusC_ok B p hp sl G xs v1 v2 v3 vs ws n hnv hnw h1 h2 hvs hws va wa vc wc hf W ((h.below hb1).below hb) (fun W' v' hf' => hV W' v' ((Fr.of_below (hb1.trans (hb.mono hb1.size))).trans hf')) (fun W' v' hf' => hW W' v' ((Fr.of_below (hb1.trans (hb.mono hb1.size))).trans hf')) w.heap.size (w.heap.size + 1) ((hb.cell (World.block_lt_of_cell? _ _ (box1 k0).1)).trans (box1 k0).1) ((hb.cell (World.block_lt_of_cell? _ _ (box1 k1).1)).trans (box1 k1).1))
    refine h0.mono fun _ _ he => ?_
    obtain ⟨vo, v, e1, h3, h4, h5⟩ := he
    exact ⟨vo, v, e1, h3, (Fr.of_below hb1).trans h4, own_lower h5 hb1.size⟩)
  clear hV hW h hvs hws hf hnv hnw k0 k1 hsz hb1
  go_enter Try.func30, Try.ntmps30
  go_wp2_with (go_at_call 54; refine HD.out.mono ?_; rintro e w1 ⟨vo, x2, rfl, hI, hF, hO⟩; have HI := Lib.hid hI; have HF := Lib.hid hF; have HO := Lib.hid hO; clear hI hF hO)
  refine bodyPost_ret (v := .tuple #[vo, .int .i64 0]) ?_ rfl ⟨vo, x2, rfl, HI.out, HF.out, HO.out⟩
  simp [results, Try.results30, go_sem]
set_option maxHeartbeats 1000000 in
set_option maxRecDepth 100000 in
theorem timesC_ok (B p : Nat) (hp : 1 < p) (sl : List Slo) (G : List Gat) (xs : List Exi) (v1 v2 v3 : Value) (vs ws : List Nat) (n : Nat) (hnv : vs.length = n) (hnw : ws.length = n) (h1 : 1 ≤ n) (h2 : n ≤ 16) (hvs : ∀ x ∈ vs, x < G.length) (hws : ∀ x ∈ ws, x < G.length) (va wa : Addr) (vc wc : Nat) (hcap : n ≤ vc) (hf : G.length + (n * (10 * n + 1)) ≤ 65536) (w : World) (h : IsB B p sl G xs v1 v2 v3 w) (hV : ∀ W v, Fr B v2 v w W → Reads W (some va) (nCells vs)) (hW : ∀ W v, Fr B v2 v w W → Reads W (some wa) (nCells ws)) (a1 a2 : Nat) (q1 : w.cell? ⟨a1, 0, none⟩ = some (.slice (some va) n vc)) (q2 : w.cell? ⟨a2, 0, none⟩ = some (.slice (some wa) n wc)) :
    Calls Try.prog 59 #[.iface 115 (.agg #[.pointer (some ⟨B, 0, none⟩)]), .pointer (some ⟨a1, 0, none⟩), .pointer (some ⟨a2, 0, none⟩)] w fun e W' => ∃ vo v, e = .returned vo ∧ IsB B p sl (timesSt G vs ws n).1 xs v1 v v3 W' ∧ Fr B v2 v w W' ∧ W'.ownsRow w.heap.size 3 1 vo n (nCells (timesSt G vs ws n).2) := by
  have h0 := times_ok B p hp sl G xs v1 v2 v3 vs ws (some va) (some wa) vc wc (by omega) (by omega) hvs hws (by omega) (by rw [hnv]; omega) w h hV hW
  rw [hnv] at h0
  have HR := Lib.hid h0
  clear h0 hV hW h hvs hws hf hnv hnw
  go_enter Try.func59, Try.ntmps59
  go_wp2_with (go_at_call 60; refine HR.out.mono ?_; rintro e w1 ⟨x2, vo, rfl, hI, hF, hO⟩; have HI := Lib.hid hI; have HF := Lib.hid hF; have HO := Lib.hid hO; clear hI hF hO)
  go_ret
  exact ⟨vo, x2, rfl, HI.out, HF.out, HO.out⟩
set_option maxHeartbeats 1000000 in
set_option maxRecDepth 100000 in
theorem timesM_ok (B p : Nat) (hp : 1 < p) (sl : List Slo) (G : List Gat) (xs : List Exi) (v1 v2 v3 : Value) (vs ws : List Nat) (n : Nat) (hnv : vs.length = n) (hnw : ws.length = n) (h1 : 1 ≤ n) (h2 : n ≤ 16) (hvs : ∀ x ∈ vs, x < G.length) (hws : ∀ x ∈ ws, x < G.length) (va wa : Addr) (vc wc : Nat) (hcap : n ≤ vc) (hf : G.length + (n * (10 * n + 1)) ≤ 65536) (w : World) (h : IsB B p sl G xs v1 v2 v3 w) (hV : ∀ W v, Fr B v2 v w W → Reads W (some va) (nCells vs)) (hW : ∀ W v, Fr B v2 v w W → Reads W (some wa) (nCells ws)) :
    Calls Try.prog 31 #[.pointer (some ⟨B, 0, none⟩), .slice (some va) n vc, .slice (some wa) n wc] w fun e W' => ∃ vo v, e = .returned (.tuple #[vo, .int .i64 0]) ∧ IsB B p sl (timesSt G vs ws n).1 xs v1 v v3 W' ∧ Fr B v2 v w W' ∧ W'.ownsRow w.heap.size 3 1 vo n (nCells (timesSt G vs ws n).2) := by
  have hmf : ∀ (fn : Fn) (first cap : Array Value) (w : World), (Instr.makeFunc fn first cap).run Try.prog w = .ok (.func fn first cap) w := fun _ _ _ _ => rfl
  obtain ⟨k0, k1, hsz, hb1⟩ := two w (.cells #[.slice (some va) n vc] 44) (.cells #[.slice (some wa) n wc] 44)
  have HD : Hid (Calls Try.prog 54 #[.pointer (some ⟨B, 0, none⟩), .slice (some va) n vc, .slice (some wa) n wc, .func (.func 59) #[] #[.pointer (some ⟨w.heap.size, 0, none⟩), .pointer (some ⟨w.heap.size + 1, 0, none⟩)]] ((w.alloc (.cells #[.slice (some va) n vc] 44)).alloc (.cells #[.slice (some wa) n wc] 44)) fun e W' => ∃ vo v, e = .returned (.tuple #[vo, .int .i64 0]) ∧ IsB B p sl (timesSt G vs ws n).1 xs v1 v v3 W' ∧ Fr B v2 v w W' ∧ W'.ownsRow w.heap.size 3 1 vo n (nCells (timesSt G vs ws n).2)) := Lib.hid (by
    have h0 := wordsW_ok B p hp sl G xs v1 v2 v3 (timesSt G vs ws n).1 vs ws n hnv hnw h1 h2 hvs hws va wa vc wc 59 #[.pointer (some ⟨w.heap.size, 0, none⟩), .pointer (some ⟨w.heap.size + 1, 0, none⟩)] n (nCells (timesSt G vs ws n).2) _ (h.below hb1) (hV _ _ (Fr.of_below hb1)) (hW _ _ (Fr.of_below hb1)) (fun _ _ => by kernel_rfl)
      (fun W hb => timesC_ok B p hp sl G xs v1 v2 v3 vs ws n hnv hnw h1 h2 hvs hws va wa vc wc hcap hf W ((h.below hb1).below hb) (fun W' v' hf' => hV W' v' ((Fr.of_below (hb1.trans (hb.mono hb1.size))).trans hf')) (fun W' v' hf' => hW W' v' ((Fr.of_below (hb1.trans (hb.mono hb1.size))).trans hf')) w.heap.size (w.heap.size + 1) ((hb.cell (World.block_lt_of_cell? _ _ (box1 k0).1)).trans (box1 k0).1) ((hb.cell (World.block_lt_of_cell? _ _ (box1 k1).1)).trans (box1 k1).1))
    refine h0.mono fun _ _ he => ?_
    obtain ⟨vo, v, e1, h3, h4, h5⟩ := he
    exact ⟨vo, v, e1, h3, (Fr.of_below hb1).trans h4, own_lower h5 hb1.size⟩)
  clear hV hW h hvs hws hf hnv hnw k0 k1 hsz hb1
  go_enter Try.func31, Try.ntmps31
  go_wp2_with (go_at_call 54; refine HD.out.mono ?_; rintro e w1 ⟨vo, x2, rfl, hI, hF, hO⟩; have HI := Lib.hid hI; have HF := Lib.hid hF; have HO := Lib.hid hO; clear hI hF hO)
  refine bodyPost_ret (v := .tuple #[vo, .int .i64 0]) ?_ rfl ⟨vo, x2, rfl, HI.out, HF.out, HO.out⟩
  simp [results, Try.results31, go_sem]
set_option maxHeartbeats 1000000 in
set_option maxRecDepth 100000 in
theorem sameC_ok (B p : Nat) (hp : 1 < p) (sl : List Slo) (G : List Gat) (xs : List Exi) (v1 v2 v3 : Value) (vs ws : List Nat) (n : Nat) (hnv : vs.length = n) (hnw : ws.length = n) (h1 : 1 ≤ n) (h2 : n ≤ 16) (hvs : ∀ x ∈ vs, x < G.length) (hws : ∀ x ∈ ws, x < G.length) (va wa : Addr) (vc wc : Nat) (hf : G.length + (1 + 7 * n) ≤ 65536) (w : World) (h : IsB B p sl G xs v1 v2 v3 w) (hV : ∀ W v, Fr B v2 v w W → Reads W (some va) (nCells vs)) (hW : ∀ W v, Fr B v2 v w W → Reads W (some wa) (nCells ws)) (a1 a2 : Nat) (q1 : w.cell? ⟨a1, 0, none⟩ = some (.slice (some va) n vc)) (q2 : w.cell? ⟨a2, 0, none⟩ = some (.slice (some wa) n wc)) :
    Calls Try.prog 34 #[.iface 115 (.agg #[.pointer (some ⟨B, 0, none⟩)]), .pointer (some ⟨a1, 0, none⟩), .pointer (some ⟨a2, 0, none⟩)] w fun e W' => ∃ v, e = .returned (.int .i64 (((sameSt G (vs.zip ws)).2 : Nat) : Int)) ∧ IsB B p sl (sameSt G (vs.zip ws)).1 xs v1 v v3 W' ∧ Fr B v2 v w W' := by
  have h0 := same_ok B p hp sl G xs v1 v2 v3 vs ws (some va) (some wa) vc wc (by omega) (by omega) hvs hws (by omega) w h hV hW
  rw [hnv] at h0
  have HR := Lib.hid h0
  clear h0 hV hW h hvs hws hf hnv hnw
  go_enter Try.func34, Try.ntmps34
  go_wp2_with (go_at_call 35; refine HR.out.mono ?_; rintro e w1 ⟨x2, rfl, hI, hF⟩; have HI := Lib.hid hI; have HF := Lib.hid hF; clear hI hF)
  go_ret
  exact ⟨x2, rfl, HI.out, HF.out⟩
set_option maxHeartbeats 1000000 in
set_option maxRecDepth 100000 in
theorem sameM_ok (B p : Nat) (hp : 1 < p) (sl : List Slo) (G : List Gat) (xs : List Exi) (v1 v2 v3 : Value) (vs ws : List Nat) (n : Nat) (hnv : vs.length = n) (hnw : ws.length = n) (h1 : 1 ≤ n) (h2 : n ≤ 16) (hvs : ∀ x ∈ vs, x < G.length) (hws : ∀ x ∈ ws, x < G.length) (va wa : Addr) (vc wc : Nat) (hf : G.length + (1 + 7 * n) ≤ 65536) (w : World) (h : IsB B p sl G xs v1 v2 v3 w) (hV : ∀ W v, Fr B v2 v w W → Reads W (some va) (nCells vs)) (hW : ∀ W v, Fr B v2 v w W → Reads W (some wa) (nCells ws)) :
    Calls Try.prog 16 #[.pointer (some ⟨B, 0, none⟩), .slice (some va) n vc, .slice (some wa) n wc] w fun e W' => ∃ v, e = .returned (.tuple #[.int .i64 (((sameSt G (vs.zip ws)).2 : Nat) : Int), .int .i64 0]) ∧ IsB B p sl (sameSt G (vs.zip ws)).1 xs v1 v v3 W' ∧ Fr B v2 v w W' := by
  have hmf : ∀ (fn : Fn) (first cap : Array Value) (w : World), (Instr.makeFunc fn first cap).run Try.prog w = .ok (.func fn first cap) w := fun _ _ _ _ => rfl
  obtain ⟨k0, k1, hsz, hb1⟩ := two w (.cells #[.slice (some va) n vc] 44) (.cells #[.slice (some wa) n wc] 44)
  have HD : Hid (Calls Try.prog 33 #[.pointer (some ⟨B, 0, none⟩), .slice (some va) n vc, .slice (some wa) n wc, .func (.func 34) #[] #[.pointer (some ⟨w.heap.size, 0, none⟩), .pointer (some ⟨w.heap.size + 1, 0, none⟩)]] ((w.alloc (.cells #[.slice (some va) n vc] 44)).alloc (.cells #[.slice (some wa) n wc] 44)) fun e W' => ∃ v, e = .returned (.tuple #[.int .i64 (((sameSt G (vs.zip ws)).2 : Nat) : Int), .int .i64 0]) ∧ IsB B p sl (sameSt G (vs.zip ws)).1 xs v1 v v3 W' ∧ Fr B v2 v w W') := Lib.hid (by
    have h0 := wordsI_ok B p hp sl G xs v1 v2 v3 (sameSt G (vs.zip ws)).1 vs ws n hnv hnw h1 h2 hvs hws va wa vc wc 34 #[.pointer (some ⟨w.heap.size, 0, none⟩), .pointer (some ⟨w.heap.size + 1, 0, none⟩)] (((sameSt G (vs.zip ws)).2 : Nat) : Int) _ (h.below hb1) (hV _ _ (Fr.of_below hb1)) (hW _ _ (Fr.of_below hb1)) (fun _ _ => by kernel_rfl)
      (fun W hb => sameC_ok B p hp sl G xs v1 v2 v3 vs ws n hnv hnw h1 h2 hvs hws va wa vc wc hf W ((h.below hb1).below hb) (fun W' v' hf' => hV W' v' ((Fr.of_below (hb1.trans (hb.mono hb1.size))).trans hf')) (fun W' v' hf' => hW W' v' ((Fr.of_below (hb1.trans (hb.mono hb1.size))).trans hf')) w.heap.size (w.heap.size + 1) ((hb.cell (World.block_lt_of_cell? _ _ (box1 k0).1)).trans (box1 k0).1) ((hb.cell (World.block_lt_of_cell? _ _ (box1 k1).1)).trans (box1 k1).1))
    refine h0.mono fun _ _ he => ?_
    obtain ⟨v, e1, h3, h4⟩ := he
    exact ⟨v, e1, h3, (Fr.of_below hb1).trans h4⟩)
  clear hV hW h hvs hws hf hnv hnw k0 k1 hsz hb1
  go_enter Try.func16, Try.ntmps16
  go_wp2_with (go_at_call 33; refine HD.out.mono ?_; rintro e w1 ⟨x2, rfl, hI, hF⟩; have HI := Lib.hid hI; have HF := Lib.hid hF; clear hI hF)
  refine bodyPost_ret (v := .tuple #[.int .i64 (((sameSt G (vs.zip ws)).2 : Nat) : Int), .int .i64 0]) ?_ rfl ⟨x2, rfl, HI.out, HF.out⟩
  simp [results, Try.results16, go_sem]
set_option maxHeartbeats 1000000 in
set_option maxRecDepth 100000 in
theorem lessC_ok (B p : Nat) (hp : 1 < p) (sl : List Slo) (G : List Gat) (xs : List Exi) (v1 v2 v3 : Value) (vs ws : List Nat) (n : Nat) (hnv : vs.length = n) (hnw : ws.length = n) (h1 : 1 ≤ n) (h2 : n ≤ 16) (hvs : ∀ x ∈ vs, x < G.length) (hws : ∀ x ∈ ws, x < G.length) (va wa : Addr) (vc wc : Nat) (hf : G.length + (3 + 11 * n) ≤ 65536) (w : World) (h : IsB B p sl G xs v1 v2 v3 w) (hV : ∀ W v, Fr B v2 v w W → Reads W (some va) (nCells vs)) (hW : ∀ W v, Fr B v2 v w W → Reads W (some wa) (nCells ws)) (a1 a2 : Nat) (q1 : w.cell? ⟨a1, 0, none⟩ = some (.slice (some va) n vc)) (q2 : w.cell? ⟨a2, 0, none⟩ = some (.slice (some wa) n wc)) :
    Calls Try.prog 36 #[.iface 115 (.agg #[.pointer (some ⟨B, 0, none⟩)]), .pointer (some ⟨a1, 0, none⟩), .pointer (some ⟨a2, 0, none⟩)] w fun e W' => ∃ v, e = .returned (.int .i64 (((belowSt G vs ws).2 : Nat) : Int)) ∧ IsB B p sl (belowSt G vs ws).1 xs v1 v v3 W' ∧ Fr B v2 v w W' := by
  have h0 := below_ok B p hp sl G xs v1 v2 v3 vs ws (some va) (some wa) vc wc (by omega) (by omega) hvs hws (by omega) w h hV hW
  rw [hnv] at h0
  have HR := Lib.hid h0
  clear h0 hV hW h hvs hws hf hnv hnw
  go_enter Try.func36, Try.ntmps36
  go_wp2_with (go_at_call 37; refine HR.out.mono ?_; rintro e w1 ⟨x2, rfl, hI, hF⟩; have HI := Lib.hid hI; have HF := Lib.hid hF; clear hI hF)
  go_ret
  exact ⟨x2, rfl, HI.out, HF.out⟩
set_option maxHeartbeats 1000000 in
set_option maxRecDepth 100000 in
theorem lessM_ok (B p : Nat) (hp : 1 < p) (sl : List Slo) (G : List Gat) (xs : List Exi) (v1 v2 v3 : Value) (vs ws : List Nat) (n : Nat) (hnv : vs.length = n) (hnw : ws.length = n) (h1 : 1 ≤ n) (h2 : n ≤ 16) (hvs : ∀ x ∈ vs, x < G.length) (hws : ∀ x ∈ ws, x < G.length) (va wa : Addr) (vc wc : Nat) (hf : G.length + (3 + 11 * n) ≤ 65536) (w : World) (h : IsB B p sl G xs v1 v2 v3 w) (hV : ∀ W v, Fr B v2 v w W → Reads W (some va) (nCells vs)) (hW : ∀ W v, Fr B v2 v w W → Reads W (some wa) (nCells ws)) :
    Calls Try.prog 17 #[.pointer (some ⟨B, 0, none⟩), .slice (some va) n vc, .slice (some wa) n wc] w fun e W' => ∃ v, e = .returned (.tuple #[.int .i64 (((belowSt G vs ws).2 : Nat) : Int), .int .i64 0]) ∧ IsB B p sl (belowSt G vs ws).1 xs v1 v v3 W' ∧ Fr B v2 v w W' := by
  have hmf : ∀ (fn : Fn) (first cap : Array Value) (w : World), (Instr.makeFunc fn first cap).run Try.prog w = .ok (.func fn first cap) w := fun _ _ _ _ => rfl
  obtain ⟨k0, k1, hsz, hb1⟩ := two w (.cells #[.slice (some va) n vc] 44) (.cells #[.slice (some wa) n wc] 44)
  have HD : Hid (Calls Try.prog 33 #[.pointer (some ⟨B, 0, none⟩), .slice (some va) n vc, .slice (some wa) n wc, .func (.func 36) #[] #[.pointer (some ⟨w.heap.size, 0, none⟩), .pointer (some ⟨w.heap.size + 1, 0, none⟩)]] ((w.alloc (.cells #[.slice (some va) n vc] 44)).alloc (.cells #[.slice (some wa) n wc] 44)) fun e W' => ∃ v, e = .returned (.tuple #[.int .i64 (((belowSt G vs ws).2 : Nat) : Int), .int .i64 0]) ∧ IsB B p sl (belowSt G vs ws).1 xs v1 v v3 W' ∧ Fr B v2 v w W') := Lib.hid (by
    have h0 := wordsI_ok B p hp sl G xs v1 v2 v3 (belowSt G vs ws).1 vs ws n hnv hnw h1 h2 hvs hws va wa vc wc 36 #[.pointer (some ⟨w.heap.size, 0, none⟩), .pointer (some ⟨w.heap.size + 1, 0, none⟩)] (((belowSt G vs ws).2 : Nat) : Int) _ (h.below hb1) (hV _ _ (Fr.of_below hb1)) (hW _ _ (Fr.of_below hb1)) (fun _ _ => by kernel_rfl)
      (fun W hb => lessC_ok B p hp sl G xs v1 v2 v3 vs ws n hnv hnw h1 h2 hvs hws va wa vc wc hf W ((h.below hb1).below hb) (fun W' v' hf' => hV W' v' ((Fr.of_below (hb1.trans (hb.mono hb1.size))).trans hf')) (fun W' v' hf' => hW W' v' ((Fr.of_below (hb1.trans (hb.mono hb1.size))).trans hf')) w.heap.size (w.heap.size + 1) ((hb.cell (World.block_lt_of_cell? _ _ (box1 k0).1)).trans (box1 k0).1) ((hb.cell (World.block_lt_of_cell? _ _ (box1 k1).1)).trans (box1 k1).1))
    refine h0.mono fun _ _ he => ?_
    obtain ⟨v, e1, h3, h4⟩ := he
    exact ⟨v, e1, h3, (Fr.of_below hb1).trans h4⟩)
  clear hV hW h hvs hws hf hnv hnw k0 k1 hsz hb1
  go_enter Try.func17, Try.ntmps17
  go_wp2_with (go_at_call 33; refine HD.out.mono ?_; rintro e w1 ⟨x2, rfl, hI, hF⟩; have HI := Lib.hid hI; have HF := Lib.hid hF; clear hI hF)
  refine bodyPost_ret (v := .tuple #[.int .i64 (((belowSt G vs ws).2 : Nat) : Int), .int .i64 0]) ?_ rfl ⟨x2, rfl, HI.out, HF.out⟩
  simp [results, Try.results17, go_sem]
end Go.Proofs.Ytkcdlbclodjjhaa
