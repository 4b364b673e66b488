/- Contracts and plain laws of chapter 13, merged: Pm Pn. -/
import Derived.Test.YtkcdlbclodjjhaaGreatGan
/- What the board's Plus, Minus, Times, Same, Less, Num answer, with or without room. (Printed by wip/tools/gen_pm.py.) -/
namespace Go.Proofs.YtkcdlbclodjjhaaGreat
open Go.RowKit

theorem wordsErr_zero {g : Nat} {vs ws : List Int} (h : wordsErr g vs ws = 0) : vs.length = ws.length ∧ 1 ≤ vs.length ∧ vs.length ≤ 16 ∧ iCells vs = nCells (natsOf vs) ∧ (∀ x ∈ natsOf vs, x < g) ∧ iCells ws = nCells (natsOf ws) ∧ ∀ x ∈ natsOf ws, x < g := by
  unfold wordsErr at h
  split at h
  · cases h
  · rename_i hl
    split at h
    · cases h
    · rename_i hr
      split at h
      · rename_i he
        have hr' : (vs ++ ws).any (outside g) = false := by simpa using hr
        rw [List.any_append, Bool.or_eq_false_iff] at hr'
        obtain ⟨a1, a2⟩ := natsOf_cells hr'.1
        obtain ⟨b1, b2⟩ := natsOf_cells hr'.2
        exact ⟨he, by omega, by omega, a1, a2, b1, b2⟩
      · cases h
theorem AnsI.from {er : Int} {K r : Nat} {Gn : List Gat} {B p : Nat} {sl : List Slo} {G : List Gat} {xs : List Exi} {v1 v2 v3 : Value} {w W W' : World} {x : Value} {k : Int} (hb : Below w.heap.size w W) (h : AnsI er K Gn r B p sl G xs v1 v2 v3 W x k W') : AnsI er K Gn r B p sl G xs v1 v2 v3 w x k W' := by
  have hB : ∀ {Gx : List Gat}, Back B p sl Gx xs v1 v2 v3 W W' → Back B p sl Gx xs v1 v2 v3 w W' := fun ⟨v, h1, h2⟩ => ⟨v, h1, (Fr.of_below hb).trans h2⟩
  rcases h with ⟨h1, h2, h3, h4⟩ | ⟨h1, h2, h3, h4, h5⟩ | ⟨h1, h2, h3, h4⟩
  · exact .inl ⟨h1, h2, h3, hB h4⟩
  · exact .inr (.inl ⟨h1, h2, h3, h4, hB h5⟩)
  · exact .inr (.inr ⟨h1, h2, h3, hB h4⟩)
theorem AnsW.from {er : Int} {K n : Nat} {r : List Nat} {Gn : List Gat} {B p : Nat} {sl : List Slo} {G : List Gat} {xs : List Exi} {v1 v2 v3 : Value} {w W W' : World} {x : Value} {k : Int} (hb : Below w.heap.size w W) (h : AnsW er K Gn n r B p sl G xs v1 v2 v3 W x k W') : AnsW er K Gn n r B p sl G xs v1 v2 v3 w x k W' := by
  have hB : ∀ {Gx : List Gat}, Back B p sl Gx xs v1 v2 v3 W W' → Back B p sl Gx xs v1 v2 v3 w W' := fun ⟨v, h1, h2⟩ => ⟨v, h1, (Fr.of_below hb).trans h2⟩
  rcases h with ⟨h1, h2, h3, h4⟩ | ⟨h1, h2, h3, h4, h5⟩ | ⟨h1, h2, h3, h4⟩
  · exact .inl ⟨h1, h2, h3, hB h4⟩
  · exact .inr (.inl ⟨h1, h2, h3, h4, hB h5⟩)
  · exact .inr (.inr ⟨h1, h2, hB h3, own_lower h4 hb.size⟩)
set_option maxHeartbeats 1000000 in
set_option maxRecDepth 100000 in
theorem plusC_any (B p : Nat) (hp : 1 < p) (sl : List Slo) (G : List Gat) (xs : List Exi) (v1 v2 v3 : Value) (vs ws : List Nat) (n : Nat) (hnv : vs.length = n) (hnw : ws.length = n) (_h1 : 1 ≤ n) (h2 : n ≤ 16) (hvs : ∀ x ∈ vs, x < G.length) (hws : ∀ x ∈ ws, x < G.length) (va wa : Option Addr) (vc wc : Nat) (w : World) (h : IsB B p sl G xs v1 v2 v3 w) (hV : ∀ W v, Fr B v2 v w W → Reads W va (nCells vs)) (hW : ∀ W v, Fr B v2 v w W → Reads W wa (nCells ws)) (a1 a2 : Nat) (q1 : w.cell? ⟨a1, 0, none⟩ = some (.slice va n vc)) (q2 : w.cell? ⟨a2, 0, none⟩ = some (.slice wa n wc)) :
    Calls Tryz.prog 47 #[.iface 126 (.agg #[.pointer (some ⟨B, 0, none⟩)]), .pointer (some ⟨a1, 0, none⟩), .pointer (some ⟨a2, 0, none⟩)] w fun e W' => (∃ vo v, e = .returned vo ∧ IsB B p sl (plusSt G vs ws).1 xs v1 v v3 W' ∧ Fr B v2 v w W' ∧ W'.ownsRow w.heap.size 3 1 vo n (nCells (plusSt G vs ws).2.1)) ∨ Full (1 + 9 * n) B p sl G xs v1 v2 v3 w e W' := by
  have h0 := plus_any B p hp sl G xs v1 v2 v3 vs ws va wa vc wc (by omega) (by omega) hvs hws w h hV hW
  rw [hnv] at h0
  have HR := Lib.hid h0
  clear h0 hV hW h hvs hws hnv hnw
  go_enter Tryz.func47, Tryz.ntmps47
  go_wp2_with (go_at_call 48; refine HR.out.mono ?_; intro e w1 he; rcases he with ⟨x2, vo, rfl, hI, hF, hO⟩ | ⟨hk, rfl, he⟩; rotate_left; exact ⟨rfl, .inr ⟨hk, rfl, he⟩⟩; have HI := Lib.hid hI; have HF := Lib.hid hF; have HO := Lib.hid hO; clear hI hF hO)
  go_ret
  exact .inl ⟨vo, x2, rfl, HI.out, HF.out, HO.out⟩
set_option maxHeartbeats 1000000 in
set_option maxRecDepth 100000 in
theorem plus_ans (B p : Nat) (hp : 1 < p) (sl : List Slo) (G : List Gat) (xs : List Exi) (v1 v2 v3 : Value) (vs ws : List Int) (va wa : Option Addr) (vc wc : Nat) (w : World) (h : IsB B p sl G xs v1 v2 v3 w) (hV : ∀ W v, Fr B v2 v w W → Reads W va (iCells vs)) (hW : ∀ W v, Fr B v2 v w W → Reads W wa (iCells ws)) :
    Calls Tryz.prog 12 #[.pointer (some ⟨B, 0, none⟩), .slice va vs.length vc, .slice wa ws.length wc] w fun e W' => ∃ x k, e = .returned (.tuple #[x, .int .i64 k]) ∧ AnsW (wordsErr G.length vs ws) (1 + 9 * vs.length) (plusSt G (natsOf vs) (natsOf ws)).1 vs.length (plusSt G (natsOf vs) (natsOf ws)).2.1 B p sl G xs v1 v2 v3 w x k W' := by
  have hmf : ∀ (fn : Fn) (first cap : Array Value) (w : World), (Instr.makeFunc fn first cap).run Tryz.prog w = .ok (.func fn first cap) w := fun _ _ _ _ => rfl
  obtain ⟨k0, k1, _, hb1⟩ := two w (.cells #[.slice va vs.length vc] 38) (.cells #[.slice wa ws.length wc] 38)
  have HD : Hid (Calls Tryz.prog 46 #[.pointer (some ⟨B, 0, none⟩), .slice va vs.length vc, .slice wa ws.length wc, .func (.func 47) #[] #[.pointer (some ⟨w.heap.size, 0, none⟩), .pointer (some ⟨w.heap.size + 1, 0, none⟩)]] ((w.alloc (.cells #[.slice va vs.length vc] 38)).alloc (.cells #[.slice wa ws.length wc] 38)) fun e W' => ∃ x k, e = .returned (.tuple #[x, .int .i64 k]) ∧ AnsW (wordsErr G.length vs ws) (1 + 9 * vs.length) (plusSt G (natsOf vs) (natsOf ws)).1 vs.length (plusSt G (natsOf vs) (natsOf ws)).2.1 B p sl G xs v1 v2 v3 w x k W') := Lib.hid (by
    refine (wordsW_ans B p hp sl G xs v1 v2 v3 vs ws va wa vc wc 47 #[.pointer (some ⟨w.heap.size, 0, none⟩), .pointer (some ⟨w.heap.size + 1, 0, none⟩)] (1 + 9 * vs.length) (plusSt G (natsOf vs) (natsOf ws)).1 vs.length (plusSt G (natsOf vs) (natsOf ws)).2.1 _ (h.below hb1) (hV _ _ (Fr.of_below hb1)) (hW _ _ (Fr.of_below hb1)) (fun _ _ => by kernel_rfl) (fun he W hb => ?_)).mono fun e W' ⟨x, k, e1, e2⟩ => ⟨x, k, e1, e2.from hb1⟩
    obtain ⟨t1, t2, t3, t4, t5, t6, t7⟩ := wordsErr_zero he
    have hbw := hb1.trans (hb.mono hb1.size)
    have c0 := (hb.cell (World.block_lt_of_cell? _ _ (box1 k0).1)).trans (box1 k0).1
    have c1 := (hb.cell (World.block_lt_of_cell? _ _ (box1 k1).1)).trans (box1 k1).1
    rw [← t1] at c1
    exact plusC_any B p hp sl G xs v1 v2 v3 (natsOf vs) (natsOf ws) vs.length (natsOf_len vs) (by rw [natsOf_len, t1]) t2 t3 t5 t7 va wa vc wc W (h.below hbw) (fun W' v' hf' => by rw [← t4]; exact hV W' v' ((Fr.of_below hbw).trans hf')) (fun W' v' hf' => by rw [← t6]; exact hW W' v' ((Fr.of_below hbw).trans hf')) w.heap.size (w.heap.size + 1) c0 c1)
  clear hV hW h k0 k1 hb1
  go_enter Tryz.func12, Tryz.ntmps12
  go_wp2_with (go_at_call 46; refine HD.out.mono ?_; rintro e w1 ⟨x, k, rfl, hq⟩; have HQ := Lib.hid hq; clear hq)
  refine bodyPost_ret (v := .tuple #[x, .int .i64 k]) ?_ rfl ⟨x, k, rfl, HQ.out⟩
  simp [results, Tryz.results12, go_sem]
set_option maxHeartbeats 1000000 in
set_option maxRecDepth 100000 in
theorem minusC_any (B p : Nat) (hp : 1 < p) (sl : List Slo) (G : List Gat) (xs : List Exi) (v1 v2 v3 : Value) (vs ws : List Nat) (n : Nat) (hnv : vs.length = n) (hnw : ws.length = n) (_h1 : 1 ≤ n) (h2 : n ≤ 16) (hvs : ∀ x ∈ vs, x < G.length) (hws : ∀ x ∈ ws, x < G.length) (va wa : Option Addr) (vc wc : Nat) (w : World) (h : IsB B p sl G xs v1 v2 v3 w) (hV : ∀ W v, Fr B v2 v w W → Reads W va (nCells vs)) (hW : ∀ W v, Fr B v2 v w W → Reads W wa (nCells ws)) (a1 a2 : Nat) (q1 : w.cell? ⟨a1, 0, none⟩ = some (.slice va n vc)) (q2 : w.cell? ⟨a2, 0, none⟩ = some (.slice wa n wc)) :
    Calls Tryz.prog 49 #[.iface 126 (.agg #[.pointer (some ⟨B, 0, none⟩)]), .pointer (some ⟨a1, 0, none⟩), .pointer (some ⟨a2, 0, none⟩)] w fun e W' => (∃ vo v, e = .returned vo ∧ IsB B p sl (minusSt G vs ws).1 xs v1 v v3 W' ∧ Fr B v2 v w W' ∧ W'.ownsRow w.heap.size 3 1 vo n (nCells (minusSt G vs ws).2.1)) ∨ Full (1 + 11 * n) B p sl G xs v1 v2 v3 w e W' := by
  have h0 := minus_any B p hp sl G xs v1 v2 v3 vs ws va wa vc wc (by omega) (by omega) hvs hws w h hV hW
  rw [hnv] at h0
  have HR := Lib.hid h0
  clear h0 hV hW h hvs hws hnv hnw
  go_enter Tryz.func49, Tryz.ntmps49
  go_wp2_with (go_at_call 50; refine HR.out.mono ?_; intro e w1 he; rcases he with ⟨x2, vo, rfl, hI, hF, hO⟩ | ⟨hk, rfl, he⟩; rotate_left; exact ⟨rfl, .inr ⟨hk, rfl, he⟩⟩; have HI := Lib.hid hI; have HF := Lib.hid hF; have HO := Lib.hid hO; clear hI hF hO)
  go_ret
  exact .inl ⟨vo, x2, rfl, HI.out, HF.out, HO.out⟩
set_option maxHeartbeats 1000000 in
set_option maxRecDepth 100000 in
theorem minus_ans (B p : Nat) (hp : 1 < p) (sl : List Slo) (G : List Gat) (xs : List Exi) (v1 v2 v3 : Value) (vs ws : List Int) (va wa : Option Addr) (vc wc : Nat) (w : World) (h : IsB B p sl G xs v1 v2 v3 w) (hV : ∀ W v, Fr B v2 v w W → Reads W va (iCells vs)) (hW : ∀ W v, Fr B v2 v w W → Reads W wa (iCells ws)) :
    Calls Tryz.prog 14 #[.pointer (some ⟨B, 0, none⟩), .slice va vs.length vc, .slice wa ws.length wc] w fun e W' => ∃ x k, e = .returned (.tuple #[x, .int .i64 k]) ∧ AnsW (wordsErr G.length vs ws) (1 + 11 * vs.length) (minusSt G (natsOf vs) (natsOf ws)).1 vs.length (minusSt G (natsOf vs) (natsOf ws)).2.1 B p sl G xs v1 v2 v3 w x k W' := by
  have hmf : ∀ (fn : Fn) (first cap : Array Value) (w : World), (Instr.makeFunc fn first cap).run Tryz.prog w = .ok (.func fn first cap) w := fun _ _ _ _ => rfl
  obtain ⟨k0, k1, _, hb1⟩ := two w (.cells #[.slice va vs.length vc] 38) (.cells #[.slice wa ws.length wc] 38)
  have HD : Hid (Calls Tryz.prog 46 #[.pointer (some ⟨B, 0, none⟩), .slice va vs.length vc, .slice wa ws.length wc, .func (.func 49) #[] #[.pointer (some ⟨w.heap.size, 0, none⟩), .pointer (some ⟨w.heap.size + 1, 0, none⟩)]] ((w.alloc (.cells #[.slice va vs.length vc] 38)).alloc (.cells #[.slice wa ws.length wc] 38)) fun e W' => ∃ x k, e = .returned (.tuple #[x, .int .i64 k]) ∧ AnsW (wordsErr G.length vs ws) (1 + 11 * vs.length) (minusSt G (natsOf vs) (natsOf ws)).1 vs.length (minusSt G (natsOf vs) (natsOf ws)).2.1 B p sl G xs v1 v2 v3 w x k W') := Lib.hid (by
    refine (wordsW_ans B p hp sl G xs v1 v2 v3 vs ws va wa vc wc 49 #[.pointer (some ⟨w.heap.size, 0, none⟩), .pointer (some ⟨w.heap.size + 1, 0, none⟩)] (1 + 11 * vs.length) (minusSt G (natsOf vs) (natsOf ws)).1 vs.length (minusSt G (natsOf vs) (natsOf ws)).2.1 _ (h.below hb1) (hV _ _ (Fr.of_below hb1)) (hW _ _ (Fr.of_below hb1)) (fun _ _ => by kernel_rfl) (fun he W hb => ?_)).mono fun e W' ⟨x, k, e1, e2⟩ => ⟨x, k, e1, e2.from hb1⟩
    obtain ⟨t1, t2, t3, t4, t5, t6, t7⟩ := wordsErr_zero he
    have hbw := hb1.trans (hb.mono hb1.size)
    have c0 := (hb.cell (World.block_lt_of_cell? _ _ (box1 k0).1)).trans (box1 k0).1
    have c1 := (hb.cell (World.block_lt_of_cell? _ _ (box1 k1).1)).trans (box1 k1).1
    rw [← t1] at c1
    exact minusC_any B p hp sl G xs v1 v2 v3 (natsOf vs) (natsOf ws) vs.length (natsOf_len vs) (by rw [natsOf_len, t1]) t2 t3 t5 t7 va wa vc wc W (h.below hbw) (fun W' v' hf' => by rw [← t4]; exact hV W' v' ((Fr.of_below hbw).trans hf')) (fun W' v' hf' => by rw [← t6]; exact hW W' v' ((Fr.of_below hbw).trans hf')) w.heap.size (w.heap.size + 1) c0 c1)
  clear hV hW h k0 k1 hb1
  go_enter Tryz.func14, Tryz.ntmps14
  go_wp2_with (go_at_call 46; refine HD.out.mono ?_; rintro e w1 ⟨x, k, rfl, hq⟩; have HQ := Lib.hid hq; clear hq)
  refine bodyPost_ret (v := .tuple #[x, .int .i64 k]) ?_ rfl ⟨x, k, rfl, HQ.out⟩
  simp [results, Tryz.results14, go_sem]
set_option maxHeartbeats 1000000 in
set_option maxRecDepth 100000 in
theorem timesC_any (B p : Nat) (hp : 1 < p) (sl : List Slo) (G : List Gat) (xs : List Exi) (v1 v2 v3 : Value) (vs ws : List Nat) (n : Nat) (hnv : vs.length = n) (hnw : ws.length = n) (_h1 : 1 ≤ n) (h2 : n ≤ 16) (hvs : ∀ x ∈ vs, x < G.length) (hws : ∀ x ∈ ws, x < G.length) (va wa : Option Addr) (vc wc : Nat) (hcap : n ≤ vc) (w : World) (h : IsB B p sl G xs v1 v2 v3 w) (hV : ∀ W v, Fr B v2 v w W → Reads W va (nCells vs)) (hW : ∀ W v, Fr B v2 v w W → Reads W wa (nCells ws)) (a1 a2 : Nat) (q1 : w.cell? ⟨a1, 0, none⟩ = some (.slice va n vc)) (q2 : w.cell? ⟨a2, 0, none⟩ = some (.slice wa n wc)) :
    Calls Tryz.prog 51 #[.iface 126 (.agg #[.pointer (some ⟨B, 0, none⟩)]), .pointer (some ⟨a1, 0, none⟩), .pointer (some ⟨a2, 0, none⟩)] w fun e W' => (∃ vo v, e = .returned vo ∧ IsB B p sl (timesSt G vs ws n).1 xs v1 v v3 W' ∧ Fr B v2 v w W' ∧ W'.ownsRow w.heap.size 3 1 vo n (nCells (timesSt G vs ws n).2)) ∨ Full (n * (10 * n + 1)) B p sl G xs v1 v2 v3 w e W' := by
  have h0 := times_any B p hp sl G xs v1 v2 v3 vs ws va wa vc wc (by omega) (by omega) hvs hws (by omega) w h hV hW
  rw [hnv] at h0
  have HR := Lib.hid h0
  clear h0 hV hW h hvs hws hnv hnw
  go_enter Tryz.func51, Tryz.ntmps51
  go_wp2_with (go_at_call 52; refine HR.out.mono ?_; intro e w1 he; rcases he with ⟨x2, vo, rfl, hI, hF, hO⟩ | ⟨hk, rfl, he⟩; rotate_left; exact ⟨rfl, .inr ⟨hk, rfl, he⟩⟩; have HI := Lib.hid hI; have HF := Lib.hid hF; have HO := Lib.hid hO; clear hI hF hO)
  go_ret
  exact .inl ⟨vo, x2, rfl, HI.out, HF.out, HO.out⟩
set_option maxHeartbeats 1000000 in
set_option maxRecDepth 100000 in
theorem times_ans (B p : Nat) (hp : 1 < p) (sl : List Slo) (G : List Gat) (xs : List Exi) (v1 v2 v3 : Value) (vs ws : List Int) (va wa : Option Addr) (vc wc : Nat) (hcap : vs.length ≤ vc) (w : World) (h : IsB B p sl G xs v1 v2 v3 w) (hV : ∀ W v, Fr B v2 v w W → Reads W va (iCells vs)) (hW : ∀ W v, Fr B v2 v w W → Reads W wa (iCells ws)) :
    Calls Tryz.prog 15 #[.pointer (some ⟨B, 0, none⟩), .slice va vs.length vc, .slice wa ws.length wc] w fun e W' => ∃ x k, e = .returned (.tuple #[x, .int .i64 k]) ∧ AnsW (wordsErr G.length vs ws) (vs.length * (10 * vs.length + 1)) (timesSt G (natsOf vs) (natsOf ws) vs.length).1 vs.length (timesSt G (natsOf vs) (natsOf ws) vs.length).2 B p sl G xs v1 v2 v3 w x k W' := by
  have hmf : ∀ (fn : Fn) (first cap : Array Value) (w : World), (Instr.makeFunc fn first cap).run Tryz.prog w = .ok (.func fn first cap) w := fun _ _ _ _ => rfl
  obtain ⟨k0, k1, _, hb1⟩ := two w (.cells #[.slice va vs.length vc] 38) (.cells #[.slice wa ws.length wc] 38)
  have HD : Hid (Calls Tryz.prog 46 #[.pointer (some ⟨B, 0, none⟩), .slice va vs.length vc, .slice wa ws.length wc, .func (.func 51) #[] #[.pointer (some ⟨w.heap.size, 0, none⟩), .pointer (some ⟨w.heap.size + 1, 0, none⟩)]] ((w.alloc (.cells #[.slice va vs.length vc] 38)).alloc (.cells #[.slice wa ws.length wc] 38)) fun e W' => ∃ x k, e = .returned (.tuple #[x, .int .i64 k]) ∧ AnsW (wordsErr G.length vs ws) (vs.length * (10 * vs.length + 1)) (timesSt G (natsOf vs) (natsOf ws) vs.length).1 vs.length (timesSt G (natsOf vs) (natsOf ws) vs.length).2 B p sl G xs v1 v2 v3 w x k W') := Lib.hid (by
    refine (wordsW_ans B p hp sl G xs v1 v2 v3 vs ws va wa vc wc 51 #[.pointer (some ⟨w.heap.size, 0, none⟩), .pointer (some ⟨w.heap.size + 1, 0, none⟩)] (vs.length * (10 * vs.length + 1)) (timesSt G (natsOf vs) (natsOf ws) vs.length).1 vs.length (timesSt G (natsOf vs) (natsOf ws) vs.length).2 _ (h.below hb1) (hV _ _ (Fr.of_below hb1)) (hW _ _ (Fr.of_below hb1)) (fun _ _ => by kernel_rfl) (fun he W hb => ?_)).mono fun e W' ⟨x, k, e1, e2⟩ => ⟨x, k, e1, e2.from hb1⟩
    obtain ⟨t1, t2, t3, t4, t5, t6, t7⟩ := wordsErr_zero he
    have hbw := hb1.trans (hb.mono hb1.size)
    have c0 := (hb.cell (World.block_lt_of_cell? _ _ (box1 k0).1)).trans (box1 k0).1
    have c1 := (hb.cell (World.block_lt_of_cell? _ _ (box1 k1).1)).trans (box1 k1).1
    rw [← t1] at c1
    exact timesC_any B p hp sl G xs v1 v2 v3 (natsOf vs) (natsOf ws) vs.length (natsOf_len vs) (by rw [natsOf_len, t1]) t2 t3 t5 t7 va wa vc wc hcap W (h.below hbw) (fun W' v' hf' => by rw [← t4]; exact hV W' v' ((Fr.of_below hbw).trans hf')) (fun W' v' hf' => by rw [← t6]; exact hW W' v' ((Fr.of_below hbw).trans hf')) w.heap.size (w.heap.size + 1) c0 c1)
  clear hV hW h k0 k1 hb1
  go_enter Tryz.func15, Tryz.ntmps15
  go_wp2_with (go_at_call 46; refine HD.out.mono ?_; rintro e w1 ⟨x, k, rfl, hq⟩; have HQ := Lib.hid hq; clear hq)
  refine bodyPost_ret (v := .tuple #[x, .int .i64 k]) ?_ rfl ⟨x, k, rfl, HQ.out⟩
  simp [results, Tryz.results15, go_sem]
set_option maxHeartbeats 1000000 in
set_option maxRecDepth 100000 in
theorem sameC_any (B p : Nat) (hp : 1 < p) (sl : List Slo) (G : List Gat) (xs : List Exi) (v1 v2 v3 : Value) (vs ws : List Nat) (n : Nat) (hnv : vs.length = n) (hnw : ws.length = n) (_h1 : 1 ≤ n) (h2 : n ≤ 16) (hvs : ∀ x ∈ vs, x < G.length) (hws : ∀ x ∈ ws, x < G.length) (va wa : Option Addr) (vc wc : Nat) (w : World) (h : IsB B p sl G xs v1 v2 v3 w) (hV : ∀ W v, Fr B v2 v w W → Reads W va (nCells vs)) (hW : ∀ W v, Fr B v2 v w W → Reads W wa (nCells ws)) (a1 a2 : Nat) (q1 : w.cell? ⟨a1, 0, none⟩ = some (.slice va n vc)) (q2 : w.cell? ⟨a2, 0, none⟩ = some (.slice wa n wc)) :
    Calls Tryz.prog 76 #[.iface 126 (.agg #[.pointer (some ⟨B, 0, none⟩)]), .pointer (some ⟨a1, 0, none⟩), .pointer (some ⟨a2, 0, none⟩)] w fun e W' => (∃ v, e = .returned (.int .i64 ((((sameSt G (vs.zip ws)).2) : Nat) : Int)) ∧ IsB B p sl (sameSt G (vs.zip ws)).1 xs v1 v v3 W' ∧ Fr B v2 v w W') ∨ Full (1 + 7 * n) B p sl G xs v1 v2 v3 w e W' := by
  have h0 := same_any B p hp sl G xs v1 v2 v3 vs ws va wa vc wc (by omega) (by omega) hvs hws w h hV hW
  rw [hnv] at h0
  have HR := Lib.hid h0
  clear h0 hV hW h hvs hws hnv hnw
  go_enter Tryz.func76, Tryz.ntmps76
  go_wp2_with (go_at_call 77; refine HR.out.mono ?_; intro e w1 he; rcases he with ⟨x2, rfl, hI, hF⟩ | ⟨hk, rfl, he⟩; rotate_left; exact ⟨rfl, .inr ⟨hk, rfl, he⟩⟩; have HI := Lib.hid hI; have HF := Lib.hid hF; clear hI hF)
  go_ret
  exact .inl ⟨x2, rfl, HI.out, HF.out⟩
set_option maxHeartbeats 1000000 in
set_option maxRecDepth 100000 in
theorem same_ans (B p : Nat) (hp : 1 < p) (sl : List Slo) (G : List Gat) (xs : List Exi) (v1 v2 v3 : Value) (vs ws : List Int) (va wa : Option Addr) (vc wc : Nat) (w : World) (h : IsB B p sl G xs v1 v2 v3 w) (hV : ∀ W v, Fr B v2 v w W → Reads W va (iCells vs)) (hW : ∀ W v, Fr B v2 v w W → Reads W wa (iCells ws)) :
    Calls Tryz.prog 36 #[.pointer (some ⟨B, 0, none⟩), .slice va vs.length vc, .slice wa ws.length wc] w fun e W' => ∃ x k, e = .returned (.tuple #[x, .int .i64 k]) ∧ AnsI (wordsErr G.length vs ws) (1 + 7 * vs.length) (sameSt G ((natsOf vs).zip (natsOf ws))).1 ((sameSt G ((natsOf vs).zip (natsOf ws))).2) B p sl G xs v1 v2 v3 w x k W' := by
  have hmf : ∀ (fn : Fn) (first cap : Array Value) (w : World), (Instr.makeFunc fn first cap).run Tryz.prog w = .ok (.func fn first cap) w := fun _ _ _ _ => rfl
  obtain ⟨k0, k1, _, hb1⟩ := two w (.cells #[.slice va vs.length vc] 38) (.cells #[.slice wa ws.length wc] 38)
  have HD : Hid (Calls Tryz.prog 53 #[.pointer (some ⟨B, 0, none⟩), .slice va vs.length vc, .slice wa ws.length wc, .func (.func 76) #[] #[.pointer (some ⟨w.heap.size, 0, none⟩), .pointer (some ⟨w.heap.size + 1, 0, none⟩)]] ((w.alloc (.cells #[.slice va vs.length vc] 38)).alloc (.cells #[.slice wa ws.length wc] 38)) fun e W' => ∃ x k, e = .returned (.tuple #[x, .int .i64 k]) ∧ AnsI (wordsErr G.length vs ws) (1 + 7 * vs.length) (sameSt G ((natsOf vs).zip (natsOf ws))).1 ((sameSt G ((natsOf vs).zip (natsOf ws))).2) B p sl G xs v1 v2 v3 w x k W') := Lib.hid (by
    refine (wordsI_ans B p hp sl G xs v1 v2 v3 vs ws va wa vc wc 76 #[.pointer (some ⟨w.heap.size, 0, none⟩), .pointer (some ⟨w.heap.size + 1, 0, none⟩)] (1 + 7 * vs.length) (sameSt G ((natsOf vs).zip (natsOf ws))).1 ((sameSt G ((natsOf vs).zip (natsOf ws))).2) _ (h.below hb1) (hV _ _ (Fr.of_below hb1)) (hW _ _ (Fr.of_below hb1)) (fun _ _ => by kernel_rfl) (fun he W hb => ?_)).mono fun e W' ⟨x, k, e1, e2⟩ => ⟨x, k, e1, e2.from hb1⟩
    obtain ⟨t1, t2, t3, t4, t5, t6, t7⟩ := wordsErr_zero he
    have hbw := hb1.trans (hb.mono hb1.size)
    have c0 := (hb.cell (World.block_lt_of_cell? _ _ (box1 k0).1)).trans (box1 k0).1
    have c1 := (hb.cell (World.block_lt_of_cell? _ _ (box1 k1).1)).trans (box1 k1).1
    rw [← t1] at c1
    exact sameC_any B p hp sl G xs v1 v2 v3 (natsOf vs) (natsOf ws) vs.length (natsOf_len vs) (by rw [natsOf_len, t1]) t2 t3 t5 t7 va wa vc wc W (h.below hbw) (fun W' v' hf' => by rw [← t4]; exact hV W' v' ((Fr.of_below hbw).trans hf')) (fun W' v' hf' => by rw [← t6]; exact hW W' v' ((Fr.of_below hbw).trans hf')) w.heap.size (w.heap.size + 1) c0 c1)
  clear hV hW h k0 k1 hb1
  go_enter Tryz.func36, Tryz.ntmps36
  go_wp2_with (go_at_call 53; refine HD.out.mono ?_; rintro e w1 ⟨x, k, rfl, hq⟩; have HQ := Lib.hid hq; clear hq)
  refine bodyPost_ret (v := .tuple #[x, .int .i64 k]) ?_ rfl ⟨x, k, rfl, HQ.out⟩
  simp [results, Tryz.results36, go_sem]
set_option maxHeartbeats 1000000 in
set_option maxRecDepth 100000 in
theorem lessC_any (B p : Nat) (hp : 1 < p) (sl : List Slo) (G : List Gat) (xs : List Exi) (v1 v2 v3 : Value) (vs ws : List Nat) (n : Nat) (hnv : vs.length = n) (hnw : ws.length = n) (_h1 : 1 ≤ n) (h2 : n ≤ 16) (hvs : ∀ x ∈ vs, x < G.length) (hws : ∀ x ∈ ws, x < G.length) (va wa : Option Addr) (vc wc : Nat) (w : World) (h : IsB B p sl G xs v1 v2 v3 w) (hV : ∀ W v, Fr B v2 v w W → Reads W va (nCells vs)) (hW : ∀ W v, Fr B v2 v w W → Reads W wa (nCells ws)) (a1 a2 : Nat) (q1 : w.cell? ⟨a1, 0, none⟩ = some (.slice va n vc)) (q2 : w.cell? ⟨a2, 0, none⟩ = some (.slice wa n wc)) :
    Calls Tryz.prog 54 #[.iface 126 (.agg #[.pointer (some ⟨B, 0, none⟩)]), .pointer (some ⟨a1, 0, none⟩), .pointer (some ⟨a2, 0, none⟩)] w fun e W' => (∃ v, e = .returned (.int .i64 ((((belowSt G vs ws).2) : Nat) : Int)) ∧ IsB B p sl (belowSt G vs ws).1 xs v1 v v3 W' ∧ Fr B v2 v w W') ∨ Full (3 + 11 * n) B p sl G xs v1 v2 v3 w e W' := by
  have h0 := below_any B p hp sl G xs v1 v2 v3 vs ws va wa vc wc (by omega) (by omega) hvs hws w h hV hW
  rw [hnv] at h0
  have HR := Lib.hid h0
  clear h0 hV hW h hvs hws hnv hnw
  go_enter Tryz.func54, Tryz.ntmps54
  go_wp2_with (go_at_call 55; refine HR.out.mono ?_; intro e w1 he; rcases he with ⟨x2, rfl, hI, hF⟩ | ⟨hk, rfl, he⟩; rotate_left; exact ⟨rfl, .inr ⟨hk, rfl, he⟩⟩; have HI := Lib.hid hI; have HF := Lib.hid hF; clear hI hF)
  go_ret
  exact .inl ⟨x2, rfl, HI.out, HF.out⟩
set_option maxHeartbeats 1000000 in
set_option maxRecDepth 100000 in
theorem less_ans (B p : Nat) (hp : 1 < p) (sl : List Slo) (G : List Gat) (xs : List Exi) (v1 v2 v3 : Value) (vs ws : List Int) (va wa : Option Addr) (vc wc : Nat) (w : World) (h : IsB B p sl G xs v1 v2 v3 w) (hV : ∀ W v, Fr B v2 v w W → Reads W va (iCells vs)) (hW : ∀ W v, Fr B v2 v w W → Reads W wa (iCells ws)) :
    Calls Tryz.prog 16 #[.pointer (some ⟨B, 0, none⟩), .slice va vs.length vc, .slice wa ws.length wc] w fun e W' => ∃ x k, e = .returned (.tuple #[x, .int .i64 k]) ∧ AnsI (wordsErr G.length vs ws) (3 + 11 * vs.length) (belowSt G (natsOf vs) (natsOf ws)).1 ((belowSt G (natsOf vs) (natsOf ws)).2) B p sl G xs v1 v2 v3 w x k W' := by
  have hmf : ∀ (fn : Fn) (first cap : Array Value) (w : World), (Instr.makeFunc fn first cap).run Tryz.prog w = .ok (.func fn first cap) w := fun _ _ _ _ => rfl
  obtain ⟨k0, k1, _, hb1⟩ := two w (.cells #[.slice va vs.length vc] 38) (.cells #[.slice wa ws.length wc] 38)
  have HD : Hid (Calls Tryz.prog 53 #[.pointer (some ⟨B, 0, none⟩), .slice va vs.length vc, .slice wa ws.length wc, .func (.func 54) #[] #[.pointer (some ⟨w.heap.size, 0, none⟩), .pointer (some ⟨w.heap.size + 1, 0, none⟩)]] ((w.alloc (.cells #[.slice va vs.length vc] 38)).alloc (.cells #[.slice wa ws.length wc] 38)) fun e W' => ∃ x k, e = .returned (.tuple #[x, .int .i64 k]) ∧ AnsI (wordsErr G.length vs ws) (3 + 11 * vs.length) (belowSt G (natsOf vs) (natsOf ws)).1 ((belowSt G (natsOf vs) (natsOf ws)).2) B p sl G xs v1 v2 v3 w x k W') := Lib.hid (by
    refine (wordsI_ans B p hp sl G xs v1 v2 v3 vs ws va wa vc wc 54 #[.pointer (some ⟨w.heap.size, 0, none⟩), .pointer (some ⟨w.heap.size + 1, 0, none⟩)] (3 + 11 * vs.length) (belowSt G (natsOf vs) (natsOf ws)).1 ((belowSt G (natsOf vs) (natsOf ws)).2) _ (h.below hb1) (hV _ _ (Fr.of_below hb1)) (hW _ _ (Fr.of_below hb1)) (fun _ _ => by kernel_rfl) (fun he W hb => ?_)).mono fun e W' ⟨x, k, e1, e2⟩ => ⟨x, k, e1, e2.from hb1⟩
    obtain ⟨t1, t2, t3, t4, t5, t6, t7⟩ := wordsErr_zero he
    have hbw := hb1.trans (hb.mono hb1.size)
    have c0 := (hb.cell (World.block_lt_of_cell? _ _ (box1 k0).1)).trans (box1 k0).1
    have c1 := (hb.cell (World.block_lt_of_cell? _ _ (box1 k1).1)).trans (box1 k1).1
    rw [← t1] at c1
    exact lessC_any B p hp sl G xs v1 v2 v3 (natsOf vs) (natsOf ws) vs.length (natsOf_len vs) (by rw [natsOf_len, t1]) t2 t3 t5 t7 va wa vc wc W (h.below hbw) (fun W' v' hf' => by rw [← t4]; exact hV W' v' ((Fr.of_below hbw).trans hf')) (fun W' v' hf' => by rw [← t6]; exact hW W' v' ((Fr.of_below hbw).trans hf')) w.heap.size (w.heap.size + 1) c0 c1)
  clear hV hW h k0 k1 hb1
  go_enter Tryz.func16, Tryz.ntmps16
  go_wp2_with (go_at_call 53; refine HD.out.mono ?_; rintro e w1 ⟨x, k, rfl, hq⟩; have HQ := Lib.hid hq; clear hq)
  refine bodyPost_ret (v := .tuple #[x, .int .i64 k]) ?_ rfl ⟨x, k, rfl, HQ.out⟩
  simp [results, Tryz.results16, go_sem]
set_option maxHeartbeats 1000000 in
set_option maxRecDepth 100000 in
theorem numC_any (B p : Nat) (hp : 1 < p) (sl : List Slo) (G : List Gat) (xs : List Exi) (v1 v2 v3 : Value) (ws : List Nat) (n : Nat) (hnw : ws.length = n) (h2 : n ≤ 16) (hws : ∀ x ∈ ws, x < G.length) (wa : Option Addr) (wc : Nat) (w : World) (h : IsB B p sl G xs v1 v2 v3 w) (hW : ∀ W v, Fr B v2 v w W → Reads W wa (nCells ws)) (a1 : Nat) (q1 : w.cell? ⟨a1, 0, none⟩ = some (.slice wa n wc)) :
    Calls Tryz.prog 74 #[.iface 126 (.agg #[.pointer (some ⟨B, 0, none⟩)]), .pointer (some ⟨a1, 0, none⟩)] w fun e W' => (∃ v, e = .returned (.int .i64 (((numSt G ws.reverse).2 : Nat) : Int)) ∧ IsB B p sl (numSt G ws.reverse).1 xs v1 v v3 W' ∧ Fr B v2 v w W') ∨ Full (1 + 2 * n) B p sl G xs v1 v2 v3 w e W' := by
  have HR := Lib.hid (num_any B p hp sl G xs v1 v2 v3 ws wa wc n hnw (by omega) hws w h hW)
  clear hW h hws hnw
  go_enter Tryz.func74, Tryz.ntmps74
  go_wp2_with (go_at_call 75; refine HR.out.mono ?_; intro e w1 he; rcases he with ⟨x2, rfl, hI, hF⟩ | ⟨hk, rfl, he⟩; rotate_left; exact ⟨rfl, .inr ⟨hk, rfl, he⟩⟩; have HI := Lib.hid hI; have HF := Lib.hid hF; clear hI hF)
  go_ret
  exact .inl ⟨x2, rfl, HI.out, HF.out⟩
set_option maxHeartbeats 1000000 in
set_option maxRecDepth 100000 in
theorem num_ans (B p : Nat) (hp : 1 < p) (sl : List Slo) (G : List Gat) (xs : List Exi) (v1 v2 v3 : Value) (ws : List Int) (wa : Option Addr) (wc : Nat) (w : World) (h : IsB B p sl G xs v1 v2 v3 w) (hW : ∀ W v, Fr B v2 v w W → Reads W wa (iCells ws)) :
    Calls Tryz.prog 35 #[.pointer (some ⟨B, 0, none⟩), .slice wa ws.length wc] w fun e W' => ∃ x k, e = .returned (.tuple #[x, .int .i64 k]) ∧ AnsI (wordsErr G.length ws ws) (1 + 2 * ws.length) (numSt G (natsOf ws).reverse).1 ((numSt G (natsOf ws).reverse).2) B p sl G xs v1 v2 v3 w x k W' := by
  have hmf : ∀ (fn : Fn) (first cap : Array Value) (w : World), (Instr.makeFunc fn first cap).run Tryz.prog w = .ok (.func fn first cap) w := fun _ _ _ _ => rfl
  have k0 := heap_alloc_new w (.cells #[.slice wa ws.length wc] 38)
  have hb1 := (Below.refl w.heap.size w).alloc (Nat.le_refl _) (.cells #[.slice wa ws.length wc] 38)
  have HD : Hid (Calls Tryz.prog 53 #[.pointer (some ⟨B, 0, none⟩), .slice wa ws.length wc, .slice wa ws.length wc, .func (.func 74) #[] #[.pointer (some ⟨w.heap.size, 0, none⟩)]] (w.alloc (.cells #[.slice wa ws.length wc] 38)) fun e W' => ∃ x k, e = .returned (.tuple #[x, .int .i64 k]) ∧ AnsI (wordsErr G.length ws ws) (1 + 2 * ws.length) (numSt G (natsOf ws).reverse).1 ((numSt G (natsOf ws).reverse).2) B p sl G xs v1 v2 v3 w x k W') := Lib.hid (by
    refine (wordsI_ans B p hp sl G xs v1 v2 v3 ws ws wa wa wc wc 74 #[.pointer (some ⟨w.heap.size, 0, none⟩)] (1 + 2 * ws.length) (numSt G (natsOf ws).reverse).1 ((numSt G (natsOf ws).reverse).2) _ (h.below hb1) (hW _ _ (Fr.of_below hb1)) (hW _ _ (Fr.of_below hb1)) (fun _ _ => by kernel_rfl) (fun he W hb => ?_)).mono fun e W' ⟨x, k, e1, e2⟩ => ⟨x, k, e1, e2.from hb1⟩
    obtain ⟨t1, t2, t3, t4, t5, t6, t7⟩ := wordsErr_zero he
    have hbw := hb1.trans (hb.mono hb1.size)
    have c0 := (hb.cell (World.block_lt_of_cell? _ _ (box1 k0).1)).trans (box1 k0).1
    exact numC_any B p hp sl G xs v1 v2 v3 (natsOf ws) ws.length (natsOf_len ws) t3 t7 wa wc W (h.below hbw) (fun W' v' hf' => by rw [← t6]; exact hW W' v' ((Fr.of_below hbw).trans hf')) w.heap.size c0)
  clear hW h k0 hb1
  go_enter Tryz.func35, Tryz.ntmps35
  go_wp2_with (go_at_call 53; refine HD.out.mono ?_; rintro e w1 ⟨x, k, rfl, hq⟩; have HQ := Lib.hid hq; clear hq)
  refine bodyPost_ret (v := .tuple #[x, .int .i64 k]) ?_ rfl ⟨x, k, rfl, HQ.out⟩
  simp [results, Tryz.results35, go_sem]
end Go.Proofs.YtkcdlbclodjjhaaGreat

/- What the board's Not, And, Or, Xor, Pick answer, with or without room. (Printed by wip/tools/gen_pn.py.) -/
namespace Go.Proofs.YtkcdlbclodjjhaaGreat
open Go.RowKit

theorem doI_ans (B p : Nat) (hp : 1 < p) (sl : List Slo) (G : List Gat) (xs : List Exi) (v1 v2 v3 : Value) (ar : List Int) (A : Option Addr) (ac : Nat) (hal : ar.length ≤ 65536) (h0 : 0 < ar.length) (F : FuncId) (caps : Array Value) (K : Nat) (Gn : List Gat) (r : Nat) (w : World) (h : IsB B p sl G xs v1 v2 v3 w) (hA : Reads w A (iCells ar))
    (hrun : ∀ (args : Array Value) (W : World), (callFunc F args).run Tryz.prog W = .ok (.enter F args) W)
    (HF : placesErr G.length ar = 0 → ∀ W, Below w.heap.size w W → Calls Tryz.prog F (#[.iface 126 (.agg #[.pointer (some ⟨B, 0, none⟩)])] ++ caps) W fun e W' => (∃ v, e = .returned (.int .i64 ((r : Nat) : Int)) ∧ IsB B p sl Gn xs v1 v v3 W' ∧ Fr B v2 v W W') ∨ Full K B p sl G xs v1 v2 v3 W e W') :
    Calls Tryz.prog 63 #[.pointer (some ⟨B, 0, none⟩), .slice A ar.length ac, .func (.func F) #[] caps] w fun e W' => ∃ x k, e = .returned (.tuple #[x, .int .i64 k]) ∧ AnsI (placesErr G.length ar) K Gn r B p sl G xs v1 v2 v3 w x k W' := by
  cases hr : ar.any (outside G.length) with
  | true =>
    have he : placesErr G.length ar = 13 := by unfold placesErr; rw [if_pos hr]
    exact (doI_range B p hp sl G xs v1 v2 v3 ar A ac hr (by omega) _ w h hA).mono fun e W' ⟨e1, e2⟩ => ⟨_, 13, e1, .inl ⟨by rw [he]; decide, rfl, he.symm, Back.of_below h e2⟩⟩
  | false =>
    have he : placesErr G.length ar = 0 := by unfold placesErr; rw [if_neg (by rw [hr]; decide)]
    obtain ⟨n1, n2⟩ := natsOf_cells hr
    rw [n1] at hA
    have hG0 : 0 < G.length := by
      have : 0 < (natsOf ar).length := by rw [natsOf_len]; exact h0
      have := n2 _ (List.getElem_mem this)
      omega
    have h5 := doI_any B p hp sl G xs v1 v2 v3 Gn (natsOf ar) A ac n2 (by rw [natsOf_len]; omega) (fun q => q = 3 ∧ 65536 < G.length + K) hG0 F caps ((r : Nat) : Int) w h hA hrun (fun W hb => (HF he W hb).mono fun e W' hh => hh.imp id fun ⟨f1, f2, f3⟩ => ⟨3, ⟨rfl, f1⟩, f2, f3⟩)
    rw [natsOf_len] at h5
    refine h5.mono fun e W' hh => ?_
    rcases hh with ⟨v, e1, h3, h4⟩ | ⟨k, ⟨rfl, hk⟩, e1, v, h3, h4⟩
    · exact ⟨_, 0, e1, .inr (.inr ⟨he, rfl, rfl, v, h3, h4⟩)⟩
    · exact ⟨_, 3, e1, .inr (.inl ⟨he, hk, rfl, rfl, v, h3, h4⟩)⟩
theorem own_freshN (w : World) (e : TypeId) (cs : List Value) (n : Nat) (hn : cs.length = n) (hm : n ≤ 65536) : (w.alloc (.cells cs.toArray e)).ownsRow w.heap.size e 1 (.slice (some ⟨w.heap.size, 0, none⟩) n n) n cs :=
  ⟨by omega, .inr ⟨w.heap.size, n, cs.toArray, rfl, Nat.le_refl _, heap_alloc_new w _, Nat.le_refl _, by unfold maxLen; omega, by simpa using hn, by simp [← hn]⟩⟩
theorem four (w : World) (o1 o2 o3 o4 : Obj) : ((((w.alloc o1).alloc o2).alloc o3).alloc o4).heap[w.heap.size]? = some o1 ∧ ((((w.alloc o1).alloc o2).alloc o3).alloc o4).heap[w.heap.size + 1]? = some o2 ∧ ((((w.alloc o1).alloc o2).alloc o3).alloc o4).heap[w.heap.size + 1 + 1]? = some o3 ∧ Below w.heap.size w ((((w.alloc o1).alloc o2).alloc o3).alloc o4) := by
  obtain ⟨a1, a2, a3, a4, a5⟩ := three w o1 o2 o3
  have hb := (Below.refl (((w.alloc o1).alloc o2).alloc o3).heap.size (((w.alloc o1).alloc o2).alloc o3)).alloc (Nat.le_refl _) o4
  exact ⟨(hb.block _ (by omega)).trans a1, (hb.block _ (by omega)).trans a2, (hb.block _ (by omega)).trans a3, a5.trans (hb.mono (by omega))⟩
set_option maxHeartbeats 1000000 in
set_option maxRecDepth 100000 in
theorem notC_any (B p : Nat) (hp : 1 < p) (sl : List Slo) (G : List Gat) (xs : List Exi) (v1 v2 v3 : Value) (a : Nat) (ha : a < G.length) (w : World) (h : IsB B p sl G xs v1 v2 v3 w) (a0 : Nat) (q0 : w.cell? ⟨a0, 0, none⟩ = some (.int .i64 ((a : Nat) : Int))) :
    Calls Tryz.prog 64 #[.iface 126 (.agg #[.pointer (some ⟨B, 0, none⟩)]), .pointer (some ⟨a0, 0, none⟩)] w fun e W' => (∃ v, e = .returned (.int .i64 (((G.length + 1) : Nat) : Int)) ∧ IsB B p sl (G ++ notL G.length a) xs v1 v v3 W' ∧ Fr B v2 v w W') ∨ Full 2 B p sl G xs v1 v2 v3 w e W' := by
  have HR := Lib.hid (not_any B p hp sl G xs v1 v2 v3 a ha w h)
  clear h ha
  go_enter Tryz.func64, Tryz.ntmps64
  go_wp2_with (go_at_call 65; refine HR.out.mono ?_; intro e w1 he; rcases he with ⟨rfl, x2, hI, hF⟩ | ⟨hk, rfl, he⟩; rotate_left; exact ⟨rfl, .inr ⟨hk, rfl, he⟩⟩; have HI := Lib.hid hI; have HF := Lib.hid hF; clear hI hF)
  go_ret
  exact .inl ⟨x2, rfl, HI.out, HF.out⟩
set_option maxHeartbeats 1000000 in
set_option maxRecDepth 100000 in
theorem not_ans (B p : Nat) (hp : 1 < p) (sl : List Slo) (G : List Gat) (xs : List Exi) (v1 v2 v3 : Value) (za : Int) (w : World) (h : IsB B p sl G xs v1 v2 v3 w) :
    Calls Tryz.prog 30 #[.pointer (some ⟨B, 0, none⟩), .int .i64 za] w fun e W' => ∃ x k, e = .returned (.tuple #[x, .int .i64 k]) ∧ AnsI (placesErr G.length [za]) 2 (G ++ notL G.length (za.toNat)) (G.length + 1) B p sl G xs v1 v2 v3 w x k W' := by
  have hmf : ∀ (fn : Fn) (first cap : Array Value) (w : World), (Instr.makeFunc fn first cap).run Tryz.prog w = .ok (.func fn first cap) w := fun _ _ _ _ => rfl
  obtain ⟨k0, k1, hsz, hb1⟩ := two w (.cells #[.int .i64 za] 3) (.cells #[.int .i64 za] 3)
  have hrd : Reads ((w.alloc (.cells #[.int .i64 za] 3)).alloc (.cells #[.int .i64 za] 3)) (some ⟨w.heap.size + 1, 0, none⟩) (iCells [za]) := by
    have h5 := own_reads_at (own_freshN (w.alloc (.cells #[.int .i64 za] 3)) 3 (iCells [za]) 1 rfl (by decide))
    have e : (w.alloc (.cells #[.int .i64 za] 3)).heap.size = w.heap.size + 1 := by simp
    rw [e] at h5
    exact h5
  have HD : Hid (Calls Tryz.prog 63 #[.pointer (some ⟨B, 0, none⟩), .slice (some ⟨w.heap.size + 1, 0, none⟩) 1 1, .func (.func 64) #[] #[.pointer (some ⟨w.heap.size, 0, none⟩)]] ((w.alloc (.cells #[.int .i64 za] 3)).alloc (.cells #[.int .i64 za] 3)) fun e W' => ∃ x k, e = .returned (.tuple #[x, .int .i64 k]) ∧ AnsI (placesErr G.length [za]) 2 (G ++ notL G.length (za.toNat)) (G.length + 1) B p sl G xs v1 v2 v3 w x k W') := Lib.hid (by
    refine (doI_ans B p hp sl G xs v1 v2 v3 [za] _ 1 (by simp) (by simp) 64 #[.pointer (some ⟨w.heap.size, 0, none⟩)] 2 (G ++ notL G.length (za.toNat)) (G.length + 1) _ (h.below hb1) hrd (fun _ _ => by kernel_rfl) (fun he W hb => ?_)).mono fun e W' ⟨x, k, e1, e2⟩ => ⟨x, k, e1, e2.from hb1⟩
    have hr : ([za] : List Int).any (outside G.length) = false := by
      unfold placesErr at he
      split at he
      · cases he
      · rename_i h5; simpa using h5
    simp only [List.any_cons, List.any_nil, Bool.or_false, Bool.or_eq_false_iff, outside, decide_eq_false_iff_not] at hr
    have hbw := hb1.trans (hb.mono hb1.size)
    have c0 := (hb.cell (World.block_lt_of_cell? _ _ (box1 k0).1)).trans (box1 k0).1
    rw [← Int.toNat_of_nonneg (show 0 ≤ za by omega)] at c0
    exact notC_any B p hp sl G xs v1 v2 v3 za.toNat (by omega) W (h.below hbw) w.heap.size c0)
  clear h hrd hb1 k0
  go_enter Tryz.func30, Tryz.ntmps30
  go_wp2_with (go_at_call 63; refine HD.out.mono ?_; rintro e w1 ⟨x, k, rfl, hq⟩; have HQ := Lib.hid hq; clear hq)
  refine bodyPost_ret (v := .tuple #[x, .int .i64 k]) ?_ rfl ⟨x, k, rfl, HQ.out⟩
  simp [results, Tryz.results30, go_sem]
set_option maxHeartbeats 1000000 in
set_option maxRecDepth 100000 in
theorem andC_any (B p : Nat) (hp : 1 < p) (sl : List Slo) (G : List Gat) (xs : List Exi) (v1 v2 v3 : Value) (a : Nat) (b : Nat) (ha : a < G.length) (hb : b < G.length) (w : World) (h : IsB B p sl G xs v1 v2 v3 w) (a0 : Nat) (a1 : Nat) (q0 : w.cell? ⟨a0, 0, none⟩ = some (.int .i64 ((a : Nat) : Int))) (q1 : w.cell? ⟨a1, 0, none⟩ = some (.int .i64 ((b : Nat) : Int))) :
    Calls Tryz.prog 66 #[.iface 126 (.agg #[.pointer (some ⟨B, 0, none⟩)]), .pointer (some ⟨a0, 0, none⟩), .pointer (some ⟨a1, 0, none⟩)] w fun e W' => (∃ v, e = .returned (.int .i64 ((G.length : Nat) : Int)) ∧ IsB B p sl (G ++ andL G.length a b) xs v1 v v3 W' ∧ Fr B v2 v w W') ∨ Full 1 B p sl G xs v1 v2 v3 w e W' := by
  have HR := Lib.hid (and_any B p hp sl G xs v1 v2 v3 a b ha hb w h)
  clear h ha hb
  go_enter Tryz.func66, Tryz.ntmps66
  go_wp2_with (go_at_call 67; refine HR.out.mono ?_; intro e w1 he; rcases he with ⟨rfl, x2, hI, hF⟩ | ⟨hk, rfl, he⟩; rotate_left; exact ⟨rfl, .inr ⟨hk, rfl, he⟩⟩; have HI := Lib.hid hI; have HF := Lib.hid hF; clear hI hF)
  go_ret
  exact .inl ⟨x2, rfl, HI.out, HF.out⟩
set_option maxHeartbeats 1000000 in
set_option maxRecDepth 100000 in
theorem and_ans (B p : Nat) (hp : 1 < p) (sl : List Slo) (G : List Gat) (xs : List Exi) (v1 v2 v3 : Value) (za zb : Int) (w : World) (h : IsB B p sl G xs v1 v2 v3 w) :
    Calls Tryz.prog 31 #[.pointer (some ⟨B, 0, none⟩), .int .i64 za, .int .i64 zb] w fun e W' => ∃ x k, e = .returned (.tuple #[x, .int .i64 k]) ∧ AnsI (placesErr G.length [za, zb]) 1 (G ++ andL G.length (za.toNat) (zb.toNat)) G.length B p sl G xs v1 v2 v3 w x k W' := by
  have hmf : ∀ (fn : Fn) (first cap : Array Value) (w : World), (Instr.makeFunc fn first cap).run Tryz.prog w = .ok (.func fn first cap) w := fun _ _ _ _ => rfl
  obtain ⟨k0, k1, k2, hsz, hb1⟩ := three w (.cells #[.int .i64 za] 3) (.cells #[.int .i64 zb] 3) (.cells #[.int .i64 za, .int .i64 zb] 3)
  have hrd : Reads (((w.alloc (.cells #[.int .i64 za] 3)).alloc (.cells #[.int .i64 zb] 3)).alloc (.cells #[.int .i64 za, .int .i64 zb] 3)) (some ⟨w.heap.size + 1 + 1, 0, none⟩) (iCells [za, zb]) := by
    have h5 := own_reads_at (own_freshN ((w.alloc (.cells #[.int .i64 za] 3)).alloc (.cells #[.int .i64 zb] 3)) 3 (iCells [za, zb]) 2 rfl (by decide))
    have e : ((w.alloc (.cells #[.int .i64 za] 3)).alloc (.cells #[.int .i64 zb] 3)).heap.size = w.heap.size + 1 + 1 := by simp
    rw [e] at h5
    exact h5
  have HD : Hid (Calls Tryz.prog 63 #[.pointer (some ⟨B, 0, none⟩), .slice (some ⟨w.heap.size + 1 + 1, 0, none⟩) 2 2, .func (.func 66) #[] #[.pointer (some ⟨w.heap.size, 0, none⟩), .pointer (some ⟨w.heap.size + 1, 0, none⟩)]] (((w.alloc (.cells #[.int .i64 za] 3)).alloc (.cells #[.int .i64 zb] 3)).alloc (.cells #[.int .i64 za, .int .i64 zb] 3)) fun e W' => ∃ x k, e = .returned (.tuple #[x, .int .i64 k]) ∧ AnsI (placesErr G.length [za, zb]) 1 (G ++ andL G.length (za.toNat) (zb.toNat)) G.length B p sl G xs v1 v2 v3 w x k W') := Lib.hid (by
    refine (doI_ans B p hp sl G xs v1 v2 v3 [za, zb] _ 2 (by simp) (by simp) 66 #[.pointer (some ⟨w.heap.size, 0, none⟩), .pointer (some ⟨w.heap.size + 1, 0, none⟩)] 1 (G ++ andL G.length (za.toNat) (zb.toNat)) G.length _ (h.below hb1) hrd (fun _ _ => by kernel_rfl) (fun he W hb => ?_)).mono fun e W' ⟨x, k, e1, e2⟩ => ⟨x, k, e1, e2.from hb1⟩
    have hr : ([za, zb] : List Int).any (outside G.length) = false := by
      unfold placesErr at he
      split at he
      · cases he
      · rename_i h5; simpa using h5
    simp only [List.any_cons, List.any_nil, Bool.or_false, Bool.or_eq_false_iff, outside, decide_eq_false_iff_not] at hr
    have hbw := hb1.trans (hb.mono hb1.size)
    have c0 := (hb.cell (World.block_lt_of_cell? _ _ (box1 k0).1)).trans (box1 k0).1
    rw [← Int.toNat_of_nonneg (show 0 ≤ za by omega)] at c0
    have c1 := (hb.cell (World.block_lt_of_cell? _ _ (box1 k1).1)).trans (box1 k1).1
    rw [← Int.toNat_of_nonneg (show 0 ≤ zb by omega)] at c1
    exact andC_any B p hp sl G xs v1 v2 v3 za.toNat zb.toNat (by omega) (by omega) W (h.below hbw) w.heap.size (w.heap.size + 1) c0 c1)
  clear h hrd hb1 k0 k1
  go_enter Tryz.func31, Tryz.ntmps31
  go_wp2_with (go_at_call 63; refine HD.out.mono ?_; rintro e w1 ⟨x, k, rfl, hq⟩; have HQ := Lib.hid hq; clear hq)
  refine bodyPost_ret (v := .tuple #[x, .int .i64 k]) ?_ rfl ⟨x, k, rfl, HQ.out⟩
  simp [results, Tryz.results31, go_sem]
set_option maxHeartbeats 1000000 in
set_option maxRecDepth 100000 in
theorem orC_any (B p : Nat) (hp : 1 < p) (sl : List Slo) (G : List Gat) (xs : List Exi) (v1 v2 v3 : Value) (a : Nat) (b : Nat) (ha : a < G.length) (hb : b < G.length) (w : World) (h : IsB B p sl G xs v1 v2 v3 w) (a0 : Nat) (a1 : Nat) (q0 : w.cell? ⟨a0, 0, none⟩ = some (.int .i64 ((a : Nat) : Int))) (q1 : w.cell? ⟨a1, 0, none⟩ = some (.int .i64 ((b : Nat) : Int))) :
    Calls Tryz.prog 68 #[.iface 126 (.agg #[.pointer (some ⟨B, 0, none⟩)]), .pointer (some ⟨a0, 0, none⟩), .pointer (some ⟨a1, 0, none⟩)] w fun e W' => (∃ v, e = .returned (.int .i64 (((G.length + 2) : Nat) : Int)) ∧ IsB B p sl (G ++ orL G.length a b) xs v1 v v3 W' ∧ Fr B v2 v w W') ∨ Full 3 B p sl G xs v1 v2 v3 w e W' := by
  have HR := Lib.hid (or_any B p hp sl G xs v1 v2 v3 a b ha hb w h)
  clear h ha hb
  go_enter Tryz.func68, Tryz.ntmps68
  go_wp2_with (go_at_call 69; refine HR.out.mono ?_; intro e w1 he; rcases he with ⟨rfl, x2, hI, hF⟩ | ⟨hk, rfl, he⟩; rotate_left; exact ⟨rfl, .inr ⟨hk, rfl, he⟩⟩; have HI := Lib.hid hI; have HF := Lib.hid hF; clear hI hF)
  go_ret
  exact .inl ⟨x2, rfl, HI.out, HF.out⟩
set_option maxHeartbeats 1000000 in
set_option maxRecDepth 100000 in
theorem or_ans (B p : Nat) (hp : 1 < p) (sl : List Slo) (G : List Gat) (xs : List Exi) (v1 v2 v3 : Value) (za zb : Int) (w : World) (h : IsB B p sl G xs v1 v2 v3 w) :
    Calls Tryz.prog 32 #[.pointer (some ⟨B, 0, none⟩), .int .i64 za, .int .i64 zb] w fun e W' => ∃ x k, e = .returned (.tuple #[x, .int .i64 k]) ∧ AnsI (placesErr G.length [za, zb]) 3 (G ++ orL G.length (za.toNat) (zb.toNat)) (G.length + 2) B p sl G xs v1 v2 v3 w x k W' := by
  have hmf : ∀ (fn : Fn) (first cap : Array Value) (w : World), (Instr.makeFunc fn first cap).run Tryz.prog w = .ok (.func fn first cap) w := fun _ _ _ _ => rfl
  obtain ⟨k0, k1, k2, hsz, hb1⟩ := three w (.cells #[.int .i64 za] 3) (.cells #[.int .i64 zb] 3) (.cells #[.int .i64 za, .int .i64 zb] 3)
  have hrd : Reads (((w.alloc (.cells #[.int .i64 za] 3)).alloc (.cells #[.int .i64 zb] 3)).alloc (.cells #[.int .i64 za, .int .i64 zb] 3)) (some ⟨w.heap.size + 1 + 1, 0, none⟩) (iCells [za, zb]) := by
    have h5 := own_reads_at (own_freshN ((w.alloc (.cells #[.int .i64 za] 3)).alloc (.cells #[.int .i64 zb] 3)) 3 (iCells [za, zb]) 2 rfl (by decide))
    have e : ((w.alloc (.cells #[.int .i64 za] 3)).alloc (.cells #[.int .i64 zb] 3)).heap.size = w.heap.size + 1 + 1 := by simp
    rw [e] at h5
    exact h5
  have HD : Hid (Calls Tryz.prog 63 #[.pointer (some ⟨B, 0, none⟩), .slice (some ⟨w.heap.size + 1 + 1, 0, none⟩) 2 2, .func (.func 68) #[] #[.pointer (some ⟨w.heap.size, 0, none⟩), .pointer (some ⟨w.heap.size + 1, 0, none⟩)]] (((w.alloc (.cells #[.int .i64 za] 3)).alloc (.cells #[.int .i64 zb] 3)).alloc (.cells #[.int .i64 za, .int .i64 zb] 3)) fun e W' => ∃ x k, e = .returned (.tuple #[x, .int .i64 k]) ∧ AnsI (placesErr G.length [za, zb]) 3 (G ++ orL G.length (za.toNat) (zb.toNat)) (G.length + 2) B p sl G xs v1 v2 v3 w x k W') := Lib.hid (by
    refine (doI_ans B p hp sl G xs v1 v2 v3 [za, zb] _ 2 (by simp) (by simp) 68 #[.pointer (some ⟨w.heap.size, 0, none⟩), .pointer (some ⟨w.heap.size + 1, 0, none⟩)] 3 (G ++ orL G.length (za.toNat) (zb.toNat)) (G.length + 2) _ (h.below hb1) hrd (fun _ _ => by kernel_rfl) (fun he W hb => ?_)).mono fun e W' ⟨x, k, e1, e2⟩ => ⟨x, k, e1, e2.from hb1⟩
    have hr : ([za, zb] : List Int).any (outside G.length) = false := by
      unfold placesErr at he
      split at he
      · cases he
      · rename_i h5; simpa using h5
    simp only [List.any_cons, List.any_nil, Bool.or_false, Bool.or_eq_false_iff, outside, decide_eq_false_iff_not] at hr
    have hbw := hb1.trans (hb.mono hb1.size)
    have c0 := (hb.cell (World.block_lt_of_cell? _ _ (box1 k0).1)).trans (box1 k0).1
    rw [← Int.toNat_of_nonneg (show 0 ≤ za by omega)] at c0
    have c1 := (hb.cell (World.block_lt_of_cell? _ _ (box1 k1).1)).trans (box1 k1).1
    rw [← Int.toNat_of_nonneg (show 0 ≤ zb by omega)] at c1
    exact orC_any B p hp sl G xs v1 v2 v3 za.toNat zb.toNat (by omega) (by omega) W (h.below hbw) w.heap.size (w.heap.size + 1) c0 c1)
  clear h hrd hb1 k0 k1
  go_enter Tryz.func32, Tryz.ntmps32
  go_wp2_with (go_at_call 63; refine HD.out.mono ?_; rintro e w1 ⟨x, k, rfl, hq⟩; have HQ := Lib.hid hq; clear hq)
  refine bodyPost_ret (v := .tuple #[x, .int .i64 k]) ?_ rfl ⟨x, k, rfl, HQ.out⟩
  simp [results, Tryz.results32, go_sem]
set_option maxHeartbeats 1000000 in
set_option maxRecDepth 100000 in
theorem xorC_any (B p : Nat) (hp : 1 < p) (sl : List Slo) (G : List Gat) (xs : List Exi) (v1 v2 v3 : Value) (a : Nat) (b : Nat) (ha : a < G.length) (hb : b < G.length) (w : World) (h : IsB B p sl G xs v1 v2 v3 w) (a0 : Nat) (a1 : Nat) (q0 : w.cell? ⟨a0, 0, none⟩ = some (.int .i64 ((a : Nat) : Int))) (q1 : w.cell? ⟨a1, 0, none⟩ = some (.int .i64 ((b : Nat) : Int))) :
    Calls Tryz.prog 70 #[.iface 126 (.agg #[.pointer (some ⟨B, 0, none⟩)]), .pointer (some ⟨a0, 0, none⟩), .pointer (some ⟨a1, 0, none⟩)] w fun e W' => (∃ v, e = .returned (.int .i64 (((G.length + 3) : Nat) : Int)) ∧ IsB B p sl (G ++ xorL G.length a b) xs v1 v v3 W' ∧ Fr B v2 v w W') ∨ Full 4 B p sl G xs v1 v2 v3 w e W' := by
  have HR := Lib.hid (xor_any B p hp sl G xs v1 v2 v3 a b ha hb w h)
  clear h ha hb
  go_enter Tryz.func70, Tryz.ntmps70
  go_wp2_with (go_at_call 71; refine HR.out.mono ?_; intro e w1 he; rcases he with ⟨rfl, x2, hI, hF⟩ | ⟨hk, rfl, he⟩; rotate_left; exact ⟨rfl, .inr ⟨hk, rfl, he⟩⟩; have HI := Lib.hid hI; have HF := Lib.hid hF; clear hI hF)
  go_ret
  exact .inl ⟨x2, rfl, HI.out, HF.out⟩
set_option maxHeartbeats 1000000 in
set_option maxRecDepth 100000 in
theorem xor_ans (B p : Nat) (hp : 1 < p) (sl : List Slo) (G : List Gat) (xs : List Exi) (v1 v2 v3 : Value) (za zb : Int) (w : World) (h : IsB B p sl G xs v1 v2 v3 w) :
    Calls Tryz.prog 33 #[.pointer (some ⟨B, 0, none⟩), .int .i64 za, .int .i64 zb] w fun e W' => ∃ x k, e = .returned (.tuple #[x, .int .i64 k]) ∧ AnsI (placesErr G.length [za, zb]) 4 (G ++ xorL G.length (za.toNat) (zb.toNat)) (G.length + 3) B p sl G xs v1 v2 v3 w x k W' := by
  have hmf : ∀ (fn : Fn) (first cap : Array Value) (w : World), (Instr.makeFunc fn first cap).run Tryz.prog w = .ok (.func fn first cap) w := fun _ _ _ _ => rfl
  obtain ⟨k0, k1, k2, hsz, hb1⟩ := three w (.cells #[.int .i64 za] 3) (.cells #[.int .i64 zb] 3) (.cells #[.int .i64 za, .int .i64 zb] 3)
  have hrd : Reads (((w.alloc (.cells #[.int .i64 za] 3)).alloc (.cells #[.int .i64 zb] 3)).alloc (.cells #[.int .i64 za, .int .i64 zb] 3)) (some ⟨w.heap.size + 1 + 1, 0, none⟩) (iCells [za, zb]) := by
    have h5 := own_reads_at (own_freshN ((w.alloc (.cells #[.int .i64 za] 3)).alloc (.cells #[.int .i64 zb] 3)) 3 (iCells [za, zb]) 2 rfl (by decide))
    have e : ((w.alloc (.cells #[.int .i64 za] 3)).alloc (.cells #[.int .i64 zb] 3)).heap.size = w.heap.size + 1 + 1 := by simp
    rw [e] at h5
    exact h5
  have HD : Hid (Calls Tryz.prog 63 #[.pointer (some ⟨B, 0, none⟩), .slice (some ⟨w.heap.size + 1 + 1, 0, none⟩) 2 2, .func (.func 70) #[] #[.pointer (some ⟨w.heap.size, 0, none⟩), .pointer (some ⟨w.heap.size + 1, 0, none⟩)]] (((w.alloc (.cells #[.int .i64 za] 3)).alloc (.cells #[.int .i64 zb] 3)).alloc (.cells #[.int .i64 za, .int .i64 zb] 3)) fun e W' => ∃ x k, e = .returned (.tuple #[x, .int .i64 k]) ∧ AnsI (placesErr G.length [za, zb]) 4 (G ++ xorL G.length (za.toNat) (zb.toNat)) (G.length + 3) B p sl G xs v1 v2 v3 w x k W') := Lib.hid (by
    refine (doI_ans B p hp sl G xs v1 v2 v3 [za, zb] _ 2 (by simp) (by simp) 70 #[.pointer (some ⟨w.heap.size, 0, none⟩), .pointer (some ⟨w.heap.size + 1, 0, none⟩)] 4 (G ++ xorL G.length (za.toNat) (zb.toNat)) (G.length + 3) _ (h.below hb1) hrd (fun _ _ => by kernel_rfl) (fun he W hb => ?_)).mono fun e W' ⟨x, k, e1, e2⟩ => ⟨x, k, e1, e2.from hb1⟩
    have hr : ([za, zb] : List Int).any (outside G.length) = false := by
      unfold placesErr at he
      split at he
      · cases he
      · rename_i h5; simpa using h5
    simp only [List.any_cons, List.any_nil, Bool.or_false, Bool.or_eq_false_iff, outside, decide_eq_false_iff_not] at hr
    have hbw := hb1.trans (hb.mono hb1.size)
    have c0 := (hb.cell (World.block_lt_of_cell? _ _ (box1 k0).1)).trans (box1 k0).1
    rw [← Int.toNat_of_nonneg (show 0 ≤ za by omega)] at c0
    have c1 := (hb.cell (World.block_lt_of_cell? _ _ (box1 k1).1)).trans (box1 k1).1
    rw [← Int.toNat_of_nonneg (show 0 ≤ zb by omega)] at c1
    exact xorC_any B p hp sl G xs v1 v2 v3 za.toNat zb.toNat (by omega) (by omega) W (h.below hbw) w.heap.size (w.heap.size + 1) c0 c1)
  clear h hrd hb1 k0 k1
  go_enter Tryz.func33, Tryz.ntmps33
  go_wp2_with (go_at_call 63; refine HD.out.mono ?_; rintro e w1 ⟨x, k, rfl, hq⟩; have HQ := Lib.hid hq; clear hq)
  refine bodyPost_ret (v := .tuple #[x, .int .i64 k]) ?_ rfl ⟨x, k, rfl, HQ.out⟩
  simp [results, Tryz.results33, go_sem]
set_option maxHeartbeats 1000000 in
set_option maxRecDepth 100000 in
theorem pickC_any (B p : Nat) (hp : 1 < p) (sl : List Slo) (G : List Gat) (xs : List Exi) (v1 v2 v3 : Value) (c : Nat) (a : Nat) (b : Nat) (hc : c < G.length) (ha : a < G.length) (hb : b < G.length) (w : World) (h : IsB B p sl G xs v1 v2 v3 w) (a0 : Nat) (a1 : Nat) (a2 : Nat) (q0 : w.cell? ⟨a0, 0, none⟩ = some (.int .i64 ((c : Nat) : Int))) (q1 : w.cell? ⟨a1, 0, none⟩ = some (.int .i64 ((a : Nat) : Int))) (q2 : w.cell? ⟨a2, 0, none⟩ = some (.int .i64 ((b : Nat) : Int))) :
    Calls Tryz.prog 72 #[.iface 126 (.agg #[.pointer (some ⟨B, 0, none⟩)]), .pointer (some ⟨a0, 0, none⟩), .pointer (some ⟨a1, 0, none⟩), .pointer (some ⟨a2, 0, none⟩)] w fun e W' => (∃ v, e = .returned (.int .i64 (((G.length + 2) : Nat) : Int)) ∧ IsB B p sl (G ++ pickL G.length c a b) xs v1 v v3 W' ∧ Fr B v2 v w W') ∨ Full 3 B p sl G xs v1 v2 v3 w e W' := by
  have HR := Lib.hid (pick_any B p hp sl G xs v1 v2 v3 c a b hc ha hb w h)
  clear h hc ha hb
  go_enter Tryz.func72, Tryz.ntmps72
  go_wp2_with (go_at_call 73; refine HR.out.mono ?_; intro e w1 he; rcases he with ⟨rfl, x2, hI, hF⟩ | ⟨hk, rfl, he⟩; rotate_left; exact ⟨rfl, .inr ⟨hk, rfl, he⟩⟩; have HI := Lib.hid hI; have HF := Lib.hid hF; clear hI hF)
  go_ret
  exact .inl ⟨x2, rfl, HI.out, HF.out⟩
set_option maxHeartbeats 1000000 in
set_option maxRecDepth 100000 in
theorem pick_ans (B p : Nat) (hp : 1 < p) (sl : List Slo) (G : List Gat) (xs : List Exi) (v1 v2 v3 : Value) (zc za zb : Int) (w : World) (h : IsB B p sl G xs v1 v2 v3 w) :
    Calls Tryz.prog 34 #[.pointer (some ⟨B, 0, none⟩), .int .i64 zc, .int .i64 za, .int .i64 zb] w fun e W' => ∃ x k, e = .returned (.tuple #[x, .int .i64 k]) ∧ AnsI (placesErr G.length [zc, za, zb]) 3 (G ++ pickL G.length (zc.toNat) (za.toNat) (zb.toNat)) (G.length + 2) B p sl G xs v1 v2 v3 w x k W' := by
  have hmf : ∀ (fn : Fn) (first cap : Array Value) (w : World), (Instr.makeFunc fn first cap).run Tryz.prog w = .ok (.func fn first cap) w := fun _ _ _ _ => rfl
  obtain ⟨k0, k1, k2, hb1⟩ := four w (.cells #[.int .i64 zc] 3) (.cells #[.int .i64 za] 3) (.cells #[.int .i64 zb] 3) (.cells #[.int .i64 zc, .int .i64 za, .int .i64 zb] 3)
  have hrd : Reads ((((w.alloc (.cells #[.int .i64 zc] 3)).alloc (.cells #[.int .i64 za] 3)).alloc (.cells #[.int .i64 zb] 3)).alloc (.cells #[.int .i64 zc, .int .i64 za, .int .i64 zb] 3)) (some ⟨w.heap.size + 1 + 1 + 1, 0, none⟩) (iCells [zc, za, zb]) := by
    have h5 := own_reads_at (own_freshN (((w.alloc (.cells #[.int .i64 zc] 3)).alloc (.cells #[.int .i64 za] 3)).alloc (.cells #[.int .i64 zb] 3)) 3 (iCells [zc, za, zb]) 3 rfl (by decide))
    have e : (((w.alloc (.cells #[.int .i64 zc] 3)).alloc (.cells #[.int .i64 za] 3)).alloc (.cells #[.int .i64 zb] 3)).heap.size = w.heap.size + 1 + 1 + 1 := by simp
    rw [e] at h5
    exact h5
  have HD : Hid (Calls Tryz.prog 63 #[.pointer (some ⟨B, 0, none⟩), .slice (some ⟨w.heap.size + 1 + 1 + 1, 0, none⟩) 3 3, .func (.func 72) #[] #[.pointer (some ⟨w.heap.size, 0, none⟩), .pointer (some ⟨w.heap.size + 1, 0, none⟩), .pointer (some ⟨w.heap.size + 1 + 1, 0, none⟩)]] ((((w.alloc (.cells #[.int .i64 zc] 3)).alloc (.cells #[.int .i64 za] 3)).alloc (.cells #[.int .i64 zb] 3)).alloc (.cells #[.int .i64 zc, .int .i64 za, .int .i64 zb] 3)) fun e W' => ∃ x k, e = .returned (.tuple #[x, .int .i64 k]) ∧ AnsI (placesErr G.length [zc, za, zb]) 3 (G ++ pickL G.length (zc.toNat) (za.toNat) (zb.toNat)) (G.length + 2) B p sl G xs v1 v2 v3 w x k W') := Lib.hid (by
    refine (doI_ans B p hp sl G xs v1 v2 v3 [zc, za, zb] _ 3 (by simp) (by simp) 72 #[.pointer (some ⟨w.heap.size, 0, none⟩), .pointer (some ⟨w.heap.size + 1, 0, none⟩), .pointer (some ⟨w.heap.size + 1 + 1, 0, none⟩)] 3 (G ++ pickL G.length (zc.toNat) (za.toNat) (zb.toNat)) (G.length + 2) _ (h.below hb1) hrd (fun _ _ => by kernel_rfl) (fun he W hb => ?_)).mono fun e W' ⟨x, k, e1, e2⟩ => ⟨x, k, e1, e2.from hb1⟩
    have hr : ([zc, za, zb] : List Int).any (outside G.length) = false := by
      unfold placesErr at he
      split at he
      · cases he
      · rename_i h5; simpa using h5
    simp only [List.any_cons, List.any_nil, Bool.or_false, Bool.or_eq_false_iff, outside, decide_eq_false_iff_not] at hr
    have hbw := hb1.trans (hb.mono hb1.size)
    have c0 := (hb.cell (World.block_lt_of_cell? _ _ (box1 k0).1)).trans (box1 k0).1
    rw [← Int.toNat_of_nonneg (show 0 ≤ zc by omega)] at c0
    have c1 := (hb.cell (World.block_lt_of_cell? _ _ (box1 k1).1)).trans (box1 k1).1
    rw [← Int.toNat_of_nonneg (show 0 ≤ za by omega)] at c1
    have c2 := (hb.cell (World.block_lt_of_cell? _ _ (box1 k2).1)).trans (box1 k2).1
    rw [← Int.toNat_of_nonneg (show 0 ≤ zb by omega)] at c2
    exact pickC_any B p hp sl G xs v1 v2 v3 zc.toNat za.toNat zb.toNat (by omega) (by omega) (by omega) W (h.below hbw) w.heap.size (w.heap.size + 1) (w.heap.size + 1 + 1) c0 c1 c2)
  clear h hrd hb1 k0 k1 k2
  go_enter Tryz.func34, Tryz.ntmps34
  go_wp2_with (go_at_call 63; refine HD.out.mono ?_; rintro e w1 ⟨x, k, rfl, hq⟩; have HQ := Lib.hid hq; clear hq)
  refine bodyPost_ret (v := .tuple #[x, .int .i64 k]) ?_ rfl ⟨x, k, rfl, HQ.out⟩
  simp [results, Tryz.results34, go_sem]
end Go.Proofs.YtkcdlbclodjjhaaGreat
