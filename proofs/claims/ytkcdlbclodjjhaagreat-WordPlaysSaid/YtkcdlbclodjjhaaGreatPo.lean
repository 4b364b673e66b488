/- Contracts of Clone of ints and of the board's Tell. (Printed by wip/tools/gen_po.py.) -/
import Derived.Test.YtkcdlbclodjjhaaGreatGah
import Derived.Test.YtkcdlbclodjjhaaGreatGan
import Derived.Deep.DeepCutAuto
import Derived.Deep.DrawnRows
namespace Go.Proofs.YtkcdlbclodjjhaaGreat
open Go.RowKit
attribute [local go_sem ↓] Go.wp_at_zero Go.wp_at_succ

theorem one_iC (l : List Int) : ∀ u ∈ iCells l, u.oneCell' = true := by intro u hu; simp [iCells] at hu; obtain ⟨y, _, rfl⟩ := hu; rfl
set_option maxRecDepth 100000 in
theorem cloneI_any (l : List Int) (A : Option Addr) (c : Nat) (hn : A = none → c = 0) (hl : l.length ≤ 65536) (w : World) (hA : Reads w A (iCells l)) :
    Calls Tryz.prog 25 #[.slice A l.length c] w fun e w' => ∃ A' c', e = .returned (.slice A' l.length c') ∧ w'.ownsRow w.heap.size 3 1 (.slice A' l.length c') l.length (iCells l) ∧ Below w.heap.size w w' := by
  cases A with
  | none =>
    obtain rfl := hn rfl
    obtain rfl : l = [] := by
      rcases hA with h | ⟨ad, h, _⟩
      · simpa [iCells] using h
      · cases h
    have hq2 : ∀ W, (binOp .eql 38 (.slice none 0 0) (.slice none 0 0)).run Tryz.prog W = .ok (.bool true) W := fun _ => by kernel_rfl
    clear hA hl hn
    go_enter Tryz.func25, Tryz.ntmps25
    go_wp2
    go_ret
    exact ⟨none, 0, rfl, World.ownsRow_nil _ _ _ _, Below.refl _ _⟩
  | some ad =>
    have hq1 : ∀ (n : Nat) W, (binOp .eql 38 (.slice (some ad) n c) (.slice none 0 0)).run Tryz.prog W = .ok (.bool false) W := fun _ _ => by kernel_rfl
    have hr : ∀ j u, (iCells l)[j]? = some u → (w.alloc (.cells #[] 3)).cell? (ad.add j) = some u := fun j u hj => by
      rcases hA with h | ⟨ad', h1, h2⟩
      · rw [h] at hj; simp at hj
      · injection h1 with h1
        subst h1
        have h5 := h2 j u hj
        exact (((Below.refl w.heap.size w).alloc (Nat.le_refl _) _).cell (World.block_lt_of_cell? _ _ h5)).trans h5
    have HR := Lib.hid hr
    have H1 := Lib.hid (one_iC l)
    have HL : Hid ((iCells l).length = l.length * 1) := Lib.hid (by simp [iCells])
    clear hr hA hn
    generalize l.length = n at *
    go_enter Tryz.func25, Tryz.ntmps25
    go_wp2_with (at_builtin; refine app_rows w.heap.size rfl _ _ 38 3 _ 1 8 rfl Tryz.underlying38 infoInt rfl (by decide) (by decide) _ 0 [] (iCells l) rfl ad n c rfl HL.out HR.out H1.out (own_emptyN w _ _) (by simp) (by omega) ?_; intro v3 w3 hown3 hg3; have HO3 := Lib.hid hown3; clear hown3; have HG3 := Lib.hid hg3; clear hg3)
    go_ret
    have h := HO3.out
    rw [Nat.zero_add, List.nil_append] at h
    obtain ⟨A', c', rfl, _⟩ := own_reads h
    exact ⟨A', c', rfl, h, ((Below.refl _ _).alloc (Nat.le_refl _) _).grown HG3.out (by simp) (fun q hq => by cases hq; exact Nat.le_refl _)⟩
theorem own_nil0 {w : World} {base n : Nat} {e : TypeId} {size : Nat} {A : Option Addr} {m c : Nat} {cs : List Value} (h : w.ownsRow base e size (.slice A m c) n cs) (hA : A = none) : c = 0 := by
  rcases h.2 with ⟨e1, _⟩ | ⟨g, cap, cur, e1, _⟩
  · injection e1
  · injection e1 with e1; rw [hA] at e1; cases e1
theorem box_farE {W : World} {b k j : Nat} {o : Obj} {u : Value} (h : W.heap[b]? = some o) (hne : b ≠ k) : (W.setCell ⟨k, j, none⟩ u).heap[b]? = some o := by
  rw [Below.heap_setCell _ _ _ _ (by simpa using hne)]; exact h
theorem infoExi : (Tryz.prog.info? 44).map (fun i => (i.zero, i.size, i.bytes)) = some (some (.agg #[.slice none 0 0, .slice none 0 0]), 2, 48) := by kernel_rfl
/-- The exits' row grew. -/
theorem IsB.exit {B p : Nat} {sl : List Slo} {G : List Gat} {xs : List Exi} {v1 v2 v3 v : Value} {W W3 : World} (h : IsB B p sl G xs v1 v2 v3 W) {x : Exi} (ho : W3.ownsRow (B + 1) 44 2 v (xs.length + 1) (exiCells xs ++ [.slice x.A x.tl.length x.c, .slice x.B x.gl.length x.d])) (hg : W.grownBy W3 v3.ownBlock)
    (h1 : W.ownsRow (B + 1) 3 1 (.slice x.A x.tl.length x.c) x.tl.length (iCells x.tl)) (h2 : W.ownsRow (B + 1) 3 1 (.slice x.B x.gl.length x.d) x.gl.length (iCells x.gl)) :
    IsB B p sl G (xs ++ [x]) v1 v2 v (W3.setCell ⟨B, 3, none⟩ v) := by
  refine ⟨own_set (h.h1.kept hg (own_ne h.h1 h.h3 (by decide))) (Nat.lt_succ_self _) _, own_set (h.h2.kept hg (own_ne h.h2 h.h3 (by decide))) (Nat.lt_succ_self _) _, ?_, fun y hy => ?_, ?_, h.hk, h.hz⟩
  · have := own_set ho (p := ⟨B, 3, none⟩) (Nat.lt_succ_self _) v
    rw [show exiCells (xs ++ [x]) = exiCells xs ++ [.slice x.A x.tl.length x.c, .slice x.B x.gl.length x.d] by simp [exiCells]]
    simpa using this
  · rcases List.mem_append.1 hy with hy | hy
    · exact ⟨(h.hx y hy).1.map fun o => own_set (o.kept hg (own_ne o h.h3 (by decide))) (Nat.lt_succ_self _) _, (h.hx y hy).2.map fun o => own_set (o.kept hg (own_ne o h.h3 (by decide))) (Nat.lt_succ_self _) _⟩
    · rw [List.mem_singleton.1 hy]
      exact ⟨.inr (own_set (h1.kept hg (own_ne h1 h.h3 (by decide))) (Nat.lt_succ_self _) _), .inr (own_set (h2.kept hg (own_ne h2 h.h3 (by decide))) (Nat.lt_succ_self _) _)⟩
  · exact box_set ((hg.block _ h.lt (own_past h.h3 (Nat.lt_succ_self _))).trans h.hb) v
theorem Fr.exit {B : Nat} {v3 v : Value} {W W3 : World} (hg : W.grownBy W3 v3.ownBlock) (hf : ∀ k, v.ownBlock = some k → v3.ownBlock = some k ∨ W.heap.size ≤ k) : Fr B v3 v W (W3.setCell ⟨B, 3, none⟩ v) :=
  ⟨hg.os, hg.tape, hg.output, by simpa [World.setCell] using hg.size, fun k hk hB hn => by rw [Below.heap_setCell _ _ _ _ (by simpa using hB)]; exact hg.block k hk hn, hf⟩
set_option maxHeartbeats 1000000 in
set_option maxRecDepth 100000 in
theorem tell_bad (B p : Nat) (hp : 0 < p) (sl : List Slo) (G : List Gat) (xs : List Exi) (v1 v2 v3 : Value) (x : Exi) (h1 : x.tl.length ≤ 9223372036854775807) (h2 : x.gl.length ≤ 9223372036854775807) (w : World) (h : IsB B p sl G xs v1 v2 v3 w) (rA : Reads w x.A (iCells x.tl)) (rB : Reads w x.B (iCells x.gl)) (er : Int) (hx : xErr G.length x = er) (he : er ≠ 0) :
    Calls Tryz.prog 28 #[.pointer (some ⟨B, 0, none⟩), .agg #[.slice x.A x.tl.length x.c, .slice x.B x.gl.length x.d]] w fun e W' => e = .returned (.int .i64 er) ∧ Below w.heap.size w W' := by
  obtain ⟨GA, gc, rfl, _⟩ := own_reads h.h2
  obtain ⟨EA, ec, rfl, _⟩ := own_reads h.h3
  have q0 := (box4 h.hb).1
  have HM := Lib.hid (fun W q => made_any B p hp W q)
  have HG := Lib.hid (fun W (hb : Below w.heap.size w W) => exit_any G.length x.tl x.gl x.A x.B x.c x.d h1 h2 W (rA.below hb) (rB.below hb))
  have HI := Lib.hid h
  have hgb : (er == 0) = false := by simpa using he
  clear h rA rB h1 h2
  unfold xErr at hx
  rw [hx] at HG
  generalize hl1 : x.tl.length = tn at *
  generalize hl2 : x.gl.length = rn at *
  generalize x.A = XA at *
  generalize x.B = XB at *
  generalize x.c = xc at *
  generalize x.d = xd at *
  clear hx
  go_enter Tryz.func28, Tryz.ntmps28
  go_wp2_with (first | (go_at_call 22; refine (HM.out _ (cell_al q0)).mono ?_; rintro e w1 ⟨rfl, hw1⟩; have HW1 := Lib.hid hw1; clear hw1))
  have hb1 : Below w.heap.size w w1 := by rw [← HW1.out]; exact (Below.refl _ _).alloc (Nat.le_refl _) _
  have hx1 : w1.heap[w.heap.size]? = some (.cells #[.slice XA tn xc, .slice XB rn xd] 44 (0, 0)) := by rw [← HW1.out]; exact heap_alloc_new w _
  have c0 : w1.cell? ⟨w.heap.size, 0, none⟩ = some (.slice XA tn xc) := cell_in hx1
  have c1 : w1.cell? ⟨w.heap.size, 1, none⟩ = some (.slice XB rn xd) := cell_in hx1
  have HX1 := Lib.hid hx1; clear hx1
  clear q0
  obtain ⟨q0, q1, q2, q3, q4, q5, q6⟩ := box4 ((hb1.block _ HI.out.lt).trans HI.out.hb)
  have HB1 := Lib.hid hb1; clear hb1 HW1
  go_still_tail 7, (by kernel_rfl)
  change wpList _ _ _ _ _ _
  go_wp2_with (go_at_call 62; refine (HG.out _ HB1.out.drew).mono ?_; rintro e w3 ⟨rfl, hb3⟩; have HB3 := Lib.hid (HB1.out.drew.trans (hb3.mono HB1.out.drew.size)); have HX3 := Lib.hid (((Below.refl w1.heap.size w1).drew.trans hb3).block _ (Array.getElem?_eq_some_iff.1 HX1.out).1 |>.trans HX1.out); clear q0 q1 q2 q3 q4 q5 q6 c0 c1; obtain ⟨q0, q1, q2, q3, q4, q5, q6⟩ := box4 ((HB3.out.block _ HI.out.lt).trans HI.out.hb); have c0 : w3.cell? ⟨w.heap.size, 0, none⟩ = some (.slice XA tn xc) := cell_in HX3.out; have c1 : w3.cell? ⟨w.heap.size, 1, none⟩ = some (.slice XB rn xd) := cell_in HX3.out; clear hb3)
  go_ret
  exact ⟨rfl, HB3.out⟩
set_option maxHeartbeats 1000000 in
set_option maxRecDepth 100000 in
theorem tell_full (B p : Nat) (hp : 0 < p) (sl : List Slo) (G : List Gat) (xs : List Exi) (v1 v2 v3 : Value) (x : Exi) (h1 : x.tl.length ≤ 9223372036854775807) (h2 : x.gl.length ≤ 9223372036854775807) (w : World) (h : IsB B p sl G xs v1 v2 v3 w) (rA : Reads w x.A (iCells x.tl)) (rB : Reads w x.B (iCells x.gl)) (hx : xErr G.length x = 0) (hf : 4096 ≤ xs.length) :
    Calls Tryz.prog 28 #[.pointer (some ⟨B, 0, none⟩), .agg #[.slice x.A x.tl.length x.c, .slice x.B x.gl.length x.d]] w fun e W' => e = .returned (.int .i64 3) ∧ Below w.heap.size w W' := by
  obtain ⟨GA, gc, rfl, _⟩ := own_reads h.h2
  obtain ⟨EA, ec, rfl, _⟩ := own_reads h.h3
  have q0 := (box4 h.hb).1
  have HM := Lib.hid (fun W q => made_any B p hp W q)
  have HG := Lib.hid (fun W (hb : Below w.heap.size w W) => exit_any G.length x.tl x.gl x.A x.B x.c x.d h1 h2 W (rA.below hb) (rB.below hb))
  have HI := Lib.hid h
  have hf' : (4096 : Int) ≤ (xs.length : Int) := by omega
  clear hf
  clear h rA rB h1 h2
  unfold xErr at hx
  rw [hx] at HG
  generalize hl1 : x.tl.length = tn at *
  generalize hl2 : x.gl.length = rn at *
  generalize x.A = XA at *
  generalize x.B = XB at *
  generalize x.c = xc at *
  generalize x.d = xd at *
  clear hx
  go_enter Tryz.func28, Tryz.ntmps28
  go_wp2_with (first | (go_at_call 22; refine (HM.out _ (cell_al q0)).mono ?_; rintro e w1 ⟨rfl, hw1⟩; have HW1 := Lib.hid hw1; clear hw1))
  have hb1 : Below w.heap.size w w1 := by rw [← HW1.out]; exact (Below.refl _ _).alloc (Nat.le_refl _) _
  have hx1 : w1.heap[w.heap.size]? = some (.cells #[.slice XA tn xc, .slice XB rn xd] 44 (0, 0)) := by rw [← HW1.out]; exact heap_alloc_new w _
  have c0 : w1.cell? ⟨w.heap.size, 0, none⟩ = some (.slice XA tn xc) := cell_in hx1
  have c1 : w1.cell? ⟨w.heap.size, 1, none⟩ = some (.slice XB rn xd) := cell_in hx1
  have HX1 := Lib.hid hx1; clear hx1
  clear q0
  obtain ⟨q0, q1, q2, q3, q4, q5, q6⟩ := box4 ((hb1.block _ HI.out.lt).trans HI.out.hb)
  have HB1 := Lib.hid hb1; clear hb1 HW1
  go_still_tail 7, (by kernel_rfl)
  change wpList _ _ _ _ _ _
  go_wp2_with (go_at_call 62; refine (HG.out _ HB1.out.drew).mono ?_; rintro e w3 ⟨rfl, hb3⟩; have HB3 := Lib.hid (HB1.out.drew.trans (hb3.mono HB1.out.drew.size)); have HX3 := Lib.hid (((Below.refl w1.heap.size w1).drew.trans hb3).block _ (Array.getElem?_eq_some_iff.1 HX1.out).1 |>.trans HX1.out); clear q0 q1 q2 q3 q4 q5 q6 c0 c1; obtain ⟨q0, q1, q2, q3, q4, q5, q6⟩ := box4 ((HB3.out.block _ HI.out.lt).trans HI.out.hb); have c0 : w3.cell? ⟨w.heap.size, 0, none⟩ = some (.slice XA tn xc) := cell_in HX3.out; have c1 : w3.cell? ⟨w.heap.size, 1, none⟩ = some (.slice XB rn xd) := cell_in HX3.out; clear hb3)
  go_ret
  exact ⟨rfl, HB3.out⟩

set_option maxHeartbeats 4000000 in
set_option maxRecDepth 100000 in
theorem tell_ok (B p : Nat) (hp : 0 < p) (sl : List Slo) (G : List Gat) (xs : List Exi) (v1 v2 v3 : Value) (x : Exi) (h1 : x.tl.length ≤ 9223372036854775807) (h2 : x.gl.length ≤ 9223372036854775807) (w : World) (h : IsB B p sl G xs v1 v2 v3 w) (rA : Reads w x.A (iCells x.tl)) (rB : Reads w x.B (iCells x.gl)) (hx : xErr G.length x = 0) (hf : xs.length < 4096) (nA : x.A = none → x.c = 0) (nB : x.B = none → x.d = 0) (l1 : x.tl.length ≤ 65536) (l2 : x.gl.length ≤ 65536) :
    Calls Tryz.prog 28 #[.pointer (some ⟨B, 0, none⟩), .agg #[.slice x.A x.tl.length x.c, .slice x.B x.gl.length x.d]] w fun e W' => e = .returned (.int .i64 0) ∧ ∃ (x' : Exi) (v : Value), (x'.tl = x.tl ∧ x'.gl = x.gl ∧ (x'.A = none → x'.c = 0) ∧ (x'.B = none → x'.d = 0)) ∧ IsB B p sl G (xs ++ [x']) v1 v2 v W' ∧ Fr B v3 v w W' := by
  obtain ⟨GA, gc, rfl, _⟩ := own_reads h.h2
  obtain ⟨EA, ec, rfl, _⟩ := own_reads h.h3
  have q0 := (box4 h.hb).1
  have HM := Lib.hid (fun W q => made_any B p hp W q)
  have HG := Lib.hid (fun W (hb : Below w.heap.size w W) => exit_any G.length x.tl x.gl x.A x.B x.c x.d h1 h2 W (rA.below hb) (rB.below hb))
  have HI := Lib.hid h
  have hf' : ¬ (4096 : Int) ≤ (xs.length : Int) := by omega
  have HFX := Lib.hid hf
  have RA := Lib.hid (fun W (hb : Below w.heap.size w W) => cloneI_any x.tl x.A x.c nA l1 W (rA.below hb))
  have RB := Lib.hid (fun W (hb : Below w.heap.size w W) => cloneI_any x.gl x.B x.d nB l2 W (rB.below hb))
  clear hf nA nB l1 l2
  clear h rA rB h1 h2
  unfold xErr at hx
  rw [hx] at HG
  generalize hl1 : x.tl.length = tn at *
  generalize hl2 : x.gl.length = rn at *
  generalize x.A = XA at *
  generalize x.B = XB at *
  generalize x.c = xc at *
  generalize x.d = xd at *
  clear hx
  go_enter Tryz.func28, Tryz.ntmps28
  go_wp2_with (first | (go_at_call 22; refine (HM.out _ (cell_al q0)).mono ?_; rintro e w1 ⟨rfl, hw1⟩; have HW1 := Lib.hid hw1; clear hw1))
  have hb1 : Below w.heap.size w w1 := by rw [← HW1.out]; exact (Below.refl _ _).alloc (Nat.le_refl _) _
  have hx1 : w1.heap[w.heap.size]? = some (.cells #[.slice XA tn xc, .slice XB rn xd] 44 (0, 0)) := by rw [← HW1.out]; exact heap_alloc_new w _
  have c0 : w1.cell? ⟨w.heap.size, 0, none⟩ = some (.slice XA tn xc) := cell_in hx1
  have c1 : w1.cell? ⟨w.heap.size, 1, none⟩ = some (.slice XB rn xd) := cell_in hx1
  have HX1 := Lib.hid hx1; clear hx1
  clear q0
  obtain ⟨q0, q1, q2, q3, q4, q5, q6⟩ := box4 ((hb1.block _ HI.out.lt).trans HI.out.hb)
  have HB1 := Lib.hid hb1; clear hb1 HW1
  go_still_tail 7, (by kernel_rfl)
  change wpList _ _ _ _ _ _
  go_wp2_with (go_at_call 62; refine (HG.out _ HB1.out.drew).mono ?_; rintro e w3 ⟨rfl, hb3⟩; have HB3 := Lib.hid (HB1.out.drew.trans (hb3.mono HB1.out.drew.size)); have HX3 := Lib.hid (((Below.refl w1.heap.size w1).drew.trans hb3).block _ (Array.getElem?_eq_some_iff.1 HX1.out).1 |>.trans HX1.out); clear q0 q1 q2 q3 q4 q5 q6 c0 c1; obtain ⟨q0, q1, q2, q3, q4, q5, q6⟩ := box4 ((HB3.out.block _ HI.out.lt).trans HI.out.hb); have c0 : w3.cell? ⟨w.heap.size, 0, none⟩ = some (.slice XA tn xc) := cell_in HX3.out; have c1 : w3.cell? ⟨w.heap.size, 1, none⟩ = some (.slice XB rn xd) := cell_in HX3.out; clear hb3)
  clear q1 q2 q4 q5
  have HIC := Lib.hid (HI.out.below HB3.out)
  have HLC : Hid (B + 1 ≤ w3.heap.size) := Lib.hid (by have := HB3.out.size; have := HI.out.lt; omega)
  have hBF : ∀ W, Below w3.heap.size w3 W → W.cell? ⟨B, 3, none⟩ = some (.slice EA xs.length ec) ∧ W.frozen? ⟨B, 3, none⟩ = false ∧ W.cell? ⟨w.heap.size, 0, none⟩ = some (.slice XA tn xc) ∧ W.cell? ⟨w.heap.size, 1, none⟩ = some (.slice XB rn xd) := fun W hb => by
    have h5 := box4 ((hb.block _ HIC.out.lt).trans HIC.out.hb)
    have h6 := (hb.block _ (Array.getElem?_eq_some_iff.1 HX3.out).1).trans HX3.out
    exact ⟨h5.2.2.2.1, h5.2.2.2.2.2.2, cell_in h6, cell_in h6⟩
  have HBF := Lib.hid hBF
  have HCA : Hid (∀ W, Below w3.heap.size w3 W → Calls Tryz.prog 25 #[.slice XA tn xc] W fun e w' => ∃ A' c', e = .returned (.slice A' tn c') ∧ w'.ownsRow W.heap.size 3 1 (.slice A' tn c') tn (iCells x.tl) ∧ Below W.heap.size W w') := Lib.hid fun W hb => RA.out W (HB3.out.trans (hb.mono HB3.out.size))
  have HCB : Hid (∀ W, Below w3.heap.size w3 W → Calls Tryz.prog 25 #[.slice XB rn xd] W fun e w' => ∃ A' c', e = .returned (.slice A' rn c') ∧ w'.ownsRow W.heap.size 3 1 (.slice A' rn c') rn (iCells x.gl) ∧ Below W.heap.size W w') := Lib.hid fun W hb => RB.out W (HB3.out.trans (hb.mono HB3.out.size))
  clear hBF
  have nB : ¬ B = w.heap.size := by have := HI.out.lt; omega
  have HNB := Lib.hid nB
  go_upto_region 8 with fail
  go_cut [] (fun wx => ∃ (x' : Exi) (v : Value), (x'.tl = x.tl ∧ x'.gl = x.gl ∧ (x'.A = none → x'.c = 0) ∧ (x'.B = none → x'.d = 0)) ∧ IsB B p sl G (xs ++ [x']) v1 (.slice GA G.length gc) v wx ∧ Fr B (.slice EA xs.length ec) v w wx)
  case first =>
    go_region_law (first
      | (go_simp; go_at_call 25; with_reducible refine (HCB.out _ (by repeat (first | exact HBb.out | exact HBa.out | exact Below.refl _ _ | refine Below.drew ?_ | refine Below.alloc ?_ (by first | exact HBb.out.size | exact HBa.out.size | (simp; done) | (simp; omega)) _))).mono ?_; rintro e wb ⟨A2, c2, rfl, hO2, hb2⟩; have HO2 := Lib.hid hO2; have HBab := Lib.hid hb2; have HBb := Lib.hid (HBa.out.trans (hb2.mono HBa.out.size)); clear q3 q6; have q3 := (HBF.out _ HBb.out).1; have q6 := (HBF.out _ HBb.out).2.1; have lBb : B < wb.heap.size := (Nat.lt_of_lt_of_le HIC.out.lt HBb.out.size); have nBb : ¬ B = wb.heap.size := (by omega); clear hO2 hb2)
      | (go_simp; go_at_call 25; with_reducible refine (HCA.out _ (by repeat (first | exact HBb.out | exact HBa.out | exact Below.refl _ _ | refine Below.drew ?_ | refine Below.alloc ?_ (by first | exact HBb.out.size | exact HBa.out.size | (simp; done) | (simp; omega)) _))).mono ?_; rintro e wa ⟨A1, c1', rfl, hO1, hb1⟩; have HO1 := Lib.hid hO1; have HBa := Lib.hid ((Below.refl w3.heap.size w3).drew.trans (hb1.mono (Nat.le_refl _))); clear q3 q6 c0 c1; have q3 := (HBF.out _ HBa.out).1; have q6 := (HBF.out _ HBa.out).2.1; have c0 := (HBF.out _ HBa.out).2.2.1; have c1 := (HBF.out _ HBa.out).2.2.2; clear hO1 hb1)
      | (refine step_app_cells (W0 := wb) (by repeat (first | exact Below.refl _ _ | refine Below.drew ?_ | refine Below.alloc ?_ (by simp) _)) (B + 1) rfl _ _ 34 44 _ 2 48 rfl Tryz.underlying34 infoExi rfl (by decide) (by decide) (.slice EA xs.length ec) xs.length _ [.slice A1 tn c1', .slice A2 rn c2] rfl _ rfl rfl (heap_alloc_new _ _) (by intro u hu; simp at hu; rcases hu with rfl | rfl <;> rfl) (own_below HIC.out.h3 HBb.out) (Nat.le_trans HLC.out HBb.out.size) (by have := HFX.out; omega) ?_; intro g4 c4 w4 hown4 hg4 hgb4; have hIb := HIC.out.below HBb.out; have hbx := box4 ((hg4.block _ hIb.lt (own_past hIb.h3 (Nat.lt_succ_self _))).trans hIb.hb); clear q3 q6; have q3 : w4.cell? ⟨B, 3, none⟩ = _ := hbx.2.2.2.1; have q6 : w4.frozen? ⟨B, 3, none⟩ = _ := hbx.2.2.2.2.2.2; have hxb := (HBb.out.block _ (Array.getElem?_eq_some_iff.1 HX3.out).1).trans HX3.out; have HP4 := Lib.hid ((hg4.block _ (Array.getElem?_eq_some_iff.1 hxb).1 (own_past_all HI.out.h3 (Nat.le_refl _))).trans hxb); have HO4 := Lib.hid hown4; have HG4 := Lib.hid hg4; have HGB := Lib.hid hgb4; have HIB := Lib.hid hIb; clear hbx hxb hown4 hg4 hgb4 hIb))
    all_goals (go_wp2_with fail; go_meet)
    all_goals
      refine ⟨⟨x.tl, x.gl, A1, A2, c1', c2⟩, _, ⟨rfl, rfl, fun e => own_nil0 HO1.out e, fun e => own_nil0 HO2.out e⟩, HIB.out.exit ?_ HG4.out ?_ ?_, ((Fr.of_below (HB3.out.trans (HBb.out.mono HB3.out.size))).trans (Fr.exit HG4.out ?_))⟩
      · have h5 := HO4.out
        rw [← hl1, ← hl2] at h5
        exact h5
      · have h5 := own_below (own_lower HO1.out HLC.out) HBab.out
        rw [← hl1] at h5
        exact h5
      · have h5 := own_lower HO2.out (Nat.le_trans HLC.out HBa.out.size)
        rw [← hl2] at h5
        exact h5
      · intro k hk
        cases hk
        exact HGB.out
  case rest =>
  obtain ⟨x', v, e1, hI, hF⟩ := hcut
  have HI9 := Lib.hid hI
  have HF9 := Lib.hid hF
  clear hI hF
  go_wp2
  go_ret
  exact ⟨rfl, x', v, e1, HI9.out, HF9.out⟩
end Go.Proofs.YtkcdlbclodjjhaaGreat
