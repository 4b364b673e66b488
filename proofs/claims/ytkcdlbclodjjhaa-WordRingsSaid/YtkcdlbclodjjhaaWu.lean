/- The chapter's example: the walk of alive. (Printed by wip/tools/gen_wu.py.) -/
import Derived.Test.YtkcdlbclodjjhaaWt
namespace Go.Proofs.Ytkcdlbclodjjhaa
open Go.RowKit

set_option maxHeartbeats 8000000 in
set_option maxRecDepth 100000 in
theorem alive_any (w : World) : Calls Try.prog 11 #[] w fun e W' => e = .returned (.bool true) ∧ Below w.heap.size w W' := by
  have H1 : Hid (∀ (W : World), StB w w.heap.size 97 ([] : List Gat) [] W → Calls Try.prog 12 #[.pointer (some ⟨w.heap.size, 0, none⟩), .int .i64 4, .int .u64 9] W fun e W' => ∃ vo1, e = .returned vo1 ∧ StB w w.heap.size 97 al1.1 [(vo1, al1.2)] W') :=
    Lib.hid fun W hS => hS.of (by decide) 4 9 (by decide) (by decide) (by decide)
  have H2 : Hid (∀ (W : World) (vo1 : Value), StB w w.heap.size 97 al1.1 [(vo1, al1.2)] W → Calls Try.prog 12 #[.pointer (some ⟨w.heap.size, 0, none⟩), .int .i64 4, .int .u64 12] W fun e W' => ∃ vo2, e = .returned vo2 ∧ StB w w.heap.size 97 al2.1 [(vo2, al2.2), (vo1, al1.2)] W') :=
    Lib.hid fun W vo1 hS => hS.of (by decide) 4 12 (by decide) (by decide) (by have := of_decide_eq_true al1_len; omega)
  have H3 : Hid (∀ (W : World) (vo2 vo1 : Value), StB w w.heap.size 97 al2.1 [(vo2, al2.2), (vo1, al1.2)] W → Calls Try.prog 29 #[.pointer (some ⟨w.heap.size, 0, none⟩), vo1, vo2] W fun e W' => ∃ vo3, e = .returned (.tuple #[vo3, .int .i64 0]) ∧ StB w w.heap.size 97 al3.1 [(vo3, al3.2.1), (vo2, al2.2), (vo1, al1.2)] W') :=
    Lib.hid fun W vo2 vo1 hS => hS.plus (by decide) (va := vo1) (wa := vo2) (vs := al1.2) (ws := al2.2) (by simp) (by simp) 4 (by kernel_rfl) (by kernel_rfl) (by decide) (by decide) (all_ltB al3_in1) (all_ltB al3_in2) (by have := of_decide_eq_true al2_len; omega)
  have H4 : Hid (∀ (W : World) (vo3 vo2 vo1 : Value), StB w w.heap.size 97 al3.1 [(vo3, al3.2.1), (vo2, al2.2), (vo1, al1.2)] W → Calls Try.prog 12 #[.pointer (some ⟨w.heap.size, 0, none⟩), .int .i64 4, .int .u64 3] W fun e W' => ∃ vo4, e = .returned vo4 ∧ StB w w.heap.size 97 al4.1 [(vo4, al4.2), (vo3, al3.2.1), (vo2, al2.2), (vo1, al1.2)] W') :=
    Lib.hid fun W vo3 vo2 vo1 hS => hS.of (by decide) 4 3 (by decide) (by decide) (by have := of_decide_eq_true al3_len; omega)
  have H5 : Hid (∀ (W : World) (vo4 vo3 vo2 vo1 : Value), StB w w.heap.size 97 al4.1 [(vo4, al4.2), (vo3, al3.2.1), (vo2, al2.2), (vo1, al1.2)] W → Calls Try.prog 12 #[.pointer (some ⟨w.heap.size, 0, none⟩), .int .i64 4, .int .u64 5] W fun e W' => ∃ vo5, e = .returned vo5 ∧ StB w w.heap.size 97 al5.1 [(vo5, al5.2), (vo4, al4.2), (vo3, al3.2.1), (vo2, al2.2), (vo1, al1.2)] W') :=
    Lib.hid fun W vo4 vo3 vo2 vo1 hS => hS.of (by decide) 4 5 (by decide) (by decide) (by have := of_decide_eq_true al4_len; omega)
  have H6 : Hid (∀ (W : World) (vo5 vo4 vo3 vo2 vo1 : Value), StB w w.heap.size 97 al5.1 [(vo5, al5.2), (vo4, al4.2), (vo3, al3.2.1), (vo2, al2.2), (vo1, al1.2)] W → Calls Try.prog 30 #[.pointer (some ⟨w.heap.size, 0, none⟩), vo4, vo5] W fun e W' => ∃ vo6, e = .returned (.tuple #[vo6, .int .i64 0]) ∧ StB w w.heap.size 97 al6.1 [(vo6, al6.2.1), (vo5, al5.2), (vo4, al4.2), (vo3, al3.2.1), (vo2, al2.2), (vo1, al1.2)] W') :=
    Lib.hid fun W vo5 vo4 vo3 vo2 vo1 hS => hS.minus (by decide) (va := vo4) (wa := vo5) (vs := al4.2) (ws := al5.2) (by simp) (by simp) 4 (by kernel_rfl) (by kernel_rfl) (by decide) (by decide) (all_ltB al6_in4) (all_ltB al6_in5) (by have := of_decide_eq_true al5_len; omega)
  have H7 : Hid (∀ (W : World) (vo6 vo5 vo4 vo3 vo2 vo1 : Value), StB w w.heap.size 97 al6.1 [(vo6, al6.2.1), (vo5, al5.2), (vo4, al4.2), (vo3, al3.2.1), (vo2, al2.2), (vo1, al1.2)] W → Calls Try.prog 12 #[.pointer (some ⟨w.heap.size, 0, none⟩), .int .i64 4, .int .u64 5] W fun e W' => ∃ vo7, e = .returned vo7 ∧ StB w w.heap.size 97 al7.1 [(vo7, al7.2), (vo6, al6.2.1), (vo5, al5.2), (vo4, al4.2), (vo3, al3.2.1), (vo2, al2.2), (vo1, al1.2)] W') :=
    Lib.hid fun W vo6 vo5 vo4 vo3 vo2 vo1 hS => hS.of (by decide) 4 5 (by decide) (by decide) (by have := of_decide_eq_true al6_len; omega)
  have H8 : Hid (∀ (W : World) (vo7 vo6 vo5 vo4 vo3 vo2 vo1 : Value), StB w w.heap.size 97 al7.1 [(vo7, al7.2), (vo6, al6.2.1), (vo5, al5.2), (vo4, al4.2), (vo3, al3.2.1), (vo2, al2.2), (vo1, al1.2)] W → Calls Try.prog 12 #[.pointer (some ⟨w.heap.size, 0, none⟩), .int .i64 4, .int .u64 7] W fun e W' => ∃ vo8, e = .returned vo8 ∧ StB w w.heap.size 97 al8.1 [(vo8, al8.2), (vo7, al7.2), (vo6, al6.2.1), (vo5, al5.2), (vo4, al4.2), (vo3, al3.2.1), (vo2, al2.2), (vo1, al1.2)] W') :=
    Lib.hid fun W vo7 vo6 vo5 vo4 vo3 vo2 vo1 hS => hS.of (by decide) 4 7 (by decide) (by decide) (by have := of_decide_eq_true al7_len; omega)
  have H9 : Hid (∀ (W : World) (vo8 vo7 vo6 vo5 vo4 vo3 vo2 vo1 : Value), StB w w.heap.size 97 al8.1 [(vo8, al8.2), (vo7, al7.2), (vo6, al6.2.1), (vo5, al5.2), (vo4, al4.2), (vo3, al3.2.1), (vo2, al2.2), (vo1, al1.2)] W → Calls Try.prog 31 #[.pointer (some ⟨w.heap.size, 0, none⟩), vo7, vo8] W fun e W' => ∃ vo9, e = .returned (.tuple #[vo9, .int .i64 0]) ∧ StB w w.heap.size 97 al9.1 [(vo9, al9.2), (vo8, al8.2), (vo7, al7.2), (vo6, al6.2.1), (vo5, al5.2), (vo4, al4.2), (vo3, al3.2.1), (vo2, al2.2), (vo1, al1.2)] W') :=
    Lib.hid fun W vo8 vo7 vo6 vo5 vo4 vo3 vo2 vo1 hS => hS.times (by decide) (va := vo7) (wa := vo8) (vs := al7.2) (ws := al8.2) (by simp) (by simp) 4 (by kernel_rfl) (by kernel_rfl) (by decide) (by decide) (all_ltB al9_in7) (all_ltB al9_in8) (by have := of_decide_eq_true al8_len; omega)
  have H10 : Hid (∀ (W : World) (vo9 vo8 vo7 vo6 vo5 vo4 vo3 vo2 vo1 : Value), StB w w.heap.size 97 al9.1 [(vo9, al9.2), (vo8, al8.2), (vo7, al7.2), (vo6, al6.2.1), (vo5, al5.2), (vo4, al4.2), (vo3, al3.2.1), (vo2, al2.2), (vo1, al1.2)] W → Calls Try.prog 12 #[.pointer (some ⟨w.heap.size, 0, none⟩), .int .i64 4, .int .u64 3] W fun e W' => ∃ vo10, e = .returned vo10 ∧ StB w w.heap.size 97 al10.1 [(vo10, al10.2), (vo9, al9.2), (vo8, al8.2), (vo7, al7.2), (vo6, al6.2.1), (vo5, al5.2), (vo4, al4.2), (vo3, al3.2.1), (vo2, al2.2), (vo1, al1.2)] W') :=
    Lib.hid fun W vo9 vo8 vo7 vo6 vo5 vo4 vo3 vo2 vo1 hS => hS.of (by decide) 4 3 (by decide) (by decide) (by have := of_decide_eq_true al9_len; omega)
  have H11 : Hid (∀ (W : World) (vo10 vo9 vo8 vo7 vo6 vo5 vo4 vo3 vo2 vo1 : Value), StB w w.heap.size 97 al10.1 [(vo10, al10.2), (vo9, al9.2), (vo8, al8.2), (vo7, al7.2), (vo6, al6.2.1), (vo5, al5.2), (vo4, al4.2), (vo3, al3.2.1), (vo2, al2.2), (vo1, al1.2)] W → Calls Try.prog 12 #[.pointer (some ⟨w.heap.size, 0, none⟩), .int .i64 4, .int .u64 9] W fun e W' => ∃ vo11, e = .returned vo11 ∧ StB w w.heap.size 97 al11.1 [(vo11, al11.2), (vo10, al10.2), (vo9, al9.2), (vo8, al8.2), (vo7, al7.2), (vo6, al6.2.1), (vo5, al5.2), (vo4, al4.2), (vo3, al3.2.1), (vo2, al2.2), (vo1, al1.2)] W') :=
    Lib.hid fun W vo10 vo9 vo8 vo7 vo6 vo5 vo4 vo3 vo2 vo1 hS => hS.of (by decide) 4 9 (by decide) (by decide) (by have := of_decide_eq_true al10_len; omega)
  have H12 : Hid (∀ (W : World) (vo11 vo10 vo9 vo8 vo7 vo6 vo5 vo4 vo3 vo2 vo1 : Value), StB w w.heap.size 97 al11.1 [(vo11, al11.2), (vo10, al10.2), (vo9, al9.2), (vo8, al8.2), (vo7, al7.2), (vo6, al6.2.1), (vo5, al5.2), (vo4, al4.2), (vo3, al3.2.1), (vo2, al2.2), (vo1, al1.2)] W → Calls Try.prog 17 #[.pointer (some ⟨w.heap.size, 0, none⟩), vo10, vo11] W fun e W' => e = .returned (.tuple #[.int .i64 ((al12.2 : Nat) : Int), .int .i64 0]) ∧ StB w w.heap.size 97 al12.1 [(vo11, al11.2), (vo10, al10.2), (vo9, al9.2), (vo8, al8.2), (vo7, al7.2), (vo6, al6.2.1), (vo5, al5.2), (vo4, al4.2), (vo3, al3.2.1), (vo2, al2.2), (vo1, al1.2)] W') :=
    Lib.hid fun W vo11 vo10 vo9 vo8 vo7 vo6 vo5 vo4 vo3 vo2 vo1 hS => hS.less (by decide) (va := vo10) (wa := vo11) (vs := al10.2) (ws := al11.2) (by simp) (by simp) 4 (by kernel_rfl) (by kernel_rfl) (by decide) (by decide) (all_ltB al12_in10) (all_ltB al12_in11) (by have := of_decide_eq_true al11_len; omega)
  have HQ : Hid (∀ (W : World) (vo11 vo10 vo9 vo8 vo7 vo6 vo5 vo4 vo3 vo2 vo1 : Value), StB w w.heap.size 97 al12.1 [(vo11, al11.2), (vo10, al10.2), (vo9, al9.2), (vo8, al8.2), (vo7, al7.2), (vo6, al6.2.1), (vo5, al5.2), (vo4, al4.2), (vo3, al3.2.1), (vo2, al2.2), (vo1, al1.2)] W → Calls Try.prog 10 #[.pointer (some ⟨w.heap.size, 0, none⟩)] W fun e W' => ∃ S sc Ga gc, e = .returned (.agg #[.slice S 0 sc, .slice Ga al12.1.length gc, nilS]) ∧ HoldsC W' (⟨[], al12.1, [], S, Ga, none, sc, gc, 0⟩ : Cir) ∧ StB w w.heap.size 97 al12.1 [(vo11, al11.2), (vo10, al10.2), (vo9, al9.2), (vo8, al8.2), (vo7, al7.2), (vo6, al6.2.1), (vo5, al5.2), (vo4, al4.2), (vo3, al3.2.1), (vo2, al2.2), (vo1, al1.2)] W') :=
    Lib.hid fun W vo11 vo10 vo9 vo8 vo7 vo6 vo5 vo4 vo3 vo2 vo1 hS => by
      obtain ⟨v2, hI⟩ := hS.ex
      refine (circuit_ok w.heap.size 97 (by decide) [] al12.1 nilS v2 (by decide) (by have := of_decide_eq_true al12_len; omega) W hI).mono fun _ _ he => ?_
      obtain ⟨S, sc, Ga, gc, e1, h2, h3, h4⟩ := he
      refine ⟨S, sc, Ga, gc, e1, ⟨own_reads_at h2, own_reads_at h3, .inl rfl, by simp, ⟨Nat.zero_le _, by have := of_decide_eq_true al12_len; simp only; omega, Nat.zero_le _⟩, by simp, fun g hg => of_decide_eq_true (List.all_eq_true.1 al_hk g hg)⟩, hS.below h4⟩
  have HN : Hid (Calls Try.prog 6 #[.int .u64 97] w fun e W' => e = .returned (.tuple #[.pointer (some ⟨w.heap.size, 0, none⟩), .int .i64 0]) ∧ StB w w.heap.size 97 ([] : List Gat) [] W') :=
    Lib.hid ((new_ok 97 (by decide) isP97 w).mono fun _ _ he => ⟨he.1, ⟨nilS, he.2.1⟩, he.2.2, by simp⟩)
  go_enter Try.func11, Try.ntmps11
  go_wp2_with (first | (go_at_call 17; refine (H12.out _ _ _ _ _ _ _ _ _ _ _ _ HS11.out).mono ?_; rintro e w12 ⟨rfl, hS⟩; have HS12 := Lib.hid hS; clear hS) | (go_at_call 12; refine (H11.out _ _ _ _ _ _ _ _ _ _ _ HS10.out).mono ?_; rintro e w11 ⟨vo11, rfl, hS⟩; have HS11 := Lib.hid hS; clear hS) | (go_at_call 12; refine (H10.out _ _ _ _ _ _ _ _ _ _ HS9.out).mono ?_; rintro e w10 ⟨vo10, rfl, hS⟩; have HS10 := Lib.hid hS; clear hS) | (go_at_call 31; refine (H9.out _ _ _ _ _ _ _ _ _ HS8.out).mono ?_; rintro e w9 ⟨vo9, rfl, hS⟩; have HS9 := Lib.hid hS; clear hS) | (go_at_call 12; refine (H8.out _ _ _ _ _ _ _ _ HS7.out).mono ?_; rintro e w8 ⟨vo8, rfl, hS⟩; have HS8 := Lib.hid hS; clear hS) | (go_at_call 12; refine (H7.out _ _ _ _ _ _ _ HS6.out).mono ?_; rintro e w7 ⟨vo7, rfl, hS⟩; have HS7 := Lib.hid hS; clear hS) | (go_at_call 30; refine (H6.out _ _ _ _ _ _ HS5.out).mono ?_; rintro e w6 ⟨vo6, rfl, hS⟩; have HS6 := Lib.hid hS; clear hS) | (go_at_call 12; refine (H5.out _ _ _ _ _ HS4.out).mono ?_; rintro e w5 ⟨vo5, rfl, hS⟩; have HS5 := Lib.hid hS; clear hS) | (go_at_call 12; refine (H4.out _ _ _ _ HS3.out).mono ?_; rintro e w4 ⟨vo4, rfl, hS⟩; have HS4 := Lib.hid hS; clear hS) | (go_at_call 29; refine (H3.out _ _ _ HS2.out).mono ?_; rintro e w3 ⟨vo3, rfl, hS⟩; have HS3 := Lib.hid hS; clear hS) | (go_at_call 12; refine (H2.out _ _ HS1.out).mono ?_; rintro e w2 ⟨vo2, rfl, hS⟩; have HS2 := Lib.hid hS; clear hS) | (go_at_call 12; refine (H1.out _ HS0.out).mono ?_; rintro e w1 ⟨vo1, rfl, hS⟩; have HS1 := Lib.hid hS; clear hS) | (go_at_call 6; refine HN.out.mono ?_; rintro e w0 ⟨rfl, hS⟩; have HS0 := Lib.hid hS; clear hS))
  go_wp2_with (first | (go_at_call 10; refine (HQ.out _ _ _ _ _ _ _ _ _ _ _ _ HS12.out).mono ?_; rintro e w13 ⟨S, sc, Ga, gc, rfl, hC, hS⟩; have HC := Lib.hid hC; have HS13 := Lib.hid hS; clear hC hS))
  have hr3 := HS13.out.rw (vo3, al3.2.1) (by simp)
  have hr6 := HS13.out.rw (vo6, al6.2.1) (by simp)
  have hr9 := HS13.out.rw (vo9, al9.2) (by simp)
  simp only [al_s_len, al_d_len, al_m_len] at hr3 hr6 hr9
  obtain ⟨g3, c3, rfl, _, _⟩ := own_form hr3 (by decide)
  obtain ⟨g6, c6, rfl, _, _⟩ := own_form hr6 (by decide)
  obtain ⟨g9, c9, rfl, _, _⟩ := own_form hr9 (by decide)
  have hbW : Below w13.heap.size w13 (w13.alloc (.cells #[.slice S 0 sc, .slice Ga al12.1.length gc, nilS] 39)) := (Below.refl _ _).alloc (Nat.le_refl _) _
  have hlow := HS13.out.low
  have hbx : (w13.alloc (.cells #[.slice S 0 sc, .slice Ga al12.1.length gc, nilS] 39)).heap[w13.heap.size]? = some (.cells #[.slice S 0 sc, .slice Ga al12.1.length gc, nilS] 39 (0, 0)) := heap_alloc_new w13 _
  generalize hw14 : w13.alloc (.cells #[.slice S 0 sc, .slice Ga al12.1.length gc, nilS] 39) = w14 at *
  have R3 := Lib.hid (own_reads_at (own_below hr3 hbW)); have R6 := Lib.hid (own_reads_at (own_below hr6 hbW)); have R9 := Lib.hid (own_reads_at (own_below hr9 hbW))
  have HC14 := Lib.hid (HC.out.below hbW)
  have HL14 := Lib.hid (hlow.trans (hbW.mono (Nat.le_of_lt HS13.out.len)))
  have l14 : w.heap.size ≤ w14.heap.size := HL14.out.size
  obtain ⟨c0, c1, c2, f0, f1, f2⟩ := box_facts hbx
  have l13 : w13.heap.size < w14.heap.size := (Array.getElem?_eq_some_iff.1 hbx).1
  have hcells : ∀ W, Below w14.heap.size w14 W → W.cell? ⟨w13.heap.size, 0, none⟩ = some (.slice S 0 sc) ∧ W.cell? ⟨w13.heap.size, 1, none⟩ = some (.slice Ga al12.1.length gc) ∧ W.cell? ⟨w13.heap.size, 2, none⟩ = some nilS := fun W hb => ⟨(hb.cell l13).trans c0, (hb.cell l13).trans c1, (hb.cell l13).trans c2⟩
  have HCE := Lib.hid hcells
  have hCC : checkErr 97 (⟨[], al12.1, [], S, Ga, none, sc, gc, 0⟩ : Cir) = 0 := by kernel_rfl
  have HCK : Hid (∀ W, Below w14.heap.size w14 W → Calls Try.prog 18 #[.int .u64 97, .agg #[.slice S 0 sc, .slice Ga al12.1.length gc, nilS]] W fun e W' => e = .returned (.int .i64 0) ∧ Below w14.heap.size w14 W') :=
    Lib.hid fun W hb => (rcheck_any 97 (by decide) ⟨[], al12.1, [], S, Ga, none, sc, gc, 0⟩ W (HC14.out.below hb)).mono fun _ _ he => by
      obtain ⟨e1, e2⟩ := he
      rw [hCC] at e1
      exact ⟨e1, hb.trans (e2.mono hb.size)⟩
  have HPL : Hid (∀ W A c, Below w14.heap.size w14 W → Reads W A (nCells (al12.2 :: (al3.2.1 ++ al6.2.1 ++ al9.2))) → Calls Try.prog 19 #[.agg #[.slice S 0 sc, .slice Ga al12.1.length gc, nilS], .slice A 13 c] W fun e W' => e = .returned (.int .i64 0) ∧ Below w14.heap.size w14 W') :=
    Lib.hid fun W A c hb hA => (places_ok S Ga none 0 sc al12.1.length gc 0 0 (al12.2 :: (al3.2.1 ++ al6.2.1 ++ al9.2)) A c 13 (by simp [al_s_len, al_d_len, al_m_len]) (by decide) (by
      intro x hx
      rcases List.mem_cons.1 hx with rfl | hx
      · exact of_decide_eq_true al_l_in
      · rcases List.mem_append.1 hx with hx | hx
        · rcases List.mem_append.1 hx with hx | hx
          · exact all_ltB al_s_in x hx
          · exact all_ltB al_d_in x hx
        · exact all_ltB al_m_in x hx) W hA).mono fun _ _ he => ⟨he.1, hb.trans (he.2.mono hb.size)⟩
  clear hr3 hr6 hr9 hbW hlow hbx hcells hw14 hCC H1 H2 H3 H4 H5 H6 H7 H8 H9 H10 H11 H12 HN HQ HS0 HS1 HS2 HS3 HS4 HS5 HS6 HS7 HS8 HS9 HS10 HS11 HS12 HS13 HC
  go_wp2
  go_region_held3 (fun W => W.cell? ⟨w13.heap.size, 0, none⟩ = some (.slice S 0 sc) ∧ W.cell? ⟨w13.heap.size, 1, none⟩ = some (.slice Ga al12.1.length gc) ∧ W.cell? ⟨w13.heap.size, 2, none⟩ = some nilS) (first | exact HCE.out _ (Below.refl _ _).drew | exact HCE.out _ HBp.out | exact HCE.out _ HB3.out | exact HCE.out _ HB2.out | exact HCE.out _ HB1.out | exact HCE.out _ (HBc.out.alloc HBc.out.size _) | exact HCE.out _ HBc.out) (first
    | (go_at_call 18; refine (HCK.out _ (Below.refl _ _).drew).mono ?_; rintro e wc ⟨rfl, hb⟩; have HBc := Lib.hid hb; clear hb)
    | (go_at_call 19; refine (HPL.out _ _ _ HB3.out HR3.out).mono ?_; rintro e wp ⟨rfl, hb⟩; have HBp := Lib.hid hb; clear hb)
    | (refine step_app_slice wc.heap.size (by rfl) _ _ 44 3 _ 8 rfl Try.underlying44 infoInt rfl (by decide) _ 9 (nCells (al12.2 :: (al3.2.1 ++ al6.2.1))) (nCells al9.2) rfl ⟨g9, 0, none⟩ 4 c9 rfl (by unfold nCells; rw [List.length_map]; exact al_m_len) (reads_get R9.out HB2.out) (one_nat _) HO2.out (by have h5 := HB2.out.size; have h6 := HZ2.out; omega) (by decide) ?_; intro va3 wa3 hown hg; have hown' : wa3.ownsRow wc.heap.size 3 1 va3 13 (nCells (al12.2 :: (al3.2.1 ++ al6.2.1 ++ al9.2))) := (by simpa [nCells] using hown); obtain ⟨A3, ca3, rfl, hrd⟩ := own_nat hown'; have HR3 := Lib.hid hrd; have HB3 := Lib.hid (HB2.out.grown hg HB2.out.size (fun q hq => Nat.le_trans HBc.out.size (HO2.out.lt q hq).1)); clear hown hown' hg hrd)
    | (refine step_app_slice wc.heap.size (by rfl) _ _ 44 3 _ 8 rfl Try.underlying44 infoInt rfl (by decide) _ 5 (nCells (al12.2 :: al3.2.1)) (nCells al6.2.1) rfl ⟨g6, 0, none⟩ 4 c6 rfl (by unfold nCells; rw [List.length_map]; exact al_d_len) (reads_get R6.out HB1.out) (one_nat _) HO1.out (by have h6 := HZ1.out; omega) (by decide) ?_; intro va2 wa2 hown hg; have hown' : wa2.ownsRow wc.heap.size 3 1 va2 9 (nCells (al12.2 :: (al3.2.1 ++ al6.2.1))) := (by simpa [nCells] using hown); have HO2 := Lib.hid hown'; have HB2 := Lib.hid (HB1.out.grown hg HB1.out.size (fun q hq => Nat.le_trans HBc.out.size (HO1.out.lt q hq).1)); have HZ2 := Lib.hid (Nat.le_trans HZ1.out hg.size); clear hown hown' hg)
    | (refine step_app_slice wc.heap.size (by rfl) _ _ 44 3 _ 8 rfl Try.underlying44 infoInt rfl (by decide) _ 1 [.int .i64 ((al12.2 : Nat) : Int)] (nCells al3.2.1) rfl ⟨g3, 0, none⟩ 4 c3 rfl (by unfold nCells; rw [List.length_map]; exact al_s_len) (reads_get R3.out (HBc.out.alloc HBc.out.size _)) (one_nat _) (own_fresh wc _ _) (by simp) (by decide) ?_; intro va1 wa1 hown hg; have hown' : wa1.ownsRow wc.heap.size 3 1 va1 5 (nCells (al12.2 :: al3.2.1)) := (by simpa [nCells] using hown); have HO1 := Lib.hid hown'; have HB1 := Lib.hid ((HBc.out.alloc HBc.out.size (.cells #[.int .i64 ((al12.2 : Nat) : Int)] 3)).grown hg (by have h5 := HBc.out.size; simp; omega) (fun q hq => by cases hq; exact HBc.out.size)); have HZ1 : Hid (wc.heap.size ≤ wa1.heap.size) := Lib.hid (by have h5 := hg.size; simp at h5; omega); clear hown hown' hg))
  have hcp := HCE.out wp HBp.out
  obtain ⟨c0, c1, c2⟩ := hcp
  have hCp := HC14.out.below HBp.out
  have HVV : Hid (Calls Try.prog 20 #[.int .u64 97, .agg #[.slice S 0 sc, .slice Ga al12.1.length gc, nilS], .slice none 0 0] wp fun e W' => ∃ vad vc, e = .returned (.slice (some vad) al12.1.length vc) ∧ Reads W' (some vad) (uCells alV) ∧ Below w14.heap.size w14 W') :=
    Lib.hid ((rvalues_any 97 (by decide) (by decide) ⟨[], al12.1, [], S, Ga, none, sc, gc, 0⟩ [] rfl (gatesErr_zero al_ok) (by have := of_decide_eq_true al12_len; simp only; omega) none 0 wp hCp (.inl rfl)).mono fun _ _ he => by
      obtain ⟨v, e1, h2, h3⟩ := he
      obtain ⟨g, c, rfl, _, _⟩ := own_form h2 (by have := of_decide_eq_true al_l_in; simp only; omega)
      exact ⟨_, c, e1, own_reads_at h2, HBp.out.trans (h3.mono HBp.out.size)⟩)
  have HLI := Lib.hid (of_decide_eq_true al_l_in)
  clear hCp HCK HPL HCE
  go_wp2_with (go_at_call 20; refine HVV.out.mono ?_; rintro e wv ⟨vad, vc, rfl, hV, hB⟩; have HV := Lib.hid hV; have HBv := Lib.hid hB; clear hV hB)
  have HN3 := Lib.hid (number_ok alV al3.2.1 (some vad) (some ⟨g3, 0, none⟩) vc c3 4 al12.1.length al_s_len al_v_len (by decide) (all_ltB al_s_in) (fun x hx => of_decide_eq_true (List.all_eq_true.1 al_s_bit x hx)) wv HV.out (R3.out.below HBv.out))
  have HN6 := Lib.hid (number_ok alV al6.2.1 (some vad) (some ⟨g6, 0, none⟩) vc c6 4 al12.1.length al_d_len al_v_len (by decide) (all_ltB al_d_in) (fun x hx => of_decide_eq_true (List.all_eq_true.1 al_d_bit x hx)) wv HV.out (R6.out.below HBv.out))
  have HN9 := Lib.hid (number_ok alV al9.2 (some vad) (some ⟨g9, 0, none⟩) vc c9 4 al12.1.length al_m_len al_v_len (by decide) (all_ltB al_m_in) (fun x hx => of_decide_eq_true (List.all_eq_true.1 al_m_bit x hx)) wv HV.out (R9.out.below HBv.out))
  rw [al_s_num] at HN3
  rw [al_d_num] at HN6
  rw [al_m_num] at HN9
  have hll : al12.2 < alV.length := by rw [al_v_len]; exact HLI.out
  obtain ⟨vad', e1, q5⟩ := HV.out.uat al12.2 hll
  injection e1 with e1
  subst e1
  have hval : alV[al12.2] = 1 := by rw [← getD_at hll]; exact al_l_val
  rw [hval] at q5
  clear hll hval c0 c1 c2
  have i1 : (0 : Int) ≤ ((al12.2 : Nat) : Int) := by omega
  have i2 : ((al12.2 : Nat) : Int) < (al12.1.length : Int) := by have := HLI.out; omega
  go_wp2_with (first | (go_at_call 32; with_reducible refine HN3.out.mono ?_; rintro e wn ⟨rfl, rfl⟩) | (go_at_call 32; with_reducible refine HN6.out.mono ?_; rintro e wn ⟨rfl, rfl⟩) | (go_at_call 32; with_reducible refine HN9.out.mono ?_; rintro e wn ⟨rfl, rfl⟩))
  go_ret
  exact ⟨rfl, HL14.out.trans (HBv.out.mono l14)⟩
end Go.Proofs.Ytkcdlbclodjjhaa
