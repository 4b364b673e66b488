/- Contracts of the ring's functions over a board, where there is room: Not, Xor and their kin. (Printed by wip/tools/gen_ring.py.) -/
import Derived.Test.YtkcdlbclodjjhaaWg
namespace Go.Proofs.Ytkcdlbclodjjhaa
open Go.RowKit

/- The board's methods, as the ring finds them. -/
theorem mFixed (B : Nat) (W : World) : (method (136 + 101) 115 (.agg #[.pointer (some ⟨B, 0, none⟩)]) "Fixed").run Try.prog W = .ok (107, .agg #[.pointer (some ⟨B, 0, none⟩)]) W := by kernel_rfl
theorem nFixed (B : Nat) (W : World) : (nilAhead (136 + 101) 115 (.agg #[.pointer (some ⟨B, 0, none⟩)]) "Fixed").run Try.prog W = .ok (some false) W := by kernel_rfl
theorem mSum (B : Nat) (W : World) : (method (136 + 101) 115 (.agg #[.pointer (some ⟨B, 0, none⟩)]) "Sum").run Try.prog W = .ok (110, .agg #[.pointer (some ⟨B, 0, none⟩)]) W := by kernel_rfl
theorem nSum (B : Nat) (W : World) : (nilAhead (136 + 101) 115 (.agg #[.pointer (some ⟨B, 0, none⟩)]) "Sum").run Try.prog W = .ok (some false) W := by kernel_rfl
theorem mLess (B : Nat) (W : World) : (method (136 + 101) 115 (.agg #[.pointer (some ⟨B, 0, none⟩)]) "Less").run Try.prog W = .ok (108, .agg #[.pointer (some ⟨B, 0, none⟩)]) W := by kernel_rfl
theorem nLess (B : Nat) (W : World) : (nilAhead (136 + 101) 115 (.agg #[.pointer (some ⟨B, 0, none⟩)]) "Less").run Try.prog W = .ok (some false) W := by kernel_rfl
theorem mProduct (B : Nat) (W : World) : (method (136 + 101) 115 (.agg #[.pointer (some ⟨B, 0, none⟩)]) "Product").run Try.prog W = .ok (109, .agg #[.pointer (some ⟨B, 0, none⟩)]) W := by kernel_rfl
theorem nProduct (B : Nat) (W : World) : (nilAhead (136 + 101) 115 (.agg #[.pointer (some ⟨B, 0, none⟩)]) "Product").run Try.prog W = .ok (some false) W := by kernel_rfl
theorem OkPost.chain {B p : Nat} {sl : List Slo} {G' : List Gat} {xs : List Exi} {v1 v2 v3 v : Value} {w W : World} {r : Value} {e : Ending} {W' : World} (hf : Fr B v2 v w W) (h : OkPost B p sl G' xs v1 v v3 W r e W') : e = .returned r ∧ ∃ v', IsB B p sl G' xs v1 v' v3 W' ∧ Fr B v2 v' w W' :=
  ⟨h.1, by obtain ⟨_, v', h1, h2⟩ := h; exact ⟨v', h1, hf.trans h2⟩⟩
set_option maxHeartbeats 2000000 in
set_option maxRecDepth 100000 in
theorem not_ok (B p : Nat) (hp : 1 < p) (sl : List Slo) (G : List Gat) (xs : List Exi) (v1 v2 v3 : Value) (a : Nat) (ha : a < G.length) (hf : G.length + 1 < 65536) (w : World) (h : IsB B p sl G xs v1 v2 v3 w) :
    Calls Try.prog 65 #[.iface 115 (.agg #[.pointer (some ⟨B, 0, none⟩)]), .int .i64 ((a : Nat) : Int)] w (OkPost B p sl (G ++ [((2, 0, 0, ((1 : Nat) : Int)) : Gat), ((4, ((G.length : Nat) : Int), ((a : Nat) : Int), 0) : Gat)]) xs v1 v2 v3 w (.int .i64 ((G.length + 1 : Nat) : Int))) := by
  have mFixed := fun W => mFixed B W
  have mLess := fun W => mLess B W
  have nLess := fun W => nLess B W
  simp only [Nat.reduceAdd] at mFixed mLess nLess
  have h1 : Hid (∀ W0 W v, IsB B p sl (G) xs v1 v v3 W0 → Fr B v2 v w W0 → Below W0.heap.size W0 W → Calls Try.prog 107 #[.agg #[.pointer (some ⟨B, 0, none⟩)], .int .u64 ((1 : Nat) : Int)] W (fun e W' => e = .returned (.int .i64 ((G.length : Nat) : Int)) ∧ ∃ v', IsB B p sl (G ++ [((2, 0, 0, ((1 : Nat) : Int)) : Gat)]) xs v1 v' v3 W' ∧ Fr B v2 v' w W')) :=
    Lib.hid fun W0 W v hI hF hB => (fixed_ok B p (by omega) sl _ xs v1 v v3 1 (by omega) (by first | omega | (simp <;> omega)) W (hI.below hB)).mono fun _ _ he => by have := OkPost.chain (hF.below hB) he; simpa [Nat.add_assoc] using this
  have h2 : Hid (∀ W0 W v, IsB B p sl (G ++ [((2, 0, 0, ((1 : Nat) : Int)) : Gat)]) xs v1 v v3 W0 → Fr B v2 v w W0 → Below W0.heap.size W0 W → Calls Try.prog 108 #[.agg #[.pointer (some ⟨B, 0, none⟩)], .int .i64 ((G.length : Nat) : Int), .int .i64 ((a : Nat) : Int)] W (fun e W' => e = .returned (.int .i64 ((G.length + 1 : Nat) : Int)) ∧ ∃ v', IsB B p sl (G ++ [((2, 0, 0, ((1 : Nat) : Int)) : Gat), ((4, ((G.length : Nat) : Int), ((a : Nat) : Int), 0) : Gat)]) xs v1 v' v3 W' ∧ Fr B v2 v' w W')) :=
    Lib.hid fun W0 W v hI hF hB => (less_ok B p (by omega) sl _ xs v1 v v3 (G.length) (a) (by first | omega | (simp <;> omega)) (by first | omega | (simp <;> omega)) (by first | omega | (simp <;> omega)) W (hI.below hB)).mono fun _ _ he => by have := OkPost.chain (hF.below hB) he; simpa [Nat.add_assoc] using this
  have HI0 := Lib.hid h
  have HF0 := Lib.hid (Fr.refl B v2 w)
  clear h ha hf hp
  go_enter Try.func65, Try.ntmps65
  (try go_wp2)
  go_region_held3 (fun _ => True) (trivial) (first | (go_at_call 108; refine (h2.out _ _ _ HI1.out HF1.out (by repeat (first | exact Below.refl _ _ | refine Below.drew ?_ | refine Below.alloc ?_ (by simp) _))).mono ?_; rintro e w2 ⟨rfl, x2, hI, hF⟩; have HI2 := Lib.hid hI; have HF2 := Lib.hid hF; clear hI hF) | (go_at_call 107; refine (h1.out _ _ _ HI0.out HF0.out (by repeat (first | exact Below.refl _ _ | refine Below.drew ?_ | refine Below.alloc ?_ (by simp) _))).mono ?_; rintro e w1 ⟨rfl, x1, hI, hF⟩; have HI1 := Lib.hid hI; have HF1 := Lib.hid hF; clear hI hF))
  all_goals (try go_wp2)
  all_goals go_ret
  all_goals exact ⟨rfl, x2, HI2.out, HF2.out⟩
set_option maxHeartbeats 2000000 in
set_option maxRecDepth 100000 in
theorem xor_ok (B p : Nat) (hp : 1 < p) (sl : List Slo) (G : List Gat) (xs : List Exi) (v1 v2 v3 : Value) (a : Nat) (b : Nat) (ha : a < G.length) (hb : b < G.length) (hf : G.length + 3 < 65536) (w : World) (h : IsB B p sl G xs v1 v2 v3 w) :
    Calls Try.prog 66 #[.iface 115 (.agg #[.pointer (some ⟨B, 0, none⟩)]), .int .i64 ((a : Nat) : Int), .int .i64 ((b : Nat) : Int)] w (OkPost B p sl (G ++ [((5, ((a : Nat) : Int), ((b : Nat) : Int), 0) : Gat), ((3, ((a : Nat) : Int), ((b : Nat) : Int), 0) : Gat), ((3, ((G.length : Nat) : Int), ((G.length : Nat) : Int), 0) : Gat), ((4, ((G.length + 1 : Nat) : Int), ((G.length + 2 : Nat) : Int), 0) : Gat)]) xs v1 v2 v3 w (.int .i64 ((G.length + 3 : Nat) : Int))) := by
  have mProduct := fun W => mProduct B W
  have mSum := fun W => mSum B W
  have mLess := fun W => mLess B W
  have nLess := fun W => nLess B W
  simp only [Nat.reduceAdd] at mProduct mSum mLess nLess
  have h1 : Hid (∀ W0 W v, IsB B p sl (G) xs v1 v v3 W0 → Fr B v2 v w W0 → Below W0.heap.size W0 W → Calls Try.prog 109 #[.agg #[.pointer (some ⟨B, 0, none⟩)], .int .i64 ((a : Nat) : Int), .int .i64 ((b : Nat) : Int)] W (fun e W' => e = .returned (.int .i64 ((G.length : Nat) : Int)) ∧ ∃ v', IsB B p sl (G ++ [((5, ((a : Nat) : Int), ((b : Nat) : Int), 0) : Gat)]) xs v1 v' v3 W' ∧ Fr B v2 v' w W')) :=
    Lib.hid fun W0 W v hI hF hB => (product_ok B p (by omega) sl _ xs v1 v v3 (a) (b) (by first | omega | (simp <;> omega)) (by first | omega | (simp <;> omega)) (by first | omega | (simp <;> omega)) W (hI.below hB)).mono fun _ _ he => by have := OkPost.chain (hF.below hB) he; simpa [Nat.add_assoc] using this
  have h2 : Hid (∀ W0 W v, IsB B p sl (G ++ [((5, ((a : Nat) : Int), ((b : Nat) : Int), 0) : Gat)]) xs v1 v v3 W0 → Fr B v2 v w W0 → Below W0.heap.size W0 W → Calls Try.prog 110 #[.agg #[.pointer (some ⟨B, 0, none⟩)], .int .i64 ((a : Nat) : Int), .int .i64 ((b : Nat) : Int)] W (fun e W' => e = .returned (.int .i64 ((G.length + 1 : Nat) : Int)) ∧ ∃ v', IsB B p sl (G ++ [((5, ((a : Nat) : Int), ((b : Nat) : Int), 0) : Gat), ((3, ((a : Nat) : Int), ((b : Nat) : Int), 0) : Gat)]) xs v1 v' v3 W' ∧ Fr B v2 v' w W')) :=
    Lib.hid fun W0 W v hI hF hB => (sum_ok B p (by omega) sl _ xs v1 v v3 (a) (b) (by first | omega | (simp <;> omega)) (by first | omega | (simp <;> omega)) (by first | omega | (simp <;> omega)) W (hI.below hB)).mono fun _ _ he => by have := OkPost.chain (hF.below hB) he; simpa [Nat.add_assoc] using this
  have h3 : Hid (∀ W0 W v, IsB B p sl (G ++ [((5, ((a : Nat) : Int), ((b : Nat) : Int), 0) : Gat), ((3, ((a : Nat) : Int), ((b : Nat) : Int), 0) : Gat)]) xs v1 v v3 W0 → Fr B v2 v w W0 → Below W0.heap.size W0 W → Calls Try.prog 110 #[.agg #[.pointer (some ⟨B, 0, none⟩)], .int .i64 ((G.length : Nat) : Int), .int .i64 ((G.length : Nat) : Int)] W (fun e W' => e = .returned (.int .i64 ((G.length + 2 : Nat) : Int)) ∧ ∃ v', IsB B p sl (G ++ [((5, ((a : Nat) : Int), ((b : Nat) : Int), 0) : Gat), ((3, ((a : Nat) : Int), ((b : Nat) : Int), 0) : Gat), ((3, ((G.length : Nat) : Int), ((G.length : Nat) : Int), 0) : Gat)]) xs v1 v' v3 W' ∧ Fr B v2 v' w W')) :=
    Lib.hid fun W0 W v hI hF hB => (sum_ok B p (by omega) sl _ xs v1 v v3 (G.length) (G.length) (by first | omega | (simp <;> omega)) (by first | omega | (simp <;> omega)) (by first | omega | (simp <;> omega)) W (hI.below hB)).mono fun _ _ he => by have := OkPost.chain (hF.below hB) he; simpa [Nat.add_assoc] using this
  have h4 : Hid (∀ W0 W v, IsB B p sl (G ++ [((5, ((a : Nat) : Int), ((b : Nat) : Int), 0) : Gat), ((3, ((a : Nat) : Int), ((b : Nat) : Int), 0) : Gat), ((3, ((G.length : Nat) : Int), ((G.length : Nat) : Int), 0) : Gat)]) xs v1 v v3 W0 → Fr B v2 v w W0 → Below W0.heap.size W0 W → Calls Try.prog 108 #[.agg #[.pointer (some ⟨B, 0, none⟩)], .int .i64 ((G.length + 1 : Nat) : Int), .int .i64 ((G.length + 2 : Nat) : Int)] W (fun e W' => e = .returned (.int .i64 ((G.length + 3 : Nat) : Int)) ∧ ∃ v', IsB B p sl (G ++ [((5, ((a : Nat) : Int), ((b : Nat) : Int), 0) : Gat), ((3, ((a : Nat) : Int), ((b : Nat) : Int), 0) : Gat), ((3, ((G.length : Nat) : Int), ((G.length : Nat) : Int), 0) : Gat), ((4, ((G.length + 1 : Nat) : Int), ((G.length + 2 : Nat) : Int), 0) : Gat)]) xs v1 v' v3 W' ∧ Fr B v2 v' w W')) :=
    Lib.hid fun W0 W v hI hF hB => (less_ok B p (by omega) sl _ xs v1 v v3 (G.length + 1) (G.length + 2) (by first | omega | (simp <;> omega)) (by first | omega | (simp <;> omega)) (by first | omega | (simp <;> omega)) W (hI.below hB)).mono fun _ _ he => by have := OkPost.chain (hF.below hB) he; simpa [Nat.add_assoc] using this
  have HI0 := Lib.hid h
  have HF0 := Lib.hid (Fr.refl B v2 w)
  clear h ha hb hf hp
  go_enter Try.func66, Try.ntmps66
  go_wp2_with (first | (go_at_call 109; refine (h1.out _ _ _ HI0.out HF0.out (by repeat (first | exact Below.refl _ _ | refine Below.drew ?_ | refine Below.alloc ?_ (by simp) _))).mono ?_; rintro e w1 ⟨rfl, x1, hI, hF⟩; have HI1 := Lib.hid hI; have HF1 := Lib.hid hF; clear hI hF))
  (try go_wp2)
  go_region_held3 (fun _ => True) (trivial) (first | (go_at_call 108; refine (h4.out _ _ _ HI3.out HF3.out (by repeat (first | exact Below.refl _ _ | refine Below.drew ?_ | refine Below.alloc ?_ (by simp) _))).mono ?_; rintro e w4 ⟨rfl, x4, hI, hF⟩; have HI4 := Lib.hid hI; have HF4 := Lib.hid hF; clear hI hF) | (go_at_call 110; refine (h3.out _ _ _ HI2.out HF2.out (by repeat (first | exact Below.refl _ _ | refine Below.drew ?_ | refine Below.alloc ?_ (by simp) _))).mono ?_; rintro e w3 ⟨rfl, x3, hI, hF⟩; have HI3 := Lib.hid hI; have HF3 := Lib.hid hF; clear hI hF) | (go_at_call 110; refine (h2.out _ _ _ HI1.out HF1.out (by repeat (first | exact Below.refl _ _ | refine Below.drew ?_ | refine Below.alloc ?_ (by simp) _))).mono ?_; rintro e w2 ⟨rfl, x2, hI, hF⟩; have HI2 := Lib.hid hI; have HF2 := Lib.hid hF; clear hI hF))
  all_goals (try go_wp2)
  all_goals go_ret
  all_goals exact ⟨rfl, x4, HI4.out, HF4.out⟩
/-- The gates of Not and of Xor, by how many there are. -/
def notL (n a : Nat) : List Gat := [((2, 0, 0, ((1 : Nat) : Int)) : Gat), ((4, ((n : Nat) : Int), ((a : Nat) : Int), 0) : Gat)]
def xorL (n a b : Nat) : List Gat := [((5, ((a : Nat) : Int), ((b : Nat) : Int), 0) : Gat), ((3, ((a : Nat) : Int), ((b : Nat) : Int), 0) : Gat), ((3, ((n : Nat) : Int), ((n : Nat) : Int), 0) : Gat), ((4, ((n + 1 : Nat) : Int), ((n + 2 : Nat) : Int), 0) : Gat)]
end Go.Proofs.Ytkcdlbclodjjhaa
