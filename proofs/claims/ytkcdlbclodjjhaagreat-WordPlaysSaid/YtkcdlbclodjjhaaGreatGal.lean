/- Contracts and plain laws of chapter 13, merged: Pc Pd Pe. -/
import Derived.Test.YtkcdlbclodjjhaaGreatGae
import Derived.Test.YtkcdlbclodjjhaaGreatGak
import Derived.Deep.RegionHeld2
import Derived.Deep.DeepCutAuto
import Derived.Test.YtkcdlbclodjjhaaGreatGaf
/- Contracts of the gates of one bit of a sum, with or without room. (Printed by wip/tools/gen_pc.py.) -/
namespace Go.Proofs.YtkcdlbclodjjhaaGreat
open Go.RowKit

/-- What an arm meets at a call: it has answered, or the board is full. -/
theorem pre_bit (i : Nat) (G : List Gat) (a b c : Nat) : G <+: bitG i G a b c := List.prefix_append _ _
theorem bitF1 (B p : Nat) (hp : 1 < p) (sl : List Slo) (G : List Gat) (xs : List Exi) (v1 v2 v3 : Value) (w : World) (hlt : B < w.heap.size) (a b c : Nat) (_ha : a < G.length) (_hb : b < G.length) (_hc : c < G.length) (G0 : List Gat) (K : Nat) (hG : G0 <+: G) (hr : G.length + 9 ≤ G0.length + K) (vo : Value) (k : Nat) (cs : List Value) (W0 W : World) (v : Value)
    (hI : IsB B p sl (bitG 0 G a b c) xs v1 v v3 W0) (hF : Fr B v2 v w W0) (hO : W0.ownsRow w.heap.size 3 1 vo k cs) (hB : Below W0.heap.size W0 W) :
    Calls Tryz.prog 122 #[.agg #[.pointer (some ⟨B, 0, none⟩)], .int .i64 ((a : Nat) : Int), .int .i64 ((b : Nat) : Int)] W (fun e W' => (e = .returned (.int .i64 ((G.length : Nat) : Int)) ∧ ∃ v', IsB B p sl (bitG 1 G a b c) xs v1 v' v3 W' ∧ Fr B v2 v' w W' ∧ W'.ownsRow w.heap.size 3 1 vo k cs) ∨ Full K B p sl G0 xs v1 v2 v3 w e W') := by
  have hn : (bitG 0 G a b c).length = G.length + 0 := by simp [bitG, addL]
  have hg : bitG 1 G a b c = bitG 0 G a b c ++ [((5, ((a : Nat) : Int), ((b : Nat) : Int), 0) : Gat)] := by unfold bitG addL; simp
  refine (product_any B p (by omega) sl _ xs v1 v v3 (a) (b) (by omega) (by omega) W (hI.below hB)).mono fun _ _ he => ?_
  rcases he with ⟨e1, v', h1, h2⟩ | he
  · rw [hn] at e1
    rw [← hg] at h1
    exact .inl ⟨e1, v', h1, (hF.below hB).trans h2, h2.own_int (hI.below hB).h2 (own_below hO hB) (by omega)⟩
  · exact .inr (he.chain (hF.below hB) (hG.trans (pre_bit _ _ _ _ _)) (by omega))
theorem bitF2 (B p : Nat) (hp : 1 < p) (sl : List Slo) (G : List Gat) (xs : List Exi) (v1 v2 v3 : Value) (w : World) (hlt : B < w.heap.size) (a b c : Nat) (_ha : a < G.length) (_hb : b < G.length) (_hc : c < G.length) (G0 : List Gat) (K : Nat) (hG : G0 <+: G) (hr : G.length + 9 ≤ G0.length + K) (vo : Value) (k : Nat) (cs : List Value) (W0 W : World) (v : Value)
    (hI : IsB B p sl (bitG 1 G a b c) xs v1 v v3 W0) (hF : Fr B v2 v w W0) (hO : W0.ownsRow w.heap.size 3 1 vo k cs) (hB : Below W0.heap.size W0 W) :
    Calls Tryz.prog 123 #[.agg #[.pointer (some ⟨B, 0, none⟩)], .int .i64 ((a : Nat) : Int), .int .i64 ((b : Nat) : Int)] W (fun e W' => (e = .returned (.int .i64 ((G.length + 1 : Nat) : Int)) ∧ ∃ v', IsB B p sl (bitG 2 G a b c) xs v1 v' v3 W' ∧ Fr B v2 v' w W' ∧ W'.ownsRow w.heap.size 3 1 vo k cs) ∨ Full K B p sl G0 xs v1 v2 v3 w e W') := by
  have hn : (bitG 1 G a b c).length = G.length + 1 := by simp [bitG, addL]
  have hg : bitG 2 G a b c = bitG 1 G a b c ++ [((3, ((a : Nat) : Int), ((b : Nat) : Int), 0) : Gat)] := by unfold bitG addL; simp
  refine (sum_any B p (by omega) sl _ xs v1 v v3 (a) (b) (by omega) (by omega) W (hI.below hB)).mono fun _ _ he => ?_
  rcases he with ⟨e1, v', h1, h2⟩ | he
  · rw [hn] at e1
    rw [← hg] at h1
    exact .inl ⟨e1, v', h1, (hF.below hB).trans h2, h2.own_int (hI.below hB).h2 (own_below hO hB) (by omega)⟩
  · exact .inr (he.chain (hF.below hB) (hG.trans (pre_bit _ _ _ _ _)) (by omega))
theorem bitF3 (B p : Nat) (hp : 1 < p) (sl : List Slo) (G : List Gat) (xs : List Exi) (v1 v2 v3 : Value) (w : World) (hlt : B < w.heap.size) (a b c : Nat) (_ha : a < G.length) (_hb : b < G.length) (_hc : c < G.length) (G0 : List Gat) (K : Nat) (hG : G0 <+: G) (hr : G.length + 9 ≤ G0.length + K) (vo : Value) (k : Nat) (cs : List Value) (W0 W : World) (v : Value)
    (hI : IsB B p sl (bitG 2 G a b c) xs v1 v v3 W0) (hF : Fr B v2 v w W0) (hO : W0.ownsRow w.heap.size 3 1 vo k cs) (hB : Below W0.heap.size W0 W) :
    Calls Tryz.prog 123 #[.agg #[.pointer (some ⟨B, 0, none⟩)], .int .i64 ((G.length : Nat) : Int), .int .i64 ((G.length : Nat) : Int)] W (fun e W' => (e = .returned (.int .i64 ((G.length + 2 : Nat) : Int)) ∧ ∃ v', IsB B p sl (bitG 3 G a b c) xs v1 v' v3 W' ∧ Fr B v2 v' w W' ∧ W'.ownsRow w.heap.size 3 1 vo k cs) ∨ Full K B p sl G0 xs v1 v2 v3 w e W') := by
  have hn : (bitG 2 G a b c).length = G.length + 2 := by simp [bitG, addL]
  have hg : bitG 3 G a b c = bitG 2 G a b c ++ [((3, ((G.length : Nat) : Int), ((G.length : Nat) : Int), 0) : Gat)] := by unfold bitG addL; simp
  refine (sum_any B p (by omega) sl _ xs v1 v v3 (G.length) (G.length) (by omega) (by omega) W (hI.below hB)).mono fun _ _ he => ?_
  rcases he with ⟨e1, v', h1, h2⟩ | he
  · rw [hn] at e1
    rw [← hg] at h1
    exact .inl ⟨e1, v', h1, (hF.below hB).trans h2, h2.own_int (hI.below hB).h2 (own_below hO hB) (by omega)⟩
  · exact .inr (he.chain (hF.below hB) (hG.trans (pre_bit _ _ _ _ _)) (by omega))
theorem bitF4 (B p : Nat) (hp : 1 < p) (sl : List Slo) (G : List Gat) (xs : List Exi) (v1 v2 v3 : Value) (w : World) (hlt : B < w.heap.size) (a b c : Nat) (_ha : a < G.length) (_hb : b < G.length) (_hc : c < G.length) (G0 : List Gat) (K : Nat) (hG : G0 <+: G) (hr : G.length + 9 ≤ G0.length + K) (vo : Value) (k : Nat) (cs : List Value) (W0 W : World) (v : Value)
    (hI : IsB B p sl (bitG 3 G a b c) xs v1 v v3 W0) (hF : Fr B v2 v w W0) (hO : W0.ownsRow w.heap.size 3 1 vo k cs) (hB : Below W0.heap.size W0 W) :
    Calls Tryz.prog 121 #[.agg #[.pointer (some ⟨B, 0, none⟩)], .int .i64 ((G.length + 1 : Nat) : Int), .int .i64 ((G.length + 2 : Nat) : Int)] W (fun e W' => (e = .returned (.int .i64 ((G.length + 3 : Nat) : Int)) ∧ ∃ v', IsB B p sl (bitG 4 G a b c) xs v1 v' v3 W' ∧ Fr B v2 v' w W' ∧ W'.ownsRow w.heap.size 3 1 vo k cs) ∨ Full K B p sl G0 xs v1 v2 v3 w e W') := by
  have hn : (bitG 3 G a b c).length = G.length + 3 := by simp [bitG, addL]
  have hg : bitG 4 G a b c = bitG 3 G a b c ++ [((4, ((G.length + 1 : Nat) : Int), ((G.length + 2 : Nat) : Int), 0) : Gat)] := by unfold bitG addL; simp
  refine (less_any B p (by omega) sl _ xs v1 v v3 (G.length + 1) (G.length + 2) (by omega) (by omega) W (hI.below hB)).mono fun _ _ he => ?_
  rcases he with ⟨e1, v', h1, h2⟩ | he
  · rw [hn] at e1
    rw [← hg] at h1
    exact .inl ⟨e1, v', h1, (hF.below hB).trans h2, h2.own_int (hI.below hB).h2 (own_below hO hB) (by omega)⟩
  · exact .inr (he.chain (hF.below hB) (hG.trans (pre_bit _ _ _ _ _)) (by omega))
theorem bitF5 (B p : Nat) (hp : 1 < p) (sl : List Slo) (G : List Gat) (xs : List Exi) (v1 v2 v3 : Value) (w : World) (hlt : B < w.heap.size) (a b c : Nat) (_ha : a < G.length) (_hb : b < G.length) (_hc : c < G.length) (G0 : List Gat) (K : Nat) (hG : G0 <+: G) (hr : G.length + 9 ≤ G0.length + K) (vo : Value) (k : Nat) (cs : List Value) (W0 W : World) (v : Value)
    (hI : IsB B p sl (bitG 4 G a b c) xs v1 v v3 W0) (hF : Fr B v2 v w W0) (hO : W0.ownsRow w.heap.size 3 1 vo k cs) (hB : Below W0.heap.size W0 W) :
    Calls Tryz.prog 122 #[.agg #[.pointer (some ⟨B, 0, none⟩)], .int .i64 ((G.length + 3 : Nat) : Int), .int .i64 ((c : Nat) : Int)] W (fun e W' => (e = .returned (.int .i64 ((G.length + 4 : Nat) : Int)) ∧ ∃ v', IsB B p sl (bitG 5 G a b c) xs v1 v' v3 W' ∧ Fr B v2 v' w W' ∧ W'.ownsRow w.heap.size 3 1 vo k cs) ∨ Full K B p sl G0 xs v1 v2 v3 w e W') := by
  have hn : (bitG 4 G a b c).length = G.length + 4 := by simp [bitG, addL]
  have hg : bitG 5 G a b c = bitG 4 G a b c ++ [((5, ((G.length + 3 : Nat) : Int), ((c : Nat) : Int), 0) : Gat)] := by unfold bitG addL; simp
  refine (product_any B p (by omega) sl _ xs v1 v v3 (G.length + 3) (c) (by omega) (by omega) W (hI.below hB)).mono fun _ _ he => ?_
  rcases he with ⟨e1, v', h1, h2⟩ | he
  · rw [hn] at e1
    rw [← hg] at h1
    exact .inl ⟨e1, v', h1, (hF.below hB).trans h2, h2.own_int (hI.below hB).h2 (own_below hO hB) (by omega)⟩
  · exact .inr (he.chain (hF.below hB) (hG.trans (pre_bit _ _ _ _ _)) (by omega))
theorem bitF6 (B p : Nat) (hp : 1 < p) (sl : List Slo) (G : List Gat) (xs : List Exi) (v1 v2 v3 : Value) (w : World) (hlt : B < w.heap.size) (a b c : Nat) (_ha : a < G.length) (_hb : b < G.length) (_hc : c < G.length) (G0 : List Gat) (K : Nat) (hG : G0 <+: G) (hr : G.length + 9 ≤ G0.length + K) (vo : Value) (k : Nat) (cs : List Value) (W0 W : World) (v : Value)
    (hI : IsB B p sl (bitG 5 G a b c) xs v1 v v3 W0) (hF : Fr B v2 v w W0) (hO : W0.ownsRow w.heap.size 3 1 vo k cs) (hB : Below W0.heap.size W0 W) :
    Calls Tryz.prog 123 #[.agg #[.pointer (some ⟨B, 0, none⟩)], .int .i64 ((G.length + 3 : Nat) : Int), .int .i64 ((c : Nat) : Int)] W (fun e W' => (e = .returned (.int .i64 ((G.length + 5 : Nat) : Int)) ∧ ∃ v', IsB B p sl (bitG 6 G a b c) xs v1 v' v3 W' ∧ Fr B v2 v' w W' ∧ W'.ownsRow w.heap.size 3 1 vo k cs) ∨ Full K B p sl G0 xs v1 v2 v3 w e W') := by
  have hn : (bitG 5 G a b c).length = G.length + 5 := by simp [bitG, addL]
  have hg : bitG 6 G a b c = bitG 5 G a b c ++ [((3, ((G.length + 3 : Nat) : Int), ((c : Nat) : Int), 0) : Gat)] := by unfold bitG addL; simp
  refine (sum_any B p (by omega) sl _ xs v1 v v3 (G.length + 3) (c) (by omega) (by omega) W (hI.below hB)).mono fun _ _ he => ?_
  rcases he with ⟨e1, v', h1, h2⟩ | he
  · rw [hn] at e1
    rw [← hg] at h1
    exact .inl ⟨e1, v', h1, (hF.below hB).trans h2, h2.own_int (hI.below hB).h2 (own_below hO hB) (by omega)⟩
  · exact .inr (he.chain (hF.below hB) (hG.trans (pre_bit _ _ _ _ _)) (by omega))
theorem bitF7 (B p : Nat) (hp : 1 < p) (sl : List Slo) (G : List Gat) (xs : List Exi) (v1 v2 v3 : Value) (w : World) (hlt : B < w.heap.size) (a b c : Nat) (_ha : a < G.length) (_hb : b < G.length) (_hc : c < G.length) (G0 : List Gat) (K : Nat) (hG : G0 <+: G) (hr : G.length + 9 ≤ G0.length + K) (vo : Value) (k : Nat) (cs : List Value) (W0 W : World) (v : Value)
    (hI : IsB B p sl (bitG 6 G a b c) xs v1 v v3 W0) (hF : Fr B v2 v w W0) (hO : W0.ownsRow w.heap.size 3 1 vo k cs) (hB : Below W0.heap.size W0 W) :
    Calls Tryz.prog 123 #[.agg #[.pointer (some ⟨B, 0, none⟩)], .int .i64 ((G.length + 4 : Nat) : Int), .int .i64 ((G.length + 4 : Nat) : Int)] W (fun e W' => (e = .returned (.int .i64 ((G.length + 6 : Nat) : Int)) ∧ ∃ v', IsB B p sl (bitG 7 G a b c) xs v1 v' v3 W' ∧ Fr B v2 v' w W' ∧ W'.ownsRow w.heap.size 3 1 vo k cs) ∨ Full K B p sl G0 xs v1 v2 v3 w e W') := by
  have hn : (bitG 6 G a b c).length = G.length + 6 := by simp [bitG, addL]
  have hg : bitG 7 G a b c = bitG 6 G a b c ++ [((3, ((G.length + 4 : Nat) : Int), ((G.length + 4 : Nat) : Int), 0) : Gat)] := by unfold bitG addL; simp
  refine (sum_any B p (by omega) sl _ xs v1 v v3 (G.length + 4) (G.length + 4) (by omega) (by omega) W (hI.below hB)).mono fun _ _ he => ?_
  rcases he with ⟨e1, v', h1, h2⟩ | he
  · rw [hn] at e1
    rw [← hg] at h1
    exact .inl ⟨e1, v', h1, (hF.below hB).trans h2, h2.own_int (hI.below hB).h2 (own_below hO hB) (by omega)⟩
  · exact .inr (he.chain (hF.below hB) (hG.trans (pre_bit _ _ _ _ _)) (by omega))
theorem bitF8 (B p : Nat) (hp : 1 < p) (sl : List Slo) (G : List Gat) (xs : List Exi) (v1 v2 v3 : Value) (w : World) (hlt : B < w.heap.size) (a b c : Nat) (_ha : a < G.length) (_hb : b < G.length) (_hc : c < G.length) (G0 : List Gat) (K : Nat) (hG : G0 <+: G) (hr : G.length + 9 ≤ G0.length + K) (vo : Value) (k : Nat) (cs : List Value) (W0 W : World) (v : Value)
    (hI : IsB B p sl (bitG 7 G a b c) xs v1 v v3 W0) (hF : Fr B v2 v w W0) (hO : W0.ownsRow w.heap.size 3 1 vo k cs) (hB : Below W0.heap.size W0 W) :
    Calls Tryz.prog 121 #[.agg #[.pointer (some ⟨B, 0, none⟩)], .int .i64 ((G.length + 5 : Nat) : Int), .int .i64 ((G.length + 6 : Nat) : Int)] W (fun e W' => (e = .returned (.int .i64 ((G.length + 7 : Nat) : Int)) ∧ ∃ v', IsB B p sl (bitG 8 G a b c) xs v1 v' v3 W' ∧ Fr B v2 v' w W' ∧ W'.ownsRow w.heap.size 3 1 vo k cs) ∨ Full K B p sl G0 xs v1 v2 v3 w e W') := by
  have hn : (bitG 7 G a b c).length = G.length + 7 := by simp [bitG, addL]
  have hg : bitG 8 G a b c = bitG 7 G a b c ++ [((4, ((G.length + 5 : Nat) : Int), ((G.length + 6 : Nat) : Int), 0) : Gat)] := by unfold bitG addL; simp
  refine (less_any B p (by omega) sl _ xs v1 v v3 (G.length + 5) (G.length + 6) (by omega) (by omega) W (hI.below hB)).mono fun _ _ he => ?_
  rcases he with ⟨e1, v', h1, h2⟩ | he
  · rw [hn] at e1
    rw [← hg] at h1
    exact .inl ⟨e1, v', h1, (hF.below hB).trans h2, h2.own_int (hI.below hB).h2 (own_below hO hB) (by omega)⟩
  · exact .inr (he.chain (hF.below hB) (hG.trans (pre_bit _ _ _ _ _)) (by omega))
theorem bitF9 (B p : Nat) (hp : 1 < p) (sl : List Slo) (G : List Gat) (xs : List Exi) (v1 v2 v3 : Value) (w : World) (hlt : B < w.heap.size) (a b c : Nat) (_ha : a < G.length) (_hb : b < G.length) (_hc : c < G.length) (G0 : List Gat) (K : Nat) (hG : G0 <+: G) (hr : G.length + 9 ≤ G0.length + K) (vo : Value) (k : Nat) (cs : List Value) (W0 W : World) (v : Value)
    (hI : IsB B p sl (bitG 8 G a b c) xs v1 v v3 W0) (hF : Fr B v2 v w W0) (hO : W0.ownsRow w.heap.size 3 1 vo k cs) (hB : Below W0.heap.size W0 W) :
    Calls Tryz.prog 123 #[.agg #[.pointer (some ⟨B, 0, none⟩)], .int .i64 ((G.length : Nat) : Int), .int .i64 ((G.length + 4 : Nat) : Int)] W (fun e W' => (e = .returned (.int .i64 ((G.length + 8 : Nat) : Int)) ∧ ∃ v', IsB B p sl (bitG 9 G a b c) xs v1 v' v3 W' ∧ Fr B v2 v' w W' ∧ W'.ownsRow w.heap.size 3 1 vo k cs) ∨ Full K B p sl G0 xs v1 v2 v3 w e W') := by
  have hn : (bitG 8 G a b c).length = G.length + 8 := by simp [bitG, addL]
  have hg : bitG 9 G a b c = bitG 8 G a b c ++ [((3, ((G.length : Nat) : Int), ((G.length + 4 : Nat) : Int), 0) : Gat)] := by unfold bitG addL; simp
  refine (sum_any B p (by omega) sl _ xs v1 v v3 (G.length) (G.length + 4) (by omega) (by omega) W (hI.below hB)).mono fun _ _ he => ?_
  rcases he with ⟨e1, v', h1, h2⟩ | he
  · rw [hn] at e1
    rw [← hg] at h1
    exact .inl ⟨e1, v', h1, (hF.below hB).trans h2, h2.own_int (hI.below hB).h2 (own_below hO hB) (by omega)⟩
  · exact .inr (he.chain (hF.below hB) (hG.trans (pre_bit _ _ _ _ _)) (by omega))
end Go.Proofs.YtkcdlbclodjjhaaGreat

/- Contract of the ring's add over a board, with or without room. (Printed by wip/tools/gen_pc.py.) -/
namespace Go.Proofs.YtkcdlbclodjjhaaGreat
open Go.RowKit
theorem pre_fold : ∀ (ps : List (Nat × Nat)) (s : List Gat × List Nat × Nat), s.1 <+: (ps.foldl addStep s).1
  | [], _ => List.prefix_rfl
  | q :: r, s => by
    rw [List.foldl_cons]
    exact (List.prefix_append s.1 (addL s.1.length q.1 q.2 s.2.2)).trans (pre_fold r (addStep s q))
theorem pre_addSt (G : List Gat) (c : Nat) (ps : List (Nat × Nat)) : G <+: (addSt G c ps).1 := by unfold addSt; exact pre_fold ps (G, [], c)

set_option maxHeartbeats 4000000 in
set_option maxRecDepth 100000 in
theorem add_any (B p : Nat) (hp : 1 < p) (sl : List Slo) (G : List Gat) (xs : List Exi) (v1 v2 v3 : Value) (vs ws : List Nat) (VA WA : Option Addr) (vc wc c : Nat) (hlen : ws.length = vs.length) (hl : vs.length ≤ 65536) (hc : c < G.length) (hvs : ∀ x ∈ vs, x < G.length) (hws : ∀ x ∈ ws, x < G.length) (w : World) (h : IsB B p sl G xs v1 v2 v3 w)
    (hV : ∀ W v, Fr B v2 v w W → Reads W VA (nCells vs)) (hW : ∀ W v, Fr B v2 v w W → Reads W WA (nCells ws)) :
    Calls Tryz.prog 90 #[.iface 126 (.agg #[.pointer (some ⟨B, 0, none⟩)]), .slice VA vs.length vc, .slice WA vs.length wc, .int .i64 c] w fun e W' => (∃ v vo, e = .returned (.tuple #[vo, .int .i64 (((addSt G c (vs.zip ws)).2.2 : Nat) : Int)]) ∧ IsB B p sl (addSt G c (vs.zip ws)).1 xs v1 v v3 W' ∧ Fr B v2 v w W' ∧ W'.ownsRow w.heap.size 3 1 vo vs.length (nCells (addSt G c (vs.zip ws)).2.1)) ∨ Full (9 * vs.length) B p sl G xs v1 v2 v3 w e W' := by
  have mProduct := fun W => mProduct B W
  have mSum := fun W => mSum B W
  have mLess := fun W => mLess B W
  have nProduct := fun W => nProduct B W
  have nSum := fun W => nSum B W
  have nLess := fun W => nLess B W
  simp only [Nat.reduceAdd] at mProduct mSum mLess nProduct nSum nLess
  have hzl : (vs.zip ws).length = vs.length := by rw [List.length_zip, hlen]; omega
  have HL := Lib.hid (addSt_len G c (vs.zip ws) hc)
  have HS := Lib.hid (addSt_succ G c (vs.zip ws))
  have HVS := Lib.hid hvs; have HWS := Lib.hid hws; have HV := Lib.hid hV; have HW := Lib.hid hW; have HB := Lib.hid h; have HLT := Lib.hid h.lt; have HC := Lib.hid hc; have HP := Lib.hid hp
  have HZ := Lib.hid hzl
  have HE := Lib.hid hlen
  have HH : Hid (addSt G c ((vs.zip ws).take 0) = (G, [], c)) := Lib.hid rfl
  have HPR := Lib.hid (fun k => pre_addSt G c ((vs.zip ws).take k))
  clear hvs hws hV hW h hc hp hzl hlen
  go_enter Tryz.func90, Tryz.ntmps90
  go_wp2
  go_loopg [3, 10, 18] vs.length (fun g c' o' i' wr => ∃ (k : Nat) (Gk : List Gat) (ok : List Nat) (ck : Nat) (vo vk : Value), k ≤ vs.length ∧ g = vs.length - k ∧ c' = .int .i64 ((ck : Nat) : Int) ∧ o' = vo ∧ i' = .int .i64 k ∧ Hid (addSt G c ((vs.zip ws).take k) = (Gk, ok, ck)) ∧ wr.ownsRow w.heap.size 3 1 vo k (nCells ok) ∧ IsB B p sl Gk xs v1 vk v3 wr ∧ Fr B v2 vk w wr)
  case atStart => exact ⟨0, G, [], c, .slice none 0 0, v2, Nat.zero_le _, rfl, rfl, rfl, rfl, HH, World.ownsRow_nil _ _ _ _, HB.out, Fr.refl _ _ _⟩
  case round =>
    obtain ⟨k, Gk, ok, ck, vo, vk, hk, rfl, rfl, rfl, rfl, hst, hown, hIk, hFk⟩ := hrel
    have HO0 := Lib.hid hown; have HI0 := Lib.hid hIk; have HF0 := Lib.hid hFk
    clear hown hIk hFk
    by_cases hlt : k < vs.length
    · have hlz : k < (vs.zip ws).length := by rw [HZ.out]; exact hlt
      have hlw : k < ws.length := by have := HE.out; omega
      obtain ⟨vad, hva, q0⟩ := (HV.out _ _ HF0.out).nat k hlt
      obtain ⟨wad, hwa, q1⟩ := (HW.out _ _ HF0.out).nat k hlw
      have hcell : Hid (∀ W v, Fr B v2 v w W → W.cell? (wad.add k) = some (.int .i64 ((ws[k] : Nat) : Int))) := Lib.hid fun W v hF => by
        obtain ⟨wad', e1, e2⟩ := (HW.out _ _ hF).nat k hlw
        rw [hwa] at e1
        injection e1 with e1
        rw [e1]; exact e2
      have hsu := HS.out k hlz
      have hL := HL.out k (by omega)
      rw [hst.out] at hsu hL
      simp only at hL
      obtain ⟨hL1, hL2, hL3⟩ := hL
      have hav := HVS.out _ (List.getElem_mem hlt)
      have hbv := HWS.out _ (List.getElem_mem hlw)
      have hp := HP.out
      have hpr := HPR.out k
      rw [hst.out] at hpr
      simp only at hpr
      rw [List.getElem_zip] at hsu
      generalize vs[k] = a at *
      generalize ws[k] = b at *
      have ha : a < Gk.length := by omega
      have hb : b < Gk.length := by omega
      have hr : Gk.length + 9 ≤ G.length + 9 * vs.length := by omega
      clear hav hbv hL1 hL2
      have h1 := Lib.hid (bitF1 B p hp sl Gk xs v1 v2 v3 w HLT.out a b ck ha hb hL3 G (9 * vs.length) hpr hr u10 k (nCells ok))
      have h2 := Lib.hid (bitF2 B p hp sl Gk xs v1 v2 v3 w HLT.out a b ck ha hb hL3 G (9 * vs.length) hpr hr u10 k (nCells ok))
      have h3 := Lib.hid (bitF3 B p hp sl Gk xs v1 v2 v3 w HLT.out a b ck ha hb hL3 G (9 * vs.length) hpr hr u10 k (nCells ok))
      have h4 := Lib.hid (bitF4 B p hp sl Gk xs v1 v2 v3 w HLT.out a b ck ha hb hL3 G (9 * vs.length) hpr hr u10 k (nCells ok))
      have h5 := Lib.hid (bitF5 B p hp sl Gk xs v1 v2 v3 w HLT.out a b ck ha hb hL3 G (9 * vs.length) hpr hr u10 k (nCells ok))
      have h6 := Lib.hid (bitF6 B p hp sl Gk xs v1 v2 v3 w HLT.out a b ck ha hb hL3 G (9 * vs.length) hpr hr u10 k (nCells ok))
      have h7 := Lib.hid (bitF7 B p hp sl Gk xs v1 v2 v3 w HLT.out a b ck ha hb hL3 G (9 * vs.length) hpr hr u10 k (nCells ok))
      have h8 := Lib.hid (bitF8 B p hp sl Gk xs v1 v2 v3 w HLT.out a b ck ha hb hL3 G (9 * vs.length) hpr hr u10 k (nCells ok))
      have HA := Lib.hid ha; have HB2 := Lib.hid hb; have HC3 := Lib.hid hL3; have HR := Lib.hid hr; have HPK := Lib.hid hpr
      have HI0' : Hid (IsB B p sl (bitG 0 Gk a b ck) xs v1 vk v3 wr) := Lib.hid (by rw [bitG_zero]; exact HI0.out)
      clear HI0
      have HI0 := HI0'
      clear HI0'
      have HSU : Hid (addSt G c ((vs.zip ws).take (k + 1)) = (bitG 9 Gk a b ck, ok ++ [Gk.length + 7], Gk.length + 8)) := Lib.hid hsu
      clear hsu ha hb hr hL3 hp hpr
      subst hva
      have HWA := Lib.hid hwa
      subst hwa
      have i1 : (0 : Int) ≤ (k : Int) := by omega
      have i2 : (k : Int) < (vs.length : Int) := by omega
      go_upto_region 5 with fail
      go_region_held2 (fun W => W.cell? (wad.add k) = some (.int .i64 ((b : Nat) : Int))) ((first | exact hcell.out _ _ HF4.out | exact hcell.out _ _ (HF4.out.below (Below.refl _ _).drew) | exact hcell.out _ _ HF3.out | exact hcell.out _ _ (HF3.out.below (Below.refl _ _).drew) | exact hcell.out _ _ HF2.out | exact hcell.out _ _ (HF2.out.below (Below.refl _ _).drew) | exact hcell.out _ _ HF1.out | exact hcell.out _ _ (HF1.out.below (Below.refl _ _).drew) | exact hcell.out _ _ HF0.out | exact hcell.out _ _ (HF0.out.below (Below.refl _ _).drew))) (first | (go_at_call 122; refine (h1.out _ _ _ HI0.out HF0.out HO0.out (by repeat (first | exact Below.refl _ _ | refine Below.drew ?_ | refine Below.alloc ?_ (by simp) _))).mono ?_; intro e w1 he; rcases he with ⟨rfl, x1, hI, hF, hO⟩ | ⟨hk, rfl, he⟩; rotate_left; exact ⟨rfl, .inr ⟨hk, rfl, he⟩⟩; have HI1 := Lib.hid hI; have HF1 := Lib.hid hF; have HO1 := Lib.hid hO; clear hI hF hO))
      go_upto_region 6 with fail
      go_cut [14] (fun s14 wx => s14 = .int .i64 ((Gk.length + 3 : Nat) : Int) ∧ ∃ x, IsB B p sl (bitG 4 Gk a b ck) xs v1 x v3 wx ∧ Fr B v2 x w wx ∧ wx.ownsRow w.heap.size 3 1 u10 k (nCells ok))
      case first =>
        go_region_held2 (fun W => W.cell? (wad.add k) = some (.int .i64 ((b : Nat) : Int))) ((first | exact hcell.out _ _ HF4.out | exact hcell.out _ _ (HF4.out.below (Below.refl _ _).drew) | exact hcell.out _ _ HF3.out | exact hcell.out _ _ (HF3.out.below (Below.refl _ _).drew) | exact hcell.out _ _ HF2.out | exact hcell.out _ _ (HF2.out.below (Below.refl _ _).drew) | exact hcell.out _ _ HF1.out | exact hcell.out _ _ (HF1.out.below (Below.refl _ _).drew) | exact hcell.out _ _ HF0.out | exact hcell.out _ _ (HF0.out.below (Below.refl _ _).drew))) (first | (go_at_call 121; refine (h4.out _ _ _ HI3.out HF3.out HO3.out (by repeat (first | exact Below.refl _ _ | refine Below.drew ?_ | refine Below.alloc ?_ (by simp) _))).mono ?_; intro e w4 he; rcases he with ⟨rfl, x4, hI, hF, hO⟩ | ⟨hk, rfl, he⟩; rotate_left; exact ⟨rfl, .inr ⟨hk, rfl, he⟩⟩; have HI4 := Lib.hid hI; have HF4 := Lib.hid hF; have HO4 := Lib.hid hO; clear hI hF hO) | (go_at_call 123; refine (h3.out _ _ _ HI2.out HF2.out HO2.out (by repeat (first | exact Below.refl _ _ | refine Below.drew ?_ | refine Below.alloc ?_ (by simp) _))).mono ?_; intro e w3 he; rcases he with ⟨rfl, x3, hI, hF, hO⟩ | ⟨hk, rfl, he⟩; rotate_left; exact ⟨rfl, .inr ⟨hk, rfl, he⟩⟩; have HI3 := Lib.hid hI; have HF3 := Lib.hid hF; have HO3 := Lib.hid hO; clear hI hF hO) | (go_at_call 123; refine (h2.out _ _ _ HI1.out HF1.out HO1.out (by repeat (first | exact Below.refl _ _ | refine Below.drew ?_ | refine Below.alloc ?_ (by simp) _))).mono ?_; intro e w2 he; rcases he with ⟨rfl, x2, hI, hF, hO⟩ | ⟨hk, rfl, he⟩; rotate_left; exact ⟨rfl, .inr ⟨hk, rfl, he⟩⟩; have HI2 := Lib.hid hI; have HF2 := Lib.hid hF; have HO2 := Lib.hid hO; clear hI hF hO))
        all_goals (go_wp2_with fail; go_meet; exact ⟨rfl, x4, HI4.out, HF4.out, HO4.out⟩)
      case rest =>
      obtain ⟨rfl, x4, hI, hF, hO⟩ := hcut
      have HI4 := Lib.hid hI; have HF4 := Lib.hid hF; have HO4 := Lib.hid hO
      clear hI hF hO HI0 HF0 HO0 HI1 HF1 HO1
      go_wp2_with (first | (go_at_call 122; refine (h5.out _ _ _ HI4.out HF4.out HO4.out (by repeat (first | exact Below.refl _ _ | refine Below.drew ?_ | refine Below.alloc ?_ (by simp) _))).mono ?_; intro e w5 he; rcases he with ⟨rfl, x5, hI, hF, hO⟩ | ⟨hk, rfl, he⟩; rotate_left; exact ⟨rfl, .inr ⟨hk, rfl, he⟩⟩; have HI5 := Lib.hid hI; have HF5 := Lib.hid hF; have HO5 := Lib.hid hO; clear hI hF hO))
      go_upto_region 8 with fail
      go_cut [10] (fun s10 wx => ∃ (x : Value) (vo : Value), s10 = vo ∧ IsB B p sl (bitG 8 Gk a b ck) xs v1 x v3 wx ∧ Fr B v2 x w wx ∧ wx.ownsRow w.heap.size 3 1 vo (k + 1) (nCells (ok ++ [Gk.length + 7])))
      case first =>
        go_region_held2 (fun _ => True) (trivial) (first | (go_at_call 121; refine (h8.out _ _ _ HI7.out HF7.out HO7.out (by repeat (first | exact Below.refl _ _ | refine Below.drew ?_ | refine Below.alloc ?_ (by simp) _))).mono ?_; intro e w8 he; rcases he with ⟨rfl, x8, hI, hF, hO⟩ | ⟨hk, rfl, he⟩; rotate_left; exact ⟨rfl, .inr ⟨hk, rfl, he⟩⟩; have HI8 := Lib.hid hI; have HF8 := Lib.hid hF; have HO8 := Lib.hid hO; clear hI hF hO) | (go_at_call 123; refine (h7.out _ _ _ HI6.out HF6.out HO6.out (by repeat (first | exact Below.refl _ _ | refine Below.drew ?_ | refine Below.alloc ?_ (by simp) _))).mono ?_; intro e w7 he; rcases he with ⟨rfl, x7, hI, hF, hO⟩ | ⟨hk, rfl, he⟩; rotate_left; exact ⟨rfl, .inr ⟨hk, rfl, he⟩⟩; have HI7 := Lib.hid hI; have HF7 := Lib.hid hF; have HO7 := Lib.hid hO; clear hI hF hO) | (go_at_call 123; refine (h6.out _ _ _ HI5.out HF5.out HO5.out (by repeat (first | exact Below.refl _ _ | refine Below.drew ?_ | refine Below.alloc ?_ (by simp) _))).mono ?_; intro e w6 he; rcases he with ⟨rfl, x6, hI, hF, hO⟩ | ⟨hk, rfl, he⟩; rotate_left; exact ⟨rfl, .inr ⟨hk, rfl, he⟩⟩; have HI6 := Lib.hid hI; have HF6 := Lib.hid hF; have HO6 := Lib.hid hO; clear hI hF hO) | (refine step_append_own (W0 := w8) (by repeat (first | exact Below.refl _ _ | refine Below.drew ?_ | refine Below.alloc ?_ (by simp) _)) w.heap.size rfl _ _ 38 3 _ 8 rfl Tryz.underlying38 infoInt rfl (by decide) u10 k _ (.int .i64 ((Gk.length + 7 : Nat) : Int)) rfl _ rfl (by simp) rfl HO8.out (by have h5 := HF8.out.size; omega) (by omega) ?_; intro v9 w9 hown9 hg9; have HO9 := Lib.hid hown9; have HI9 := Lib.hid (HI8.out.grown HB.out HO8.out (Nat.le_refl _) hg9); have HF9 := Lib.hid (HF8.out.grown HO8.out (Nat.le_refl _) hg9); clear hown9 hg9))
        all_goals (go_wp2_with fail; go_meet; exact ⟨x8, v9, rfl, HI9.out, HF9.out, by rw [nCells_snoc]; exact HO9.out⟩)
      case rest =>
      obtain ⟨x8, vo9, rfl, hI, hF, hO⟩ := hcut
      have h9 := Lib.hid (bitF9 B p HP.out sl Gk xs v1 v2 v3 w HLT.out a b ck HA.out HB2.out HC3.out G (9 * vs.length) HPK.out HR.out _ (k + 1) (nCells (ok ++ [Gk.length + 7])) _ wc _ hI hF hO (Below.refl _ _))
      clear hI hF hO HI4 HF4 HO4 HI5 HF5 HO5
      go_wp2_with (first | (go_at_call 123; refine h9.out.mono ?_; intro e w9 he; rcases he with ⟨rfl, x9, hI, hF, hO⟩ | ⟨hk, rfl, he⟩; rotate_left; exact ⟨rfl, .inr ⟨hk, rfl, he⟩⟩; have HI9 := Lib.hid hI; have HF9 := Lib.hid hF; have HO9 := Lib.hid hO; clear hI hF hO))
      go_roundg (vs.length - (k + 1))
      case measure => omega
      case rel => exact ⟨k + 1, bitG 9 Gk a b ck, ok ++ [Gk.length + 7], Gk.length + 8, _, x9, by omega, rfl, rfl, rfl, by go_num, HSU, HO9.out, HI9.out, HF9.out⟩
    · obtain rfl : k = vs.length := by omega
      have hst' := hst.out
      rw [List.take_of_length_le (by rw [HZ.out]; exact Nat.le_refl _)] at hst'
      have HST := Lib.hid hst'
      clear hst'
      go_wp2
      refine bodyPost_ret (v := .tuple #[u10, .int .i64 ((ck : Nat) : Int)]) (by simp [results, Tryz.results90, go_sem]) rfl (.inl ⟨vk, u10, ?_, ?_, HF0.out, ?_⟩)
      · rw [HST.out]
      · rw [HST.out]; exact HI0.out
      · rw [HST.out]; exact HO0.out
end Go.Proofs.YtkcdlbclodjjhaaGreat

/- Contracts of the ring's turned, Plus, Minus, Below, Same over a board, with or without room. (Printed by wip/tools/gen_pe.py.) -/
namespace Go.Proofs.YtkcdlbclodjjhaaGreat
open Go.RowKit

theorem any_mono {P : Program} {f : FuncId} {args : Array Value} {W w : World} {Ok Ok' : Ending → World → Prop} {k K B p : Nat} {sl : List Slo} {G G1 : List Gat} {xs : List Exi} {v1 v v2 v3 : Value}
    (hc : Calls P f args W fun e W' => Ok e W' ∨ Full k B p sl G1 xs v1 v v3 W e W') (hok : ∀ e W', Ok e W' → Ok' e W') (hF : Fr B v2 v w W) (hG : G <+: G1) (hk : G1.length + k ≤ G.length + K) :
    Calls P f args W fun e W' => Ok' e W' ∨ Full K B p sl G xs v1 v2 v3 w e W' :=
  hc.mono fun e W' he => by
    rcases he with he | he
    · exact .inl (hok e W' he)
    · exact .inr (he.chain hF hG hk)
theorem pre_turnF : ∀ (ps : List Nat) (s : List Gat × List Nat), s.1 <+: (ps.foldl turnStep s).1
  | [], _ => List.prefix_rfl
  | a :: r, s => by
    rw [List.foldl_cons]
    exact (List.prefix_append s.1 (notL s.1.length a)).trans (pre_turnF r (turnStep s a))
theorem pre_turnSt (G : List Gat) (ps : List Nat) : G <+: (turnSt G ps).1 := by unfold turnSt; exact pre_turnF ps (G, [])
theorem pre_sameF : ∀ (ps : List (Nat × Nat)) (s : List Gat × Nat), s.1 <+: (ps.foldl sameStep s).1
  | [], _ => List.prefix_rfl
  | q :: r, s => by
    rw [List.foldl_cons]
    refine List.IsPrefix.trans ?_ (pre_sameF r (sameStep s q))
    unfold sameStep
    exact ((List.prefix_append _ _).trans (List.prefix_append _ _)).trans (List.prefix_append _ _)
theorem pre_sameSt (G : List Gat) (ps : List (Nat × Nat)) : G <+: (sameSt G ps).1 := by unfold sameSt; exact (List.prefix_append G (conL 1)).trans (pre_sameF ps (G ++ conL 1, G.length))
theorem pre_minus (G : List Gat) (vs ws : List Nat) : G <+: (minusSt G vs ws).1 := ((pre_turnSt G ws).trans (List.prefix_append _ _)).trans (pre_addSt _ _ _)
theorem fixed_rowF (B p : Nat) (hp : 1 < p) (sl : List Slo) (G : List Gat) (xs : List Exi) (v1 v2 v3 : Value) (k : Nat) (hk : k < 2) (w W : World) (v : Value) (hF : Fr B v2 v w W) (hI : IsB B p sl G xs v1 v v3 W) (G0 : List Gat) (K : Nat) (hG : G0 <+: G) (hK : G.length + 1 ≤ G0.length + K) :
    Calls Tryz.prog 120 #[.agg #[.pointer (some ⟨B, 0, none⟩)], .int .u64 ((k : Nat) : Int)] W fun e W' => (e = .returned (.int .i64 ((G.length : Nat) : Int)) ∧ ∃ v', IsB B p sl (G ++ conL k) xs v1 v' v3 W' ∧ Fr B v2 v' w W' ∧ ∀ (base m : Nat) (vo : Value) (cs : List Value), B < base → W.ownsRow base 3 1 vo m cs → W'.ownsRow base 3 1 vo m cs) ∨ Full K B p sl G0 xs v1 v2 v3 w e W' :=
  any_mono (fixed_any B p (by omega) sl G xs v1 v v3 k (by omega) W hI) (fun _ _ he => by
    obtain ⟨e1, v', h1, h2⟩ := he
    exact ⟨e1, v', h1, hF.trans h2, fun base m vo cs hb ho => h2.own_int hI.h2 ho hb⟩) hF hG hK
theorem fixed_row0 (B p : Nat) (hp : 1 < p) (sl : List Slo) (G : List Gat) (xs : List Exi) (v1 v2 v3 : Value) (k : Nat) (hk : k < 2) (w W : World) (hb : Below w.heap.size w W) (h : IsB B p sl G xs v1 v2 v3 w) (K : Nat) (hK : 1 ≤ K) :
    Calls Tryz.prog 120 #[.agg #[.pointer (some ⟨B, 0, none⟩)], .int .u64 ((k : Nat) : Int)] W fun e W' => (e = .returned (.int .i64 ((G.length : Nat) : Int)) ∧ ∃ v', IsB B p sl (G ++ conL k) xs v1 v' v3 W' ∧ Fr B v2 v' w W') ∨ Full K B p sl G xs v1 v2 v3 w e W' :=
  (fixed_rowF B p hp sl G xs v1 v2 v3 k hk w W v2 (Fr.of_below hb) (h.below hb) G K List.prefix_rfl (by omega)).mono fun _ _ he => by
    rcases he with ⟨e1, v', h1, h2, _⟩ | he
    · exact .inl ⟨e1, v', h1, h2⟩
    · exact .inr he
set_option maxHeartbeats 2000000 in
set_option maxRecDepth 100000 in
theorem turned_any (B p : Nat) (hp : 1 < p) (sl : List Slo) (G : List Gat) (xs : List Exi) (v1 v2 v3 : Value) (ws : List Nat) (WA : Option Addr) (wc n : Nat) (hn : ws.length = n) (hl : n ≤ 65536) (hws : ∀ x ∈ ws, x < G.length) (w : World) (h : IsB B p sl G xs v1 v2 v3 w) (hW : ∀ W v, Fr B v2 v w W → Reads W WA (nCells ws)) :
    Calls Tryz.prog 91 #[.iface 126 (.agg #[.pointer (some ⟨B, 0, none⟩)]), .slice WA n wc] w fun e W' => (∃ v vo, e = .returned vo ∧ IsB B p sl (turnSt G ws).1 xs v1 v v3 W' ∧ Fr B v2 v w W' ∧ W'.ownsRow w.heap.size 3 1 vo n (nCells (turnSt G ws).2)) ∨ Full (2 * n) B p sl G xs v1 v2 v3 w e W' := by
  subst hn
  have HL := Lib.hid (turnSt_len G ws)
  have HS := Lib.hid (turnSt_succ G ws)
  have HWS := Lib.hid hws; have HW := Lib.hid hW; have HB := Lib.hid h; have HLT := Lib.hid h.lt; have HP := Lib.hid hp
  have HPR := Lib.hid (fun k => pre_turnSt G (ws.take k))
  have HH : Hid (turnSt G (ws.take 0) = (G, [])) := Lib.hid rfl
  clear hws hW h hp
  go_enter Tryz.func91, Tryz.ntmps91
  go_wp2
  go_loopg [5, 10] ws.length (fun g o' i' wr => ∃ (k : Nat) (Gk : List Gat) (ok : List Nat) (vo vk : Value), k ≤ ws.length ∧ g = ws.length - k ∧ o' = vo ∧ i' = .int .i64 k ∧ Hid (turnSt G (ws.take k) = (Gk, ok)) ∧ wr.ownsRow w.heap.size 3 1 vo k (nCells ok) ∧ IsB B p sl Gk xs v1 vk v3 wr ∧ Fr B v2 vk w wr)
  case atStart => exact ⟨0, G, [], .slice none 0 0, v2, Nat.zero_le _, rfl, rfl, rfl, HH, World.ownsRow_nil _ _ _ _, HB.out, Fr.refl _ _ _⟩
  case round =>
    obtain ⟨k, Gk, ok, vo, vk, hk, rfl, rfl, rfl, hst, hown, hIk, hFk⟩ := hrel
    have HO0 := Lib.hid hown; have HI0 := Lib.hid hIk; have HF0 := Lib.hid hFk
    clear hown hIk hFk
    by_cases hlt : k < ws.length
    · obtain ⟨wad, hwa, q1⟩ := (HW.out _ _ HF0.out).nat k hlt
      have hsu := HS.out k hlt
      have hL := HL.out k (by omega)
      rw [hst.out] at hsu hL
      simp only at hL
      have hbv := HWS.out _ (List.getElem_mem hlt)
      have hpr := HPR.out k
      rw [hst.out] at hpr
      simp only at hpr
      generalize ws[k] = b at *
      have HN : Hid (Calls Tryz.prog 65 #[.iface 126 (.agg #[.pointer (some ⟨B, 0, none⟩)]), .int .i64 ((b : Nat) : Int)] wr fun e W' => (e = .returned (.int .i64 ((Gk.length + 1 : Nat) : Int)) ∧ ∃ v', IsB B p sl (Gk ++ notL Gk.length b) xs v1 v' v3 W' ∧ Fr B v2 v' w W' ∧ W'.ownsRow w.heap.size 3 1 u5 k (nCells ok)) ∨ Full (2 * ws.length) B p sl G xs v1 v2 v3 w e W') :=
        Lib.hid <| any_mono (not_any B p HP.out sl Gk xs v1 vk v3 b (by omega) wr HI0.out) (fun _ _ he => OkPost.row he HF0.out HI0.out HO0.out HLT.out) HF0.out hpr (by omega)
      have HSU : Hid (turnSt G (ws.take (k + 1)) = (Gk ++ notL Gk.length b, ok ++ [Gk.length + 1])) := Lib.hid hsu
      clear hsu hL hbv hpr
      subst hwa
      have i1 : (0 : Int) ≤ (k : Int) := by omega
      have i2 : (k : Int) < (ws.length : Int) := by omega
      go_wp2_with (first | (go_at_call 65; refine HN.out.mono ?_; intro e w1 he; rcases he with ⟨rfl, x1, hI, hF, hO⟩ | ⟨hk, rfl, he⟩; rotate_left; exact ⟨rfl, .inr ⟨hk, rfl, he⟩⟩; have HI1 := Lib.hid hI; have HF1 := Lib.hid hF; have HO1 := Lib.hid hO; clear hI hF hO) | (at_builtin; refine list_append_own (W0 := w1) (below_snoc (Below.refl _ _) _) w.heap.size rfl _ _ 38 3 _ 8 rfl Tryz.underlying38 infoInt rfl (by decide) u5 k _ (.int .i64 ((Gk.length + 1 : Nat) : Int)) rfl _ rfl (by simp) rfl HO1.out (by have h5 := HF1.out.size; omega) (by omega) ?_; intro v9 w9 hown9 hg9; have HO9 := Lib.hid hown9; have HI9 := Lib.hid (HI1.out.grown HB.out HO1.out (Nat.le_refl _) hg9); have HF9 := Lib.hid (HF1.out.grown HO1.out (Nat.le_refl _) hg9); clear hown9 hg9))
      go_roundg (ws.length - (k + 1))
      case measure => omega
      case rel => exact ⟨k + 1, _, ok ++ [Gk.length + 1], _, _, by omega, rfl, rfl, by go_num, HSU, by rw [nCells_snoc]; exact HO9.out, HI9.out, HF9.out⟩
    · obtain rfl : k = ws.length := by omega
      have hst' := hst.out
      rw [List.take_length] at hst'
      have HST := Lib.hid hst'
      clear hst'
      go_wp2
      go_ret
      refine .inl ⟨vk, _, rfl, ?_, HF0.out, ?_⟩
      · rw [HST.out]; exact HI0.out
      · rw [HST.out]; exact HO0.out
set_option maxHeartbeats 2000000 in
set_option maxRecDepth 100000 in
theorem plus_any (B p : Nat) (hp : 1 < p) (sl : List Slo) (G : List Gat) (xs : List Exi) (v1 v2 v3 : Value) (vs ws : List Nat) (VA WA : Option Addr) (vc wc : Nat) (hlen : ws.length = vs.length) (hl : vs.length ≤ 65536) (hvs : ∀ x ∈ vs, x < G.length) (hws : ∀ x ∈ ws, x < G.length) (w : World) (h : IsB B p sl G xs v1 v2 v3 w) (hV : ∀ W v, Fr B v2 v w W → Reads W VA (nCells vs)) (hW : ∀ W v, Fr B v2 v w W → Reads W WA (nCells ws)) :
    Calls Tryz.prog 48 #[.iface 126 (.agg #[.pointer (some ⟨B, 0, none⟩)]), .slice VA vs.length vc, .slice WA vs.length wc] w (fun e W' => (∃ v vo, e = .returned vo ∧ IsB B p sl (plusSt G vs ws).1 xs v1 v v3 W' ∧ Fr B v2 v w W' ∧ W'.ownsRow w.heap.size 3 1 vo vs.length (nCells (plusSt G vs ws).2.1)) ∨ Full (1 + 9 * vs.length) B p sl G xs v1 v2 v3 w e W') := by
  have mFixed := fun W => mFixed B W
  simp only [Nat.reduceAdd] at mFixed
  have HX : Hid (∀ W, Below w.heap.size w W → Calls Tryz.prog 120 #[.agg #[.pointer (some ⟨B, 0, none⟩)], .int .u64 0] W fun e W' => (e = .returned (.int .i64 ((G.length : Nat) : Int)) ∧ ∃ v', IsB B p sl (G ++ conL 0) xs v1 v' v3 W' ∧ Fr B v2 v' w W') ∨ Full (1 + 9 * vs.length) B p sl G xs v1 v2 v3 w e W') :=
    Lib.hid fun W hb => fixed_row0 B p hp sl G xs v1 v2 v3 0 (by omega) w W hb h _ (by omega)
  have HA : Hid (∀ W v, IsB B p sl (G ++ conL 0) xs v1 v v3 W → Fr B v2 v w W → Calls Tryz.prog 90 #[.iface 126 (.agg #[.pointer (some ⟨B, 0, none⟩)]), .slice VA vs.length vc, .slice WA vs.length wc, .int .i64 ((G.length : Nat) : Int)] W fun e W' => (∃ v' vo, e = .returned (.tuple #[vo, .int .i64 (((plusSt G vs ws).2.2 : Nat) : Int)]) ∧ IsB B p sl (plusSt G vs ws).1 xs v1 v' v3 W' ∧ Fr B v2 v' w W' ∧ W'.ownsRow w.heap.size 3 1 vo vs.length (nCells (plusSt G vs ws).2.1)) ∨ Full (1 + 9 * vs.length) B p sl G xs v1 v2 v3 w e W') :=
    Lib.hid fun W v hI hF => any_mono (add_any B p hp sl (G ++ conL 0) xs v1 v v3 vs ws VA WA vc wc G.length hlen hl (by simp [conL]) (fun x hx => by have := hvs x hx; simp [conL]; omega) (fun x hx => by have := hws x hx; simp [conL]; omega) W hI (fun W' v' hf' => hV W' v' (hF.trans hf')) (fun W' v' hf' => hW W' v' (hF.trans hf'))) (fun _ _ he => by
      obtain ⟨v', vo, e1, h1, h2, h3⟩ := he
      exact ⟨v', vo, e1, h1, hF.trans h2, own_lower h3 hF.size⟩) hF (List.prefix_append _ _) (by simp [conL]; omega)
  clear hvs hws hV hW h hp hlen
  go_enter Tryz.func48, Tryz.ntmps48
  go_wp2_with (first | (go_at_call 120; refine (HX.out _ (Below.refl _ _)).mono ?_; intro e w1 he; rcases he with ⟨rfl, x1, hI, hF⟩ | ⟨hk, rfl, he⟩; rotate_left; exact ⟨rfl, .inr ⟨hk, rfl, he⟩⟩; have HI1 := Lib.hid hI; have HF1 := Lib.hid hF; clear hI hF) | (go_at_call 90; refine (HA.out _ _ HI1.out HF1.out).mono ?_; intro e w2 he; rcases he with ⟨x2, vo, rfl, he⟩ | ⟨hk, rfl, he⟩; rotate_left; exact ⟨rfl, .inr ⟨hk, rfl, he⟩⟩; have HE := Lib.hid he; clear he))
  go_ret
  exact .inl ⟨_, vo, rfl, HE.out⟩
set_option maxHeartbeats 2000000 in
set_option maxRecDepth 100000 in
theorem minus_any (B p : Nat) (hp : 1 < p) (sl : List Slo) (G : List Gat) (xs : List Exi) (v1 v2 v3 : Value) (vs ws : List Nat) (VA WA : Option Addr) (vc wc : Nat) (hlen : ws.length = vs.length) (hl : vs.length ≤ 65536) (hvs : ∀ x ∈ vs, x < G.length) (hws : ∀ x ∈ ws, x < G.length) (w : World) (h : IsB B p sl G xs v1 v2 v3 w) (hV : ∀ W v, Fr B v2 v w W → Reads W VA (nCells vs)) (hW : ∀ W v, Fr B v2 v w W → Reads W WA (nCells ws)) :
    Calls Tryz.prog 50 #[.iface 126 (.agg #[.pointer (some ⟨B, 0, none⟩)]), .slice VA vs.length vc, .slice WA vs.length wc] w (fun e W' => (∃ v vo, e = .returned vo ∧ IsB B p sl (minusSt G vs ws).1 xs v1 v v3 W' ∧ Fr B v2 v w W' ∧ W'.ownsRow w.heap.size 3 1 vo vs.length (nCells (minusSt G vs ws).2.1)) ∨ Full (1 + 11 * vs.length) B p sl G xs v1 v2 v3 w e W') := by
  have mFixed := fun W => mFixed B W
  simp only [Nat.reduceAdd] at mFixed
  obtain ⟨tl1, tl2, tl3⟩ := turnSt_all G ws
  have HT : Hid (∀ W, Below w.heap.size w W → Calls Tryz.prog 91 #[.iface 126 (.agg #[.pointer (some ⟨B, 0, none⟩)]), .slice WA vs.length wc] W fun e W' => (∃ vo, e = .returned vo ∧ ∃ v', IsB B p sl (turnSt G ws).1 xs v1 v' v3 W' ∧ Fr B v2 v' w W' ∧ W'.ownsRow w.heap.size 3 1 vo vs.length (nCells (turnSt G ws).2)) ∨ Full (1 + 11 * vs.length) B p sl G xs v1 v2 v3 w e W') :=
    Lib.hid fun W hb => any_mono (turned_any B p hp sl G xs v1 v2 v3 ws WA wc vs.length hlen hl hws W (h.below hb) (fun W' v' hf' => hW W' v' ((Fr.of_below hb).trans hf'))) (fun _ _ he => by
      obtain ⟨v', vo, e1, h1, h2, h3⟩ := he
      exact ⟨vo, e1, v', h1, (Fr.of_below hb).trans h2, own_lower h3 hb.size⟩) (Fr.of_below hb) List.prefix_rfl (by omega)
  have HX : Hid (∀ W v, IsB B p sl (turnSt G ws).1 xs v1 v v3 W → Fr B v2 v w W → Calls Tryz.prog 120 #[.agg #[.pointer (some ⟨B, 0, none⟩)], .int .u64 1] W fun e W' => (e = .returned (.int .i64 (((turnSt G ws).1.length : Nat) : Int)) ∧ ∃ v', IsB B p sl ((turnSt G ws).1 ++ conL 1) xs v1 v' v3 W' ∧ Fr B v2 v' w W' ∧ ∀ (base m : Nat) (vo : Value) (cs : List Value), B < base → W.ownsRow base 3 1 vo m cs → W'.ownsRow base 3 1 vo m cs) ∨ Full (1 + 11 * vs.length) B p sl G xs v1 v2 v3 w e W') :=
    Lib.hid fun W v hI hF => fixed_rowF B p hp sl _ xs v1 v2 v3 1 (by omega) w W v hF hI G _ (pre_turnSt G ws) (by omega)
  have HA : Hid (∀ W v TA tc, IsB B p sl ((turnSt G ws).1 ++ conL 1) xs v1 v v3 W → Fr B v2 v w W → W.ownsRow w.heap.size 3 1 (.slice TA vs.length tc) vs.length (nCells (turnSt G ws).2) → Calls Tryz.prog 90 #[.iface 126 (.agg #[.pointer (some ⟨B, 0, none⟩)]), .slice VA vs.length vc, .slice TA vs.length tc, .int .i64 (((turnSt G ws).1.length : Nat) : Int)] W fun e W' => (∃ v' vo, e = .returned (.tuple #[vo, .int .i64 (((minusSt G vs ws).2.2 : Nat) : Int)]) ∧ IsB B p sl (minusSt G vs ws).1 xs v1 v' v3 W' ∧ Fr B v2 v' w W' ∧ W'.ownsRow w.heap.size 3 1 vo vs.length (nCells (minusSt G vs ws).2.1)) ∨ Full (1 + 11 * vs.length) B p sl G xs v1 v2 v3 w e W') :=
    Lib.hid fun W v TA tc hI hF hO => any_mono (add_any B p hp sl _ xs v1 v v3 vs (turnSt G ws).2 VA TA vc tc (turnSt G ws).1.length (by omega) hl (by simp [conL]) (fun x hx => by have := hvs x hx; simp [conL]; omega) (fun x hx => by have := tl3 x hx; simp [conL]; omega) W hI (fun W' v' hf' => hV W' v' (hF.trans hf')) (own_keep hI h.lt hO)) (fun _ _ he => by
      obtain ⟨v', vo, e1, h1, h2, h3⟩ := he
      exact ⟨v', vo, e1, h1, hF.trans h2, own_lower h3 hF.size⟩) hF ((pre_turnSt G ws).trans (List.prefix_append _ _)) (by simp [conL]; omega)
  have HLT := Lib.hid h.lt
  clear hvs hws hV hW h hp hlen tl1 tl2 tl3
  go_enter Tryz.func50, Tryz.ntmps50
  go_wp2_with (first | (go_at_call 91; refine (HT.out _ (Below.refl _ _)).mono ?_; intro e w1 he; rcases he with ⟨vt, rfl, x1, hI, hF, hO⟩ | ⟨hk, rfl, he⟩; rotate_left; exact ⟨rfl, .inr ⟨hk, rfl, he⟩⟩; obtain ⟨TA, tc, rfl, _⟩ := own_nat hO; have HI1 := Lib.hid hI; have HF1 := Lib.hid hF; have HO1 := Lib.hid hO; clear hI hF hO) | (go_at_call 120; refine (HX.out _ _ HI1.out HF1.out).mono ?_; intro e w2 he; rcases he with ⟨rfl, x2, hI, hF, hO⟩ | ⟨hk, rfl, he⟩; rotate_left; exact ⟨rfl, .inr ⟨hk, rfl, he⟩⟩; have HI2 := Lib.hid hI; have HF2 := Lib.hid hF; have HO2 := Lib.hid (hO _ _ _ _ HLT.out HO1.out); clear hI hF hO) | (go_at_call 90; refine (HA.out _ _ _ _ HI2.out HF2.out HO2.out).mono ?_; intro e w3 he; rcases he with ⟨x3, vo, rfl, he⟩ | ⟨hk, rfl, he⟩; rotate_left; exact ⟨rfl, .inr ⟨hk, rfl, he⟩⟩; have HE := Lib.hid he; clear he))
  go_ret
  exact .inl ⟨_, vo, rfl, HE.out⟩
set_option maxHeartbeats 2000000 in
set_option maxRecDepth 100000 in
theorem below_any (B p : Nat) (hp : 1 < p) (sl : List Slo) (G : List Gat) (xs : List Exi) (v1 v2 v3 : Value) (vs ws : List Nat) (VA WA : Option Addr) (vc wc : Nat) (hlen : ws.length = vs.length) (hl : vs.length ≤ 65536) (hvs : ∀ x ∈ vs, x < G.length) (hws : ∀ x ∈ ws, x < G.length) (w : World) (h : IsB B p sl G xs v1 v2 v3 w) (hV : ∀ W v, Fr B v2 v w W → Reads W VA (nCells vs)) (hW : ∀ W v, Fr B v2 v w W → Reads W WA (nCells ws)) :
    Calls Tryz.prog 55 #[.iface 126 (.agg #[.pointer (some ⟨B, 0, none⟩)]), .slice VA vs.length vc, .slice WA vs.length wc] w (fun e W' => (∃ v, e = .returned (.int .i64 (((belowSt G vs ws).2 : Nat) : Int)) ∧ IsB B p sl (belowSt G vs ws).1 xs v1 v v3 W' ∧ Fr B v2 v w W') ∨ Full (3 + 11 * vs.length) B p sl G xs v1 v2 v3 w e W') := by
  have mFixed := fun W => mFixed B W
  simp only [Nat.reduceAdd] at mFixed
  obtain ⟨tl1, tl2, tl3⟩ := turnSt_all G ws
  have HT : Hid (∀ W, Below w.heap.size w W → Calls Tryz.prog 91 #[.iface 126 (.agg #[.pointer (some ⟨B, 0, none⟩)]), .slice WA vs.length wc] W fun e W' => (∃ vo, e = .returned vo ∧ ∃ v', IsB B p sl (turnSt G ws).1 xs v1 v' v3 W' ∧ Fr B v2 v' w W' ∧ W'.ownsRow w.heap.size 3 1 vo vs.length (nCells (turnSt G ws).2)) ∨ Full (3 + 11 * vs.length) B p sl G xs v1 v2 v3 w e W') :=
    Lib.hid fun W hb => any_mono (turned_any B p hp sl G xs v1 v2 v3 ws WA wc vs.length hlen hl hws W (h.below hb) (fun W' v' hf' => hW W' v' ((Fr.of_below hb).trans hf'))) (fun _ _ he => by
      obtain ⟨v', vo, e1, h1, h2, h3⟩ := he
      exact ⟨vo, e1, v', h1, (Fr.of_below hb).trans h2, own_lower h3 hb.size⟩) (Fr.of_below hb) List.prefix_rfl (by omega)
  have HX : Hid (∀ W v, IsB B p sl (turnSt G ws).1 xs v1 v v3 W → Fr B v2 v w W → Calls Tryz.prog 120 #[.agg #[.pointer (some ⟨B, 0, none⟩)], .int .u64 1] W fun e W' => (e = .returned (.int .i64 (((turnSt G ws).1.length : Nat) : Int)) ∧ ∃ v', IsB B p sl ((turnSt G ws).1 ++ conL 1) xs v1 v' v3 W' ∧ Fr B v2 v' w W' ∧ ∀ (base m : Nat) (vo : Value) (cs : List Value), B < base → W.ownsRow base 3 1 vo m cs → W'.ownsRow base 3 1 vo m cs) ∨ Full (3 + 11 * vs.length) B p sl G xs v1 v2 v3 w e W') :=
    Lib.hid fun W v hI hF => fixed_rowF B p hp sl _ xs v1 v2 v3 1 (by omega) w W v hF hI G _ (pre_turnSt G ws) (by omega)
  have HA : Hid (∀ W v TA tc, IsB B p sl ((turnSt G ws).1 ++ conL 1) xs v1 v v3 W → Fr B v2 v w W → W.ownsRow w.heap.size 3 1 (.slice TA vs.length tc) vs.length (nCells (turnSt G ws).2) → Calls Tryz.prog 90 #[.iface 126 (.agg #[.pointer (some ⟨B, 0, none⟩)]), .slice VA vs.length vc, .slice TA vs.length tc, .int .i64 (((turnSt G ws).1.length : Nat) : Int)] W fun e W' => (∃ v' vo, e = .returned (.tuple #[vo, .int .i64 (((minusSt G vs ws).2.2 : Nat) : Int)]) ∧ IsB B p sl (minusSt G vs ws).1 xs v1 v' v3 W' ∧ Fr B v2 v' w W' ∧ W'.ownsRow w.heap.size 3 1 vo vs.length (nCells (minusSt G vs ws).2.1)) ∨ Full (3 + 11 * vs.length) B p sl G xs v1 v2 v3 w e W') :=
    Lib.hid fun W v TA tc hI hF hO => any_mono (add_any B p hp sl _ xs v1 v v3 vs (turnSt G ws).2 VA TA vc tc (turnSt G ws).1.length (by omega) hl (by simp [conL]) (fun x hx => by have := hvs x hx; simp [conL]; omega) (fun x hx => by have := tl3 x hx; simp [conL]; omega) W hI (fun W' v' hf' => hV W' v' (hF.trans hf')) (own_keep hI h.lt hO)) (fun _ _ he => by
      obtain ⟨v', vo, e1, h1, h2, h3⟩ := he
      exact ⟨v', vo, e1, h1, hF.trans h2, own_lower h3 hF.size⟩) hF ((pre_turnSt G ws).trans (List.prefix_append _ _)) (by simp [conL]; omega)
  have hml := (addSt_len ((turnSt G ws).1 ++ conL 1) (turnSt G ws).1.length (vs.zip (turnSt G ws).2) (by simp [conL])) (vs.zip (turnSt G ws).2).length (Nat.le_refl _)
  rw [List.take_length] at hml
  obtain ⟨ml1, ml2, ml3⟩ := hml
  have hzl : (vs.zip (turnSt G ws).2).length = vs.length := by rw [List.length_zip]; omega
  have HN : Hid (∀ W v, IsB B p sl (minusSt G vs ws).1 xs v1 v v3 W → Fr B v2 v w W → Calls Tryz.prog 65 #[.iface 126 (.agg #[.pointer (some ⟨B, 0, none⟩)]), .int .i64 (((minusSt G vs ws).2.2 : Nat) : Int)] W fun e W' => (e = .returned (.int .i64 (((belowSt G vs ws).2 : Nat) : Int)) ∧ ∃ v', IsB B p sl (belowSt G vs ws).1 xs v1 v' v3 W' ∧ Fr B v2 v' w W') ∨ Full (3 + 11 * vs.length) B p sl G xs v1 v2 v3 w e W') :=
    Lib.hid fun W v hI hF => any_mono (not_any B p hp sl _ xs v1 v v3 (minusSt G vs ws).2.2 ml3 W hI) (fun _ _ he => he.chain hF) hF (pre_minus G vs ws) (by rw [ml1, hzl]; simp [conL]; omega)
  clear ml1 ml2 ml3 hzl
  have HLT := Lib.hid h.lt
  clear hvs hws hV hW h hp hlen tl1 tl2 tl3
  go_enter Tryz.func55, Tryz.ntmps55
  go_wp2_with (first | (go_at_call 91; refine (HT.out _ (Below.refl _ _)).mono ?_; intro e w1 he; rcases he with ⟨vt, rfl, x1, hI, hF, hO⟩ | ⟨hk, rfl, he⟩; rotate_left; exact ⟨rfl, .inr ⟨hk, rfl, he⟩⟩; obtain ⟨TA, tc, rfl, _⟩ := own_nat hO; have HI1 := Lib.hid hI; have HF1 := Lib.hid hF; have HO1 := Lib.hid hO; clear hI hF hO) | (go_at_call 120; refine (HX.out _ _ HI1.out HF1.out).mono ?_; intro e w2 he; rcases he with ⟨rfl, x2, hI, hF, hO⟩ | ⟨hk, rfl, he⟩; rotate_left; exact ⟨rfl, .inr ⟨hk, rfl, he⟩⟩; have HI2 := Lib.hid hI; have HF2 := Lib.hid hF; have HO2 := Lib.hid (hO _ _ _ _ HLT.out HO1.out); clear hI hF hO) | (go_at_call 90; refine (HA.out _ _ _ _ HI2.out HF2.out HO2.out).mono ?_; intro e w3 he; rcases he with ⟨x3, vo, rfl, he⟩ | ⟨hk, rfl, he⟩; rotate_left; exact ⟨rfl, .inr ⟨hk, rfl, he⟩⟩; have HE := Lib.hid he; clear he) | (go_at_call 65; refine (HN.out _ _ HE.out.1 HE.out.2.1).mono ?_; intro e w4 he; rcases he with ⟨rfl, he4⟩ | ⟨hk, rfl, he⟩; rotate_left; exact ⟨rfl, .inr ⟨hk, rfl, he⟩⟩; have HE4 := Lib.hid he4; clear he4))
  go_ret
  obtain ⟨x4, h1, h2⟩ := HE4.out
  exact .inl ⟨x4, rfl, h1, h2⟩
set_option maxHeartbeats 4000000 in
set_option maxRecDepth 100000 in
theorem same_any (B p : Nat) (hp : 1 < p) (sl : List Slo) (G : List Gat) (xs : List Exi) (v1 v2 v3 : Value) (vs ws : List Nat) (VA WA : Option Addr) (vc wc : Nat) (hlen : ws.length = vs.length) (hl : vs.length ≤ 65536) (hvs : ∀ x ∈ vs, x < G.length) (hws : ∀ x ∈ ws, x < G.length) (w : World) (h : IsB B p sl G xs v1 v2 v3 w) (hV : ∀ W v, Fr B v2 v w W → Reads W VA (nCells vs)) (hW : ∀ W v, Fr B v2 v w W → Reads W WA (nCells ws)) :
    Calls Tryz.prog 77 #[.iface 126 (.agg #[.pointer (some ⟨B, 0, none⟩)]), .slice VA vs.length vc, .slice WA vs.length wc] w fun e W' => (∃ v, e = .returned (.int .i64 (((sameSt G (vs.zip ws)).2 : Nat) : Int)) ∧ IsB B p sl (sameSt G (vs.zip ws)).1 xs v1 v v3 W' ∧ Fr B v2 v w W') ∨ Full (1 + 7 * vs.length) B p sl G xs v1 v2 v3 w e W' := by
  have mFixed := fun W => mFixed B W
  have mProduct := fun W => mProduct B W
  have nProduct := fun W => nProduct B W
  simp only [Nat.reduceAdd] at mFixed mProduct nProduct
  have hzl : (vs.zip ws).length = vs.length := by rw [List.length_zip, hlen]; omega
  have HL := Lib.hid (sameSt_len G (vs.zip ws))
  have HS := Lib.hid (sameSt_succ G (vs.zip ws))
  have HVS := Lib.hid hvs; have HWS := Lib.hid hws; have HV := Lib.hid hV; have HW := Lib.hid hW; have HB := Lib.hid h; have HLT := Lib.hid h.lt; have HP := Lib.hid hp
  have HZ := Lib.hid hzl
  have HE := Lib.hid hlen
  have HPR := Lib.hid (fun k => pre_sameSt G ((vs.zip ws).take k))
  have HH : Hid (sameSt G ((vs.zip ws).take 0) = (G ++ conL 1, G.length)) := Lib.hid rfl
  have HX : Hid (∀ W, Below w.heap.size w W → Calls Tryz.prog 120 #[.agg #[.pointer (some ⟨B, 0, none⟩)], .int .u64 1] W fun e W' => (e = .returned (.int .i64 ((G.length : Nat) : Int)) ∧ ∃ v', IsB B p sl (G ++ conL 1) xs v1 v' v3 W' ∧ Fr B v2 v' w W') ∨ Full (1 + 7 * vs.length) B p sl G xs v1 v2 v3 w e W') :=
    Lib.hid fun W hb => fixed_row0 B p hp sl G xs v1 v2 v3 1 (by omega) w W hb h _ (by omega)
  clear hvs hws hV hW h hp hzl hlen
  go_enter Tryz.func77, Tryz.ntmps77
  go_wp2_with (go_at_call 120; refine (HX.out _ (Below.refl _ _)).mono ?_; intro e w1 he; rcases he with ⟨rfl, x1, hI, hF⟩ | ⟨hk, rfl, he⟩; rotate_left; exact ⟨rfl, .inr ⟨hk, rfl, he⟩⟩; have HI1 := Lib.hid hI; have HF1 := Lib.hid hF; clear hI hF)
  go_loopg [7, 14] vs.length (fun g a' i' wr => ∃ (k : Nat) (Gk : List Gat) (ak : Nat) (vk : Value), k ≤ vs.length ∧ g = vs.length - k ∧ a' = .int .i64 ((ak : Nat) : Int) ∧ i' = .int .i64 k ∧ Hid (sameSt G ((vs.zip ws).take k) = (Gk, ak)) ∧ IsB B p sl Gk xs v1 vk v3 wr ∧ Fr B v2 vk w wr)
  case atStart => exact ⟨0, G ++ conL 1, G.length, x1, Nat.zero_le _, rfl, rfl, rfl, HH, HI1.out, HF1.out⟩
  case round =>
    clear HI1 HF1
    obtain ⟨k, Gk, ak, vk, hk, rfl, rfl, rfl, hst, hIk, hFk⟩ := hrel
    have HI0 := Lib.hid hIk; have HF0 := Lib.hid hFk
    clear hIk hFk
    by_cases hlt : k < vs.length
    · have hlz : k < (vs.zip ws).length := by rw [HZ.out]; exact hlt
      have hlw : k < ws.length := by have := HE.out; omega
      obtain ⟨vad, hva, q0⟩ := (HV.out _ _ HF0.out).nat k hlt
      obtain ⟨wad, hwa, q1⟩ := (HW.out _ _ HF0.out).nat k hlw
      have hcell : Hid (∀ W v, Fr B v2 v w W → W.cell? (wad.add k) = some (.int .i64 ((ws[k] : Nat) : Int))) := Lib.hid fun W v hF => by
        obtain ⟨wad', e1, e2⟩ := (HW.out _ _ hF).nat k hlw
        rw [hwa] at e1
        injection e1 with e1
        rw [e1]; exact e2
      have hsu := HS.out k hlz
      have hL := HL.out k (by omega)
      rw [hst.out] at hsu hL
      simp only at hL
      obtain ⟨hL1, hL2⟩ := hL
      have hav := HVS.out _ (List.getElem_mem hlt)
      have hbv := HWS.out _ (List.getElem_mem hlw)
      have hp := HP.out
      rw [List.getElem_zip] at hsu
      have hpr := HPR.out k
      rw [hst.out] at hpr
      simp only at hpr
      generalize vs[k] = a at *
      generalize ws[k] = b at *
      have h1 : Hid (∀ W0 W v, IsB B p sl Gk xs v1 v v3 W0 → Fr B v2 v w W0 → Below W0.heap.size W0 W → Calls Tryz.prog 71 #[.iface 126 (.agg #[.pointer (some ⟨B, 0, none⟩)]), .int .i64 ((a : Nat) : Int), .int .i64 ((b : Nat) : Int)] W fun e W' => (e = .returned (.int .i64 ((Gk.length + 3 : Nat) : Int)) ∧ ∃ v', IsB B p sl (Gk ++ xorL Gk.length a b) xs v1 v' v3 W' ∧ Fr B v2 v' w W') ∨ Full (1 + 7 * vs.length) B p sl G xs v1 v2 v3 w e W') :=
        Lib.hid fun W0 W v hI hF hB => any_mono (xor_any B p hp sl Gk xs v1 v v3 a b (by omega) (by omega) W (hI.below hB)) (fun _ _ he => OkPost.chain (hF.below hB) he) (hF.below hB) hpr (by omega)
      have hx4 : (Gk ++ xorL Gk.length a b).length = Gk.length + 4 := by simp [xorL]
      have h2 : Hid (∀ W0 W v, IsB B p sl (Gk ++ xorL Gk.length a b) xs v1 v v3 W0 → Fr B v2 v w W0 → Below W0.heap.size W0 W → Calls Tryz.prog 65 #[.iface 126 (.agg #[.pointer (some ⟨B, 0, none⟩)]), .int .i64 ((Gk.length + 3 : Nat) : Int)] W fun e W' => (e = .returned (.int .i64 ((Gk.length + 5 : Nat) : Int)) ∧ ∃ v', IsB B p sl (Gk ++ xorL Gk.length a b ++ notL (Gk.length + 4) (Gk.length + 3)) xs v1 v' v3 W' ∧ Fr B v2 v' w W') ∨ Full (1 + 7 * vs.length) B p sl G xs v1 v2 v3 w e W') :=
        Lib.hid fun W0 W v hI hF hB => any_mono (not_any B p hp sl _ xs v1 v v3 (Gk.length + 3) (by omega) W (hI.below hB)) (fun _ _ he => by have h5 := OkPost.chain (hF.below hB) he; rw [hx4] at h5; exact h5) (hF.below hB) (hpr.trans (List.prefix_append _ _)) (by omega)
      have hx6 : (Gk ++ xorL Gk.length a b ++ notL (Gk.length + 4) (Gk.length + 3)).length = Gk.length + 6 := by simp [xorL, notL]
      have h3 : Hid (∀ W0 W v, IsB B p sl (Gk ++ xorL Gk.length a b ++ notL (Gk.length + 4) (Gk.length + 3)) xs v1 v v3 W0 → Fr B v2 v w W0 → Below W0.heap.size W0 W → Calls Tryz.prog 122 #[.agg #[.pointer (some ⟨B, 0, none⟩)], .int .i64 ((ak : Nat) : Int), .int .i64 ((Gk.length + 5 : Nat) : Int)] W fun e W' => (e = .returned (.int .i64 ((Gk.length + 6 : Nat) : Int)) ∧ ∃ v', IsB B p sl (Gk ++ xorL Gk.length a b ++ notL (Gk.length + 4) (Gk.length + 3) ++ [((5, ((ak : Nat) : Int), ((Gk.length + 5 : Nat) : Int), 0) : Gat)]) xs v1 v' v3 W' ∧ Fr B v2 v' w W') ∨ Full (1 + 7 * vs.length) B p sl G xs v1 v2 v3 w e W') :=
        Lib.hid fun W0 W v hI hF hB => any_mono (product_any B p (by omega) sl _ xs v1 v v3 ak (Gk.length + 5) (by omega) (by omega) W (hI.below hB)) (fun _ _ he => by have h5 := OkPost.chain (hF.below hB) he; rw [hx6] at h5; exact h5) (hF.below hB) ((hpr.trans (List.prefix_append _ _)).trans (List.prefix_append _ _)) (by omega)
      have HSU : Hid (sameSt G ((vs.zip ws).take (k + 1)) = (Gk ++ xorL Gk.length a b ++ notL (Gk.length + 4) (Gk.length + 3) ++ [((5, ((ak : Nat) : Int), ((Gk.length + 5 : Nat) : Int), 0) : Gat)], Gk.length + 6)) := Lib.hid hsu
      clear hsu hL1 hL2 hav hbv hpr hp hx4 hx6
      generalize Gk ++ xorL Gk.length a b ++ notL (Gk.length + 4) (Gk.length + 3) ++ [((5, ((ak : Nat) : Int), ((Gk.length + 5 : Nat) : Int), 0) : Gat)] = G3 at *
      generalize Gk ++ xorL Gk.length a b ++ notL (Gk.length + 4) (Gk.length + 3) = G2 at *
      generalize Gk ++ xorL Gk.length a b = G1 at *
      subst hva
      subst hwa
      have i1 : (0 : Int) ≤ (k : Int) := by omega
      have i2 : (k : Int) < (vs.length : Int) := by omega
      go_upto_region 5 with fail
      go_region_held2 (fun W => W.cell? (wad.add k) = some (.int .i64 ((b : Nat) : Int))) ((first | exact hcell.out _ _ HF3.out | exact hcell.out _ _ (HF3.out.below (Below.refl _ _).drew) | exact hcell.out _ _ HF2.out | exact hcell.out _ _ (HF2.out.below (Below.refl _ _).drew) | exact hcell.out _ _ HF1.out | exact hcell.out _ _ (HF1.out.below (Below.refl _ _).drew) | exact hcell.out _ _ HF0.out | exact hcell.out _ _ (HF0.out.below (Below.refl _ _).drew))) (first | (go_at_call 71; refine (h1.out _ _ _ HI0.out HF0.out (by repeat (first | exact Below.refl _ _ | refine Below.drew ?_ | refine Below.alloc ?_ (by simp) _))).mono ?_; intro e w1 he; rcases he with ⟨rfl, x1, hI, hF⟩ | ⟨hk, rfl, he⟩; rotate_left; exact ⟨rfl, .inr ⟨hk, rfl, he⟩⟩; have HI1 := Lib.hid hI; have HF1 := Lib.hid hF; clear hI hF) | (go_at_call 65; refine (h2.out _ _ _ HI1.out HF1.out (by repeat (first | exact Below.refl _ _ | refine Below.drew ?_ | refine Below.alloc ?_ (by simp) _))).mono ?_; intro e w2 he; rcases he with ⟨rfl, x2, hI, hF⟩ | ⟨hk, rfl, he⟩; rotate_left; exact ⟨rfl, .inr ⟨hk, rfl, he⟩⟩; have HI2 := Lib.hid hI; have HF2 := Lib.hid hF; clear hI hF) | (go_at_call 122; refine (h3.out _ _ _ HI2.out HF2.out (by repeat (first | exact Below.refl _ _ | refine Below.drew ?_ | refine Below.alloc ?_ (by simp) _))).mono ?_; intro e w3 he; rcases he with ⟨rfl, x3, hI, hF⟩ | ⟨hk, rfl, he⟩; rotate_left; exact ⟨rfl, .inr ⟨hk, rfl, he⟩⟩; have HI3 := Lib.hid hI; have HF3 := Lib.hid hF; clear hI hF))
      all_goals go_wp2
      all_goals go_roundg (vs.length - (k + 1))
      all_goals first
        | omega
        | exact ⟨k + 1, G3, Gk.length + 6, x3, by omega, rfl, rfl, by go_num, HSU, HI3.out, HF3.out⟩
    · obtain rfl : k = vs.length := by omega
      have hst' := hst.out
      rw [List.take_of_length_le (by rw [HZ.out]; exact Nat.le_refl _)] at hst'
      have HST := Lib.hid hst'
      clear hst'
      go_wp2
      go_ret
      refine .inl ⟨vk, ?_, ?_, HF0.out⟩
      · rw [HST.out]; rfl
      · rw [HST.out]; exact HI0.out
end Go.Proofs.YtkcdlbclodjjhaaGreat
