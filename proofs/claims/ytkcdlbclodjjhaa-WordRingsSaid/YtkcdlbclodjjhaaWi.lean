/- Contract of the ring's add over a board, where there is room. (Printed by wip/tools/gen_add.py.) -/
import Derived.Test.YtkcdlbclodjjhaaWh
namespace Go.Proofs.Ytkcdlbclodjjhaa
open Go.RowKit

def nCells (l : List Nat) : List Value := l.map fun (x : Nat) => .int .i64 x
section
variable {P : Program} {ops : Array Oper} {o : Oper} {a : Act} {K : Act → World → Prop} {Q : Exit → Act → World → Prop} {E : Prop}
/-- One element is appended to a row of the call's own, as a step of a region that draws its order. -/
theorem step_append_own {W0 W : World} (hW : Below W0.heap.size W0 W) (base : Nat) (hgd : o.guard = none) (s x : Operand) (t e : TypeId) (z : Value) (bytes : Nat)
    (ho : o.op = .call { callee := .builtin .append, args := #[s, x], argTypes := #[t, t] })
    (ht : P.underlying t = some (.slice e)) (hinfo : (P.info? e).map (fun i => (i.zero, i.size, i.bytes)) = some (some z, 1, bytes)) (hz : z.cells.size = 1) (hb0 : 0 < bytes)
    (v : Value) (n : Nat) (xs : List Value) (y : Value) (hs : a.eval s = v) (g : Nat) (hx : a.eval x = .slice (some ⟨g, 0, none⟩) 1 1) (hc : W.cell? ⟨g, 0, none⟩ = some y) (h1 : y.oneCell' = true)
    (HO : W0.ownsRow base e 1 v n xs) (hbase : base ≤ W0.heap.size) (hl : (n + 1) * bytes ≤ 140737488355328)
    (h : ∀ v1 w1, w1.ownsRow base e 1 v1 (n + 1) (xs ++ [y]) → W0.grownBy w1 v.ownBlock → K (a.put o.dst v1) w1) :
    if Region.wanted o (yielded ops a.tmps) = true then Oper.wp P o a W K Q else E := by
  have hw : Region.wanted o (yielded ops a.tmps) = true := by simp [Region.wanted, hgd]
  rw [if_pos hw]
  obtain ⟨i0, hi, hzz⟩ := Option.map_eq_some_iff.1 hinfo
  simp only [Prod.mk.injEq] at hzz
  obtain ⟨hz0, hz1, hz2⟩ := hzz
  have hlen : n + 1 ≤ 140737488355328 := Nat.le_trans (Nat.le_mul_of_pos_right _ hb0) hl
  have hg0 : W0.grownBy W v.ownBlock := ⟨hW.os, hW.tape, hW.output, hW.size, fun k hk _ => hW.block k hk⟩
  exact wp_append_own W s x t ho base e i0 z 1 bytes ht hi hz0 hz1 hz2 hz (by omega) v n xs hs (own_below HO hW) ⟨g, 0, none⟩ 1 1 [y] hx rfl
    (by intro j u hj; cases j with
      | zero => simp at hj; subst hj; simpa [Addr.add] using hc
      | succ j => simp at hj) (by intro u hu; simp at hu; subst hu; exact h1) (by simp only [maxLen]; omega) hl (Nat.le_trans hbase hW.size)
    fun v1 w1 hown hg _ => h v1 w1 hown (World.grownBy.trans hg0 hg)
end
theorem infoInt : (Try.prog.info? 3).map (fun i => (i.zero, i.size, i.bytes)) = some (some (.int .i64 0), 1, 8) := by kernel_rfl
/-- A row of ints that grows is none of the board's. -/
theorem IsB.grown {B p : Nat} {sl : List Slo} {G G0 : List Gat} {xs : List Exi} {v1 v2 v2' v3 : Value} {w W W' : World} (h : IsB B p sl G xs v1 v2' v3 W) (h0 : IsB B p sl G0 xs v1 v2 v3 w) {u : Value} {n base : Nat} {cs : List Value} (ho : W.ownsRow base 3 1 u n cs) (hb : w.heap.size ≤ base) (hg : W.grownBy W' u.ownBlock) : IsB B p sl G xs v1 v2' v3 W' := by
  have hlt := h0.lt
  have far : ∀ {x : Value} {m : Nat} {ds : List Value}, w.ownsRow (B + 1) 3 1 x m ds → x.ownBlock = none ∨ x.ownBlock ≠ u.ownBlock := fun {x m ds} hx => by
    cases e : x.ownBlock with
    | none => exact .inl rfl
    | some q =>
      refine .inr fun e2 => ?_
      have h1 := (hx.lt q e).2
      have h2 := (ho.lt q e2.symm).1
      omega
  refine ⟨h.h1.kept hg (own_ne h.h1 ho (by decide)), h.h2.kept hg (own_ne h.h2 ho (by decide)), h.h3.kept hg (own_ne h.h3 ho (by decide)), fun x hx => ⟨(h.hx x hx).1.kept hg (far (h0.hx x hx).1), (h.hx x hx).2.kept hg (far (h0.hx x hx).2)⟩, ?_, h.hk⟩
  exact (hg.block _ h.lt fun e => by have := (ho.lt B e.symm).1; omega).trans h.hb
theorem Fr.grown {B : Nat} {v v' : Value} {w W W' : World} (h : Fr B v v' w W) {u : Value} {n base : Nat} {cs : List Value} {e : TypeId} {s : Nat} (ho : W.ownsRow base e s u n cs) (hb : w.heap.size ≤ base) (hg : W.grownBy W' u.ownBlock) : Fr B v v' w W' :=
  ⟨hg.os.trans h.os, hg.tape.trans h.tape, hg.output.trans h.output, Nat.le_trans h.size hg.size,
    fun k hk hB hn => (hg.block k (Nat.lt_of_lt_of_le hk h.size) fun e => by have := (ho.lt k e.symm).1; omega).trans (h.block k hk hB hn), h.own⟩
/-- A sum: the gates of one bit; of all. -/
def addL (n a b c : Nat) : List Gat := [((5, ((a : Nat) : Int), ((b : Nat) : Int), 0) : Gat), ((3, ((a : Nat) : Int), ((b : Nat) : Int), 0) : Gat), ((3, ((n : Nat) : Int), ((n : Nat) : Int), 0) : Gat), ((4, ((n + 1 : Nat) : Int), ((n + 2 : Nat) : Int), 0) : Gat), ((5, ((n + 3 : Nat) : Int), ((c : Nat) : Int), 0) : Gat), ((3, ((n + 3 : Nat) : Int), ((c : Nat) : Int), 0) : Gat), ((3, ((n + 4 : Nat) : Int), ((n + 4 : Nat) : Int), 0) : Gat), ((4, ((n + 5 : Nat) : Int), ((n + 6 : Nat) : Int), 0) : Gat), ((3, ((n : Nat) : Int), ((n + 4 : Nat) : Int), 0) : Gat)]
def addStep (s : List Gat × List Nat × Nat) (q : Nat × Nat) : List Gat × List Nat × Nat := (s.1 ++ addL s.1.length q.1 q.2 s.2.2, s.2.1 ++ [s.1.length + 7], s.1.length + 8)
def addSt (G : List Gat) (c : Nat) (ps : List (Nat × Nat)) : List Gat × List Nat × Nat := ps.foldl addStep (G, [], c)
theorem addSt_succ (G : List Gat) (c : Nat) (ps : List (Nat × Nat)) (k : Nat) (h : k < ps.length) : addSt G c (ps.take (k + 1)) = addStep (addSt G c (ps.take k)) ps[k] := by
  unfold addSt
  rw [List.take_succ_eq_append_getElem h, List.foldl_append]
  rfl
theorem addSt_len (G : List Gat) (c : Nat) (ps : List (Nat × Nat)) (hc : c < G.length) : ∀ k, k ≤ ps.length → (addSt G c (ps.take k)).1.length = G.length + 9 * k ∧ (addSt G c (ps.take k)).2.1.length = k ∧ (addSt G c (ps.take k)).2.2 < (addSt G c (ps.take k)).1.length := by
  intro k
  induction k with
  | zero => intro _; exact ⟨rfl, rfl, hc⟩
  | succ k ih =>
    intro h
    obtain ⟨h1, h2, _⟩ := ih (by omega)
    rw [addSt_succ G c ps k (by omega)]
    refine ⟨?_, ?_, ?_⟩
    · simp only [addStep, List.length_append, h1]; simp only [addL, List.length_cons, List.length_nil]; omega
    · simp only [addStep, List.length_append, h2, List.length_cons, List.length_nil]
    · simp only [addStep, List.length_append]; simp only [addL, List.length_cons, List.length_nil]; omega
theorem nCells_snoc (l : List Nat) (x : Nat) : nCells (l ++ [x]) = nCells l ++ [.int .i64 ((x : Nat) : Int)] := by simp [nCells]
theorem Reads.nat {w : World} {A : Option Addr} {l : List Nat} (h : Reads w A (nCells l)) (k : Nat) (hk : k < l.length) : ∃ ad, A = some ad ∧ w.cell? (ad.add k) = some (.int .i64 ((l[k] : Nat) : Int)) := by
  rcases h with h | ⟨ad, h1, h2⟩
  · have : l = [] := by simpa [nCells] using h
    subst this; simp at hk
  · exact ⟨ad, h1, h2 k _ (by simp [nCells, List.getElem?_eq_getElem hk])⟩
/-- The gates when i gates of a bit are laid. -/
def bitG (i : Nat) (G : List Gat) (a b c : Nat) : List Gat := G ++ (addL G.length a b c).take i
theorem bitG_zero (G : List Gat) (a b c : Nat) : bitG 0 G a b c = G := by simp [bitG]
theorem bitG_nine (G : List Gat) (a b c : Nat) : bitG 9 G a b c = G ++ addL G.length a b c := rfl
theorem bit1 (B p : Nat) (hp : 1 < p) (sl : List Slo) (G : List Gat) (xs : List Exi) (v1 v2 v3 : Value) (w : World) (hlt : B < w.heap.size) (a b c : Nat) (_ha : a < G.length) (_hb : b < G.length) (_hc : c < G.length) (hr : G.length + 9 ≤ 65536) (vo : Value) (k : Nat) (cs : List Value) (W0 W : World) (v : Value)
    (hI : IsB B p sl (bitG 0 G a b c) xs v1 v v3 W0) (hF : Fr B v2 v w W0) (hO : W0.ownsRow w.heap.size 3 1 vo k cs) (hB : Below W0.heap.size W0 W) :
    Calls Try.prog 109 #[.agg #[.pointer (some ⟨B, 0, none⟩)], .int .i64 ((a : Nat) : Int), .int .i64 ((b : Nat) : Int)] W (fun e W' => e = .returned (.int .i64 ((G.length : Nat) : Int)) ∧ ∃ v', IsB B p sl (bitG 1 G a b c) xs v1 v' v3 W' ∧ Fr B v2 v' w W' ∧ W'.ownsRow w.heap.size 3 1 vo k cs) := by
  have hn : (bitG 0 G a b c).length = G.length + 0 := by simp [bitG, addL]
  have hg : bitG 1 G a b c = bitG 0 G a b c ++ [((5, ((a : Nat) : Int), ((b : Nat) : Int), 0) : Gat)] := by unfold bitG addL; simp
  refine (product_ok B p (by omega) sl _ xs v1 v v3 (a) (b) (by omega) (by omega) (by omega) W (hI.below hB)).mono fun _ _ he => ?_
  obtain ⟨e1, v', h1, h2⟩ := he
  rw [hn] at e1
  rw [← hg] at h1
  exact ⟨e1, v', h1, (hF.below hB).trans h2, h2.own_int (hI.below hB).h2 (own_below hO hB) (by omega)⟩
theorem bit2 (B p : Nat) (hp : 1 < p) (sl : List Slo) (G : List Gat) (xs : List Exi) (v1 v2 v3 : Value) (w : World) (hlt : B < w.heap.size) (a b c : Nat) (_ha : a < G.length) (_hb : b < G.length) (_hc : c < G.length) (hr : G.length + 9 ≤ 65536) (vo : Value) (k : Nat) (cs : List Value) (W0 W : World) (v : Value)
    (hI : IsB B p sl (bitG 1 G a b c) xs v1 v v3 W0) (hF : Fr B v2 v w W0) (hO : W0.ownsRow w.heap.size 3 1 vo k cs) (hB : Below W0.heap.size W0 W) :
    Calls Try.prog 110 #[.agg #[.pointer (some ⟨B, 0, none⟩)], .int .i64 ((a : Nat) : Int), .int .i64 ((b : Nat) : Int)] W (fun e W' => e = .returned (.int .i64 ((G.length + 1 : Nat) : Int)) ∧ ∃ v', IsB B p sl (bitG 2 G a b c) xs v1 v' v3 W' ∧ Fr B v2 v' w W' ∧ W'.ownsRow w.heap.size 3 1 vo k cs) := by
  have hn : (bitG 1 G a b c).length = G.length + 1 := by simp [bitG, addL]
  have hg : bitG 2 G a b c = bitG 1 G a b c ++ [((3, ((a : Nat) : Int), ((b : Nat) : Int), 0) : Gat)] := by unfold bitG addL; simp
  refine (sum_ok B p (by omega) sl _ xs v1 v v3 (a) (b) (by omega) (by omega) (by omega) W (hI.below hB)).mono fun _ _ he => ?_
  obtain ⟨e1, v', h1, h2⟩ := he
  rw [hn] at e1
  rw [← hg] at h1
  exact ⟨e1, v', h1, (hF.below hB).trans h2, h2.own_int (hI.below hB).h2 (own_below hO hB) (by omega)⟩
theorem bit3 (B p : Nat) (hp : 1 < p) (sl : List Slo) (G : List Gat) (xs : List Exi) (v1 v2 v3 : Value) (w : World) (hlt : B < w.heap.size) (a b c : Nat) (_ha : a < G.length) (_hb : b < G.length) (_hc : c < G.length) (hr : G.length + 9 ≤ 65536) (vo : Value) (k : Nat) (cs : List Value) (W0 W : World) (v : Value)
    (hI : IsB B p sl (bitG 2 G a b c) xs v1 v v3 W0) (hF : Fr B v2 v w W0) (hO : W0.ownsRow w.heap.size 3 1 vo k cs) (hB : Below W0.heap.size W0 W) :
    Calls Try.prog 110 #[.agg #[.pointer (some ⟨B, 0, none⟩)], .int .i64 ((G.length : Nat) : Int), .int .i64 ((G.length : Nat) : Int)] W (fun e W' => e = .returned (.int .i64 ((G.length + 2 : Nat) : Int)) ∧ ∃ v', IsB B p sl (bitG 3 G a b c) xs v1 v' v3 W' ∧ Fr B v2 v' w W' ∧ W'.ownsRow w.heap.size 3 1 vo k cs) := by
  have hn : (bitG 2 G a b c).length = G.length + 2 := by simp [bitG, addL]
  have hg : bitG 3 G a b c = bitG 2 G a b c ++ [((3, ((G.length : Nat) : Int), ((G.length : Nat) : Int), 0) : Gat)] := by unfold bitG addL; simp
  refine (sum_ok B p (by omega) sl _ xs v1 v v3 (G.length) (G.length) (by omega) (by omega) (by omega) W (hI.below hB)).mono fun _ _ he => ?_
  obtain ⟨e1, v', h1, h2⟩ := he
  rw [hn] at e1
  rw [← hg] at h1
  exact ⟨e1, v', h1, (hF.below hB).trans h2, h2.own_int (hI.below hB).h2 (own_below hO hB) (by omega)⟩
theorem bit4 (B p : Nat) (hp : 1 < p) (sl : List Slo) (G : List Gat) (xs : List Exi) (v1 v2 v3 : Value) (w : World) (hlt : B < w.heap.size) (a b c : Nat) (_ha : a < G.length) (_hb : b < G.length) (_hc : c < G.length) (hr : G.length + 9 ≤ 65536) (vo : Value) (k : Nat) (cs : List Value) (W0 W : World) (v : Value)
    (hI : IsB B p sl (bitG 3 G a b c) xs v1 v v3 W0) (hF : Fr B v2 v w W0) (hO : W0.ownsRow w.heap.size 3 1 vo k cs) (hB : Below W0.heap.size W0 W) :
    Calls Try.prog 108 #[.agg #[.pointer (some ⟨B, 0, none⟩)], .int .i64 ((G.length + 1 : Nat) : Int), .int .i64 ((G.length + 2 : Nat) : Int)] W (fun e W' => e = .returned (.int .i64 ((G.length + 3 : Nat) : Int)) ∧ ∃ v', IsB B p sl (bitG 4 G a b c) xs v1 v' v3 W' ∧ Fr B v2 v' w W' ∧ W'.ownsRow w.heap.size 3 1 vo k cs) := by
  have hn : (bitG 3 G a b c).length = G.length + 3 := by simp [bitG, addL]
  have hg : bitG 4 G a b c = bitG 3 G a b c ++ [((4, ((G.length + 1 : Nat) : Int), ((G.length + 2 : Nat) : Int), 0) : Gat)] := by unfold bitG addL; simp
  refine (less_ok B p (by omega) sl _ xs v1 v v3 (G.length + 1) (G.length + 2) (by omega) (by omega) (by omega) W (hI.below hB)).mono fun _ _ he => ?_
  obtain ⟨e1, v', h1, h2⟩ := he
  rw [hn] at e1
  rw [← hg] at h1
  exact ⟨e1, v', h1, (hF.below hB).trans h2, h2.own_int (hI.below hB).h2 (own_below hO hB) (by omega)⟩
theorem bit5 (B p : Nat) (hp : 1 < p) (sl : List Slo) (G : List Gat) (xs : List Exi) (v1 v2 v3 : Value) (w : World) (hlt : B < w.heap.size) (a b c : Nat) (_ha : a < G.length) (_hb : b < G.length) (_hc : c < G.length) (hr : G.length + 9 ≤ 65536) (vo : Value) (k : Nat) (cs : List Value) (W0 W : World) (v : Value)
    (hI : IsB B p sl (bitG 4 G a b c) xs v1 v v3 W0) (hF : Fr B v2 v w W0) (hO : W0.ownsRow w.heap.size 3 1 vo k cs) (hB : Below W0.heap.size W0 W) :
    Calls Try.prog 109 #[.agg #[.pointer (some ⟨B, 0, none⟩)], .int .i64 ((G.length + 3 : Nat) : Int), .int .i64 ((c : Nat) : Int)] W (fun e W' => e = .returned (.int .i64 ((G.length + 4 : Nat) : Int)) ∧ ∃ v', IsB B p sl (bitG 5 G a b c) xs v1 v' v3 W' ∧ Fr B v2 v' w W' ∧ W'.ownsRow w.heap.size 3 1 vo k cs) := by
  have hn : (bitG 4 G a b c).length = G.length + 4 := by simp [bitG, addL]
  have hg : bitG 5 G a b c = bitG 4 G a b c ++ [((5, ((G.length + 3 : Nat) : Int), ((c : Nat) : Int), 0) : Gat)] := by unfold bitG addL; simp
  refine (product_ok B p (by omega) sl _ xs v1 v v3 (G.length + 3) (c) (by omega) (by omega) (by omega) W (hI.below hB)).mono fun _ _ he => ?_
  obtain ⟨e1, v', h1, h2⟩ := he
  rw [hn] at e1
  rw [← hg] at h1
  exact ⟨e1, v', h1, (hF.below hB).trans h2, h2.own_int (hI.below hB).h2 (own_below hO hB) (by omega)⟩
theorem bit6 (B p : Nat) (hp : 1 < p) (sl : List Slo) (G : List Gat) (xs : List Exi) (v1 v2 v3 : Value) (w : World) (hlt : B < w.heap.size) (a b c : Nat) (_ha : a < G.length) (_hb : b < G.length) (_hc : c < G.length) (hr : G.length + 9 ≤ 65536) (vo : Value) (k : Nat) (cs : List Value) (W0 W : World) (v : Value)
    (hI : IsB B p sl (bitG 5 G a b c) xs v1 v v3 W0) (hF : Fr B v2 v w W0) (hO : W0.ownsRow w.heap.size 3 1 vo k cs) (hB : Below W0.heap.size W0 W) :
    Calls Try.prog 110 #[.agg #[.pointer (some ⟨B, 0, none⟩)], .int .i64 ((G.length + 3 : Nat) : Int), .int .i64 ((c : Nat) : Int)] W (fun e W' => e = .returned (.int .i64 ((G.length + 5 : Nat) : Int)) ∧ ∃ v', IsB B p sl (bitG 6 G a b c) xs v1 v' v3 W' ∧ Fr B v2 v' w W' ∧ W'.ownsRow w.heap.size 3 1 vo k cs) := by
  have hn : (bitG 5 G a b c).length = G.length + 5 := by simp [bitG, addL]
  have hg : bitG 6 G a b c = bitG 5 G a b c ++ [((3, ((G.length + 3 : Nat) : Int), ((c : Nat) : Int), 0) : Gat)] := by unfold bitG addL; simp
  refine (sum_ok B p (by omega) sl _ xs v1 v v3 (G.length + 3) (c) (by omega) (by omega) (by omega) W (hI.below hB)).mono fun _ _ he => ?_
  obtain ⟨e1, v', h1, h2⟩ := he
  rw [hn] at e1
  rw [← hg] at h1
  exact ⟨e1, v', h1, (hF.below hB).trans h2, h2.own_int (hI.below hB).h2 (own_below hO hB) (by omega)⟩
theorem bit7 (B p : Nat) (hp : 1 < p) (sl : List Slo) (G : List Gat) (xs : List Exi) (v1 v2 v3 : Value) (w : World) (hlt : B < w.heap.size) (a b c : Nat) (_ha : a < G.length) (_hb : b < G.length) (_hc : c < G.length) (hr : G.length + 9 ≤ 65536) (vo : Value) (k : Nat) (cs : List Value) (W0 W : World) (v : Value)
    (hI : IsB B p sl (bitG 6 G a b c) xs v1 v v3 W0) (hF : Fr B v2 v w W0) (hO : W0.ownsRow w.heap.size 3 1 vo k cs) (hB : Below W0.heap.size W0 W) :
    Calls Try.prog 110 #[.agg #[.pointer (some ⟨B, 0, none⟩)], .int .i64 ((G.length + 4 : Nat) : Int), .int .i64 ((G.length + 4 : Nat) : Int)] W (fun e W' => e = .returned (.int .i64 ((G.length + 6 : Nat) : Int)) ∧ ∃ v', IsB B p sl (bitG 7 G a b c) xs v1 v' v3 W' ∧ Fr B v2 v' w W' ∧ W'.ownsRow w.heap.size 3 1 vo k cs) := by
  have hn : (bitG 6 G a b c).length = G.length + 6 := by simp [bitG, addL]
  have hg : bitG 7 G a b c = bitG 6 G a b c ++ [((3, ((G.length + 4 : Nat) : Int), ((G.length + 4 : Nat) : Int), 0) : Gat)] := by unfold bitG addL; simp
  refine (sum_ok B p (by omega) sl _ xs v1 v v3 (G.length + 4) (G.length + 4) (by omega) (by omega) (by omega) W (hI.below hB)).mono fun _ _ he => ?_
  obtain ⟨e1, v', h1, h2⟩ := he
  rw [hn] at e1
  rw [← hg] at h1
  exact ⟨e1, v', h1, (hF.below hB).trans h2, h2.own_int (hI.below hB).h2 (own_below hO hB) (by omega)⟩
theorem bit8 (B p : Nat) (hp : 1 < p) (sl : List Slo) (G : List Gat) (xs : List Exi) (v1 v2 v3 : Value) (w : World) (hlt : B < w.heap.size) (a b c : Nat) (_ha : a < G.length) (_hb : b < G.length) (_hc : c < G.length) (hr : G.length + 9 ≤ 65536) (vo : Value) (k : Nat) (cs : List Value) (W0 W : World) (v : Value)
    (hI : IsB B p sl (bitG 7 G a b c) xs v1 v v3 W0) (hF : Fr B v2 v w W0) (hO : W0.ownsRow w.heap.size 3 1 vo k cs) (hB : Below W0.heap.size W0 W) :
    Calls Try.prog 108 #[.agg #[.pointer (some ⟨B, 0, none⟩)], .int .i64 ((G.length + 5 : Nat) : Int), .int .i64 ((G.length + 6 : Nat) : Int)] W (fun e W' => e = .returned (.int .i64 ((G.length + 7 : Nat) : Int)) ∧ ∃ v', IsB B p sl (bitG 8 G a b c) xs v1 v' v3 W' ∧ Fr B v2 v' w W' ∧ W'.ownsRow w.heap.size 3 1 vo k cs) := by
  have hn : (bitG 7 G a b c).length = G.length + 7 := by simp [bitG, addL]
  have hg : bitG 8 G a b c = bitG 7 G a b c ++ [((4, ((G.length + 5 : Nat) : Int), ((G.length + 6 : Nat) : Int), 0) : Gat)] := by unfold bitG addL; simp
  refine (less_ok B p (by omega) sl _ xs v1 v v3 (G.length + 5) (G.length + 6) (by omega) (by omega) (by omega) W (hI.below hB)).mono fun _ _ he => ?_
  obtain ⟨e1, v', h1, h2⟩ := he
  rw [hn] at e1
  rw [← hg] at h1
  exact ⟨e1, v', h1, (hF.below hB).trans h2, h2.own_int (hI.below hB).h2 (own_below hO hB) (by omega)⟩
theorem bit9 (B p : Nat) (hp : 1 < p) (sl : List Slo) (G : List Gat) (xs : List Exi) (v1 v2 v3 : Value) (w : World) (hlt : B < w.heap.size) (a b c : Nat) (_ha : a < G.length) (_hb : b < G.length) (_hc : c < G.length) (hr : G.length + 9 ≤ 65536) (vo : Value) (k : Nat) (cs : List Value) (W0 W : World) (v : Value)
    (hI : IsB B p sl (bitG 8 G a b c) xs v1 v v3 W0) (hF : Fr B v2 v w W0) (hO : W0.ownsRow w.heap.size 3 1 vo k cs) (hB : Below W0.heap.size W0 W) :
    Calls Try.prog 110 #[.agg #[.pointer (some ⟨B, 0, none⟩)], .int .i64 ((G.length : Nat) : Int), .int .i64 ((G.length + 4 : Nat) : Int)] W (fun e W' => e = .returned (.int .i64 ((G.length + 8 : Nat) : Int)) ∧ ∃ v', IsB B p sl (bitG 9 G a b c) xs v1 v' v3 W' ∧ Fr B v2 v' w W' ∧ W'.ownsRow w.heap.size 3 1 vo k cs) := by
  have hn : (bitG 8 G a b c).length = G.length + 8 := by simp [bitG, addL]
  have hg : bitG 9 G a b c = bitG 8 G a b c ++ [((3, ((G.length : Nat) : Int), ((G.length + 4 : Nat) : Int), 0) : Gat)] := by unfold bitG addL; simp
  refine (sum_ok B p (by omega) sl _ xs v1 v v3 (G.length) (G.length + 4) (by omega) (by omega) (by omega) W (hI.below hB)).mono fun _ _ he => ?_
  obtain ⟨e1, v', h1, h2⟩ := he
  rw [hn] at e1
  rw [← hg] at h1
  exact ⟨e1, v', h1, (hF.below hB).trans h2, h2.own_int (hI.below hB).h2 (own_below hO hB) (by omega)⟩
end Go.Proofs.Ytkcdlbclodjjhaa
