/- Contracts and plain laws of chapter 13, merged: Tg Th. -/
import Derived.Test.YtkcdlbclodjjhaaGreatTf
import Derived.Test.YtkcdlbclodjjhaaGreatQj
import Derived.Test.YtkcdlbclodjjhaaGreatGat
/- What the law keeps from one act to the next. -/
namespace Go.Proofs.YtkcdlbclodjjhaaGreat
open Go.RowKit

/-- An act, with the addresses of its parts. -/
structure ActR where
  m : Int
  a : Int
  b : Int
  c : Int
  k : Int
  vs : List Int
  ws : List Int
  VA : Option Addr
  WA : Option Addr
  vc : Nat
  wc : Nat
  s : Slo
  g : Gat
  x : Exi
def ActR.cells (t : ActR) (m : Int) : List Value := [.int .i64 m, .int .i64 t.a, .int .i64 t.b, .int .i64 t.c, .int .u64 t.k, .slice t.VA t.vs.length t.vc, .slice t.WA t.ws.length t.wc, .int .i64 t.s.1, .bool t.s.2, .int .i64 t.g.1, .int .i64 t.g.2.1, .int .i64 t.g.2.2.1, .int .u64 t.g.2.2.2, .slice t.x.A t.x.tl.length t.x.c, .slice t.x.B t.x.gl.length t.x.d]
def actCells (l : List ActR) : List Value := l.flatMap fun t => t.cells t.m
theorem own_same {W W' : World} {H n size : Nat} {e : TypeId} {v : Value} {cs : List Value} (h : W.ownsRow H e size v n cs) (hs : ∀ q, v.ownBlock = some q → W'.heap[q]? = W.heap[q]?) : W'.ownsRow H e size v n cs := by
  refine ⟨h.1, ?_⟩
  rcases h.2 with hn | ⟨g, cap, cur, rfl, hb, hgg, rest⟩
  · exact .inl hn
  · refine .inr ⟨g, cap, cur, rfl, hb, ?_, rest⟩
    rw [hs g rfl]
    exact hgg
/-- What was, and what never turns. -/
structure Was (w : World) (B bw : Nat) (aa : Addr) (inp : List Nat) (C : Cir) (H : Nat) (W : World) : Prop where
  bx : W.heap[bw]? = some (.cells #[.slice C.SA C.slots.length C.sc, .slice C.GA C.gates.length C.gc, .slice C.EA C.exits.length C.ec] 36 (0, 0))
  c : OwnC H C W
  hb : B < bw
  hH : B < H ∧ H ≤ W.heap.size
  i : W.ownsRow (B + 1) 22 1 (.slice (some aa) 257 257) 257 (uCells inp)
  low : Below B w W
  hw : w.heap.size = B
theorem OwnC.map {H : Nat} {C : Cir} {W W' : World} (h : OwnC H C W) (f : ∀ {e : TypeId} {size n : Nat} {v : Value} {cs : List Value}, (e = 40 ∨ e = 42 ∨ e = 44 ∨ e = 3) → W.ownsRow H e size v n cs → W'.ownsRow H e size v n cs) : OwnC H C W' :=
  ⟨f (.inl rfl) h.s, f (.inr (.inl rfl)) h.g, f (.inr (.inr (.inl rfl))) h.e, fun y hy => ⟨f (.inr (.inr (.inr rfl))) (h.x y hy).1, f (.inr (.inr (.inr rfl))) (h.x y hy).2⟩⟩
theorem OwnC.below {H : Nat} {C : Cir} {W W' : World} (h : OwnC H C W) (hb : Below W.heap.size W W') : OwnC H C W' := h.map fun _ o => own_below o hb
theorem Was.below {w : World} {B bw : Nat} {aa : Addr} {inp : List Nat} {C : Cir} {H : Nat} {W W' : World} (h : Was w B bw aa inp C H W) (hb : Below W.heap.size W W') : Was w B bw aa inp C H W' :=
  ⟨(hb.block _ (Array.getElem?_eq_some_iff.1 h.bx).1).trans h.bx, h.c.below hb, h.hb, ⟨h.hH.1, Nat.le_trans h.hH.2 hb.size⟩, own_below h.i hb, h.low.trans (hb.mono (by have := h.hH; omega)), h.hw⟩
/-- The board's rows lie ahead of H. -/
def Ahead (H : Nat) (v1 v2 v3 : Value) : Prop := (∀ q, v1.ownBlock = some q → q < H) ∧ (∀ q, v2.ownBlock = some q → q < H) ∧ ∀ q, v3.ownBlock = some q → q < H
theorem ahead_of {B p : Nat} {sl : List Slo} {G : List Gat} {xs : List Exi} {v1 v2 v3 : Value} {W : World} (h : IsB B p sl G xs v1 v2 v3 W) {H : Nat} (hH : W.heap.size ≤ H) : Ahead H v1 v2 v3 :=
  ⟨fun q hq => Nat.lt_of_lt_of_le (h.h1.lt q hq).2 hH, fun q hq => Nat.lt_of_lt_of_le (h.h2.lt q hq).2 hH, fun q hq => Nat.lt_of_lt_of_le (h.h3.lt q hq).2 hH⟩
theorem Ahead.far {H : Nat} {v1 v2 v3 : Value} (h : Ahead H v1 v2 v3) {B : Nat} {W W' : World} (hF : FrB B v1 v2 v3 W W') (hB : B < H) {q : Nat} (hq : H ≤ q) (hl : q < W.heap.size) : W'.heap[q]? = W.heap[q]? :=
  hF.block q hl (by omega) (fun e => by have := h.1 q e.symm; omega) (fun e => by have := h.2.1 q e.symm; omega) (fun e => by have := h.2.2 q e.symm; omega)
/-- A block that is no row of the board stays behind an act. -/
theorem Was.play {w : World} {B bw p : Nat} {aa : Addr} {inp : List Nat} {C : Cir} {H : Nat} {sl : List Slo} {G : List Gat} {xs : List Exi} {v1 v2 v3 : Value} {W W' : World} (h : Was w B bw aa inp C H W) (hI : IsB B p sl G xs v1 v2 v3 W) (hA : Ahead H v1 v2 v3) (hF : FrB B v1 v2 v3 W W') : Was w B bw aa inp C H W' := by
  have hfar := fun q => hA.far hF h.hH.1 (q := q)
  have hlt := (Array.getElem?_eq_some_iff.1 h.bx).1
  have hb := h.hb
  refine ⟨?_, h.c.map fun _ o => own_same o fun q hq => hfar q (o.lt q hq).1 (o.lt q hq).2, h.hb, ⟨h.hH.1, Nat.le_trans h.hH.2 hF.size⟩, ?_, ?_, h.hw⟩
  · rw [hF.block bw hlt (by omega) (own_not_box hI.h1 h.bx (by decide)) (own_not_box hI.h2 h.bx (by decide)) (own_not_box hI.h3 h.bx (by decide))]
    exact h.bx
  · refine own_same h.i fun q hq => ?_
    have hql := h.i.lt q hq
    have ne : ∀ {e' : TypeId} {size' n' : Nat} {v' : Value} {xs' : List Value}, W.ownsRow (B + 1) e' size' v' n' xs' → (22 : TypeId) ≠ e' → some q ≠ v'.ownBlock := fun o hne e => by
      rcases own_ne h.i o hne with h1 | h1
      · rw [hq] at h1; cases h1
      · exact h1 (hq.trans e)
    exact hF.block q hql.2 (by omega) (ne hI.h1 (by decide)) (ne hI.h2 (by decide)) (ne hI.h3 (by decide))
  · refine h.low.trans ⟨hF.os, hF.tape, hF.output, hF.size, fun q hq => ?_⟩
    exact hF.block q (by have := h.hH; omega) (by omega) (own_past hI.h1 (by omega)) (own_past hI.h2 (by omega)) (own_past hI.h3 (by omega))
theorem IsB.setCir {B p : Nat} {sl : List Slo} {G : List Gat} {xs : List Exi} {v1 v2 v3 : Value} {W : World} (h : IsB B p sl G xs v1 v2 v3 W) {k j : Nat} {u : Value} {cs : Array Value} (hb : W.heap[k]? = some (.cells cs 36 (0, 0))) (hk : B ≠ k) : IsB B p sl G xs v1 v2 v3 (W.setCell ⟨k, j, none⟩ u) :=
  ⟨own_box h.h1 hb (by decide), own_box h.h2 hb (by decide), own_box h.h3 hb (by decide), fun x hx => ⟨(h.hx x hx).1.map fun o => own_box o hb (by decide), (h.hx x hx).2.map fun o => own_box o hb (by decide)⟩, box_farE h.hb hk, h.hk, h.hz⟩
theorem OwnC.setBox {H : Nat} {C : Cir} {W : World} (h : OwnC H C W) {k j : Nat} {u : Value} {cs : Array Value} (hb : W.heap[k]? = some (.cells cs 36 (0, 0))) : OwnC H C (W.setCell ⟨k, j, none⟩ u) :=
  ⟨own_box h.s hb (by decide), own_box h.g hb (by decide), own_box h.e hb (by decide), fun y hy => ⟨own_box (h.x y hy).1 hb (by decide), own_box (h.x y hy).2 hb (by decide)⟩⟩
/-- The board and what was, behind 'was = now'. -/
theorem was_next {w : World} {B bw p : Nat} {aa : Addr} {inp : List Nat} {C D : Cir} {H H' : Nat} {sl : List Slo} {G : List Gat} {xs : List Exi} {v1 v2 v3 : Value} {W : World} (h : Was w B bw aa inp C H W) (hI : IsB B p sl G xs v1 v2 v3 W) (hD : OwnC H' D W) (hH : B < H' ∧ H' ≤ W.heap.size) :
    Was w B bw aa inp D H' (((W.setCell ⟨bw, 0, none⟩ (.slice D.SA D.slots.length D.sc)).setCell ⟨bw, 1, none⟩ (.slice D.GA D.gates.length D.gc)).setCell ⟨bw, 2, none⟩ (.slice D.EA D.exits.length D.ec)) ∧
    IsB B p sl G xs v1 v2 v3 (((W.setCell ⟨bw, 0, none⟩ (.slice D.SA D.slots.length D.sc)).setCell ⟨bw, 1, none⟩ (.slice D.GA D.gates.length D.gc)).setCell ⟨bw, 2, none⟩ (.slice D.EA D.exits.length D.ec)) := by
  have b0 := h.bx
  have b1 := box_set (i := 0) b0 (.slice D.SA D.slots.length D.sc)
  have b2 := box_set (i := 1) b1 (.slice D.GA D.gates.length D.gc)
  have b3 := box_set (i := 2) b2 (.slice D.EA D.exits.length D.ec)
  have hb := h.hb
  refine ⟨⟨b3, ((hD.setBox b0).setBox b1).setBox b2, h.hb, ⟨hH.1, by simpa [World.setCell] using hH.2⟩, own_box (own_box (own_box h.i b0 (by decide)) b1 (by decide)) b2 (by decide), ((h.low.setCell (by simp; omega) _).setCell (by simp; omega) _).setCell (by simp; omega) _, h.hw⟩, ((hI.setCir b0 (by omega)).setCir b1 (by omega)).setCir b2 (by omega)⟩
theorem HoldsA.belowQ {w W : World} {B : Nat} {vs ws : List Int} {g : Gat} {x : Exi} {k : Int} {VA WA : Option Addr} {vc : Nat} (h : HoldsA w B vs ws g x k VA WA vc) (hb : Below w.heap.size w W) : HoldsA W B vs ws g x k VA WA vc :=
  ⟨h.V.below hb, h.W.below hb, h.X.below hb, h.Y.below hb, h.nV, h.nW, h.nX, h.nY, h.cV, h.k0, h.g0, h.zX, h.zY, h.lV, h.lW⟩
/-- What is so ahead of an act. -/
structure Kept (w : World) (B bw p : Nat) (aa : Addr) (inp : List Nat) (k : Nat) (sl : List Slo) (G : List Gat) (xs : List Exi) (v1 v2 v3 : Value) (C : Cir) (H : Nat) (W : World) : Prop where
  b : IsB B p sl G xs v1 v2 v3 W
  s : Was w B bw aa inp C H W
  a : Ahead H v1 v2 v3
  es : C.slots = sl
  eg : C.gates = G
  ex : C.exits.map Exi.l = xs.map Exi.l
  v : Valid p sl G xs
  n : xs.length ≤ k
  z : ∀ x ∈ xs, (x.A = none → x.c = 0) ∧ (x.B = none → x.d = 0)
theorem Kept.below {w : World} {B bw p : Nat} {aa : Addr} {inp : List Nat} {k : Nat} {sl : List Slo} {G : List Gat} {xs : List Exi} {v1 v2 v3 : Value} {C : Cir} {H : Nat} {W W' : World} (h : Kept w B bw p aa inp k sl G xs v1 v2 v3 C H W) (hb : Below W.heap.size W W') : Kept w B bw p aa inp k sl G xs v1 v2 v3 C H W' :=
  ⟨h.b.below hb, h.s.below hb, h.a, h.es, h.eg, h.ex, h.v, h.n, h.z⟩
theorem Kept.low {w : World} {B bw p : Nat} {aa : Addr} {inp : List Nat} {k : Nat} {sl : List Slo} {G : List Gat} {xs : List Exi} {v1 v2 v3 : Value} {C : Cir} {H : Nat} {W : World} (h : Kept w B bw p aa inp k sl G xs v1 v2 v3 C H W) : Below w.heap.size w W := by rw [h.s.hw]; exact h.s.low
theorem act_mod (m : Int) : ∃ n : Nat, n < 15 ∧ wrap64 ((IntKind.u64.wrap m).tmod 15) = ((n : Nat) : Int) := by
  have h : 0 ≤ IntKind.u64.wrap m ∧ IntKind.u64.wrap m < 18446744073709551616 := by
    rw [IntKind.wrap_u64]; omega
  refine ⟨((IntKind.u64.wrap m) % 15).toNat, by omega, ?_⟩
  rw [Int.tmod_eq_emod_of_nonneg h.1]
  unfold wrap64
  omega
theorem out_next {B p m : Nat} (hp : 2 < p) (hm : m < 15) {a b c k at_ er : Int} {vs ws : List Int} {s : Slo} {g : Gat} {x : Exi} {sl sl' : List Slo} {G G' : List Gat} {xs xs' : List Exi} {r : List Nat} {u1 u2 u3 : Value} {W : World} (V : Valid p sl G xs) (hz : ∀ x ∈ xs, (x.A = none → x.c = 0) ∧ (x.B = none → x.d = 0)) (hI : IsB B p sl' G' xs' u1 u2 u3 W) (hO : Out p m a b c k vs ws s g x sl G xs at_ r er sl' G' xs') :
    Valid p sl' G' xs' ∧ xs'.length ≤ xs.length + 1 ∧ ∀ x ∈ xs', (x.A = none → x.c = 0) ∧ (x.B = none → x.d = 0) := by
  unfold Out at hO
  rcases hO with ⟨_, _, _, _, rfl, rfl, rfl⟩ | ⟨_, _, _, _, _, _, rfl, rfl, rfl⟩ | ⟨hw, _, ho⟩
  · exact ⟨V, by omega, hz⟩
  · exact ⟨V, by omega, hz⟩
  · refine ⟨Valid.step hp hm V hI.hz hI.hk hw ho, ?_⟩
    rcases ho with ⟨_, _, _, _, _, rfl⟩ | ⟨_, _, _, _, _, rfl⟩ | ⟨_, _, _, _, _, x', ⟨_, _, e3, e4⟩, rfl⟩ | ⟨_, _, _, _, _, rfl⟩ | ⟨_, _, _, _, _, rfl⟩
    · exact ⟨by omega, hz⟩
    · exact ⟨by omega, hz⟩
    · refine ⟨by simp, fun y hy => ?_⟩
      rcases List.mem_append.1 hy with h | h
      · exact hz y h
      · rw [List.mem_singleton.1 h]; exact ⟨e3, e4⟩
    · exact ⟨by omega, hz⟩
    · exact ⟨by omega, hz⟩
theorem exi_sizes {p : Nat} {sl : List Slo} {G : List Gat} {xs : List Exi} (V : Valid p sl G xs) (hz : ∀ x ∈ xs, (x.A = none → x.c = 0) ∧ (x.B = none → x.d = 0)) : ∀ x ∈ xs, (x.A = none → x.c = 0) ∧ (x.B = none → x.d = 0) ∧ x.tl.length ≤ 65536 ∧ x.gl.length ≤ 65536 := fun x hx => by
  have h := exit_small (V.ex x hx)
  exact ⟨(hz x hx).1, (hz x hx).2, by omega, by omega⟩
end Go.Proofs.YtkcdlbclodjjhaaGreat

/- The walk of WordPlays. (Printed by wip/tools/gen_th.py.) -/
namespace Go.Proofs.YtkcdlbclodjjhaaGreat
open Go.RowKit

theorem made_u (n : Nat) : uCells (List.replicate n 0) = (madeCells #[.int .u64 0] n).toList := by
  unfold madeCells uCells
  apply List.ext_getElem
  · simp
  · intro i _ _
    simp [Nat.mod_one]
def z257 : Array Value := madeCells #[.int .u64 0] 257
theorem isP_two {p : Nat} (h : isP p = true) : 2 < p ∧ p ≤ 65537 := by
  unfold isP at h
  simp only [Bool.and_eq_true, decide_eq_true_eq] at h
  omega
/-- The inputs that the law takes. -/
def allN (p : Nat) (l : List Nat) (k : Nat) : List Nat := (List.range 257).map fun i => if i < k then l.getD i 0 % p else 0
theorem allN_len (p : Nat) (l : List Nat) (k : Nat) : (allN p l k).length = 257 := by simp [allN]
theorem allN_zero (p : Nat) (l : List Nat) : uCells (allN p l 0) = z257.toList := by
  have h : allN p l 0 = List.replicate 257 0 := by
    unfold allN
    rw [List.eq_replicate_iff]
    refine ⟨by simp, fun b hb => ?_⟩
    obtain ⟨i, _, rfl⟩ := List.mem_map.1 hb
    rw [if_neg (by omega)]
  rw [h]
  exact made_u 257
theorem allN_at (p : Nat) (l : List Nat) {k : Nat} (h : k < 257) : (allN p l k)[k]? = some 0 := by simp [allN, h]
theorem allN_succ (p : Nat) (l : List Nat) (k : Nat) : allN p l (k + 1) = (allN p l k).set k (l.getD k 0 % p) := by
  apply List.ext_getElem
  · simp [allN]
  · intro i h1 h2
    rw [List.getElem_set]
    simp only [allN, List.getElem_map, List.getElem_range]
    by_cases h3 : k = i
    · subst h3; rw [if_pos (by omega), if_pos rfl]
    · rw [if_neg h3]
      by_cases h4 : i < k
      · rw [if_pos (by omega), if_pos h4]
      · rw [if_neg (by omega), if_neg h4]
theorem allN_same (p : Nat) (l : List Nat) {k : Nat} (h : k < 257) (hl : l.length ≤ k) : allN p l (k + 1) = allN p l k := by
  rw [allN_succ p l k, List.getD_eq_getElem?_getD, List.getElem?_eq_none hl]
  show (allN p l k).set k (0 % p) = _
  rw [Nat.zero_mod]
  exact set_same (allN_at p l h)
theorem allN_lt {p : Nat} (hp : 0 < p) (l : List Nat) (k : Nat) : allLt p (allN p l k) = true := by
  refine List.all_eq_true.2 fun x hx => decide_eq_true ?_
  obtain ⟨i, _, rfl⟩ := List.mem_map.1 hx
  split
  · exact Nat.mod_lt _ hp
  · exact hp
theorem own_z (w : World) : (w.alloc (.cells z257 22)).ownsRow w.heap.size 22 1 (.slice (some ⟨w.heap.size, 0, none⟩) 257 257) 257 z257.toList :=
  ⟨by rw [Array.length_toList]; unfold z257; rw [size_madeCells], .inr ⟨w.heap.size, 257, z257, rfl, Nat.le_refl _, heap_alloc_new w _, Nat.le_refl _, by unfold maxLen; omega, by unfold z257; rw [size_madeCells], by rw [show 257 * 1 = z257.toList.length by rw [Array.length_toList]; unfold z257; rw [size_madeCells], List.take_length]⟩⟩

theorem Reads.act {w : World} {A : Option Addr} {l : List ActR} (h : Reads w A (actCells l)) (k : Nat) (hk : k < l.length) :
    ∃ ad, A = some ad ∧ w.cell? (ad.add (k * 15)) = some (.int .i64 l[k].m) ∧ w.cell? ⟨(ad.add (k * 15)).block, (ad.add (k * 15)).off + 1, none⟩ = some (.int .i64 l[k].a) ∧ w.cell? ⟨(ad.add (k * 15)).block, (ad.add (k * 15)).off + 2, none⟩ = some (.int .i64 l[k].b) ∧ w.cell? ⟨(ad.add (k * 15)).block, (ad.add (k * 15)).off + 3, none⟩ = some (.int .i64 l[k].c) ∧ w.cell? ⟨(ad.add (k * 15)).block, (ad.add (k * 15)).off + 4, none⟩ = some (.int .u64 l[k].k) ∧ w.cell? ⟨(ad.add (k * 15)).block, (ad.add (k * 15)).off + 5, none⟩ = some (.slice l[k].VA l[k].vs.length l[k].vc) ∧ w.cell? ⟨(ad.add (k * 15)).block, (ad.add (k * 15)).off + 6, none⟩ = some (.slice l[k].WA l[k].ws.length l[k].wc) ∧ w.cell? ⟨(ad.add (k * 15)).block, (ad.add (k * 15)).off + 7, none⟩ = some (.int .i64 l[k].s.1) ∧ w.cell? ⟨(ad.add (k * 15)).block, (ad.add (k * 15)).off + 8, none⟩ = some (.bool l[k].s.2) ∧ w.cell? ⟨(ad.add (k * 15)).block, (ad.add (k * 15)).off + 9, none⟩ = some (.int .i64 l[k].g.1) ∧ w.cell? ⟨(ad.add (k * 15)).block, (ad.add (k * 15)).off + 10, none⟩ = some (.int .i64 l[k].g.2.1) ∧ w.cell? ⟨(ad.add (k * 15)).block, (ad.add (k * 15)).off + 11, none⟩ = some (.int .i64 l[k].g.2.2.1) ∧ w.cell? ⟨(ad.add (k * 15)).block, (ad.add (k * 15)).off + 12, none⟩ = some (.int .u64 l[k].g.2.2.2) ∧ w.cell? ⟨(ad.add (k * 15)).block, (ad.add (k * 15)).off + 13, none⟩ = some (.slice l[k].x.A l[k].x.tl.length l[k].x.c) ∧ w.cell? ⟨(ad.add (k * 15)).block, (ad.add (k * 15)).off + 14, none⟩ = some (.slice l[k].x.B l[k].x.gl.length l[k].x.d) := by
  have e := flat_at (fun t : ActR => t.cells t.m) 15 (fun _ => rfl) l k hk
  rcases h with h | ⟨ad, h1, h2⟩
  · have := e 0 (by omega); unfold actCells at h; rw [h] at this; simp [ActR.cells] at this
  · refine ⟨ad, h1, h2 (k * 15) _ (e 0 (by omega)), ?_⟩
    rw [← add_part _ _ 1 (by omega), ← add_part _ _ 2 (by omega), ← add_part _ _ 3 (by omega), ← add_part _ _ 4 (by omega), ← add_part _ _ 5 (by omega), ← add_part _ _ 6 (by omega), ← add_part _ _ 7 (by omega), ← add_part _ _ 8 (by omega), ← add_part _ _ 9 (by omega), ← add_part _ _ 10 (by omega), ← add_part _ _ 11 (by omega), ← add_part _ _ 12 (by omega), ← add_part _ _ 13 (by omega), ← add_part _ _ 14 (by omega)]
    exact ⟨h2 _ _ (e 1 (by omega)), h2 _ _ (e 2 (by omega)), h2 _ _ (e 3 (by omega)), h2 _ _ (e 4 (by omega)), h2 _ _ (e 5 (by omega)), h2 _ _ (e 6 (by omega)), h2 _ _ (e 7 (by omega)), h2 _ _ (e 8 (by omega)), h2 _ _ (e 9 (by omega)), h2 _ _ (e 10 (by omega)), h2 _ _ (e 11 (by omega)), h2 _ _ (e 12 (by omega)), h2 _ _ (e 13 (by omega)), h2 _ _ (e 14 (by omega))⟩
theorem box3 {W : World} {b : Nat} {v0 v1 v2 : Value} {t : TypeId} (h : W.heap[b]? = some (.cells #[v0, v1, v2] t (0, 0))) :
    W.cell? ⟨b, 0, none⟩ = some v0 ∧ W.cell? ⟨b, 1, none⟩ = some v1 ∧ W.cell? ⟨b, 2, none⟩ = some v2 ∧ W.frozen? ⟨b, 0, none⟩ = false ∧ W.frozen? ⟨b, 1, none⟩ = false ∧ W.frozen? ⟨b, 2, none⟩ = false := by
  simp [World.cell?, World.frozen?, h]
set_option maxHeartbeats 8000000 in
set_option maxRecDepth 100000 in
theorem plays_ok (p : Nat) (hp : p < 18446744073709551616) (hP : isP p = true) (acts : List ActR) (LA : Option Addr) (lc : Nat) (ins : List Nat) (IA : Option Addr) (ic : Nat) (hln : acts.length ≤ 9223372036854775807) (hlc : acts.length ≤ lc) (hz : LA = none → lc = 0) (w : World) (hL : Reads w LA (actCells acts)) (hA : ∀ t ∈ acts, HoldsA w w.heap.size t.vs t.ws t.g t.x t.k t.VA t.WA t.vc) (hI : Reads w IA (uCells ins)) :
    Calls Tryz.prog 3 #[.int .u64 ((p : Nat) : Int), .slice LA acts.length lc, .slice IA ins.length ic] w fun e W' => e = .returned (.bool true) ∧ Below w.heap.size w W' := by
  have hp2 := isP_two hP
  have HP := Lib.hid hP
  obtain ⟨B, hB⟩ : ∃ B, B = w.heap.size := ⟨_, rfl⟩
  have HN : Hid (Calls Tryz.prog 4 #[.int .u64 ((p : Nat) : Int)] w fun e W' => e = .returned (.tuple #[.pointer (some ⟨B, 0, none⟩), .int .i64 0]) ∧ IsB B p [] [] [] nilS nilS nilS W' ∧ Below B w W') := Lib.hid (by subst hB; exact new_ok p hp hP w)
  have hIS := fun W => rIs_any p hp W
  rw [hP] at hIS
  have HIS := Lib.hid hIS; clear hIS
  obtain ⟨i0, hi0, hzz⟩ := Option.map_eq_some_iff.1 infoU
  simp only [Prod.mk.injEq] at hzz
  obtain ⟨hz0, hz1, hz2⟩ := hzz
  have hmk : ∀ W, (Instr.makeSlice 24 (.int .i64 257) (.int .i64 257)).run Tryz.prog W = .ok (.slice (some ⟨W.heap.size, 0, none⟩) 257 257) (W.alloc (.cells z257 22)) := fun W => by
    have h := run_make (P := Tryz.prog) W 24 22 i0 _ Tryz.underlying24 hi0 hz0 .i64 .i64 257 257 (by omega) (by omega) (by rw [hz2]; omega) (by omega)
    rw [hz1] at h
    exact h
  have HL := Lib.hid hL; have HA := Lib.hid hA; have HI := Lib.hid hI; have HB := Lib.hid hB; have HLN := Lib.hid (And.intro hlc hz)
  clear hz0 hz1 hz2 hi0 hL hA hI hB hlc hz hP
  go_enter Tryz.func3, Tryz.ntmps3
  go_wp2_with fail
  refine HN.out.mono ?_
  rintro e w1 ⟨rfl, hIB, hlow⟩
  have HI1 := Lib.hid hIB
  have HW1 := Lib.hid hlow
  clear hIB hlow
  go_wp2_with fail
  refine (HIS.out _).mono ?_
  rintro e w2 ⟨rfl, rfl⟩
  go_wp2_with fail
  refine (circuit_any B p (by omega) [] [] [] nilS nilS nilS (by simp) (by simp) (by simp) (by simp) w1 HI1.out).mono ?_
  rintro e w2 ⟨S0, sc0, Ga0, gc0, E0, ec0, ys0, rfl, hy0, hc0, hb0⟩
  obtain rfl : ys0 = [] := by simpa using hy0
  have HC0 := Lib.hid hc0
  have HB0 := Lib.hid hb0
  clear hy0 hc0 hb0
  go_wp2_with fail
  refine (rsame_any (⟨[], [], [], S0, Ga0, E0, sc0, gc0, ec0⟩ : Cir) (⟨[], [], [], none, none, none, 0, 0, 0⟩ : Cir) rfl w2 ?_ ?_).mono ?_
  · exact HC0.out.holds (by simp) (by simp) (by simp) (by simp) (by simp)
  · exact ⟨.inl rfl, .inl rfl, .inl rfl, by simp, ⟨by simp, by simp, by simp⟩, by simp, by simp⟩
  rintro e w3 ⟨rfl, hb⟩
  have HB3 := Lib.hid hb
  clear hb
  go_wp2_with fail
  have HW3 : Hid (Below w.heap.size w w3) := Lib.hid (by
    have h1 := HW1.out; rw [HB.out] at h1
    exact (h1.trans (HB0.out.mono h1.size)).trans (HB3.out.mono (Nat.le_trans h1.size HB0.out.size)))
  go_loopg [45] 257 (fun g i wr => ∃ k : Nat, k ≤ 257 ∧ g = 257 - k ∧ i = .int .i64 k ∧ wr.ownsRow w3.heap.size 22 1 (.slice (some ⟨w3.heap.size, 0, none⟩) 257 257) 257 (uCells (allN p ins k)) ∧ Below w3.heap.size w3 wr)
  case atStart => exact ⟨0, by omega, rfl, rfl, by rw [allN_zero]; exact own_z w3, (Below.refl _ _).alloc (Nat.le_refl _) _⟩
  case round =>
    obtain ⟨k, hk, rfl, rfl, hown, hbel⟩ := hrel
    have HBR := Lib.hid hbel; clear hbel
    have HOW := Lib.hid hown; clear hown
    have HWR : Hid (Below w.heap.size w wr) := Lib.hid (HW3.out.trans (HBR.out.mono HW3.out.size))
    by_cases hlt : k < 257
    · by_cases hki : k < ins.length
      · obtain ⟨ad, rfl, q0⟩ := (HI.out.below HWR.out).uat k hki
        have r0 := (HOW.out.cellAt k (by omega)).trans (u_at (allN_at p ins hlt))
        have rf := HOW.out.frozenAt k
        have hg : ins.getD k 0 = ins[k] := getD_at hki
        have HAS : Hid (allN p ins (k + 1) = (allN p ins k).set k (ins[k] % p)) := Lib.hid (by rw [allN_succ, hg])
        clear hg
        generalize ins[k] = xk at *
        obtain ⟨m, hm⟩ : ∃ m, m = xk % p := ⟨_, rfl⟩
        have i5 : ((xk : Nat) : Int) % ((p : Nat) : Int) = ((m : Nat) : Int) := by omega
        have HM := Lib.hid hm
        clear hm
        have i1 : (0 : Int) ≤ (k : Int) := by omega
        have i2 : (k : Int) < (ins.length : Int) := by omega
        have i3 : ¬ p = 0 := by omega
        go_wp2_with fail
        go_roundg (257 - (k + 1))
        case measure => omega
        case rel => exact ⟨k + 1, by omega, rfl, by go_num, by rw [HAS.out, ← u_set, ← HM.out]; exact (HOW.out.stored k _).1, HBR.out.setCell (p := ⟨w3.heap.size, k, none⟩) (Nat.le_refl _) _⟩
      · have HPN := Lib.hid (allN_same p ins hlt (by omega))
        go_wp2_with fail
        go_roundg (257 - (k + 1))
        case measure => omega
        case rel => exact ⟨k + 1, by omega, rfl, by go_num, by rw [HPN.out]; exact HOW.out, HBR.out⟩
    · obtain rfl : k = 257 := by omega
      go_wp2_with fail
      have HIR : Hid (IsB B p [] [] [] nilS nilS nilS wr) := Lib.hid (HI1.out.below ((HB0.out.trans (HB3.out.mono HB0.out.size)).trans (HBR.out.mono (Nat.le_trans HB0.out.size HB3.out.size))))
      refine (circuit_any B p (by omega) [] [] [] nilS nilS nilS (by simp) (by simp) (by simp) (by simp) wr HIR.out).mono ?_
      rintro e w4 ⟨S4, sc4, Ga4, gc4, E4, ec4, ys4, rfl, hy4, hc4, hb4⟩
      obtain rfl : ys4 = [] := by simpa using hy4
      have HC4 := Lib.hid hc4
      have HB4 := Lib.hid hb4
      clear hy4 hc4 hb4
      have HK0 : Hid (Kept w B w4.heap.size p ⟨w3.heap.size, 0, none⟩ (allN p ins 257) 0 [] [] [] nilS nilS nilS ⟨[], [], [], S4, Ga4, E4, sc4, gc4, ec4⟩ wr.heap.size (w4.alloc (.cells #[.slice S4 ([] : List Slo).length sc4, .slice Ga4 ([] : List Gat).length gc4, .slice E4 ([] : List Exi).length ec4] 36))) := Lib.hid (by
        have hB1 := HB.out
        have hlt := HIR.out.lt
        have hz4 := HB4.out.size
        have hbx : Below w4.heap.size w4 (w4.alloc (.cells #[.slice S4 ([] : List Slo).length sc4, .slice Ga4 ([] : List Gat).length gc4, .slice E4 ([] : List Exi).length ec4] 36)) := (Below.refl _ _).alloc (Nat.le_refl _) _
        refine ⟨(HIR.out.below HB4.out).below hbx, ⟨heap_alloc_new w4 _, HC4.out.below hbx, by omega, ⟨hlt, by have := hbx.size; omega⟩, own_lower (own_below (own_below HOW.out HB4.out) hbx) ?_, ?_, hB1.symm⟩, ⟨by simp [Value.ownBlock], by simp [Value.ownBlock], by simp [Value.ownBlock]⟩, rfl, rfl, rfl, Valid.nil p, by simp, by simp⟩
        · have h1 := HI1.out.lt; have h2 := HB0.out.size; have h3 := HB3.out.size; omega
        · rw [hB1]; exact HWR.out.trans ((HB4.out.trans (hbx.mono hz4)).mono HWR.out.size))
      by_cases h60 : 60 < acts.length
      · as_aux_lemma =>
          have hN : 60 ≤ 60 := by omega
          have hNl : 60 ≤ acts.length := by omega
          have hcap : 60 ≤ lc := by have := HLN.out.1; omega
          go_wp2_with fail
          go_loopg [70] 60 (fun g i wr => ∃ (k : Nat) (sl : List Slo) (G : List Gat) (xs : List Exi) (v1 v2 v3 : Value) (C : Cir) (H : Nat), k ≤ 60 ∧ g = 60 - k ∧ i = .int .i64 k ∧ Hid (Kept w B w4.heap.size p ⟨w3.heap.size, 0, none⟩ (allN p ins 257) k sl G xs v1 v2 v3 C H wr))
          case atStart => exact ⟨0, _, _, _, _, _, _, _, _, by omega, rfl, rfl, HK0⟩
          case round =>
            obtain ⟨k, sl, G, xs, v1, v2, v3, C, H, hk, rfl, rfl, HK⟩ := hrel
            obtain rfl := HK.out.es
            obtain rfl := HK.out.eg
            by_cases hlt : k < 60
            · obtain ⟨ad, rfl, q0, q1, q2, q3, q4, q5, q6, q7, q8, q9, q10, q11, q12, q13, q14⟩ := (HL.out.below HK.out.low).act k (by omega)
              have HAk := Lib.hid (HA.out _ (List.getElem_mem (show k < acts.length by omega)))
              generalize acts[k] = t at *
              go_wp2_with fail
              clear q0 q1 q2 q3 q4 q5 q6 q7 q8 q9 q10 q11 q12 q13 q14
              obtain ⟨mN, hm15, hm⟩ := act_mod t.m
              rw [hm]
              have HM := Lib.hid hm; clear hm
              have hw2 : Below wr.heap.size wr (wr.alloc (.cells #[.int .i64 ((mN : Nat) : Int), .int .i64 t.a, .int .i64 t.b, .int .i64 t.c, .int .u64 t.k, .slice t.VA t.vs.length t.vc, .slice t.WA t.ws.length t.wc, .int .i64 t.s.1, .bool t.s.2, .int .i64 t.g.1, .int .i64 t.g.2.1, .int .i64 t.g.2.2.1, .int .u64 t.g.2.2.2, .slice t.x.A t.x.tl.length t.x.c, .slice t.x.B t.x.gl.length t.x.d] 46)) := (Below.refl _ _).alloc (Nat.le_refl _) _
              have HK2 := Lib.hid (HK.out.below hw2)
              have HA2 := Lib.hid (HAk.out.belowQ ((HK.out.low).trans (hw2.mono (by have := HK.out.low.size; omega))))
              have hbx2 := heap_alloc_new wr (.cells #[.int .i64 ((mN : Nat) : Int), .int .i64 t.a, .int .i64 t.b, .int .i64 t.c, .int .u64 t.k, .slice t.VA t.vs.length t.vc, .slice t.WA t.ws.length t.wc, .int .i64 t.s.1, .bool t.s.2, .int .i64 t.g.1, .int .i64 t.g.2.1, .int .i64 t.g.2.2.1, .int .u64 t.g.2.2.2, .slice t.x.A t.x.tl.length t.x.c, .slice t.x.B t.x.gl.length t.x.d] 46)
              have HBX2 := Lib.hid hbx2; clear hbx2
              have HW2 := Lib.hid hw2; clear hw2
              generalize hg2 : wr.alloc (.cells #[.int .i64 ((mN : Nat) : Int), .int .i64 t.a, .int .i64 t.b, .int .i64 t.c, .int .u64 t.k, .slice t.VA t.vs.length t.vc, .slice t.WA t.ws.length t.wc, .int .i64 t.s.1, .bool t.s.2, .int .i64 t.g.1, .int .i64 t.g.2.1, .int .i64 t.g.2.2.1, .int .u64 t.g.2.2.2, .slice t.x.A t.x.tl.length t.x.c, .slice t.x.B t.x.gl.length t.x.d] 46) = w2a at *
              refine (play_any B p (by omega) C.slots C.gates xs v1 v2 v3 mN hm15 t.a t.b t.c t.k t.vs t.ws t.s t.g t.x t.VA t.WA t.vc t.wc w2a HK2.out.b (by rw [HB.out]; exact HA2.out) HK2.out.b.hz).mono ?_
              rintro e w5 ⟨at_, X, n, cc, r, er, sl', G', xs', u1, u2, u3, rfl, hI5, hF5, ho5, hrn, hO⟩
              obtain ⟨hV5, hn5, hz5⟩ := out_next (by omega) hm15 HK2.out.v HK2.out.z hI5 hO
              have hS5 := HK2.out.s.play HK2.out.b HK2.out.a hF5
              have hB5 : w5.heap[wr.heap.size]? = some (.cells #[.int .i64 ((mN : Nat) : Int), .int .i64 t.a, .int .i64 t.b, .int .i64 t.c, .int .u64 t.k, .slice t.VA t.vs.length t.vc, .slice t.WA t.ws.length t.wc, .int .i64 t.s.1, .bool t.s.2, .int .i64 t.g.1, .int .i64 t.g.2.1, .int .i64 t.g.2.2.1, .int .u64 t.g.2.2.2, .slice t.x.A t.x.tl.length t.x.c, .slice t.x.B t.x.gl.length t.x.d] 46 (0, 0)) := by
                rw [HK2.out.a.far hF5 HK2.out.s.hH.1 HK.out.s.hH.2 (Array.getElem?_eq_some_iff.1 HBX2.out).1]
                exact HBX2.out
              have HI5 := Lib.hid hI5; have HO5 := Lib.hid ho5; have HRN := Lib.hid hrn; have HO := Lib.hid hO; have HV5 := Lib.hid hV5; have HN5 := Lib.hid hn5; have HZ5 := Lib.hid hz5; have HS5 := Lib.hid hS5; have HB5 := Lib.hid hB5
              clear hI5 hF5 ho5 hrn hO hV5 hn5 hz5 hS5 hB5
              go_wp2_with fail
              have hw5 : Below w5.heap.size w5 (w5.alloc (.cells #[.int .i64 at_, .slice X n cc, .int .i64 er] 49)) := (Below.refl _ _).alloc (Nat.le_refl _) _
              have hbn := heap_alloc_new w5 (.cells #[.int .i64 at_, .slice X n cc, .int .i64 er] 49)
              have hz5a : (w5.alloc (.cells #[.int .i64 at_, .slice X n cc, .int .i64 er] 49)).heap.size = w5.heap.size + 1 := by simp
              have HW5 := Lib.hid hw5; have HBN := Lib.hid hbn; have HZ5A := Lib.hid hz5a
              clear hw5 hbn hz5a
              generalize hg5 : w5.alloc (.cells #[.int .i64 at_, .slice X n cc, .int .i64 er] 49) = w5a at *
              have hxn : xs'.length ≤ k + 1 := by have h1 := HN5.out; have h2 := HK2.out.n; omega
              refine (circuit_any B p (by omega) sl' G' xs' u1 u2 u3 (by have := HV5.out.ns; omega) HI5.out.hz (by omega) (exi_sizes HV5.out HZ5.out) w5a (HI5.out.below HW5.out)).mono ?_
              rintro e w6 ⟨S6, sc6, Ga6, gc6, E6, ec6, ys6, rfl, hy6, hc6, hb6⟩
              have hI6 := (HI5.out.below HW5.out).below hb6
              have hS6 := (HS5.out.below HW5.out).below hb6
              have x6 := (hb6.block _ (Array.getElem?_eq_some_iff.1 HBN.out).1).trans HBN.out
              have y6 := ((HW5.out.trans (hb6.mono HW5.out.size)).block _ (Array.getElem?_eq_some_iff.1 HB5.out).1).trans HB5.out
              have z6 := hS6.bx
              have q0 : w6.cell? ⟨wr.heap.size, 0, none⟩ = some (.int .i64 ((mN : Nat) : Int)) := cell_in y6
              have q1 : w6.cell? ⟨wr.heap.size, 1, none⟩ = some (.int .i64 t.a) := cell_in y6
              have q2 : w6.cell? ⟨wr.heap.size, 2, none⟩ = some (.int .i64 t.b) := cell_in y6
              have q3 : w6.cell? ⟨wr.heap.size, 3, none⟩ = some (.int .i64 t.c) := cell_in y6
              have q4 : w6.cell? ⟨wr.heap.size, 4, none⟩ = some (.int .u64 t.k) := cell_in y6
              have q5 : w6.cell? ⟨wr.heap.size, 5, none⟩ = some (.slice t.VA t.vs.length t.vc) := cell_in y6
              have q6 : w6.cell? ⟨wr.heap.size, 6, none⟩ = some (.slice t.WA t.ws.length t.wc) := cell_in y6
              have q7 : w6.cell? ⟨wr.heap.size, 7, none⟩ = some (.int .i64 t.s.1) := cell_in y6
              have q8 : w6.cell? ⟨wr.heap.size, 8, none⟩ = some (.bool t.s.2) := cell_in y6
              have q9 : w6.cell? ⟨wr.heap.size, 9, none⟩ = some (.int .i64 t.g.1) := cell_in y6
              have q10 : w6.cell? ⟨wr.heap.size, 10, none⟩ = some (.int .i64 t.g.2.1) := cell_in y6
              have q11 : w6.cell? ⟨wr.heap.size, 11, none⟩ = some (.int .i64 t.g.2.2.1) := cell_in y6
              have q12 : w6.cell? ⟨wr.heap.size, 12, none⟩ = some (.int .u64 t.g.2.2.2) := cell_in y6
              have q13 : w6.cell? ⟨wr.heap.size, 13, none⟩ = some (.slice t.x.A t.x.tl.length t.x.c) := cell_in y6
              have q14 : w6.cell? ⟨wr.heap.size, 14, none⟩ = some (.slice t.x.B t.x.gl.length t.x.d) := cell_in y6
              have p0 : w6.cell? ⟨w5.heap.size, 0, none⟩ = some (.int .i64 at_) := cell_in x6
              have p1 : w6.cell? ⟨w5.heap.size, 1, none⟩ = some (.slice X n cc) := cell_in x6
              have p2 : w6.cell? ⟨w5.heap.size, 2, none⟩ = some (.int .i64 er) := cell_in x6
              have o0 : w6.cell? ⟨w4.heap.size, 0, none⟩ = some (.slice C.SA C.slots.length C.sc) := cell_in z6
              have o1 : w6.cell? ⟨w4.heap.size, 1, none⟩ = some (.slice C.GA C.gates.length C.gc) := cell_in z6
              have o2 : w6.cell? ⟨w4.heap.size, 2, none⟩ = some (.slice C.EA C.exits.length C.ec) := cell_in z6
              have s6 : wr.heap.size < w6.heap.size := (Array.getElem?_eq_some_iff.1 y6).1
              have s7 : w5.heap.size < w6.heap.size := (Array.getElem?_eq_some_iff.1 x6).1
              have s8 : w4.heap.size < w6.heap.size := (Array.getElem?_eq_some_iff.1 z6).1
              have HI6 := Lib.hid hI6; have HS6 := Lib.hid hS6; have HC6 := Lib.hid hc6; have HY6 := Lib.hid hy6; have HB6 := Lib.hid hb6; have HXN := Lib.hid hxn
              clear x6 y6 z6 hI6 hS6 hc6 hy6 hb6 hxn
              go_wp2_with fail
              clear q0 q1 q2 q3 q4 q5 q6 q7 q8 q9 q10 q11 q12 q13 q14 p0 p1 p2 o0 o1 o2 s6 s7 s8
              have hw6 : Below w6.heap.size w6 (w6.alloc (.cells #[.slice S6 sl'.length sc6, .slice Ga6 G'.length gc6, .slice E6 ys6.length ec6] 36)) := (Below.refl _ _).alloc (Nat.le_refl _) _
              have hbd := heap_alloc_new w6 (.cells #[.slice S6 sl'.length sc6, .slice Ga6 G'.length gc6, .slice E6 ys6.length ec6] 36)
              have HW6 := Lib.hid hw6; have HBD := Lib.hid hbd
              clear hw6 hbd
              generalize hg6 : w6.alloc (.cells #[.slice S6 sl'.length sc6, .slice Ga6 G'.length gc6, .slice E6 ys6.length ec6] 36) = w6b at *
              obtain rfl := HRN.out
              have hst := step_any p HP.out (by omega) hp2.2 mN hm15 t.a t.b t.c t.k t.vs t.ws t.s t.g t.x t.VA t.WA t.vc t.wc B at_ r er xs xs' C (⟨sl', G', ys6, S6, Ga6, E6, sc6, gc6, ec6⟩ : Cir) H w5a.heap.size X cc ⟨w3.heap.size, 0, none⟩ 257 (allN p ins 257) w6b HK2.out.v HV5.out (by have := HK2.out.n; omega) (by have := HXN.out; omega) HK2.out.ex HY6.out (HS6.out.c.below HW6.out) (HC6.out.below HW6.out)
                (by rw [HB.out]; exact HAk.out.belowQ (by have h1 := HS6.out.low; rw [HB.out] at h1; exact h1.trans (HW6.out.mono h1.size)))
                ((((own_reads_at HO5.out).below HW5.out).below HB6.out).below HW6.out) ((own_reads_at HS6.out.i).below HW6.out) (allN_len _ _ _) (by rw [allN_len]; exact Nat.le_refl _) (allN_lt (by omega) _ _) HO.out
              rw [allN_len] at hst
              refine hst.mono ?_
              clear hst
              rintro e w7 ⟨rfl, hb7⟩
              have hS7 := (HS6.out.below HW6.out).below hb7
              have hI7 := (HI6.out.below HW6.out).below hb7
              have hC7 := (HC6.out.below HW6.out).below hb7
              have hD7 := (hb7.block _ (Array.getElem?_eq_some_iff.1 HBD.out).1).trans HBD.out
              have hz7 : B < w5a.heap.size ∧ w5a.heap.size ≤ w7.heap.size := ⟨by have h1 := HS5.out.hH; have h2 := HW5.out.size; omega, Nat.le_trans HB6.out.size (Nat.le_trans HW6.out.size hb7.size)⟩
              obtain ⟨d0, d1, d2, _, _, _⟩ := box3 hD7
              obtain ⟨o0, o1, o2, f0, f1, f2⟩ := box3 hS7.bx
              have HS7 := Lib.hid hS7; have HI7 := Lib.hid hI7; have HC7 := Lib.hid hC7; have HZ7 := Lib.hid hz7
              clear hb7 hS7 hI7 hC7 hD7 hz7
              go_wp2_with fail
              go_roundg (60 - (k + 1))
              case measure => omega
              case rel =>
                have hn := was_next HS7.out HI7.out HC7.out HZ7.out
                exact ⟨k + 1, sl', G', xs', u1, u2, u3, (⟨sl', G', ys6, S6, Ga6, E6, sc6, gc6, ec6⟩ : Cir), w5a.heap.size, by omega, rfl, by go_num, Lib.hid ⟨hn.2, hn.1, ahead_of HI5.out (HW5.out.size), rfl, rfl, HY6.out, HV5.out, HXN.out, HZ5.out⟩⟩
            · obtain rfl : k = 60 := by omega
              go_wp2_with fail
              refine (alive_any _).mono ?_
              rintro e w8 ⟨rfl, hb8⟩
              have HB8 := Lib.hid hb8
              clear hb8
              go_wp2_with fail
              go_ret
              exact ⟨rfl, HK.out.low.trans (HB8.out.mono HK.out.low.size)⟩
      · as_aux_lemma =>
          have hN : acts.length ≤ 60 := by omega
          have hNl : acts.length ≤ acts.length := by omega
          have hcap : acts.length ≤ lc := by have := HLN.out.1; omega
          go_wp2_with fail
          go_loopg [70] acts.length (fun g i wr => ∃ (k : Nat) (sl : List Slo) (G : List Gat) (xs : List Exi) (v1 v2 v3 : Value) (C : Cir) (H : Nat), k ≤ acts.length ∧ g = acts.length - k ∧ i = .int .i64 k ∧ Hid (Kept w B w4.heap.size p ⟨w3.heap.size, 0, none⟩ (allN p ins 257) k sl G xs v1 v2 v3 C H wr))
          case atStart => exact ⟨0, _, _, _, _, _, _, _, _, by omega, rfl, rfl, HK0⟩
          case round =>
            obtain ⟨k, sl, G, xs, v1, v2, v3, C, H, hk, rfl, rfl, HK⟩ := hrel
            obtain rfl := HK.out.es
            obtain rfl := HK.out.eg
            by_cases hlt : k < acts.length
            · obtain ⟨ad, rfl, q0, q1, q2, q3, q4, q5, q6, q7, q8, q9, q10, q11, q12, q13, q14⟩ := (HL.out.below HK.out.low).act k (by omega)
              have HAk := Lib.hid (HA.out _ (List.getElem_mem (show k < acts.length by omega)))
              generalize acts[k] = t at *
              go_wp2_with fail
              clear q0 q1 q2 q3 q4 q5 q6 q7 q8 q9 q10 q11 q12 q13 q14
              obtain ⟨mN, hm15, hm⟩ := act_mod t.m
              rw [hm]
              have HM := Lib.hid hm; clear hm
              have hw2 : Below wr.heap.size wr (wr.alloc (.cells #[.int .i64 ((mN : Nat) : Int), .int .i64 t.a, .int .i64 t.b, .int .i64 t.c, .int .u64 t.k, .slice t.VA t.vs.length t.vc, .slice t.WA t.ws.length t.wc, .int .i64 t.s.1, .bool t.s.2, .int .i64 t.g.1, .int .i64 t.g.2.1, .int .i64 t.g.2.2.1, .int .u64 t.g.2.2.2, .slice t.x.A t.x.tl.length t.x.c, .slice t.x.B t.x.gl.length t.x.d] 46)) := (Below.refl _ _).alloc (Nat.le_refl _) _
              have HK2 := Lib.hid (HK.out.below hw2)
              have HA2 := Lib.hid (HAk.out.belowQ ((HK.out.low).trans (hw2.mono (by have := HK.out.low.size; omega))))
              have hbx2 := heap_alloc_new wr (.cells #[.int .i64 ((mN : Nat) : Int), .int .i64 t.a, .int .i64 t.b, .int .i64 t.c, .int .u64 t.k, .slice t.VA t.vs.length t.vc, .slice t.WA t.ws.length t.wc, .int .i64 t.s.1, .bool t.s.2, .int .i64 t.g.1, .int .i64 t.g.2.1, .int .i64 t.g.2.2.1, .int .u64 t.g.2.2.2, .slice t.x.A t.x.tl.length t.x.c, .slice t.x.B t.x.gl.length t.x.d] 46)
              have HBX2 := Lib.hid hbx2; clear hbx2
              have HW2 := Lib.hid hw2; clear hw2
              generalize hg2 : wr.alloc (.cells #[.int .i64 ((mN : Nat) : Int), .int .i64 t.a, .int .i64 t.b, .int .i64 t.c, .int .u64 t.k, .slice t.VA t.vs.length t.vc, .slice t.WA t.ws.length t.wc, .int .i64 t.s.1, .bool t.s.2, .int .i64 t.g.1, .int .i64 t.g.2.1, .int .i64 t.g.2.2.1, .int .u64 t.g.2.2.2, .slice t.x.A t.x.tl.length t.x.c, .slice t.x.B t.x.gl.length t.x.d] 46) = w2a at *
              refine (play_any B p (by omega) C.slots C.gates xs v1 v2 v3 mN hm15 t.a t.b t.c t.k t.vs t.ws t.s t.g t.x t.VA t.WA t.vc t.wc w2a HK2.out.b (by rw [HB.out]; exact HA2.out) HK2.out.b.hz).mono ?_
              rintro e w5 ⟨at_, X, n, cc, r, er, sl', G', xs', u1, u2, u3, rfl, hI5, hF5, ho5, hrn, hO⟩
              obtain ⟨hV5, hn5, hz5⟩ := out_next (by omega) hm15 HK2.out.v HK2.out.z hI5 hO
              have hS5 := HK2.out.s.play HK2.out.b HK2.out.a hF5
              have hB5 : w5.heap[wr.heap.size]? = some (.cells #[.int .i64 ((mN : Nat) : Int), .int .i64 t.a, .int .i64 t.b, .int .i64 t.c, .int .u64 t.k, .slice t.VA t.vs.length t.vc, .slice t.WA t.ws.length t.wc, .int .i64 t.s.1, .bool t.s.2, .int .i64 t.g.1, .int .i64 t.g.2.1, .int .i64 t.g.2.2.1, .int .u64 t.g.2.2.2, .slice t.x.A t.x.tl.length t.x.c, .slice t.x.B t.x.gl.length t.x.d] 46 (0, 0)) := by
                rw [HK2.out.a.far hF5 HK2.out.s.hH.1 HK.out.s.hH.2 (Array.getElem?_eq_some_iff.1 HBX2.out).1]
                exact HBX2.out
              have HI5 := Lib.hid hI5; have HO5 := Lib.hid ho5; have HRN := Lib.hid hrn; have HO := Lib.hid hO; have HV5 := Lib.hid hV5; have HN5 := Lib.hid hn5; have HZ5 := Lib.hid hz5; have HS5 := Lib.hid hS5; have HB5 := Lib.hid hB5
              clear hI5 hF5 ho5 hrn hO hV5 hn5 hz5 hS5 hB5
              go_wp2_with fail
              have hw5 : Below w5.heap.size w5 (w5.alloc (.cells #[.int .i64 at_, .slice X n cc, .int .i64 er] 49)) := (Below.refl _ _).alloc (Nat.le_refl _) _
              have hbn := heap_alloc_new w5 (.cells #[.int .i64 at_, .slice X n cc, .int .i64 er] 49)
              have hz5a : (w5.alloc (.cells #[.int .i64 at_, .slice X n cc, .int .i64 er] 49)).heap.size = w5.heap.size + 1 := by simp
              have HW5 := Lib.hid hw5; have HBN := Lib.hid hbn; have HZ5A := Lib.hid hz5a
              clear hw5 hbn hz5a
              generalize hg5 : w5.alloc (.cells #[.int .i64 at_, .slice X n cc, .int .i64 er] 49) = w5a at *
              have hxn : xs'.length ≤ k + 1 := by have h1 := HN5.out; have h2 := HK2.out.n; omega
              refine (circuit_any B p (by omega) sl' G' xs' u1 u2 u3 (by have := HV5.out.ns; omega) HI5.out.hz (by omega) (exi_sizes HV5.out HZ5.out) w5a (HI5.out.below HW5.out)).mono ?_
              rintro e w6 ⟨S6, sc6, Ga6, gc6, E6, ec6, ys6, rfl, hy6, hc6, hb6⟩
              have hI6 := (HI5.out.below HW5.out).below hb6
              have hS6 := (HS5.out.below HW5.out).below hb6
              have x6 := (hb6.block _ (Array.getElem?_eq_some_iff.1 HBN.out).1).trans HBN.out
              have y6 := ((HW5.out.trans (hb6.mono HW5.out.size)).block _ (Array.getElem?_eq_some_iff.1 HB5.out).1).trans HB5.out
              have z6 := hS6.bx
              have q0 : w6.cell? ⟨wr.heap.size, 0, none⟩ = some (.int .i64 ((mN : Nat) : Int)) := cell_in y6
              have q1 : w6.cell? ⟨wr.heap.size, 1, none⟩ = some (.int .i64 t.a) := cell_in y6
              have q2 : w6.cell? ⟨wr.heap.size, 2, none⟩ = some (.int .i64 t.b) := cell_in y6
              have q3 : w6.cell? ⟨wr.heap.size, 3, none⟩ = some (.int .i64 t.c) := cell_in y6
              have q4 : w6.cell? ⟨wr.heap.size, 4, none⟩ = some (.int .u64 t.k) := cell_in y6
              have q5 : w6.cell? ⟨wr.heap.size, 5, none⟩ = some (.slice t.VA t.vs.length t.vc) := cell_in y6
              have q6 : w6.cell? ⟨wr.heap.size, 6, none⟩ = some (.slice t.WA t.ws.length t.wc) := cell_in y6
              have q7 : w6.cell? ⟨wr.heap.size, 7, none⟩ = some (.int .i64 t.s.1) := cell_in y6
              have q8 : w6.cell? ⟨wr.heap.size, 8, none⟩ = some (.bool t.s.2) := cell_in y6
              have q9 : w6.cell? ⟨wr.heap.size, 9, none⟩ = some (.int .i64 t.g.1) := cell_in y6
              have q10 : w6.cell? ⟨wr.heap.size, 10, none⟩ = some (.int .i64 t.g.2.1) := cell_in y6
              have q11 : w6.cell? ⟨wr.heap.size, 11, none⟩ = some (.int .i64 t.g.2.2.1) := cell_in y6
              have q12 : w6.cell? ⟨wr.heap.size, 12, none⟩ = some (.int .u64 t.g.2.2.2) := cell_in y6
              have q13 : w6.cell? ⟨wr.heap.size, 13, none⟩ = some (.slice t.x.A t.x.tl.length t.x.c) := cell_in y6
              have q14 : w6.cell? ⟨wr.heap.size, 14, none⟩ = some (.slice t.x.B t.x.gl.length t.x.d) := cell_in y6
              have p0 : w6.cell? ⟨w5.heap.size, 0, none⟩ = some (.int .i64 at_) := cell_in x6
              have p1 : w6.cell? ⟨w5.heap.size, 1, none⟩ = some (.slice X n cc) := cell_in x6
              have p2 : w6.cell? ⟨w5.heap.size, 2, none⟩ = some (.int .i64 er) := cell_in x6
              have o0 : w6.cell? ⟨w4.heap.size, 0, none⟩ = some (.slice C.SA C.slots.length C.sc) := cell_in z6
              have o1 : w6.cell? ⟨w4.heap.size, 1, none⟩ = some (.slice C.GA C.gates.length C.gc) := cell_in z6
              have o2 : w6.cell? ⟨w4.heap.size, 2, none⟩ = some (.slice C.EA C.exits.length C.ec) := cell_in z6
              have s6 : wr.heap.size < w6.heap.size := (Array.getElem?_eq_some_iff.1 y6).1
              have s7 : w5.heap.size < w6.heap.size := (Array.getElem?_eq_some_iff.1 x6).1
              have s8 : w4.heap.size < w6.heap.size := (Array.getElem?_eq_some_iff.1 z6).1
              have HI6 := Lib.hid hI6; have HS6 := Lib.hid hS6; have HC6 := Lib.hid hc6; have HY6 := Lib.hid hy6; have HB6 := Lib.hid hb6; have HXN := Lib.hid hxn
              clear x6 y6 z6 hI6 hS6 hc6 hy6 hb6 hxn
              go_wp2_with fail
              clear q0 q1 q2 q3 q4 q5 q6 q7 q8 q9 q10 q11 q12 q13 q14 p0 p1 p2 o0 o1 o2 s6 s7 s8
              have hw6 : Below w6.heap.size w6 (w6.alloc (.cells #[.slice S6 sl'.length sc6, .slice Ga6 G'.length gc6, .slice E6 ys6.length ec6] 36)) := (Below.refl _ _).alloc (Nat.le_refl _) _
              have hbd := heap_alloc_new w6 (.cells #[.slice S6 sl'.length sc6, .slice Ga6 G'.length gc6, .slice E6 ys6.length ec6] 36)
              have HW6 := Lib.hid hw6; have HBD := Lib.hid hbd
              clear hw6 hbd
              generalize hg6 : w6.alloc (.cells #[.slice S6 sl'.length sc6, .slice Ga6 G'.length gc6, .slice E6 ys6.length ec6] 36) = w6b at *
              obtain rfl := HRN.out
              have hst := step_any p HP.out (by omega) hp2.2 mN hm15 t.a t.b t.c t.k t.vs t.ws t.s t.g t.x t.VA t.WA t.vc t.wc B at_ r er xs xs' C (⟨sl', G', ys6, S6, Ga6, E6, sc6, gc6, ec6⟩ : Cir) H w5a.heap.size X cc ⟨w3.heap.size, 0, none⟩ 257 (allN p ins 257) w6b HK2.out.v HV5.out (by have := HK2.out.n; omega) (by have := HXN.out; omega) HK2.out.ex HY6.out (HS6.out.c.below HW6.out) (HC6.out.below HW6.out)
                (by rw [HB.out]; exact HAk.out.belowQ (by have h1 := HS6.out.low; rw [HB.out] at h1; exact h1.trans (HW6.out.mono h1.size)))
                ((((own_reads_at HO5.out).below HW5.out).below HB6.out).below HW6.out) ((own_reads_at HS6.out.i).below HW6.out) (allN_len _ _ _) (by rw [allN_len]; exact Nat.le_refl _) (allN_lt (by omega) _ _) HO.out
              rw [allN_len] at hst
              refine hst.mono ?_
              clear hst
              rintro e w7 ⟨rfl, hb7⟩
              have hS7 := (HS6.out.below HW6.out).below hb7
              have hI7 := (HI6.out.below HW6.out).below hb7
              have hC7 := (HC6.out.below HW6.out).below hb7
              have hD7 := (hb7.block _ (Array.getElem?_eq_some_iff.1 HBD.out).1).trans HBD.out
              have hz7 : B < w5a.heap.size ∧ w5a.heap.size ≤ w7.heap.size := ⟨by have h1 := HS5.out.hH; have h2 := HW5.out.size; omega, Nat.le_trans HB6.out.size (Nat.le_trans HW6.out.size hb7.size)⟩
              obtain ⟨d0, d1, d2, _, _, _⟩ := box3 hD7
              obtain ⟨o0, o1, o2, f0, f1, f2⟩ := box3 hS7.bx
              have HS7 := Lib.hid hS7; have HI7 := Lib.hid hI7; have HC7 := Lib.hid hC7; have HZ7 := Lib.hid hz7
              clear hb7 hS7 hI7 hC7 hD7 hz7
              go_wp2_with fail
              go_roundg (acts.length - (k + 1))
              case measure => omega
              case rel =>
                have hn := was_next HS7.out HI7.out HC7.out HZ7.out
                exact ⟨k + 1, sl', G', xs', u1, u2, u3, (⟨sl', G', ys6, S6, Ga6, E6, sc6, gc6, ec6⟩ : Cir), w5a.heap.size, by omega, rfl, by go_num, Lib.hid ⟨hn.2, hn.1, ahead_of HI5.out (HW5.out.size), rfl, rfl, HY6.out, HV5.out, HXN.out, HZ5.out⟩⟩
            · obtain rfl : k = acts.length := by omega
              go_wp2_with fail
              refine (alive_any _).mono ?_
              rintro e w8 ⟨rfl, hb8⟩
              have HB8 := Lib.hid hb8
              clear hb8
              go_wp2_with fail
              go_ret
              exact ⟨rfl, HK.out.low.trans (HB8.out.mono HK.out.low.size)⟩
end Go.Proofs.YtkcdlbclodjjhaaGreat
