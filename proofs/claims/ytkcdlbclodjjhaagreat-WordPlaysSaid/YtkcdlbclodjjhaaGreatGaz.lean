/- Contracts and plain laws of chapter 13, merged: Te Qg Pp Rb. -/
import Derived.Test.YtkcdlbclodjjhaaGreatRe
import Derived.Deep.QuietTactic
import Derived.BigQuiet
import Derived.Test.YtkcdlbclodjjhaaGreatGah
import Derived.Test.YtkcdlbclodjjhaaGreatPo
import Derived.Deep.DrawnRows
/- The law's worth, for the acts that name no value. (Printed by wip/tools/gen_te.py.) -/
namespace Go.Proofs.YtkcdlbclodjjhaaGreat
open Go.RowKit

set_option maxHeartbeats 4000000 in
set_option maxRecDepth 100000 in
theorem worth_0 (p : Nat) (a b c k : Int) (VA WA A : Option Addr) (vl wl vc wc vn cc : Nat) (s : Slo) (g : Gat) (x : Exi) (w : World) :
    Calls Tryz.prog 44 #[.int .u64 ((p : Nat) : Int), .agg #[.int .i64 0, .int .i64 a, .int .i64 b, .int .i64 c, .int .u64 k, .slice VA vl vc, .slice WA wl wc, .int .i64 s.1, .bool s.2, .int .i64 g.1, .int .i64 g.2.1, .int .i64 g.2.2.1, .int .u64 g.2.2.2, .slice x.A x.tl.length x.c, .slice x.B x.gl.length x.d], .slice A vn cc] w (WRet (fun _ _ => False) w) := by
  have kb : (w.alloc (.cells #[.int .i64 0, .int .i64 a, .int .i64 b, .int .i64 c, .int .u64 k, .slice VA vl vc, .slice WA wl wc, .int .i64 s.1, .bool s.2, .int .i64 g.1, .int .i64 g.2.1, .int .i64 g.2.2.1, .int .u64 g.2.2.2, .slice x.A x.tl.length x.c, .slice x.B x.gl.length x.d] 46)).heap[w.heap.size]? = some (.cells #[.int .i64 0, .int .i64 a, .int .i64 b, .int .i64 c, .int .u64 k, .slice VA vl vc, .slice WA wl wc, .int .i64 s.1, .bool s.2, .int .i64 g.1, .int .i64 g.2.1, .int .i64 g.2.2.1, .int .u64 g.2.2.2, .slice x.A x.tl.length x.c, .slice x.B x.gl.length x.d] 46 (0, 0)) := heap_alloc_new w _
  have HB0 : Hid (Below w.heap.size w (w.alloc (.cells #[.int .i64 0, .int .i64 a, .int .i64 b, .int .i64 c, .int .u64 k, .slice VA vl vc, .slice WA wl wc, .int .i64 s.1, .bool s.2, .int .i64 g.1, .int .i64 g.2.1, .int .i64 g.2.2.1, .int .u64 g.2.2.2, .slice x.A x.tl.length x.c, .slice x.B x.gl.length x.d] 46))) := Lib.hid ((Below.refl _ _).alloc (Nat.le_refl _) _)
  have q0 : World.cell? _ ⟨w.heap.size, 0, none⟩ = some (.int .i64 0) := cell_in kb
  have q5 : World.cell? _ ⟨w.heap.size, 5, none⟩ = some (.slice VA vl vc) := cell_in kb
  clear kb
  go_enter Tryz.func44, Tryz.ntmps44
  go_wp2_with fail
  refine bodyPost_ret (results_tmp3 rfl _ _ _) rfl ?_
  exact ⟨_, _, _, rfl, HB0.out, fun h => by cases h⟩
set_option maxHeartbeats 4000000 in
set_option maxRecDepth 100000 in
theorem worth_1 (p : Nat) (a b c k : Int) (VA WA A : Option Addr) (vl wl vc wc vn cc : Nat) (s : Slo) (g : Gat) (x : Exi) (w : World) :
    Calls Tryz.prog 44 #[.int .u64 ((p : Nat) : Int), .agg #[.int .i64 1, .int .i64 a, .int .i64 b, .int .i64 c, .int .u64 k, .slice VA vl vc, .slice WA wl wc, .int .i64 s.1, .bool s.2, .int .i64 g.1, .int .i64 g.2.1, .int .i64 g.2.2.1, .int .u64 g.2.2.2, .slice x.A x.tl.length x.c, .slice x.B x.gl.length x.d], .slice A vn cc] w (WRet (fun _ _ => False) w) := by
  have kb : (w.alloc (.cells #[.int .i64 1, .int .i64 a, .int .i64 b, .int .i64 c, .int .u64 k, .slice VA vl vc, .slice WA wl wc, .int .i64 s.1, .bool s.2, .int .i64 g.1, .int .i64 g.2.1, .int .i64 g.2.2.1, .int .u64 g.2.2.2, .slice x.A x.tl.length x.c, .slice x.B x.gl.length x.d] 46)).heap[w.heap.size]? = some (.cells #[.int .i64 1, .int .i64 a, .int .i64 b, .int .i64 c, .int .u64 k, .slice VA vl vc, .slice WA wl wc, .int .i64 s.1, .bool s.2, .int .i64 g.1, .int .i64 g.2.1, .int .i64 g.2.2.1, .int .u64 g.2.2.2, .slice x.A x.tl.length x.c, .slice x.B x.gl.length x.d] 46 (0, 0)) := heap_alloc_new w _
  have HB0 : Hid (Below w.heap.size w (w.alloc (.cells #[.int .i64 1, .int .i64 a, .int .i64 b, .int .i64 c, .int .u64 k, .slice VA vl vc, .slice WA wl wc, .int .i64 s.1, .bool s.2, .int .i64 g.1, .int .i64 g.2.1, .int .i64 g.2.2.1, .int .u64 g.2.2.2, .slice x.A x.tl.length x.c, .slice x.B x.gl.length x.d] 46))) := Lib.hid ((Below.refl _ _).alloc (Nat.le_refl _) _)
  have q0 : World.cell? _ ⟨w.heap.size, 0, none⟩ = some (.int .i64 1) := cell_in kb
  have q5 : World.cell? _ ⟨w.heap.size, 5, none⟩ = some (.slice VA vl vc) := cell_in kb
  clear kb
  go_enter Tryz.func44, Tryz.ntmps44
  go_wp2_with fail
  refine bodyPost_ret (results_tmp3 rfl _ _ _) rfl ?_
  exact ⟨_, _, _, rfl, HB0.out, fun h => by cases h⟩
set_option maxHeartbeats 4000000 in
set_option maxRecDepth 100000 in
theorem worth_2 (p : Nat) (a b c k : Int) (VA WA A : Option Addr) (vl wl vc wc vn cc : Nat) (s : Slo) (g : Gat) (x : Exi) (w : World) :
    Calls Tryz.prog 44 #[.int .u64 ((p : Nat) : Int), .agg #[.int .i64 2, .int .i64 a, .int .i64 b, .int .i64 c, .int .u64 k, .slice VA vl vc, .slice WA wl wc, .int .i64 s.1, .bool s.2, .int .i64 g.1, .int .i64 g.2.1, .int .i64 g.2.2.1, .int .u64 g.2.2.2, .slice x.A x.tl.length x.c, .slice x.B x.gl.length x.d], .slice A vn cc] w (WRet (fun _ _ => False) w) := by
  have kb : (w.alloc (.cells #[.int .i64 2, .int .i64 a, .int .i64 b, .int .i64 c, .int .u64 k, .slice VA vl vc, .slice WA wl wc, .int .i64 s.1, .bool s.2, .int .i64 g.1, .int .i64 g.2.1, .int .i64 g.2.2.1, .int .u64 g.2.2.2, .slice x.A x.tl.length x.c, .slice x.B x.gl.length x.d] 46)).heap[w.heap.size]? = some (.cells #[.int .i64 2, .int .i64 a, .int .i64 b, .int .i64 c, .int .u64 k, .slice VA vl vc, .slice WA wl wc, .int .i64 s.1, .bool s.2, .int .i64 g.1, .int .i64 g.2.1, .int .i64 g.2.2.1, .int .u64 g.2.2.2, .slice x.A x.tl.length x.c, .slice x.B x.gl.length x.d] 46 (0, 0)) := heap_alloc_new w _
  have HB0 : Hid (Below w.heap.size w (w.alloc (.cells #[.int .i64 2, .int .i64 a, .int .i64 b, .int .i64 c, .int .u64 k, .slice VA vl vc, .slice WA wl wc, .int .i64 s.1, .bool s.2, .int .i64 g.1, .int .i64 g.2.1, .int .i64 g.2.2.1, .int .u64 g.2.2.2, .slice x.A x.tl.length x.c, .slice x.B x.gl.length x.d] 46))) := Lib.hid ((Below.refl _ _).alloc (Nat.le_refl _) _)
  have q0 : World.cell? _ ⟨w.heap.size, 0, none⟩ = some (.int .i64 2) := cell_in kb
  have q5 : World.cell? _ ⟨w.heap.size, 5, none⟩ = some (.slice VA vl vc) := cell_in kb
  clear kb
  go_enter Tryz.func44, Tryz.ntmps44
  go_wp2_with fail
  refine bodyPost_ret (results_tmp3 rfl _ _ _) rfl ?_
  exact ⟨_, _, _, rfl, HB0.out, fun h => by cases h⟩
end Go.Proofs.YtkcdlbclodjjhaaGreat

/- Contract of the law's begins, where the one circuit goes on from the other. -/
namespace Go.Proofs.YtkcdlbclodjjhaaGreat
open Go.RowKit

theorem reads_pre {w : World} {A : Option Addr} {cs ds : List Value} (h : Reads w A (cs ++ ds)) : Reads w A cs := by
  rcases h with h | ⟨ad, h1, h2⟩
  · exact .inl (by simp at h; exact h.1)
  · refine .inr ⟨ad, h1, fun j u hj => h2 j u ?_⟩
    rw [List.getElem?_append_left (List.getElem?_eq_some_iff.1 hj).1]; exact hj
theorem own_cap {w : World} {base n : Nat} {e : TypeId} {size : Nat} {A : Option Addr} {m c : Nat} {cs : List Value} (h : w.ownsRow base e size (.slice A m c) n cs) : n = m ∧ n ≤ c ∧ (A = none → c = 0) := by
  rcases h.2 with ⟨e1, e2⟩ | ⟨g, cap, cur, e1, _, _, hc, _⟩
  · injection e1 with e1 e3 e4; subst e2 e3 e4; exact ⟨rfl, Nat.le_refl _, fun _ => rfl⟩
  · injection e1 with e1 e3 e4; subst e3 e4; exact ⟨rfl, hc, fun h => by rw [h] at e1; cases e1⟩
set_option maxHeartbeats 2000000 in
set_option maxRecDepth 100000 in
theorem begins_ok (C D : Cir) (es : ∃ T, D.slots = C.slots ++ T) (eg : ∃ L, D.gates = C.gates ++ L) (ex : ∃ X, D.exits.map Exi.l = C.exits.map Exi.l ++ X) (c1 : D.slots.length ≤ D.sc) (c2 : D.gates.length ≤ D.gc) (c3 : D.exits.length ≤ D.ec) (w : World) (hC : HoldsC w C) (hD : HoldsC w D) :
    Calls Tryz.prog 39 #[.agg #[.slice C.SA C.slots.length C.sc, .slice C.GA C.gates.length C.gc, .slice C.EA C.exits.length C.ec], .agg #[.slice D.SA D.slots.length D.sc, .slice D.GA D.gates.length D.gc, .slice D.EA D.exits.length D.ec]] w fun e w' => e = .returned (.bool true) ∧ Below w.heap.size w w' := by
  obtain ⟨T, es⟩ := es
  obtain ⟨L, eg⟩ := eg
  obtain ⟨X, ex⟩ := ex
  have xl : D.exits.length = C.exits.length + X.length := by simpa using congrArg List.length ex
  have sl : D.slots.length = C.slots.length + T.length := by rw [es, List.length_append]
  have gl : D.gates.length = C.gates.length + L.length := by rw [eg, List.length_append]
  have lx : (D.exits.take C.exits.length).length = C.exits.length := by rw [List.length_take]; omega
  have hl : C.l = (⟨C.slots, C.gates, D.exits.take C.exits.length, D.SA, D.GA, D.EA, D.sc, D.gc, D.ec⟩ : Cir).l := by
    unfold Cir.l
    simp only
    have : (D.exits.take C.exits.length).map Exi.l = C.exits.map Exi.l := by rw [List.map_take, ex, List.take_append_of_le_length (by simp), List.take_of_length_le (by simp)]
    rw [this]
  have hD' : HoldsC w (⟨C.slots, C.gates, D.exits.take C.exits.length, D.SA, D.GA, D.EA, D.sc, D.gc, D.ec⟩ : Cir) := by
    refine ⟨?_, ?_, ?_, fun x hx => hD.x x (List.mem_of_mem_take hx), ⟨hC.n.1, hC.n.2.1, by simp only [lx]; exact hC.n.2.2⟩, fun x hx => hD.m x (List.mem_of_mem_take hx), hC.k⟩
    · have := hD.s; rw [es] at this; simp only [sloCells, List.flatMap_append] at this; exact reads_pre this
    · have := hD.g; rw [eg] at this; simp only [gatCells, List.flatMap_append] at this; exact reads_pre this
    · have := hD.e
      rw [← List.take_append_drop C.exits.length D.exits] at this
      simp only [exiCells, List.flatMap_append] at this
      exact reads_pre this
  have HS := Lib.hid (fun W (hb : Below w.heap.size w W) => rsame_any C ⟨C.slots, C.gates, D.exits.take C.exits.length, D.SA, D.GA, D.EA, D.sc, D.gc, D.ec⟩ hl W (hC.below hb) (hD'.below hb))
  simp only [lx] at HS
  obtain ⟨n1, n2, n3⟩ := hD.n
  clear hC hD hD' hl es eg ex lx
  generalize D.slots.length = ds at *
  generalize D.gates.length = dg at *
  generalize D.exits.length = dx at *
  generalize C.slots.length = cs at *
  generalize C.gates.length = cg at *
  generalize C.exits.length = cx at *
  generalize T.length = tl at *
  generalize L.length = ll at *
  generalize X.length = xl' at *
  have i1 : ¬ (ds : Int) < (cs : Int) := by omega
  have i2 : ¬ (dg : Int) < (cg : Int) := by omega
  have i3 : ¬ (dx : Int) < (cx : Int) := by omega
  have j1 : ¬ (D.sc : Int) < (cs : Int) := by omega
  have j2 : ¬ (D.gc : Int) < (cg : Int) := by omega
  have j3 : ¬ (D.ec : Int) < (cx : Int) := by omega
  have k1 : cs ≤ D.sc := by omega
  have k2 : cg ≤ D.gc := by omega
  have k3 : cx ≤ D.ec := by omega
  have b1 : ((w.alloc (.cells #[.slice C.SA cs C.sc, .slice C.GA cg C.gc, .slice C.EA cx C.ec] 36)).alloc (.cells #[.slice D.SA ds D.sc, .slice D.GA dg D.gc, .slice D.EA dx D.ec] 36)).heap[w.heap.size]? = some (.cells #[.slice C.SA cs C.sc, .slice C.GA cg C.gc, .slice C.EA cx C.ec] 36 (0, 0)) := by rw [Below.heap_alloc _ _ _ (by simp)]; exact heap_alloc_new w _
  have b2 : ((w.alloc (.cells #[.slice C.SA cs C.sc, .slice C.GA cg C.gc, .slice C.EA cx C.ec] 36)).alloc (.cells #[.slice D.SA ds D.sc, .slice D.GA dg D.gc, .slice D.EA dx D.ec] 36)).heap[w.heap.size + 1]? = some (.cells #[.slice D.SA ds D.sc, .slice D.GA dg D.gc, .slice D.EA dx D.ec] 36 (0, 0)) := by have := heap_alloc_new (w.alloc (.cells #[.slice C.SA cs C.sc, .slice C.GA cg C.gc, .slice C.EA cx C.ec] 36)) (.cells #[.slice D.SA ds D.sc, .slice D.GA dg D.gc, .slice D.EA dx D.ec] 36); simpa using this
  have hb0 : Below w.heap.size w ((w.alloc (.cells #[.slice C.SA cs C.sc, .slice C.GA cg C.gc, .slice C.EA cx C.ec] 36)).alloc (.cells #[.slice D.SA ds D.sc, .slice D.GA dg D.gc, .slice D.EA dx D.ec] 36)) := ((Below.refl _ _).alloc (Nat.le_refl _) _).alloc (by simp) _
  have HCE : Hid (∀ W, Below ((w.alloc (.cells #[.slice C.SA cs C.sc, .slice C.GA cg C.gc, .slice C.EA cx C.ec] 36)).alloc (.cells #[.slice D.SA ds D.sc, .slice D.GA dg D.gc, .slice D.EA dx D.ec] 36)).heap.size ((w.alloc (.cells #[.slice C.SA cs C.sc, .slice C.GA cg C.gc, .slice C.EA cx C.ec] 36)).alloc (.cells #[.slice D.SA ds D.sc, .slice D.GA dg D.gc, .slice D.EA dx D.ec] 36)) W → (fun W => W.cell? ⟨w.heap.size, 0, none⟩ = some (.slice C.SA cs C.sc) ∧ W.cell? ⟨w.heap.size, 1, none⟩ = some (.slice C.GA cg C.gc) ∧ W.cell? ⟨w.heap.size, 2, none⟩ = some (.slice C.EA cx C.ec) ∧ W.cell? ⟨w.heap.size + 1, 0, none⟩ = some (.slice D.SA ds D.sc) ∧ W.cell? ⟨w.heap.size + 1, 1, none⟩ = some (.slice D.GA dg D.gc) ∧ W.cell? ⟨w.heap.size + 1, 2, none⟩ = some (.slice D.EA dx D.ec)) W) := Lib.hid fun W hb => by
    have h1 := (hb.block _ (Array.getElem?_eq_some_iff.1 b1).1).trans b1
    have h2 := (hb.block _ (Array.getElem?_eq_some_iff.1 b2).1).trans b2
    exact ⟨cell_in h1, cell_in h1, cell_in h1, cell_in h2, cell_in h2, cell_in h2⟩
  have HB0 := Lib.hid hb0
  clear sl gl xl c1 c2 c3 b1 b2 hb0 n1 n2 n3
  go_enter Tryz.func39, Tryz.ntmps39
  go_wp2_with fail
  generalize ((w.alloc (.cells #[.slice C.SA cs C.sc, .slice C.GA cg C.gc, .slice C.EA cx C.ec] 36)).alloc (.cells #[.slice D.SA ds D.sc, .slice D.GA dg D.gc, .slice D.EA dx D.ec] 36)) = w2 at *
  go_region_held3 (fun W => W.cell? ⟨w.heap.size, 0, none⟩ = some (.slice C.SA cs C.sc) ∧ W.cell? ⟨w.heap.size, 1, none⟩ = some (.slice C.GA cg C.gc) ∧ W.cell? ⟨w.heap.size, 2, none⟩ = some (.slice C.EA cx C.ec) ∧ W.cell? ⟨w.heap.size + 1, 0, none⟩ = some (.slice D.SA ds D.sc) ∧ W.cell? ⟨w.heap.size + 1, 1, none⟩ = some (.slice D.GA dg D.gc) ∧ W.cell? ⟨w.heap.size + 1, 2, none⟩ = some (.slice D.EA dx D.ec)) (first | exact HCE.out _ (Below.refl _ _) | exact HCE.out _ (Below.refl _ _).drew | exact HCE.out _ HBs.out) (first
    | (go_at_call 7; refine (HS.out _ HB0.out.drew).mono ?_; rintro e ws ⟨rfl, hb⟩; have HBs := Lib.hid ((Below.refl w2.heap.size w2).drew.trans (hb.mono (Nat.le_refl _))); clear hb))
  all_goals (try go_wp2)
  all_goals go_ret
  all_goals exact ⟨rfl, HB0.out.trans (HBs.out.mono HB0.out.size)⟩
end Go.Proofs.YtkcdlbclodjjhaaGreat

/- Contract of the board's Circuit, with exits. (Printed by wip/tools/gen_po.py.) -/
namespace Go.Proofs.YtkcdlbclodjjhaaGreat
open Go.RowKit
attribute [local go_sem ↓] Go.wp_at_zero Go.wp_at_succ

/-- A circuit whose rows are all its own. -/
structure OwnC (base : Nat) (C : Cir) (W : World) : Prop where
  s : W.ownsRow base 40 2 (.slice C.SA C.slots.length C.sc) C.slots.length (sloCells C.slots)
  g : W.ownsRow base 42 4 (.slice C.GA C.gates.length C.gc) C.gates.length (gatCells C.gates)
  e : W.ownsRow base 44 2 (.slice C.EA C.exits.length C.ec) C.exits.length (exiCells C.exits)
  x : ∀ y ∈ C.exits, W.ownsRow base 3 1 (.slice y.A y.tl.length y.c) y.tl.length (iCells y.tl) ∧ W.ownsRow base 3 1 (.slice y.B y.gl.length y.d) y.gl.length (iCells y.gl)
theorem RowOr.reads {W : World} {base : Nat} {l : List Int} {A : Option Addr} {c : Nat} (h : RowOr W base l A c) : Reads W A (iCells l) := by
  rcases h with rfl | h
  · exact .inl rfl
  · exact own_reads_at h
/-- What the loop over the exits keeps. -/
structure CI (w : World) (k : Nat) (S : Option Addr) (sc : Nat) (Ga : Option Addr) (gc : Nat) (sl : List Slo) (G : List Gat) (ys : List Exi) (vE : Value) (W : World) : Prop where
  bx : W.heap[k]? = some (.cells #[.slice S sl.length sc, .slice Ga G.length gc, vE] 36 (0, 0))
  s : W.ownsRow w.heap.size 40 2 (.slice S sl.length sc) sl.length (sloCells sl)
  g : W.ownsRow w.heap.size 42 4 (.slice Ga G.length gc) G.length (gatCells G)
  e : W.ownsRow w.heap.size 44 2 vE ys.length (exiCells ys)
  x : ∀ y ∈ ys, W.ownsRow w.heap.size 3 1 (.slice y.A y.tl.length y.c) y.tl.length (iCells y.tl) ∧ W.ownsRow w.heap.size 3 1 (.slice y.B y.gl.length y.d) y.gl.length (iCells y.gl)
  low : Below w.heap.size w W
  res : W.heap[w.heap.size]? = some (.cells #[nilS, nilS, nilS] 36 (0, 0))
  lk : w.heap.size < k
theorem CI.below {w : World} {k : Nat} {S : Option Addr} {sc : Nat} {Ga : Option Addr} {gc : Nat} {sl : List Slo} {G : List Gat} {ys : List Exi} {vE : Value} {W W' : World} (h : CI w k S sc Ga gc sl G ys vE W) (hb : Below W.heap.size W W') : CI w k S sc Ga gc sl G ys vE W' :=
  ⟨(hb.block _ (Array.getElem?_eq_some_iff.1 h.bx).1).trans h.bx, own_below h.s hb, own_below h.g hb, own_below h.e hb, fun y hy => ⟨own_below (h.x y hy).1 hb, own_below (h.x y hy).2 hb⟩, h.low.trans (hb.mono h.low.size), (hb.block _ (Array.getElem?_eq_some_iff.1 h.res).1).trans h.res, h.lk⟩
theorem own_not_box {W : World} {base n size k : Nat} {e t : TypeId} {v : Value} {cs : List Value} {xs : Array Value} {fr : Nat × Nat} (ho : W.ownsRow base e size v n cs) (hb : W.heap[k]? = some (.cells xs t fr)) (ht : t ≠ e) : some k ≠ v.ownBlock := fun h => by
  rcases ho.2 with ⟨rfl, _⟩ | ⟨g, cap, cur, rfl, _, hg, _⟩
  · cases h
  · injection h with h
    subst h
    have h2 := hb.symm.trans hg
    injection h2 with h2
    injection h2 with _ h2 _
    exact ht h2
theorem CI.push {w : World} {k : Nat} {S : Option Addr} {sc : Nat} {Ga : Option Addr} {gc : Nat} {sl : List Slo} {G : List Gat} {ys : List Exi} {vE v : Value} {W W3 : World} (h : CI w k S sc Ga gc sl G ys vE W) {x : Exi} (ho : W3.ownsRow w.heap.size 44 2 v (ys.length + 1) (exiCells ys ++ [.slice x.A x.tl.length x.c, .slice x.B x.gl.length x.d])) (hg : W.grownBy W3 vE.ownBlock)
    (h1 : W.ownsRow w.heap.size 3 1 (.slice x.A x.tl.length x.c) x.tl.length (iCells x.tl)) (h2 : W.ownsRow w.heap.size 3 1 (.slice x.B x.gl.length x.d) x.gl.length (iCells x.gl)) :
    CI w k S sc Ga gc sl G (ys ++ [x]) v (W3.setCell ⟨k, 2, none⟩ v) := by
  have hb3 : W3.heap[k]? = _ := (hg.block _ (Array.getElem?_eq_some_iff.1 h.bx).1 (own_not_box h.e h.bx (by decide))).trans h.bx
  have hr3 : W3.heap[w.heap.size]? = _ := (hg.block _ (Array.getElem?_eq_some_iff.1 h.res).1 (own_not_box h.e h.res (by decide))).trans h.res
  refine ⟨?_, own_box (h.s.kept hg (own_ne h.s h.e (by decide))) hb3 (by decide), own_box (h.g.kept hg (own_ne h.g h.e (by decide))) hb3 (by decide), ?_, fun y hy => ?_, ?_, ?_, h.lk⟩
  · have := box_set (i := 2) hb3 v
    simpa using this
  · have := own_box (j := 2) (u := v) ho hb3 (by decide)
    rw [show exiCells (ys ++ [x]) = exiCells ys ++ [.slice x.A x.tl.length x.c, .slice x.B x.gl.length x.d] by simp [exiCells]]
    simpa using this
  · rcases List.mem_append.1 hy with hy | hy
    · exact ⟨own_box ((h.x y hy).1.kept hg (own_ne (h.x y hy).1 h.e (by decide))) hb3 (by decide), own_box ((h.x y hy).2.kept hg (own_ne (h.x y hy).2 h.e (by decide))) hb3 (by decide)⟩
    · rw [List.mem_singleton.1 hy]
      exact ⟨own_box (h1.kept hg (own_ne h1 h.e (by decide))) hb3 (by decide), own_box (h2.kept hg (own_ne h2 h.e (by decide))) hb3 (by decide)⟩
  · exact (h.low.grown hg h.low.size (fun q hq => (h.e.lt q hq).1)).setCell (Nat.le_of_lt h.lk) _
  · exact box_farE hr3 (Nat.ne_of_lt h.lk)
set_option maxHeartbeats 4000000 in
set_option maxRecDepth 10000000 in
theorem circuit_any (B p : Nat) (hp : 0 < p) (sl : List Slo) (G : List Gat) (xs : List Exi) (v1 v2 v3 : Value) (hs : sl.length ≤ 65536) (hg : G.length ≤ 65536) (hxl : xs.length ≤ 4096) (hxx : ∀ x ∈ xs, (x.A = none → x.c = 0) ∧ (x.B = none → x.d = 0) ∧ x.tl.length ≤ 65536 ∧ x.gl.length ≤ 65536) (w : World) (h : IsB B p sl G xs v1 v2 v3 w) :
    Calls Tryz.prog 8 #[.pointer (some ⟨B, 0, none⟩)] w fun e W' => ∃ (S : Option Addr) (sc : Nat) (Ga : Option Addr) (gc : Nat) (E : Option Addr) (ec : Nat) (ys : List Exi), e = .returned (.agg #[.slice S sl.length sc, .slice Ga G.length gc, .slice E ys.length ec]) ∧ ys.map Exi.l = xs.map Exi.l ∧ OwnC w.heap.size ⟨sl, G, ys, S, Ga, E, sc, gc, ec⟩ W' ∧ Below w.heap.size w W' := by
  have HM := Lib.hid (fun W q => made_any B p hp W q)
  have HI := Lib.hid h
  have q0 := (box4 h.hb).1
  have hlt := h.lt
  have HS : Hid (∀ W, Below w.heap.size w W → Calls Tryz.prog 23 #[v1] W fun e w' => ∃ S sc, e = .returned (.slice S sl.length sc) ∧ w'.ownsRow W.heap.size 40 2 (.slice S sl.length sc) sl.length (sloCells sl) ∧ Below W.heap.size W w' ∧ Below w.heap.size w w') :=
    Lib.hid fun W hb => (cloneS_own (B + 1) sl.length v1 (sloCells sl) hs (one_slo sl) W (own_below h.h1 hb)).mono fun _ _ he => by
      obtain ⟨v', e1, h2, h3⟩ := he
      obtain ⟨S, sc, rfl, _⟩ := own_reads h2
      exact ⟨S, sc, e1, h2, h3, hb.trans (h3.mono hb.size)⟩
  have HG : Hid (∀ W, Below w.heap.size w W → Calls Tryz.prog 24 #[v2] W fun e w' => ∃ S sc, e = .returned (.slice S G.length sc) ∧ w'.ownsRow W.heap.size 42 4 (.slice S G.length sc) G.length (gatCells G) ∧ Below W.heap.size W w' ∧ Below w.heap.size w w') :=
    Lib.hid fun W hb => (cloneG_own (B + 1) G.length v2 (gatCells G) hg (one_gat G) W (own_below h.h2 hb)).mono fun _ _ he => by
      obtain ⟨v', e1, h2, h3⟩ := he
      obtain ⟨S, sc, rfl, _⟩ := own_reads h2
      exact ⟨S, sc, e1, h2, h3, hb.trans (h3.mono hb.size)⟩
  obtain ⟨SA, sc0, rfl, _⟩ := own_reads h.h1
  obtain ⟨GA, gc0, rfl, _⟩ := own_reads h.h2
  obtain ⟨EA, ec0, rfl, _⟩ := own_reads h.h3
  have HXX := Lib.hid hxx
  have HXL := Lib.hid hxl
  clear hxx hxl
  clear h
  go_enter Tryz.func8, Tryz.ntmps8
  go_wp2_with (go_at_call 22; refine (HM.out _ (cell_al q0)).mono ?_; rintro e w1 ⟨rfl, hw1⟩; have HW1 := Lib.hid hw1; clear hw1)
  have hb1 : Below w.heap.size w w1 := by rw [← HW1.out]; exact (Below.refl _ _).alloc (Nat.le_refl _) _
  have k0 : w1.heap[w.heap.size]? = some (.cells #[nilS, nilS, nilS] 36 (0, 0)) := by rw [← HW1.out]; exact heap_alloc_new w _
  have l0 : w.heap.size < w1.heap.size := (Array.getElem?_eq_some_iff.1 k0).1
  have HB1 := Lib.hid hb1; have HK0 := Lib.hid k0
  clear q0 HW1 k0
  have hbx : ∀ W, Below w.heap.size w W → W.cell? ⟨B, 1, none⟩ = some (.slice SA sl.length sc0) ∧ W.cell? ⟨B, 2, none⟩ = some (.slice GA G.length gc0) := fun W hb => by
    have h5 := box4 ((hb.block _ hlt).trans HI.out.hb)
    exact ⟨h5.2.1, h5.2.2.1⟩
  have HBX := Lib.hid hbx
  have q1 := (hbx w1 hb1).1
  have q2 := (hbx w1 hb1).2
  have q3 := (box4 ((hb1.block _ hlt).trans HI.out.hb)).2.2.2.1
  clear hbx hb1
  go_upto_region 3 with fail
  go_cut [3] (fun s3 wx => ∃ (k : Nat) (S : Option Addr) (sc : Nat) (Ga : Option Addr) (gc : Nat), s3 = .pointer (some ⟨k, 0, none⟩) ∧ w.heap.size < k ∧ wx.heap[k]? = some (.cells #[.slice S sl.length sc, .slice Ga G.length gc, nilS] 36 (0, 0)) ∧ wx.ownsRow w.heap.size 40 2 (.slice S sl.length sc) sl.length (sloCells sl) ∧ wx.ownsRow w.heap.size 42 4 (.slice Ga G.length gc) G.length (gatCells G) ∧ Below w.heap.size w wx ∧ wx.heap[w.heap.size]? = some (.cells #[nilS, nilS, nilS] 36 (0, 0)))
  case first =>
    go_region_held3 (fun W => W.cell? ⟨B, 1, none⟩ = some (.slice SA sl.length sc0) ∧ W.cell? ⟨B, 2, none⟩ = some (.slice GA G.length gc0)) (exact HBX.out _ (by repeat (first | exact HB3.out | exact HB2.out | exact HB1.out | refine Below.drew ?_ | refine Below.setCell ?_ (by first | omega | (simp; omega)) _ | refine Below.alloc ?_ (by first | exact HB3.out.size | exact HB2.out.size | exact HB1.out.size | exact HB1.out.drew.size) _))) (first
      | (go_at_call 23; refine (HS.out _ (by repeat (first | exact HB3.out | exact HB2.out | exact HB1.out | refine Below.drew ?_ | refine Below.setCell ?_ (by first | omega | (simp; omega)) _ | refine Below.alloc ?_ (by first | exact HB3.out.size | exact HB2.out.size | exact HB1.out.size | exact HB1.out.drew.size) _))).mono ?_; rintro e w2 ⟨S2, sc2, rfl, hO2, hb2, hbw⟩; have x12 : Below w1.heap.size w1 w2 := (by first | exact (Below.refl w1.heap.size w1).drew.trans hb2 | exact ((Below.refl w1.heap.size w1).alloc (Nat.le_refl _) _).drew.trans (hb2.mono (by simp))); have y2 := x12.size; have X12 := Lib.hid x12; have HO2 := Lib.hid (own_lower hO2 (show w.heap.size ≤ _ by first | (simp; omega) | omega)); clear x12; (try (have kk2 : w2.heap[w1.heap.size]? = some (.cells #[nilS, nilS, nilS] 36 (0, 0)) := (hb2.block w1.heap.size (by simp)).trans (heap_alloc_new w1 _); obtain ⟨c0, c1, c2, f0, f1, f2⟩ := box_facts kk2)); have z2 := hbw.size; have HB2 := Lib.hid hbw; clear hbw hO2 hb2)
      | (go_at_call 24; refine (HG.out _ (by repeat (first | exact HB3.out | exact HB2.out | exact HB1.out | refine Below.drew ?_ | refine Below.setCell ?_ (by first | omega | (simp; omega)) _ | refine Below.alloc ?_ (by first | exact HB3.out.size | exact HB2.out.size | exact HB1.out.size | exact HB1.out.drew.size) _))).mono ?_; rintro e w3 ⟨S3, sc3, rfl, hO3, hb3, hbw⟩; have x23 : Below w2.heap.size w2 w3 := (by first | exact hb3 | exact ((Below.refl w2.heap.size w2).alloc (Nat.le_refl _) _).trans (hb3.mono (by simp))); have y3 := x23.size; have X23 := Lib.hid x23; have HO3 := Lib.hid (own_lower hO3 (show w.heap.size ≤ _ by first | (simp; omega) | omega)); clear x23; (try (have kk3 : w3.heap[w1.heap.size]? = some (.cells #[nilS, nilS, nilS] 36 (0, 0)) := (hb3.block w1.heap.size (World.block_lt_of_cell? _ _ c0)).trans kk2; clear c0 c1 c2 f0 f1 f2; obtain ⟨c0, c1, c2, f0, f1, f2⟩ := box_facts kk3)); (try (have kk4 : w3.heap[w2.heap.size]? = some (.cells #[nilS, nilS, nilS] 36 (0, 0)) := (hb3.block w2.heap.size (by simp)).trans (heap_alloc_new w2 _); obtain ⟨c0, c1, c2, f0, f1, f2⟩ := box_facts kk4)); have z3 := hbw.size; have HB3 := Lib.hid hbw; clear hbw hO3 hb3))
    all_goals (go_wp2_with fail; go_meet)
    all_goals have hk1 := (X23.out.block w.heap.size (by omega)).trans ((X12.out.block w.heap.size l0).trans HK0.out)
    all_goals have hO2 := own_below HO2.out X23.out
    all_goals first
      | exact ⟨w3.heap.size, S2, sc2, S3, sc3, rfl, by omega, heap_alloc_new w3 _, hO2.alloc _, HO3.out.alloc _, HB3.out.alloc HB3.out.size _, by rw [Below.heap_alloc _ _ _ (by omega)]; exact hk1⟩
      | exact ⟨w2.heap.size, S2, sc2, S3, sc3, rfl, by omega, box_store kk4, own_store kk4 hO2 (by decide), own_store kk4 HO3.out (by decide), below_store HB3.out (by omega), far_store hk1 (by omega)⟩
      | exact ⟨w1.heap.size, S2, sc2, S3, sc3, rfl, by omega, box_store kk3, own_store kk3 hO2 (by decide), own_store kk3 HO3.out (by decide), below_store HB3.out (by omega), far_store hk1 (by omega)⟩
  case rest =>
  obtain ⟨k, S, sc, Ga, gc, rfl, hkw, hbx, hO2, hO3, hB, hbr⟩ := hcut
  have q3' := (box4 ((hB.block _ hlt).trans HI.out.hb)).2.2.2.1
  obtain ⟨c0, c1, c2, f0, f1, f2⟩ := box_facts hbx
  obtain ⟨d0, d1, d2, g0, g1, g2⟩ := box_facts hbr
  have HCI : Hid (CI w k S sc Ga gc sl G [] nilS wc) := Lib.hid ⟨hbx, hO2, hO3, World.ownsRow_nil _ _ _ _, by simp, hB, hbr, hkw⟩
  have hlw : B < wc.heap.size := Nat.lt_of_lt_of_le hlt hB.size
  clear hO2 hO3 hB hbx hbr q1 q2 q3
  go_wp2
  go_loopg [29] xs.length (fun g i' wr => ∃ (j : Nat) (ys : List Exi) (vE : Value), j ≤ xs.length ∧ g = xs.length - j ∧ i' = .int .i64 j ∧ Hid (ys.map Exi.l = (xs.take j).map Exi.l) ∧ Hid (CI w k S sc Ga gc sl G ys vE wr))
  case atStart => exact ⟨0, [], nilS, Nat.zero_le _, rfl, rfl, Lib.hid rfl, HCI⟩
  case round =>
    clear HCI c0 c1 c2 f0 f1 f2 d0 d1 d2 g0 g1 g2 q3'
    obtain ⟨j, ys, vE, hj, rfl, rfl, HY, HR⟩ := hrel
    by_cases hlj : j < xs.length
    · obtain ⟨ad, had, p0, p1⟩ := (own_reads_at (own_below HI.out.h3 HR.out.low)).exi j hlj
      have hmem := List.getElem_mem hlj
      obtain ⟨r1, r2⟩ := HI.out.hx _ hmem
      obtain ⟨x1, x2, x3, x4⟩ := HXX.out _ hmem
      have HCA := Lib.hid (fun W (hb : Below w.heap.size w W) => cloneI_any xs[j].tl xs[j].A xs[j].c x1 x3 W (r1.reads.below hb))
      have HCB := Lib.hid (fun W (hb : Below w.heap.size w W) => cloneI_any xs[j].gl xs[j].B xs[j].d x2 x4 W (r2.reads.below hb))
      have HSU : Hid ((xs.take (j + 1)).map Exi.l = (xs.take j).map Exi.l ++ [xs[j].l]) := Lib.hid (by rw [List.take_succ_eq_append_getElem hlj, List.map_append]; rfl)
      clear r1 r2 x1 x2 x3 x4 hmem
      generalize xs[j] = x at *
      generalize hl1 : x.tl.length = tn at *
      generalize hl2 : x.gl.length = rn at *
      generalize x.A = XA at *
      generalize x.B = XB at *
      generalize x.c = xc at *
      generalize x.d = xd at *
      have lwr : w.heap.size < wr.heap.size := (Array.getElem?_eq_some_iff.1 HR.out.res).1
      have HAD := Lib.hid had
      rw [had]
      have i1 : (0 : Int) ≤ (j : Int) := by omega
      have i2 : (j : Int) < (xs.length : Int) := by omega
      go_upto_region 7 with fail
      have hyl : ys.length = j := by
        have := congrArg List.length HY.out
        simp only [List.length_map, List.length_take] at this
        omega
      have HYL := Lib.hid hyl
      obtain ⟨EE, ee, rfl, _⟩ := own_reads HR.out.e
      have hb5 := (Below.refl wr.heap.size wr).alloc (Nat.le_refl _) (.cells #[.slice XA tn xc, .slice XB rn xd] 44)
      have HC5 := Lib.hid (HR.out.below hb5)
      have hx5 := heap_alloc_new wr (.cells #[.slice XA tn xc, .slice XB rn xd] 44)
      have hkr : k < wr.heap.size := (Array.getElem?_eq_some_iff.1 HR.out.bx).1
      generalize (wr.alloc (.cells #[.slice XA tn xc, .slice XB rn xd] 44)) = w5 at *
      have HX5 := Lib.hid hx5
      have HL5 := Lib.hid hb5.size
      have HKR := Lib.hid hkr
      have hBF : ∀ W, Below w5.heap.size w5 W → W.cell? ⟨k, 2, none⟩ = some (.slice EE ys.length ee) ∧ W.frozen? ⟨k, 2, none⟩ = false ∧ W.cell? ⟨wr.heap.size, 0, none⟩ = some (.slice XA tn xc) ∧ W.cell? ⟨wr.heap.size, 1, none⟩ = some (.slice XB rn xd) := fun W hb => by
        have h5 := box_facts ((hb.block _ (Array.getElem?_eq_some_iff.1 HC5.out.bx).1).trans HC5.out.bx)
        have h6 := (hb.block _ (Array.getElem?_eq_some_iff.1 HX5.out).1).trans HX5.out
        exact ⟨h5.2.2.1, h5.2.2.2.2.2, cell_in h6, cell_in h6⟩
      have HBF := Lib.hid hBF
      have q3 := (hBF _ (Below.refl _ _)).1
      have q6 := (hBF _ (Below.refl _ _)).2.1
      have c0 := (hBF _ (Below.refl _ _)).2.2.1
      have c1 := (hBF _ (Below.refl _ _)).2.2.2
      have HDA : Hid (∀ W, Below w5.heap.size w5 W → Calls Tryz.prog 25 #[.slice XA tn xc] W fun e w' => ∃ A' c', e = .returned (.slice A' tn c') ∧ w'.ownsRow W.heap.size 3 1 (.slice A' tn c') tn (iCells x.tl) ∧ Below W.heap.size W w') := Lib.hid fun W hb => HCA.out W (HC5.out.low.trans (hb.mono HC5.out.low.size))
      have HDB : Hid (∀ W, Below w5.heap.size w5 W → Calls Tryz.prog 25 #[.slice XB rn xd] W fun e w' => ∃ A' c', e = .returned (.slice A' rn c') ∧ w'.ownsRow W.heap.size 3 1 (.slice A' rn c') rn (iCells x.gl) ∧ Below W.heap.size W w') := Lib.hid fun W hb => HCB.out W (HC5.out.low.trans (hb.mono HC5.out.low.size))
      have nK : ¬ k = wr.heap.size := by omega
      have HNK := Lib.hid nK
      clear hBF hb5 hx5 p0 p1 HCA HCB hyl hkr
      go_region_law (first
          | (go_simp; go_at_call 25; with_reducible refine (HDB.out _ (by repeat (first | exact HBb.out | exact HBa.out | exact Below.refl _ _ | refine Below.drew ?_ | refine Below.alloc ?_ (by first | exact HBb.out.size | exact HBa.out.size | (simp; done) | (simp; omega)) _))).mono ?_; rintro e wb ⟨A2, c2, rfl, hO2, hb2⟩; have HO2 := Lib.hid hO2; have HBab := Lib.hid hb2; have HBb := Lib.hid (HBa.out.trans (hb2.mono HBa.out.size)); clear q3 q6; have q3 := (HBF.out _ HBb.out).1; have q6 := (HBF.out _ HBb.out).2.1; have lBb : k < wb.heap.size := (Nat.lt_of_lt_of_le (Array.getElem?_eq_some_iff.1 HC5.out.bx).1 HBb.out.size); have nBb : ¬ k = wb.heap.size := (by omega); clear hO2 hb2)
          | (go_simp; go_at_call 25; with_reducible refine (HDA.out _ (by repeat (first | exact HBb.out | exact HBa.out | exact Below.refl _ _ | refine Below.drew ?_ | refine Below.alloc ?_ (by first | exact HBb.out.size | exact HBa.out.size | (simp; done) | (simp; omega)) _))).mono ?_; rintro e wa ⟨A1, c1', rfl, hO1, hb1⟩; have HO1 := Lib.hid hO1; have HBa := Lib.hid ((Below.refl w5.heap.size w5).drew.trans (hb1.mono (Nat.le_refl _))); clear q3 q6 c0 c1; have q3 := (HBF.out _ HBa.out).1; have q6 := (HBF.out _ HBa.out).2.1; have c0 := (HBF.out _ HBa.out).2.2.1; have c1 := (HBF.out _ HBa.out).2.2.2; clear hO1 hb1)
          | (refine step_app_cells (W0 := wb) (by repeat (first | exact Below.refl _ _ | refine Below.drew ?_ | refine Below.alloc ?_ (by simp) _)) w.heap.size rfl _ _ 34 44 _ 2 48 rfl Tryz.underlying34 infoExi rfl (by decide) (by decide) (.slice EE ys.length ee) ys.length _ [.slice A1 tn c1', .slice A2 rn c2] rfl _ rfl rfl (heap_alloc_new _ _) (by intro u hu; simp at hu; rcases hu with rfl | rfl <;> rfl) (own_below HC5.out.e HBb.out) (Nat.le_trans HC5.out.low.size HBb.out.size) (by have := HYL.out; have := HXL.out; omega) ?_; intro g4 c4 w4 hown4 hg4 hgb4; have hIb := HC5.out.below HBb.out; have hbx := box_facts ((hg4.block _ (Array.getElem?_eq_some_iff.1 hIb.bx).1 (own_not_box hIb.e hIb.bx (by decide))).trans hIb.bx); clear q3 q6; have q3 : w4.cell? ⟨k, 2, none⟩ = _ := hbx.2.2.1; have q6 : w4.frozen? ⟨k, 2, none⟩ = _ := hbx.2.2.2.2.2; have hxb := (HBb.out.block _ (Array.getElem?_eq_some_iff.1 HX5.out).1).trans HX5.out; have HP4 := Lib.hid ((hg4.block _ (Array.getElem?_eq_some_iff.1 hxb).1 (own_past_all HR.out.e (Nat.le_refl _))).trans hxb); have HO4 := Lib.hid hown4; have HG4 := Lib.hid hg4; have HIB := Lib.hid hIb; clear hbx hxb hown4 hg4 hgb4 hIb))
      all_goals go_wp2
      all_goals rw [← HAD.out]
      all_goals go_roundg (xs.length - (j + 1))
      all_goals first
        | omega
        | exact ⟨j + 1, ys ++ [⟨x.tl, x.gl, A1, A2, c1', c2⟩], _, Nat.succ_le_of_lt (Int.ofNat_lt.1 i2), rfl, by have h5 := HXL.out; rw [show wrap64 ((j : Int) + 1) = ((j + 1 : Nat) : Int) by (unfold wrap64; omega)], Lib.hid (by rw [HSU.out, ← HY.out, List.map_append]; rfl), Lib.hid (HIB.out.push (x := ⟨x.tl, x.gl, A1, A2, c1', c2⟩) (by have h5 := HO4.out; rw [← hl1, ← hl2] at h5; exact h5) HG4.out (by have h5 := own_below (own_lower HO1.out HC5.out.low.size) HBab.out; rw [← hl1] at h5; exact h5) (by have h5 := own_lower HO2.out (Nat.le_trans HC5.out.low.size HBa.out.size); rw [← hl2] at h5; exact h5))⟩
    · obtain rfl : j = xs.length := by omega
      obtain ⟨E, ec, rfl, _⟩ := own_reads HR.out.e
      obtain ⟨c0, c1, c2, f0, f1, f2⟩ := box_facts HR.out.bx
      obtain ⟨d0, d1, d2, g0, g1, g2⟩ := box_facts HR.out.res
      go_wp2
      refine bodyPost_ret (v := .agg #[.slice S sl.length sc, .slice Ga G.length gc, .slice E ys.length ec]) ?_ rfl ⟨S, sc, Ga, gc, E, ec, ys, rfl, by have := HY.out; rwa [List.take_length] at this, ?_, below_store HR.out.low (Nat.le_refl _)⟩
      · rw [results_cell_tmp1 rfl]
        go_simp
      · exact ⟨own_store HR.out.res HR.out.s (by decide), own_store HR.out.res HR.out.g (by decide), own_store HR.out.res HR.out.e (by decide), fun y hy => ⟨own_store HR.out.res (HR.out.x y hy).1 (by decide), own_store HR.out.res (HR.out.x y hy).2 (by decide)⟩⟩
end Go.Proofs.YtkcdlbclodjjhaaGreat

/- The law's exact, its first region: three rows copied. (Printed by wip/tools/gen_rb.py.) -/
namespace Go.Proofs.YtkcdlbclodjjhaaGreat
open Go.RowKit

/-- The temporaries while the three rows are copied. -/
abbrev XAct (t0 t1 t2 t3 t4 t5 t6 x9 x10 x11 x12 x13 x14 x15 x16 x17 x18 x19 x20 x21 x22 : Value) : Act := ⟨#[t0, t1, t2, t3, t4, t5, t6, undef, .bool false, x9, x10, x11, x12, x13, x14, x15, x16, x17, x18, x19, x20, x21, x22, undef, undef, undef, undef, undef, undef, undef, undef, undef, undef, undef, undef, undef, undef, undef, undef, undef, undef, undef, undef, undef, undef, undef, undef, undef, undef, undef, undef, undef, undef, undef, undef, undef, undef, undef, undef, undef, undef, undef, undef, undef, undef, undef, undef, undef, undef, undef, undef, undef, undef, undef, undef, undef, undef, undef, undef, undef, undef, undef, undef, undef], []⟩
theorem own_grown {w w1 : World} {base base' : Nat} {e e' : TypeId} {size size' n n' : Nat} {v v' : Value} {xs xs' : List Value} (h : w.ownsRow base e size v n xs) (h' : w.ownsRow base' e' size' v' n' xs') (hne : e ≠ e') (hg : w.grownBy w1 v'.ownBlock) : w1.ownsRow base e size v n xs := h.kept hg (own_ne h h' hne)
/-- What is so while the three rows are copied: L says which operations have run. -/
structure XF (H : Nat) (w0 : World) (C : Cir) (bw : Nat) (L : Nat → Bool) (x9 x10 x11 x12 x13 x14 x15 x16 x17 x18 x19 x20 x21 x22 : Value) (w : World) : Prop where
  low : Below H w0 w
  f0 : L 0 = true → L 3 = false → w.ownsRow H 40 2 x10 0 []
  f1 : L 1 = true → x11 = .pointer (some ⟨bw, 0, none⟩)
  f2 : L 2 = true → x12 = .slice C.SA C.slots.length C.sc
  f3 : L 3 = true → w.ownsRow H 40 2 x13 (C.slots.length) (sloCells C.slots)
  f4 : L 4 = true → L 7 = false → w.ownsRow H 42 4 x14 0 []
  f5 : L 5 = true → x15 = .pointer (some ⟨bw, 1, none⟩)
  f6 : L 6 = true → x16 = .slice C.GA C.gates.length C.gc
  f7 : L 7 = true → w.ownsRow H 42 4 x17 (C.gates.length) (gatCells C.gates)
  f8 : L 8 = true → L 11 = false → w.ownsRow H 44 2 x18 0 []
  f9 : L 9 = true → x19 = .pointer (some ⟨bw, 2, none⟩)
  f10 : L 10 = true → x20 = .slice C.EA C.exits.length C.ec
  f11 : L 11 = true → w.ownsRow H 44 2 x21 (C.exits.length) (exiCells C.exits)
  f12 : L 12 = true → x22 = .agg #[x13, x17, x21]
  f13 : L 13 = true → ∃ k u1 u2 u3, x9 = .pointer (some ⟨k, 0, none⟩) ∧ H ≤ k ∧ w.heap[k]? = some (.cells #[u1, u2, u3] 36 (0, 0)) ∧ (L 14 = true → u1 = x13 ∧ u2 = x17 ∧ u3 = x21)
variable {H : Nat} {w0 w w1 : World} {C : Cir} {bw : Nat} {L : Nat → Bool} {x9 x10 x11 x12 x13 x14 x15 x16 x17 x18 x19 x20 x21 x22 : Value}
theorem XF.below (h : XF H w0 C bw L x9 x10 x11 x12 x13 x14 x15 x16 x17 x18 x19 x20 x21 x22 w) (hH : H ≤ w.heap.size) (hb : Below w.heap.size w w1) : XF H w0 C bw L x9 x10 x11 x12 x13 x14 x15 x16 x17 x18 x19 x20 x21 x22 w1 :=
  ⟨h.low.trans (hb.mono hH), fun a b => own_below (h.f0 a b) hb, h.f1, h.f2, fun a => own_below (h.f3 a) hb, fun a b => own_below (h.f4 a b) hb, h.f5, h.f6, fun a => own_below (h.f7 a) hb, fun a b => own_below (h.f8 a b) hb, h.f9, h.f10, fun a => own_below (h.f11 a) hb, h.f12, fun a => by
    obtain ⟨k, u1, u2, u3, e1, e2, e3, e4⟩ := h.f13 a
    exact ⟨k, u1, u2, u3, e1, e2, (hb.block _ (Array.getElem?_eq_some_iff.1 e3).1).trans e3, e4⟩⟩
theorem XF.s0 (h : XF H w0 C bw L x9 x10 x11 x12 x13 x14 x15 x16 x17 x18 x19 x20 x21 x22 w) (hH : H ≤ w.heap.size) : XF H w0 C bw (fun j => decide (j = 0) || L j) x9 (.slice (some ⟨w.heap.size, 0, none⟩) 0 0) x11 x12 x13 x14 x15 x16 x17 x18 x19 x20 x21 x22 (w.alloc (.cells #[] 40)) := by
  have hb : Below w.heap.size w (w.alloc (.cells #[] 40)) := (Below.refl _ _).alloc (Nat.le_refl _) _
  have h := h.below hH hb
  exact ⟨h.low, fun _ _ => ⟨rfl, .inr ⟨w.heap.size, 0, #[], rfl, hH, heap_alloc_new w _, Nat.le_refl _, by decide, rfl, rfl⟩⟩, fun a => h.f1 (by simpa using a), fun a => h.f2 (by simpa using a), fun a => h.f3 (by simpa using a), fun a b => h.f4 (by simpa using a) (by simpa using b), fun a => h.f5 (by simpa using a), fun a => h.f6 (by simpa using a), fun a => h.f7 (by simpa using a), fun a b => h.f8 (by simpa using a) (by simpa using b), fun a => h.f9 (by simpa using a), fun a => h.f10 (by simpa using a), fun a => h.f11 (by simpa using a), fun a => h.f12 (by simpa using a), fun a => by obtain ⟨k, u1, u2, u3, e1, e2, e3, e4⟩ := h.f13 (by simpa using a); exact ⟨k, u1, u2, u3, e1, e2, e3, fun b => e4 (by simpa using b)⟩⟩
theorem XF.s1 (h : XF H w0 C bw L x9 x10 x11 x12 x13 x14 x15 x16 x17 x18 x19 x20 x21 x22 w) : XF H w0 C bw (fun j => decide (j = 1) || L j) x9 x10 (.pointer (some ⟨bw, 0, none⟩)) x12 x13 x14 x15 x16 x17 x18 x19 x20 x21 x22 w :=
  ⟨h.low, fun a b => h.f0 (by simpa using a) (by simpa using b), fun _ => rfl, fun a => h.f2 (by simpa using a), fun a => h.f3 (by simpa using a), fun a b => h.f4 (by simpa using a) (by simpa using b), fun a => h.f5 (by simpa using a), fun a => h.f6 (by simpa using a), fun a => h.f7 (by simpa using a), fun a b => h.f8 (by simpa using a) (by simpa using b), fun a => h.f9 (by simpa using a), fun a => h.f10 (by simpa using a), fun a => h.f11 (by simpa using a), fun a => h.f12 (by simpa using a), fun a => by obtain ⟨k, u1, u2, u3, e1, e2, e3, e4⟩ := h.f13 (by simpa using a); exact ⟨k, u1, u2, u3, e1, e2, e3, fun b => e4 (by simpa using b)⟩⟩
theorem XF.s2 (h : XF H w0 C bw L x9 x10 x11 x12 x13 x14 x15 x16 x17 x18 x19 x20 x21 x22 w) : XF H w0 C bw (fun j => decide (j = 2) || L j) x9 x10 x11 (.slice C.SA C.slots.length C.sc) x13 x14 x15 x16 x17 x18 x19 x20 x21 x22 w :=
  ⟨h.low, fun a b => h.f0 (by simpa using a) (by simpa using b), fun a => h.f1 (by simpa using a), fun _ => rfl, fun a => h.f3 (by simpa using a), fun a b => h.f4 (by simpa using a) (by simpa using b), fun a => h.f5 (by simpa using a), fun a => h.f6 (by simpa using a), fun a => h.f7 (by simpa using a), fun a b => h.f8 (by simpa using a) (by simpa using b), fun a => h.f9 (by simpa using a), fun a => h.f10 (by simpa using a), fun a => h.f11 (by simpa using a), fun a => h.f12 (by simpa using a), fun a => by obtain ⟨k, u1, u2, u3, e1, e2, e3, e4⟩ := h.f13 (by simpa using a); exact ⟨k, u1, u2, u3, e1, e2, e3, fun b => e4 (by simpa using b)⟩⟩
theorem XF.s3 {v : Value} (h : XF H w0 C bw L x9 x10 x11 x12 x13 x14 x15 x16 x17 x18 x19 x20 x21 x22 w) (hH : H ≤ w.heap.size) (h0 : L 0 = true) (h3 : L 3 = false) (hc : L 12 = true → L 3 = true) (hc4 : L 14 = true → L 3 = true) (ho : w1.ownsRow H 40 2 v (C.slots.length) (sloCells C.slots)) (hg : w.grownBy w1 x10.ownBlock) : XF H w0 C bw (fun j => decide (j = 3) || L j) x9 x10 x11 x12 v x14 x15 x16 x17 x18 x19 x20 x21 x22 w1 := by
  have h1 := h.f0 h0 h3
  have hlow := h.low.grown hg hH (fun q hq => (h1.lt q hq).1)
  exact ⟨hlow, fun _ b => by simp at b, fun a => h.f1 (by simpa using a), fun a => h.f2 (by simpa using a), fun _ => ho, fun a b => own_grown (h.f4 (by simpa using a) (by simpa using b)) h1 (by decide) hg, fun a => h.f5 (by simpa using a), fun a => h.f6 (by simpa using a), fun a => own_grown (h.f7 (by simpa using a)) h1 (by decide) hg, fun a b => own_grown (h.f8 (by simpa using a) (by simpa using b)) h1 (by decide) hg, fun a => h.f9 (by simpa using a), fun a => h.f10 (by simpa using a), fun a => own_grown (h.f11 (by simpa using a)) h1 (by decide) hg, fun a => by have := hc (by simpa using a); rw [h3] at this; exact absurd this (by decide), fun a => by obtain ⟨k, u1, u2, u3, e1, e2, e3, _⟩ := h.f13 (by simpa using a); exact ⟨k, u1, u2, u3, e1, e2, (hg.block k (Array.getElem?_eq_some_iff.1 e3).1 (own_not_box h1 e3 (by decide))).trans e3, fun b => by have := hc4 (by simpa using b); rw [h3] at this; exact absurd this (by decide)⟩⟩
theorem XF.s4 (h : XF H w0 C bw L x9 x10 x11 x12 x13 x14 x15 x16 x17 x18 x19 x20 x21 x22 w) (hH : H ≤ w.heap.size) : XF H w0 C bw (fun j => decide (j = 4) || L j) x9 x10 x11 x12 x13 (.slice (some ⟨w.heap.size, 0, none⟩) 0 0) x15 x16 x17 x18 x19 x20 x21 x22 (w.alloc (.cells #[] 42)) := by
  have hb : Below w.heap.size w (w.alloc (.cells #[] 42)) := (Below.refl _ _).alloc (Nat.le_refl _) _
  have h := h.below hH hb
  exact ⟨h.low, fun a b => h.f0 (by simpa using a) (by simpa using b), fun a => h.f1 (by simpa using a), fun a => h.f2 (by simpa using a), fun a => h.f3 (by simpa using a), fun _ _ => ⟨rfl, .inr ⟨w.heap.size, 0, #[], rfl, hH, heap_alloc_new w _, Nat.le_refl _, by decide, rfl, rfl⟩⟩, fun a => h.f5 (by simpa using a), fun a => h.f6 (by simpa using a), fun a => h.f7 (by simpa using a), fun a b => h.f8 (by simpa using a) (by simpa using b), fun a => h.f9 (by simpa using a), fun a => h.f10 (by simpa using a), fun a => h.f11 (by simpa using a), fun a => h.f12 (by simpa using a), fun a => by obtain ⟨k, u1, u2, u3, e1, e2, e3, e4⟩ := h.f13 (by simpa using a); exact ⟨k, u1, u2, u3, e1, e2, e3, fun b => e4 (by simpa using b)⟩⟩
theorem XF.s5 (h : XF H w0 C bw L x9 x10 x11 x12 x13 x14 x15 x16 x17 x18 x19 x20 x21 x22 w) : XF H w0 C bw (fun j => decide (j = 5) || L j) x9 x10 x11 x12 x13 x14 (.pointer (some ⟨bw, 1, none⟩)) x16 x17 x18 x19 x20 x21 x22 w :=
  ⟨h.low, fun a b => h.f0 (by simpa using a) (by simpa using b), fun a => h.f1 (by simpa using a), fun a => h.f2 (by simpa using a), fun a => h.f3 (by simpa using a), fun a b => h.f4 (by simpa using a) (by simpa using b), fun _ => rfl, fun a => h.f6 (by simpa using a), fun a => h.f7 (by simpa using a), fun a b => h.f8 (by simpa using a) (by simpa using b), fun a => h.f9 (by simpa using a), fun a => h.f10 (by simpa using a), fun a => h.f11 (by simpa using a), fun a => h.f12 (by simpa using a), fun a => by obtain ⟨k, u1, u2, u3, e1, e2, e3, e4⟩ := h.f13 (by simpa using a); exact ⟨k, u1, u2, u3, e1, e2, e3, fun b => e4 (by simpa using b)⟩⟩
theorem XF.s6 (h : XF H w0 C bw L x9 x10 x11 x12 x13 x14 x15 x16 x17 x18 x19 x20 x21 x22 w) : XF H w0 C bw (fun j => decide (j = 6) || L j) x9 x10 x11 x12 x13 x14 x15 (.slice C.GA C.gates.length C.gc) x17 x18 x19 x20 x21 x22 w :=
  ⟨h.low, fun a b => h.f0 (by simpa using a) (by simpa using b), fun a => h.f1 (by simpa using a), fun a => h.f2 (by simpa using a), fun a => h.f3 (by simpa using a), fun a b => h.f4 (by simpa using a) (by simpa using b), fun a => h.f5 (by simpa using a), fun _ => rfl, fun a => h.f7 (by simpa using a), fun a b => h.f8 (by simpa using a) (by simpa using b), fun a => h.f9 (by simpa using a), fun a => h.f10 (by simpa using a), fun a => h.f11 (by simpa using a), fun a => h.f12 (by simpa using a), fun a => by obtain ⟨k, u1, u2, u3, e1, e2, e3, e4⟩ := h.f13 (by simpa using a); exact ⟨k, u1, u2, u3, e1, e2, e3, fun b => e4 (by simpa using b)⟩⟩
theorem XF.s7 {v : Value} (h : XF H w0 C bw L x9 x10 x11 x12 x13 x14 x15 x16 x17 x18 x19 x20 x21 x22 w) (hH : H ≤ w.heap.size) (h0 : L 4 = true) (h3 : L 7 = false) (hc : L 12 = true → L 7 = true) (hc4 : L 14 = true → L 7 = true) (ho : w1.ownsRow H 42 4 v (C.gates.length) (gatCells C.gates)) (hg : w.grownBy w1 x14.ownBlock) : XF H w0 C bw (fun j => decide (j = 7) || L j) x9 x10 x11 x12 x13 x14 x15 x16 v x18 x19 x20 x21 x22 w1 := by
  have h1 := h.f4 h0 h3
  have hlow := h.low.grown hg hH (fun q hq => (h1.lt q hq).1)
  exact ⟨hlow, fun a b => own_grown (h.f0 (by simpa using a) (by simpa using b)) h1 (by decide) hg, fun a => h.f1 (by simpa using a), fun a => h.f2 (by simpa using a), fun a => own_grown (h.f3 (by simpa using a)) h1 (by decide) hg, fun _ b => by simp at b, fun a => h.f5 (by simpa using a), fun a => h.f6 (by simpa using a), fun _ => ho, fun a b => own_grown (h.f8 (by simpa using a) (by simpa using b)) h1 (by decide) hg, fun a => h.f9 (by simpa using a), fun a => h.f10 (by simpa using a), fun a => own_grown (h.f11 (by simpa using a)) h1 (by decide) hg, fun a => by have := hc (by simpa using a); rw [h3] at this; exact absurd this (by decide), fun a => by obtain ⟨k, u1, u2, u3, e1, e2, e3, _⟩ := h.f13 (by simpa using a); exact ⟨k, u1, u2, u3, e1, e2, (hg.block k (Array.getElem?_eq_some_iff.1 e3).1 (own_not_box h1 e3 (by decide))).trans e3, fun b => by have := hc4 (by simpa using b); rw [h3] at this; exact absurd this (by decide)⟩⟩
theorem XF.s8 (h : XF H w0 C bw L x9 x10 x11 x12 x13 x14 x15 x16 x17 x18 x19 x20 x21 x22 w) (hH : H ≤ w.heap.size) : XF H w0 C bw (fun j => decide (j = 8) || L j) x9 x10 x11 x12 x13 x14 x15 x16 x17 (.slice (some ⟨w.heap.size, 0, none⟩) 0 0) x19 x20 x21 x22 (w.alloc (.cells #[] 44)) := by
  have hb : Below w.heap.size w (w.alloc (.cells #[] 44)) := (Below.refl _ _).alloc (Nat.le_refl _) _
  have h := h.below hH hb
  exact ⟨h.low, fun a b => h.f0 (by simpa using a) (by simpa using b), fun a => h.f1 (by simpa using a), fun a => h.f2 (by simpa using a), fun a => h.f3 (by simpa using a), fun a b => h.f4 (by simpa using a) (by simpa using b), fun a => h.f5 (by simpa using a), fun a => h.f6 (by simpa using a), fun a => h.f7 (by simpa using a), fun _ _ => ⟨rfl, .inr ⟨w.heap.size, 0, #[], rfl, hH, heap_alloc_new w _, Nat.le_refl _, by decide, rfl, rfl⟩⟩, fun a => h.f9 (by simpa using a), fun a => h.f10 (by simpa using a), fun a => h.f11 (by simpa using a), fun a => h.f12 (by simpa using a), fun a => by obtain ⟨k, u1, u2, u3, e1, e2, e3, e4⟩ := h.f13 (by simpa using a); exact ⟨k, u1, u2, u3, e1, e2, e3, fun b => e4 (by simpa using b)⟩⟩
theorem XF.s9 (h : XF H w0 C bw L x9 x10 x11 x12 x13 x14 x15 x16 x17 x18 x19 x20 x21 x22 w) : XF H w0 C bw (fun j => decide (j = 9) || L j) x9 x10 x11 x12 x13 x14 x15 x16 x17 x18 (.pointer (some ⟨bw, 2, none⟩)) x20 x21 x22 w :=
  ⟨h.low, fun a b => h.f0 (by simpa using a) (by simpa using b), fun a => h.f1 (by simpa using a), fun a => h.f2 (by simpa using a), fun a => h.f3 (by simpa using a), fun a b => h.f4 (by simpa using a) (by simpa using b), fun a => h.f5 (by simpa using a), fun a => h.f6 (by simpa using a), fun a => h.f7 (by simpa using a), fun a b => h.f8 (by simpa using a) (by simpa using b), fun _ => rfl, fun a => h.f10 (by simpa using a), fun a => h.f11 (by simpa using a), fun a => h.f12 (by simpa using a), fun a => by obtain ⟨k, u1, u2, u3, e1, e2, e3, e4⟩ := h.f13 (by simpa using a); exact ⟨k, u1, u2, u3, e1, e2, e3, fun b => e4 (by simpa using b)⟩⟩
theorem XF.s10 (h : XF H w0 C bw L x9 x10 x11 x12 x13 x14 x15 x16 x17 x18 x19 x20 x21 x22 w) : XF H w0 C bw (fun j => decide (j = 10) || L j) x9 x10 x11 x12 x13 x14 x15 x16 x17 x18 x19 (.slice C.EA C.exits.length C.ec) x21 x22 w :=
  ⟨h.low, fun a b => h.f0 (by simpa using a) (by simpa using b), fun a => h.f1 (by simpa using a), fun a => h.f2 (by simpa using a), fun a => h.f3 (by simpa using a), fun a b => h.f4 (by simpa using a) (by simpa using b), fun a => h.f5 (by simpa using a), fun a => h.f6 (by simpa using a), fun a => h.f7 (by simpa using a), fun a b => h.f8 (by simpa using a) (by simpa using b), fun a => h.f9 (by simpa using a), fun _ => rfl, fun a => h.f11 (by simpa using a), fun a => h.f12 (by simpa using a), fun a => by obtain ⟨k, u1, u2, u3, e1, e2, e3, e4⟩ := h.f13 (by simpa using a); exact ⟨k, u1, u2, u3, e1, e2, e3, fun b => e4 (by simpa using b)⟩⟩
theorem XF.s11 {v : Value} (h : XF H w0 C bw L x9 x10 x11 x12 x13 x14 x15 x16 x17 x18 x19 x20 x21 x22 w) (hH : H ≤ w.heap.size) (h0 : L 8 = true) (h3 : L 11 = false) (hc : L 12 = true → L 11 = true) (hc4 : L 14 = true → L 11 = true) (ho : w1.ownsRow H 44 2 v (C.exits.length) (exiCells C.exits)) (hg : w.grownBy w1 x18.ownBlock) : XF H w0 C bw (fun j => decide (j = 11) || L j) x9 x10 x11 x12 x13 x14 x15 x16 x17 x18 x19 x20 v x22 w1 := by
  have h1 := h.f8 h0 h3
  have hlow := h.low.grown hg hH (fun q hq => (h1.lt q hq).1)
  exact ⟨hlow, fun a b => own_grown (h.f0 (by simpa using a) (by simpa using b)) h1 (by decide) hg, fun a => h.f1 (by simpa using a), fun a => h.f2 (by simpa using a), fun a => own_grown (h.f3 (by simpa using a)) h1 (by decide) hg, fun a b => own_grown (h.f4 (by simpa using a) (by simpa using b)) h1 (by decide) hg, fun a => h.f5 (by simpa using a), fun a => h.f6 (by simpa using a), fun a => own_grown (h.f7 (by simpa using a)) h1 (by decide) hg, fun _ b => by simp at b, fun a => h.f9 (by simpa using a), fun a => h.f10 (by simpa using a), fun _ => ho, fun a => by have := hc (by simpa using a); rw [h3] at this; exact absurd this (by decide), fun a => by obtain ⟨k, u1, u2, u3, e1, e2, e3, _⟩ := h.f13 (by simpa using a); exact ⟨k, u1, u2, u3, e1, e2, (hg.block k (Array.getElem?_eq_some_iff.1 e3).1 (own_not_box h1 e3 (by decide))).trans e3, fun b => by have := hc4 (by simpa using b); rw [h3] at this; exact absurd this (by decide)⟩⟩
theorem XF.s12 (h : XF H w0 C bw L x9 x10 x11 x12 x13 x14 x15 x16 x17 x18 x19 x20 x21 x22 w) : XF H w0 C bw (fun j => decide (j = 12) || L j) x9 x10 x11 x12 x13 x14 x15 x16 x17 x18 x19 x20 x21 (.agg #[x13, x17, x21]) w :=
  ⟨h.low, fun a b => h.f0 (by simpa using a) (by simpa using b), fun a => h.f1 (by simpa using a), fun a => h.f2 (by simpa using a), fun a => h.f3 (by simpa using a), fun a b => h.f4 (by simpa using a) (by simpa using b), fun a => h.f5 (by simpa using a), fun a => h.f6 (by simpa using a), fun a => h.f7 (by simpa using a), fun a b => h.f8 (by simpa using a) (by simpa using b), fun a => h.f9 (by simpa using a), fun a => h.f10 (by simpa using a), fun a => h.f11 (by simpa using a), fun _ => rfl, fun a => by obtain ⟨k, u1, u2, u3, e1, e2, e3, e4⟩ := h.f13 (by simpa using a); exact ⟨k, u1, u2, u3, e1, e2, e3, fun b => e4 (by simpa using b)⟩⟩
theorem XF.s13 (h : XF H w0 C bw L x9 x10 x11 x12 x13 x14 x15 x16 x17 x18 x19 x20 x21 x22 w) (hH : H ≤ w.heap.size) (h0 : L 13 = false) (hc : L 14 = true → L 13 = true) : XF H w0 C bw (fun j => decide (j = 13) || L j) (.pointer (some ⟨w.heap.size, 0, none⟩)) x10 x11 x12 x13 x14 x15 x16 x17 x18 x19 x20 x21 x22 (w.alloc (.cells #[nilS, nilS, nilS] 36)) := by
  have h := h.below hH ((Below.refl w.heap.size w).alloc (Nat.le_refl _) (.cells #[nilS, nilS, nilS] 36))
  exact ⟨h.low, fun a b => h.f0 (by simpa using a) (by simpa using b), fun a => h.f1 (by simpa using a), fun a => h.f2 (by simpa using a), fun a => h.f3 (by simpa using a), fun a b => h.f4 (by simpa using a) (by simpa using b), fun a => h.f5 (by simpa using a), fun a => h.f6 (by simpa using a), fun a => h.f7 (by simpa using a), fun a b => h.f8 (by simpa using a) (by simpa using b), fun a => h.f9 (by simpa using a), fun a => h.f10 (by simpa using a), fun a => h.f11 (by simpa using a), fun a => h.f12 (by simpa using a), fun _ => ⟨w.heap.size, nilS, nilS, nilS, rfl, hH, heap_alloc_new w _, fun b => by have := hc (by simpa using b); rw [h0] at this; cases this⟩⟩
theorem XF.s14 {q n1 n2 n3 c1 c2 c3 : Nat} {A1 A2 A3 : Option Addr} {x10 x11 x12 x14 x15 x16 x18 x19 x20 x22 : Value} (h : XF H w0 C bw L (.pointer (some ⟨q, 0, none⟩)) x10 x11 x12 (.slice A1 n1 c1) x14 x15 x16 (.slice A2 n2 c2) x18 x19 x20 (.slice A3 n3 c3) x22 w) (hH : H ≤ w.heap.size) (l3 : L 3 = true) (l7 : L 7 = true) (l11 : L 11 = true) :
    XF H w0 C bw (fun j => decide (j = 14) || L j) (.pointer (some ⟨q, 0, none⟩)) x10 x11 x12 (.slice A1 n1 c1) x14 x15 x16 (.slice A2 n2 c2) x18 x19 x20 (.slice A3 n3 c3) x22 (((w.setCell ⟨q, 0, none⟩ (.slice A1 n1 c1)).setCell ⟨q, 1, none⟩ (.slice A2 n2 c2)).setCell ⟨q, 2, none⟩ (.slice A3 n3 c3)) ∨ L 13 = false := by
  cases h13 : L 13 with
  | false => exact .inr rfl
  | true =>
    left
    obtain ⟨k, u1, u2, u3, e1, e2, e3, _⟩ := h.f13 h13
    injection e1 with e1
    injection e1 with e1
    injection e1 with e1 _ _
    subst e1
    have hg : w.grownBy (((w.setCell ⟨q, 0, none⟩ (.slice A1 n1 c1)).setCell ⟨q, 1, none⟩ (.slice A2 n2 c2)).setCell ⟨q, 2, none⟩ (.slice A3 n3 c3)) (some q) := ((grown_set _ ⟨q, 0, none⟩ _).trans (grown_set _ ⟨q, 1, none⟩ _)).trans (grown_set _ ⟨q, 2, none⟩ _)
    have hlow := h.low.grown hg hH (fun q2 hq => by injection hq with hq; omega)
    have hbx := box_set (i := 2) (box_set (i := 1) (box_set (i := 0) e3 (.slice A1 n1 c1)) (.slice A2 n2 c2)) (.slice A3 n3 c3)
    exact ⟨hlow, fun _ b => absurd (show L 3 = false by simpa using b) (by rw [l3]; decide), fun a => h.f1 (by simpa using a), fun a => h.f2 (by simpa using a), fun a => (h.f3 (by simpa using a)).kept hg (.inr (Ne.symm (own_not_box (h.f3 (by simpa using a)) e3 (by decide)))), fun _ b => absurd (show L 7 = false by simpa using b) (by rw [l7]; decide), fun a => h.f5 (by simpa using a), fun a => h.f6 (by simpa using a), fun a => (h.f7 (by simpa using a)).kept hg (.inr (Ne.symm (own_not_box (h.f7 (by simpa using a)) e3 (by decide)))), fun _ b => absurd (show L 11 = false by simpa using b) (by rw [l11]; decide), fun a => h.f9 (by simpa using a), fun a => h.f10 (by simpa using a), fun a => (h.f11 (by simpa using a)).kept hg (.inr (Ne.symm (own_not_box (h.f11 (by simpa using a)) e3 (by decide)))), fun a => h.f12 (by simpa using a), fun _ => ⟨q, .slice A1 n1 c1, .slice A2 n2 c2, .slice A3 n3 c3, rfl, e2, hbx, fun _ => ⟨rfl, rfl, rfl⟩⟩⟩
end Go.Proofs.YtkcdlbclodjjhaaGreat
