/- The law's worth, for the acts on single gates. (Printed by wip/tools/gen_re.py.) -/
import Derived.Test.YtkcdlbclodjjhaaGreatQc
import Derived.Test.YtkcdlbclodjjhaaGreatQd
import Derived.Test.YtkcdlbclodjjhaaGreatGav
import Derived.Test.YtkcdlbclodjjhaaGreatGat
import Derived.OwnWalk
import Derived.Deep.RegionHeld3
namespace Go.Proofs.YtkcdlbclodjjhaaGreat
open Go.RowKit

/-- What worth answers: a number, a width, and whether it says anything. -/
def WRet (want : Int → Int → Prop) (w : World) (e : Ending) (w' : World) : Prop := ∃ (t n : Int) (say : Bool), e = .returned (.tuple #[.int .u64 t, .int .i64 n, .bool say]) ∧ Below w.heap.size w w' ∧ (say = true → want t n)
theorem cell_alA {w : World} {o : Obj} {a : Addr} {v : Value} (h : w.cell? a = some v) : (w.alloc o).cell? a = some v := (((Below.refl _ _).alloc (Nat.le_refl _) o).cell (World.block_lt_of_cell? _ _ h)).trans h
theorem cell_blA {w W : World} {a : Addr} {v : Value} (h : w.cell? a = some v) (hb : Below w.heap.size w W) : W.cell? a = some v := (hb.cell (World.block_lt_of_cell? _ _ h)).trans h

set_option maxHeartbeats 4000000 in
set_option maxRecDepth 100000 in
theorem worth_3 (p : Nat) (a b c : Int) (k : Nat) (VA WA A : Option Addr) (vl wl vc wc vn cc : Nat) (s : Slo) (g : Gat) (x : Exi) (w : World)  :
    Calls Tryz.prog 44 #[.int .u64 ((p : Nat) : Int), .agg #[.int .i64 3, .int .i64 a, .int .i64 b, .int .i64 c, .int .u64 ((k : Nat) : Int), .slice VA vl vc, .slice WA wl wc, .int .i64 s.1, .bool s.2, .int .i64 g.1, .int .i64 g.2.1, .int .i64 g.2.2.1, .int .u64 g.2.2.2, .slice x.A x.tl.length x.c, .slice x.B x.gl.length x.d], .slice A vn cc] w (WRet (fun t n => t = ((k : Nat) : Int) ∧ n = 0) w) := by
  have kb : (w.alloc (.cells #[.int .i64 3, .int .i64 a, .int .i64 b, .int .i64 c, .int .u64 ((k : Nat) : Int), .slice VA vl vc, .slice WA wl wc, .int .i64 s.1, .bool s.2, .int .i64 g.1, .int .i64 g.2.1, .int .i64 g.2.2.1, .int .u64 g.2.2.2, .slice x.A x.tl.length x.c, .slice x.B x.gl.length x.d] 46)).heap[w.heap.size]? = some (.cells #[.int .i64 3, .int .i64 a, .int .i64 b, .int .i64 c, .int .u64 ((k : Nat) : Int), .slice VA vl vc, .slice WA wl wc, .int .i64 s.1, .bool s.2, .int .i64 g.1, .int .i64 g.2.1, .int .i64 g.2.2.1, .int .u64 g.2.2.2, .slice x.A x.tl.length x.c, .slice x.B x.gl.length x.d] 46 (0, 0)) := heap_alloc_new w _
  have HB0 : Hid (Below w.heap.size w (w.alloc (.cells #[.int .i64 3, .int .i64 a, .int .i64 b, .int .i64 c, .int .u64 ((k : Nat) : Int), .slice VA vl vc, .slice WA wl wc, .int .i64 s.1, .bool s.2, .int .i64 g.1, .int .i64 g.2.1, .int .i64 g.2.2.1, .int .u64 g.2.2.2, .slice x.A x.tl.length x.c, .slice x.B x.gl.length x.d] 46))) := Lib.hid ((Below.refl _ _).alloc (Nat.le_refl _) _)
  have q0 : World.cell? _ ⟨w.heap.size, 0, none⟩ = some (.int .i64 3) := cell_in kb
  have q4 : World.cell? _ ⟨w.heap.size, 4, none⟩ = some (.int .u64 ((k : Nat) : Int)) := cell_in kb
  have q5 : World.cell? _ ⟨w.heap.size, 5, none⟩ = some (.slice VA vl vc) := cell_in kb
  clear kb
  go_enter Tryz.func44, Tryz.ntmps44
  go_wp2_with fail
  refine bodyPost_ret (results_tmp3 rfl _ _ _) rfl ?_
  exact ⟨_, _, _, rfl, HB0.out, fun _ => ⟨rfl, rfl⟩⟩
set_option maxHeartbeats 4000000 in
set_option maxRecDepth 100000 in
theorem worth_4 (p : Nat) (a : Nat) (b : Int) (c : Int) (k : Int) (VA WA A : Option Addr) (vl wl vc wc vn cc : Nat) (s : Slo) (g : Gat) (x : Exi) (w : World) (V : List Nat) (hvn : V.length = vn) (hV : Reads w A (uCells V)) (ha : a < vn) :
    Calls Tryz.prog 44 #[.int .u64 ((p : Nat) : Int), .agg #[.int .i64 4, .int .i64 ((a : Nat) : Int), .int .i64 b, .int .i64 c, .int .u64 k, .slice VA vl vc, .slice WA wl wc, .int .i64 s.1, .bool s.2, .int .i64 g.1, .int .i64 g.2.1, .int .i64 g.2.2.1, .int .u64 g.2.2.2, .slice x.A x.tl.length x.c, .slice x.B x.gl.length x.d], .slice A vn cc] w (WRet (fun t n => V.getD a 0 ≤ 1 ∧ t = 1 - ((V.getD a 0 : Nat) : Int) ∧ n = 0) w) := by
  have kb : (w.alloc (.cells #[.int .i64 4, .int .i64 ((a : Nat) : Int), .int .i64 b, .int .i64 c, .int .u64 k, .slice VA vl vc, .slice WA wl wc, .int .i64 s.1, .bool s.2, .int .i64 g.1, .int .i64 g.2.1, .int .i64 g.2.2.1, .int .u64 g.2.2.2, .slice x.A x.tl.length x.c, .slice x.B x.gl.length x.d] 46)).heap[w.heap.size]? = some (.cells #[.int .i64 4, .int .i64 ((a : Nat) : Int), .int .i64 b, .int .i64 c, .int .u64 k, .slice VA vl vc, .slice WA wl wc, .int .i64 s.1, .bool s.2, .int .i64 g.1, .int .i64 g.2.1, .int .i64 g.2.2.1, .int .u64 g.2.2.2, .slice x.A x.tl.length x.c, .slice x.B x.gl.length x.d] 46 (0, 0)) := heap_alloc_new w _
  have HB0 : Hid (Below w.heap.size w (w.alloc (.cells #[.int .i64 4, .int .i64 ((a : Nat) : Int), .int .i64 b, .int .i64 c, .int .u64 k, .slice VA vl vc, .slice WA wl wc, .int .i64 s.1, .bool s.2, .int .i64 g.1, .int .i64 g.2.1, .int .i64 g.2.2.1, .int .u64 g.2.2.2, .slice x.A x.tl.length x.c, .slice x.B x.gl.length x.d] 46))) := Lib.hid ((Below.refl _ _).alloc (Nat.le_refl _) _)
  have q0 : World.cell? _ ⟨w.heap.size, 0, none⟩ = some (.int .i64 4) := cell_in kb
  have q5 : World.cell? _ ⟨w.heap.size, 5, none⟩ = some (.slice VA vl vc) := cell_in kb
  have q1 : World.cell? _ ⟨w.heap.size, 1, none⟩ = some (.int .i64 ((a : Nat) : Int)) := cell_in kb
  have HBI := Lib.hid (fun (W : World) (Ab : Option Addr) (hb : Below w.heap.size w W) (hr : Reads W Ab (nCells [a])) => bits_any V [a] A Ab cc 1 vn 1 rfl hvn (by decide) (by intro y hy; simp at hy; subst hy; all_goals omega) W (hV.below hb) hr)
  obtain ⟨vada, eva, za⟩ := hV.uat a (by omega)
  obtain rfl := eva
  have ga : V.getD a 0 = V[a]'(by omega) := getD_at (by omega)
  simp only [List.all_cons, List.all_nil, Bool.and_true, ga] at HBI
  simp only [ga]
  generalize V[a]'(by omega) = va_ at *
  have ya := cell_alA (o := .cells #[.int .i64 4, .int .i64 ((a : Nat) : Int), .int .i64 b, .int .i64 c, .int .u64 k, .slice VA vl vc, .slice WA wl wc, .int .i64 s.1, .bool s.2, .int .i64 g.1, .int .i64 g.2.1, .int .i64 g.2.2.1, .int .u64 g.2.2.2, .slice x.A x.tl.length x.c, .slice x.B x.gl.length x.d] 46) za
  have HCE : Hid (∀ W, Below (w.alloc (.cells #[.int .i64 4, .int .i64 ((a : Nat) : Int), .int .i64 b, .int .i64 c, .int .u64 k, .slice VA vl vc, .slice WA wl wc, .int .i64 s.1, .bool s.2, .int .i64 g.1, .int .i64 g.2.1, .int .i64 g.2.2.1, .int .u64 g.2.2.2, .slice x.A x.tl.length x.c, .slice x.B x.gl.length x.d] 46)).heap.size (w.alloc (.cells #[.int .i64 4, .int .i64 ((a : Nat) : Int), .int .i64 b, .int .i64 c, .int .u64 k, .slice VA vl vc, .slice WA wl wc, .int .i64 s.1, .bool s.2, .int .i64 g.1, .int .i64 g.2.1, .int .i64 g.2.2.1, .int .u64 g.2.2.2, .slice x.A x.tl.length x.c, .slice x.B x.gl.length x.d] 46)) W → (fun W => W.cell? ⟨w.heap.size, 1, none⟩ = some (.int .i64 ((a : Nat) : Int)) ∧ W.cell? (Addr.add vada a) = some (.int .u64 ((va_ : Nat) : Int))) W) := Lib.hid fun W hb => ⟨cell_blA q1 hb, cell_blA ya hb⟩
  have HI : Hid ((0 : Int) ≤ ((a : Nat) : Int) ∧ ((a : Nat) : Int) < ((vn : Nat) : Int)) := Lib.hid ⟨by omega, by omega⟩
  have ia0 : (0 : Int) ≤ ((a : Nat) : Int) := by omega
  have ia1 : ((a : Nat) : Int) < ((vn : Nat) : Int) := by omega
  clear kb hV hvn za
  generalize hw1 : (w.alloc (.cells #[.int .i64 4, .int .i64 ((a : Nat) : Int), .int .i64 b, .int .i64 c, .int .u64 k, .slice VA vl vc, .slice WA wl wc, .int .i64 s.1, .bool s.2, .int .i64 g.1, .int .i64 g.2.1, .int .i64 g.2.2.1, .int .u64 g.2.2.2, .slice x.A x.tl.length x.c, .slice x.B x.gl.length x.d] 46)) = w1 at *
  by_cases hx : va_ ≤ 1
  · have ha2 : va_ = 0 ∨ va_ = 1 := by omega
    rcases ha2 with rfl | rfl
    · skip
      go_enter Tryz.func44, Tryz.ntmps44
      go_wp2_with fail
      go_region_held3 (fun W => W.cell? ⟨w.heap.size, 1, none⟩ = some (.int .i64 ((a : Nat) : Int)) ∧ W.cell? (Addr.add vada a) = some (.int .u64 ((0 : Nat) : Int))) (first | exact HCE.out _ (Below.refl _ _) | exact HCE.out _ (Below.refl _ _).drew | exact HCE.out _ ((Below.refl _ _).drew.alloc (by simp) _) | exact HCE.out _ HB5.out) (first | (go_at_call 45; refine (HBI.out _ _ (HB0.out.trans (((Below.refl _ _).drew.alloc (by simp) _).mono HB0.out.size)) (own_reads_at (own_freshQ _ 3 [.int .i64 ((a : Nat) : Int)] 1 rfl (by decide)))).mono ?_; rintro e w5 ⟨rfl, hw5⟩; have HB5 : Hid (Below w1.heap.size w1 w5) := Lib.hid (hw5 ▸ ((Below.refl _ _).drew.alloc (by simp) _)); clear hw5))
      all_goals (try go_wp2)
      all_goals go_ret3
      all_goals exact ⟨_, _, _, rfl, HB0.out.trans (HB5.out.mono HB0.out.size), fun _ => (by decide)⟩
    · skip
      go_enter Tryz.func44, Tryz.ntmps44
      go_wp2_with fail
      go_region_held3 (fun W => W.cell? ⟨w.heap.size, 1, none⟩ = some (.int .i64 ((a : Nat) : Int)) ∧ W.cell? (Addr.add vada a) = some (.int .u64 ((1 : Nat) : Int))) (first | exact HCE.out _ (Below.refl _ _) | exact HCE.out _ (Below.refl _ _).drew | exact HCE.out _ ((Below.refl _ _).drew.alloc (by simp) _) | exact HCE.out _ HB5.out) (first | (go_at_call 45; refine (HBI.out _ _ (HB0.out.trans (((Below.refl _ _).drew.alloc (by simp) _).mono HB0.out.size)) (own_reads_at (own_freshQ _ 3 [.int .i64 ((a : Nat) : Int)] 1 rfl (by decide)))).mono ?_; rintro e w5 ⟨rfl, hw5⟩; have HB5 : Hid (Below w1.heap.size w1 w5) := Lib.hid (hw5 ▸ ((Below.refl _ _).drew.alloc (by simp) _)); clear hw5))
      all_goals (try go_wp2)
      all_goals go_ret3
      all_goals exact ⟨_, _, _, rfl, HB0.out.trans (HB5.out.mono HB0.out.size), fun _ => (by decide)⟩
  · have hn : (decide (va_ ≤ 1)) = false := by simp; omega
    rw [hn] at HBI
    clear hn
    have HX := Lib.hid hx; clear hx
    go_enter Tryz.func44, Tryz.ntmps44
    go_wp2_with fail
    go_region_held3 (fun W => W.cell? ⟨w.heap.size, 1, none⟩ = some (.int .i64 ((a : Nat) : Int)) ∧ W.cell? (Addr.add vada a) = some (.int .u64 ((va_ : Nat) : Int))) (first | exact HCE.out _ (Below.refl _ _) | exact HCE.out _ (Below.refl _ _).drew | exact HCE.out _ ((Below.refl _ _).drew.alloc (by simp) _) | exact HCE.out _ HB5.out) (first | (go_at_call 45; refine (HBI.out _ _ (HB0.out.trans (((Below.refl _ _).drew.alloc (by simp) _).mono HB0.out.size)) (own_reads_at (own_freshQ _ 3 [.int .i64 ((a : Nat) : Int)] 1 rfl (by decide)))).mono ?_; rintro e w5 ⟨rfl, hw5⟩; have HB5 : Hid (Below w1.heap.size w1 w5) := Lib.hid (hw5 ▸ ((Below.refl _ _).drew.alloc (by simp) _)); clear hw5))
    all_goals (try go_wp2)
    all_goals go_ret3
    all_goals exact ⟨_, _, _, rfl, HB0.out.trans (HB5.out.mono HB0.out.size), fun h => absurd h (by decide)⟩
set_option maxHeartbeats 4000000 in
set_option maxRecDepth 100000 in
theorem worth_5 (p : Nat) (a : Nat) (b : Nat) (c : Int) (k : Int) (VA WA A : Option Addr) (vl wl vc wc vn cc : Nat) (s : Slo) (g : Gat) (x : Exi) (w : World) (V : List Nat) (hvn : V.length = vn) (hV : Reads w A (uCells V)) (ha : a < vn) (hb : b < vn) :
    Calls Tryz.prog 44 #[.int .u64 ((p : Nat) : Int), .agg #[.int .i64 5, .int .i64 ((a : Nat) : Int), .int .i64 ((b : Nat) : Int), .int .i64 c, .int .u64 k, .slice VA vl vc, .slice WA wl wc, .int .i64 s.1, .bool s.2, .int .i64 g.1, .int .i64 g.2.1, .int .i64 g.2.2.1, .int .u64 g.2.2.2, .slice x.A x.tl.length x.c, .slice x.B x.gl.length x.d], .slice A vn cc] w (WRet (fun t n => V.getD a 0 ≤ 1 ∧ V.getD b 0 ≤ 1 ∧ t = ((V.getD a 0 * V.getD b 0 : Nat) : Int) ∧ n = 0) w) := by
  have kb : (w.alloc (.cells #[.int .i64 5, .int .i64 ((a : Nat) : Int), .int .i64 ((b : Nat) : Int), .int .i64 c, .int .u64 k, .slice VA vl vc, .slice WA wl wc, .int .i64 s.1, .bool s.2, .int .i64 g.1, .int .i64 g.2.1, .int .i64 g.2.2.1, .int .u64 g.2.2.2, .slice x.A x.tl.length x.c, .slice x.B x.gl.length x.d] 46)).heap[w.heap.size]? = some (.cells #[.int .i64 5, .int .i64 ((a : Nat) : Int), .int .i64 ((b : Nat) : Int), .int .i64 c, .int .u64 k, .slice VA vl vc, .slice WA wl wc, .int .i64 s.1, .bool s.2, .int .i64 g.1, .int .i64 g.2.1, .int .i64 g.2.2.1, .int .u64 g.2.2.2, .slice x.A x.tl.length x.c, .slice x.B x.gl.length x.d] 46 (0, 0)) := heap_alloc_new w _
  have HB0 : Hid (Below w.heap.size w (w.alloc (.cells #[.int .i64 5, .int .i64 ((a : Nat) : Int), .int .i64 ((b : Nat) : Int), .int .i64 c, .int .u64 k, .slice VA vl vc, .slice WA wl wc, .int .i64 s.1, .bool s.2, .int .i64 g.1, .int .i64 g.2.1, .int .i64 g.2.2.1, .int .u64 g.2.2.2, .slice x.A x.tl.length x.c, .slice x.B x.gl.length x.d] 46))) := Lib.hid ((Below.refl _ _).alloc (Nat.le_refl _) _)
  have q0 : World.cell? _ ⟨w.heap.size, 0, none⟩ = some (.int .i64 5) := cell_in kb
  have q5 : World.cell? _ ⟨w.heap.size, 5, none⟩ = some (.slice VA vl vc) := cell_in kb
  have q1 : World.cell? _ ⟨w.heap.size, 1, none⟩ = some (.int .i64 ((a : Nat) : Int)) := cell_in kb
  have q2 : World.cell? _ ⟨w.heap.size, 2, none⟩ = some (.int .i64 ((b : Nat) : Int)) := cell_in kb
  have HBI := Lib.hid (fun (W : World) (Ab : Option Addr) (hb : Below w.heap.size w W) (hr : Reads W Ab (nCells [a, b])) => bits_any V [a, b] A Ab cc 2 vn 2 rfl hvn (by decide) (by intro y hy; simp at hy; rcases hy with rfl | rfl; all_goals omega) W (hV.below hb) hr)
  obtain ⟨vada, eva, za⟩ := hV.uat a (by omega)
  obtain ⟨vadb, evb, zb⟩ := hV.uat b (by omega)
  obtain rfl := eva
  injection evb with evb; subst evb
  have ga : V.getD a 0 = V[a]'(by omega) := getD_at (by omega)
  have gb : V.getD b 0 = V[b]'(by omega) := getD_at (by omega)
  simp only [List.all_cons, List.all_nil, Bool.and_true, ga, gb] at HBI
  simp only [ga, gb]
  generalize V[a]'(by omega) = va_ at *
  generalize V[b]'(by omega) = vb_ at *
  have ya := cell_alA (o := .cells #[.int .i64 5, .int .i64 ((a : Nat) : Int), .int .i64 ((b : Nat) : Int), .int .i64 c, .int .u64 k, .slice VA vl vc, .slice WA wl wc, .int .i64 s.1, .bool s.2, .int .i64 g.1, .int .i64 g.2.1, .int .i64 g.2.2.1, .int .u64 g.2.2.2, .slice x.A x.tl.length x.c, .slice x.B x.gl.length x.d] 46) za
  have yb := cell_alA (o := .cells #[.int .i64 5, .int .i64 ((a : Nat) : Int), .int .i64 ((b : Nat) : Int), .int .i64 c, .int .u64 k, .slice VA vl vc, .slice WA wl wc, .int .i64 s.1, .bool s.2, .int .i64 g.1, .int .i64 g.2.1, .int .i64 g.2.2.1, .int .u64 g.2.2.2, .slice x.A x.tl.length x.c, .slice x.B x.gl.length x.d] 46) zb
  have HCE : Hid (∀ W, Below (w.alloc (.cells #[.int .i64 5, .int .i64 ((a : Nat) : Int), .int .i64 ((b : Nat) : Int), .int .i64 c, .int .u64 k, .slice VA vl vc, .slice WA wl wc, .int .i64 s.1, .bool s.2, .int .i64 g.1, .int .i64 g.2.1, .int .i64 g.2.2.1, .int .u64 g.2.2.2, .slice x.A x.tl.length x.c, .slice x.B x.gl.length x.d] 46)).heap.size (w.alloc (.cells #[.int .i64 5, .int .i64 ((a : Nat) : Int), .int .i64 ((b : Nat) : Int), .int .i64 c, .int .u64 k, .slice VA vl vc, .slice WA wl wc, .int .i64 s.1, .bool s.2, .int .i64 g.1, .int .i64 g.2.1, .int .i64 g.2.2.1, .int .u64 g.2.2.2, .slice x.A x.tl.length x.c, .slice x.B x.gl.length x.d] 46)) W → (fun W => W.cell? ⟨w.heap.size, 1, none⟩ = some (.int .i64 ((a : Nat) : Int)) ∧ W.cell? ⟨w.heap.size, 2, none⟩ = some (.int .i64 ((b : Nat) : Int)) ∧ W.cell? (Addr.add vada a) = some (.int .u64 ((va_ : Nat) : Int)) ∧ W.cell? (Addr.add vada b) = some (.int .u64 ((vb_ : Nat) : Int))) W) := Lib.hid fun W hb => ⟨cell_blA q1 hb, cell_blA q2 hb, cell_blA ya hb, cell_blA yb hb⟩
  have HI : Hid ((0 : Int) ≤ ((a : Nat) : Int) ∧ ((a : Nat) : Int) < ((vn : Nat) : Int) ∧ (0 : Int) ≤ ((b : Nat) : Int) ∧ ((b : Nat) : Int) < ((vn : Nat) : Int)) := Lib.hid ⟨by omega, by omega, by omega, by omega⟩
  have ia0 : (0 : Int) ≤ ((a : Nat) : Int) := by omega
  have ia1 : ((a : Nat) : Int) < ((vn : Nat) : Int) := by omega
  have ib0 : (0 : Int) ≤ ((b : Nat) : Int) := by omega
  have ib1 : ((b : Nat) : Int) < ((vn : Nat) : Int) := by omega
  clear kb hV hvn za zb
  generalize hw1 : (w.alloc (.cells #[.int .i64 5, .int .i64 ((a : Nat) : Int), .int .i64 ((b : Nat) : Int), .int .i64 c, .int .u64 k, .slice VA vl vc, .slice WA wl wc, .int .i64 s.1, .bool s.2, .int .i64 g.1, .int .i64 g.2.1, .int .i64 g.2.2.1, .int .u64 g.2.2.2, .slice x.A x.tl.length x.c, .slice x.B x.gl.length x.d] 46)) = w1 at *
  by_cases hx : va_ ≤ 1 ∧ vb_ ≤ 1
  · have ha2 : va_ = 0 ∨ va_ = 1 := by omega
    have hb2 : vb_ = 0 ∨ vb_ = 1 := by omega
    rcases ha2 with rfl | rfl <;> rcases hb2 with rfl | rfl
    · skip
      go_enter Tryz.func44, Tryz.ntmps44
      go_wp2_with fail
      go_region_held3 (fun W => W.cell? ⟨w.heap.size, 1, none⟩ = some (.int .i64 ((a : Nat) : Int)) ∧ W.cell? ⟨w.heap.size, 2, none⟩ = some (.int .i64 ((b : Nat) : Int)) ∧ W.cell? (Addr.add vada a) = some (.int .u64 ((0 : Nat) : Int)) ∧ W.cell? (Addr.add vada b) = some (.int .u64 ((0 : Nat) : Int))) (first | exact HCE.out _ (Below.refl _ _) | exact HCE.out _ (Below.refl _ _).drew | exact HCE.out _ ((Below.refl _ _).drew.alloc (by simp) _) | exact HCE.out _ HB5.out) (first | (go_at_call 45; refine (HBI.out _ _ (HB0.out.trans (((Below.refl _ _).drew.alloc (by simp) _).mono HB0.out.size)) (own_reads_at (own_freshQ _ 3 [.int .i64 ((a : Nat) : Int), .int .i64 ((b : Nat) : Int)] 2 rfl (by decide)))).mono ?_; rintro e w5 ⟨rfl, hw5⟩; have HB5 : Hid (Below w1.heap.size w1 w5) := Lib.hid (hw5 ▸ ((Below.refl _ _).drew.alloc (by simp) _)); clear hw5))
      all_goals (try go_wp2)
      all_goals go_ret3
      all_goals exact ⟨_, _, _, rfl, HB0.out.trans (HB5.out.mono HB0.out.size), fun _ => (by decide)⟩
    · skip
      go_enter Tryz.func44, Tryz.ntmps44
      go_wp2_with fail
      go_region_held3 (fun W => W.cell? ⟨w.heap.size, 1, none⟩ = some (.int .i64 ((a : Nat) : Int)) ∧ W.cell? ⟨w.heap.size, 2, none⟩ = some (.int .i64 ((b : Nat) : Int)) ∧ W.cell? (Addr.add vada a) = some (.int .u64 ((0 : Nat) : Int)) ∧ W.cell? (Addr.add vada b) = some (.int .u64 ((1 : Nat) : Int))) (first | exact HCE.out _ (Below.refl _ _) | exact HCE.out _ (Below.refl _ _).drew | exact HCE.out _ ((Below.refl _ _).drew.alloc (by simp) _) | exact HCE.out _ HB5.out) (first | (go_at_call 45; refine (HBI.out _ _ (HB0.out.trans (((Below.refl _ _).drew.alloc (by simp) _).mono HB0.out.size)) (own_reads_at (own_freshQ _ 3 [.int .i64 ((a : Nat) : Int), .int .i64 ((b : Nat) : Int)] 2 rfl (by decide)))).mono ?_; rintro e w5 ⟨rfl, hw5⟩; have HB5 : Hid (Below w1.heap.size w1 w5) := Lib.hid (hw5 ▸ ((Below.refl _ _).drew.alloc (by simp) _)); clear hw5))
      all_goals (try go_wp2)
      all_goals go_ret3
      all_goals exact ⟨_, _, _, rfl, HB0.out.trans (HB5.out.mono HB0.out.size), fun _ => (by decide)⟩
    · skip
      go_enter Tryz.func44, Tryz.ntmps44
      go_wp2_with fail
      go_region_held3 (fun W => W.cell? ⟨w.heap.size, 1, none⟩ = some (.int .i64 ((a : Nat) : Int)) ∧ W.cell? ⟨w.heap.size, 2, none⟩ = some (.int .i64 ((b : Nat) : Int)) ∧ W.cell? (Addr.add vada a) = some (.int .u64 ((1 : Nat) : Int)) ∧ W.cell? (Addr.add vada b) = some (.int .u64 ((0 : Nat) : Int))) (first | exact HCE.out _ (Below.refl _ _) | exact HCE.out _ (Below.refl _ _).drew | exact HCE.out _ ((Below.refl _ _).drew.alloc (by simp) _) | exact HCE.out _ HB5.out) (first | (go_at_call 45; refine (HBI.out _ _ (HB0.out.trans (((Below.refl _ _).drew.alloc (by simp) _).mono HB0.out.size)) (own_reads_at (own_freshQ _ 3 [.int .i64 ((a : Nat) : Int), .int .i64 ((b : Nat) : Int)] 2 rfl (by decide)))).mono ?_; rintro e w5 ⟨rfl, hw5⟩; have HB5 : Hid (Below w1.heap.size w1 w5) := Lib.hid (hw5 ▸ ((Below.refl _ _).drew.alloc (by simp) _)); clear hw5))
      all_goals (try go_wp2)
      all_goals go_ret3
      all_goals exact ⟨_, _, _, rfl, HB0.out.trans (HB5.out.mono HB0.out.size), fun _ => (by decide)⟩
    · skip
      go_enter Tryz.func44, Tryz.ntmps44
      go_wp2_with fail
      go_region_held3 (fun W => W.cell? ⟨w.heap.size, 1, none⟩ = some (.int .i64 ((a : Nat) : Int)) ∧ W.cell? ⟨w.heap.size, 2, none⟩ = some (.int .i64 ((b : Nat) : Int)) ∧ W.cell? (Addr.add vada a) = some (.int .u64 ((1 : Nat) : Int)) ∧ W.cell? (Addr.add vada b) = some (.int .u64 ((1 : Nat) : Int))) (first | exact HCE.out _ (Below.refl _ _) | exact HCE.out _ (Below.refl _ _).drew | exact HCE.out _ ((Below.refl _ _).drew.alloc (by simp) _) | exact HCE.out _ HB5.out) (first | (go_at_call 45; refine (HBI.out _ _ (HB0.out.trans (((Below.refl _ _).drew.alloc (by simp) _).mono HB0.out.size)) (own_reads_at (own_freshQ _ 3 [.int .i64 ((a : Nat) : Int), .int .i64 ((b : Nat) : Int)] 2 rfl (by decide)))).mono ?_; rintro e w5 ⟨rfl, hw5⟩; have HB5 : Hid (Below w1.heap.size w1 w5) := Lib.hid (hw5 ▸ ((Below.refl _ _).drew.alloc (by simp) _)); clear hw5))
      all_goals (try go_wp2)
      all_goals go_ret3
      all_goals exact ⟨_, _, _, rfl, HB0.out.trans (HB5.out.mono HB0.out.size), fun _ => (by decide)⟩
  · have hn : (decide (va_ ≤ 1) && decide (vb_ ≤ 1)) = false := by simp; omega
    rw [hn] at HBI
    clear hn
    have HX := Lib.hid hx; clear hx
    go_enter Tryz.func44, Tryz.ntmps44
    go_wp2_with fail
    go_region_held3 (fun W => W.cell? ⟨w.heap.size, 1, none⟩ = some (.int .i64 ((a : Nat) : Int)) ∧ W.cell? ⟨w.heap.size, 2, none⟩ = some (.int .i64 ((b : Nat) : Int)) ∧ W.cell? (Addr.add vada a) = some (.int .u64 ((va_ : Nat) : Int)) ∧ W.cell? (Addr.add vada b) = some (.int .u64 ((vb_ : Nat) : Int))) (first | exact HCE.out _ (Below.refl _ _) | exact HCE.out _ (Below.refl _ _).drew | exact HCE.out _ ((Below.refl _ _).drew.alloc (by simp) _) | exact HCE.out _ HB5.out) (first | (go_at_call 45; refine (HBI.out _ _ (HB0.out.trans (((Below.refl _ _).drew.alloc (by simp) _).mono HB0.out.size)) (own_reads_at (own_freshQ _ 3 [.int .i64 ((a : Nat) : Int), .int .i64 ((b : Nat) : Int)] 2 rfl (by decide)))).mono ?_; rintro e w5 ⟨rfl, hw5⟩; have HB5 : Hid (Below w1.heap.size w1 w5) := Lib.hid (hw5 ▸ ((Below.refl _ _).drew.alloc (by simp) _)); clear hw5))
    all_goals (try go_wp2)
    all_goals go_ret3
    all_goals exact ⟨_, _, _, rfl, HB0.out.trans (HB5.out.mono HB0.out.size), fun h => absurd h (by decide)⟩
set_option maxHeartbeats 4000000 in
set_option maxRecDepth 100000 in
theorem worth_6 (p : Nat) (a : Nat) (b : Nat) (c : Int) (k : Int) (VA WA A : Option Addr) (vl wl vc wc vn cc : Nat) (s : Slo) (g : Gat) (x : Exi) (w : World) (V : List Nat) (hvn : V.length = vn) (hV : Reads w A (uCells V)) (ha : a < vn) (hb : b < vn) :
    Calls Tryz.prog 44 #[.int .u64 ((p : Nat) : Int), .agg #[.int .i64 6, .int .i64 ((a : Nat) : Int), .int .i64 ((b : Nat) : Int), .int .i64 c, .int .u64 k, .slice VA vl vc, .slice WA wl wc, .int .i64 s.1, .bool s.2, .int .i64 g.1, .int .i64 g.2.1, .int .i64 g.2.2.1, .int .u64 g.2.2.2, .slice x.A x.tl.length x.c, .slice x.B x.gl.length x.d], .slice A vn cc] w (WRet (fun t n => V.getD a 0 ≤ 1 ∧ V.getD b 0 ≤ 1 ∧ t = ((V.getD a 0 + V.getD b 0 - V.getD a 0 * V.getD b 0 : Nat) : Int) ∧ n = 0) w) := by
  have kb : (w.alloc (.cells #[.int .i64 6, .int .i64 ((a : Nat) : Int), .int .i64 ((b : Nat) : Int), .int .i64 c, .int .u64 k, .slice VA vl vc, .slice WA wl wc, .int .i64 s.1, .bool s.2, .int .i64 g.1, .int .i64 g.2.1, .int .i64 g.2.2.1, .int .u64 g.2.2.2, .slice x.A x.tl.length x.c, .slice x.B x.gl.length x.d] 46)).heap[w.heap.size]? = some (.cells #[.int .i64 6, .int .i64 ((a : Nat) : Int), .int .i64 ((b : Nat) : Int), .int .i64 c, .int .u64 k, .slice VA vl vc, .slice WA wl wc, .int .i64 s.1, .bool s.2, .int .i64 g.1, .int .i64 g.2.1, .int .i64 g.2.2.1, .int .u64 g.2.2.2, .slice x.A x.tl.length x.c, .slice x.B x.gl.length x.d] 46 (0, 0)) := heap_alloc_new w _
  have HB0 : Hid (Below w.heap.size w (w.alloc (.cells #[.int .i64 6, .int .i64 ((a : Nat) : Int), .int .i64 ((b : Nat) : Int), .int .i64 c, .int .u64 k, .slice VA vl vc, .slice WA wl wc, .int .i64 s.1, .bool s.2, .int .i64 g.1, .int .i64 g.2.1, .int .i64 g.2.2.1, .int .u64 g.2.2.2, .slice x.A x.tl.length x.c, .slice x.B x.gl.length x.d] 46))) := Lib.hid ((Below.refl _ _).alloc (Nat.le_refl _) _)
  have q0 : World.cell? _ ⟨w.heap.size, 0, none⟩ = some (.int .i64 6) := cell_in kb
  have q5 : World.cell? _ ⟨w.heap.size, 5, none⟩ = some (.slice VA vl vc) := cell_in kb
  have q1 : World.cell? _ ⟨w.heap.size, 1, none⟩ = some (.int .i64 ((a : Nat) : Int)) := cell_in kb
  have q2 : World.cell? _ ⟨w.heap.size, 2, none⟩ = some (.int .i64 ((b : Nat) : Int)) := cell_in kb
  have HBI := Lib.hid (fun (W : World) (Ab : Option Addr) (hb : Below w.heap.size w W) (hr : Reads W Ab (nCells [a, b])) => bits_any V [a, b] A Ab cc 2 vn 2 rfl hvn (by decide) (by intro y hy; simp at hy; rcases hy with rfl | rfl; all_goals omega) W (hV.below hb) hr)
  obtain ⟨vada, eva, za⟩ := hV.uat a (by omega)
  obtain ⟨vadb, evb, zb⟩ := hV.uat b (by omega)
  obtain rfl := eva
  injection evb with evb; subst evb
  have ga : V.getD a 0 = V[a]'(by omega) := getD_at (by omega)
  have gb : V.getD b 0 = V[b]'(by omega) := getD_at (by omega)
  simp only [List.all_cons, List.all_nil, Bool.and_true, ga, gb] at HBI
  simp only [ga, gb]
  generalize V[a]'(by omega) = va_ at *
  generalize V[b]'(by omega) = vb_ at *
  have ya := cell_alA (o := .cells #[.int .i64 6, .int .i64 ((a : Nat) : Int), .int .i64 ((b : Nat) : Int), .int .i64 c, .int .u64 k, .slice VA vl vc, .slice WA wl wc, .int .i64 s.1, .bool s.2, .int .i64 g.1, .int .i64 g.2.1, .int .i64 g.2.2.1, .int .u64 g.2.2.2, .slice x.A x.tl.length x.c, .slice x.B x.gl.length x.d] 46) za
  have yb := cell_alA (o := .cells #[.int .i64 6, .int .i64 ((a : Nat) : Int), .int .i64 ((b : Nat) : Int), .int .i64 c, .int .u64 k, .slice VA vl vc, .slice WA wl wc, .int .i64 s.1, .bool s.2, .int .i64 g.1, .int .i64 g.2.1, .int .i64 g.2.2.1, .int .u64 g.2.2.2, .slice x.A x.tl.length x.c, .slice x.B x.gl.length x.d] 46) zb
  have HCE : Hid (∀ W, Below (w.alloc (.cells #[.int .i64 6, .int .i64 ((a : Nat) : Int), .int .i64 ((b : Nat) : Int), .int .i64 c, .int .u64 k, .slice VA vl vc, .slice WA wl wc, .int .i64 s.1, .bool s.2, .int .i64 g.1, .int .i64 g.2.1, .int .i64 g.2.2.1, .int .u64 g.2.2.2, .slice x.A x.tl.length x.c, .slice x.B x.gl.length x.d] 46)).heap.size (w.alloc (.cells #[.int .i64 6, .int .i64 ((a : Nat) : Int), .int .i64 ((b : Nat) : Int), .int .i64 c, .int .u64 k, .slice VA vl vc, .slice WA wl wc, .int .i64 s.1, .bool s.2, .int .i64 g.1, .int .i64 g.2.1, .int .i64 g.2.2.1, .int .u64 g.2.2.2, .slice x.A x.tl.length x.c, .slice x.B x.gl.length x.d] 46)) W → (fun W => W.cell? ⟨w.heap.size, 1, none⟩ = some (.int .i64 ((a : Nat) : Int)) ∧ W.cell? ⟨w.heap.size, 2, none⟩ = some (.int .i64 ((b : Nat) : Int)) ∧ W.cell? (Addr.add vada a) = some (.int .u64 ((va_ : Nat) : Int)) ∧ W.cell? (Addr.add vada b) = some (.int .u64 ((vb_ : Nat) : Int))) W) := Lib.hid fun W hb => ⟨cell_blA q1 hb, cell_blA q2 hb, cell_blA ya hb, cell_blA yb hb⟩
  have HI : Hid ((0 : Int) ≤ ((a : Nat) : Int) ∧ ((a : Nat) : Int) < ((vn : Nat) : Int) ∧ (0 : Int) ≤ ((b : Nat) : Int) ∧ ((b : Nat) : Int) < ((vn : Nat) : Int)) := Lib.hid ⟨by omega, by omega, by omega, by omega⟩
  have ia0 : (0 : Int) ≤ ((a : Nat) : Int) := by omega
  have ia1 : ((a : Nat) : Int) < ((vn : Nat) : Int) := by omega
  have ib0 : (0 : Int) ≤ ((b : Nat) : Int) := by omega
  have ib1 : ((b : Nat) : Int) < ((vn : Nat) : Int) := by omega
  clear kb hV hvn za zb
  generalize hw1 : (w.alloc (.cells #[.int .i64 6, .int .i64 ((a : Nat) : Int), .int .i64 ((b : Nat) : Int), .int .i64 c, .int .u64 k, .slice VA vl vc, .slice WA wl wc, .int .i64 s.1, .bool s.2, .int .i64 g.1, .int .i64 g.2.1, .int .i64 g.2.2.1, .int .u64 g.2.2.2, .slice x.A x.tl.length x.c, .slice x.B x.gl.length x.d] 46)) = w1 at *
  by_cases hx : va_ ≤ 1 ∧ vb_ ≤ 1
  · have ha2 : va_ = 0 ∨ va_ = 1 := by omega
    have hb2 : vb_ = 0 ∨ vb_ = 1 := by omega
    rcases ha2 with rfl | rfl <;> rcases hb2 with rfl | rfl
    · skip
      go_enter Tryz.func44, Tryz.ntmps44
      go_wp2_with fail
      go_region_held3 (fun W => W.cell? ⟨w.heap.size, 1, none⟩ = some (.int .i64 ((a : Nat) : Int)) ∧ W.cell? ⟨w.heap.size, 2, none⟩ = some (.int .i64 ((b : Nat) : Int)) ∧ W.cell? (Addr.add vada a) = some (.int .u64 ((0 : Nat) : Int)) ∧ W.cell? (Addr.add vada b) = some (.int .u64 ((0 : Nat) : Int))) (first | exact HCE.out _ (Below.refl _ _) | exact HCE.out _ (Below.refl _ _).drew | exact HCE.out _ ((Below.refl _ _).drew.alloc (by simp) _) | exact HCE.out _ HB5.out) (first | (go_at_call 45; refine (HBI.out _ _ (HB0.out.trans (((Below.refl _ _).drew.alloc (by simp) _).mono HB0.out.size)) (own_reads_at (own_freshQ _ 3 [.int .i64 ((a : Nat) : Int), .int .i64 ((b : Nat) : Int)] 2 rfl (by decide)))).mono ?_; rintro e w5 ⟨rfl, hw5⟩; have HB5 : Hid (Below w1.heap.size w1 w5) := Lib.hid (hw5 ▸ ((Below.refl _ _).drew.alloc (by simp) _)); clear hw5))
      all_goals (try go_wp2)
      all_goals go_ret3
      all_goals exact ⟨_, _, _, rfl, HB0.out.trans (HB5.out.mono HB0.out.size), fun _ => (by decide)⟩
    · skip
      go_enter Tryz.func44, Tryz.ntmps44
      go_wp2_with fail
      go_region_held3 (fun W => W.cell? ⟨w.heap.size, 1, none⟩ = some (.int .i64 ((a : Nat) : Int)) ∧ W.cell? ⟨w.heap.size, 2, none⟩ = some (.int .i64 ((b : Nat) : Int)) ∧ W.cell? (Addr.add vada a) = some (.int .u64 ((0 : Nat) : Int)) ∧ W.cell? (Addr.add vada b) = some (.int .u64 ((1 : Nat) : Int))) (first | exact HCE.out _ (Below.refl _ _) | exact HCE.out _ (Below.refl _ _).drew | exact HCE.out _ ((Below.refl _ _).drew.alloc (by simp) _) | exact HCE.out _ HB5.out) (first | (go_at_call 45; refine (HBI.out _ _ (HB0.out.trans (((Below.refl _ _).drew.alloc (by simp) _).mono HB0.out.size)) (own_reads_at (own_freshQ _ 3 [.int .i64 ((a : Nat) : Int), .int .i64 ((b : Nat) : Int)] 2 rfl (by decide)))).mono ?_; rintro e w5 ⟨rfl, hw5⟩; have HB5 : Hid (Below w1.heap.size w1 w5) := Lib.hid (hw5 ▸ ((Below.refl _ _).drew.alloc (by simp) _)); clear hw5))
      all_goals (try go_wp2)
      all_goals go_ret3
      all_goals exact ⟨_, _, _, rfl, HB0.out.trans (HB5.out.mono HB0.out.size), fun _ => (by decide)⟩
    · skip
      go_enter Tryz.func44, Tryz.ntmps44
      go_wp2_with fail
      go_region_held3 (fun W => W.cell? ⟨w.heap.size, 1, none⟩ = some (.int .i64 ((a : Nat) : Int)) ∧ W.cell? ⟨w.heap.size, 2, none⟩ = some (.int .i64 ((b : Nat) : Int)) ∧ W.cell? (Addr.add vada a) = some (.int .u64 ((1 : Nat) : Int)) ∧ W.cell? (Addr.add vada b) = some (.int .u64 ((0 : Nat) : Int))) (first | exact HCE.out _ (Below.refl _ _) | exact HCE.out _ (Below.refl _ _).drew | exact HCE.out _ ((Below.refl _ _).drew.alloc (by simp) _) | exact HCE.out _ HB5.out) (first | (go_at_call 45; refine (HBI.out _ _ (HB0.out.trans (((Below.refl _ _).drew.alloc (by simp) _).mono HB0.out.size)) (own_reads_at (own_freshQ _ 3 [.int .i64 ((a : Nat) : Int), .int .i64 ((b : Nat) : Int)] 2 rfl (by decide)))).mono ?_; rintro e w5 ⟨rfl, hw5⟩; have HB5 : Hid (Below w1.heap.size w1 w5) := Lib.hid (hw5 ▸ ((Below.refl _ _).drew.alloc (by simp) _)); clear hw5))
      all_goals (try go_wp2)
      all_goals go_ret3
      all_goals exact ⟨_, _, _, rfl, HB0.out.trans (HB5.out.mono HB0.out.size), fun _ => (by decide)⟩
    · skip
      go_enter Tryz.func44, Tryz.ntmps44
      go_wp2_with fail
      go_region_held3 (fun W => W.cell? ⟨w.heap.size, 1, none⟩ = some (.int .i64 ((a : Nat) : Int)) ∧ W.cell? ⟨w.heap.size, 2, none⟩ = some (.int .i64 ((b : Nat) : Int)) ∧ W.cell? (Addr.add vada a) = some (.int .u64 ((1 : Nat) : Int)) ∧ W.cell? (Addr.add vada b) = some (.int .u64 ((1 : Nat) : Int))) (first | exact HCE.out _ (Below.refl _ _) | exact HCE.out _ (Below.refl _ _).drew | exact HCE.out _ ((Below.refl _ _).drew.alloc (by simp) _) | exact HCE.out _ HB5.out) (first | (go_at_call 45; refine (HBI.out _ _ (HB0.out.trans (((Below.refl _ _).drew.alloc (by simp) _).mono HB0.out.size)) (own_reads_at (own_freshQ _ 3 [.int .i64 ((a : Nat) : Int), .int .i64 ((b : Nat) : Int)] 2 rfl (by decide)))).mono ?_; rintro e w5 ⟨rfl, hw5⟩; have HB5 : Hid (Below w1.heap.size w1 w5) := Lib.hid (hw5 ▸ ((Below.refl _ _).drew.alloc (by simp) _)); clear hw5))
      all_goals (try go_wp2)
      all_goals go_ret3
      all_goals exact ⟨_, _, _, rfl, HB0.out.trans (HB5.out.mono HB0.out.size), fun _ => (by decide)⟩
  · have hn : (decide (va_ ≤ 1) && decide (vb_ ≤ 1)) = false := by simp; omega
    rw [hn] at HBI
    clear hn
    have HX := Lib.hid hx; clear hx
    go_enter Tryz.func44, Tryz.ntmps44
    go_wp2_with fail
    go_region_held3 (fun W => W.cell? ⟨w.heap.size, 1, none⟩ = some (.int .i64 ((a : Nat) : Int)) ∧ W.cell? ⟨w.heap.size, 2, none⟩ = some (.int .i64 ((b : Nat) : Int)) ∧ W.cell? (Addr.add vada a) = some (.int .u64 ((va_ : Nat) : Int)) ∧ W.cell? (Addr.add vada b) = some (.int .u64 ((vb_ : Nat) : Int))) (first | exact HCE.out _ (Below.refl _ _) | exact HCE.out _ (Below.refl _ _).drew | exact HCE.out _ ((Below.refl _ _).drew.alloc (by simp) _) | exact HCE.out _ HB5.out) (first | (go_at_call 45; refine (HBI.out _ _ (HB0.out.trans (((Below.refl _ _).drew.alloc (by simp) _).mono HB0.out.size)) (own_reads_at (own_freshQ _ 3 [.int .i64 ((a : Nat) : Int), .int .i64 ((b : Nat) : Int)] 2 rfl (by decide)))).mono ?_; rintro e w5 ⟨rfl, hw5⟩; have HB5 : Hid (Below w1.heap.size w1 w5) := Lib.hid (hw5 ▸ ((Below.refl _ _).drew.alloc (by simp) _)); clear hw5))
    all_goals (try go_wp2)
    all_goals go_ret3
    all_goals exact ⟨_, _, _, rfl, HB0.out.trans (HB5.out.mono HB0.out.size), fun h => absurd h (by decide)⟩
set_option maxHeartbeats 4000000 in
set_option maxRecDepth 100000 in
theorem worth_7 (p : Nat) (a : Nat) (b : Nat) (c : Int) (k : Int) (VA WA A : Option Addr) (vl wl vc wc vn cc : Nat) (s : Slo) (g : Gat) (x : Exi) (w : World) (V : List Nat) (hvn : V.length = vn) (hV : Reads w A (uCells V)) (ha : a < vn) (hb : b < vn) :
    Calls Tryz.prog 44 #[.int .u64 ((p : Nat) : Int), .agg #[.int .i64 7, .int .i64 ((a : Nat) : Int), .int .i64 ((b : Nat) : Int), .int .i64 c, .int .u64 k, .slice VA vl vc, .slice WA wl wc, .int .i64 s.1, .bool s.2, .int .i64 g.1, .int .i64 g.2.1, .int .i64 g.2.2.1, .int .u64 g.2.2.2, .slice x.A x.tl.length x.c, .slice x.B x.gl.length x.d], .slice A vn cc] w (WRet (fun t n => V.getD a 0 ≤ 1 ∧ V.getD b 0 ≤ 1 ∧ t = ((V.getD a 0 + V.getD b 0 - 2 * (V.getD a 0 * V.getD b 0) : Nat) : Int) ∧ n = 0) w) := by
  have kb : (w.alloc (.cells #[.int .i64 7, .int .i64 ((a : Nat) : Int), .int .i64 ((b : Nat) : Int), .int .i64 c, .int .u64 k, .slice VA vl vc, .slice WA wl wc, .int .i64 s.1, .bool s.2, .int .i64 g.1, .int .i64 g.2.1, .int .i64 g.2.2.1, .int .u64 g.2.2.2, .slice x.A x.tl.length x.c, .slice x.B x.gl.length x.d] 46)).heap[w.heap.size]? = some (.cells #[.int .i64 7, .int .i64 ((a : Nat) : Int), .int .i64 ((b : Nat) : Int), .int .i64 c, .int .u64 k, .slice VA vl vc, .slice WA wl wc, .int .i64 s.1, .bool s.2, .int .i64 g.1, .int .i64 g.2.1, .int .i64 g.2.2.1, .int .u64 g.2.2.2, .slice x.A x.tl.length x.c, .slice x.B x.gl.length x.d] 46 (0, 0)) := heap_alloc_new w _
  have HB0 : Hid (Below w.heap.size w (w.alloc (.cells #[.int .i64 7, .int .i64 ((a : Nat) : Int), .int .i64 ((b : Nat) : Int), .int .i64 c, .int .u64 k, .slice VA vl vc, .slice WA wl wc, .int .i64 s.1, .bool s.2, .int .i64 g.1, .int .i64 g.2.1, .int .i64 g.2.2.1, .int .u64 g.2.2.2, .slice x.A x.tl.length x.c, .slice x.B x.gl.length x.d] 46))) := Lib.hid ((Below.refl _ _).alloc (Nat.le_refl _) _)
  have q0 : World.cell? _ ⟨w.heap.size, 0, none⟩ = some (.int .i64 7) := cell_in kb
  have q5 : World.cell? _ ⟨w.heap.size, 5, none⟩ = some (.slice VA vl vc) := cell_in kb
  have q1 : World.cell? _ ⟨w.heap.size, 1, none⟩ = some (.int .i64 ((a : Nat) : Int)) := cell_in kb
  have q2 : World.cell? _ ⟨w.heap.size, 2, none⟩ = some (.int .i64 ((b : Nat) : Int)) := cell_in kb
  have HBI := Lib.hid (fun (W : World) (Ab : Option Addr) (hb : Below w.heap.size w W) (hr : Reads W Ab (nCells [a, b])) => bits_any V [a, b] A Ab cc 2 vn 2 rfl hvn (by decide) (by intro y hy; simp at hy; rcases hy with rfl | rfl; all_goals omega) W (hV.below hb) hr)
  obtain ⟨vada, eva, za⟩ := hV.uat a (by omega)
  obtain ⟨vadb, evb, zb⟩ := hV.uat b (by omega)
  obtain rfl := eva
  injection evb with evb; subst evb
  have ga : V.getD a 0 = V[a]'(by omega) := getD_at (by omega)
  have gb : V.getD b 0 = V[b]'(by omega) := getD_at (by omega)
  simp only [List.all_cons, List.all_nil, Bool.and_true, ga, gb] at HBI
  simp only [ga, gb]
  generalize V[a]'(by omega) = va_ at *
  generalize V[b]'(by omega) = vb_ at *
  have ya := cell_alA (o := .cells #[.int .i64 7, .int .i64 ((a : Nat) : Int), .int .i64 ((b : Nat) : Int), .int .i64 c, .int .u64 k, .slice VA vl vc, .slice WA wl wc, .int .i64 s.1, .bool s.2, .int .i64 g.1, .int .i64 g.2.1, .int .i64 g.2.2.1, .int .u64 g.2.2.2, .slice x.A x.tl.length x.c, .slice x.B x.gl.length x.d] 46) za
  have yb := cell_alA (o := .cells #[.int .i64 7, .int .i64 ((a : Nat) : Int), .int .i64 ((b : Nat) : Int), .int .i64 c, .int .u64 k, .slice VA vl vc, .slice WA wl wc, .int .i64 s.1, .bool s.2, .int .i64 g.1, .int .i64 g.2.1, .int .i64 g.2.2.1, .int .u64 g.2.2.2, .slice x.A x.tl.length x.c, .slice x.B x.gl.length x.d] 46) zb
  have HCE : Hid (∀ W, Below (w.alloc (.cells #[.int .i64 7, .int .i64 ((a : Nat) : Int), .int .i64 ((b : Nat) : Int), .int .i64 c, .int .u64 k, .slice VA vl vc, .slice WA wl wc, .int .i64 s.1, .bool s.2, .int .i64 g.1, .int .i64 g.2.1, .int .i64 g.2.2.1, .int .u64 g.2.2.2, .slice x.A x.tl.length x.c, .slice x.B x.gl.length x.d] 46)).heap.size (w.alloc (.cells #[.int .i64 7, .int .i64 ((a : Nat) : Int), .int .i64 ((b : Nat) : Int), .int .i64 c, .int .u64 k, .slice VA vl vc, .slice WA wl wc, .int .i64 s.1, .bool s.2, .int .i64 g.1, .int .i64 g.2.1, .int .i64 g.2.2.1, .int .u64 g.2.2.2, .slice x.A x.tl.length x.c, .slice x.B x.gl.length x.d] 46)) W → (fun W => W.cell? ⟨w.heap.size, 1, none⟩ = some (.int .i64 ((a : Nat) : Int)) ∧ W.cell? ⟨w.heap.size, 2, none⟩ = some (.int .i64 ((b : Nat) : Int)) ∧ W.cell? (Addr.add vada a) = some (.int .u64 ((va_ : Nat) : Int)) ∧ W.cell? (Addr.add vada b) = some (.int .u64 ((vb_ : Nat) : Int))) W) := Lib.hid fun W hb => ⟨cell_blA q1 hb, cell_blA q2 hb, cell_blA ya hb, cell_blA yb hb⟩
  have HI : Hid ((0 : Int) ≤ ((a : Nat) : Int) ∧ ((a : Nat) : Int) < ((vn : Nat) : Int) ∧ (0 : Int) ≤ ((b : Nat) : Int) ∧ ((b : Nat) : Int) < ((vn : Nat) : Int)) := Lib.hid ⟨by omega, by omega, by omega, by omega⟩
  have ia0 : (0 : Int) ≤ ((a : Nat) : Int) := by omega
  have ia1 : ((a : Nat) : Int) < ((vn : Nat) : Int) := by omega
  have ib0 : (0 : Int) ≤ ((b : Nat) : Int) := by omega
  have ib1 : ((b : Nat) : Int) < ((vn : Nat) : Int) := by omega
  clear kb hV hvn za zb
  generalize hw1 : (w.alloc (.cells #[.int .i64 7, .int .i64 ((a : Nat) : Int), .int .i64 ((b : Nat) : Int), .int .i64 c, .int .u64 k, .slice VA vl vc, .slice WA wl wc, .int .i64 s.1, .bool s.2, .int .i64 g.1, .int .i64 g.2.1, .int .i64 g.2.2.1, .int .u64 g.2.2.2, .slice x.A x.tl.length x.c, .slice x.B x.gl.length x.d] 46)) = w1 at *
  by_cases hx : va_ ≤ 1 ∧ vb_ ≤ 1
  · have ha2 : va_ = 0 ∨ va_ = 1 := by omega
    have hb2 : vb_ = 0 ∨ vb_ = 1 := by omega
    rcases ha2 with rfl | rfl <;> rcases hb2 with rfl | rfl
    · skip
      go_enter Tryz.func44, Tryz.ntmps44
      go_wp2_with fail
      go_region_held3 (fun W => W.cell? ⟨w.heap.size, 1, none⟩ = some (.int .i64 ((a : Nat) : Int)) ∧ W.cell? ⟨w.heap.size, 2, none⟩ = some (.int .i64 ((b : Nat) : Int)) ∧ W.cell? (Addr.add vada a) = some (.int .u64 ((0 : Nat) : Int)) ∧ W.cell? (Addr.add vada b) = some (.int .u64 ((0 : Nat) : Int))) (first | exact HCE.out _ (Below.refl _ _) | exact HCE.out _ (Below.refl _ _).drew | exact HCE.out _ ((Below.refl _ _).drew.alloc (by simp) _) | exact HCE.out _ HB5.out) (first | (go_at_call 45; refine (HBI.out _ _ (HB0.out.trans (((Below.refl _ _).drew.alloc (by simp) _).mono HB0.out.size)) (own_reads_at (own_freshQ _ 3 [.int .i64 ((a : Nat) : Int), .int .i64 ((b : Nat) : Int)] 2 rfl (by decide)))).mono ?_; rintro e w5 ⟨rfl, hw5⟩; have HB5 : Hid (Below w1.heap.size w1 w5) := Lib.hid (hw5 ▸ ((Below.refl _ _).drew.alloc (by simp) _)); clear hw5))
      all_goals (try go_wp2)
      all_goals go_ret3
      all_goals exact ⟨_, _, _, rfl, HB0.out.trans (HB5.out.mono HB0.out.size), fun _ => (by decide)⟩
    · skip
      go_enter Tryz.func44, Tryz.ntmps44
      go_wp2_with fail
      go_region_held3 (fun W => W.cell? ⟨w.heap.size, 1, none⟩ = some (.int .i64 ((a : Nat) : Int)) ∧ W.cell? ⟨w.heap.size, 2, none⟩ = some (.int .i64 ((b : Nat) : Int)) ∧ W.cell? (Addr.add vada a) = some (.int .u64 ((0 : Nat) : Int)) ∧ W.cell? (Addr.add vada b) = some (.int .u64 ((1 : Nat) : Int))) (first | exact HCE.out _ (Below.refl _ _) | exact HCE.out _ (Below.refl _ _).drew | exact HCE.out _ ((Below.refl _ _).drew.alloc (by simp) _) | exact HCE.out _ HB5.out) (first | (go_at_call 45; refine (HBI.out _ _ (HB0.out.trans (((Below.refl _ _).drew.alloc (by simp) _).mono HB0.out.size)) (own_reads_at (own_freshQ _ 3 [.int .i64 ((a : Nat) : Int), .int .i64 ((b : Nat) : Int)] 2 rfl (by decide)))).mono ?_; rintro e w5 ⟨rfl, hw5⟩; have HB5 : Hid (Below w1.heap.size w1 w5) := Lib.hid (hw5 ▸ ((Below.refl _ _).drew.alloc (by simp) _)); clear hw5))
      all_goals (try go_wp2)
      all_goals go_ret3
      all_goals exact ⟨_, _, _, rfl, HB0.out.trans (HB5.out.mono HB0.out.size), fun _ => (by decide)⟩
    · skip
      go_enter Tryz.func44, Tryz.ntmps44
      go_wp2_with fail
      go_region_held3 (fun W => W.cell? ⟨w.heap.size, 1, none⟩ = some (.int .i64 ((a : Nat) : Int)) ∧ W.cell? ⟨w.heap.size, 2, none⟩ = some (.int .i64 ((b : Nat) : Int)) ∧ W.cell? (Addr.add vada a) = some (.int .u64 ((1 : Nat) : Int)) ∧ W.cell? (Addr.add vada b) = some (.int .u64 ((0 : Nat) : Int))) (first | exact HCE.out _ (Below.refl _ _) | exact HCE.out _ (Below.refl _ _).drew | exact HCE.out _ ((Below.refl _ _).drew.alloc (by simp) _) | exact HCE.out _ HB5.out) (first | (go_at_call 45; refine (HBI.out _ _ (HB0.out.trans (((Below.refl _ _).drew.alloc (by simp) _).mono HB0.out.size)) (own_reads_at (own_freshQ _ 3 [.int .i64 ((a : Nat) : Int), .int .i64 ((b : Nat) : Int)] 2 rfl (by decide)))).mono ?_; rintro e w5 ⟨rfl, hw5⟩; have HB5 : Hid (Below w1.heap.size w1 w5) := Lib.hid (hw5 ▸ ((Below.refl _ _).drew.alloc (by simp) _)); clear hw5))
      all_goals (try go_wp2)
      all_goals go_ret3
      all_goals exact ⟨_, _, _, rfl, HB0.out.trans (HB5.out.mono HB0.out.size), fun _ => (by decide)⟩
    · skip
      go_enter Tryz.func44, Tryz.ntmps44
      go_wp2_with fail
      go_region_held3 (fun W => W.cell? ⟨w.heap.size, 1, none⟩ = some (.int .i64 ((a : Nat) : Int)) ∧ W.cell? ⟨w.heap.size, 2, none⟩ = some (.int .i64 ((b : Nat) : Int)) ∧ W.cell? (Addr.add vada a) = some (.int .u64 ((1 : Nat) : Int)) ∧ W.cell? (Addr.add vada b) = some (.int .u64 ((1 : Nat) : Int))) (first | exact HCE.out _ (Below.refl _ _) | exact HCE.out _ (Below.refl _ _).drew | exact HCE.out _ ((Below.refl _ _).drew.alloc (by simp) _) | exact HCE.out _ HB5.out) (first | (go_at_call 45; refine (HBI.out _ _ (HB0.out.trans (((Below.refl _ _).drew.alloc (by simp) _).mono HB0.out.size)) (own_reads_at (own_freshQ _ 3 [.int .i64 ((a : Nat) : Int), .int .i64 ((b : Nat) : Int)] 2 rfl (by decide)))).mono ?_; rintro e w5 ⟨rfl, hw5⟩; have HB5 : Hid (Below w1.heap.size w1 w5) := Lib.hid (hw5 ▸ ((Below.refl _ _).drew.alloc (by simp) _)); clear hw5))
      all_goals (try go_wp2)
      all_goals go_ret3
      all_goals exact ⟨_, _, _, rfl, HB0.out.trans (HB5.out.mono HB0.out.size), fun _ => (by decide)⟩
  · have hn : (decide (va_ ≤ 1) && decide (vb_ ≤ 1)) = false := by simp; omega
    rw [hn] at HBI
    clear hn
    have HX := Lib.hid hx; clear hx
    go_enter Tryz.func44, Tryz.ntmps44
    go_wp2_with fail
    go_region_held3 (fun W => W.cell? ⟨w.heap.size, 1, none⟩ = some (.int .i64 ((a : Nat) : Int)) ∧ W.cell? ⟨w.heap.size, 2, none⟩ = some (.int .i64 ((b : Nat) : Int)) ∧ W.cell? (Addr.add vada a) = some (.int .u64 ((va_ : Nat) : Int)) ∧ W.cell? (Addr.add vada b) = some (.int .u64 ((vb_ : Nat) : Int))) (first | exact HCE.out _ (Below.refl _ _) | exact HCE.out _ (Below.refl _ _).drew | exact HCE.out _ ((Below.refl _ _).drew.alloc (by simp) _) | exact HCE.out _ HB5.out) (first | (go_at_call 45; refine (HBI.out _ _ (HB0.out.trans (((Below.refl _ _).drew.alloc (by simp) _).mono HB0.out.size)) (own_reads_at (own_freshQ _ 3 [.int .i64 ((a : Nat) : Int), .int .i64 ((b : Nat) : Int)] 2 rfl (by decide)))).mono ?_; rintro e w5 ⟨rfl, hw5⟩; have HB5 : Hid (Below w1.heap.size w1 w5) := Lib.hid (hw5 ▸ ((Below.refl _ _).drew.alloc (by simp) _)); clear hw5))
    all_goals (try go_wp2)
    all_goals go_ret3
    all_goals exact ⟨_, _, _, rfl, HB0.out.trans (HB5.out.mono HB0.out.size), fun h => absurd h (by decide)⟩
set_option maxHeartbeats 4000000 in
set_option maxRecDepth 100000 in
theorem worth_8 (p : Nat) (a : Nat) (b : Nat) (c : Nat) (k : Int) (VA WA A : Option Addr) (vl wl vc wc vn cc : Nat) (s : Slo) (g : Gat) (x : Exi) (w : World) (V : List Nat) (hvn : V.length = vn) (hV : Reads w A (uCells V)) (ha : a < vn) (hb : b < vn) (hc : c < vn) :
    Calls Tryz.prog 44 #[.int .u64 ((p : Nat) : Int), .agg #[.int .i64 8, .int .i64 ((a : Nat) : Int), .int .i64 ((b : Nat) : Int), .int .i64 ((c : Nat) : Int), .int .u64 k, .slice VA vl vc, .slice WA wl wc, .int .i64 s.1, .bool s.2, .int .i64 g.1, .int .i64 g.2.1, .int .i64 g.2.2.1, .int .u64 g.2.2.2, .slice x.A x.tl.length x.c, .slice x.B x.gl.length x.d], .slice A vn cc] w (WRet (fun t n => (V.getD c 0 = 1 ∧ t = ((V.getD a 0 : Nat) : Int) ∨ V.getD c 0 = 0 ∧ t = ((V.getD b 0 : Nat) : Int)) ∧ n = 0) w) := by
  have kb : (w.alloc (.cells #[.int .i64 8, .int .i64 ((a : Nat) : Int), .int .i64 ((b : Nat) : Int), .int .i64 ((c : Nat) : Int), .int .u64 k, .slice VA vl vc, .slice WA wl wc, .int .i64 s.1, .bool s.2, .int .i64 g.1, .int .i64 g.2.1, .int .i64 g.2.2.1, .int .u64 g.2.2.2, .slice x.A x.tl.length x.c, .slice x.B x.gl.length x.d] 46)).heap[w.heap.size]? = some (.cells #[.int .i64 8, .int .i64 ((a : Nat) : Int), .int .i64 ((b : Nat) : Int), .int .i64 ((c : Nat) : Int), .int .u64 k, .slice VA vl vc, .slice WA wl wc, .int .i64 s.1, .bool s.2, .int .i64 g.1, .int .i64 g.2.1, .int .i64 g.2.2.1, .int .u64 g.2.2.2, .slice x.A x.tl.length x.c, .slice x.B x.gl.length x.d] 46 (0, 0)) := heap_alloc_new w _
  have HB0 : Hid (Below w.heap.size w (w.alloc (.cells #[.int .i64 8, .int .i64 ((a : Nat) : Int), .int .i64 ((b : Nat) : Int), .int .i64 ((c : Nat) : Int), .int .u64 k, .slice VA vl vc, .slice WA wl wc, .int .i64 s.1, .bool s.2, .int .i64 g.1, .int .i64 g.2.1, .int .i64 g.2.2.1, .int .u64 g.2.2.2, .slice x.A x.tl.length x.c, .slice x.B x.gl.length x.d] 46))) := Lib.hid ((Below.refl _ _).alloc (Nat.le_refl _) _)
  have q0 : World.cell? _ ⟨w.heap.size, 0, none⟩ = some (.int .i64 8) := cell_in kb
  have q5 : World.cell? _ ⟨w.heap.size, 5, none⟩ = some (.slice VA vl vc) := cell_in kb
  have q1 : World.cell? _ ⟨w.heap.size, 1, none⟩ = some (.int .i64 ((a : Nat) : Int)) := cell_in kb
  have q2 : World.cell? _ ⟨w.heap.size, 2, none⟩ = some (.int .i64 ((b : Nat) : Int)) := cell_in kb
  have q3 : World.cell? _ ⟨w.heap.size, 3, none⟩ = some (.int .i64 ((c : Nat) : Int)) := cell_in kb
  have HBI := Lib.hid (fun (W : World) (Ab : Option Addr) (hb : Below w.heap.size w W) (hr : Reads W Ab (nCells [c])) => bits_any V [c] A Ab cc 1 vn 1 rfl hvn (by decide) (by intro y hy; simp at hy; subst hy; all_goals omega) W (hV.below hb) hr)
  obtain ⟨vada, eva, za⟩ := hV.uat a (by omega)
  obtain ⟨vadb, evb, zb⟩ := hV.uat b (by omega)
  obtain ⟨vadc, evc, zc⟩ := hV.uat c (by omega)
  obtain rfl := eva
  injection evb with evb; subst evb
  injection evc with evc; subst evc
  have ga : V.getD a 0 = V[a]'(by omega) := getD_at (by omega)
  have gb : V.getD b 0 = V[b]'(by omega) := getD_at (by omega)
  have gc : V.getD c 0 = V[c]'(by omega) := getD_at (by omega)
  simp only [List.all_cons, List.all_nil, Bool.and_true, gc] at HBI
  simp only [ga, gb, gc]
  generalize V[a]'(by omega) = va_ at *
  generalize V[b]'(by omega) = vb_ at *
  generalize V[c]'(by omega) = vc_ at *
  have ya := cell_alA (o := .cells #[.int .i64 8, .int .i64 ((a : Nat) : Int), .int .i64 ((b : Nat) : Int), .int .i64 ((c : Nat) : Int), .int .u64 k, .slice VA vl vc, .slice WA wl wc, .int .i64 s.1, .bool s.2, .int .i64 g.1, .int .i64 g.2.1, .int .i64 g.2.2.1, .int .u64 g.2.2.2, .slice x.A x.tl.length x.c, .slice x.B x.gl.length x.d] 46) za
  have yb := cell_alA (o := .cells #[.int .i64 8, .int .i64 ((a : Nat) : Int), .int .i64 ((b : Nat) : Int), .int .i64 ((c : Nat) : Int), .int .u64 k, .slice VA vl vc, .slice WA wl wc, .int .i64 s.1, .bool s.2, .int .i64 g.1, .int .i64 g.2.1, .int .i64 g.2.2.1, .int .u64 g.2.2.2, .slice x.A x.tl.length x.c, .slice x.B x.gl.length x.d] 46) zb
  have yc := cell_alA (o := .cells #[.int .i64 8, .int .i64 ((a : Nat) : Int), .int .i64 ((b : Nat) : Int), .int .i64 ((c : Nat) : Int), .int .u64 k, .slice VA vl vc, .slice WA wl wc, .int .i64 s.1, .bool s.2, .int .i64 g.1, .int .i64 g.2.1, .int .i64 g.2.2.1, .int .u64 g.2.2.2, .slice x.A x.tl.length x.c, .slice x.B x.gl.length x.d] 46) zc
  have HCE : Hid (∀ W, Below (w.alloc (.cells #[.int .i64 8, .int .i64 ((a : Nat) : Int), .int .i64 ((b : Nat) : Int), .int .i64 ((c : Nat) : Int), .int .u64 k, .slice VA vl vc, .slice WA wl wc, .int .i64 s.1, .bool s.2, .int .i64 g.1, .int .i64 g.2.1, .int .i64 g.2.2.1, .int .u64 g.2.2.2, .slice x.A x.tl.length x.c, .slice x.B x.gl.length x.d] 46)).heap.size (w.alloc (.cells #[.int .i64 8, .int .i64 ((a : Nat) : Int), .int .i64 ((b : Nat) : Int), .int .i64 ((c : Nat) : Int), .int .u64 k, .slice VA vl vc, .slice WA wl wc, .int .i64 s.1, .bool s.2, .int .i64 g.1, .int .i64 g.2.1, .int .i64 g.2.2.1, .int .u64 g.2.2.2, .slice x.A x.tl.length x.c, .slice x.B x.gl.length x.d] 46)) W → (fun W => W.cell? ⟨w.heap.size, 1, none⟩ = some (.int .i64 ((a : Nat) : Int)) ∧ W.cell? ⟨w.heap.size, 2, none⟩ = some (.int .i64 ((b : Nat) : Int)) ∧ W.cell? ⟨w.heap.size, 3, none⟩ = some (.int .i64 ((c : Nat) : Int)) ∧ W.cell? (Addr.add vada a) = some (.int .u64 ((va_ : Nat) : Int)) ∧ W.cell? (Addr.add vada b) = some (.int .u64 ((vb_ : Nat) : Int)) ∧ W.cell? (Addr.add vada c) = some (.int .u64 ((vc_ : Nat) : Int))) W) := Lib.hid fun W hb => ⟨cell_blA q1 hb, cell_blA q2 hb, cell_blA q3 hb, cell_blA ya hb, cell_blA yb hb, cell_blA yc hb⟩
  have HI : Hid ((0 : Int) ≤ ((a : Nat) : Int) ∧ ((a : Nat) : Int) < ((vn : Nat) : Int) ∧ (0 : Int) ≤ ((b : Nat) : Int) ∧ ((b : Nat) : Int) < ((vn : Nat) : Int) ∧ (0 : Int) ≤ ((c : Nat) : Int) ∧ ((c : Nat) : Int) < ((vn : Nat) : Int)) := Lib.hid ⟨by omega, by omega, by omega, by omega, by omega, by omega⟩
  have ia0 : (0 : Int) ≤ ((a : Nat) : Int) := by omega
  have ia1 : ((a : Nat) : Int) < ((vn : Nat) : Int) := by omega
  have ib0 : (0 : Int) ≤ ((b : Nat) : Int) := by omega
  have ib1 : ((b : Nat) : Int) < ((vn : Nat) : Int) := by omega
  have ic0 : (0 : Int) ≤ ((c : Nat) : Int) := by omega
  have ic1 : ((c : Nat) : Int) < ((vn : Nat) : Int) := by omega
  clear kb hV hvn za zb zc
  generalize hw1 : (w.alloc (.cells #[.int .i64 8, .int .i64 ((a : Nat) : Int), .int .i64 ((b : Nat) : Int), .int .i64 ((c : Nat) : Int), .int .u64 k, .slice VA vl vc, .slice WA wl wc, .int .i64 s.1, .bool s.2, .int .i64 g.1, .int .i64 g.2.1, .int .i64 g.2.2.1, .int .u64 g.2.2.2, .slice x.A x.tl.length x.c, .slice x.B x.gl.length x.d] 46)) = w1 at *
  by_cases hx : vc_ = 1
  · subst hx
    have j1 : ((1 : Nat) : Int) = 1 := rfl
    go_enter Tryz.func44, Tryz.ntmps44
    go_wp2_with fail
    all_goals go_ret3
    all_goals exact ⟨_, _, _, rfl, HB0.out, fun _ => by simp⟩
  · by_cases hz : vc_ = 0
    · subst hz
      go_enter Tryz.func44, Tryz.ntmps44
      go_wp2_with fail
      go_region_held3 (fun W => W.cell? ⟨w.heap.size, 1, none⟩ = some (.int .i64 ((a : Nat) : Int)) ∧ W.cell? ⟨w.heap.size, 2, none⟩ = some (.int .i64 ((b : Nat) : Int)) ∧ W.cell? ⟨w.heap.size, 3, none⟩ = some (.int .i64 ((c : Nat) : Int)) ∧ W.cell? (Addr.add vada a) = some (.int .u64 ((va_ : Nat) : Int)) ∧ W.cell? (Addr.add vada b) = some (.int .u64 ((vb_ : Nat) : Int)) ∧ W.cell? (Addr.add vada c) = some (.int .u64 ((0 : Nat) : Int))) (first | exact HCE.out _ (Below.refl _ _) | exact HCE.out _ (Below.refl _ _).drew | exact HCE.out _ ((Below.refl _ _).drew.alloc (by simp) _) | exact HCE.out _ HB5.out) (first | (go_at_call 45; refine (HBI.out _ _ (HB0.out.trans (((Below.refl _ _).drew.alloc (by simp) _).mono HB0.out.size)) (own_reads_at (own_freshQ _ 3 [.int .i64 ((c : Nat) : Int)] 1 rfl (by decide)))).mono ?_; rintro e w5 ⟨rfl, hw5⟩; have HB5 : Hid (Below w1.heap.size w1 w5) := Lib.hid (hw5 ▸ ((Below.refl _ _).drew.alloc (by simp) _)); clear hw5))
      all_goals (try go_wp2)
      all_goals go_ret3
      all_goals exact ⟨_, _, _, rfl, HB0.out.trans (HB5.out.mono HB0.out.size), fun _ => by simp⟩
    · have hn : decide (vc_ ≤ 1) = false := by simp; omega
      rw [hn] at HBI
      have j1 : ¬ ((vc_ : Nat) : Int) = 1 := by omega
      clear hn hz hx
      go_enter Tryz.func44, Tryz.ntmps44
      go_wp2_with fail
      go_region_held3 (fun W => W.cell? ⟨w.heap.size, 1, none⟩ = some (.int .i64 ((a : Nat) : Int)) ∧ W.cell? ⟨w.heap.size, 2, none⟩ = some (.int .i64 ((b : Nat) : Int)) ∧ W.cell? ⟨w.heap.size, 3, none⟩ = some (.int .i64 ((c : Nat) : Int)) ∧ W.cell? (Addr.add vada a) = some (.int .u64 ((va_ : Nat) : Int)) ∧ W.cell? (Addr.add vada b) = some (.int .u64 ((vb_ : Nat) : Int)) ∧ W.cell? (Addr.add vada c) = some (.int .u64 ((vc_ : Nat) : Int))) (first | exact HCE.out _ (Below.refl _ _) | exact HCE.out _ (Below.refl _ _).drew | exact HCE.out _ ((Below.refl _ _).drew.alloc (by simp) _) | exact HCE.out _ HB5.out) (first | (go_at_call 45; refine (HBI.out _ _ (HB0.out.trans (((Below.refl _ _).drew.alloc (by simp) _).mono HB0.out.size)) (own_reads_at (own_freshQ _ 3 [.int .i64 ((c : Nat) : Int)] 1 rfl (by decide)))).mono ?_; rintro e w5 ⟨rfl, hw5⟩; have HB5 : Hid (Below w1.heap.size w1 w5) := Lib.hid (hw5 ▸ ((Below.refl _ _).drew.alloc (by simp) _)); clear hw5))
      all_goals (try go_wp2)
      all_goals go_ret3
      all_goals exact ⟨_, _, _, rfl, HB0.out.trans (HB5.out.mono HB0.out.size), fun h => absurd h (by decide)⟩
end Go.Proofs.YtkcdlbclodjjhaaGreat
