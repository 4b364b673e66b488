/- The law's exact. (Printed by wip/tools/gen_rc.py.) -/
import Derived.Test.YtkcdlbclodjjhaaGreatGaz
import Derived.Test.YtkcdlbclodjjhaaGreatGam
import Derived.Test.YtkcdlbclodjjhaaGreatPo
namespace Go.Proofs.YtkcdlbclodjjhaaGreat
open Go.RowKit

theorem sloCells_len (l : List Slo) : (sloCells l).length = l.length * 2 := by
  induction l with
  | nil => rfl
  | cons a r ih => unfold sloCells at *; rw [List.flatMap_cons, List.length_append, ih]; simp; omega
theorem exiCells_len (l : List Exi) : (exiCells l).length = l.length * 2 := by
  induction l with
  | nil => rfl
  | cons a r ih => unfold exiCells at *; rw [List.flatMap_cons, List.length_append, ih]; simp; omega
theorem one_exi (l : List Exi) : ∀ u ∈ exiCells l, u.oneCell' = true := by
  intro u hu
  simp only [exiCells, List.mem_flatMap] at hu
  obtain ⟨x, _, hu⟩ := hu
  simp at hu
  rcases hu with rfl | rfl <;> rfl
/-- The circuit that the law builds: its box and its rows. -/
structure WX (H q : Nat) (w2 : World) (E : Cir) (W : World) : Prop where
  bx : W.heap[q]? = some (.cells #[.slice E.SA E.slots.length E.sc, .slice E.GA E.gates.length E.gc, .slice E.EA E.exits.length E.ec] 36 (0, 0))
  s : W.ownsRow H 40 2 (.slice E.SA E.slots.length E.sc) E.slots.length (sloCells E.slots)
  g : W.ownsRow H 42 4 (.slice E.GA E.gates.length E.gc) E.gates.length (gatCells E.gates)
  e : W.ownsRow H 44 2 (.slice E.EA E.exits.length E.ec) E.exits.length (exiCells E.exits)
  low : Below H w2 W
  lq : H ≤ q
  hH : H ≤ w2.heap.size
theorem WX.below {H q : Nat} {w2 W W' : World} {E : Cir} (h : WX H q w2 E W) (hb : Below W.heap.size W W') : WX H q w2 E W' :=
  ⟨(hb.block _ (Array.getElem?_eq_some_iff.1 h.bx).1).trans h.bx, own_below h.s hb, own_below h.g hb, own_below h.e hb, h.low.trans (hb.mono (Nat.le_trans h.hH h.low.size)), h.lq, h.hH⟩
theorem WX.slot {H q : Nat} {w2 W W3 : World} {E : Cir} (h : WX H q w2 E W) {x : Slo} {A : Option Addr} {c : Nat} (ho : W3.ownsRow H 40 2 (.slice A (E.slots.length + 1) c) (E.slots.length + 1) (sloCells E.slots ++ [.int .i64 x.1, .bool x.2])) (hg : W.grownBy W3 (Value.slice E.SA E.slots.length E.sc).ownBlock) :
    WX H q w2 { E with slots := E.slots ++ [x], SA := A, sc := c } (W3.setCell ⟨q, 0, none⟩ (.slice A (E.slots.length + 1) c)) := by
  have hb3 := (hg.block _ (Array.getElem?_eq_some_iff.1 h.bx).1 (own_not_box h.s h.bx (by decide))).trans h.bx
  have hl : (E.slots ++ [x]).length = E.slots.length + 1 := by simp
  have hgs := grown_set W3 ⟨q, 0, none⟩ (.slice A (E.slots.length + 1) c)
  have hlow := (h.low.grown hg (Nat.le_trans h.hH h.low.size) (fun k hk => (h.s.lt k hk).1)).setCell (p := ⟨q, 0, none⟩) h.lq (.slice A (E.slots.length + 1) c)
  have hk : ∀ {e : TypeId} {size n : Nat} {v : Value} {cs : List Value}, e ≠ 36 → W3.ownsRow H e size v n cs → (W3.setCell ⟨q, 0, none⟩ (.slice A (E.slots.length + 1) c)).ownsRow H e size v n cs := fun hne h1 => h1.kept hgs (.inr (Ne.symm (own_not_box h1 hb3 (Ne.symm hne))))
  exact ⟨by rw [hl]; exact box_set (i := 0) hb3 _, by rw [hl]; refine hk (by decide) ?_; simpa [sloCells] using ho, hk (by decide) (own_grown h.g h.s (by decide) hg), hk (by decide) (own_grown h.e h.s (by decide) hg), hlow, h.lq, h.hH⟩
theorem WX.gate {H q : Nat} {w2 W W3 : World} {E : Cir} (h : WX H q w2 E W) {x : Gat} {A : Option Addr} {c : Nat} (ho : W3.ownsRow H 42 4 (.slice A (E.gates.length + 1) c) (E.gates.length + 1) (gatCells E.gates ++ [.int .i64 x.1, .int .i64 x.2.1, .int .i64 x.2.2.1, .int .u64 x.2.2.2])) (hg : W.grownBy W3 (Value.slice E.GA E.gates.length E.gc).ownBlock) :
    WX H q w2 { E with gates := E.gates ++ [x], GA := A, gc := c } (W3.setCell ⟨q, 1, none⟩ (.slice A (E.gates.length + 1) c)) := by
  have hb3 := (hg.block _ (Array.getElem?_eq_some_iff.1 h.bx).1 (own_not_box h.g h.bx (by decide))).trans h.bx
  have hl : (E.gates ++ [x]).length = E.gates.length + 1 := by simp
  have hgs := grown_set W3 ⟨q, 1, none⟩ (.slice A (E.gates.length + 1) c)
  have hlow := (h.low.grown hg (Nat.le_trans h.hH h.low.size) (fun k hk => (h.g.lt k hk).1)).setCell (p := ⟨q, 1, none⟩) h.lq (.slice A (E.gates.length + 1) c)
  have hk : ∀ {e : TypeId} {size n : Nat} {v : Value} {cs : List Value}, e ≠ 36 → W3.ownsRow H e size v n cs → (W3.setCell ⟨q, 1, none⟩ (.slice A (E.gates.length + 1) c)).ownsRow H e size v n cs := fun hne h1 => h1.kept hgs (.inr (Ne.symm (own_not_box h1 hb3 (Ne.symm hne))))
  exact ⟨by rw [hl]; exact box_set (i := 1) hb3 _, hk (by decide) (own_grown h.s h.g (by decide) hg), by rw [hl]; refine hk (by decide) ?_; simpa [gatCells] using ho, hk (by decide) (own_grown h.e h.g (by decide) hg), hlow, h.lq, h.hH⟩
theorem WX.exit {H q : Nat} {w2 W W3 : World} {E : Cir} (h : WX H q w2 E W) {x : Exi} {A : Option Addr} {c : Nat} (ho : W3.ownsRow H 44 2 (.slice A (E.exits.length + 1) c) (E.exits.length + 1) (exiCells E.exits ++ [.slice x.A x.tl.length x.c, .slice x.B x.gl.length x.d])) (hg : W.grownBy W3 (Value.slice E.EA E.exits.length E.ec).ownBlock) :
    WX H q w2 { E with exits := E.exits ++ [x], EA := A, ec := c } (W3.setCell ⟨q, 2, none⟩ (.slice A (E.exits.length + 1) c)) := by
  have hb3 := (hg.block _ (Array.getElem?_eq_some_iff.1 h.bx).1 (own_not_box h.e h.bx (by decide))).trans h.bx
  have hl : (E.exits ++ [x]).length = E.exits.length + 1 := by simp
  have hgs := grown_set W3 ⟨q, 2, none⟩ (.slice A (E.exits.length + 1) c)
  have hlow := (h.low.grown hg (Nat.le_trans h.hH h.low.size) (fun k hk => (h.e.lt k hk).1)).setCell (p := ⟨q, 2, none⟩) h.lq (.slice A (E.exits.length + 1) c)
  have hk : ∀ {e : TypeId} {size n : Nat} {v : Value} {cs : List Value}, e ≠ 36 → W3.ownsRow H e size v n cs → (W3.setCell ⟨q, 2, none⟩ (.slice A (E.exits.length + 1) c)).ownsRow H e size v n cs := fun hne h1 => h1.kept hgs (.inr (Ne.symm (own_not_box h1 hb3 (Ne.symm hne))))
  exact ⟨by rw [hl]; exact box_set (i := 2) hb3 _, hk (by decide) (own_grown h.s h.e (by decide) hg), hk (by decide) (own_grown h.g h.e (by decide) hg), by rw [hl]; refine hk (by decide) ?_; simpa [exiCells] using ho, hlow, h.lq, h.hH⟩
theorem WX.holds {H q : Nat} {w2 W : World} {E : Cir} (h : WX H q w2 E W) (hx : ∀ y ∈ E.exits, Reads W y.A (iCells y.tl) ∧ Reads W y.B (iCells y.gl)) (hn : E.slots.length ≤ 9223372036854775807 ∧ E.gates.length ≤ 9223372036854775807 ∧ E.exits.length ≤ 9223372036854775807)
    (hm : ∀ x ∈ E.exits, x.tl.length ≤ 9223372036854775807 ∧ x.gl.length ≤ 9223372036854775807) (hk : ∀ g ∈ E.gates, 0 ≤ g.2.2.2) : HoldsC W E := ⟨own_reads_at h.s, own_reads_at h.g, own_reads_at h.e, hx, hn, hm, hk⟩
set_option maxHeartbeats 4000000 in
set_option maxRecDepth 100000 in
theorem exact_any (C D : Cir) (m a b c k at_ : Int) (VA WA : Option Addr) (vl wl vc wc : Nat) (s : Slo) (g : Gat) (x : Exi) (w : World) (hC : HoldsC w C) (hD : HoldsC w D)
    (z1 : C.SA = none → C.sc = 0) (z2 : C.GA = none → C.gc = 0) (z3 : C.EA = none → C.ec = 0) (l1 : C.slots.length ≤ 256) (l2 : C.gates.length ≤ 65536) (l3 : C.exits.length ≤ 256) (hX : Reads w x.A (iCells x.tl)) (hY : Reads w x.B (iCells x.gl)) (hXn : x.tl.length ≤ 9223372036854775807 ∧ x.gl.length ≤ 9223372036854775807) (hk0 : 0 ≤ k) (hg0 : 0 ≤ g.2.2.2)
    (hm : (m = 0 ∧ D.slots = C.slots ++ [s] ∧ D.gates = C.gates ++ [((1, ((C.slots.length : Nat) : Int), 0, 0) : Gat)] ∧ D.exits.map Exi.l = C.exits.map Exi.l ∧ at_ = ((C.gates.length : Nat) : Int)) ∨ (m = 1 ∧ D.slots = C.slots ∧ D.gates = C.gates ++ [g] ∧ D.exits.map Exi.l = C.exits.map Exi.l ∧ at_ = ((C.gates.length : Nat) : Int)) ∨
      (m = 2 ∧ D.slots = C.slots ∧ D.gates = C.gates ∧ D.exits.map Exi.l = C.exits.map Exi.l ++ [x.l]) ∨ (m = 3 ∧ D.slots = C.slots ∧ D.gates = C.gates ++ [((2, 0, 0, k) : Gat)] ∧ D.exits.map Exi.l = C.exits.map Exi.l ∧ at_ = ((C.gates.length : Nat) : Int)) ∨ 4 ≤ m) :
    Calls Tryz.prog 40 #[.agg #[.slice C.SA C.slots.length C.sc, .slice C.GA C.gates.length C.gc, .slice C.EA C.exits.length C.ec], .agg #[.slice D.SA D.slots.length D.sc, .slice D.GA D.gates.length D.gc, .slice D.EA D.exits.length D.ec], .agg #[.int .i64 m, .int .i64 a, .int .i64 b, .int .i64 c, .int .u64 k, .slice VA vl vc, .slice WA wl wc, .int .i64 s.1, .bool s.2, .int .i64 g.1, .int .i64 g.2.1, .int .i64 g.2.2.1, .int .u64 g.2.2.2, .slice x.A x.tl.length x.c, .slice x.B x.gl.length x.d], .int .i64 at_] w fun e w' => e = .returned (.bool true) ∧ Below w.heap.size w w' := by
  have hb0 : Below w.heap.size w (((w.alloc (.cells #[.slice C.SA C.slots.length C.sc, .slice C.GA C.gates.length C.gc, .slice C.EA C.exits.length C.ec] 36)).alloc (.cells #[.slice D.SA D.slots.length D.sc, .slice D.GA D.gates.length D.gc, .slice D.EA D.exits.length D.ec] 36)).alloc (.cells #[.int .i64 m, .int .i64 a, .int .i64 b, .int .i64 c, .int .u64 k, .slice VA vl vc, .slice WA wl wc, .int .i64 s.1, .bool s.2, .int .i64 g.1, .int .i64 g.2.1, .int .i64 g.2.2.1, .int .u64 g.2.2.2, .slice x.A x.tl.length x.c, .slice x.B x.gl.length x.d] 46)) := (((Below.refl _ _).alloc (Nat.le_refl _) _).alloc (by simp) _).alloc (by simp; omega) _
  have b1 : (((w.alloc (.cells #[.slice C.SA C.slots.length C.sc, .slice C.GA C.gates.length C.gc, .slice C.EA C.exits.length C.ec] 36)).alloc (.cells #[.slice D.SA D.slots.length D.sc, .slice D.GA D.gates.length D.gc, .slice D.EA D.exits.length D.ec] 36)).alloc (.cells #[.int .i64 m, .int .i64 a, .int .i64 b, .int .i64 c, .int .u64 k, .slice VA vl vc, .slice WA wl wc, .int .i64 s.1, .bool s.2, .int .i64 g.1, .int .i64 g.2.1, .int .i64 g.2.2.1, .int .u64 g.2.2.2, .slice x.A x.tl.length x.c, .slice x.B x.gl.length x.d] 46)).heap[w.heap.size]? = some (.cells #[.slice C.SA C.slots.length C.sc, .slice C.GA C.gates.length C.gc, .slice C.EA C.exits.length C.ec] 36 (0, 0)) := by rw [Below.heap_alloc _ _ _ (by simp; omega), Below.heap_alloc _ _ _ (by simp)]; exact heap_alloc_new w _
  have b2 : (((w.alloc (.cells #[.slice C.SA C.slots.length C.sc, .slice C.GA C.gates.length C.gc, .slice C.EA C.exits.length C.ec] 36)).alloc (.cells #[.slice D.SA D.slots.length D.sc, .slice D.GA D.gates.length D.gc, .slice D.EA D.exits.length D.ec] 36)).alloc (.cells #[.int .i64 m, .int .i64 a, .int .i64 b, .int .i64 c, .int .u64 k, .slice VA vl vc, .slice WA wl wc, .int .i64 s.1, .bool s.2, .int .i64 g.1, .int .i64 g.2.1, .int .i64 g.2.2.1, .int .u64 g.2.2.2, .slice x.A x.tl.length x.c, .slice x.B x.gl.length x.d] 46)).heap[w.heap.size + 1]? = some (.cells #[.slice D.SA D.slots.length D.sc, .slice D.GA D.gates.length D.gc, .slice D.EA D.exits.length D.ec] 36 (0, 0)) := by rw [Below.heap_alloc _ _ _ (by simp)]; have := heap_alloc_new (w.alloc (.cells #[.slice C.SA C.slots.length C.sc, .slice C.GA C.gates.length C.gc, .slice C.EA C.exits.length C.ec] 36)) (.cells #[.slice D.SA D.slots.length D.sc, .slice D.GA D.gates.length D.gc, .slice D.EA D.exits.length D.ec] 36); simpa using this
  have b3 : (((w.alloc (.cells #[.slice C.SA C.slots.length C.sc, .slice C.GA C.gates.length C.gc, .slice C.EA C.exits.length C.ec] 36)).alloc (.cells #[.slice D.SA D.slots.length D.sc, .slice D.GA D.gates.length D.gc, .slice D.EA D.exits.length D.ec] 36)).alloc (.cells #[.int .i64 m, .int .i64 a, .int .i64 b, .int .i64 c, .int .u64 k, .slice VA vl vc, .slice WA wl wc, .int .i64 s.1, .bool s.2, .int .i64 g.1, .int .i64 g.2.1, .int .i64 g.2.2.1, .int .u64 g.2.2.2, .slice x.A x.tl.length x.c, .slice x.B x.gl.length x.d] 46)).heap[w.heap.size + 1 + 1]? = some (.cells #[.int .i64 m, .int .i64 a, .int .i64 b, .int .i64 c, .int .u64 k, .slice VA vl vc, .slice WA wl wc, .int .i64 s.1, .bool s.2, .int .i64 g.1, .int .i64 g.2.1, .int .i64 g.2.2.1, .int .u64 g.2.2.2, .slice x.A x.tl.length x.c, .slice x.B x.gl.length x.d] 46 (0, 0)) := by have := heap_alloc_new ((w.alloc (.cells #[.slice C.SA C.slots.length C.sc, .slice C.GA C.gates.length C.gc, .slice C.EA C.exits.length C.ec] 36)).alloc (.cells #[.slice D.SA D.slots.length D.sc, .slice D.GA D.gates.length D.gc, .slice D.EA D.exits.length D.ec] 36)) (.cells #[.int .i64 m, .int .i64 a, .int .i64 b, .int .i64 c, .int .u64 k, .slice VA vl vc, .slice WA wl wc, .int .i64 s.1, .bool s.2, .int .i64 g.1, .int .i64 g.2.1, .int .i64 g.2.2.1, .int .u64 g.2.2.2, .slice x.A x.tl.length x.c, .slice x.B x.gl.length x.d] 46); simpa using this
  have HB0 := Lib.hid hb0
  have hC2 := hC.below hb0
  go_enter Tryz.func40, Tryz.ntmps40
  go_wp2_with fail
  generalize (((w.alloc (.cells #[.slice C.SA C.slots.length C.sc, .slice C.GA C.gates.length C.gc, .slice C.EA C.exits.length C.ec] 36)).alloc (.cells #[.slice D.SA D.slots.length D.sc, .slice D.GA D.gates.length D.gc, .slice D.EA D.exits.length D.ec] 36)).alloc (.cells #[.int .i64 m, .int .i64 a, .int .i64 b, .int .i64 c, .int .u64 k, .slice VA vl vc, .slice WA wl wc, .int .i64 s.1, .bool s.2, .int .i64 g.1, .int .i64 g.2.1, .int .i64 g.2.2.1, .int .u64 g.2.2.2, .slice x.A x.tl.length x.c, .slice x.B x.gl.length x.d] 46)) = w2 at *
  generalize (Value.agg #[.slice C.SA C.slots.length C.sc, .slice C.GA C.gates.length C.gc, .slice C.EA C.exits.length C.ec]) = t0
  generalize (Value.agg #[.slice D.SA D.slots.length D.sc, .slice D.GA D.gates.length D.gc, .slice D.EA D.exits.length D.ec]) = t1
  generalize (Value.agg #[.int .i64 m, .int .i64 a, .int .i64 b, .int .i64 c, .int .u64 k, .slice VA vl vc, .slice WA wl wc, .int .i64 s.1, .bool s.2, .int .i64 g.1, .int .i64 g.2.1, .int .i64 g.2.2.1, .int .u64 g.2.2.2, .slice x.A x.tl.length x.c, .slice x.B x.gl.length x.d] : Value) = t2
  have HC2 := Lib.hid hC2; have B1 := Lib.hid b1; have B2 := Lib.hid b2; have B3 := Lib.hid b3; clear hC2 b1 b2 b3 hb0
  go_cut [9] (fun s9 wx => ∃ (q : Nat) (x13 x17 x21 : Value), s9 = .pointer (some ⟨q, 0, none⟩) ∧ w2.heap.size ≤ q ∧ wx.heap[q]? = some (.cells #[x13, x17, x21] 36 (0, 0)) ∧ wx.ownsRow w2.heap.size 40 2 x13 C.slots.length (sloCells C.slots) ∧ wx.ownsRow w2.heap.size 42 4 x17 C.gates.length (gatCells C.gates) ∧ wx.ownsRow w2.heap.size 44 2 x21 C.exits.length (exiCells C.exits) ∧ Below w2.heap.size w2 wx)
  case first =>
    refine wp_region_inv (by kernel_rfl) ?_ (fun L act wx => ∃ x9 x10 x11 x12 x13 x14 x15 x16 x17 x18 x19 x20 x21 x22 : Value, act = XAct t0 t1 t2 (.int .i64 at_) (.pointer (some ⟨w.heap.size, 0, none⟩)) (.pointer (some ⟨w.heap.size + 1, 0, none⟩)) (.pointer (some ⟨w.heap.size + 1 + 1, 0, none⟩)) x9 x10 x11 x12 x13 x14 x15 x16 x17 x18 x19 x20 x21 x22 ∧ XF w2.heap.size w2 C w.heap.size L x9 x10 x11 x12 x13 x14 x15 x16 x17 x18 x19 x20 x21 x22 wx) ?_ ?_ ?_
    · exact afters_of (by kernel_rfl)
    · refine ⟨undef, undef, undef, undef, undef, undef, undef, undef, undef, undef, undef, undef, undef, undef, rfl, ⟨(Below.refl _ _).drew, fun h => absurd h (by decide), fun h => absurd h (by decide), fun h => absurd h (by decide), fun h => absurd h (by decide), fun h => absurd h (by decide), fun h => absurd h (by decide), fun h => absurd h (by decide), fun h => absurd h (by decide), fun h => absurd h (by decide), fun h => absurd h (by decide), fun h => absurd h (by decide), fun h => absurd h (by decide), fun h => absurd h (by decide), fun h => absurd h (by decide)⟩⟩
    · intro i o L act wx ho hI hi hd hcl
      obtain ⟨x9, x10, x11, x12, x13, x14, x15, x16, x17, x18, x19, x20, x21, x22, rfl, h⟩ := hI
      have hH : w2.heap.size ≤ wx.heap.size := h.low.size
      have hlt : i < 15 := (Array.getElem?_eq_some_iff.1 ho).1
      have hi15 : i = 0 ∨ i = 1 ∨ i = 2 ∨ i = 3 ∨ i = 4 ∨ i = 5 ∨ i = 6 ∨ i = 7 ∨ i = 8 ∨ i = 9 ∨ i = 10 ∨ i = 11 ∨ i = 12 ∨ i = 13 ∨ i = 14 := by omega
      rcases hi15 with rfl | rfl | rfl | rfl | rfl | rfl | rfl | rfl | rfl | rfl | rfl | rfl | rfl | rfl | rfl
      all_goals (obtain rfl := Option.some.inj ho)
      all_goals (refine wpOp_step (o := _) rfl (fun K hK => ?_))
      · go_simp
        refine hK _ _ ?_
        exact ⟨_, _, _, _, _, _, _, _, _, _, _, _, _, _, rfl, h.s0 hH⟩
      · go_simp
        refine hK _ _ ?_
        exact ⟨_, _, _, _, _, _, _, _, _, _, _, _, _, _, rfl, h.s1⟩
      · have e1 := h.f1 (hd ⟨1, .data⟩ (by simp) rfl)
        have hq : wx.cell? ⟨w.heap.size, 0, none⟩ = some (.slice C.SA C.slots.length C.sc) := by rw [cell_in ((h.low.block _ (Array.getElem?_eq_some_iff.1 B1.out).1).trans B1.out)]; rfl
        subst e1
        go_simp
        refine hK _ _ ?_
        exact ⟨_, _, _, _, _, _, _, _, _, _, _, _, _, _, rfl, h.s2⟩
      · have e0 := hd ⟨0, .data⟩ (by simp) rfl
        have e2 := h.f2 (hd ⟨2, .data⟩ (by simp) rfl)
        have hcl12 := fun h => hcl 12 _ rfl h ⟨3, .data⟩ (by simp) rfl
        have hcl14 := fun h => hcl 14 _ rfl h ⟨3, .phase⟩ (by simp) rfl
        rw [if_pos (by rfl)]
        refine step_app_any w2.heap.size _ _ 32 40 _ 2 16 rfl Tryz.underlying32 infoSlo rfl (by decide) (by decide) x10 0 [] (sloCells C.slots) rfl C.SA (C.slots.length) C.sc e2 (by simp [sloCells_len]) z1 (HC2.out.s.below h.low) (one_slo _) (h.f0 e0 hi) hH (by omega) ?_
        intro v1 w1 ho1 hg1
        refine hK _ _ ?_
        exact ⟨_, _, _, _, _, _, _, _, _, _, _, _, _, _, rfl, h.s3 hH e0 hi hcl12 hcl14 (by simpa using ho1) hg1⟩
      · go_simp
        refine hK _ _ ?_
        exact ⟨_, _, _, _, _, _, _, _, _, _, _, _, _, _, rfl, h.s4 hH⟩
      · go_simp
        refine hK _ _ ?_
        exact ⟨_, _, _, _, _, _, _, _, _, _, _, _, _, _, rfl, h.s5⟩
      · have e1 := h.f5 (hd ⟨5, .data⟩ (by simp) rfl)
        have hq : wx.cell? ⟨w.heap.size, 1, none⟩ = some (.slice C.GA C.gates.length C.gc) := by rw [cell_in ((h.low.block _ (Array.getElem?_eq_some_iff.1 B1.out).1).trans B1.out)]; rfl
        subst e1
        go_simp
        refine hK _ _ ?_
        exact ⟨_, _, _, _, _, _, _, _, _, _, _, _, _, _, rfl, h.s6⟩
      · have e0 := hd ⟨4, .data⟩ (by simp) rfl
        have e2 := h.f6 (hd ⟨6, .data⟩ (by simp) rfl)
        have hcl12 := fun h => hcl 12 _ rfl h ⟨7, .data⟩ (by simp) rfl
        have hcl14 := fun h => hcl 14 _ rfl h ⟨7, .phase⟩ (by simp) rfl
        rw [if_pos (by rfl)]
        refine step_app_any w2.heap.size _ _ 33 42 _ 4 32 rfl Tryz.underlying33 infoGat rfl (by decide) (by decide) x14 0 [] (gatCells C.gates) rfl C.GA (C.gates.length) C.gc e2 (by simp [gatCells_len]) z2 (HC2.out.g.below h.low) (one_gat _) (h.f4 e0 hi) hH (by omega) ?_
        intro v1 w1 ho1 hg1
        refine hK _ _ ?_
        exact ⟨_, _, _, _, _, _, _, _, _, _, _, _, _, _, rfl, h.s7 hH e0 hi hcl12 hcl14 (by simpa using ho1) hg1⟩
      · go_simp
        refine hK _ _ ?_
        exact ⟨_, _, _, _, _, _, _, _, _, _, _, _, _, _, rfl, h.s8 hH⟩
      · go_simp
        refine hK _ _ ?_
        exact ⟨_, _, _, _, _, _, _, _, _, _, _, _, _, _, rfl, h.s9⟩
      · have e1 := h.f9 (hd ⟨9, .data⟩ (by simp) rfl)
        have hq : wx.cell? ⟨w.heap.size, 2, none⟩ = some (.slice C.EA C.exits.length C.ec) := by rw [cell_in ((h.low.block _ (Array.getElem?_eq_some_iff.1 B1.out).1).trans B1.out)]; rfl
        subst e1
        go_simp
        refine hK _ _ ?_
        exact ⟨_, _, _, _, _, _, _, _, _, _, _, _, _, _, rfl, h.s10⟩
      · have e0 := hd ⟨8, .data⟩ (by simp) rfl
        have e2 := h.f10 (hd ⟨10, .data⟩ (by simp) rfl)
        have hcl12 := fun h => hcl 12 _ rfl h ⟨11, .data⟩ (by simp) rfl
        have hcl14 := fun h => hcl 14 _ rfl h ⟨11, .phase⟩ (by simp) rfl
        rw [if_pos (by rfl)]
        refine step_app_any w2.heap.size _ _ 34 44 _ 2 48 rfl Tryz.underlying34 infoExi rfl (by decide) (by decide) x18 0 [] (exiCells C.exits) rfl C.EA (C.exits.length) C.ec e2 (by simp [exiCells_len]) z3 (HC2.out.e.below h.low) (one_exi _) (h.f8 e0 hi) hH (by omega) ?_
        intro v1 w1 ho1 hg1
        refine hK _ _ ?_
        exact ⟨_, _, _, _, _, _, _, _, _, _, _, _, _, _, rfl, h.s11 hH e0 hi hcl12 hcl14 (by simpa using ho1) hg1⟩
      · obtain ⟨A1, c1, rfl, _⟩ := own_reads (h.f3 (hd ⟨3, .data⟩ (by simp) rfl))
        obtain ⟨A2, c2, rfl, _⟩ := own_reads (h.f7 (hd ⟨7, .data⟩ (by simp) rfl))
        obtain ⟨A3, c3, rfl, _⟩ := own_reads (h.f11 (hd ⟨11, .data⟩ (by simp) rfl))
        go_simp
        refine hK _ _ ?_
        exact ⟨_, _, _, _, _, _, _, _, _, _, _, _, _, _, rfl, h.s12⟩
      · have hcl14 := fun h => hcl 14 _ rfl h ⟨13, .data⟩ (by simp) rfl
        go_simp
        refine hK _ _ ?_
        exact ⟨_, _, _, _, _, _, _, _, _, _, _, _, _, _, rfl, h.s13 hH hi hcl14⟩
      · have e12 := h.f12 (hd ⟨12, .data⟩ (by simp) rfl)
        obtain ⟨q, u1, u2, u3, e13, hq, hb, _⟩ := h.f13 (hd ⟨13, .data⟩ (by simp) rfl)
        obtain ⟨A1, c1, rfl, _⟩ := own_reads (h.f3 (hd ⟨3, .phase⟩ (by simp) rfl))
        obtain ⟨A2, c2, rfl, _⟩ := own_reads (h.f7 (hd ⟨7, .phase⟩ (by simp) rfl))
        obtain ⟨A3, c3, rfl, _⟩ := own_reads (h.f11 (hd ⟨11, .phase⟩ (by simp) rfl))
        subst e12 e13
        have hbb := box_facts hb
        go_simp
        refine hK _ _ ?_
        have h14 := (h.s14 hH (hd ⟨3, .phase⟩ (by simp) rfl) (hd ⟨7, .phase⟩ (by simp) rfl) (hd ⟨11, .phase⟩ (by simp) rfl)).resolve_right (by rw [hd ⟨13, .data⟩ (by simp) rfl]; decide)
        exact ⟨_, _, _, _, _, _, _, _, _, _, _, _, _, _, rfl, h14⟩
    · intro L act wx hI hall
      obtain ⟨x9, x10, x11, x12, x13, x14, x15, x16, x17, x18, x19, x20, x21, x22, rfl, h⟩ := hI
      obtain ⟨q, u1, u2, u3, rfl, hq, hb, e4⟩ := h.f13 (hall 13 (by decide))
      obtain ⟨rfl, rfl, rfl⟩ := e4 (hall 14 (by decide))
      dsimp only [XAct]
      go_wp2_with fail
      go_meet
      exact ⟨q, _, _, _, rfl, hq, hb, h.f3 (hall 3 (by decide)), h.f7 (hall 7 (by decide)), h.f11 (hall 11 (by decide)), h.low⟩
  case rest =>
    obtain ⟨q, x13, x17, x21, rfl, hq, hb, o1, o2, o3, hlow⟩ := hcut
    obtain ⟨A1, c1, rfl, _⟩ := own_reads o1
    obtain ⟨A2, c2, rfl, _⟩ := own_reads o2
    obtain ⟨A3, c3, rfl, _⟩ := own_reads o3
    have HW := Lib.hid (show WX w2.heap.size q w2 ⟨C.slots, C.gates, C.exits, A1, A2, A3, c1, c2, c3⟩ wc from ⟨hb, o1, o2, o3, hlow, hq, Nat.le_refl _⟩)
    clear o1 o2 o3
    have HD2 := Lib.hid (hD.below HB0.out)
    have HX2 := Lib.hid (And.intro (hX.below HB0.out) (hY.below HB0.out))
    have HN := Lib.hid (show (∀ g ∈ C.gates, 0 ≤ g.2.2.2) ∧ (∀ x ∈ C.exits, x.tl.length ≤ 9223372036854775807 ∧ x.gl.length ≤ 9223372036854775807) from ⟨hC.k, hC.m⟩)
    have b1 := (hlow.block _ (Array.getElem?_eq_some_iff.1 B1.out).1).trans B1.out
    have b2 := (hlow.block _ (Array.getElem?_eq_some_iff.1 B2.out).1).trans B2.out
    have b3 := (hlow.block _ (Array.getElem?_eq_some_iff.1 B3.out).1).trans B3.out
    have n1 : w.heap.size ≠ q := by have := (Array.getElem?_eq_some_iff.1 B1.out).1; omega
    have n2 : w.heap.size + 1 ≠ q := by have := (Array.getElem?_eq_some_iff.1 B2.out).1; omega
    have n3 : w.heap.size + 1 + 1 ≠ q := by have := (Array.getElem?_eq_some_iff.1 B3.out).1; omega
    have q0 : wc.cell? ⟨w.heap.size + 1 + 1, 0, none⟩ = some (.int .i64 m) := cell_in b3
    have e0 := (box_facts hb).1; have e1 := (box_facts hb).2.1; have e2 := (box_facts hb).2.2.1; have f0 := (box_facts hb).2.2.2.1; have f1 := (box_facts hb).2.2.2.2.1; have f2 := (box_facts hb).2.2.2.2.2
    have BB := Lib.hid (And.intro b1 (And.intro b2 b3))
    clear b1 b2 b3 hb hX hY hC hD
    have i1 : C.slots.length + 1 ≤ 257 := by omega
    rcases hm with ⟨rfl, ds, dg, dx, rfl⟩ | ⟨rfl, ds, dg, dx, rfl⟩ | ⟨rfl, ds, dg, dx⟩ | ⟨rfl, ds, dg, dx, rfl⟩ | hm
    · have b1 := BB.out.1; have b2 := BB.out.2.1; have b3 := BB.out.2.2
      have q7 : wc.cell? ⟨w.heap.size + 1 + 1, 7, none⟩ = some (.int .i64 s.1) := cell_in b3; have q8 : wc.cell? ⟨w.heap.size + 1 + 1, 8, none⟩ = some (.bool s.2) := cell_in b3
      have HS := Lib.hid (show ∀ (A4 A5 : Option Addr) (c4 c5 : Nat) (W : World), HoldsC W D → HoldsC W (⟨C.slots ++ [s], C.gates ++ [((1, ((C.slots.length : Nat) : Int), 0, 0) : Gat)], C.exits, A5, A4, A3, c5, c4, c3⟩ : Cir) → Calls Tryz.prog 7 #[.agg #[.slice D.SA D.slots.length D.sc, .slice D.GA D.gates.length D.gc, .slice D.EA D.exits.length D.ec], .agg #[.slice A5 (C.slots.length + 1) c5, .slice A4 (C.gates.length + 1) c4, .slice A3 C.exits.length c3]] W (fun e w' => e = .returned (.bool true) ∧ Below W.heap.size W w') from fun A4 A5 c4 c5 W h1 h2 => by have h := rsame_any D ⟨C.slots ++ [s], C.gates ++ [((1, ((C.slots.length : Nat) : Int), 0, 0) : Gat)], C.exits, A5, A4, A3, c5, c4, c3⟩ (by unfold Cir.l; simp only [ds, dg, dx]) W h1 h2; simpa only [List.length_append, List.length_cons, List.length_nil, Nat.zero_add] using h)
      clear b1 b2 b3 ds dg dx
      go_upto_region 6 with (first | (at_builtin; refine app_cells (W := wc) w2.heap.size rfl _ _ 33 42 _ 4 32 rfl Tryz.underlying33 infoGat rfl (by decide) (by decide) (.slice A2 C.gates.length c2) C.gates.length _ [.int .i64 1, .int .i64 ((C.slots.length : Nat) : Int), .int .i64 0, .int .u64 0] rfl _ rfl rfl rfl (by intro u hu; simp at hu; rcases hu with rfl | rfl | rfl | rfl <;> rfl) HW.out.g HW.out.low.size (by omega) ?_; intro v3 w3 hown3 hg3; obtain ⟨A4, c4, rfl, _⟩ := own_reads hown3; have hb3 := (hg3.block _ (Array.getElem?_eq_some_iff.1 HW.out.bx).1 (own_not_box HW.out.g HW.out.bx (by decide))).trans HW.out.bx; have z0 := (box_facts hb3).1; have z1 := (box_facts hb3).2.1; have z2 := (box_facts hb3).2.2.1; have y0 := (box_facts hb3).2.2.2.1; have y1 := (box_facts hb3).2.2.2.2.1; have y2 := (box_facts hb3).2.2.2.2.2; have BX := Lib.hid (HW.out.gate (x := ((1, ((C.slots.length : Nat) : Int), 0, 0) : Gat)) hown3 hg3); have HG3 := Lib.hid hg3; have HLW := Lib.hid (HW.out.low.grown hg3 HW.out.low.size (fun k hk => (HW.out.g.lt k hk).1)); clear hb3 hown3 hg3; have b1 := (HLW.out.block _ (Array.getElem?_eq_some_iff.1 B1.out).1).trans B1.out; have b2 := (HLW.out.block _ (Array.getElem?_eq_some_iff.1 B2.out).1).trans B2.out; have b3 := (HLW.out.block _ (Array.getElem?_eq_some_iff.1 B3.out).1).trans B3.out; have q7 : w3.cell? ⟨w.heap.size + 1 + 1, 7, none⟩ = some (.int .i64 s.1) := cell_in b3; have q8 : w3.cell? ⟨w.heap.size + 1 + 1, 8, none⟩ = some (.bool s.2) := cell_in b3; have p0 : w3.cell? ⟨w.heap.size + 1, 0, none⟩ = some (.slice D.SA D.slots.length D.sc) := cell_in b2; have p1 : w3.cell? ⟨w.heap.size + 1, 1, none⟩ = some (.slice D.GA D.gates.length D.gc) := cell_in b2; have p2 : w3.cell? ⟨w.heap.size + 1, 2, none⟩ = some (.slice D.EA D.exits.length D.ec) := cell_in b2; have r1 : w3.cell? ⟨w.heap.size, 1, none⟩ = some (.slice C.GA C.gates.length C.gc) := cell_in b1; clear b1 b2 b3))
      have b3 := (BX.out.low.block _ (Array.getElem?_eq_some_iff.1 B3.out).1).trans B3.out
      have hbx := BX.out.bx
      simp only [List.length_append, List.length_cons, List.length_nil, Nat.zero_add] at hbx
      clear q7 q8 p0 p1 p2 r1 z0 z1 z2 y0 y1 y2 HG3 HLW q0 e0 e1 e2 f0 f1 f2
      generalize w3.setCell ⟨q, 1, none⟩ (.slice A4 (C.gates.length + 1) c4) = wy at *
      have q7 : wy.cell? ⟨w.heap.size + 1 + 1, 7, none⟩ = some (.int .i64 s.1) := cell_in b3; have q8 : wy.cell? ⟨w.heap.size + 1 + 1, 8, none⟩ = some (.bool s.2) := cell_in b3
      have e0 := (box_facts hbx).1; have e1 := (box_facts hbx).2.1; have e2 := (box_facts hbx).2.2.1; have f0 := (box_facts hbx).2.2.2.1; have f1 := (box_facts hbx).2.2.2.2.1; have f2 := (box_facts hbx).2.2.2.2.2
      clear b3 hbx
      go_wp2_with (first | (at_builtin; refine app_cells (W := wy) w2.heap.size rfl _ _ 32 40 _ 2 16 rfl Tryz.underlying32 infoSlo rfl (by decide) (by decide) (.slice A1 C.slots.length c1) C.slots.length _ [.int .i64 s.1, .bool s.2] rfl _ rfl rfl rfl (by intro u hu; simp at hu; rcases hu with rfl | rfl <;> rfl) BX.out.s BX.out.low.size (by omega) ?_; intro v4 w4 hown4 hg4; obtain ⟨A5, c5, rfl, _⟩ := own_reads hown4; have hb4 := (hg4.block _ (Array.getElem?_eq_some_iff.1 BX.out.bx).1 (own_not_box BX.out.s BX.out.bx (by decide))).trans BX.out.bx; simp only [List.length_append, List.length_cons, List.length_nil, Nat.zero_add] at hb4; have z3 := (box_facts hb4).1; have z4 := (box_facts hb4).2.1; have z5 := (box_facts hb4).2.2.1; have y3 := (box_facts hb4).2.2.2.1; have y4 := (box_facts hb4).2.2.2.2.1; have y5 := (box_facts hb4).2.2.2.2.2; have BY := Lib.hid (BX.out.slot (x := s) hown4 hg4); have HG4 := Lib.hid hg4; have HLX := Lib.hid (BX.out.low.grown hg4 BX.out.low.size (fun k hk => (BX.out.s.lt k hk).1)); clear hb4 hown4 hg4; have b1 := (HLX.out.block _ (Array.getElem?_eq_some_iff.1 B1.out).1).trans B1.out; have b2 := (HLX.out.block _ (Array.getElem?_eq_some_iff.1 B2.out).1).trans B2.out; have b3 := (HLX.out.block _ (Array.getElem?_eq_some_iff.1 B3.out).1).trans B3.out; have pp0 : w4.cell? ⟨w.heap.size + 1, 0, none⟩ = some (.slice D.SA D.slots.length D.sc) := cell_in b2; have pp1 : w4.cell? ⟨w.heap.size + 1, 1, none⟩ = some (.slice D.GA D.gates.length D.gc) := cell_in b2; have pp2 : w4.cell? ⟨w.heap.size + 1, 2, none⟩ = some (.slice D.EA D.exits.length D.ec) := cell_in b2; have rr1 : w4.cell? ⟨w.heap.size, 1, none⟩ = some (.slice C.GA C.gates.length C.gc) := cell_in b1; clear b1 b2 b3) | (go_at_call 7; refine (HS.out _ _ _ _ _ (HD2.out.below BY.out.low) (BY.out.holds (fun y hy => ⟨(HC2.out.x y hy).1.below BY.out.low, (HC2.out.x y hy).2.below BY.out.low⟩) ⟨by simp; omega, by simp; omega, by simp; omega⟩ (HN.out.2) (fun g2 hg2 => by rcases List.mem_append.1 hg2 with h | h; exact HN.out.1 g2 h; rw [List.mem_singleton.1 h]; exact Int.le_refl _))).mono ?_; rintro e w5 ⟨rfl, hb5⟩; have h5 := BY.out.below hb5; have r5 : w5.cell? ⟨w.heap.size, 1, none⟩ = some (.slice C.GA C.gates.length C.gc) := cell_in ((h5.low.block _ (Array.getElem?_eq_some_iff.1 B1.out).1).trans B1.out); have HL5 := Lib.hid h5.low; clear hb5 h5))
      all_goals go_ret
      all_goals exact ⟨rfl, HB0.out.trans (HL5.out.mono HB0.out.size)⟩
    · have b1 := BB.out.1; have b2 := BB.out.2.1; have b3 := BB.out.2.2
      have q9 : wc.cell? ⟨w.heap.size + 1 + 1, 9, none⟩ = some (.int .i64 g.1) := cell_in b3; have q10 : wc.cell? ⟨w.heap.size + 1 + 1, 10, none⟩ = some (.int .i64 g.2.1) := cell_in b3; have q11 : wc.cell? ⟨w.heap.size + 1 + 1, 11, none⟩ = some (.int .i64 g.2.2.1) := cell_in b3; have q12 : wc.cell? ⟨w.heap.size + 1 + 1, 12, none⟩ = some (.int .u64 g.2.2.2) := cell_in b3
      have HS := Lib.hid (show ∀ (A4 : Option Addr) (c4 : Nat) (W : World), HoldsC W D → HoldsC W (⟨C.slots, C.gates ++ [g], C.exits, A1, A4, A3, c1, c4, c3⟩ : Cir) → Calls Tryz.prog 7 #[.agg #[.slice D.SA D.slots.length D.sc, .slice D.GA D.gates.length D.gc, .slice D.EA D.exits.length D.ec], .agg #[.slice A1 C.slots.length c1, .slice A4 (C.gates.length + 1) c4, .slice A3 C.exits.length c3]] W (fun e w' => e = .returned (.bool true) ∧ Below W.heap.size W w') from fun A4 c4 W h1 h2 => by have h := rsame_any D ⟨C.slots, C.gates ++ [g], C.exits, A1, A4, A3, c1, c4, c3⟩ (by unfold Cir.l; simp only [ds, dg, dx]) W h1 h2; simpa only [List.length_append, List.length_cons, List.length_nil, Nat.zero_add] using h)
      clear b1 b2 b3 ds dg dx
      go_wp2_with (first | (at_builtin; refine app_cells (W := wc) w2.heap.size rfl _ _ 33 42 _ 4 32 rfl Tryz.underlying33 infoGat rfl (by decide) (by decide) (.slice A2 C.gates.length c2) C.gates.length _ [.int .i64 g.1, .int .i64 g.2.1, .int .i64 g.2.2.1, .int .u64 g.2.2.2] rfl _ rfl rfl rfl (by intro u hu; simp at hu; rcases hu with rfl | rfl | rfl | rfl <;> rfl) HW.out.g HW.out.low.size (by omega) ?_; intro v3 w3 hown3 hg3; obtain ⟨A4, c4, rfl, _⟩ := own_reads hown3; have hb3 := (hg3.block _ (Array.getElem?_eq_some_iff.1 HW.out.bx).1 (own_not_box HW.out.g HW.out.bx (by decide))).trans HW.out.bx; have z0 := (box_facts hb3).1; have z1 := (box_facts hb3).2.1; have z2 := (box_facts hb3).2.2.1; have y0 := (box_facts hb3).2.2.2.1; have y1 := (box_facts hb3).2.2.2.2.1; have y2 := (box_facts hb3).2.2.2.2.2; have BX := Lib.hid (HW.out.gate (x := g) hown3 hg3); have HG3 := Lib.hid hg3; have HLW := Lib.hid (HW.out.low.grown hg3 HW.out.low.size (fun k hk => (HW.out.g.lt k hk).1)); clear hb3 hown3 hg3; have b1 := (HLW.out.block _ (Array.getElem?_eq_some_iff.1 B1.out).1).trans B1.out; have b2 := (HLW.out.block _ (Array.getElem?_eq_some_iff.1 B2.out).1).trans B2.out; have b3 := (HLW.out.block _ (Array.getElem?_eq_some_iff.1 B3.out).1).trans B3.out; have p0 : w3.cell? ⟨w.heap.size + 1, 0, none⟩ = some (.slice D.SA D.slots.length D.sc) := cell_in b2; have p1 : w3.cell? ⟨w.heap.size + 1, 1, none⟩ = some (.slice D.GA D.gates.length D.gc) := cell_in b2; have p2 : w3.cell? ⟨w.heap.size + 1, 2, none⟩ = some (.slice D.EA D.exits.length D.ec) := cell_in b2; have r1 : w3.cell? ⟨w.heap.size, 1, none⟩ = some (.slice C.GA C.gates.length C.gc) := cell_in b1; clear b1 b2 b3) | (go_at_call 7; refine (HS.out _ _ _ (HD2.out.below BX.out.low) (BX.out.holds (fun y hy => ⟨(HC2.out.x y hy).1.below BX.out.low, (HC2.out.x y hy).2.below BX.out.low⟩) ⟨by simp; omega, by simp; omega, by simp; omega⟩ (HN.out.2) (fun g2 hg2 => by rcases List.mem_append.1 hg2 with h | h; exact HN.out.1 g2 h; rw [List.mem_singleton.1 h]; exact hg0))).mono ?_; rintro e w5 ⟨rfl, hb5⟩; have h5 := BX.out.below hb5; have r5 : w5.cell? ⟨w.heap.size, 1, none⟩ = some (.slice C.GA C.gates.length C.gc) := cell_in ((h5.low.block _ (Array.getElem?_eq_some_iff.1 B1.out).1).trans B1.out); have HL5 := Lib.hid h5.low; clear hb5 h5))
      all_goals go_ret
      all_goals exact ⟨rfl, HB0.out.trans (HL5.out.mono HB0.out.size)⟩
    · have b1 := BB.out.1; have b2 := BB.out.2.1; have b3 := BB.out.2.2
      have q13 : wc.cell? ⟨w.heap.size + 1 + 1, 13, none⟩ = some (.slice x.A x.tl.length x.c) := cell_in b3; have q14 : wc.cell? ⟨w.heap.size + 1 + 1, 14, none⟩ = some (.slice x.B x.gl.length x.d) := cell_in b3
      have HS := Lib.hid (show ∀ (A4 : Option Addr) (c4 : Nat) (W : World), HoldsC W D → HoldsC W (⟨C.slots, C.gates, C.exits ++ [x], A1, A2, A4, c1, c2, c4⟩ : Cir) → Calls Tryz.prog 7 #[.agg #[.slice D.SA D.slots.length D.sc, .slice D.GA D.gates.length D.gc, .slice D.EA D.exits.length D.ec], .agg #[.slice A1 C.slots.length c1, .slice A2 C.gates.length c2, .slice A4 (C.exits.length + 1) c4]] W (fun e w' => e = .returned (.bool true) ∧ Below W.heap.size W w') from fun A4 c4 W h1 h2 => by have h := rsame_any D ⟨C.slots, C.gates, C.exits ++ [x], A1, A2, A4, c1, c2, c4⟩ (by unfold Cir.l; simp only [ds, dg, dx, List.map_append, List.map_cons, List.map_nil]) W h1 h2; simpa only [List.length_append, List.length_cons, List.length_nil, Nat.zero_add] using h)
      clear b1 b2 b3 ds dg dx
      go_wp2_with (first | (at_builtin; refine app_cells (W := wc) w2.heap.size rfl _ _ 34 44 _ 2 48 rfl Tryz.underlying34 infoExi rfl (by decide) (by decide) (.slice A3 C.exits.length c3) C.exits.length _ [.slice x.A x.tl.length x.c, .slice x.B x.gl.length x.d] rfl _ rfl rfl rfl (by intro u hu; simp at hu; rcases hu with rfl | rfl <;> rfl) HW.out.e HW.out.low.size (by omega) ?_; intro v3 w3 hown3 hg3; obtain ⟨A4, c4, rfl, _⟩ := own_reads hown3; have hb3 := (hg3.block _ (Array.getElem?_eq_some_iff.1 HW.out.bx).1 (own_not_box HW.out.e HW.out.bx (by decide))).trans HW.out.bx; have z0 := (box_facts hb3).1; have z1 := (box_facts hb3).2.1; have z2 := (box_facts hb3).2.2.1; have y0 := (box_facts hb3).2.2.2.1; have y1 := (box_facts hb3).2.2.2.2.1; have y2 := (box_facts hb3).2.2.2.2.2; have BX := Lib.hid (HW.out.exit (x := x) hown3 hg3); have HG3 := Lib.hid hg3; have HLW := Lib.hid (HW.out.low.grown hg3 HW.out.low.size (fun k hk => (HW.out.e.lt k hk).1)); clear hb3 hown3 hg3; have b1 := (HLW.out.block _ (Array.getElem?_eq_some_iff.1 B1.out).1).trans B1.out; have b2 := (HLW.out.block _ (Array.getElem?_eq_some_iff.1 B2.out).1).trans B2.out; have b3 := (HLW.out.block _ (Array.getElem?_eq_some_iff.1 B3.out).1).trans B3.out; have p0 : w3.cell? ⟨w.heap.size + 1, 0, none⟩ = some (.slice D.SA D.slots.length D.sc) := cell_in b2; have p1 : w3.cell? ⟨w.heap.size + 1, 1, none⟩ = some (.slice D.GA D.gates.length D.gc) := cell_in b2; have p2 : w3.cell? ⟨w.heap.size + 1, 2, none⟩ = some (.slice D.EA D.exits.length D.ec) := cell_in b2; have r1 : w3.cell? ⟨w.heap.size, 1, none⟩ = some (.slice C.GA C.gates.length C.gc) := cell_in b1; clear b1 b2 b3) | (go_at_call 7; refine (HS.out _ _ _ (HD2.out.below BX.out.low) (BX.out.holds (fun y hy => by rcases List.mem_append.1 hy with h | h; exact ⟨(HC2.out.x y h).1.below BX.out.low, (HC2.out.x y h).2.below BX.out.low⟩; rw [List.mem_singleton.1 h]; exact ⟨HX2.out.1.below BX.out.low, HX2.out.2.below BX.out.low⟩) ⟨by simp; omega, by simp; omega, by simp; omega⟩ (fun y hy => by rcases List.mem_append.1 hy with h | h; exact HN.out.2 y h; rw [List.mem_singleton.1 h]; exact hXn) (HN.out.1))).mono ?_; rintro e w5 ⟨rfl, hb5⟩; have h5 := BX.out.below hb5; have r5 : w5.cell? ⟨w.heap.size, 1, none⟩ = some (.slice C.GA C.gates.length C.gc) := cell_in ((h5.low.block _ (Array.getElem?_eq_some_iff.1 B1.out).1).trans B1.out); have HL5 := Lib.hid h5.low; clear hb5 h5))
      all_goals go_ret
      all_goals exact ⟨rfl, HB0.out.trans (HL5.out.mono HB0.out.size)⟩
    · have b1 := BB.out.1; have b2 := BB.out.2.1; have b3 := BB.out.2.2
      have q4 : wc.cell? ⟨w.heap.size + 1 + 1, 4, none⟩ = some (.int .u64 k) := cell_in b3
      have HS := Lib.hid (show ∀ (A4 : Option Addr) (c4 : Nat) (W : World), HoldsC W D → HoldsC W (⟨C.slots, C.gates ++ [((2, 0, 0, k) : Gat)], C.exits, A1, A4, A3, c1, c4, c3⟩ : Cir) → Calls Tryz.prog 7 #[.agg #[.slice D.SA D.slots.length D.sc, .slice D.GA D.gates.length D.gc, .slice D.EA D.exits.length D.ec], .agg #[.slice A1 C.slots.length c1, .slice A4 (C.gates.length + 1) c4, .slice A3 C.exits.length c3]] W (fun e w' => e = .returned (.bool true) ∧ Below W.heap.size W w') from fun A4 c4 W h1 h2 => by have h := rsame_any D ⟨C.slots, C.gates ++ [((2, 0, 0, k) : Gat)], C.exits, A1, A4, A3, c1, c4, c3⟩ (by unfold Cir.l; simp only [ds, dg, dx]) W h1 h2; simpa only [List.length_append, List.length_cons, List.length_nil, Nat.zero_add] using h)
      clear b1 b2 b3 ds dg dx
      go_wp2_with (first | (at_builtin; refine app_cells (W := wc) w2.heap.size rfl _ _ 33 42 _ 4 32 rfl Tryz.underlying33 infoGat rfl (by decide) (by decide) (.slice A2 C.gates.length c2) C.gates.length _ [.int .i64 2, .int .i64 0, .int .i64 0, .int .u64 k] rfl _ rfl rfl rfl (by intro u hu; simp at hu; rcases hu with rfl | rfl | rfl | rfl <;> rfl) HW.out.g HW.out.low.size (by omega) ?_; intro v3 w3 hown3 hg3; obtain ⟨A4, c4, rfl, _⟩ := own_reads hown3; have hb3 := (hg3.block _ (Array.getElem?_eq_some_iff.1 HW.out.bx).1 (own_not_box HW.out.g HW.out.bx (by decide))).trans HW.out.bx; have z0 := (box_facts hb3).1; have z1 := (box_facts hb3).2.1; have z2 := (box_facts hb3).2.2.1; have y0 := (box_facts hb3).2.2.2.1; have y1 := (box_facts hb3).2.2.2.2.1; have y2 := (box_facts hb3).2.2.2.2.2; have BX := Lib.hid (HW.out.gate (x := ((2, 0, 0, k) : Gat)) hown3 hg3); have HG3 := Lib.hid hg3; have HLW := Lib.hid (HW.out.low.grown hg3 HW.out.low.size (fun k hk => (HW.out.g.lt k hk).1)); clear hb3 hown3 hg3; have b1 := (HLW.out.block _ (Array.getElem?_eq_some_iff.1 B1.out).1).trans B1.out; have b2 := (HLW.out.block _ (Array.getElem?_eq_some_iff.1 B2.out).1).trans B2.out; have b3 := (HLW.out.block _ (Array.getElem?_eq_some_iff.1 B3.out).1).trans B3.out; have p0 : w3.cell? ⟨w.heap.size + 1, 0, none⟩ = some (.slice D.SA D.slots.length D.sc) := cell_in b2; have p1 : w3.cell? ⟨w.heap.size + 1, 1, none⟩ = some (.slice D.GA D.gates.length D.gc) := cell_in b2; have p2 : w3.cell? ⟨w.heap.size + 1, 2, none⟩ = some (.slice D.EA D.exits.length D.ec) := cell_in b2; have r1 : w3.cell? ⟨w.heap.size, 1, none⟩ = some (.slice C.GA C.gates.length C.gc) := cell_in b1; clear b1 b2 b3) | (go_at_call 7; refine (HS.out _ _ _ (HD2.out.below BX.out.low) (BX.out.holds (fun y hy => ⟨(HC2.out.x y hy).1.below BX.out.low, (HC2.out.x y hy).2.below BX.out.low⟩) ⟨by simp; omega, by simp; omega, by simp; omega⟩ (HN.out.2) (fun g2 hg2 => by rcases List.mem_append.1 hg2 with h | h; exact HN.out.1 g2 h; rw [List.mem_singleton.1 h]; exact hk0))).mono ?_; rintro e w5 ⟨rfl, hb5⟩; have h5 := BX.out.below hb5; have r5 : w5.cell? ⟨w.heap.size, 1, none⟩ = some (.slice C.GA C.gates.length C.gc) := cell_in ((h5.low.block _ (Array.getElem?_eq_some_iff.1 B1.out).1).trans B1.out); have HL5 := Lib.hid h5.low; clear hb5 h5))
      all_goals go_ret
      all_goals exact ⟨rfl, HB0.out.trans (HL5.out.mono HB0.out.size)⟩
    · have k0 : ¬ m = 0 := by omega
      have k1 : ¬ m = 1 := by omega
      have k2 : ¬ m = 2 := by omega
      have k3 : ¬ m = 3 := by omega
      go_wp2_with fail
      all_goals go_ret
      all_goals exact ⟨rfl, HB0.out.trans (HW.out.low.mono HB0.out.size)⟩
end Go.Proofs.YtkcdlbclodjjhaaGreat
