/- The law's step, for whatever an act has done. (Printed by wip/tools/gen_tf.py.) -/
import Derived.Test.YtkcdlbclodjjhaaGreatGaj
import Derived.Test.YtkcdlbclodjjhaaGreatGay
import Derived.Test.YtkcdlbclodjjhaaGreatGaz
import Derived.Test.YtkcdlbclodjjhaaGreatRc
namespace Go.Proofs.YtkcdlbclodjjhaaGreat
open Go.RowKit

theorem OwnC.holds {base : Nat} {C : Cir} {w : World} (h : OwnC base C w) (n1 : C.slots.length ≤ 256) (n2 : C.gates.length ≤ 65536) (n3 : C.exits.length ≤ 4096) (hx : ∀ y ∈ C.exits, y.tl.length ≤ 13 ∧ y.gl.length ≤ 1024) (hk : ∀ g ∈ C.gates, 0 ≤ g.2.2.2) : HoldsC w C :=
  ⟨own_reads_at h.s, own_reads_at h.g, own_reads_at h.e, fun y hy => ⟨own_reads_at (h.x y hy).1, own_reads_at (h.x y hy).2⟩, ⟨by omega, by omega, by omega⟩, fun y hy => by have := hx y hy; omega, hk⟩
theorem exits_small {m : Int} {xs ys : List Exi} (hx : ∀ x ∈ xs, xErr m x = 0) (hy : ys.map Exi.l = xs.map Exi.l) : ∀ y ∈ ys, y.tl.length ≤ 13 ∧ y.gl.length ≤ 1024 := by
  intro y hm
  have h1 : Exi.l y ∈ xs.map Exi.l := by rw [← hy]; exact List.mem_map_of_mem hm
  obtain ⟨x, hxm, hxe⟩ := List.mem_map.1 h1
  have e1 : x.tl = y.tl := congrArg Prod.fst hxe
  have e2 : x.gl = y.gl := congrArg Prod.snd hxe
  have h2 := exit_small (hx x hxm)
  rw [← e1, ← e2]
  exact h2
theorem places_nat (S Ga E : Option Addr) (sn sc gn gc en ec : Nat) (ls : List Nat) (A : Option Addr) (c : Nat) (hl : ls.length ≤ 65536) (hr : ∀ x ∈ ls, x < gn) (w : World) (hA : Reads w A (nCells ls)) :
    Calls Tryz.prog 18 #[.agg #[.slice S sn sc, .slice Ga gn gc, .slice E en ec], .slice A ls.length c] w (RetB (.int .i64 0) w) := by
  have h := places_any S Ga E sn sc gn gc en ec (ls.map fun x => ((x : Nat) : Int)) A c (by simp; omega) w (by simpa [iCells, nCells, Function.comp_def] using hA)
  have hz : placesErr gn (ls.map fun x => ((x : Nat) : Int)) = 0 := by
    unfold placesErr
    rw [if_neg]
    intro h1
    obtain ⟨y, hy, h2⟩ := List.any_eq_true.1 h1
    obtain ⟨x, hx, rfl⟩ := List.mem_map.1 hy
    have := hr x hx
    simp only [outside, Bool.or_eq_true, decide_eq_true_eq] at h2
    omega
  rw [hz, List.length_map] at h
  exact h
theorem countK_len (kind : Int) (l : List Gat) : countK kind l ≤ l.length := List.length_filter_le _ _
theorem reads_take_u {w : World} {A : Option Addr} {l : List Nat} (k : Nat) (h : Reads w A (uCells l)) : Reads w A (uCells (l.take k)) := by
  refine reads_pre (ds := uCells (l.drop k)) ?_
  rw [uCells, uCells, ← List.map_append, List.take_append_drop]
  exact h
theorem allLt_take {p : Nat} {l : List Nat} (k : Nat) (h : allLt p l = true) : allLt p (l.take k) = true :=
  List.all_eq_true.2 fun x hx => List.all_eq_true.1 h x (List.mem_of_mem_take hx)
theorem effL_lenQ (sl : List Slo) (x : List Nat) (h : x.length = sl.length) : (effL sl x).length = sl.length := by unfold effL; rw [List.length_zipWith, h, Nat.min_self]
/-- The value of a place, or of a word, as step asks for it. -/
theorem concl_use {V : List Nat} {at_ : Nat} {r : List Nat} {t n : Int} (h : Concl V at_ r t n) (hrl : r.length ≤ 16) {A X : Option Addr} {c cx : Nat} {W' : World} (hV : Reads W' A (uCells V)) (hX : Reads W' X (nCells r)) {vn : Nat} (hvn : V.length = vn) :
    (n = 0 ∧ ∃ (ad : Addr) (i vl vd : Nat), (.slice A vn c : Value) = .slice (some ad) vl vd ∧ ((at_ : Nat) : Int) = ((i : Nat) : Int) ∧ i < vl ∧ W'.cell? (ad.add i) = some (.int .u64 t)) ∨ (n ≠ 0 ∧ (∀ W2, Below W'.heap.size W' W2 → Calls Tryz.prog 45 #[.slice A vn c, .slice X r.length cx] W2 (RetB (.bool true) W2)) ∧ (∀ W2, Below W'.heap.size W' W2 → Calls Tryz.prog 20 #[.slice A vn c, .slice X r.length cx] W2 (RetB (.int .u64 t) W2))) := by
  subst hvn
  rcases h with ⟨h1, h2, h3⟩ | ⟨h1, h2, h3⟩
  · obtain ⟨ad, rfl, hc⟩ := hV.uat at_ h2
    refine .inl ⟨h1, ad, at_, _, _, rfl, rfl, h2, ?_⟩
    rw [hc, ← h3, getD_at h2]
  · refine .inr ⟨h1, fun W2 hb => ?_, fun W2 hb => ?_⟩
    · have hall : (r.all fun x => decide (V.getD x 0 ≤ 1)) = true := List.all_eq_true.2 fun x hx => decide_eq_true (h2 x hx).2
      have h4 := bits_any V r A X c cx V.length r.length rfl rfl (by omega) (fun x hx => (h2 x hx).1) W2 (hV.below hb) (hX.below hb)
      rw [hall] at h4
      exact h4.mono fun e W' ⟨e1, e2⟩ => ⟨e1, e2 ▸ Below.refl _ _⟩
    · have h4 := number_ok V r A X c cx r.length V.length rfl rfl hrl (fun x hx => (h2 x hx).1) (fun x hx => (h2 x hx).2) W2 (hV.below hb) (hX.below hb)
      rw [h3] at h4
      exact h4.mono fun e W' ⟨e1, e2⟩ => ⟨e1, e2 ▸ Below.refl _ _⟩

theorem wrongN_w {p sn gn en m : Nat} (h : 10 ≤ m) {a b c k : Int} {vs ws : List Int} {s : Slo} {g : Gat} {x : Exi} : wrongN p sn gn en m a b c k vs ws s g x = wordsErr gn vs ws := by
  unfold wrongN
  rw [if_neg (by omega), if_neg (by omega), if_neg (by omega), if_neg (by omega), if_neg (by omega), if_neg (by omega), if_neg (by omega), if_neg (by omega)]
theorem act_small {p sn gn en m : Nat} {a b c k : Int} {vs ws : List Int} {s : Slo} {g : Gat} {x : Exi} (hw : wrongN p sn gn en m a b c k vs ws s g x = 0) : vs.length ≤ 16 ∨ m < 9 := by
  by_cases h9 : m < 9
  · exact .inr h9
  · by_cases h : m = 9
    · subst h; exact .inl (word_ok hw).2.1
    · rw [wrongN_w (by omega)] at hw; exact .inl (words_ok hw).2.1
theorem gatesN_le (m n : Nat) (h : n ≤ 16 ∨ m < 9) : gatesN m n ≤ 65536 := by
  unfold gatesN
  split
  · omega
  · split
    · omega
    · split
      · have h1 : n ≤ 16 := by omega
        have h2 : 16 * n * n ≤ 256 * 16 := Nat.mul_le_mul (by omega) h1
        omega
      · split <;> omega

set_option maxRecDepth 100000 in
theorem step_any (p : Nat) (hP : isP p = true) (hp : 2 < p) (pm : p ≤ 65537) (m : Nat) (hm : m < 15) (a b c k : Int) (vs ws : List Int) (s : Slo) (g : Gat) (x : Exi) (VA WA : Option Addr) (vc wc : Nat) (B : Nat) (at_ : Int) (r : List Nat) (er : Int) (xs xs' : List Exi) (C D : Cir) (b1 b2 : Nat) (X : Option Addr) (cx : Nat) (aa : Addr) (ic : Nat) (inp : List Nat) (w : World)
    (hV : Valid p C.slots C.gates xs) (hV' : Valid p D.slots D.gates xs') (hxl : xs.length ≤ 60) (hxl' : xs'.length ≤ 61) (hx : C.exits.map Exi.l = xs.map Exi.l) (hx' : D.exits.map Exi.l = xs'.map Exi.l) (hC : OwnC b1 C w) (hD : OwnC b2 D w) (hH : HoldsA w B vs ws g x k VA WA vc) (hX : Reads w X (nCells r)) (hI : Reads w (some aa) (uCells inp)) (hil : inp.length = 257) (hic : inp.length ≤ ic) (hlt : allLt p inp = true)
    (hO : Out p m a b c k vs ws s g x C.slots C.gates xs at_ r er D.slots D.gates xs') :
    Calls Tryz.prog 10 #[.int .u64 ((p : Nat) : Int), .agg #[.slice C.SA C.slots.length C.sc, .slice C.GA C.gates.length C.gc, .slice C.EA C.exits.length C.ec], .agg #[.slice D.SA D.slots.length D.sc, .slice D.GA D.gates.length D.gc, .slice D.EA D.exits.length D.ec], .agg #[.int .i64 ((m : Nat) : Int), .int .i64 a, .int .i64 b, .int .i64 c, .int .u64 k, .slice VA vs.length vc, .slice WA ws.length wc, .int .i64 s.1, .bool s.2, .int .i64 g.1, .int .i64 g.2.1, .int .i64 g.2.2.1, .int .u64 g.2.2.2, .slice x.A x.tl.length x.c, .slice x.B x.gl.length x.d], .agg #[.int .i64 at_, .slice X r.length cx, .int .i64 er], .slice (some aa) inp.length ic] w (RetB (.bool true) w) := by
  have hlx : C.exits.length = xs.length := by have := congrArg List.length hx; simpa using this
  have hlx' : D.exits.length = xs'.length := by have := congrArg List.length hx'; simpa using this
  have HC : HoldsC w C := hC.holds hV.ns hV.ng (by omega) (exits_small hV.ex hx) hV.nk
  have HD : HoldsC w D := hD.holds hV'.ns hV'.ng (by omega) (exits_small hV'.ex hx') hV'.nk
  unfold Out at hO
  rw [← hlx] at hO
  rcases hO with ⟨hw, rfl, rfl, he, e1, e2, e3⟩ | ⟨hw, h4, hl, rfl, rfl, rfl, e1, e2, e3⟩ | ⟨hw, rfl, ho⟩
  · have hl : C.l = D.l := by unfold Cir.l; rw [e1, e2, hx, hx', e3]
    have hwr : ∀ W, Below w.heap.size w W → Calls Tryz.prog 37 #[.int .u64 ((p : Nat) : Int), .agg #[.slice C.SA C.slots.length C.sc, .slice C.GA C.gates.length C.gc, .slice C.EA C.exits.length C.ec], .agg #[.int .i64 ((m : Nat) : Int), .int .i64 a, .int .i64 b, .int .i64 c, .int .u64 k, .slice VA vs.length vc, .slice WA ws.length wc, .int .i64 s.1, .bool s.2, .int .i64 g.1, .int .i64 g.2.1, .int .i64 g.2.2.1, .int .u64 g.2.2.2, .slice x.A x.tl.length x.c, .slice x.B x.gl.length x.d]] W (RetB (.int .i64 er) W) := by
      intro W hb
      rw [he]
      exact wrong_any p (by omega) m hm C.SA C.GA C.EA C.slots.length C.sc C.gates.length C.gc C.exits.length C.ec a b c k vs ws s g x VA WA vc wc hH.nV hH.nW hH.nX hH.nY W (hH.V.below hb) (hH.W.below hb) (hH.X.below hb) (hH.Y.below hb)
    exact step_bad _ _ _ _ _ _ _ _ _ _ _ _ _ _ _ _ _ _ _ _ _ _ _ _ _ _ _ _ _ _ _ _ _ _ _ _ _ _ _ _ _ _ _ _ _ _ _ _ er (by rw [bne_iff_ne, he]; exact hw) hwr (fun W hb => rsame_any C D hl W (HC.below hb) (HD.below hb))
  · have hl2 : C.l = D.l := by unfold Cir.l; rw [e1, e2, hx, hx', e3]
    have hwr : ∀ W, Below w.heap.size w W → Calls Tryz.prog 37 #[.int .u64 ((p : Nat) : Int), .agg #[.slice C.SA C.slots.length C.sc, .slice C.GA C.gates.length C.gc, .slice C.EA C.exits.length C.ec], .agg #[.int .i64 ((m : Nat) : Int), .int .i64 a, .int .i64 b, .int .i64 c, .int .u64 k, .slice VA vs.length vc, .slice WA ws.length wc, .int .i64 s.1, .bool s.2, .int .i64 g.1, .int .i64 g.2.1, .int .i64 g.2.2.1, .int .u64 g.2.2.2, .slice x.A x.tl.length x.c, .slice x.B x.gl.length x.d]] W (RetB (.int .i64 0) W) := by
      intro W hb
      have h := wrong_any p (by omega) m hm C.SA C.GA C.EA C.slots.length C.sc C.gates.length C.gc C.exits.length C.ec a b c k vs ws s g x VA WA vc wc hH.nV hH.nW hH.nX hH.nY W (hH.V.below hb) (hH.W.below hb) (hH.X.below hb) (hH.Y.below hb)
      rw [hw] at h
      exact h
    have h16 := act_small hw
    have hgN := gatesN_le m vs.length h16
    exact step_limit _ _ _ _ _ _ _ _ _ _ _ _ _ _ _ _ _ _ _ _ _ _ _ _ _ _ _ _ _ _ _ _ _ _ _ _ _ _ _ _ _ _ _ _ _ _ _ _ (gatesN m vs.length) (by omega) hl ⟨hV.ng, hgN⟩ hwr (fun W hb => gates_any m hm _ _ _ _ _ _ _ _ _ _ _ _ _ _ _ _ _ _ _ _ _ _ W h16) (fun W hb => rsame_any C D hl2 W (HC.below hb) (HD.below hb))
  · have V := hV
    have hz := hV'.ng
    have hz0 := hV.ng
    have hck : checkErr p D = 0 := hV'.check hP (by omega) hx' D.SA D.GA D.EA D.sc D.gc D.ec
    have h16 := act_small hw
    have hgN := gatesN_le m vs.length h16
    have c1 := own_cap hD.s
    have c2 := own_cap hD.g
    have c3 := own_cap hD.e
    have z1 := own_cap hC.s
    have z2 := own_cap hC.g
    have z3 := own_cap hC.e
    have hpre : (∃ T, D.slots = C.slots ++ T) ∧ (∃ L, D.gates = C.gates ++ L) ∧ (∃ Y, D.exits.map Exi.l = C.exits.map Exi.l ++ Y) ∧ D.gates.length ≤ C.gates.length + gatesN m vs.length ∧ countK 5 D.gates ≤ countK 5 C.gates + prodN m vs.length ∧ (m ≠ 0 → D.slots = C.slots) ∧ (m ≠ 2 → xs' = xs) ∧ (10 ≤ m ∧ m ≤ 12 → r.length = vs.length ∧ 0 < vs.length) ∧ (m < 10 ∨ 12 < m → r = []) ∧ (∀ x ∈ r, x < D.gates.length) ∧ (m ≠ 2 → m < 10 ∨ 12 < m → ∃ i : Nat, at_ = ((i : Nat) : Int) ∧ i < D.gates.length) := by
      rcases ho with ⟨rfl, ha, rfl, e1, e2, e3⟩ | ⟨rfl, ha, rfl, e1, e2, e3⟩ | ⟨rfl, ha, rfl, e1, e2, x', ⟨f1, f2, _⟩, e3⟩ | ⟨rfl, ha, rfl, e1, e2, e3⟩ | ⟨h4, ha, hr, e1, e2, e3⟩
      · exact ⟨⟨_, e1⟩, ⟨_, e2⟩, ⟨[], by rw [hx', hx, e3, List.append_nil]⟩, by rw [e2]; simp [gatesN], by rw [e2]; simp [countK, prodN], fun h => absurd rfl h, fun _ => e3, fun h => by omega, fun _ => rfl, by simp, fun _ _ => ⟨_, ha, by rw [e2]; simp⟩⟩
      · exact ⟨⟨[], by rw [e1, List.append_nil]⟩, ⟨_, e2⟩, ⟨[], by rw [hx', hx, e3, List.append_nil]⟩, by rw [e2]; simp [gatesN], by rw [e2, countK, countK, List.filter_append, List.length_append]; have := List.length_filter_le (fun g : Gat => g.1 == 5) [g]; simp only [List.length_cons, List.length_nil] at this; simp only [prodN]; simpa using this, fun _ => e1, fun _ => e3, fun h => by omega, fun _ => rfl, by simp, fun _ _ => ⟨_, ha, by rw [e2]; simp⟩⟩
      · exact ⟨⟨[], by rw [e1, List.append_nil]⟩, ⟨[], by rw [e2, List.append_nil]⟩, ⟨[x'.l], by rw [hx', hx, e3, List.map_append]; rfl⟩, by rw [e2]; simp [gatesN], by rw [e2]; omega, fun _ => e1, fun h => absurd rfl h, fun h => by omega, fun _ => rfl, by simp, fun h => absurd rfl h⟩
      · exact ⟨⟨[], by rw [e1, List.append_nil]⟩, ⟨_, e2⟩, ⟨[], by rw [hx', hx, e3, List.append_nil]⟩, by rw [e2]; simp [gatesN], by rw [e2]; simp [countK, prodN], fun _ => e1, fun _ => e3, fun h => by omega, fun _ => rfl, by simp, fun _ _ => ⟨_, ha, by rw [e2]; simp⟩⟩
      · have hL := ok_law (sn := C.slots.length) hp h4 hm hw V.fits
        rw [← e2, ← hr] at hL
        have hrx : ∀ x ∈ r, x < D.gates.length := fun x hx => by
          by_cases hw12 : 10 ≤ m ∧ m ≤ 12
          · exact (hL.word hw12).2.2 x hx
          · rw [(hL.one (by omega)).1] at hx; cases hx
        exact ⟨⟨[], by rw [e1, List.append_nil]⟩, hL.pre, ⟨[], by rw [hx', hx, e3, List.append_nil]⟩, hL.len, hL.mul, fun _ => e1, fun _ => e3, fun h => ⟨(hL.word h).1, (hL.word h).2.1⟩, fun h => (hL.one h).1, hrx, fun _ h => ⟨_, ha, (hL.one h).2⟩⟩
    obtain ⟨es, eg, ex, hlen, hmul, hsl, hel, hwd, hnw, hrl, hat⟩ := hpre
    have hr16 : r.length ≤ 16 := by
      by_cases hw12 : 10 ≤ m ∧ m ≤ 12
      · have := (hwd hw12).1; omega
      · rw [hnw (by omega)]; simp
    have hwr : ∀ W, Below w.heap.size w W → Calls Tryz.prog 37 #[.int .u64 ((p : Nat) : Int), .agg #[.slice C.SA C.slots.length C.sc, .slice C.GA C.gates.length C.gc, .slice C.EA C.exits.length C.ec], .agg #[.int .i64 ((m : Nat) : Int), .int .i64 a, .int .i64 b, .int .i64 c, .int .u64 k, .slice VA vs.length vc, .slice WA ws.length wc, .int .i64 s.1, .bool s.2, .int .i64 g.1, .int .i64 g.2.1, .int .i64 g.2.2.1, .int .u64 g.2.2.2, .slice x.A x.tl.length x.c, .slice x.B x.gl.length x.d]] W (RetB (.int .i64 0) W) := by
      intro W hb
      have h := wrong_any p (by omega) m hm C.SA C.GA C.EA C.slots.length C.sc C.gates.length C.gc C.exits.length C.ec a b c k vs ws s g x VA WA vc wc hH.nV hH.nW hH.nX hH.nY W (hH.V.below hb) (hH.W.below hb) (hH.X.below hb) (hH.Y.below hb)
      rw [hw] at h
      exact h
    have hga : ∀ W, Below w.heap.size w W → Calls Tryz.prog 38 #[.agg #[.int .i64 ((m : Nat) : Int), .int .i64 a, .int .i64 b, .int .i64 c, .int .u64 k, .slice VA vs.length vc, .slice WA ws.length wc, .int .i64 s.1, .bool s.2, .int .i64 g.1, .int .i64 g.2.1, .int .i64 g.2.2.1, .int .u64 g.2.2.2, .slice x.A x.tl.length x.c, .slice x.B x.gl.length x.d]] W (RetB (.int .i64 ((gatesN m vs.length : Nat) : Int)) W) := by
      intro W hb
      exact gates_any m hm _ _ _ _ _ _ _ _ _ _ _ _ _ _ _ _ _ _ _ _ _ _ W h16
    have hbe : ∀ W, Below w.heap.size w W → Calls Tryz.prog 39 #[.agg #[.slice C.SA C.slots.length C.sc, .slice C.GA C.gates.length C.gc, .slice C.EA C.exits.length C.ec], .agg #[.slice D.SA D.slots.length D.sc, .slice D.GA D.gates.length D.gc, .slice D.EA D.exits.length D.ec]] W (RetB (.bool true) W) := by
      intro W hb
      exact begins_ok C D es eg ex c1.2.1 c2.2.1 c3.2.1 W (HC.below hb) (HD.below hb)
    have hck2 : ∀ W, Below w.heap.size w W → Calls Tryz.prog 17 #[.int .u64 ((p : Nat) : Int), .agg #[.slice D.SA D.slots.length D.sc, .slice D.GA D.gates.length D.gc, .slice D.EA D.exits.length D.ec]] W (RetB (.int .i64 0) W) := by
      intro W hb
      have h := rcheck_any p (by omega) D W (HD.below hb)
      rw [hck] at h
      exact h
    have hex : ∀ W, Below w.heap.size w W → Calls Tryz.prog 40 #[.agg #[.slice C.SA C.slots.length C.sc, .slice C.GA C.gates.length C.gc, .slice C.EA C.exits.length C.ec], .agg #[.slice D.SA D.slots.length D.sc, .slice D.GA D.gates.length D.gc, .slice D.EA D.exits.length D.ec], .agg #[.int .i64 ((m : Nat) : Int), .int .i64 a, .int .i64 b, .int .i64 c, .int .u64 k, .slice VA vs.length vc, .slice WA ws.length wc, .int .i64 s.1, .bool s.2, .int .i64 g.1, .int .i64 g.2.1, .int .i64 g.2.2.1, .int .u64 g.2.2.2, .slice x.A x.tl.length x.c, .slice x.B x.gl.length x.d], .int .i64 at_] W (RetB (.bool true) W) := by
      intro W hb
      refine exact_any C D ((m : Nat) : Int) a b c k at_ VA WA vs.length ws.length vc wc s g x W (HC.below hb) (HD.below hb) z1.2.2 z2.2.2 z3.2.2 hV.ns hV.ng (by omega) (hH.X.below hb) (hH.Y.below hb) ⟨hH.nX, hH.nY⟩ hH.k0 hH.g0 ?_
      rcases ho with ⟨rfl, ha, _, e1, e2, e3⟩ | ⟨rfl, ha, _, e1, e2, e3⟩ | ⟨rfl, ha, _, e1, e2, x', ⟨f1, f2, _⟩, e3⟩ | ⟨rfl, ha, _, e1, e2, e3⟩ | ⟨h4, _⟩
      · exact .inl ⟨rfl, e1, e2, by rw [hx', hx, e3], ha⟩
      · exact .inr (.inl ⟨rfl, e1, e2, by rw [hx', hx, e3], ha⟩)
      · exact .inr (.inr (.inl ⟨rfl, e1, e2, by rw [hx', hx, e3, List.map_append]; simp [Exi.l, f1, f2]⟩))
      · exact .inr (.inr (.inr (.inl ⟨rfl, e1, e2, by rw [hx', hx, e3], ha⟩)))
      · exact .inr (.inr (.inr (.inr (by omega))))
    have hcd : ∀ W, Below w.heap.size w W → Calls Tryz.prog 41 #[.agg #[.slice D.SA D.slots.length D.sc, .slice D.GA D.gates.length D.gc, .slice D.EA D.exits.length D.ec], .int .i64 5] W (RetB (.int .i64 ((countK 5 D.gates : Nat) : Int)) W) := by
      intro W hb
      exact rcount_any D 5 W (HD.below hb)
    have hcc : ∀ W, Below w.heap.size w W → Calls Tryz.prog 41 #[.agg #[.slice C.SA C.slots.length C.sc, .slice C.GA C.gates.length C.gc, .slice C.EA C.exits.length C.ec], .int .i64 5] W (RetB (.int .i64 ((countK 5 C.gates : Nat) : Int)) W) := by
      intro W hb
      exact rcount_any C 5 W (HC.below hb)
    have hpr : ∀ W, Below w.heap.size w W → Calls Tryz.prog 42 #[.agg #[.int .i64 ((m : Nat) : Int), .int .i64 a, .int .i64 b, .int .i64 c, .int .u64 k, .slice VA vs.length vc, .slice WA ws.length wc, .int .i64 s.1, .bool s.2, .int .i64 g.1, .int .i64 g.2.1, .int .i64 g.2.2.1, .int .u64 g.2.2.2, .slice x.A x.tl.length x.c, .slice x.B x.gl.length x.d]] W (RetB (.int .i64 ((prodN m vs.length : Nat) : Int)) W) := by
      intro W hb
      exact products_any m hm _ _ _ _ _ _ _ _ _ _ _ _ _ _ _ _ _ _ _ _ _ _ W h16
    have hpx : ∀ W, Below w.heap.size w W → Calls Tryz.prog 18 #[.agg #[.slice D.SA D.slots.length D.sc, .slice D.GA D.gates.length D.gc, .slice D.EA D.exits.length D.ec], .slice X r.length cx] W (RetB (.int .i64 0) W) := by
      intro W hb
      exact places_nat _ _ _ _ _ _ _ _ _ r X cx (by omega) hrl W (hX.below hb)
    have hpa : ((m : Nat) : Int) ≠ 2 → ((m : Nat) : Int) < 10 ∨ 12 < ((m : Nat) : Int) → ∀ W Ab, Below w.heap.size w W → Reads W Ab [.int .i64 at_] → Calls Tryz.prog 18 #[.agg #[.slice D.SA D.slots.length D.sc, .slice D.GA D.gates.length D.gc, .slice D.EA D.exits.length D.ec], .slice Ab 1 1] W (RetB (.int .i64 0) W) := by
      intro m2 hm2 W Ab hb hR
      obtain ⟨i, rfl, hi⟩ := hat (by omega) (by omega)
      exact places_nat _ _ _ _ _ _ _ _ _ [i] Ab 1 (by simp) (by simpa using hi) W hR
    have hdl : D.slots.length ≤ 256 := hV'.ns
    have htl : (inp.take D.slots.length).length = D.slots.length := by rw [List.length_take]; omega
    have hel2 : (effL D.slots (inp.take D.slots.length)).length = D.slots.length := effL_lenQ _ _ htl
    have hlt2 := allLt_eff (p := p) (by omega) (s := D.slots) (allLt_take D.slots.length hlt)
    let R1 : Value → World → Prop := fun v W => ∃ A c', v = .slice A D.slots.length c' ∧ Reads W A (uCells (effL D.slots (inp.take D.slots.length)))
    let R2 : Value → World → Prop := fun v W => ∃ A c', v = .slice A D.gates.length c' ∧ Reads W A (uCells (valsL p (effL D.slots (inp.take D.slots.length)) D.gates))
    have hin : ∀ W, Below w.heap.size w W → Calls Tryz.prog 43 #[.int .u64 ((p : Nat) : Int), .agg #[.slice D.SA D.slots.length D.sc, .slice D.GA D.gates.length D.gc, .slice D.EA D.exits.length D.ec], .slice (some aa) D.slots.length ic] W (fun e W' => ∃ v, e = .returned (.tuple #[v, .int .i64 0]) ∧ Below W.heap.size W W' ∧ R1 v W') := by
      intro W hb
      have h := rinputs_some p (by omega) D (inp.take D.slots.length) (by omega) aa ic W (HD.below hb) (reads_take_u _ (hI.below hb)) hck htl (allLt_take _ hlt)
      rw [htl] at h
      refine h.mono fun e W' h2 => ?_
      obtain ⟨h3, h4⟩ := h2
      have hie : inErr p D (inp.take D.slots.length) = 0 := by unfold inErr; rw [if_pos hck, if_pos ⟨htl, allLt_take _ hlt⟩]
      rcases h3 with ⟨h5, _⟩ | ⟨_, v, e1, h5⟩
      · exact absurd hie h5
      · rw [htl] at h5
        obtain ⟨A, c', rfl, hr⟩ := own_reads h5
        exact ⟨_, e1, h4, A, c', rfl, hr⟩
    have hva : ∀ W v, Below w.heap.size w W → R1 v W → Calls Tryz.prog 19 #[.int .u64 ((p : Nat) : Int), .agg #[.slice D.SA D.slots.length D.sc, .slice D.GA D.gates.length D.gc, .slice D.EA D.exits.length D.ec], v] W (fun e W' => ∃ u, e = .returned u ∧ Below W.heap.size W W' ∧ R2 u W') := by
      rintro W v hb ⟨A, c', rfl, hr⟩
      have h := rvalues_any p (by omega) pm D (effL D.slots (inp.take D.slots.length)) hlt2 (fun k hk => by rw [hel2]; exact hV'.fits k hk) hz A c' W (HD.below hb) hr
      rw [hel2] at h
      refine h.mono fun e W' h2 => ?_
      obtain ⟨v, e1, h3, h4⟩ := h2
      obtain ⟨A2, c2, rfl, hr2⟩ := own_reads h3
      exact ⟨_, e1, h4, A2, c2, rfl, hr2⟩
    have hVl : ∀ k, (hk : k < (valsL p (effL D.slots (inp.take D.slots.length)) D.gates).length) → (valsL p (effL D.slots (inp.take D.slots.length)) D.gates)[k] < p := vals_lt (by omega) hlt2 hel2 hV'.fits hV'.nk
    have hvn : (valsL p (effL D.slots (inp.take D.slots.length)) D.gates).length = D.gates.length := vals_len p D.gates
    have hwo : ∀ W u, Below w.heap.size w W → R2 u W → Calls Tryz.prog 44 #[.int .u64 ((p : Nat) : Int), .agg #[.int .i64 ((m : Nat) : Int), .int .i64 a, .int .i64 b, .int .i64 c, .int .u64 k, .slice VA vs.length vc, .slice WA ws.length wc, .int .i64 s.1, .bool s.2, .int .i64 g.1, .int .i64 g.2.1, .int .i64 g.2.2.1, .int .u64 g.2.2.2, .slice x.A x.tl.length x.c, .slice x.B x.gl.length x.d], u] W (fun e W' => ∃ (t nb : Int) (say : Bool), e = .returned (.tuple #[.int .u64 t, .int .i64 nb, .bool say]) ∧ Below W.heap.size W W' ∧ (say = true → (nb = 0 ∧ ∃ (ad : Addr) (i vl vd : Nat), u = .slice (some ad) vl vd ∧ at_ = ((i : Nat) : Int) ∧ i < vl ∧ W'.cell? (ad.add i) = some (.int .u64 t)) ∨ (nb ≠ 0 ∧ (∀ W2, Below W'.heap.size W' W2 → Calls Tryz.prog 45 #[u, .slice X r.length cx] W2 (RetB (.bool true) W2)) ∧ (∀ W2, Below W'.heap.size W' W2 → Calls Tryz.prog 20 #[u, .slice X r.length cx] W2 (RetB (.int .u64 t) W2))))) := by
      rintro W u hb ⟨A, c', rfl, hr⟩
      rcases ho with ⟨rfl, _⟩ | ⟨rfl, _⟩ | ⟨rfl, _⟩ | ⟨rfl, ha, hr0, e1, e2, e3⟩ | ⟨h4, ha, hr0, e1, e2, e3⟩
      · exact (worth_0 p a b c k VA WA A vs.length ws.length vc wc D.gates.length c' s g x W).mono fun e W' ⟨t, n, say, f1, f2, f3⟩ => ⟨t, n, say, f1, f2, fun h => (f3 h).elim⟩
      · exact (worth_1 p a b c k VA WA A vs.length ws.length vc wc D.gates.length c' s g x W).mono fun e W' ⟨t, n, say, f1, f2, f3⟩ => ⟨t, n, say, f1, f2, fun h => (f3 h).elim⟩
      · exact (worth_2 p a b c k VA WA A vs.length ws.length vc wc D.gates.length c' s g x W).mono fun e W' ⟨t, n, say, f1, f2, f3⟩ => ⟨t, n, say, f1, f2, fun h => (f3 h).elim⟩
      · obtain ⟨kn, rfl⟩ := Int.eq_ofNat_of_zero_le hH.k0
        have e2' : D.gates = C.gates ++ [((2, 0, 0, ((kn : Nat) : Int)) : Gat)] := e2
        subst ha hr0
        refine (worth_3 p a b c kn VA WA A vs.length ws.length vc wc D.gates.length c' s g x W).mono fun e W' ⟨t, n, say, f1, f2, f3⟩ => ⟨t, n, say, f1, f2, fun h => ?_⟩
        have f4 := f3 h
        have f5 := sem_3 (I := effL D.slots (inp.take D.slots.length)) (p := p) C.gates kn f4
        rw [← e2'] at f5
        exact concl_use f5 hr16 (hr.below f2) (hX.below (hb.trans (f2.mono hb.size))) hvn
      · have hc : m = 4 ∨ m = 5 ∨ m = 6 ∨ m = 7 ∨ m = 8 ∨ m = 9 ∨ m = 10 ∨ m = 11 ∨ m = 12 ∨ m = 13 ∨ m = 14 := by omega
        rcases hc with rfl | rfl | rfl | rfl | rfl | rfl | rfl | rfl | rfl | rfl | rfl
        · have hw' : placesErr C.gates.length [a] = 0 := hw
          have h1 := placesN_ok hw'
          simp only [List.any_cons, List.any_nil, Bool.or_false] at h1
          obtain ⟨a0, a1, a2⟩ := inside h1
          obtain ⟨an, rfl⟩ : ∃ n : Nat, a = ((n : Nat) : Int) := ⟨_, a2.symm⟩
          rw [Int.toNat_natCast] at a1
          have e2' : D.gates = C.gates ++ notL C.gates.length an := e2
          have hln : C.gates.length ≤ D.gates.length := by rw [e2']; simp
          have ha' : at_ = ((C.gates.length + 1 : Nat) : Int) := ha
          have hr1 : r = [] := hr0
          subst ha' hr1
          refine (worth_4 p an b c k VA WA A vs.length ws.length vc wc D.gates.length c' s g x W (valsL p (effL D.slots (inp.take D.slots.length)) D.gates) hvn hr (by omega)).mono fun e W' ⟨t, n, say, f1, f2, f3⟩ => ⟨t, n, say, f1, f2, fun h => ?_⟩
          have f4 := f3 h
          rw [e2'] at f4
          have f5 := sem_4 hp C.gates an a1 f4
          rw [← e2'] at f5
          exact concl_use f5 hr16 (hr.below f2) (hX.below (hb.trans (f2.mono hb.size))) hvn
        · have hw' : placesErr C.gates.length [a, b] = 0 := hw
          have h1 := placesN_ok hw'
          simp only [List.any_cons, List.any_nil, Bool.or_false, Bool.or_eq_false_iff] at h1
          obtain ⟨a0, a1, a2⟩ := inside h1.1
          obtain ⟨b0, b1, b2⟩ := inside h1.2
          obtain ⟨an, rfl⟩ : ∃ n : Nat, a = ((n : Nat) : Int) := ⟨_, a2.symm⟩
          rw [Int.toNat_natCast] at a1
          obtain ⟨bn, rfl⟩ : ∃ n : Nat, b = ((n : Nat) : Int) := ⟨_, b2.symm⟩
          rw [Int.toNat_natCast] at b1
          have e2' : D.gates = C.gates ++ andL C.gates.length an bn := e2
          have hln : C.gates.length ≤ D.gates.length := by rw [e2']; simp
          have ha' : at_ = ((C.gates.length : Nat) : Int) := ha
          have hr1 : r = [] := hr0
          subst ha' hr1
          refine (worth_5 p an bn c k VA WA A vs.length ws.length vc wc D.gates.length c' s g x W (valsL p (effL D.slots (inp.take D.slots.length)) D.gates) hvn hr (by omega) (by omega)).mono fun e W' ⟨t, n, say, f1, f2, f3⟩ => ⟨t, n, say, f1, f2, fun h => ?_⟩
          have f4 := f3 h
          rw [e2'] at f4
          have f5 := sem_5 hp C.gates an bn a1 b1 f4
          rw [← e2'] at f5
          exact concl_use f5 hr16 (hr.below f2) (hX.below (hb.trans (f2.mono hb.size))) hvn
        · have hw' : placesErr C.gates.length [a, b] = 0 := hw
          have h1 := placesN_ok hw'
          simp only [List.any_cons, List.any_nil, Bool.or_false, Bool.or_eq_false_iff] at h1
          obtain ⟨a0, a1, a2⟩ := inside h1.1
          obtain ⟨b0, b1, b2⟩ := inside h1.2
          obtain ⟨an, rfl⟩ : ∃ n : Nat, a = ((n : Nat) : Int) := ⟨_, a2.symm⟩
          rw [Int.toNat_natCast] at a1
          obtain ⟨bn, rfl⟩ : ∃ n : Nat, b = ((n : Nat) : Int) := ⟨_, b2.symm⟩
          rw [Int.toNat_natCast] at b1
          have e2' : D.gates = C.gates ++ orL C.gates.length an bn := e2
          have hln : C.gates.length ≤ D.gates.length := by rw [e2']; simp
          have ha' : at_ = ((C.gates.length + 2 : Nat) : Int) := ha
          have hr1 : r = [] := hr0
          subst ha' hr1
          refine (worth_6 p an bn c k VA WA A vs.length ws.length vc wc D.gates.length c' s g x W (valsL p (effL D.slots (inp.take D.slots.length)) D.gates) hvn hr (by omega) (by omega)).mono fun e W' ⟨t, n, say, f1, f2, f3⟩ => ⟨t, n, say, f1, f2, fun h => ?_⟩
          have f4 := f3 h
          rw [e2'] at f4
          have f5 := sem_6 hp C.gates an bn a1 b1 f4
          rw [← e2'] at f5
          exact concl_use f5 hr16 (hr.below f2) (hX.below (hb.trans (f2.mono hb.size))) hvn
        · have hw' : placesErr C.gates.length [a, b] = 0 := hw
          have h1 := placesN_ok hw'
          simp only [List.any_cons, List.any_nil, Bool.or_false, Bool.or_eq_false_iff] at h1
          obtain ⟨a0, a1, a2⟩ := inside h1.1
          obtain ⟨b0, b1, b2⟩ := inside h1.2
          obtain ⟨an, rfl⟩ : ∃ n : Nat, a = ((n : Nat) : Int) := ⟨_, a2.symm⟩
          rw [Int.toNat_natCast] at a1
          obtain ⟨bn, rfl⟩ : ∃ n : Nat, b = ((n : Nat) : Int) := ⟨_, b2.symm⟩
          rw [Int.toNat_natCast] at b1
          have e2' : D.gates = C.gates ++ xorL C.gates.length an bn := e2
          have hln : C.gates.length ≤ D.gates.length := by rw [e2']; simp
          have ha' : at_ = ((C.gates.length + 3 : Nat) : Int) := ha
          have hr1 : r = [] := hr0
          subst ha' hr1
          refine (worth_7 p an bn c k VA WA A vs.length ws.length vc wc D.gates.length c' s g x W (valsL p (effL D.slots (inp.take D.slots.length)) D.gates) hvn hr (by omega) (by omega)).mono fun e W' ⟨t, n, say, f1, f2, f3⟩ => ⟨t, n, say, f1, f2, fun h => ?_⟩
          have f4 := f3 h
          rw [e2'] at f4
          have f5 := sem_7 hp C.gates an bn a1 b1 f4
          rw [← e2'] at f5
          exact concl_use f5 hr16 (hr.below f2) (hX.below (hb.trans (f2.mono hb.size))) hvn
        · have hsl0 := hsl (by omega)
          have hVl0 : ∀ k, (hk : k < (valsL p (effL D.slots (inp.take D.slots.length)) C.gates).length) → (valsL p (effL D.slots (inp.take D.slots.length)) C.gates)[k] < p := vals_lt (by omega) hlt2 (by rw [hel2, hsl0]) hV.fits hV.nk
          have hw' : placesErr C.gates.length [c, a, b] = 0 := hw
          have h1 := placesN_ok hw'
          simp only [List.any_cons, List.any_nil, Bool.or_false, Bool.or_eq_false_iff] at h1
          obtain ⟨c0, c1, c2⟩ := inside h1.1
          obtain ⟨a0, a1, a2⟩ := inside h1.2.1
          obtain ⟨b0, b1, b2⟩ := inside h1.2.2
          obtain ⟨cn, rfl⟩ : ∃ n : Nat, c = ((n : Nat) : Int) := ⟨_, c2.symm⟩
          rw [Int.toNat_natCast] at c1
          obtain ⟨an, rfl⟩ : ∃ n : Nat, a = ((n : Nat) : Int) := ⟨_, a2.symm⟩
          rw [Int.toNat_natCast] at a1
          obtain ⟨bn, rfl⟩ : ∃ n : Nat, b = ((n : Nat) : Int) := ⟨_, b2.symm⟩
          rw [Int.toNat_natCast] at b1
          have e2' : D.gates = C.gates ++ pickL C.gates.length cn an bn := e2
          have hln : C.gates.length ≤ D.gates.length := by rw [e2']; simp
          have ha' : at_ = ((C.gates.length + 2 : Nat) : Int) := ha
          have hr1 : r = [] := hr0
          subst ha' hr1
          refine (worth_8 p an bn cn k VA WA A vs.length ws.length vc wc D.gates.length c' s g x W (valsL p (effL D.slots (inp.take D.slots.length)) D.gates) hvn hr (by omega) (by omega) (by omega)).mono fun e W' ⟨t, n, say, f1, f2, f3⟩ => ⟨t, n, say, f1, f2, fun h => ?_⟩
          have f4 := f3 h
          rw [e2'] at f4
          have f5 := sem_8 hp C.gates cn an bn c1 a1 b1 hVl0 f4
          rw [← e2'] at f5
          exact concl_use f5 hr16 (hr.below f2) (hX.below (hb.trans (f2.mono hb.size))) hvn
        · have hw' : wordErr C.gates.length vs = 0 := hw
          obtain ⟨n1, n2, h1⟩ := word_ok hw'
          obtain ⟨hcv, hvs⟩ := natsOf_cells h1
          have e2' : D.gates = (numSt C.gates (natsOf vs).reverse).1 := e2
          have hln : C.gates.length ≤ D.gates.length := by rw [e2']; exact (pre_numSt _ _).length_le
          have ha' : at_ = (((numSt C.gates (natsOf vs).reverse).2 : Nat) : Int) := ha
          have hr1 : r = [] := hr0
          subst ha' hr1
          have hVA := hH.V.below hb
          rw [hcv] at hVA
          refine (worth_9 p a b c k VA WA A vs.length ws.length vc wc D.gates.length c' s g x W (by omega) pm (valsL p (effL D.slots (inp.take D.slots.length)) D.gates) (natsOf vs) hvn hVl (natsOf_len vs) n2 (fun y hy => by have := hvs y hy; omega) hr hVA).mono fun e W' ⟨t, n, say, f1, f2, f3⟩ => ⟨t, n, say, f1, f2, fun h => ?_⟩
          have f4 := f3 h
          rw [e2', ← natsOf_len vs] at f4
          have f5 := sem_9 hp C.gates (natsOf vs) hvs f4
          rw [← e2'] at f5
          exact concl_use f5 hr16 (hr.below f2) (hX.below (hb.trans (f2.mono hb.size))) hvn
        · have hw' : wordsErr C.gates.length vs ws = 0 := hw
          obtain ⟨n1, n2, n3, h1, h2⟩ := words_ok hw'
          obtain ⟨hcv, hvs⟩ := natsOf_cells h1
          obtain ⟨hcw, hws⟩ := natsOf_cells h2
          have l1 := natsOf_len vs
          have l2 : (natsOf ws).length = vs.length := by rw [natsOf_len, n3]
          have e2' : D.gates = (plusSt C.gates (natsOf vs) (natsOf ws)).1 := e2
          have hln : C.gates.length ≤ D.gates.length := by rw [e2']; exact (pre_plus _ _ _).length_le
          have hr1 : r = (plusSt C.gates (natsOf vs) (natsOf ws)).2.1 := hr0
          have ha' : at_ = ((0 : Nat) : Int) := ha
          subst ha' hr1
          have hVA := hH.V.below hb
          have hWA := hH.W.below hb
          rw [hcv] at hVA
          rw [hcw] at hWA
          refine (worth_10 p a b c k VA WA A vs.length ws.length vc wc D.gates.length c' s g x W (valsL p (effL D.slots (inp.take D.slots.length)) D.gates) (natsOf vs) (natsOf ws) hvn l1 n2 l2 n3.symm (fun y hy => by have := hvs y hy; omega) (fun y hy => by have := hws y hy; omega) hr hVA hWA).mono fun e W' ⟨t, n, say, f1, f2, f3⟩ => ⟨t, n, say, f1, f2, fun h => ?_⟩
          have f4 := f3 h
          rw [e2'] at f4
          have f5 := sem_10 hp C.gates (natsOf vs) (natsOf ws) vs.length (by omega) l1 l2 hvs hws f4 0
          rw [← e2'] at f5
          exact concl_use f5 hr16 (hr.below f2) (hX.below (hb.trans (f2.mono hb.size))) hvn
        · have hw' : wordsErr C.gates.length vs ws = 0 := hw
          obtain ⟨n1, n2, n3, h1, h2⟩ := words_ok hw'
          obtain ⟨hcv, hvs⟩ := natsOf_cells h1
          obtain ⟨hcw, hws⟩ := natsOf_cells h2
          have l1 := natsOf_len vs
          have l2 : (natsOf ws).length = vs.length := by rw [natsOf_len, n3]
          have e2' : D.gates = (minusSt C.gates (natsOf vs) (natsOf ws)).1 := e2
          have hln : C.gates.length ≤ D.gates.length := by rw [e2']; exact (pre_minus _ _ _).length_le
          have hr1 : r = (minusSt C.gates (natsOf vs) (natsOf ws)).2.1 := hr0
          have ha' : at_ = ((0 : Nat) : Int) := ha
          subst ha' hr1
          have hVA := hH.V.below hb
          have hWA := hH.W.below hb
          rw [hcv] at hVA
          rw [hcw] at hWA
          refine (worth_11 p a b c k VA WA A vs.length ws.length vc wc D.gates.length c' s g x W (valsL p (effL D.slots (inp.take D.slots.length)) D.gates) (natsOf vs) (natsOf ws) hvn l1 n2 l2 n3.symm (fun y hy => by have := hvs y hy; omega) (fun y hy => by have := hws y hy; omega) hr hVA hWA).mono fun e W' ⟨t, n, say, f1, f2, f3⟩ => ⟨t, n, say, f1, f2, fun h => ?_⟩
          have f4 := f3 h
          rw [e2'] at f4
          have f5 := sem_11 hp C.gates (natsOf vs) (natsOf ws) vs.length (by omega) l1 l2 hvs hws f4 0
          rw [← e2'] at f5
          exact concl_use f5 hr16 (hr.below f2) (hX.below (hb.trans (f2.mono hb.size))) hvn
        · have hw' : wordsErr C.gates.length vs ws = 0 := hw
          obtain ⟨n1, n2, n3, h1, h2⟩ := words_ok hw'
          obtain ⟨hcv, hvs⟩ := natsOf_cells h1
          obtain ⟨hcw, hws⟩ := natsOf_cells h2
          have l1 := natsOf_len vs
          have l2 : (natsOf ws).length = vs.length := by rw [natsOf_len, n3]
          have e2' : D.gates = (timesSt C.gates (natsOf vs) (natsOf ws) vs.length).1 := e2
          have hln : C.gates.length ≤ D.gates.length := by rw [e2']; exact (pre_times _ _ _ _).length_le
          have hr1 : r = (timesSt C.gates (natsOf vs) (natsOf ws) vs.length).2 := hr0
          have ha' : at_ = ((0 : Nat) : Int) := ha
          subst ha' hr1
          have hVA := hH.V.below hb
          have hWA := hH.W.below hb
          rw [hcv] at hVA
          rw [hcw] at hWA
          refine (worth_12 p a b c k VA WA A vs.length ws.length vc wc D.gates.length c' s g x W (valsL p (effL D.slots (inp.take D.slots.length)) D.gates) (natsOf vs) (natsOf ws) hvn l1 n2 l2 n3.symm (fun y hy => by have := hvs y hy; omega) (fun y hy => by have := hws y hy; omega) hr hVA hWA).mono fun e W' ⟨t, n, say, f1, f2, f3⟩ => ⟨t, n, say, f1, f2, fun h => ?_⟩
          have f4 := f3 h
          rw [e2'] at f4
          have f5 := sem_12 hp C.gates (natsOf vs) (natsOf ws) vs.length (by omega) l1 l2 hvs hws f4 0
          rw [← e2'] at f5
          exact concl_use f5 hr16 (hr.below f2) (hX.below (hb.trans (f2.mono hb.size))) hvn
        · have hw' : wordsErr C.gates.length vs ws = 0 := hw
          obtain ⟨n1, n2, n3, h1, h2⟩ := words_ok hw'
          obtain ⟨hcv, hvs⟩ := natsOf_cells h1
          obtain ⟨hcw, hws⟩ := natsOf_cells h2
          have l1 := natsOf_len vs
          have l2 : (natsOf ws).length = vs.length := by rw [natsOf_len, n3]
          have e2' : D.gates = (sameSt C.gates ((natsOf vs).zip (natsOf ws))).1 := e2
          have hln : C.gates.length ≤ D.gates.length := by rw [e2']; exact (pre_sameSt _ _).length_le
          have hr1 : r = [] := hr0
          have ha' : at_ = (((sameSt C.gates ((natsOf vs).zip (natsOf ws))).2 : Nat) : Int) := ha
          subst ha' hr1
          have hVA := hH.V.below hb
          have hWA := hH.W.below hb
          rw [hcv] at hVA
          rw [hcw] at hWA
          refine (worth_13 p a b c k VA WA A vs.length ws.length vc wc D.gates.length c' s g x W (valsL p (effL D.slots (inp.take D.slots.length)) D.gates) (natsOf vs) (natsOf ws) hvn l1 n2 l2 n3.symm (fun y hy => by have := hvs y hy; omega) (fun y hy => by have := hws y hy; omega) hr hVA hWA).mono fun e W' ⟨t, n, say, f1, f2, f3⟩ => ⟨t, n, say, f1, f2, fun h => ?_⟩
          have f4 := f3 h
          rw [e2'] at f4
          have f5 := sem_13 hp C.gates (natsOf vs) (natsOf ws) vs.length (by omega) l1 l2 hvs hws f4
          rw [← e2'] at f5
          exact concl_use f5 hr16 (hr.below f2) (hX.below (hb.trans (f2.mono hb.size))) hvn
        · have hw' : wordsErr C.gates.length vs ws = 0 := hw
          obtain ⟨n1, n2, n3, h1, h2⟩ := words_ok hw'
          obtain ⟨hcv, hvs⟩ := natsOf_cells h1
          obtain ⟨hcw, hws⟩ := natsOf_cells h2
          have l1 := natsOf_len vs
          have l2 : (natsOf ws).length = vs.length := by rw [natsOf_len, n3]
          have e2' : D.gates = (belowSt C.gates (natsOf vs) (natsOf ws)).1 := e2
          have hln : C.gates.length ≤ D.gates.length := by rw [e2']; exact (pre_below _ _ _).length_le
          have hr1 : r = [] := hr0
          have ha' : at_ = (((belowSt C.gates (natsOf vs) (natsOf ws)).2 : Nat) : Int) := ha
          subst ha' hr1
          have hVA := hH.V.below hb
          have hWA := hH.W.below hb
          rw [hcv] at hVA
          rw [hcw] at hWA
          refine (worth_14 p a b c k VA WA A vs.length ws.length vc wc D.gates.length c' s g x W (valsL p (effL D.slots (inp.take D.slots.length)) D.gates) (natsOf vs) (natsOf ws) hvn l1 n2 l2 n3.symm (fun y hy => by have := hvs y hy; omega) (fun y hy => by have := hws y hy; omega) hr hVA hWA).mono fun e W' ⟨t, n, say, f1, f2, f3⟩ => ⟨t, n, say, f1, f2, fun h => ?_⟩
          have f4 := f3 h
          rw [e2'] at f4
          have f5 := sem_14 hp C.gates (natsOf vs) (natsOf ws) vs.length (by omega) l1 l2 hvs hws f4
          rw [← e2'] at f5
          exact concl_use f5 hr16 (hr.below f2) (hX.below (hb.trans (f2.mono hb.size))) hvn
    exact step_good _ _ _ _ _ _ _ _ _ _ _ _ _ _ _ _ _ _ _ _ _ _ _ _ _ _ _ _ _ _ _ _ _ _ _ _ _ _ _ _ _ _ _ _ _ _ _ _ _ _ (gatesN m vs.length) (prodN m vs.length) ((countK 5 D.gates : Nat) : Int) ((countK 5 C.gates : Nat) : Int) (by omega) (by omega) ⟨by omega, by have := countK_len 5 C.gates; omega, by omega, by have := countK_len 5 D.gates; omega⟩ ⟨by omega, by omega⟩ ⟨by omega, by omega⟩ (fun h => by rw [hsl (by omega)]) (fun h => by rw [hlx', hel (by omega), hlx]) ⟨by omega, hic⟩ ⟨aa, rfl⟩ ⟨fun h => hwd (by omega), fun h => by rw [hnw (by omega)]; rfl⟩ hwr hga hbe hck2 hex hcd hcc hpr hpx hpa R1 R2 hin hva hwo
end Go.Proofs.YtkcdlbclodjjhaaGreat
