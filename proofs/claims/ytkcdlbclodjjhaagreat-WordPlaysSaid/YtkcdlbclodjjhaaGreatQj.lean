/- Every act on a board does what it should. (Printed by wip/tools/gen_qj.py.) -/
import Derived.Test.YtkcdlbclodjjhaaGreatGav
namespace Go.Proofs.YtkcdlbclodjjhaaGreat
open Go.RowKit

theorem Reads.fr {B : Nat} {v v' : Value} {W W' : World} {A : Option Addr} {cs : List Value} (hA : Reads W A cs) (hl : cs ≠ [] → ∀ a, A = some a → a.block < B) (hv : ∀ q, v.ownBlock = some q → B + 1 ≤ q) (hF : Fr B v v' W W') : Reads W' A cs := by
  rcases hA with h | ⟨ad, rfl, h⟩
  · exact .inl h
  · refine .inr ⟨ad, rfl, fun j u hj => ?_⟩
    have h1 := hl (fun e => by rw [e] at hj; cases hj) ad rfl
    have hb : (ad.add j).block = ad.block := by unfold Addr.add; split <;> rfl
    exact hF.cell (h j u hj) (by rw [hb]; omega) (fun e => by rw [hb] at e; have := hv _ e.symm; omega)
theorem AnsI.shape {er : Int} {K r : Nat} {Gn : List Gat} {B p : Nat} {sl : List Slo} {G : List Gat} {xs : List Exi} {v1 v2 v3 : Value} {w W' : World} {x : Value} {k : Int} (h : AnsI er K Gn r B p sl G xs v1 v2 v3 w x k W') : ∃ z : Int, x = .int .i64 z := by
  rcases h with ⟨_, h, _⟩ | ⟨_, _, h, _⟩ | ⟨_, h, _⟩ <;> exact ⟨_, h⟩
theorem AnsI.back {er : Int} {K r : Nat} {Gn : List Gat} {B p : Nat} {sl : List Slo} {G : List Gat} {xs : List Exi} {v1 v2 v3 : Value} {w W' : World} {x : Value} {k : Int} (h : AnsI er K Gn r B p sl G xs v1 v2 v3 w x k W') : ∃ Gx, Back B p sl Gx xs v1 v2 v3 w W' := by
  rcases h with ⟨_, _, _, h⟩ | ⟨_, _, _, _, h⟩ | ⟨_, _, _, h⟩ <;> exact ⟨_, h⟩
theorem AnsW.shape {er : Int} {K n : Nat} {r : List Nat} {Gn : List Gat} {B p : Nat} {sl : List Slo} {G : List Gat} {xs : List Exi} {v1 v2 v3 : Value} {w W' : World} {x : Value} {k : Int} (h : AnsW er K Gn n r B p sl G xs v1 v2 v3 w x k W') : ∃ A n m, x = .slice A n m := by
  rcases h with ⟨_, h, _⟩ | ⟨_, _, h, _⟩ | ⟨_, _, _, h⟩
  · exact ⟨_, _, _, h⟩
  · exact ⟨_, _, _, h⟩
  · obtain ⟨A, c, e, _⟩ := own_reads h
    exact ⟨_, _, _, e⟩
theorem AnsW.back {er : Int} {K n : Nat} {r : List Nat} {Gn : List Gat} {B p : Nat} {sl : List Slo} {G : List Gat} {xs : List Exi} {v1 v2 v3 : Value} {w W' : World} {x : Value} {k : Int} (h : AnsW er K Gn n r B p sl G xs v1 v2 v3 w x k W') : ∃ Gx, Back B p sl Gx xs v1 v2 v3 w W' := by
  rcases h with ⟨_, _, _, h⟩ | ⟨_, _, _, _, h⟩ | ⟨_, _, h, _⟩ <;> exact ⟨_, h⟩
theorem PutPost.ans {B p : Nat} {sl : List Slo} {G : List Gat} {xs : List Exi} {v1 v2 v3 : Value} {g : Gat} {w : World} {e : Ending} {W' : World} (h : IsB B p sl G xs v1 v2 v3 w) (hq : PutPost B p sl G xs v1 v2 v3 g w e W') : ∃ (x : Value) (k : Int), e = .returned (.tuple #[x, .int .i64 k]) ∧ (∃ z : Int, x = .int .i64 z) ∧ AnsI (putErr p sl.length G.length g) 0 (G ++ [g]) G.length B p sl G xs v1 v2 v3 w x k W' := by
  unfold putErr
  rcases hq with ⟨h1, h2, h3⟩ | ⟨h1, h2, h3, h4⟩ | ⟨h1, h2, v, h3, h4, h5⟩
  · exact ⟨_, _, h2, ⟨_, rfl⟩, .inl ⟨by rw [if_pos h1]; exact h1, rfl, by rw [if_pos h1], Back.of_below h h3⟩⟩
  · exact ⟨_, _, h3, ⟨_, rfl⟩, .inl ⟨by rw [if_neg (by rw [h1]; simp), if_pos h2]; decide, rfl, by rw [if_neg (by rw [h1]; simp), if_pos h2], Back.of_below h h4⟩⟩
  · exact ⟨_, _, h3, ⟨_, rfl⟩, .inr (.inr ⟨by rw [if_neg (by rw [h1]; simp), if_neg (by omega)], rfl, rfl, v, h4, h5⟩)⟩
theorem wordErr_pos {gn : Nat} {vs : List Int} (h : wordErr gn vs = 0) : 1 ≤ vs.length := by
  unfold wordErr at h
  split at h
  · cases h
  · omega
set_option maxHeartbeats 1000000 in
set_option maxRecDepth 100000 in
theorem play_0 (B p : Nat) (hp : 1 < p) (sl : List Slo) (G : List Gat) (xs : List Exi) (v1 v2 v3 : Value) (a b c k : Int) (vs ws : List Int) (s : Slo) (g : Gat) (x : Exi) (VA WA : Option Addr) (vc wc : Nat) (w : World) (h : IsB B p sl G xs v1 v2 v3 w) (_hH : HoldsA w B vs ws g x k VA WA vc) :
    Calls Tryz.prog 9 #[.pointer (some ⟨B, 0, none⟩), .agg #[.int .i64 0, .int .i64 a, .int .i64 b, .int .i64 c, .int .u64 k, .slice VA vs.length vc, .slice WA ws.length wc, .int .i64 s.1, .bool s.2, .int .i64 g.1, .int .i64 g.2.1, .int .i64 g.2.2.1, .int .u64 g.2.2.2, .slice x.A x.tl.length x.c, .slice x.B x.gl.length x.d]] w (DoPost p 0 a b c k vs ws s g x B sl G xs v1 v2 v3 w) := by
  obtain ⟨_, _, _, hz, hb⟩ := w3_facts w #[.int .i64 0, .int .i64 a, .int .i64 b, .int .i64 c, .int .u64 k, .slice VA vs.length vc, .slice WA ws.length wc, .int .i64 s.1, .bool s.2, .int .i64 g.1, .int .i64 g.2.1, .int .i64 g.2.2.1, .int .u64 g.2.2.2, .slice x.A x.tl.length x.c, .slice x.B x.gl.length x.d]
  have hI := h.below hb
  have hw : wrongN p sl.length G.length xs.length 0 a b c k vs ws s g x = slotErr sl.length G.length s := rfl
  by_cases her : slotErr sl.length G.length s = 0
  · have hs : 1 ≤ s.1 ∧ s.1 ≤ 13 ∧ sl.length < 256 ∧ G.length < 65536 := by
      unfold slotErr at her
      split at her
      · cases her
      · split at her
        · cases her
        · omega
    refine (do_0 ⟨B, 0, none⟩ a b c k vs ws s g x VA WA vc wc w (fun x1 k1 W => x1 = .int .i64 ((G.length : Nat) : Int) ∧ k1 = 0 ∧ ∃ u1 u2, Mid w #[.int .i64 0, .int .i64 a, .int .i64 b, .int .i64 c, .int .u64 k, .slice VA vs.length vc, .slice WA ws.length wc, .int .i64 s.1, .bool s.2, .int .i64 g.1, .int .i64 g.2.1, .int .i64 g.2.2.1, .int .u64 g.2.2.2, .slice x.A x.tl.length x.c, .slice x.B x.gl.length x.d] B p (sl ++ [s]) (G ++ [((1, ((sl.length : Nat) : Int), 0, 0) : Gat)]) xs u1 u2 v3 v1 v2 v3 W) ?_ ?_).mono ?_
    · exact (slot_fr B p (by omega) sl G xs v1 v2 v3 s hs.1 hs.2.1 hs.2.2.1 hs.2.2.2 (W3 w #[.int .i64 0, .int .i64 a, .int .i64 b, .int .i64 c, .int .u64 k, .slice VA vs.length vc, .slice WA ws.length wc, .int .i64 s.1, .bool s.2, .int .i64 g.1, .int .i64 g.2.1, .int .i64 g.2.2.1, .int .u64 g.2.2.2, .slice x.A x.tl.length x.c, .slice x.B x.gl.length x.d]) hI).mono fun e W' ⟨e1, u1, u2, h1, h2⟩ => ⟨_, _, e1, ⟨_, rfl⟩, rfl, rfl, u1, u2, h1, h2⟩
    · rintro x1 k1 W ⟨_, _, u1, u2, hm⟩
      exact hm.boxes h
    · rintro e W' ⟨x1, k1, rfl, W1, ⟨rfl, rfl, u1, u2, hm⟩, l, hl, rfl⟩
      obtain ⟨f1, f2, f3⟩ := hm.fin h l hl (World.ownsRow_nil _ _ _ _ : W1.ownsRow w.heap.size 3 1 nilS 0 (nCells []))
      exact ⟨_, none, 0, 0, [], 0, _, _, xs, _, _, _, rfl, f1, f2, f3, rfl, .inr (.inr ⟨hw.trans her, rfl, .inl ⟨rfl, rfl, rfl, rfl, rfl, rfl⟩⟩)⟩
  · refine (do_0 ⟨B, 0, none⟩ a b c k vs ws s g x VA WA vc wc w (fun x1 k1 W => x1 = .int .i64 0 ∧ k1 = slotErr sl.length G.length s ∧ Mid w #[.int .i64 0, .int .i64 a, .int .i64 b, .int .i64 c, .int .u64 k, .slice VA vs.length vc, .slice WA ws.length wc, .int .i64 s.1, .bool s.2, .int .i64 g.1, .int .i64 g.2.1, .int .i64 g.2.2.1, .int .u64 g.2.2.2, .slice x.A x.tl.length x.c, .slice x.B x.gl.length x.d] B p sl G xs v1 v2 v3 v1 v2 v3 W) ?_ ?_).mono ?_
    · exact (slot_bad B p (by omega) sl G xs v1 v2 v3 s her (W3 w #[.int .i64 0, .int .i64 a, .int .i64 b, .int .i64 c, .int .u64 k, .slice VA vs.length vc, .slice WA ws.length wc, .int .i64 s.1, .bool s.2, .int .i64 g.1, .int .i64 g.2.1, .int .i64 g.2.2.1, .int .u64 g.2.2.2, .slice x.A x.tl.length x.c, .slice x.B x.gl.length x.d]) hI).mono fun e W' ⟨e1, hb2⟩ => ⟨_, _, e1, ⟨_, rfl⟩, rfl, rfl, hI.below hb2, FrB.of_below hb2⟩
    · rintro x1 k1 W ⟨_, _, hm⟩
      exact hm.boxes h
    · rintro e W' ⟨x1, k1, rfl, W1, ⟨rfl, rfl, hm⟩, l, hl, rfl⟩
      obtain ⟨f1, f2, f3⟩ := hm.fin h l hl (World.ownsRow_nil _ _ _ _ : W1.ownsRow w.heap.size 3 1 nilS 0 (nCells []))
      exact ⟨0, none, 0, 0, [], _, sl, G, xs, _, _, _, rfl, f1, f2, f3, rfl, .inl ⟨by rw [hw]; exact her, rfl, rfl, hw.symm, rfl, rfl, rfl⟩⟩
set_option maxHeartbeats 1000000 in
set_option maxRecDepth 100000 in
theorem play_1 (B p : Nat) (hp : 1 < p) (sl : List Slo) (G : List Gat) (xs : List Exi) (v1 v2 v3 : Value) (a b c k : Int) (vs ws : List Int) (s : Slo) (g : Gat) (x : Exi) (VA WA : Option Addr) (vc wc : Nat) (w : World) (h : IsB B p sl G xs v1 v2 v3 w) (hH : HoldsA w B vs ws g x k VA WA vc) (hGl : G.length ≤ 65536) :
    Calls Tryz.prog 9 #[.pointer (some ⟨B, 0, none⟩), .agg #[.int .i64 1, .int .i64 a, .int .i64 b, .int .i64 c, .int .u64 k, .slice VA vs.length vc, .slice WA ws.length wc, .int .i64 s.1, .bool s.2, .int .i64 g.1, .int .i64 g.2.1, .int .i64 g.2.2.1, .int .u64 g.2.2.2, .slice x.A x.tl.length x.c, .slice x.B x.gl.length x.d]] w (DoPost p 1 a b c k vs ws s g x B sl G xs v1 v2 v3 w) := by
  obtain ⟨_, _, _, hz, hb⟩ := w3_facts w #[.int .i64 1, .int .i64 a, .int .i64 b, .int .i64 c, .int .u64 k, .slice VA vs.length vc, .slice WA ws.length wc, .int .i64 s.1, .bool s.2, .int .i64 g.1, .int .i64 g.2.1, .int .i64 g.2.2.1, .int .u64 g.2.2.2, .slice x.A x.tl.length x.c, .slice x.B x.gl.length x.d]
  have hI := h.below hb
  have hw : wrongN p sl.length G.length xs.length 1 a b c k vs ws s g x = putErr p sl.length G.length g := rfl
  refine (do_1 ⟨B, 0, none⟩ a b c k vs ws s g x VA WA vc wc w (fun x1 k1 W => AnsI (putErr p sl.length G.length g) 0 (G ++ [g]) G.length B p sl G xs v1 v2 v3 (W3 w #[.int .i64 1, .int .i64 a, .int .i64 b, .int .i64 c, .int .u64 k, .slice VA vs.length vc, .slice WA ws.length wc, .int .i64 s.1, .bool s.2, .int .i64 g.1, .int .i64 g.2.1, .int .i64 g.2.2.1, .int .u64 g.2.2.2, .slice x.A x.tl.length x.c, .slice x.B x.gl.length x.d]) x1 k1 W) ?_ ?_).mono ?_
  · exact (put_any B p (by omega) sl G xs v1 v2 v3 g hH.g0 (W3 w #[.int .i64 1, .int .i64 a, .int .i64 b, .int .i64 c, .int .u64 k, .slice VA vs.length vc, .slice WA ws.length wc, .int .i64 s.1, .bool s.2, .int .i64 g.1, .int .i64 g.2.1, .int .i64 g.2.2.1, .int .u64 g.2.2.2, .slice x.A x.tl.length x.c, .slice x.B x.gl.length x.d]) hI).mono fun e W' he => PutPost.ans hI he
  · intro x1 k1 W hq
    obtain ⟨_, hbk⟩ := hq.back
    obtain ⟨u, hm⟩ := hbk.mid
    exact hm.boxes h
  · rintro e W' ⟨x1, k1, rfl, W1, hq, l, hl, rfl⟩
    rcases hq with ⟨q1, rfl, rfl, hbk⟩ | ⟨q1, q2, rfl, rfl, hbk⟩ | ⟨q1, rfl, rfl, hbk⟩
    · obtain ⟨u, hm⟩ := hbk.mid
      obtain ⟨f1, f2, f3⟩ := hm.fin h l hl (World.ownsRow_nil _ _ _ _ : W1.ownsRow w.heap.size 3 1 nilS 0 (nCells []))
      exact ⟨0, none, 0, 0, [], _, sl, G, xs, _, _, _, rfl, f1, f2, f3, rfl, .inl ⟨by rw [hw]; exact q1, rfl, rfl, hw.symm, rfl, rfl, rfl⟩⟩
    · exfalso
      have hg : G.length ≤ 65536 := hGl
      omega
    · obtain ⟨u, hm⟩ := hbk.mid
      obtain ⟨f1, f2, f3⟩ := hm.fin h l hl (World.ownsRow_nil _ _ _ _ : W1.ownsRow w.heap.size 3 1 nilS 0 (nCells []))
      exact ⟨_, none, 0, 0, [], 0, sl, _, xs, _, _, _, rfl, f1, f2, f3, rfl, .inr (.inr ⟨hw.trans q1, rfl, .inr (.inl ⟨rfl, rfl, rfl, rfl, rfl, rfl⟩)⟩)⟩
set_option maxHeartbeats 1000000 in
set_option maxRecDepth 100000 in
theorem play_2 (B p : Nat) (hp : 1 < p) (sl : List Slo) (G : List Gat) (xs : List Exi) (v1 v2 v3 : Value) (a b c k : Int) (vs ws : List Int) (s : Slo) (g : Gat) (x : Exi) (VA WA : Option Addr) (vc wc : Nat) (w : World) (h : IsB B p sl G xs v1 v2 v3 w) (hH : HoldsA w B vs ws g x k VA WA vc) :
    Calls Tryz.prog 9 #[.pointer (some ⟨B, 0, none⟩), .agg #[.int .i64 2, .int .i64 a, .int .i64 b, .int .i64 c, .int .u64 k, .slice VA vs.length vc, .slice WA ws.length wc, .int .i64 s.1, .bool s.2, .int .i64 g.1, .int .i64 g.2.1, .int .i64 g.2.2.1, .int .u64 g.2.2.2, .slice x.A x.tl.length x.c, .slice x.B x.gl.length x.d]] w (DoPost p 2 a b c k vs ws s g x B sl G xs v1 v2 v3 w) := by
  obtain ⟨_, _, _, hz, hb⟩ := w3_facts w #[.int .i64 2, .int .i64 a, .int .i64 b, .int .i64 c, .int .u64 k, .slice VA vs.length vc, .slice WA ws.length wc, .int .i64 s.1, .bool s.2, .int .i64 g.1, .int .i64 g.2.1, .int .i64 g.2.2.1, .int .u64 g.2.2.2, .slice x.A x.tl.length x.c, .slice x.B x.gl.length x.d]
  have hI := h.below hb
  have hw : wrongN p sl.length G.length xs.length 2 a b c k vs ws s g x = tellErr G.length xs.length x := rfl
  by_cases her : tellErr G.length xs.length x = 0
  · have hs : xErr G.length x = 0 ∧ xs.length < 4096 := by
      unfold tellErr at her
      split at her
      · rename_i h1; exact absurd her h1
      · rename_i h1
        split at her
        · cases her
        · exact ⟨by simpa using h1, by omega⟩
    obtain ⟨t1, t2⟩ := exit_small hs.1
    refine (do_2 ⟨B, 0, none⟩ a b c k vs ws s g x VA WA vc wc w (fun k1 W => k1 = 0 ∧ ∃ (x' : Exi) (v : Value), (x'.tl = x.tl ∧ x'.gl = x.gl ∧ (x'.A = none → x'.c = 0) ∧ (x'.B = none → x'.d = 0)) ∧ Mid w #[.int .i64 2, .int .i64 a, .int .i64 b, .int .i64 c, .int .u64 k, .slice VA vs.length vc, .slice WA ws.length wc, .int .i64 s.1, .bool s.2, .int .i64 g.1, .int .i64 g.2.1, .int .i64 g.2.2.1, .int .u64 g.2.2.2, .slice x.A x.tl.length x.c, .slice x.B x.gl.length x.d] B p sl G (xs ++ [x']) v1 v2 v v1 v2 v3 W) ?_ ?_).mono ?_
    · exact (tell_ok B p (by omega) sl G xs v1 v2 v3 x hH.nX hH.nY (W3 w #[.int .i64 2, .int .i64 a, .int .i64 b, .int .i64 c, .int .u64 k, .slice VA vs.length vc, .slice WA ws.length wc, .int .i64 s.1, .bool s.2, .int .i64 g.1, .int .i64 g.2.1, .int .i64 g.2.2.1, .int .u64 g.2.2.2, .slice x.A x.tl.length x.c, .slice x.B x.gl.length x.d]) hI (hH.X.below hb) (hH.Y.below hb) hs.1 hs.2 hH.zX hH.zY (by omega) (by omega)).mono fun e W' ⟨e1, x', v, h1, h2, h3⟩ => ⟨_, e1, rfl, x', v, h1, h2, FrB.of_fr3 h3⟩
    · rintro k1 W ⟨_, x', v, _, hm⟩
      exact hm.boxes h
    · rintro e W' ⟨k1, rfl, W1, ⟨rfl, x', v, h1, hm⟩, l, hl, rfl⟩
      obtain ⟨f1, f2, f3⟩ := hm.fin h l hl (World.ownsRow_nil _ _ _ _ : W1.ownsRow w.heap.size 3 1 nilS 0 (nCells []))
      exact ⟨0, none, 0, 0, [], 0, sl, G, _, _, _, _, rfl, f1, f2, f3, rfl, .inr (.inr ⟨hw.trans her, rfl, .inr (.inr (.inl ⟨rfl, rfl, rfl, rfl, rfl, x', h1, rfl⟩))⟩)⟩
  · refine (do_2 ⟨B, 0, none⟩ a b c k vs ws s g x VA WA vc wc w (fun k1 W => k1 = tellErr G.length xs.length x ∧ Mid w #[.int .i64 2, .int .i64 a, .int .i64 b, .int .i64 c, .int .u64 k, .slice VA vs.length vc, .slice WA ws.length wc, .int .i64 s.1, .bool s.2, .int .i64 g.1, .int .i64 g.2.1, .int .i64 g.2.2.1, .int .u64 g.2.2.2, .slice x.A x.tl.length x.c, .slice x.B x.gl.length x.d] B p sl G xs v1 v2 v3 v1 v2 v3 W) ?_ ?_).mono ?_
    · by_cases hx : xErr G.length x = 0
      · have hf : 4096 ≤ xs.length := by
          by_cases hf : 4096 ≤ xs.length
          · exact hf
          · unfold tellErr at her; rw [if_neg (by rw [hx]; simp), if_neg hf] at her; exact absurd rfl her
        exact (tell_full B p (by omega) sl G xs v1 v2 v3 x hH.nX hH.nY (W3 w #[.int .i64 2, .int .i64 a, .int .i64 b, .int .i64 c, .int .u64 k, .slice VA vs.length vc, .slice WA ws.length wc, .int .i64 s.1, .bool s.2, .int .i64 g.1, .int .i64 g.2.1, .int .i64 g.2.2.1, .int .u64 g.2.2.2, .slice x.A x.tl.length x.c, .slice x.B x.gl.length x.d]) hI (hH.X.below hb) (hH.Y.below hb) hx hf).mono fun e W' ⟨e1, hb2⟩ => ⟨_, e1, by unfold tellErr; rw [if_neg (by rw [hx]; simp), if_pos hf], hI.below hb2, FrB.of_below hb2⟩
      · exact (tell_bad B p (by omega) sl G xs v1 v2 v3 x hH.nX hH.nY (W3 w #[.int .i64 2, .int .i64 a, .int .i64 b, .int .i64 c, .int .u64 k, .slice VA vs.length vc, .slice WA ws.length wc, .int .i64 s.1, .bool s.2, .int .i64 g.1, .int .i64 g.2.1, .int .i64 g.2.2.1, .int .u64 g.2.2.2, .slice x.A x.tl.length x.c, .slice x.B x.gl.length x.d]) hI (hH.X.below hb) (hH.Y.below hb) (xErr G.length x) rfl hx).mono fun e W' ⟨e1, hb2⟩ => ⟨_, e1, by unfold tellErr; rw [if_pos hx], hI.below hb2, FrB.of_below hb2⟩
    · rintro k1 W ⟨_, hm⟩
      exact hm.boxes h
    · rintro e W' ⟨k1, rfl, W1, ⟨rfl, hm⟩, l, hl, rfl⟩
      obtain ⟨f1, f2, f3⟩ := hm.fin h l hl (World.ownsRow_nil _ _ _ _ : W1.ownsRow w.heap.size 3 1 nilS 0 (nCells []))
      exact ⟨0, none, 0, 0, [], _, sl, G, xs, _, _, _, rfl, f1, f2, f3, rfl, .inl ⟨by rw [hw]; exact her, rfl, rfl, hw.symm, rfl, rfl, rfl⟩⟩
set_option maxHeartbeats 1000000 in
set_option maxRecDepth 100000 in
theorem play_3 (B p : Nat) (hp : 1 < p) (sl : List Slo) (G : List Gat) (xs : List Exi) (v1 v2 v3 : Value) (a b c k : Int) (vs ws : List Int) (s : Slo) (g : Gat) (x : Exi) (VA WA : Option Addr) (vc wc : Nat) (w : World) (h : IsB B p sl G xs v1 v2 v3 w) (hH : HoldsA w B vs ws g x k VA WA vc) (hGl : G.length ≤ 65536) :
    Calls Tryz.prog 9 #[.pointer (some ⟨B, 0, none⟩), .agg #[.int .i64 3, .int .i64 a, .int .i64 b, .int .i64 c, .int .u64 k, .slice VA vs.length vc, .slice WA ws.length wc, .int .i64 s.1, .bool s.2, .int .i64 g.1, .int .i64 g.2.1, .int .i64 g.2.2.1, .int .u64 g.2.2.2, .slice x.A x.tl.length x.c, .slice x.B x.gl.length x.d]] w (DoPost p 3 a b c k vs ws s g x B sl G xs v1 v2 v3 w) := by
  obtain ⟨_, _, _, hz, hb⟩ := w3_facts w #[.int .i64 3, .int .i64 a, .int .i64 b, .int .i64 c, .int .u64 k, .slice VA vs.length vc, .slice WA ws.length wc, .int .i64 s.1, .bool s.2, .int .i64 g.1, .int .i64 g.2.1, .int .i64 g.2.2.1, .int .u64 g.2.2.2, .slice x.A x.tl.length x.c, .slice x.B x.gl.length x.d]
  have hI := h.below hb
  have hw : wrongN p sl.length G.length xs.length 3 a b c k vs ws s g x = putErr p sl.length G.length (2, 0, 0, k) := rfl
  refine (do_3 ⟨B, 0, none⟩ a b c k vs ws s g x VA WA vc wc w (fun x1 k1 W => AnsI (putErr p sl.length G.length (2, 0, 0, k)) 0 (G ++ [(2, 0, 0, k)]) G.length B p sl G xs v1 v2 v3 (W3 w #[.int .i64 3, .int .i64 a, .int .i64 b, .int .i64 c, .int .u64 k, .slice VA vs.length vc, .slice WA ws.length wc, .int .i64 s.1, .bool s.2, .int .i64 g.1, .int .i64 g.2.1, .int .i64 g.2.2.1, .int .u64 g.2.2.2, .slice x.A x.tl.length x.c, .slice x.B x.gl.length x.d]) x1 k1 W) ?_ ?_).mono ?_
  · exact (const_any B p (by omega) sl G xs v1 v2 v3 k hH.k0 (W3 w #[.int .i64 3, .int .i64 a, .int .i64 b, .int .i64 c, .int .u64 k, .slice VA vs.length vc, .slice WA ws.length wc, .int .i64 s.1, .bool s.2, .int .i64 g.1, .int .i64 g.2.1, .int .i64 g.2.2.1, .int .u64 g.2.2.2, .slice x.A x.tl.length x.c, .slice x.B x.gl.length x.d]) hI).mono fun e W' he => PutPost.ans hI he
  · intro x1 k1 W hq
    obtain ⟨_, hbk⟩ := hq.back
    obtain ⟨u, hm⟩ := hbk.mid
    exact hm.boxes h
  · rintro e W' ⟨x1, k1, rfl, W1, hq, l, hl, rfl⟩
    rcases hq with ⟨q1, rfl, rfl, hbk⟩ | ⟨q1, q2, rfl, rfl, hbk⟩ | ⟨q1, rfl, rfl, hbk⟩
    · obtain ⟨u, hm⟩ := hbk.mid
      obtain ⟨f1, f2, f3⟩ := hm.fin h l hl (World.ownsRow_nil _ _ _ _ : W1.ownsRow w.heap.size 3 1 nilS 0 (nCells []))
      exact ⟨0, none, 0, 0, [], _, sl, G, xs, _, _, _, rfl, f1, f2, f3, rfl, .inl ⟨by rw [hw]; exact q1, rfl, rfl, hw.symm, rfl, rfl, rfl⟩⟩
    · exfalso
      have hg : G.length ≤ 65536 := hGl
      omega
    · obtain ⟨u, hm⟩ := hbk.mid
      obtain ⟨f1, f2, f3⟩ := hm.fin h l hl (World.ownsRow_nil _ _ _ _ : W1.ownsRow w.heap.size 3 1 nilS 0 (nCells []))
      exact ⟨_, none, 0, 0, [], 0, sl, _, xs, _, _, _, rfl, f1, f2, f3, rfl, .inr (.inr ⟨hw.trans q1, rfl, .inr (.inr (.inr (.inl ⟨rfl, rfl, rfl, rfl, rfl, rfl⟩)))⟩)⟩
set_option maxHeartbeats 1000000 in
set_option maxRecDepth 100000 in
theorem play_4 (B p : Nat) (hp : 1 < p) (sl : List Slo) (G : List Gat) (xs : List Exi) (v1 v2 v3 : Value) (a b c k : Int) (vs ws : List Int) (s : Slo) (g : Gat) (x : Exi) (VA WA : Option Addr) (vc wc : Nat) (w : World) (h : IsB B p sl G xs v1 v2 v3 w) (_hH : HoldsA w B vs ws g x k VA WA vc) :
    Calls Tryz.prog 9 #[.pointer (some ⟨B, 0, none⟩), .agg #[.int .i64 4, .int .i64 a, .int .i64 b, .int .i64 c, .int .u64 k, .slice VA vs.length vc, .slice WA ws.length wc, .int .i64 s.1, .bool s.2, .int .i64 g.1, .int .i64 g.2.1, .int .i64 g.2.2.1, .int .u64 g.2.2.2, .slice x.A x.tl.length x.c, .slice x.B x.gl.length x.d]] w (DoPost p 4 a b c k vs ws s g x B sl G xs v1 v2 v3 w) := by
  obtain ⟨_, _, _, hz, hb⟩ := w3_facts w #[.int .i64 4, .int .i64 a, .int .i64 b, .int .i64 c, .int .u64 k, .slice VA vs.length vc, .slice WA ws.length wc, .int .i64 s.1, .bool s.2, .int .i64 g.1, .int .i64 g.2.1, .int .i64 g.2.2.1, .int .u64 g.2.2.2, .slice x.A x.tl.length x.c, .slice x.B x.gl.length x.d]
  have hI := h.below hb
  have hw : wrongN p sl.length G.length xs.length 4 a b c k vs ws s g x = placesErr G.length [a] := rfl
  refine (do_4 ⟨B, 0, none⟩ a b c k vs ws s g x VA WA vc wc w (fun x1 k1 W => AnsI (placesErr G.length [a]) (2) (G ++ notL G.length a.toNat) (G.length + 1) B p sl G xs v1 v2 v3 (W3 w #[.int .i64 4, .int .i64 a, .int .i64 b, .int .i64 c, .int .u64 k, .slice VA vs.length vc, .slice WA ws.length wc, .int .i64 s.1, .bool s.2, .int .i64 g.1, .int .i64 g.2.1, .int .i64 g.2.2.1, .int .u64 g.2.2.2, .slice x.A x.tl.length x.c, .slice x.B x.gl.length x.d]) x1 k1 W) ?_ ?_).mono ?_
  · exact (not_ans B p hp sl G xs v1 v2 v3 a (W3 w #[.int .i64 4, .int .i64 a, .int .i64 b, .int .i64 c, .int .u64 k, .slice VA vs.length vc, .slice WA ws.length wc, .int .i64 s.1, .bool s.2, .int .i64 g.1, .int .i64 g.2.1, .int .i64 g.2.2.1, .int .u64 g.2.2.2, .slice x.A x.tl.length x.c, .slice x.B x.gl.length x.d]) hI).mono fun e W' ⟨x1, k1, e1, e2⟩ => ⟨x1, k1, e1, e2.shape, e2⟩
  · intro x1 k1 W hq
    obtain ⟨_, hbk⟩ := hq.back
    obtain ⟨u, hm⟩ := hbk.mid
    exact hm.boxes h
  · rintro e W' ⟨x1, k1, rfl, W1, hq, l, hl, rfl⟩
    rcases hq with ⟨q1, rfl, rfl, hbk⟩ | ⟨q1, q2, rfl, rfl, hbk⟩ | ⟨q1, rfl, rfl, hbk⟩
    · obtain ⟨u, hm⟩ := hbk.mid
      obtain ⟨f1, f2, f3⟩ := hm.fin h l hl (World.ownsRow_nil _ _ _ _ : W1.ownsRow w.heap.size 3 1 nilS 0 (nCells []))
      exact ⟨0, none, 0, 0, [], _, sl, G, xs, _, _, _, rfl, f1, f2, f3, rfl, .inl ⟨by rw [hw]; exact q1, rfl, rfl, hw.symm, rfl, rfl, rfl⟩⟩
    · obtain ⟨u, hm⟩ := hbk.mid
      obtain ⟨f1, f2, f3⟩ := hm.fin h l hl (World.ownsRow_nil _ _ _ _ : W1.ownsRow w.heap.size 3 1 nilS 0 (nCells []))
      exact ⟨0, none, 0, 0, [], 3, sl, G, xs, _, _, _, rfl, f1, f2, f3, rfl, .inr (.inl ⟨hw.trans q1, by decide, by show 65536 < G.length + 16; omega, rfl, rfl, rfl, rfl, rfl, rfl⟩)⟩
    · obtain ⟨u, hm⟩ := hbk.mid
      obtain ⟨f1, f2, f3⟩ := hm.fin h l hl (World.ownsRow_nil _ _ _ _ : W1.ownsRow w.heap.size 3 1 nilS 0 (nCells []))
      exact ⟨_, none, 0, 0, [], 0, sl, _, xs, _, _, _, rfl, f1, f2, f3, rfl, .inr (.inr ⟨hw.trans q1, rfl, .inr (.inr (.inr (.inr ⟨by decide, rfl, rfl, rfl, rfl, rfl⟩)))⟩)⟩
set_option maxHeartbeats 1000000 in
set_option maxRecDepth 100000 in
theorem play_5 (B p : Nat) (hp : 1 < p) (sl : List Slo) (G : List Gat) (xs : List Exi) (v1 v2 v3 : Value) (a b c k : Int) (vs ws : List Int) (s : Slo) (g : Gat) (x : Exi) (VA WA : Option Addr) (vc wc : Nat) (w : World) (h : IsB B p sl G xs v1 v2 v3 w) (_hH : HoldsA w B vs ws g x k VA WA vc) :
    Calls Tryz.prog 9 #[.pointer (some ⟨B, 0, none⟩), .agg #[.int .i64 5, .int .i64 a, .int .i64 b, .int .i64 c, .int .u64 k, .slice VA vs.length vc, .slice WA ws.length wc, .int .i64 s.1, .bool s.2, .int .i64 g.1, .int .i64 g.2.1, .int .i64 g.2.2.1, .int .u64 g.2.2.2, .slice x.A x.tl.length x.c, .slice x.B x.gl.length x.d]] w (DoPost p 5 a b c k vs ws s g x B sl G xs v1 v2 v3 w) := by
  obtain ⟨_, _, _, hz, hb⟩ := w3_facts w #[.int .i64 5, .int .i64 a, .int .i64 b, .int .i64 c, .int .u64 k, .slice VA vs.length vc, .slice WA ws.length wc, .int .i64 s.1, .bool s.2, .int .i64 g.1, .int .i64 g.2.1, .int .i64 g.2.2.1, .int .u64 g.2.2.2, .slice x.A x.tl.length x.c, .slice x.B x.gl.length x.d]
  have hI := h.below hb
  have hw : wrongN p sl.length G.length xs.length 5 a b c k vs ws s g x = placesErr G.length [a, b] := rfl
  refine (do_5 ⟨B, 0, none⟩ a b c k vs ws s g x VA WA vc wc w (fun x1 k1 W => AnsI (placesErr G.length [a, b]) (1) (G ++ andL G.length a.toNat b.toNat) G.length B p sl G xs v1 v2 v3 (W3 w #[.int .i64 5, .int .i64 a, .int .i64 b, .int .i64 c, .int .u64 k, .slice VA vs.length vc, .slice WA ws.length wc, .int .i64 s.1, .bool s.2, .int .i64 g.1, .int .i64 g.2.1, .int .i64 g.2.2.1, .int .u64 g.2.2.2, .slice x.A x.tl.length x.c, .slice x.B x.gl.length x.d]) x1 k1 W) ?_ ?_).mono ?_
  · exact (and_ans B p hp sl G xs v1 v2 v3 a b (W3 w #[.int .i64 5, .int .i64 a, .int .i64 b, .int .i64 c, .int .u64 k, .slice VA vs.length vc, .slice WA ws.length wc, .int .i64 s.1, .bool s.2, .int .i64 g.1, .int .i64 g.2.1, .int .i64 g.2.2.1, .int .u64 g.2.2.2, .slice x.A x.tl.length x.c, .slice x.B x.gl.length x.d]) hI).mono fun e W' ⟨x1, k1, e1, e2⟩ => ⟨x1, k1, e1, e2.shape, e2⟩
  · intro x1 k1 W hq
    obtain ⟨_, hbk⟩ := hq.back
    obtain ⟨u, hm⟩ := hbk.mid
    exact hm.boxes h
  · rintro e W' ⟨x1, k1, rfl, W1, hq, l, hl, rfl⟩
    rcases hq with ⟨q1, rfl, rfl, hbk⟩ | ⟨q1, q2, rfl, rfl, hbk⟩ | ⟨q1, rfl, rfl, hbk⟩
    · obtain ⟨u, hm⟩ := hbk.mid
      obtain ⟨f1, f2, f3⟩ := hm.fin h l hl (World.ownsRow_nil _ _ _ _ : W1.ownsRow w.heap.size 3 1 nilS 0 (nCells []))
      exact ⟨0, none, 0, 0, [], _, sl, G, xs, _, _, _, rfl, f1, f2, f3, rfl, .inl ⟨by rw [hw]; exact q1, rfl, rfl, hw.symm, rfl, rfl, rfl⟩⟩
    · obtain ⟨u, hm⟩ := hbk.mid
      obtain ⟨f1, f2, f3⟩ := hm.fin h l hl (World.ownsRow_nil _ _ _ _ : W1.ownsRow w.heap.size 3 1 nilS 0 (nCells []))
      exact ⟨0, none, 0, 0, [], 3, sl, G, xs, _, _, _, rfl, f1, f2, f3, rfl, .inr (.inl ⟨hw.trans q1, by decide, by show 65536 < G.length + 16; omega, rfl, rfl, rfl, rfl, rfl, rfl⟩)⟩
    · obtain ⟨u, hm⟩ := hbk.mid
      obtain ⟨f1, f2, f3⟩ := hm.fin h l hl (World.ownsRow_nil _ _ _ _ : W1.ownsRow w.heap.size 3 1 nilS 0 (nCells []))
      exact ⟨_, none, 0, 0, [], 0, sl, _, xs, _, _, _, rfl, f1, f2, f3, rfl, .inr (.inr ⟨hw.trans q1, rfl, .inr (.inr (.inr (.inr ⟨by decide, rfl, rfl, rfl, rfl, rfl⟩)))⟩)⟩
set_option maxHeartbeats 1000000 in
set_option maxRecDepth 100000 in
theorem play_6 (B p : Nat) (hp : 1 < p) (sl : List Slo) (G : List Gat) (xs : List Exi) (v1 v2 v3 : Value) (a b c k : Int) (vs ws : List Int) (s : Slo) (g : Gat) (x : Exi) (VA WA : Option Addr) (vc wc : Nat) (w : World) (h : IsB B p sl G xs v1 v2 v3 w) (_hH : HoldsA w B vs ws g x k VA WA vc) :
    Calls Tryz.prog 9 #[.pointer (some ⟨B, 0, none⟩), .agg #[.int .i64 6, .int .i64 a, .int .i64 b, .int .i64 c, .int .u64 k, .slice VA vs.length vc, .slice WA ws.length wc, .int .i64 s.1, .bool s.2, .int .i64 g.1, .int .i64 g.2.1, .int .i64 g.2.2.1, .int .u64 g.2.2.2, .slice x.A x.tl.length x.c, .slice x.B x.gl.length x.d]] w (DoPost p 6 a b c k vs ws s g x B sl G xs v1 v2 v3 w) := by
  obtain ⟨_, _, _, hz, hb⟩ := w3_facts w #[.int .i64 6, .int .i64 a, .int .i64 b, .int .i64 c, .int .u64 k, .slice VA vs.length vc, .slice WA ws.length wc, .int .i64 s.1, .bool s.2, .int .i64 g.1, .int .i64 g.2.1, .int .i64 g.2.2.1, .int .u64 g.2.2.2, .slice x.A x.tl.length x.c, .slice x.B x.gl.length x.d]
  have hI := h.below hb
  have hw : wrongN p sl.length G.length xs.length 6 a b c k vs ws s g x = placesErr G.length [a, b] := rfl
  refine (do_6 ⟨B, 0, none⟩ a b c k vs ws s g x VA WA vc wc w (fun x1 k1 W => AnsI (placesErr G.length [a, b]) (3) (G ++ orL G.length a.toNat b.toNat) (G.length + 2) B p sl G xs v1 v2 v3 (W3 w #[.int .i64 6, .int .i64 a, .int .i64 b, .int .i64 c, .int .u64 k, .slice VA vs.length vc, .slice WA ws.length wc, .int .i64 s.1, .bool s.2, .int .i64 g.1, .int .i64 g.2.1, .int .i64 g.2.2.1, .int .u64 g.2.2.2, .slice x.A x.tl.length x.c, .slice x.B x.gl.length x.d]) x1 k1 W) ?_ ?_).mono ?_
  · exact (or_ans B p hp sl G xs v1 v2 v3 a b (W3 w #[.int .i64 6, .int .i64 a, .int .i64 b, .int .i64 c, .int .u64 k, .slice VA vs.length vc, .slice WA ws.length wc, .int .i64 s.1, .bool s.2, .int .i64 g.1, .int .i64 g.2.1, .int .i64 g.2.2.1, .int .u64 g.2.2.2, .slice x.A x.tl.length x.c, .slice x.B x.gl.length x.d]) hI).mono fun e W' ⟨x1, k1, e1, e2⟩ => ⟨x1, k1, e1, e2.shape, e2⟩
  · intro x1 k1 W hq
    obtain ⟨_, hbk⟩ := hq.back
    obtain ⟨u, hm⟩ := hbk.mid
    exact hm.boxes h
  · rintro e W' ⟨x1, k1, rfl, W1, hq, l, hl, rfl⟩
    rcases hq with ⟨q1, rfl, rfl, hbk⟩ | ⟨q1, q2, rfl, rfl, hbk⟩ | ⟨q1, rfl, rfl, hbk⟩
    · obtain ⟨u, hm⟩ := hbk.mid
      obtain ⟨f1, f2, f3⟩ := hm.fin h l hl (World.ownsRow_nil _ _ _ _ : W1.ownsRow w.heap.size 3 1 nilS 0 (nCells []))
      exact ⟨0, none, 0, 0, [], _, sl, G, xs, _, _, _, rfl, f1, f2, f3, rfl, .inl ⟨by rw [hw]; exact q1, rfl, rfl, hw.symm, rfl, rfl, rfl⟩⟩
    · obtain ⟨u, hm⟩ := hbk.mid
      obtain ⟨f1, f2, f3⟩ := hm.fin h l hl (World.ownsRow_nil _ _ _ _ : W1.ownsRow w.heap.size 3 1 nilS 0 (nCells []))
      exact ⟨0, none, 0, 0, [], 3, sl, G, xs, _, _, _, rfl, f1, f2, f3, rfl, .inr (.inl ⟨hw.trans q1, by decide, by show 65536 < G.length + 16; omega, rfl, rfl, rfl, rfl, rfl, rfl⟩)⟩
    · obtain ⟨u, hm⟩ := hbk.mid
      obtain ⟨f1, f2, f3⟩ := hm.fin h l hl (World.ownsRow_nil _ _ _ _ : W1.ownsRow w.heap.size 3 1 nilS 0 (nCells []))
      exact ⟨_, none, 0, 0, [], 0, sl, _, xs, _, _, _, rfl, f1, f2, f3, rfl, .inr (.inr ⟨hw.trans q1, rfl, .inr (.inr (.inr (.inr ⟨by decide, rfl, rfl, rfl, rfl, rfl⟩)))⟩)⟩
set_option maxHeartbeats 1000000 in
set_option maxRecDepth 100000 in
theorem play_7 (B p : Nat) (hp : 1 < p) (sl : List Slo) (G : List Gat) (xs : List Exi) (v1 v2 v3 : Value) (a b c k : Int) (vs ws : List Int) (s : Slo) (g : Gat) (x : Exi) (VA WA : Option Addr) (vc wc : Nat) (w : World) (h : IsB B p sl G xs v1 v2 v3 w) (_hH : HoldsA w B vs ws g x k VA WA vc) :
    Calls Tryz.prog 9 #[.pointer (some ⟨B, 0, none⟩), .agg #[.int .i64 7, .int .i64 a, .int .i64 b, .int .i64 c, .int .u64 k, .slice VA vs.length vc, .slice WA ws.length wc, .int .i64 s.1, .bool s.2, .int .i64 g.1, .int .i64 g.2.1, .int .i64 g.2.2.1, .int .u64 g.2.2.2, .slice x.A x.tl.length x.c, .slice x.B x.gl.length x.d]] w (DoPost p 7 a b c k vs ws s g x B sl G xs v1 v2 v3 w) := by
  obtain ⟨_, _, _, hz, hb⟩ := w3_facts w #[.int .i64 7, .int .i64 a, .int .i64 b, .int .i64 c, .int .u64 k, .slice VA vs.length vc, .slice WA ws.length wc, .int .i64 s.1, .bool s.2, .int .i64 g.1, .int .i64 g.2.1, .int .i64 g.2.2.1, .int .u64 g.2.2.2, .slice x.A x.tl.length x.c, .slice x.B x.gl.length x.d]
  have hI := h.below hb
  have hw : wrongN p sl.length G.length xs.length 7 a b c k vs ws s g x = placesErr G.length [a, b] := rfl
  refine (do_7 ⟨B, 0, none⟩ a b c k vs ws s g x VA WA vc wc w (fun x1 k1 W => AnsI (placesErr G.length [a, b]) (4) (G ++ xorL G.length a.toNat b.toNat) (G.length + 3) B p sl G xs v1 v2 v3 (W3 w #[.int .i64 7, .int .i64 a, .int .i64 b, .int .i64 c, .int .u64 k, .slice VA vs.length vc, .slice WA ws.length wc, .int .i64 s.1, .bool s.2, .int .i64 g.1, .int .i64 g.2.1, .int .i64 g.2.2.1, .int .u64 g.2.2.2, .slice x.A x.tl.length x.c, .slice x.B x.gl.length x.d]) x1 k1 W) ?_ ?_).mono ?_
  · exact (xor_ans B p hp sl G xs v1 v2 v3 a b (W3 w #[.int .i64 7, .int .i64 a, .int .i64 b, .int .i64 c, .int .u64 k, .slice VA vs.length vc, .slice WA ws.length wc, .int .i64 s.1, .bool s.2, .int .i64 g.1, .int .i64 g.2.1, .int .i64 g.2.2.1, .int .u64 g.2.2.2, .slice x.A x.tl.length x.c, .slice x.B x.gl.length x.d]) hI).mono fun e W' ⟨x1, k1, e1, e2⟩ => ⟨x1, k1, e1, e2.shape, e2⟩
  · intro x1 k1 W hq
    obtain ⟨_, hbk⟩ := hq.back
    obtain ⟨u, hm⟩ := hbk.mid
    exact hm.boxes h
  · rintro e W' ⟨x1, k1, rfl, W1, hq, l, hl, rfl⟩
    rcases hq with ⟨q1, rfl, rfl, hbk⟩ | ⟨q1, q2, rfl, rfl, hbk⟩ | ⟨q1, rfl, rfl, hbk⟩
    · obtain ⟨u, hm⟩ := hbk.mid
      obtain ⟨f1, f2, f3⟩ := hm.fin h l hl (World.ownsRow_nil _ _ _ _ : W1.ownsRow w.heap.size 3 1 nilS 0 (nCells []))
      exact ⟨0, none, 0, 0, [], _, sl, G, xs, _, _, _, rfl, f1, f2, f3, rfl, .inl ⟨by rw [hw]; exact q1, rfl, rfl, hw.symm, rfl, rfl, rfl⟩⟩
    · obtain ⟨u, hm⟩ := hbk.mid
      obtain ⟨f1, f2, f3⟩ := hm.fin h l hl (World.ownsRow_nil _ _ _ _ : W1.ownsRow w.heap.size 3 1 nilS 0 (nCells []))
      exact ⟨0, none, 0, 0, [], 3, sl, G, xs, _, _, _, rfl, f1, f2, f3, rfl, .inr (.inl ⟨hw.trans q1, by decide, by show 65536 < G.length + 16; omega, rfl, rfl, rfl, rfl, rfl, rfl⟩)⟩
    · obtain ⟨u, hm⟩ := hbk.mid
      obtain ⟨f1, f2, f3⟩ := hm.fin h l hl (World.ownsRow_nil _ _ _ _ : W1.ownsRow w.heap.size 3 1 nilS 0 (nCells []))
      exact ⟨_, none, 0, 0, [], 0, sl, _, xs, _, _, _, rfl, f1, f2, f3, rfl, .inr (.inr ⟨hw.trans q1, rfl, .inr (.inr (.inr (.inr ⟨by decide, rfl, rfl, rfl, rfl, rfl⟩)))⟩)⟩
set_option maxHeartbeats 1000000 in
set_option maxRecDepth 100000 in
theorem play_8 (B p : Nat) (hp : 1 < p) (sl : List Slo) (G : List Gat) (xs : List Exi) (v1 v2 v3 : Value) (a b c k : Int) (vs ws : List Int) (s : Slo) (g : Gat) (x : Exi) (VA WA : Option Addr) (vc wc : Nat) (w : World) (h : IsB B p sl G xs v1 v2 v3 w) (_hH : HoldsA w B vs ws g x k VA WA vc) :
    Calls Tryz.prog 9 #[.pointer (some ⟨B, 0, none⟩), .agg #[.int .i64 8, .int .i64 a, .int .i64 b, .int .i64 c, .int .u64 k, .slice VA vs.length vc, .slice WA ws.length wc, .int .i64 s.1, .bool s.2, .int .i64 g.1, .int .i64 g.2.1, .int .i64 g.2.2.1, .int .u64 g.2.2.2, .slice x.A x.tl.length x.c, .slice x.B x.gl.length x.d]] w (DoPost p 8 a b c k vs ws s g x B sl G xs v1 v2 v3 w) := by
  obtain ⟨_, _, _, hz, hb⟩ := w3_facts w #[.int .i64 8, .int .i64 a, .int .i64 b, .int .i64 c, .int .u64 k, .slice VA vs.length vc, .slice WA ws.length wc, .int .i64 s.1, .bool s.2, .int .i64 g.1, .int .i64 g.2.1, .int .i64 g.2.2.1, .int .u64 g.2.2.2, .slice x.A x.tl.length x.c, .slice x.B x.gl.length x.d]
  have hI := h.below hb
  have hw : wrongN p sl.length G.length xs.length 8 a b c k vs ws s g x = placesErr G.length [c, a, b] := rfl
  refine (do_8 ⟨B, 0, none⟩ a b c k vs ws s g x VA WA vc wc w (fun x1 k1 W => AnsI (placesErr G.length [c, a, b]) (3) (G ++ pickL G.length c.toNat a.toNat b.toNat) (G.length + 2) B p sl G xs v1 v2 v3 (W3 w #[.int .i64 8, .int .i64 a, .int .i64 b, .int .i64 c, .int .u64 k, .slice VA vs.length vc, .slice WA ws.length wc, .int .i64 s.1, .bool s.2, .int .i64 g.1, .int .i64 g.2.1, .int .i64 g.2.2.1, .int .u64 g.2.2.2, .slice x.A x.tl.length x.c, .slice x.B x.gl.length x.d]) x1 k1 W) ?_ ?_).mono ?_
  · exact (pick_ans B p hp sl G xs v1 v2 v3 c a b (W3 w #[.int .i64 8, .int .i64 a, .int .i64 b, .int .i64 c, .int .u64 k, .slice VA vs.length vc, .slice WA ws.length wc, .int .i64 s.1, .bool s.2, .int .i64 g.1, .int .i64 g.2.1, .int .i64 g.2.2.1, .int .u64 g.2.2.2, .slice x.A x.tl.length x.c, .slice x.B x.gl.length x.d]) hI).mono fun e W' ⟨x1, k1, e1, e2⟩ => ⟨x1, k1, e1, e2.shape, e2⟩
  · intro x1 k1 W hq
    obtain ⟨_, hbk⟩ := hq.back
    obtain ⟨u, hm⟩ := hbk.mid
    exact hm.boxes h
  · rintro e W' ⟨x1, k1, rfl, W1, hq, l, hl, rfl⟩
    rcases hq with ⟨q1, rfl, rfl, hbk⟩ | ⟨q1, q2, rfl, rfl, hbk⟩ | ⟨q1, rfl, rfl, hbk⟩
    · obtain ⟨u, hm⟩ := hbk.mid
      obtain ⟨f1, f2, f3⟩ := hm.fin h l hl (World.ownsRow_nil _ _ _ _ : W1.ownsRow w.heap.size 3 1 nilS 0 (nCells []))
      exact ⟨0, none, 0, 0, [], _, sl, G, xs, _, _, _, rfl, f1, f2, f3, rfl, .inl ⟨by rw [hw]; exact q1, rfl, rfl, hw.symm, rfl, rfl, rfl⟩⟩
    · obtain ⟨u, hm⟩ := hbk.mid
      obtain ⟨f1, f2, f3⟩ := hm.fin h l hl (World.ownsRow_nil _ _ _ _ : W1.ownsRow w.heap.size 3 1 nilS 0 (nCells []))
      exact ⟨0, none, 0, 0, [], 3, sl, G, xs, _, _, _, rfl, f1, f2, f3, rfl, .inr (.inl ⟨hw.trans q1, by decide, by show 65536 < G.length + 16; omega, rfl, rfl, rfl, rfl, rfl, rfl⟩)⟩
    · obtain ⟨u, hm⟩ := hbk.mid
      obtain ⟨f1, f2, f3⟩ := hm.fin h l hl (World.ownsRow_nil _ _ _ _ : W1.ownsRow w.heap.size 3 1 nilS 0 (nCells []))
      exact ⟨_, none, 0, 0, [], 0, sl, _, xs, _, _, _, rfl, f1, f2, f3, rfl, .inr (.inr ⟨hw.trans q1, rfl, .inr (.inr (.inr (.inr ⟨by decide, rfl, rfl, rfl, rfl, rfl⟩)))⟩)⟩
set_option maxHeartbeats 1000000 in
set_option maxRecDepth 100000 in
theorem play_9 (B p : Nat) (hp : 1 < p) (sl : List Slo) (G : List Gat) (xs : List Exi) (v1 v2 v3 : Value) (a b c k : Int) (vs ws : List Int) (s : Slo) (g : Gat) (x : Exi) (VA WA : Option Addr) (vc wc : Nat) (w : World) (h : IsB B p sl G xs v1 v2 v3 w) (hH : HoldsA w B vs ws g x k VA WA vc) :
    Calls Tryz.prog 9 #[.pointer (some ⟨B, 0, none⟩), .agg #[.int .i64 9, .int .i64 a, .int .i64 b, .int .i64 c, .int .u64 k, .slice VA vs.length vc, .slice WA ws.length wc, .int .i64 s.1, .bool s.2, .int .i64 g.1, .int .i64 g.2.1, .int .i64 g.2.2.1, .int .u64 g.2.2.2, .slice x.A x.tl.length x.c, .slice x.B x.gl.length x.d]] w (DoPost p 9 a b c k vs ws s g x B sl G xs v1 v2 v3 w) := by
  obtain ⟨_, _, _, hz, hb⟩ := w3_facts w #[.int .i64 9, .int .i64 a, .int .i64 b, .int .i64 c, .int .u64 k, .slice VA vs.length vc, .slice WA ws.length wc, .int .i64 s.1, .bool s.2, .int .i64 g.1, .int .i64 g.2.1, .int .i64 g.2.2.1, .int .u64 g.2.2.2, .slice x.A x.tl.length x.c, .slice x.B x.gl.length x.d]
  have hI := h.below hb
  have hw : wrongN p sl.length G.length xs.length 9 a b c k vs ws s g x = wordErr G.length vs := rfl
  refine (do_9 ⟨B, 0, none⟩ a b c k vs ws s g x VA WA vc wc w (fun x1 k1 W => AnsI (wordErr G.length vs) (1 + 2 * vs.length) (numSt G (natsOf vs).reverse).1 ((numSt G (natsOf vs).reverse).2) B p sl G xs v1 v2 v3 (W3 w #[.int .i64 9, .int .i64 a, .int .i64 b, .int .i64 c, .int .u64 k, .slice VA vs.length vc, .slice WA ws.length wc, .int .i64 s.1, .bool s.2, .int .i64 g.1, .int .i64 g.2.1, .int .i64 g.2.2.1, .int .u64 g.2.2.2, .slice x.A x.tl.length x.c, .slice x.B x.gl.length x.d]) x1 k1 W) ?_ ?_).mono ?_
  · exact (by have h5 := num_ans B p hp sl G xs v1 v2 v3 vs VA vc (W3 w #[.int .i64 9, .int .i64 a, .int .i64 b, .int .i64 c, .int .u64 k, .slice VA vs.length vc, .slice WA ws.length wc, .int .i64 s.1, .bool s.2, .int .i64 g.1, .int .i64 g.2.1, .int .i64 g.2.2.1, .int .u64 g.2.2.2, .slice x.A x.tl.length x.c, .slice x.B x.gl.length x.d]) hI (fun W v hF => (hH.V.below hb).fr hH.lV (fun q hq => (h.h2.lt q hq).1) hF); rw [wordsErr_self] at h5; exact h5.mono fun e W' ⟨x1, k1, e1, e2⟩ => ⟨x1, k1, e1, e2.shape, e2⟩)
  · intro x1 k1 W hq
    obtain ⟨_, hbk⟩ := hq.back
    obtain ⟨u, hm⟩ := hbk.mid
    exact hm.boxes h
  · rintro e W' ⟨x1, k1, rfl, W1, hq, l, hl, rfl⟩
    rcases hq with ⟨q1, rfl, rfl, hbk⟩ | ⟨q1, q2, rfl, rfl, hbk⟩ | ⟨q1, rfl, rfl, hbk⟩
    · obtain ⟨u, hm⟩ := hbk.mid
      obtain ⟨f1, f2, f3⟩ := hm.fin h l hl (World.ownsRow_nil _ _ _ _ : W1.ownsRow w.heap.size 3 1 nilS 0 (nCells []))
      exact ⟨0, none, 0, 0, [], _, sl, G, xs, _, _, _, rfl, f1, f2, f3, rfl, .inl ⟨by rw [hw]; exact q1, rfl, rfl, hw.symm, rfl, rfl, rfl⟩⟩
    · obtain ⟨u, hm⟩ := hbk.mid
      obtain ⟨f1, f2, f3⟩ := hm.fin h l hl (World.ownsRow_nil _ _ _ _ : W1.ownsRow w.heap.size 3 1 nilS 0 (nCells []))
      exact ⟨0, none, 0, 0, [], 3, sl, G, xs, _, _, _, rfl, f1, f2, f3, rfl, .inr (.inl ⟨hw.trans q1, by decide, by (have := wordErr_pos q1; show 65536 < G.length + 16 * vs.length; omega), rfl, rfl, rfl, rfl, rfl, rfl⟩)⟩
    · obtain ⟨u, hm⟩ := hbk.mid
      obtain ⟨f1, f2, f3⟩ := hm.fin h l hl (World.ownsRow_nil _ _ _ _ : W1.ownsRow w.heap.size 3 1 nilS 0 (nCells []))
      exact ⟨_, none, 0, 0, [], 0, sl, _, xs, _, _, _, rfl, f1, f2, f3, rfl, .inr (.inr ⟨hw.trans q1, rfl, .inr (.inr (.inr (.inr ⟨by decide, rfl, rfl, rfl, rfl, rfl⟩)))⟩)⟩
set_option maxHeartbeats 1000000 in
set_option maxRecDepth 100000 in
theorem play_10 (B p : Nat) (hp : 1 < p) (sl : List Slo) (G : List Gat) (xs : List Exi) (v1 v2 v3 : Value) (a b c k : Int) (vs ws : List Int) (s : Slo) (g : Gat) (x : Exi) (VA WA : Option Addr) (vc wc : Nat) (w : World) (h : IsB B p sl G xs v1 v2 v3 w) (hH : HoldsA w B vs ws g x k VA WA vc) :
    Calls Tryz.prog 9 #[.pointer (some ⟨B, 0, none⟩), .agg #[.int .i64 10, .int .i64 a, .int .i64 b, .int .i64 c, .int .u64 k, .slice VA vs.length vc, .slice WA ws.length wc, .int .i64 s.1, .bool s.2, .int .i64 g.1, .int .i64 g.2.1, .int .i64 g.2.2.1, .int .u64 g.2.2.2, .slice x.A x.tl.length x.c, .slice x.B x.gl.length x.d]] w (DoPost p 10 a b c k vs ws s g x B sl G xs v1 v2 v3 w) := by
  obtain ⟨_, _, _, hz, hb⟩ := w3_facts w #[.int .i64 10, .int .i64 a, .int .i64 b, .int .i64 c, .int .u64 k, .slice VA vs.length vc, .slice WA ws.length wc, .int .i64 s.1, .bool s.2, .int .i64 g.1, .int .i64 g.2.1, .int .i64 g.2.2.1, .int .u64 g.2.2.2, .slice x.A x.tl.length x.c, .slice x.B x.gl.length x.d]
  have hI := h.below hb
  have hw : wrongN p sl.length G.length xs.length 10 a b c k vs ws s g x = wordsErr G.length vs ws := rfl
  refine (do_10 ⟨B, 0, none⟩ a b c k vs ws s g x VA WA vc wc w (fun x1 k1 W => AnsW (wordsErr G.length vs ws) (1 + 9 * vs.length) (plusSt G (natsOf vs) (natsOf ws)).1 vs.length (plusSt G (natsOf vs) (natsOf ws)).2.1 B p sl G xs v1 v2 v3 (W3 w #[.int .i64 10, .int .i64 a, .int .i64 b, .int .i64 c, .int .u64 k, .slice VA vs.length vc, .slice WA ws.length wc, .int .i64 s.1, .bool s.2, .int .i64 g.1, .int .i64 g.2.1, .int .i64 g.2.2.1, .int .u64 g.2.2.2, .slice x.A x.tl.length x.c, .slice x.B x.gl.length x.d]) x1 k1 W) ?_ ?_).mono ?_
  · exact (plus_ans B p hp sl G xs v1 v2 v3 vs ws VA WA vc wc (W3 w #[.int .i64 10, .int .i64 a, .int .i64 b, .int .i64 c, .int .u64 k, .slice VA vs.length vc, .slice WA ws.length wc, .int .i64 s.1, .bool s.2, .int .i64 g.1, .int .i64 g.2.1, .int .i64 g.2.2.1, .int .u64 g.2.2.2, .slice x.A x.tl.length x.c, .slice x.B x.gl.length x.d]) hI (fun W v hF => (hH.V.below hb).fr hH.lV (fun q hq => (h.h2.lt q hq).1) hF) (fun W v hF => (hH.W.below hb).fr hH.lW (fun q hq => (h.h2.lt q hq).1) hF)).mono fun e W' ⟨x1, k1, e1, e2⟩ => ⟨x1, k1, e1, e2.shape, e2⟩
  · intro x1 k1 W hq
    obtain ⟨_, hbk⟩ := hq.back
    obtain ⟨u, hm⟩ := hbk.mid
    exact hm.boxes h
  · rintro e W' ⟨x1, k1, rfl, W1, hq, l, hl, rfl⟩
    rcases hq with ⟨q1, rfl, rfl, hbk⟩ | ⟨q1, q2, rfl, rfl, hbk⟩ | ⟨q1, rfl, hbk, hr⟩
    · obtain ⟨u, hm⟩ := hbk.mid
      obtain ⟨f1, f2, f3⟩ := hm.fin h l hl (World.ownsRow_nil _ _ _ _ : W1.ownsRow w.heap.size 3 1 nilS 0 (nCells []))
      exact ⟨0, none, 0, 0, [], _, sl, G, xs, _, _, _, rfl, f1, f2, f3, rfl, .inl ⟨by rw [hw]; exact q1, rfl, rfl, hw.symm, rfl, rfl, rfl⟩⟩
    · obtain ⟨u, hm⟩ := hbk.mid
      obtain ⟨f1, f2, f3⟩ := hm.fin h l hl (World.ownsRow_nil _ _ _ _ : W1.ownsRow w.heap.size 3 1 nilS 0 (nCells []))
      exact ⟨0, none, 0, 0, [], 3, sl, G, xs, _, _, _, rfl, f1, f2, f3, rfl, .inr (.inl ⟨hw.trans q1, by decide, by (obtain ⟨_, t2, _⟩ := wordsErr_zero q1; show 65536 < G.length + 16 * vs.length; omega), rfl, rfl, rfl, rfl, rfl, rfl⟩)⟩
    · obtain ⟨u, hm⟩ := hbk.mid
      obtain ⟨A1, cc, rfl, _⟩ := own_reads hr
      obtain ⟨f1, f2, f3⟩ := hm.fin h l hl (own_lower hr (by omega))
      exact ⟨0, _, _, _, _, 0, sl, _, xs, _, _, _, rfl, f1, f2, f3, by have := f3.1; simpa [nCells] using this, .inr (.inr ⟨hw.trans q1, rfl, .inr (.inr (.inr (.inr ⟨by decide, rfl, rfl, rfl, rfl, rfl⟩)))⟩)⟩
set_option maxHeartbeats 1000000 in
set_option maxRecDepth 100000 in
theorem play_11 (B p : Nat) (hp : 1 < p) (sl : List Slo) (G : List Gat) (xs : List Exi) (v1 v2 v3 : Value) (a b c k : Int) (vs ws : List Int) (s : Slo) (g : Gat) (x : Exi) (VA WA : Option Addr) (vc wc : Nat) (w : World) (h : IsB B p sl G xs v1 v2 v3 w) (hH : HoldsA w B vs ws g x k VA WA vc) :
    Calls Tryz.prog 9 #[.pointer (some ⟨B, 0, none⟩), .agg #[.int .i64 11, .int .i64 a, .int .i64 b, .int .i64 c, .int .u64 k, .slice VA vs.length vc, .slice WA ws.length wc, .int .i64 s.1, .bool s.2, .int .i64 g.1, .int .i64 g.2.1, .int .i64 g.2.2.1, .int .u64 g.2.2.2, .slice x.A x.tl.length x.c, .slice x.B x.gl.length x.d]] w (DoPost p 11 a b c k vs ws s g x B sl G xs v1 v2 v3 w) := by
  obtain ⟨_, _, _, hz, hb⟩ := w3_facts w #[.int .i64 11, .int .i64 a, .int .i64 b, .int .i64 c, .int .u64 k, .slice VA vs.length vc, .slice WA ws.length wc, .int .i64 s.1, .bool s.2, .int .i64 g.1, .int .i64 g.2.1, .int .i64 g.2.2.1, .int .u64 g.2.2.2, .slice x.A x.tl.length x.c, .slice x.B x.gl.length x.d]
  have hI := h.below hb
  have hw : wrongN p sl.length G.length xs.length 11 a b c k vs ws s g x = wordsErr G.length vs ws := rfl
  refine (do_11 ⟨B, 0, none⟩ a b c k vs ws s g x VA WA vc wc w (fun x1 k1 W => AnsW (wordsErr G.length vs ws) (1 + 11 * vs.length) (minusSt G (natsOf vs) (natsOf ws)).1 vs.length (minusSt G (natsOf vs) (natsOf ws)).2.1 B p sl G xs v1 v2 v3 (W3 w #[.int .i64 11, .int .i64 a, .int .i64 b, .int .i64 c, .int .u64 k, .slice VA vs.length vc, .slice WA ws.length wc, .int .i64 s.1, .bool s.2, .int .i64 g.1, .int .i64 g.2.1, .int .i64 g.2.2.1, .int .u64 g.2.2.2, .slice x.A x.tl.length x.c, .slice x.B x.gl.length x.d]) x1 k1 W) ?_ ?_).mono ?_
  · exact (minus_ans B p hp sl G xs v1 v2 v3 vs ws VA WA vc wc (W3 w #[.int .i64 11, .int .i64 a, .int .i64 b, .int .i64 c, .int .u64 k, .slice VA vs.length vc, .slice WA ws.length wc, .int .i64 s.1, .bool s.2, .int .i64 g.1, .int .i64 g.2.1, .int .i64 g.2.2.1, .int .u64 g.2.2.2, .slice x.A x.tl.length x.c, .slice x.B x.gl.length x.d]) hI (fun W v hF => (hH.V.below hb).fr hH.lV (fun q hq => (h.h2.lt q hq).1) hF) (fun W v hF => (hH.W.below hb).fr hH.lW (fun q hq => (h.h2.lt q hq).1) hF)).mono fun e W' ⟨x1, k1, e1, e2⟩ => ⟨x1, k1, e1, e2.shape, e2⟩
  · intro x1 k1 W hq
    obtain ⟨_, hbk⟩ := hq.back
    obtain ⟨u, hm⟩ := hbk.mid
    exact hm.boxes h
  · rintro e W' ⟨x1, k1, rfl, W1, hq, l, hl, rfl⟩
    rcases hq with ⟨q1, rfl, rfl, hbk⟩ | ⟨q1, q2, rfl, rfl, hbk⟩ | ⟨q1, rfl, hbk, hr⟩
    · obtain ⟨u, hm⟩ := hbk.mid
      obtain ⟨f1, f2, f3⟩ := hm.fin h l hl (World.ownsRow_nil _ _ _ _ : W1.ownsRow w.heap.size 3 1 nilS 0 (nCells []))
      exact ⟨0, none, 0, 0, [], _, sl, G, xs, _, _, _, rfl, f1, f2, f3, rfl, .inl ⟨by rw [hw]; exact q1, rfl, rfl, hw.symm, rfl, rfl, rfl⟩⟩
    · obtain ⟨u, hm⟩ := hbk.mid
      obtain ⟨f1, f2, f3⟩ := hm.fin h l hl (World.ownsRow_nil _ _ _ _ : W1.ownsRow w.heap.size 3 1 nilS 0 (nCells []))
      exact ⟨0, none, 0, 0, [], 3, sl, G, xs, _, _, _, rfl, f1, f2, f3, rfl, .inr (.inl ⟨hw.trans q1, by decide, by (obtain ⟨_, t2, _⟩ := wordsErr_zero q1; show 65536 < G.length + 16 * vs.length; omega), rfl, rfl, rfl, rfl, rfl, rfl⟩)⟩
    · obtain ⟨u, hm⟩ := hbk.mid
      obtain ⟨A1, cc, rfl, _⟩ := own_reads hr
      obtain ⟨f1, f2, f3⟩ := hm.fin h l hl (own_lower hr (by omega))
      exact ⟨0, _, _, _, _, 0, sl, _, xs, _, _, _, rfl, f1, f2, f3, by have := f3.1; simpa [nCells] using this, .inr (.inr ⟨hw.trans q1, rfl, .inr (.inr (.inr (.inr ⟨by decide, rfl, rfl, rfl, rfl, rfl⟩)))⟩)⟩
set_option maxHeartbeats 1000000 in
set_option maxRecDepth 100000 in
theorem play_12 (B p : Nat) (hp : 1 < p) (sl : List Slo) (G : List Gat) (xs : List Exi) (v1 v2 v3 : Value) (a b c k : Int) (vs ws : List Int) (s : Slo) (g : Gat) (x : Exi) (VA WA : Option Addr) (vc wc : Nat) (w : World) (h : IsB B p sl G xs v1 v2 v3 w) (hH : HoldsA w B vs ws g x k VA WA vc) :
    Calls Tryz.prog 9 #[.pointer (some ⟨B, 0, none⟩), .agg #[.int .i64 12, .int .i64 a, .int .i64 b, .int .i64 c, .int .u64 k, .slice VA vs.length vc, .slice WA ws.length wc, .int .i64 s.1, .bool s.2, .int .i64 g.1, .int .i64 g.2.1, .int .i64 g.2.2.1, .int .u64 g.2.2.2, .slice x.A x.tl.length x.c, .slice x.B x.gl.length x.d]] w (DoPost p 12 a b c k vs ws s g x B sl G xs v1 v2 v3 w) := by
  obtain ⟨_, _, _, hz, hb⟩ := w3_facts w #[.int .i64 12, .int .i64 a, .int .i64 b, .int .i64 c, .int .u64 k, .slice VA vs.length vc, .slice WA ws.length wc, .int .i64 s.1, .bool s.2, .int .i64 g.1, .int .i64 g.2.1, .int .i64 g.2.2.1, .int .u64 g.2.2.2, .slice x.A x.tl.length x.c, .slice x.B x.gl.length x.d]
  have hI := h.below hb
  have hw : wrongN p sl.length G.length xs.length 12 a b c k vs ws s g x = wordsErr G.length vs ws := rfl
  refine (do_12 ⟨B, 0, none⟩ a b c k vs ws s g x VA WA vc wc w (fun x1 k1 W => AnsW (wordsErr G.length vs ws) (vs.length * (10 * vs.length + 1)) (timesSt G (natsOf vs) (natsOf ws) vs.length).1 vs.length (timesSt G (natsOf vs) (natsOf ws) vs.length).2 B p sl G xs v1 v2 v3 (W3 w #[.int .i64 12, .int .i64 a, .int .i64 b, .int .i64 c, .int .u64 k, .slice VA vs.length vc, .slice WA ws.length wc, .int .i64 s.1, .bool s.2, .int .i64 g.1, .int .i64 g.2.1, .int .i64 g.2.2.1, .int .u64 g.2.2.2, .slice x.A x.tl.length x.c, .slice x.B x.gl.length x.d]) x1 k1 W) ?_ ?_).mono ?_
  · exact (times_ans B p hp sl G xs v1 v2 v3 vs ws VA WA vc wc hH.cV (W3 w #[.int .i64 12, .int .i64 a, .int .i64 b, .int .i64 c, .int .u64 k, .slice VA vs.length vc, .slice WA ws.length wc, .int .i64 s.1, .bool s.2, .int .i64 g.1, .int .i64 g.2.1, .int .i64 g.2.2.1, .int .u64 g.2.2.2, .slice x.A x.tl.length x.c, .slice x.B x.gl.length x.d]) hI (fun W v hF => (hH.V.below hb).fr hH.lV (fun q hq => (h.h2.lt q hq).1) hF) (fun W v hF => (hH.W.below hb).fr hH.lW (fun q hq => (h.h2.lt q hq).1) hF)).mono fun e W' ⟨x1, k1, e1, e2⟩ => ⟨x1, k1, e1, e2.shape, e2⟩
  · intro x1 k1 W hq
    obtain ⟨_, hbk⟩ := hq.back
    obtain ⟨u, hm⟩ := hbk.mid
    exact hm.boxes h
  · rintro e W' ⟨x1, k1, rfl, W1, hq, l, hl, rfl⟩
    rcases hq with ⟨q1, rfl, rfl, hbk⟩ | ⟨q1, q2, rfl, rfl, hbk⟩ | ⟨q1, rfl, hbk, hr⟩
    · obtain ⟨u, hm⟩ := hbk.mid
      obtain ⟨f1, f2, f3⟩ := hm.fin h l hl (World.ownsRow_nil _ _ _ _ : W1.ownsRow w.heap.size 3 1 nilS 0 (nCells []))
      exact ⟨0, none, 0, 0, [], _, sl, G, xs, _, _, _, rfl, f1, f2, f3, rfl, .inl ⟨by rw [hw]; exact q1, rfl, rfl, hw.symm, rfl, rfl, rfl⟩⟩
    · obtain ⟨u, hm⟩ := hbk.mid
      obtain ⟨f1, f2, f3⟩ := hm.fin h l hl (World.ownsRow_nil _ _ _ _ : W1.ownsRow w.heap.size 3 1 nilS 0 (nCells []))
      exact ⟨0, none, 0, 0, [], 3, sl, G, xs, _, _, _, rfl, f1, f2, f3, rfl, .inr (.inl ⟨hw.trans q1, by decide, by (obtain ⟨_, t2, _⟩ := wordsErr_zero q1; show 65536 < G.length + 16 * vs.length * vs.length; have h1 : vs.length * (10 * vs.length + 1) = 10 * (vs.length * vs.length) + vs.length := (by rw [Nat.mul_add, Nat.mul_one, Nat.mul_left_comm]); have h2 : vs.length ≤ vs.length * vs.length := Nat.le_mul_of_pos_right _ t2; rw [Nat.mul_assoc]; omega), rfl, rfl, rfl, rfl, rfl, rfl⟩)⟩
    · obtain ⟨u, hm⟩ := hbk.mid
      obtain ⟨A1, cc, rfl, _⟩ := own_reads hr
      obtain ⟨f1, f2, f3⟩ := hm.fin h l hl (own_lower hr (by omega))
      exact ⟨0, _, _, _, _, 0, sl, _, xs, _, _, _, rfl, f1, f2, f3, by have := f3.1; simpa [nCells] using this, .inr (.inr ⟨hw.trans q1, rfl, .inr (.inr (.inr (.inr ⟨by decide, rfl, rfl, rfl, rfl, rfl⟩)))⟩)⟩
set_option maxHeartbeats 1000000 in
set_option maxRecDepth 100000 in
theorem play_13 (B p : Nat) (hp : 1 < p) (sl : List Slo) (G : List Gat) (xs : List Exi) (v1 v2 v3 : Value) (a b c k : Int) (vs ws : List Int) (s : Slo) (g : Gat) (x : Exi) (VA WA : Option Addr) (vc wc : Nat) (w : World) (h : IsB B p sl G xs v1 v2 v3 w) (hH : HoldsA w B vs ws g x k VA WA vc) :
    Calls Tryz.prog 9 #[.pointer (some ⟨B, 0, none⟩), .agg #[.int .i64 13, .int .i64 a, .int .i64 b, .int .i64 c, .int .u64 k, .slice VA vs.length vc, .slice WA ws.length wc, .int .i64 s.1, .bool s.2, .int .i64 g.1, .int .i64 g.2.1, .int .i64 g.2.2.1, .int .u64 g.2.2.2, .slice x.A x.tl.length x.c, .slice x.B x.gl.length x.d]] w (DoPost p 13 a b c k vs ws s g x B sl G xs v1 v2 v3 w) := by
  obtain ⟨_, _, _, hz, hb⟩ := w3_facts w #[.int .i64 13, .int .i64 a, .int .i64 b, .int .i64 c, .int .u64 k, .slice VA vs.length vc, .slice WA ws.length wc, .int .i64 s.1, .bool s.2, .int .i64 g.1, .int .i64 g.2.1, .int .i64 g.2.2.1, .int .u64 g.2.2.2, .slice x.A x.tl.length x.c, .slice x.B x.gl.length x.d]
  have hI := h.below hb
  have hw : wrongN p sl.length G.length xs.length 13 a b c k vs ws s g x = wordsErr G.length vs ws := rfl
  refine (do_13 ⟨B, 0, none⟩ a b c k vs ws s g x VA WA vc wc w (fun x1 k1 W => AnsI (wordsErr G.length vs ws) (1 + 7 * vs.length) (sameSt G ((natsOf vs).zip (natsOf ws))).1 ((sameSt G ((natsOf vs).zip (natsOf ws))).2) B p sl G xs v1 v2 v3 (W3 w #[.int .i64 13, .int .i64 a, .int .i64 b, .int .i64 c, .int .u64 k, .slice VA vs.length vc, .slice WA ws.length wc, .int .i64 s.1, .bool s.2, .int .i64 g.1, .int .i64 g.2.1, .int .i64 g.2.2.1, .int .u64 g.2.2.2, .slice x.A x.tl.length x.c, .slice x.B x.gl.length x.d]) x1 k1 W) ?_ ?_).mono ?_
  · exact (same_ans B p hp sl G xs v1 v2 v3 vs ws VA WA vc wc (W3 w #[.int .i64 13, .int .i64 a, .int .i64 b, .int .i64 c, .int .u64 k, .slice VA vs.length vc, .slice WA ws.length wc, .int .i64 s.1, .bool s.2, .int .i64 g.1, .int .i64 g.2.1, .int .i64 g.2.2.1, .int .u64 g.2.2.2, .slice x.A x.tl.length x.c, .slice x.B x.gl.length x.d]) hI (fun W v hF => (hH.V.below hb).fr hH.lV (fun q hq => (h.h2.lt q hq).1) hF) (fun W v hF => (hH.W.below hb).fr hH.lW (fun q hq => (h.h2.lt q hq).1) hF)).mono fun e W' ⟨x1, k1, e1, e2⟩ => ⟨x1, k1, e1, e2.shape, e2⟩
  · intro x1 k1 W hq
    obtain ⟨_, hbk⟩ := hq.back
    obtain ⟨u, hm⟩ := hbk.mid
    exact hm.boxes h
  · rintro e W' ⟨x1, k1, rfl, W1, hq, l, hl, rfl⟩
    rcases hq with ⟨q1, rfl, rfl, hbk⟩ | ⟨q1, q2, rfl, rfl, hbk⟩ | ⟨q1, rfl, rfl, hbk⟩
    · obtain ⟨u, hm⟩ := hbk.mid
      obtain ⟨f1, f2, f3⟩ := hm.fin h l hl (World.ownsRow_nil _ _ _ _ : W1.ownsRow w.heap.size 3 1 nilS 0 (nCells []))
      exact ⟨0, none, 0, 0, [], _, sl, G, xs, _, _, _, rfl, f1, f2, f3, rfl, .inl ⟨by rw [hw]; exact q1, rfl, rfl, hw.symm, rfl, rfl, rfl⟩⟩
    · obtain ⟨u, hm⟩ := hbk.mid
      obtain ⟨f1, f2, f3⟩ := hm.fin h l hl (World.ownsRow_nil _ _ _ _ : W1.ownsRow w.heap.size 3 1 nilS 0 (nCells []))
      exact ⟨0, none, 0, 0, [], 3, sl, G, xs, _, _, _, rfl, f1, f2, f3, rfl, .inr (.inl ⟨hw.trans q1, by decide, by (obtain ⟨_, t2, _⟩ := wordsErr_zero q1; show 65536 < G.length + 16 * vs.length; omega), rfl, rfl, rfl, rfl, rfl, rfl⟩)⟩
    · obtain ⟨u, hm⟩ := hbk.mid
      obtain ⟨f1, f2, f3⟩ := hm.fin h l hl (World.ownsRow_nil _ _ _ _ : W1.ownsRow w.heap.size 3 1 nilS 0 (nCells []))
      exact ⟨_, none, 0, 0, [], 0, sl, _, xs, _, _, _, rfl, f1, f2, f3, rfl, .inr (.inr ⟨hw.trans q1, rfl, .inr (.inr (.inr (.inr ⟨by decide, rfl, rfl, rfl, rfl, rfl⟩)))⟩)⟩
set_option maxHeartbeats 1000000 in
set_option maxRecDepth 100000 in
theorem play_14 (B p : Nat) (hp : 1 < p) (sl : List Slo) (G : List Gat) (xs : List Exi) (v1 v2 v3 : Value) (a b c k : Int) (vs ws : List Int) (s : Slo) (g : Gat) (x : Exi) (VA WA : Option Addr) (vc wc : Nat) (w : World) (h : IsB B p sl G xs v1 v2 v3 w) (hH : HoldsA w B vs ws g x k VA WA vc) :
    Calls Tryz.prog 9 #[.pointer (some ⟨B, 0, none⟩), .agg #[.int .i64 14, .int .i64 a, .int .i64 b, .int .i64 c, .int .u64 k, .slice VA vs.length vc, .slice WA ws.length wc, .int .i64 s.1, .bool s.2, .int .i64 g.1, .int .i64 g.2.1, .int .i64 g.2.2.1, .int .u64 g.2.2.2, .slice x.A x.tl.length x.c, .slice x.B x.gl.length x.d]] w (DoPost p 14 a b c k vs ws s g x B sl G xs v1 v2 v3 w) := by
  obtain ⟨_, _, _, hz, hb⟩ := w3_facts w #[.int .i64 14, .int .i64 a, .int .i64 b, .int .i64 c, .int .u64 k, .slice VA vs.length vc, .slice WA ws.length wc, .int .i64 s.1, .bool s.2, .int .i64 g.1, .int .i64 g.2.1, .int .i64 g.2.2.1, .int .u64 g.2.2.2, .slice x.A x.tl.length x.c, .slice x.B x.gl.length x.d]
  have hI := h.below hb
  have hw : wrongN p sl.length G.length xs.length 14 a b c k vs ws s g x = wordsErr G.length vs ws := rfl
  refine (do_14 ⟨B, 0, none⟩ a b c k vs ws s g x VA WA vc wc w (fun x1 k1 W => AnsI (wordsErr G.length vs ws) (3 + 11 * vs.length) (belowSt G (natsOf vs) (natsOf ws)).1 ((belowSt G (natsOf vs) (natsOf ws)).2) B p sl G xs v1 v2 v3 (W3 w #[.int .i64 14, .int .i64 a, .int .i64 b, .int .i64 c, .int .u64 k, .slice VA vs.length vc, .slice WA ws.length wc, .int .i64 s.1, .bool s.2, .int .i64 g.1, .int .i64 g.2.1, .int .i64 g.2.2.1, .int .u64 g.2.2.2, .slice x.A x.tl.length x.c, .slice x.B x.gl.length x.d]) x1 k1 W) ?_ ?_).mono ?_
  · exact (less_ans B p hp sl G xs v1 v2 v3 vs ws VA WA vc wc (W3 w #[.int .i64 14, .int .i64 a, .int .i64 b, .int .i64 c, .int .u64 k, .slice VA vs.length vc, .slice WA ws.length wc, .int .i64 s.1, .bool s.2, .int .i64 g.1, .int .i64 g.2.1, .int .i64 g.2.2.1, .int .u64 g.2.2.2, .slice x.A x.tl.length x.c, .slice x.B x.gl.length x.d]) hI (fun W v hF => (hH.V.below hb).fr hH.lV (fun q hq => (h.h2.lt q hq).1) hF) (fun W v hF => (hH.W.below hb).fr hH.lW (fun q hq => (h.h2.lt q hq).1) hF)).mono fun e W' ⟨x1, k1, e1, e2⟩ => ⟨x1, k1, e1, e2.shape, e2⟩
  · intro x1 k1 W hq
    obtain ⟨_, hbk⟩ := hq.back
    obtain ⟨u, hm⟩ := hbk.mid
    exact hm.boxes h
  · rintro e W' ⟨x1, k1, rfl, W1, hq, l, hl, rfl⟩
    rcases hq with ⟨q1, rfl, rfl, hbk⟩ | ⟨q1, q2, rfl, rfl, hbk⟩ | ⟨q1, rfl, rfl, hbk⟩
    · obtain ⟨u, hm⟩ := hbk.mid
      obtain ⟨f1, f2, f3⟩ := hm.fin h l hl (World.ownsRow_nil _ _ _ _ : W1.ownsRow w.heap.size 3 1 nilS 0 (nCells []))
      exact ⟨0, none, 0, 0, [], _, sl, G, xs, _, _, _, rfl, f1, f2, f3, rfl, .inl ⟨by rw [hw]; exact q1, rfl, rfl, hw.symm, rfl, rfl, rfl⟩⟩
    · obtain ⟨u, hm⟩ := hbk.mid
      obtain ⟨f1, f2, f3⟩ := hm.fin h l hl (World.ownsRow_nil _ _ _ _ : W1.ownsRow w.heap.size 3 1 nilS 0 (nCells []))
      exact ⟨0, none, 0, 0, [], 3, sl, G, xs, _, _, _, rfl, f1, f2, f3, rfl, .inr (.inl ⟨hw.trans q1, by decide, by (obtain ⟨_, t2, _⟩ := wordsErr_zero q1; show 65536 < G.length + 16 * vs.length; omega), rfl, rfl, rfl, rfl, rfl, rfl⟩)⟩
    · obtain ⟨u, hm⟩ := hbk.mid
      obtain ⟨f1, f2, f3⟩ := hm.fin h l hl (World.ownsRow_nil _ _ _ _ : W1.ownsRow w.heap.size 3 1 nilS 0 (nCells []))
      exact ⟨_, none, 0, 0, [], 0, sl, _, xs, _, _, _, rfl, f1, f2, f3, rfl, .inr (.inr ⟨hw.trans q1, rfl, .inr (.inr (.inr (.inr ⟨by decide, rfl, rfl, rfl, rfl, rfl⟩)))⟩)⟩
theorem play_any (B p : Nat) (hp : 1 < p) (sl : List Slo) (G : List Gat) (xs : List Exi) (v1 v2 v3 : Value) (m : Nat) (hm : m < 15) (a b c k : Int) (vs ws : List Int) (s : Slo) (g : Gat) (x : Exi) (VA WA : Option Addr) (vc wc : Nat) (w : World) (h : IsB B p sl G xs v1 v2 v3 w) (hH : HoldsA w B vs ws g x k VA WA vc) (hGl : G.length ≤ 65536) :
    Calls Tryz.prog 9 #[.pointer (some ⟨B, 0, none⟩), .agg #[.int .i64 ((m : Nat) : Int), .int .i64 a, .int .i64 b, .int .i64 c, .int .u64 k, .slice VA vs.length vc, .slice WA ws.length wc, .int .i64 s.1, .bool s.2, .int .i64 g.1, .int .i64 g.2.1, .int .i64 g.2.2.1, .int .u64 g.2.2.2, .slice x.A x.tl.length x.c, .slice x.B x.gl.length x.d]] w (DoPost p m a b c k vs ws s g x B sl G xs v1 v2 v3 w) := by
  have hc : m = 0 ∨ m = 1 ∨ m = 2 ∨ m = 3 ∨ m = 4 ∨ m = 5 ∨ m = 6 ∨ m = 7 ∨ m = 8 ∨ m = 9 ∨ m = 10 ∨ m = 11 ∨ m = 12 ∨ m = 13 ∨ m = 14 := by omega
  rcases hc with rfl | rfl | rfl | rfl | rfl | rfl | rfl | rfl | rfl | rfl | rfl | rfl | rfl | rfl | rfl
  · exact play_0 B p hp sl G xs v1 v2 v3 a b c k vs ws s g x VA WA vc wc w h hH
  · exact play_1 B p hp sl G xs v1 v2 v3 a b c k vs ws s g x VA WA vc wc w h hH hGl
  · exact play_2 B p hp sl G xs v1 v2 v3 a b c k vs ws s g x VA WA vc wc w h hH
  · exact play_3 B p hp sl G xs v1 v2 v3 a b c k vs ws s g x VA WA vc wc w h hH hGl
  · exact play_4 B p hp sl G xs v1 v2 v3 a b c k vs ws s g x VA WA vc wc w h hH
  · exact play_5 B p hp sl G xs v1 v2 v3 a b c k vs ws s g x VA WA vc wc w h hH
  · exact play_6 B p hp sl G xs v1 v2 v3 a b c k vs ws s g x VA WA vc wc w h hH
  · exact play_7 B p hp sl G xs v1 v2 v3 a b c k vs ws s g x VA WA vc wc w h hH
  · exact play_8 B p hp sl G xs v1 v2 v3 a b c k vs ws s g x VA WA vc wc w h hH
  · exact play_9 B p hp sl G xs v1 v2 v3 a b c k vs ws s g x VA WA vc wc w h hH
  · exact play_10 B p hp sl G xs v1 v2 v3 a b c k vs ws s g x VA WA vc wc w h hH
  · exact play_11 B p hp sl G xs v1 v2 v3 a b c k vs ws s g x VA WA vc wc w h hH
  · exact play_12 B p hp sl G xs v1 v2 v3 a b c k vs ws s g x VA WA vc wc w h hH
  · exact play_13 B p hp sl G xs v1 v2 v3 a b c k vs ws s g x VA WA vc wc w h hH
  · exact play_14 B p hp sl G xs v1 v2 v3 a b c k vs ws s g x VA WA vc wc w h hH
end Go.Proofs.YtkcdlbclodjjhaaGreat
