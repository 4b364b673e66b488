/- A board with words and one row of ints that grows beside them. (Printed by wip/tools/gen_rgg.py.) -/
import Derived.Test.YtkcdlbclodjjhaaRgf
namespace Go.Proofs.Ytkcdlbclodjjhaa
open Go.RowKit

/-- As Wb, reached from W0, with a row of places beside it that lies above W0; the words lie below. -/
def Wl (W0 : World) (B p n N : Nat) (rows : List (Value × Nat)) (bs : List (Nat × Nat)) (v : Value) (ls : List Nat) (W : World) : Prop :=
  ∃ (G : List Gat) (R : List (Value × List Nat)), StB W0 B p G ((v, ls) :: R) W ∧ G.length ≤ N ∧ Fits13 p G ∧ (∀ r ∈ rows, ∃ l, (r.1, l) ∈ R ∧ l.length = n ∧ Bits (valsL p [] G) l ∧ nm (valsL p [] G) l = r.2) ∧ (∀ b ∈ bs, b.1 < G.length ∧ (valsL p [] G).getD b.1 0 = b.2) ∧ (∀ r ∈ R, ∀ q, r.1.ownBlock = some q → q < W0.heap.size) ∧ (∀ q, v.ownBlock = some q → W0.heap.size ≤ q) ∧ B < W0.heap.size
theorem Wb.start {w W0 : World} {B p n N : Nat} {rows : List (Value × Nat)} {bs : List (Nat × Nat)} (h : Wb w B p n N rows bs W0) : Wl W0 B p n N rows bs nilS [] W0 := by
  obtain ⟨G, R, h1, h2, h3, h4, h5⟩ := h
  refine ⟨G, R, ⟨h1.ex, Below.refl _ _, fun r hr => ?_⟩, h2, h3, h4, h5, fun r hr q hq => ((h1.rw r hr).lt q hq).2, fun q hq => (by simp [Value.ownBlock] at hq), h1.len⟩
  rcases List.mem_cons.1 hr with rfl | e
  · exact World.ownsRow_nil _ _ _ _
  · exact h1.rw r e
theorem Wl.below {W0 : World} {B p n N : Nat} {rows : List (Value × Nat)} {bs : List (Nat × Nat)} {v : Value} {ls : List Nat} {W W' : World} (h : Wl W0 B p n N rows bs v ls W) (hb : Below W.heap.size W W') : Wl W0 B p n N rows bs v ls W' := by
  obtain ⟨G, R, h1, h2⟩ := h
  exact ⟨G, R, h1.below hb, h2⟩
theorem Wl.low {W0 : World} {B p n N : Nat} {rows : List (Value × Nat)} {bs : List (Nat × Nat)} {v : Value} {ls : List Nat} {W : World} (h : Wl W0 B p n N rows bs v ls W) : Below B W0 W := by
  obtain ⟨G, R, h1, _⟩ := h
  exact h1.low
theorem Wl.own {W0 : World} {B p n N : Nat} {rows : List (Value × Nat)} {bs : List (Nat × Nat)} {v : Value} {ls : List Nat} {W : World} (h : Wl W0 B p n N rows bs v ls W) : W.ownsRow W0.heap.size 3 1 v ls.length (nCells ls) := by
  obtain ⟨G, R, h1, _, _, _, _, _, h6, _⟩ := h
  have := h1.rw _ List.mem_cons_self
  simp only at this
  refine ⟨this.1, ?_⟩
  rcases this.2 with hn | ⟨g, cap, cur, rfl, hb, rest⟩
  · exact .inl hn
  · exact .inr ⟨g, cap, cur, rfl, h6 g (by simp [Value.ownBlock]), rest⟩
theorem Wl.app {W0 : World} {B p n N : Nat} {rows : List (Value × Nat)} {bs : List (Nat × Nat)} {v v' : Value} {ls : List Nat} {i : Nat} {W W' : World} (h : Wl W0 B p n N rows bs v ls W) (ho : W'.ownsRow W0.heap.size 3 1 v' (ls.length + 1) (nCells ls ++ [.int .i64 ((i : Nat) : Int)])) (hg : W.grownBy W' v.ownBlock) : Wl W0 B p n N rows bs v' (ls ++ [i]) W' := by
  obtain ⟨G, R, h1, h2, h3, h4, h5, h6, h7, h8⟩ := h
  have hs := h1.low.size
  obtain ⟨v2, hI⟩ := h1.ex
  have hv := h1.rw _ List.mem_cons_self
  simp only at hv
  refine ⟨G, R, ⟨⟨v2, ⟨hI.h1.kept hg (own_ne hI.h1 hv (by decide)), hI.h2.kept hg (own_ne hI.h2 hv (by decide)), hI.h3.kept hg (own_ne hI.h3 hv (by decide)), fun x hx => (by simp at hx), ?_, hI.hk⟩⟩, ?_, fun r hr => ?_⟩, h2, h3, h4, h5, h6, fun q hq => (ho.lt q hq).1, h8⟩
  · exact (hg.block _ hI.lt (own_past hv (Nat.lt_succ_self _))).trans hI.hb
  · exact h1.low.grown hg (Nat.le_of_lt hI.lt) (fun q hq => Nat.le_trans (Nat.le_of_lt h8) (h7 q hq))
  · rcases List.mem_cons.1 hr with rfl | e
    · have := own_lower ho (base' := B + 1) h8
      simpa [nCells] using this
    · refine (h1.rw r (List.mem_cons_of_mem _ e)).kept hg ?_
      cases hq : r.1.ownBlock with
      | none => exact .inl rfl
      | some q =>
        refine .inr fun e2 => ?_
        have t1 := h6 r e q hq
        have t2 := h7 q e2.symm
        omega
theorem own_far {w : World} {base n : Nat} {e e' : TypeId} {s : Nat} {v : Value} {cs : List Value} (h : w.ownsRow base e s v n cs) (hne : e' ≠ e) {b : Nat} {ds : Array Value} {fl : Nat × Nat} (hx : w.heap[b]? = some (.cells ds e' fl)) : some b ≠ v.ownBlock := fun hk => by
  rcases h.2 with hn | ⟨g, cap, cur, rfl, _, hgg, _⟩
  · rw [hn.1] at hk; simp [Value.ownBlock] at hk
  · simp [Value.ownBlock] at hk
    subst hk
    rw [hx] at hgg
    injection hgg with hgg
    injection hgg with _ h2
    exact hne h2
theorem StB.sameX {w : World} {B p : Nat} {G : List Gat} {rows : List (Value × List Nat)} {W : World} (hp : 1 < p) (h : StB w B p G rows W) {va wa : Value} {vs ws : List Nat} (hv : (va, vs) ∈ rows) (hw : (wa, ws) ∈ rows) (n : Nat) (hnv : vs.length = n) (hnw : ws.length = n) (h1 : 1 ≤ n) (h2 : n ≤ 16) (hvs : ∀ x ∈ vs, x < G.length) (hws : ∀ x ∈ ws, x < G.length) (hf : G.length + (1 + 7 * n) ≤ 65536) :
    Calls Try.prog 16 #[.pointer (some ⟨B, 0, none⟩), va, wa] W fun e W' => (e = .returned (.tuple #[.int .i64 (((sameSt G (vs.zip ws)).2 : Nat) : Int), .int .i64 0]) ∧ StB w B p (sameSt G (vs.zip ws)).1 rows W') ∧ ∀ b cs, b ≠ B → W.heap[b]? = some (.cells cs 47 (0, 0)) → W'.heap[b]? = some (.cells cs 47 (0, 0)) := by
  obtain ⟨v2, hI⟩ := h.ex
  have o1 := h.rw _ hv
  have o2 := h.rw _ hw
  simp only at o1 o2
  rw [hnv] at o1
  rw [hnw] at o2
  obtain ⟨g, c, rfl, _, hc⟩ := own_form o1 (by omega)
  obtain ⟨g', c', rfl, _, _⟩ := own_form o2 (by omega)
  refine (sameM_ok B p hp [] G [] nilS v2 nilS vs ws n hnv hnw h1 h2 hvs hws _ _ c c' hf W hI (own_keep hI (Nat.lt_succ_self _) o1) (own_keep hI (Nat.lt_succ_self _) o2)).mono fun _ _ he => ?_
  obtain ⟨v, e1, h3, h4⟩ := he
  exact ⟨⟨e1, h.step hI h3 h4⟩, fun b cs hb hx => (h4.block b (Array.getElem?_eq_some_iff.1 hx).1 hb (own_far hI.h2 (by decide) hx)).trans hx⟩
/-- Pairs in a row, flat. -/
theorem pair_at {w : World} {ad : Addr} {l : List (Value × Value)} (h : Reads w (some ad) (l.flatMap fun x => [x.1, x.2])) (k : Nat) (hk : k < l.length) :
    w.cell? (ad.add (k * 2)) = some l[k].1 ∧ w.cell? ⟨(ad.add (k * 2)).block, (ad.add (k * 2)).off + 1, none⟩ = some l[k].2 := by
  have e := flat_at (fun x : Value × Value => [x.1, x.2]) 2 (fun _ => rfl) l k hk
  rcases h with h | ⟨ad', h1, h2⟩
  · have := e 0 (by omega); rw [h] at this; simp at this
  · injection h1 with h1
    subst h1
    refine ⟨h2 (k * 2) _ (e 0 (by omega)), ?_⟩
    rw [← add_part _ _ 1 (by omega)]
    exact h2 _ _ (e 1 (by omega))
theorem Wl.same {W0 : World} {B p n N : Nat} {rows : List (Value × Nat)} {bs : List (Nat × Nat)} {v : Value} {ls : List Nat} {W : World} (hp : 2 < p) (h1n : 1 ≤ n) (hn : n ≤ 16) (h : Wl W0 B p n N rows bs v ls W) {va wa : Value} {m1 m2 : Nat} (ha : (va, m1) ∈ rows) (hb : (wa, m2) ∈ rows) (hN : N + (1 + 7 * n) ≤ 65536) :
    Calls Try.prog 16 #[.pointer (some ⟨B, 0, none⟩), va, wa] W fun e W' => ∃ i : Nat, e = .returned (.tuple #[.int .i64 ((i : Nat) : Int), .int .i64 0]) ∧ Wl W0 B p n (N + (1 + 7 * n)) rows ((i, if m1 = m2 then 1 else 0) :: bs) v ls W' ∧ ∀ b cs, b ≠ B → W.heap[b]? = some (.cells cs 47 (0, 0)) → W'.heap[b]? = some (.cells cs 47 (0, 0)) := by
  obtain ⟨G, R, h1, h2, h3, h4, h5, h6⟩ := h
  obtain ⟨vs, a1, a2, a3, a4⟩ := h4 _ ha
  obtain ⟨ws, b1, b2, b3, b4⟩ := h4 _ hb
  simp only at a1 a4 b1 b4
  refine (h1.sameX (by omega) (List.mem_cons_of_mem _ a1) (List.mem_cons_of_mem _ b1) n a2 b2 h1n hn a3.lt b3.lt (by omega)).mono fun _ _ he => ?_
  obtain ⟨⟨e1, k⟩, hfr⟩ := he
  obtain ⟨e, s1, s2, s3⟩ := same_sem hp G vs ws n a2 b2 a3 b3
  rw [a4, b4] at s3
  have hl := same_len13 (G := G) a2 b2
  refine ⟨_, e1, ⟨_, _, k, by omega, fits_same hp a3.lt b3.lt h3, keep_rows s1 (fun _ h => h) h4, ?_, h6⟩, hfr⟩
  intro b hb
  rcases List.mem_cons.1 hb with rfl | hb
  · exact ⟨by rw [← vals_len p, s1]; exact s2, by rw [s1]; exact s3⟩
  · exact keep_bits s1 h5 b hb
theorem Wl.less {W0 : World} {B p n N : Nat} {rows : List (Value × Nat)} {bs : List (Nat × Nat)} {v : Value} {ls : List Nat} {W : World} (hp : 2 < p) (h1n : 1 ≤ n) (hn : n ≤ 16) (h : Wl W0 B p n N rows bs v ls W) {va wa : Value} {m1 m2 : Nat} (ha : (va, m1) ∈ rows) (hb : (wa, m2) ∈ rows) (hN : N + (3 + 11 * n) ≤ 65536) :
    Calls Try.prog 17 #[.pointer (some ⟨B, 0, none⟩), va, wa] W fun e W' => ∃ i : Nat, e = .returned (.tuple #[.int .i64 ((i : Nat) : Int), .int .i64 0]) ∧ Wl W0 B p n (N + (3 + 11 * n)) rows ((i, if m1 < m2 then 1 else 0) :: bs) v ls W' := by
  obtain ⟨G, R, h1, h2, h3, h4, h5, h6⟩ := h
  obtain ⟨vs, a1, a2, a3, a4⟩ := h4 _ ha
  obtain ⟨ws, b1, b2, b3, b4⟩ := h4 _ hb
  simp only at a1 a4 b1 b4
  refine (h1.less (by omega) (List.mem_cons_of_mem _ a1) (List.mem_cons_of_mem _ b1) n a2 b2 h1n hn a3.lt b3.lt (by omega)).mono fun _ _ he => ?_
  obtain ⟨e1, k⟩ := he
  obtain ⟨e, s1, s2, s3⟩ := less_sem hp G vs ws n a2 b2 a3 b3
  rw [a4, b4] at s3
  have hl := less_len (G := G) a2 b2
  refine ⟨_, e1, _, _, k, by omega, fits_less hp a2 b2 a3.lt b3.lt h3, keep_rows s1 (fun _ h => h) h4, ?_, h6⟩
  intro b hb
  rcases List.mem_cons.1 hb with rfl | hb
  · exact ⟨by rw [← vals_len p, s1]; exact s2, by rw [s1]; exact s3⟩
  · exact keep_bits s1 h5 b hb
theorem form3 {w : World} {B p n N : Nat} {rows : List (Value × Nat)} {bs : List (Nat × Nat)} {v : Value} {ls : List Nat} {W : World} (h : Wl w B p n N rows bs v ls W) {x : Value} {m : Nat} (hr : (x, m) ∈ rows) (hn : 0 < n) : ∃ g c, x = .slice (some ⟨g, 0, none⟩) n c := by
  obtain ⟨G, R, h1, _, _, h4, _⟩ := h
  obtain ⟨l, k1, k2, _⟩ := h4 _ hr
  have := h1.rw _ (List.mem_cons_of_mem _ k1)
  simp only at this
  rw [k2] at this
  obtain ⟨g, c, e, _⟩ := own_form this hn
  exact ⟨g, c, e⟩
/-- The circuit of such a board: held in memory, fit, with its values. -/
theorem Wl.circuit {W0 : World} {B p n N : Nat} {rows : List (Value × Nat)} {bs : List (Nat × Nat)} {v : Value} {ls : List Nat} {W : World} (hp : 0 < p) (h : Wl W0 B p n N rows bs v ls W) (hN : N ≤ 65536) :
    Calls Try.prog 10 #[.pointer (some ⟨B, 0, none⟩)] W fun e W' => ∃ (G : List Gat) (S Ga : Option Addr) (sc gc : Nat), e = .returned (.agg #[.slice S 0 sc, .slice Ga G.length gc, nilS]) ∧ HoldsC W' (⟨[], G, [], S, Ga, none, sc, gc, 0⟩ : Cir) ∧ G.length ≤ N ∧ Fits13 p G ∧ (∀ b ∈ bs, b.1 < G.length ∧ (valsL p [] G).getD b.1 0 = b.2) ∧ Below W.heap.size W W' := by
  obtain ⟨G, R, h1, h2, h3, h4, h5, _⟩ := h
  obtain ⟨v2, hI⟩ := h1.ex
  refine (circuit_ok B p hp [] G nilS v2 (by decide) (by omega) W hI).mono fun _ _ he => ?_
  obtain ⟨S, sc, Ga, gc, e1, k2, k3, k4⟩ := he
  exact ⟨G, S, Ga, sc, gc, e1, ⟨own_reads_at k2, own_reads_at k3, .inl rfl, by simp, ⟨Nat.zero_le _, by simp only; omega, Nat.zero_le _⟩, by simp, fun g hg => hI.hk g hg⟩, h2, h3, h5, k4⟩
end Go.Proofs.Ytkcdlbclodjjhaa
