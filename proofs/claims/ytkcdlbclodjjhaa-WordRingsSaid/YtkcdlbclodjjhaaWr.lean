/- A board without slots and exits, and the words that are held beside it: one step an act. (Printed by wip/tools/gen_wr.py.) -/
import Derived.Test.YtkcdlbclodjjhaaWq
namespace Go.Proofs.Ytkcdlbclodjjhaa
open Go.RowKit

/-- A board in block B, reached from w, and words beside it. -/
structure StB (w : World) (B p : Nat) (G : List Gat) (rows : List (Value × List Nat)) (W : World) : Prop where
  ex : ∃ v2, IsB B p [] G [] nilS v2 nilS W
  low : Below B w W
  rw : ∀ r ∈ rows, W.ownsRow (B + 1) 3 1 r.1 r.2.length (nCells r.2)
theorem Fr.low {B : Nat} {v v' : Value} {W W' : World} (h : Fr B v v' W W') {m : Nat} {gs : List Value} (hg : W.ownsRow (B + 1) 33 4 v m gs) (hB : B < W.heap.size) : Below B W W' :=
  ⟨h.os, h.tape, h.output, h.size, fun k hk => h.block k (by omega) (by omega) (own_past hg (by omega))⟩
theorem StB.step {w : World} {B p : Nat} {G G' : List Gat} {rows : List (Value × List Nat)} {W W' : World} {v2 v' : Value} (h : StB w B p G rows W) (hI : IsB B p [] G [] nilS v2 nilS W) (hI' : IsB B p [] G' [] nilS v' nilS W') (hF : Fr B v2 v' W W') : StB w B p G' rows W' :=
  ⟨⟨v', hI'⟩, h.low.trans (hF.low hI.h2 hI.lt), fun r hr => hF.own_int hI.h2 (h.rw r hr) (Nat.lt_succ_self _)⟩
theorem StB.push {w : World} {B p : Nat} {G : List Gat} {rows : List (Value × List Nat)} {W : World} (h : StB w B p G rows W) {vo : Value} {l : List Nat} {n base : Nat} (ho : W.ownsRow base 3 1 vo n (nCells l)) (hn : l.length = n) (hb : B + 1 ≤ base) : StB w B p G ((vo, l) :: rows) W :=
  ⟨h.ex, h.low, fun r hr => by
    rcases List.mem_cons.1 hr with rfl | e
    · subst hn; exact own_lower ho hb
    · exact h.rw r e⟩
theorem StB.below {w : World} {B p : Nat} {G : List Gat} {rows : List (Value × List Nat)} {W W' : World} (h : StB w B p G rows W) (hb : Below W.heap.size W W') : StB w B p G rows W' := by
  obtain ⟨v2, hI⟩ := h.ex
  exact h.step hI (hI.below hb) (Fr.of_below hb)
theorem StB.len {w : World} {B p : Nat} {G : List Gat} {rows : List (Value × List Nat)} {W : World} (h : StB w B p G rows W) : B < W.heap.size := by
  obtain ⟨v2, hI⟩ := h.ex
  exact hI.lt
theorem StB.of {w : World} {B p : Nat} {G : List Gat} {rows : List (Value × List Nat)} {W : World} (hp : 1 < p) (h : StB w B p G rows W) (m n : Nat) (hm : m ≤ 16) (hn : n < 18446744073709551616) (hf : G.length + m ≤ 65536) :
    Calls Try.prog 12 #[.pointer (some ⟨B, 0, none⟩), .int .i64 ((m : Nat) : Int), .int .u64 ((n : Nat) : Int)] W fun e W' => ∃ vo, e = .returned vo ∧ StB w B p (ofSt G n m).1 ((vo, (ofSt G n m).2) :: rows) W' := by
  obtain ⟨v2, hI⟩ := h.ex
  refine (of_ok B p hp [] G [] nilS v2 nilS m n hm hn hf W hI).mono fun _ _ he => ?_
  obtain ⟨vo, v, e1, h1, h2, h3⟩ := he
  exact ⟨vo, e1, (h.step hI h1 h2).push h3 (ofSt_len G n m).2.1 hI.lt⟩
theorem StB.plus {w : World} {B p : Nat} {G : List Gat} {rows : List (Value × List Nat)} {W : World} (hp : 1 < p) (h : StB w B p G rows W) {va wa : Value} {vs ws : List Nat} (hv : (va, vs) ∈ rows) (hw : (wa, ws) ∈ rows) (n : Nat) (hnv : vs.length = n) (hnw : ws.length = n) (h1 : 1 ≤ n) (h2 : n ≤ 16) (hvs : ∀ x ∈ vs, x < G.length) (hws : ∀ x ∈ ws, x < G.length) (hf : G.length + (1 + 9 * n) ≤ 65536) :
    Calls Try.prog 29 #[.pointer (some ⟨B, 0, none⟩), va, wa] W fun e W' => ∃ vo, e = .returned (.tuple #[vo, .int .i64 0]) ∧ StB w B p (plusSt G vs ws).1 ((vo, (plusSt G vs ws).2.1) :: rows) W' := by
  obtain ⟨v2, hI⟩ := h.ex
  have o1 := h.rw _ hv
  have o2 := h.rw _ hw
  simp only at o1 o2
  rw [hnv] at o1
  rw [hnw] at o2
  obtain ⟨g, c, rfl, _, hc⟩ := own_form o1 (by omega)
  obtain ⟨g', c', rfl, _, _⟩ := own_form o2 (by omega)
  refine (plusM_ok B p hp [] G [] nilS v2 nilS vs ws n hnv hnw h1 h2 hvs hws _ _ c c' hf W hI (own_keep hI (Nat.lt_succ_self _) o1) (own_keep hI (Nat.lt_succ_self _) o2)).mono fun _ _ he => ?_
  obtain ⟨vo, v, e1, h3, h4, h5⟩ := he
  exact ⟨vo, e1, (h.step hI h3 h4).push h5 (by
    have := (addSt_all (G ++ conL 0) G.length (vs.zip ws) (by simp [conL])).2.1
    rw [List.length_zip, hnv, hnw, Nat.min_self] at this; exact this) hI.lt⟩
theorem StB.minus {w : World} {B p : Nat} {G : List Gat} {rows : List (Value × List Nat)} {W : World} (hp : 1 < p) (h : StB w B p G rows W) {va wa : Value} {vs ws : List Nat} (hv : (va, vs) ∈ rows) (hw : (wa, ws) ∈ rows) (n : Nat) (hnv : vs.length = n) (hnw : ws.length = n) (h1 : 1 ≤ n) (h2 : n ≤ 16) (hvs : ∀ x ∈ vs, x < G.length) (hws : ∀ x ∈ ws, x < G.length) (hf : G.length + (1 + 11 * n) ≤ 65536) :
    Calls Try.prog 30 #[.pointer (some ⟨B, 0, none⟩), va, wa] W fun e W' => ∃ vo, e = .returned (.tuple #[vo, .int .i64 0]) ∧ StB w B p (minusSt G vs ws).1 ((vo, (minusSt G vs ws).2.1) :: rows) W' := by
  obtain ⟨v2, hI⟩ := h.ex
  have o1 := h.rw _ hv
  have o2 := h.rw _ hw
  simp only at o1 o2
  rw [hnv] at o1
  rw [hnw] at o2
  obtain ⟨g, c, rfl, _, hc⟩ := own_form o1 (by omega)
  obtain ⟨g', c', rfl, _, _⟩ := own_form o2 (by omega)
  refine (minusM_ok B p hp [] G [] nilS v2 nilS vs ws n hnv hnw h1 h2 hvs hws _ _ c c' hf W hI (own_keep hI (Nat.lt_succ_self _) o1) (own_keep hI (Nat.lt_succ_self _) o2)).mono fun _ _ he => ?_
  obtain ⟨vo, v, e1, h3, h4, h5⟩ := he
  exact ⟨vo, e1, (h.step hI h3 h4).push h5 (by
    have := (addSt_all ((turnSt G ws).1 ++ conL 1) (turnSt G ws).1.length (vs.zip (turnSt G ws).2) (by simp [conL])).2.1
    rw [List.length_zip, (turnSt_all G ws).2.1, hnv, hnw, Nat.min_self] at this; exact this) hI.lt⟩
theorem StB.times {w : World} {B p : Nat} {G : List Gat} {rows : List (Value × List Nat)} {W : World} (hp : 1 < p) (h : StB w B p G rows W) {va wa : Value} {vs ws : List Nat} (hv : (va, vs) ∈ rows) (hw : (wa, ws) ∈ rows) (n : Nat) (hnv : vs.length = n) (hnw : ws.length = n) (h1 : 1 ≤ n) (h2 : n ≤ 16) (hvs : ∀ x ∈ vs, x < G.length) (hws : ∀ x ∈ ws, x < G.length) (hf : G.length + (n * (10 * n + 1)) ≤ 65536) :
    Calls Try.prog 31 #[.pointer (some ⟨B, 0, none⟩), va, wa] W fun e W' => ∃ vo, e = .returned (.tuple #[vo, .int .i64 0]) ∧ StB w B p (timesSt G vs ws n).1 ((vo, (timesSt G vs ws n).2) :: rows) W' := by
  obtain ⟨v2, hI⟩ := h.ex
  have o1 := h.rw _ hv
  have o2 := h.rw _ hw
  simp only at o1 o2
  rw [hnv] at o1
  rw [hnw] at o2
  obtain ⟨g, c, rfl, _, hc⟩ := own_form o1 (by omega)
  obtain ⟨g', c', rfl, _, _⟩ := own_form o2 (by omega)
  refine (timesM_ok B p hp [] G [] nilS v2 nilS vs ws n hnv hnw h1 h2 hvs hws _ _ c c' hc hf W hI (own_keep hI (Nat.lt_succ_self _) o1) (own_keep hI (Nat.lt_succ_self _) o2)).mono fun _ _ he => ?_
  obtain ⟨vo, v, e1, h3, h4, h5⟩ := he
  exact ⟨vo, e1, (h.step hI h3 h4).push h5 (by
    have := (timesSt_len G vs ws n (by omega)).2.2.1
    rw [if_neg (by omega), hnv] at this; exact this) hI.lt⟩
theorem StB.same {w : World} {B p : Nat} {G : List Gat} {rows : List (Value × List Nat)} {W : World} (hp : 1 < p) (h : StB w B p G rows W) {va wa : Value} {vs ws : List Nat} (hv : (va, vs) ∈ rows) (hw : (wa, ws) ∈ rows) (n : Nat) (hnv : vs.length = n) (hnw : ws.length = n) (h1 : 1 ≤ n) (h2 : n ≤ 16) (hvs : ∀ x ∈ vs, x < G.length) (hws : ∀ x ∈ ws, x < G.length) (hf : G.length + (1 + 7 * n) ≤ 65536) :
    Calls Try.prog 16 #[.pointer (some ⟨B, 0, none⟩), va, wa] W fun e W' => e = .returned (.tuple #[.int .i64 (((sameSt G (vs.zip ws)).2 : Nat) : Int), .int .i64 0]) ∧ StB w B p (sameSt G (vs.zip ws)).1 rows W' := by
  obtain ⟨v2, hI⟩ := h.ex
  have o1 := h.rw _ hv
  have o2 := h.rw _ hw
  simp only at o1 o2
  rw [hnv] at o1
  rw [hnw] at o2
  obtain ⟨g, c, rfl, _, hc⟩ := own_form o1 (by omega)
  obtain ⟨g', c', rfl, _, _⟩ := own_form o2 (by omega)
  refine (sameM_ok B p hp [] G [] nilS v2 nilS vs ws n hnv hnw h1 h2 hvs hws _ _ c c' hf W hI (own_keep hI (Nat.lt_succ_self _) o1) (own_keep hI (Nat.lt_succ_self _) o2)).mono fun _ _ he => ?_
  obtain ⟨v, e1, h3, h4⟩ := he
  exact ⟨e1, h.step hI h3 h4⟩
theorem StB.less {w : World} {B p : Nat} {G : List Gat} {rows : List (Value × List Nat)} {W : World} (hp : 1 < p) (h : StB w B p G rows W) {va wa : Value} {vs ws : List Nat} (hv : (va, vs) ∈ rows) (hw : (wa, ws) ∈ rows) (n : Nat) (hnv : vs.length = n) (hnw : ws.length = n) (h1 : 1 ≤ n) (h2 : n ≤ 16) (hvs : ∀ x ∈ vs, x < G.length) (hws : ∀ x ∈ ws, x < G.length) (hf : G.length + (3 + 11 * n) ≤ 65536) :
    Calls Try.prog 17 #[.pointer (some ⟨B, 0, none⟩), va, wa] W fun e W' => e = .returned (.tuple #[.int .i64 (((belowSt G vs ws).2 : Nat) : Int), .int .i64 0]) ∧ StB w B p (belowSt G vs ws).1 rows W' := by
  obtain ⟨v2, hI⟩ := h.ex
  have o1 := h.rw _ hv
  have o2 := h.rw _ hw
  simp only at o1 o2
  rw [hnv] at o1
  rw [hnw] at o2
  obtain ⟨g, c, rfl, _, hc⟩ := own_form o1 (by omega)
  obtain ⟨g', c', rfl, _, _⟩ := own_form o2 (by omega)
  refine (lessM_ok B p hp [] G [] nilS v2 nilS vs ws n hnv hnw h1 h2 hvs hws _ _ c c' hf W hI (own_keep hI (Nat.lt_succ_self _) o1) (own_keep hI (Nat.lt_succ_self _) o2)).mono fun _ _ he => ?_
  obtain ⟨v, e1, h3, h4⟩ := he
  exact ⟨e1, h.step hI h3 h4⟩
end Go.Proofs.Ytkcdlbclodjjhaa
