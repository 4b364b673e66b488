/- Contracts and plain laws of chapter 13, merged: Wr Ws Wt Wu Wv. -/
import Derived.Test.YtkcdlbclodjjhaaGreatGah
import Derived.Deep.RegionHeld3
import Derived.Deep.DeepCutAuto
/- A board without slots and exits, and the words that are held beside it: one step an act. (Printed by wip/tools/gen_wr.py.) -/
namespace Go.Proofs.YtkcdlbclodjjhaaGreat
open Go.RowKit

/-- A board in block B, reached from w, and words beside it. -/
structure StB (w : World) (B p : Nat) (G : List Gat) (rows : List (Value × List Nat)) (W : World) : Prop where
  ex : ∃ v2, IsB B p [] G [] nilS v2 nilS W
  low : Below B w W
  rw : ∀ r ∈ rows, W.ownsRow (B + 1) 3 1 r.1 r.2.length (nCells r.2)
theorem Fr.low {B : Nat} {v v' : Value} {W W' : World} (h : Fr B v v' W W') {m : Nat} {gs : List Value} (hg : W.ownsRow (B + 1) 42 4 v m gs) (hB : B < W.heap.size) : Below B W W' :=
  ⟨h.os, h.tape, h.output, h.size, fun k hk => h.block k (by omega) (by omega) (own_past hg (by omega))⟩
theorem StB.step {w : World} {B p : Nat} {G G' : List Gat} {rows : List (Value × List Nat)} {W W' : World} {v2 v' : Value} (h : StB w B p G rows W) (hI : IsB B p [] G [] nilS v2 nilS W) (hI' : IsB B p [] G' [] nilS v' nilS W') (hF : Fr B v2 v' W W') : StB w B p G' rows W' :=
  ⟨⟨v', hI'⟩, h.low.trans (hF.low hI.h2 hI.lt), fun r hr => hF.own_int hI.h2 (h.rw r hr) (Nat.lt_succ_self _)⟩
theorem StB.push {w : World} {B p : Nat} {G : List Gat} {rows : List (Value × List Nat)} {W : World} (h : StB w B p G rows W) {vo : Value} {l : List Nat} {n base : Nat} (ho : W.ownsRow base 3 1 vo n (nCells l)) (hn : l.length = n) (hb : B + 1 ≤ base) : StB w B p G ((vo, l) :: rows) W :=
  ⟨h.ex, h.low, fun r hr => by
    rcases List.mem_cons.1 hr with rfl | e
    · subst hn; exact own_lower ho hb
    · exact h.rw r e⟩
theorem StB.below {w : World} {B p : Nat} {G : List Gat} {rows : List (Value × List Nat)} {W W' : World} (h : StB w B p G rows W) (hb : Below W.heap.size W W') : StB w B p G rows W' := by
  obtain ⟨v2, hI⟩ := h.ex
  exact h.step hI (hI.below hb) (Fr.of_below hb)
theorem StB.len {w : World} {B p : Nat} {G : List Gat} {rows : List (Value × List Nat)} {W : World} (h : StB w B p G rows W) : B < W.heap.size := by
  obtain ⟨v2, hI⟩ := h.ex
  exact hI.lt
theorem StB.of {w : World} {B p : Nat} {G : List Gat} {rows : List (Value × List Nat)} {W : World} (hp : 1 < p) (h : StB w B p G rows W) (m n : Nat) (hm : m ≤ 16) (hn : n < 18446744073709551616) (hf : G.length + m ≤ 65536) :
    Calls Tryz.prog 13 #[.pointer (some ⟨B, 0, none⟩), .int .i64 ((m : Nat) : Int), .int .u64 ((n : Nat) : Int)] W fun e W' => ∃ vo, e = .returned vo ∧ StB w B p (ofSt G n m).1 ((vo, (ofSt G n m).2) :: rows) W' := by
  obtain ⟨v2, hI⟩ := h.ex
  refine (of_ok B p hp [] G [] nilS v2 nilS m n hm hn hf W hI).mono fun _ _ he => ?_
  obtain ⟨vo, v, e1, h1, h2, h3⟩ := he
  exact ⟨vo, e1, (h.step hI h1 h2).push h3 (ofSt_len G n m).2.1 hI.lt⟩
theorem StB.plus {w : World} {B p : Nat} {G : List Gat} {rows : List (Value × List Nat)} {W : World} (hp : 1 < p) (h : StB w B p G rows W) {va wa : Value} {vs ws : List Nat} (hv : (va, vs) ∈ rows) (hw : (wa, ws) ∈ rows) (n : Nat) (hnv : vs.length = n) (hnw : ws.length = n) (h1 : 1 ≤ n) (h2 : n ≤ 16) (hvs : ∀ x ∈ vs, x < G.length) (hws : ∀ x ∈ ws, x < G.length) (hf : G.length + (1 + 9 * n) ≤ 65536) :
    Calls Tryz.prog 12 #[.pointer (some ⟨B, 0, none⟩), va, wa] W fun e W' => ∃ vo, e = .returned (.tuple #[vo, .int .i64 0]) ∧ StB w B p (plusSt G vs ws).1 ((vo, (plusSt G vs ws).2.1) :: rows) W' := by
  obtain ⟨v2, hI⟩ := h.ex
  have o1 := h.rw _ hv
  have o2 := h.rw _ hw
  simp only at o1 o2
  rw [hnv] at o1
  rw [hnw] at o2
  obtain ⟨g, c, rfl, _, hc⟩ := own_form o1 (by omega)
  obtain ⟨g', c', rfl, _, _⟩ := own_form o2 (by omega)
  refine (plusM_ok B p hp [] G [] nilS v2 nilS vs ws n hnv hnw h1 h2 hvs hws _ _ c c' hf W hI (own_keep hI (Nat.lt_succ_self _) o1) (own_keep hI (Nat.lt_succ_self _) o2)).mono fun _ _ he => ?_
  obtain ⟨vo, v, e1, h3, h4, h5⟩ := he
  exact ⟨vo, e1, (h.step hI h3 h4).push h5 (by
    have := (addSt_all (G ++ conL 0) G.length (vs.zip ws) (by simp [conL])).2.1
    rw [List.length_zip, hnv, hnw, Nat.min_self] at this; exact this) hI.lt⟩
theorem StB.minus {w : World} {B p : Nat} {G : List Gat} {rows : List (Value × List Nat)} {W : World} (hp : 1 < p) (h : StB w B p G rows W) {va wa : Value} {vs ws : List Nat} (hv : (va, vs) ∈ rows) (hw : (wa, ws) ∈ rows) (n : Nat) (hnv : vs.length = n) (hnw : ws.length = n) (h1 : 1 ≤ n) (h2 : n ≤ 16) (hvs : ∀ x ∈ vs, x < G.length) (hws : ∀ x ∈ ws, x < G.length) (hf : G.length + (1 + 11 * n) ≤ 65536) :
    Calls Tryz.prog 14 #[.pointer (some ⟨B, 0, none⟩), va, wa] W fun e W' => ∃ vo, e = .returned (.tuple #[vo, .int .i64 0]) ∧ StB w B p (minusSt G vs ws).1 ((vo, (minusSt G vs ws).2.1) :: rows) W' := by
  obtain ⟨v2, hI⟩ := h.ex
  have o1 := h.rw _ hv
  have o2 := h.rw _ hw
  simp only at o1 o2
  rw [hnv] at o1
  rw [hnw] at o2
  obtain ⟨g, c, rfl, _, hc⟩ := own_form o1 (by omega)
  obtain ⟨g', c', rfl, _, _⟩ := own_form o2 (by omega)
  refine (minusM_ok B p hp [] G [] nilS v2 nilS vs ws n hnv hnw h1 h2 hvs hws _ _ c c' hf W hI (own_keep hI (Nat.lt_succ_self _) o1) (own_keep hI (Nat.lt_succ_self _) o2)).mono fun _ _ he => ?_
  obtain ⟨vo, v, e1, h3, h4, h5⟩ := he
  exact ⟨vo, e1, (h.step hI h3 h4).push h5 (by
    have := (addSt_all ((turnSt G ws).1 ++ conL 1) (turnSt G ws).1.length (vs.zip (turnSt G ws).2) (by simp [conL])).2.1
    rw [List.length_zip, (turnSt_all G ws).2.1, hnv, hnw, Nat.min_self] at this; exact this) hI.lt⟩
theorem StB.times {w : World} {B p : Nat} {G : List Gat} {rows : List (Value × List Nat)} {W : World} (hp : 1 < p) (h : StB w B p G rows W) {va wa : Value} {vs ws : List Nat} (hv : (va, vs) ∈ rows) (hw : (wa, ws) ∈ rows) (n : Nat) (hnv : vs.length = n) (hnw : ws.length = n) (h1 : 1 ≤ n) (h2 : n ≤ 16) (hvs : ∀ x ∈ vs, x < G.length) (hws : ∀ x ∈ ws, x < G.length) (hf : G.length + (n * (10 * n + 1)) ≤ 65536) :
    Calls Tryz.prog 15 #[.pointer (some ⟨B, 0, none⟩), va, wa] W fun e W' => ∃ vo, e = .returned (.tuple #[vo, .int .i64 0]) ∧ StB w B p (timesSt G vs ws n).1 ((vo, (timesSt G vs ws n).2) :: rows) W' := by
  obtain ⟨v2, hI⟩ := h.ex
  have o1 := h.rw _ hv
  have o2 := h.rw _ hw
  simp only at o1 o2
  rw [hnv] at o1
  rw [hnw] at o2
  obtain ⟨g, c, rfl, _, hc⟩ := own_form o1 (by omega)
  obtain ⟨g', c', rfl, _, _⟩ := own_form o2 (by omega)
  refine (timesM_ok B p hp [] G [] nilS v2 nilS vs ws n hnv hnw h1 h2 hvs hws _ _ c c' hc hf W hI (own_keep hI (Nat.lt_succ_self _) o1) (own_keep hI (Nat.lt_succ_self _) o2)).mono fun _ _ he => ?_
  obtain ⟨vo, v, e1, h3, h4, h5⟩ := he
  exact ⟨vo, e1, (h.step hI h3 h4).push h5 (by
    have := (timesSt_len G vs ws n (by omega)).2.2.1
    rw [if_neg (by omega), hnv] at this; exact this) hI.lt⟩
theorem StB.less {w : World} {B p : Nat} {G : List Gat} {rows : List (Value × List Nat)} {W : World} (hp : 1 < p) (h : StB w B p G rows W) {va wa : Value} {vs ws : List Nat} (hv : (va, vs) ∈ rows) (hw : (wa, ws) ∈ rows) (n : Nat) (hnv : vs.length = n) (hnw : ws.length = n) (h1 : 1 ≤ n) (h2 : n ≤ 16) (hvs : ∀ x ∈ vs, x < G.length) (hws : ∀ x ∈ ws, x < G.length) (hf : G.length + (3 + 11 * n) ≤ 65536) :
    Calls Tryz.prog 16 #[.pointer (some ⟨B, 0, none⟩), va, wa] W fun e W' => e = .returned (.tuple #[.int .i64 (((belowSt G vs ws).2 : Nat) : Int), .int .i64 0]) ∧ StB w B p (belowSt G vs ws).1 rows W' := by
  obtain ⟨v2, hI⟩ := h.ex
  have o1 := h.rw _ hv
  have o2 := h.rw _ hw
  simp only at o1 o2
  rw [hnv] at o1
  rw [hnw] at o2
  obtain ⟨g, c, rfl, _, hc⟩ := own_form o1 (by omega)
  obtain ⟨g', c', rfl, _, _⟩ := own_form o2 (by omega)
  refine (lessM_ok B p hp [] G [] nilS v2 nilS vs ws n hnv hnw h1 h2 hvs hws _ _ c c' hf W hI (own_keep hI (Nat.lt_succ_self _) o1) (own_keep hI (Nat.lt_succ_self _) o2)).mono fun _ _ he => ?_
  obtain ⟨v, e1, h3, h4⟩ := he
  exact ⟨e1, h.step hI h3 h4⟩
end Go.Proofs.YtkcdlbclodjjhaaGreat

/- Contracts of the reference's Places (all within) and Number (of bits). (Printed by wip/tools/gen_ws13.py.) -/
namespace Go.Proofs.YtkcdlbclodjjhaaGreat
open Go.RowKit

theorem Reads.uat {w : World} {A : Option Addr} {l : List Nat} (h : Reads w A (uCells l)) (k : Nat) (hk : k < l.length) : ∃ ad, A = some ad ∧ w.cell? (ad.add k) = some (.int .u64 ((l[k] : Nat) : Int)) := by
  rcases h with h | ⟨ad, h1, h2⟩
  · have : l = [] := by simpa [uCells] using h
    subst this; simp at hk
  · exact ⟨ad, h1, h2 k _ (by simp [uCells, List.getElem?_eq_getElem hk])⟩
set_option maxHeartbeats 1000000 in
set_option maxRecDepth 100000 in
theorem places_ok (S Ga E : Option Addr) (sn sc gn gc en ec : Nat) (ls : List Nat) (A : Option Addr) (c n : Nat) (hn : ls.length = n) (hl : n ≤ 65536) (hr : ∀ x ∈ ls, x < gn) (w : World) (hA : Reads w A (nCells ls)) :
    Calls Tryz.prog 18 #[.agg #[.slice S sn sc, .slice Ga gn gc, .slice E en ec], .slice A n c] w fun e W' => e = .returned (.int .i64 0) ∧ Below w.heap.size w W' := by
  subst hn
  have HA := Lib.hid hA
  have HR := Lib.hid hr
  clear hA hr
  go_enter Tryz.func18, Tryz.ntmps18
  go_wp2
  go_loopg [9] ls.length (fun g i' wr => ∃ k : Nat, k ≤ ls.length ∧ g = ls.length - k ∧ i' = .int .i64 k ∧ Below w.heap.size w wr ∧ wr.heap[w.heap.size]? = some (.cells #[.slice S sn sc, .slice Ga gn gc, .slice E en ec] 36 (0, 0)))
  case atStart => exact ⟨0, Nat.zero_le _, rfl, rfl, (Below.refl _ _).alloc (Nat.le_refl _) _, heap_alloc_new w _⟩
  case round =>
    obtain ⟨k, hk, rfl, rfl, hB, hbx⟩ := hrel
    have HB := Lib.hid hB
    obtain ⟨d0, d1, d2, g0, g1, g2⟩ := box_facts hbx
    have HX := Lib.hid hbx
    clear hB hbx
    by_cases hlt : k < ls.length
    · obtain ⟨ad, hva, q0⟩ := (HA.out.below HB.out).nat k hlt
      have hx := HR.out _ (List.getElem_mem hlt)
      generalize ls[k] = x at *
      subst hva
      have i1 : (0 : Int) ≤ (k : Int) := by omega
      have i2 : (k : Int) < (ls.length : Int) := by omega
      have i3 : ¬ (x : Int) < 0 := by omega
      have i4 : ¬ (gn : Int) ≤ (x : Int) := by omega
      go_wp2
      go_roundg (ls.length - (k + 1))
      case measure => omega
      case rel => exact ⟨k + 1, by omega, rfl, by go_num, HB.out, HX.out⟩
    · obtain rfl : k = ls.length := by omega
      go_wp2
      go_ret
      exact ⟨rfl, HB.out⟩
/-- The number of a word. -/
def numK (V : List Nat) (l : List Nat) : Nat → Nat
  | 0 => 0
  | k + 1 => numK V l k + V.getD (l.getD k 0) 0 * 2 ^ k
theorem numK_lt (V l : List Nat) (h : ∀ x ∈ l, V.getD x 0 ≤ 1) : ∀ k, k ≤ l.length → numK V l k < 2 ^ k := by
  intro k
  induction k with
  | zero => intro _; simp [numK]
  | succ k ih =>
    intro hk
    have h1 := ih (by omega)
    have h2 : V.getD (l.getD k 0) 0 ≤ 1 := h _ (by rw [getD_at (show k < l.length by omega)]; exact List.getElem_mem _)
    have h3 : V.getD (l.getD k 0) 0 * 2 ^ k ≤ 1 * 2 ^ k := Nat.mul_le_mul_right _ h2
    simp only [numK]
    rw [Nat.pow_succ]
    omega
set_option maxHeartbeats 1000000 in
set_option maxRecDepth 100000 in
theorem number_ok (V ls : List Nat) (VA A : Option Addr) (vc c n vn : Nat) (hn : ls.length = n) (hvn : V.length = vn) (hl : n ≤ 16) (hr : ∀ x ∈ ls, x < vn) (hb : ∀ x ∈ ls, V.getD x 0 ≤ 1) (w : World) (hV : Reads w VA (uCells V)) (hA : Reads w A (nCells ls)) :
    Calls Tryz.prog 20 #[.slice VA vn vc, .slice A n c] w fun e W' => e = .returned (.int .u64 ((numK V ls n : Nat) : Int)) ∧ w = W' := by
  subst hn
  subst hvn
  have HA := Lib.hid hA
  have HV := Lib.hid hV
  have HR := Lib.hid hr
  have HBB := Lib.hid hb
  have HN := Lib.hid (numK_lt V ls hb)
  clear hA hr hV hb
  go_enter Tryz.func20, Tryz.ntmps20
  go_wp2
  go_loopg [5, 10] ls.length (fun g n' i' wr => ∃ k s : Nat, k ≤ ls.length ∧ g = ls.length - k ∧ n' = .int .u64 ((s : Nat) : Int) ∧ i' = .int .i64 k ∧ Hid (s = numK V ls k) ∧ w = wr)
  case atStart => exact ⟨0, 0, Nat.zero_le _, rfl, rfl, rfl, Lib.hid rfl, rfl⟩
  case round =>
    obtain ⟨k, s, hk, rfl, rfl, rfl, hs, rfl⟩ := hrel
    by_cases hlt : k < ls.length
    · obtain ⟨ad, hva, q0⟩ := HA.out.nat k hlt
      have hx := HR.out _ (List.getElem_mem hlt)
      have hbx := HBB.out _ (List.getElem_mem hlt)
      have hgx : ls.getD k 0 = ls[k] := getD_at hlt
      have hsu : numK V ls (k + 1) = s + V.getD ls[k] 0 * 2 ^ k := by simp only [numK]; rw [hgx, hs.out]
      have hsl := HN.out (k + 1) (by omega)
      rw [hsu] at hsl
      generalize ls[k] = x at *
      obtain ⟨vad, hvv, q1⟩ := HV.out.uat x hx
      have hvx : V.getD x 0 = V[x] := getD_at hx
      rw [hvx] at hsu hsl hbx
      generalize V[x] = b at *
      subst hva
      subst hvv
      have hp16 : 2 ^ (k + 1) ≤ 2 ^ 16 := Nat.pow_le_pow_right (by omega) (by omega)
      have i1 : (0 : Int) ≤ (k : Int) := by omega
      have i2 : (k : Int) < (ls.length : Int) := by omega
      have i3 : (0 : Int) ≤ (x : Int) := by omega
      have i4 : (x : Int) < (V.length : Int) := by omega
      have HSU := Lib.hid hsu
      have HSL := Lib.hid hsl
      clear hsu hsl hgx hvx
      go_wp2
      go_roundg (ls.length - (k + 1))
      case measure => omega
      case rel =>
        refine ⟨k + 1, s + b * 2 ^ k, by omega, rfl, ?_, by go_num, Lib.hid HSU.out.symm, rfl⟩
        have e1 : (b : Int) * 2 ^ k = ((b * 2 ^ k : Nat) : Int) := by simp
        have hl2 := HSL.out
        rw [e1]
        generalize b * 2 ^ k = q at *
        rw [IntWalk.u64_in (q : Int) (by omega), IntWalk.u64_in ((s : Int) + (q : Int)) (by omega)]
        rfl
    · obtain rfl : k = ls.length := by omega
      go_wp2
      go_ret
      exact ⟨by show Ending.returned (.int .u64 ((s : Nat) : Int)) = _; rw [hs.out], rfl⟩
end Go.Proofs.YtkcdlbclodjjhaaGreat

/- The chapter's example: alive answers true. (Printed by wip/tools/gen_alive13.py.) -/
namespace Go.Proofs.YtkcdlbclodjjhaaGreat
open Go.RowKit

section
variable {P : Program} {ops : Array Oper} {o : Oper} {a : Act} {K : Act → World → Prop} {Q : Exit → Act → World → Prop} {E : Prop}
/-- Elements are appended to a row of the call's own, as a step of a region that draws its order. -/
theorem step_app_slice {W : World} (base : Nat) (hgd : Region.wanted o (yielded ops a.tmps) = true) (s x : Operand) (t e : TypeId) (z : Value) (bytes : Nat)
    (ho : o.op = .call { callee := .builtin .append, args := #[s, x], argTypes := #[t, t] })
    (ht : P.underlying t = some (.slice e)) (hinfo : (P.info? e).map (fun i => (i.zero, i.size, i.bytes)) = some (some z, 1, bytes)) (hz : z.cells.size = 1) (hb0 : 0 < bytes)
    (v : Value) (n : Nat) (xs ys : List Value) (hs : a.eval s = v) (ad : Addr) (m c : Nat) (hx : a.eval x = .slice (some ad) m c) (hys : ys.length = m) (hr : ∀ j u, ys[j]? = some u → W.cell? (ad.add j) = some u) (h1 : ∀ u ∈ ys, u.oneCell' = true)
    (HO : W.ownsRow base e 1 v n xs) (hbase : base ≤ W.heap.size) (hl : (n + m) * bytes ≤ 140737488355328)
    (h : ∀ v1 w1, w1.ownsRow base e 1 v1 (n + m) (xs ++ ys) → W.grownBy w1 v.ownBlock → K (a.put o.dst v1) w1) :
    if Region.wanted o (yielded ops a.tmps) = true then Oper.wp P o a W K Q else E := by
  rw [if_pos hgd]
  obtain ⟨i0, hi, hzz⟩ := Option.map_eq_some_iff.1 hinfo
  simp only [Prod.mk.injEq] at hzz
  obtain ⟨hz0, hz1, hz2⟩ := hzz
  have hlen : n + m ≤ 140737488355328 := Nat.le_trans (Nat.le_mul_of_pos_right _ hb0) hl
  exact wp_append_own W s x t ho base e i0 z 1 bytes ht hi hz0 hz1 hz2 hz (by omega) v n xs hs HO ad m c ys hx (by rw [hys]; omega) hr h1 (by simp only [maxLen]; omega) hl hbase
    fun v1 w1 hown hg _ => h v1 w1 hown hg
end
theorem gatesErr_zero {p : Nat} {n : Int} {l : List Gat} (h : gatesErr p n 0 l = 0) : ∀ k, (hk : k < l.length) → gErr p n k l[k] = 0 := by
  have key : ∀ k, k ≤ l.length → gatesErr p n k (l.drop k) = 0 := by
    intro k
    induction k with
    | zero => intro _; exact h
    | succ k ih =>
      intro hk
      have h1 := ih (by omega)
      rw [gatesErr_at (by omega)] at h1
      split at h1
      · exact h1
      · rename_i h2; exact absurd h1 h2
  intro k hk
  have h1 := key k (by omega)
  rw [gatesErr_at hk] at h1
  split at h1
  · assumption
  · rename_i h2; exact absurd h1 h2
theorem own_fresh (w : World) (e : TypeId) (u : Value) : (w.alloc (.cells #[u] e)).ownsRow w.heap.size e 1 (.slice (some ⟨w.heap.size, 0, none⟩) 1 1) 1 [u] :=
  ⟨rfl, .inr ⟨w.heap.size, 1, #[u], rfl, Nat.le_refl _, heap_alloc_new w _, Nat.le_refl _, by decide, rfl, rfl⟩⟩
theorem all_ltB {l : List Nat} {n : Nat} (h : (l.all fun x => decide (x < n)) = true) : ∀ x ∈ l, x < n := fun x hx => of_decide_eq_true (List.all_eq_true.1 h x hx)
/- What alive lays, act by act. -/
def al1 : List Gat × List Nat := ofSt [] 9 4
def al2 : List Gat × List Nat := ofSt al1.1 12 4
def al3 : List Gat × List Nat × Nat := plusSt al2.1 al1.2 al2.2
def al4 : List Gat × List Nat := ofSt al3.1 3 4
def al5 : List Gat × List Nat := ofSt al4.1 5 4
def al6 : List Gat × List Nat × Nat := minusSt al5.1 al4.2 al5.2
def al7 : List Gat × List Nat := ofSt al6.1 5 4
def al8 : List Gat × List Nat := ofSt al7.1 7 4
def al9 : List Gat × List Nat := timesSt al8.1 al7.2 al8.2 4
def al10 : List Gat × List Nat := ofSt al9.1 3 4
def al11 : List Gat × List Nat := ofSt al10.1 9 4
def al12 : List Gat × Nat := belowSt al11.1 al10.2 al11.2
theorem al1_len : (decide (al1.1.length ≤ 1000)) = true := by kernel_rfl
theorem al2_len : (decide (al2.1.length ≤ 1000)) = true := by kernel_rfl
theorem al3_len : (decide (al3.1.length ≤ 1000)) = true := by kernel_rfl
theorem al4_len : (decide (al4.1.length ≤ 1000)) = true := by kernel_rfl
theorem al5_len : (decide (al5.1.length ≤ 1000)) = true := by kernel_rfl
theorem al6_len : (decide (al6.1.length ≤ 1000)) = true := by kernel_rfl
theorem al7_len : (decide (al7.1.length ≤ 1000)) = true := by kernel_rfl
theorem al8_len : (decide (al8.1.length ≤ 1000)) = true := by kernel_rfl
theorem al9_len : (decide (al9.1.length ≤ 1000)) = true := by kernel_rfl
theorem al10_len : (decide (al10.1.length ≤ 1000)) = true := by kernel_rfl
theorem al11_len : (decide (al11.1.length ≤ 1000)) = true := by kernel_rfl
theorem al12_len : (decide (al12.1.length ≤ 1000)) = true := by kernel_rfl
theorem al3_in1 : (al1.2.all fun x => decide (x < al2.1.length)) = true := by kernel_rfl
theorem al3_in2 : (al2.2.all fun x => decide (x < al2.1.length)) = true := by kernel_rfl
theorem al6_in4 : (al4.2.all fun x => decide (x < al5.1.length)) = true := by kernel_rfl
theorem al6_in5 : (al5.2.all fun x => decide (x < al5.1.length)) = true := by kernel_rfl
theorem al9_in7 : (al7.2.all fun x => decide (x < al8.1.length)) = true := by kernel_rfl
theorem al9_in8 : (al8.2.all fun x => decide (x < al8.1.length)) = true := by kernel_rfl
theorem al12_in10 : (al10.2.all fun x => decide (x < al11.1.length)) = true := by kernel_rfl
theorem al12_in11 : (al11.2.all fun x => decide (x < al11.1.length)) = true := by kernel_rfl
/-- The gates' values of the example. -/
def alV : List Nat := valsL 97 [] al12.1
theorem al_ok : gatesErr 97 0 0 al12.1 = 0 := by kernel_rfl
theorem al_hk : (al12.1.all fun g => decide (0 ≤ g.2.2.2)) = true := by kernel_rfl
theorem al_s_in : (al3.2.1.all fun x => decide (x < al12.1.length)) = true := by kernel_rfl
theorem al_s_bit : (al3.2.1.all fun x => decide (alV.getD x 0 ≤ 1)) = true := by kernel_rfl
theorem al_s_num : numK alV al3.2.1 4 = 5 := by kernel_rfl
theorem al_s_len : al3.2.1.length = 4 := by kernel_rfl
theorem al_d_in : (al6.2.1.all fun x => decide (x < al12.1.length)) = true := by kernel_rfl
theorem al_d_bit : (al6.2.1.all fun x => decide (alV.getD x 0 ≤ 1)) = true := by kernel_rfl
theorem al_d_num : numK alV al6.2.1 4 = 14 := by kernel_rfl
theorem al_d_len : al6.2.1.length = 4 := by kernel_rfl
theorem al_m_in : (al9.2.all fun x => decide (x < al12.1.length)) = true := by kernel_rfl
theorem al_m_bit : (al9.2.all fun x => decide (alV.getD x 0 ≤ 1)) = true := by kernel_rfl
theorem al_m_num : numK alV al9.2 4 = 3 := by kernel_rfl
theorem al_m_len : al9.2.length = 4 := by kernel_rfl
theorem al_l_in : decide (al12.2 < al12.1.length) = true := by kernel_rfl
theorem al_l_val : alV.getD al12.2 0 = 1 := by kernel_rfl
theorem al_v_len : alV.length = al12.1.length := by kernel_rfl
theorem isP97 : isP 97 = true := by kernel_rfl
end Go.Proofs.YtkcdlbclodjjhaaGreat

/- The chapter's example: the walk of alive. (Printed by wip/tools/gen_wu.py.) -/
namespace Go.Proofs.YtkcdlbclodjjhaaGreat
open Go.RowKit

set_option maxHeartbeats 8000000 in
set_option maxRecDepth 100000 in
theorem alive_any (w : World) : Calls Tryz.prog 6 #[] w fun e W' => e = .returned (.bool true) ∧ Below w.heap.size w W' := by
  have H1 : Hid (∀ (W : World), StB w w.heap.size 97 ([] : List Gat) [] W → Calls Tryz.prog 13 #[.pointer (some ⟨w.heap.size, 0, none⟩), .int .i64 4, .int .u64 9] W fun e W' => ∃ vo1, e = .returned vo1 ∧ StB w w.heap.size 97 al1.1 [(vo1, al1.2)] W') :=
    Lib.hid fun W hS => hS.of (by decide) 4 9 (by decide) (by decide) (by decide)
  have H2 : Hid (∀ (W : World) (vo1 : Value), StB w w.heap.size 97 al1.1 [(vo1, al1.2)] W → Calls Tryz.prog 13 #[.pointer (some ⟨w.heap.size, 0, none⟩), .int .i64 4, .int .u64 12] W fun e W' => ∃ vo2, e = .returned vo2 ∧ StB w w.heap.size 97 al2.1 [(vo2, al2.2), (vo1, al1.2)] W') :=
    Lib.hid fun W vo1 hS => hS.of (by decide) 4 12 (by decide) (by decide) (by have := of_decide_eq_true al1_len; omega)
  have H3 : Hid (∀ (W : World) (vo2 vo1 : Value), StB w w.heap.size 97 al2.1 [(vo2, al2.2), (vo1, al1.2)] W → Calls Tryz.prog 12 #[.pointer (some ⟨w.heap.size, 0, none⟩), vo1, vo2] W fun e W' => ∃ vo3, e = .returned (.tuple #[vo3, .int .i64 0]) ∧ StB w w.heap.size 97 al3.1 [(vo3, al3.2.1), (vo2, al2.2), (vo1, al1.2)] W') :=
    Lib.hid fun W vo2 vo1 hS => hS.plus (by decide) (va := vo1) (wa := vo2) (vs := al1.2) (ws := al2.2) (by simp) (by simp) 4 (by kernel_rfl) (by kernel_rfl) (by decide) (by decide) (all_ltB al3_in1) (all_ltB al3_in2) (by have := of_decide_eq_true al2_len; omega)
  have H4 : Hid (∀ (W : World) (vo3 vo2 vo1 : Value), StB w w.heap.size 97 al3.1 [(vo3, al3.2.1), (vo2, al2.2), (vo1, al1.2)] W → Calls Tryz.prog 13 #[.pointer (some ⟨w.heap.size, 0, none⟩), .int .i64 4, .int .u64 3] W fun e W' => ∃ vo4, e = .returned vo4 ∧ StB w w.heap.size 97 al4.1 [(vo4, al4.2), (vo3, al3.2.1), (vo2, al2.2), (vo1, al1.2)] W') :=
    Lib.hid fun W vo3 vo2 vo1 hS => hS.of (by decide) 4 3 (by decide) (by decide) (by have := of_decide_eq_true al3_len; omega)
  have H5 : Hid (∀ (W : World) (vo4 vo3 vo2 vo1 : Value), StB w w.heap.size 97 al4.1 [(vo4, al4.2), (vo3, al3.2.1), (vo2, al2.2), (vo1, al1.2)] W → Calls Tryz.prog 13 #[.pointer (some ⟨w.heap.size, 0, none⟩), .int .i64 4, .int .u64 5] W fun e W' => ∃ vo5, e = .returned vo5 ∧ StB w w.heap.size 97 al5.1 [(vo5, al5.2), (vo4, al4.2), (vo3, al3.2.1), (vo2, al2.2), (vo1, al1.2)] W') :=
    Lib.hid fun W vo4 vo3 vo2 vo1 hS => hS.of (by decide) 4 5 (by decide) (by decide) (by have := of_decide_eq_true al4_len; omega)
  have H6 : Hid (∀ (W : World) (vo5 vo4 vo3 vo2 vo1 : Value), StB w w.heap.size 97 al5.1 [(vo5, al5.2), (vo4, al4.2), (vo3, al3.2.1), (vo2, al2.2), (vo1, al1.2)] W → Calls Tryz.prog 14 #[.pointer (some ⟨w.heap.size, 0, none⟩), vo4, vo5] W fun e W' => ∃ vo6, e = .returned (.tuple #[vo6, .int .i64 0]) ∧ StB w w.heap.size 97 al6.1 [(vo6, al6.2.1), (vo5, al5.2), (vo4, al4.2), (vo3, al3.2.1), (vo2, al2.2), (vo1, al1.2)] W') :=
    Lib.hid fun W vo5 vo4 vo3 vo2 vo1 hS => hS.minus (by decide) (va := vo4) (wa := vo5) (vs := al4.2) (ws := al5.2) (by simp) (by simp) 4 (by kernel_rfl) (by kernel_rfl) (by decide) (by decide) (all_ltB al6_in4) (all_ltB al6_in5) (by have := of_decide_eq_true al5_len; omega)
  have H7 : Hid (∀ (W : World) (vo6 vo5 vo4 vo3 vo2 vo1 : Value), StB w w.heap.size 97 al6.1 [(vo6, al6.2.1), (vo5, al5.2), (vo4, al4.2), (vo3, al3.2.1), (vo2, al2.2), (vo1, al1.2)] W → Calls Tryz.prog 13 #[.pointer (some ⟨w.heap.size, 0, none⟩), .int .i64 4, .int .u64 5] W fun e W' => ∃ vo7, e = .returned vo7 ∧ StB w w.heap.size 97 al7.1 [(vo7, al7.2), (vo6, al6.2.1), (vo5, al5.2), (vo4, al4.2), (vo3, al3.2.1), (vo2, al2.2), (vo1, al1.2)] W') :=
    Lib.hid fun W vo6 vo5 vo4 vo3 vo2 vo1 hS => hS.of (by decide) 4 5 (by decide) (by decide) (by have := of_decide_eq_true al6_len; omega)
  have H8 : Hid (∀ (W : World) (vo7 vo6 vo5 vo4 vo3 vo2 vo1 : Value), StB w w.heap.size 97 al7.1 [(vo7, al7.2), (vo6, al6.2.1), (vo5, al5.2), (vo4, al4.2), (vo3, al3.2.1), (vo2, al2.2), (vo1, al1.2)] W → Calls Tryz.prog 13 #[.pointer (some ⟨w.heap.size, 0, none⟩), .int .i64 4, .int .u64 7] W fun e W' => ∃ vo8, e = .returned vo8 ∧ StB w w.heap.size 97 al8.1 [(vo8, al8.2), (vo7, al7.2), (vo6, al6.2.1), (vo5, al5.2), (vo4, al4.2), (vo3, al3.2.1), (vo2, al2.2), (vo1, al1.2)] W') :=
    Lib.hid fun W vo7 vo6 vo5 vo4 vo3 vo2 vo1 hS => hS.of (by decide) 4 7 (by decide) (by decide) (by have := of_decide_eq_true al7_len; omega)
  have H9 : Hid (∀ (W : World) (vo8 vo7 vo6 vo5 vo4 vo3 vo2 vo1 : Value), StB w w.heap.size 97 al8.1 [(vo8, al8.2), (vo7, al7.2), (vo6, al6.2.1), (vo5, al5.2), (vo4, al4.2), (vo3, al3.2.1), (vo2, al2.2), (vo1, al1.2)] W → Calls Tryz.prog 15 #[.pointer (some ⟨w.heap.size, 0, none⟩), vo7, vo8] W fun e W' => ∃ vo9, e = .returned (.tuple #[vo9, .int .i64 0]) ∧ StB w w.heap.size 97 al9.1 [(vo9, al9.2), (vo8, al8.2), (vo7, al7.2), (vo6, al6.2.1), (vo5, al5.2), (vo4, al4.2), (vo3, al3.2.1), (vo2, al2.2), (vo1, al1.2)] W') :=
    Lib.hid fun W vo8 vo7 vo6 vo5 vo4 vo3 vo2 vo1 hS => hS.times (by decide) (va := vo7) (wa := vo8) (vs := al7.2) (ws := al8.2) (by simp) (by simp) 4 (by kernel_rfl) (by kernel_rfl) (by decide) (by decide) (all_ltB al9_in7) (all_ltB al9_in8) (by have := of_decide_eq_true al8_len; omega)
  have H10 : Hid (∀ (W : World) (vo9 vo8 vo7 vo6 vo5 vo4 vo3 vo2 vo1 : Value), StB w w.heap.size 97 al9.1 [(vo9, al9.2), (vo8, al8.2), (vo7, al7.2), (vo6, al6.2.1), (vo5, al5.2), (vo4, al4.2), (vo3, al3.2.1), (vo2, al2.2), (vo1, al1.2)] W → Calls Tryz.prog 13 #[.pointer (some ⟨w.heap.size, 0, none⟩), .int .i64 4, .int .u64 3] W fun e W' => ∃ vo10, e = .returned vo10 ∧ StB w w.heap.size 97 al10.1 [(vo10, al10.2), (vo9, al9.2), (vo8, al8.2), (vo7, al7.2), (vo6, al6.2.1), (vo5, al5.2), (vo4, al4.2), (vo3, al3.2.1), (vo2, al2.2), (vo1, al1.2)] W') :=
    Lib.hid fun W vo9 vo8 vo7 vo6 vo5 vo4 vo3 vo2 vo1 hS => hS.of (by decide) 4 3 (by decide) (by decide) (by have := of_decide_eq_true al9_len; omega)
  have H11 : Hid (∀ (W : World) (vo10 vo9 vo8 vo7 vo6 vo5 vo4 vo3 vo2 vo1 : Value), StB w w.heap.size 97 al10.1 [(vo10, al10.2), (vo9, al9.2), (vo8, al8.2), (vo7, al7.2), (vo6, al6.2.1), (vo5, al5.2), (vo4, al4.2), (vo3, al3.2.1), (vo2, al2.2), (vo1, al1.2)] W → Calls Tryz.prog 13 #[.pointer (some ⟨w.heap.size, 0, none⟩), .int .i64 4, .int .u64 9] W fun e W' => ∃ vo11, e = .returned vo11 ∧ StB w w.heap.size 97 al11.1 [(vo11, al11.2), (vo10, al10.2), (vo9, al9.2), (vo8, al8.2), (vo7, al7.2), (vo6, al6.2.1), (vo5, al5.2), (vo4, al4.2), (vo3, al3.2.1), (vo2, al2.2), (vo1, al1.2)] W') :=
    Lib.hid fun W vo10 vo9 vo8 vo7 vo6 vo5 vo4 vo3 vo2 vo1 hS => hS.of (by decide) 4 9 (by decide) (by decide) (by have := of_decide_eq_true al10_len; omega)
  have H12 : Hid (∀ (W : World) (vo11 vo10 vo9 vo8 vo7 vo6 vo5 vo4 vo3 vo2 vo1 : Value), StB w w.heap.size 97 al11.1 [(vo11, al11.2), (vo10, al10.2), (vo9, al9.2), (vo8, al8.2), (vo7, al7.2), (vo6, al6.2.1), (vo5, al5.2), (vo4, al4.2), (vo3, al3.2.1), (vo2, al2.2), (vo1, al1.2)] W → Calls Tryz.prog 16 #[.pointer (some ⟨w.heap.size, 0, none⟩), vo10, vo11] W fun e W' => e = .returned (.tuple #[.int .i64 ((al12.2 : Nat) : Int), .int .i64 0]) ∧ StB w w.heap.size 97 al12.1 [(vo11, al11.2), (vo10, al10.2), (vo9, al9.2), (vo8, al8.2), (vo7, al7.2), (vo6, al6.2.1), (vo5, al5.2), (vo4, al4.2), (vo3, al3.2.1), (vo2, al2.2), (vo1, al1.2)] W') :=
    Lib.hid fun W vo11 vo10 vo9 vo8 vo7 vo6 vo5 vo4 vo3 vo2 vo1 hS => hS.less (by decide) (va := vo10) (wa := vo11) (vs := al10.2) (ws := al11.2) (by simp) (by simp) 4 (by kernel_rfl) (by kernel_rfl) (by decide) (by decide) (all_ltB al12_in10) (all_ltB al12_in11) (by have := of_decide_eq_true al11_len; omega)
  have HQ : Hid (∀ (W : World) (vo11 vo10 vo9 vo8 vo7 vo6 vo5 vo4 vo3 vo2 vo1 : Value), StB w w.heap.size 97 al12.1 [(vo11, al11.2), (vo10, al10.2), (vo9, al9.2), (vo8, al8.2), (vo7, al7.2), (vo6, al6.2.1), (vo5, al5.2), (vo4, al4.2), (vo3, al3.2.1), (vo2, al2.2), (vo1, al1.2)] W → Calls Tryz.prog 8 #[.pointer (some ⟨w.heap.size, 0, none⟩)] W fun e W' => ∃ S sc Ga gc, e = .returned (.agg #[.slice S 0 sc, .slice Ga al12.1.length gc, nilS]) ∧ HoldsC W' (⟨[], al12.1, [], S, Ga, none, sc, gc, 0⟩ : Cir) ∧ StB w w.heap.size 97 al12.1 [(vo11, al11.2), (vo10, al10.2), (vo9, al9.2), (vo8, al8.2), (vo7, al7.2), (vo6, al6.2.1), (vo5, al5.2), (vo4, al4.2), (vo3, al3.2.1), (vo2, al2.2), (vo1, al1.2)] W') :=
    Lib.hid fun W vo11 vo10 vo9 vo8 vo7 vo6 vo5 vo4 vo3 vo2 vo1 hS => by
      obtain ⟨v2, hI⟩ := hS.ex
      refine (circuit_ok w.heap.size 97 (by decide) [] al12.1 nilS v2 (by decide) (by have := of_decide_eq_true al12_len; omega) W hI).mono fun _ _ he => ?_
      obtain ⟨S, sc, Ga, gc, e1, h2, h3, h4⟩ := he
      refine ⟨S, sc, Ga, gc, e1, ⟨own_reads_at h2, own_reads_at h3, .inl rfl, by simp, ⟨Nat.zero_le _, by have := of_decide_eq_true al12_len; simp only; omega, Nat.zero_le _⟩, by simp, fun g hg => of_decide_eq_true (List.all_eq_true.1 al_hk g hg)⟩, hS.below h4⟩
  have HN : Hid (Calls Tryz.prog 4 #[.int .u64 97] w fun e W' => e = .returned (.tuple #[.pointer (some ⟨w.heap.size, 0, none⟩), .int .i64 0]) ∧ StB w w.heap.size 97 ([] : List Gat) [] W') :=
    Lib.hid ((new_ok 97 (by decide) isP97 w).mono fun _ _ he => ⟨he.1, ⟨nilS, he.2.1⟩, he.2.2, by simp⟩)
  go_enter Tryz.func6, Tryz.ntmps6
  go_wp2_with (first | (go_at_call 16; refine (H12.out _ _ _ _ _ _ _ _ _ _ _ _ HS11.out).mono ?_; rintro e w12 ⟨rfl, hS⟩; have HS12 := Lib.hid hS; clear hS) | (go_at_call 13; refine (H11.out _ _ _ _ _ _ _ _ _ _ _ HS10.out).mono ?_; rintro e w11 ⟨vo11, rfl, hS⟩; have HS11 := Lib.hid hS; clear hS) | (go_at_call 13; refine (H10.out _ _ _ _ _ _ _ _ _ _ HS9.out).mono ?_; rintro e w10 ⟨vo10, rfl, hS⟩; have HS10 := Lib.hid hS; clear hS) | (go_at_call 15; refine (H9.out _ _ _ _ _ _ _ _ _ HS8.out).mono ?_; rintro e w9 ⟨vo9, rfl, hS⟩; have HS9 := Lib.hid hS; clear hS) | (go_at_call 13; refine (H8.out _ _ _ _ _ _ _ _ HS7.out).mono ?_; rintro e w8 ⟨vo8, rfl, hS⟩; have HS8 := Lib.hid hS; clear hS) | (go_at_call 13; refine (H7.out _ _ _ _ _ _ _ HS6.out).mono ?_; rintro e w7 ⟨vo7, rfl, hS⟩; have HS7 := Lib.hid hS; clear hS) | (go_at_call 14; refine (H6.out _ _ _ _ _ _ HS5.out).mono ?_; rintro e w6 ⟨vo6, rfl, hS⟩; have HS6 := Lib.hid hS; clear hS) | (go_at_call 13; refine (H5.out _ _ _ _ _ HS4.out).mono ?_; rintro e w5 ⟨vo5, rfl, hS⟩; have HS5 := Lib.hid hS; clear hS) | (go_at_call 13; refine (H4.out _ _ _ _ HS3.out).mono ?_; rintro e w4 ⟨vo4, rfl, hS⟩; have HS4 := Lib.hid hS; clear hS) | (go_at_call 12; refine (H3.out _ _ _ HS2.out).mono ?_; rintro e w3 ⟨vo3, rfl, hS⟩; have HS3 := Lib.hid hS; clear hS) | (go_at_call 13; refine (H2.out _ _ HS1.out).mono ?_; rintro e w2 ⟨vo2, rfl, hS⟩; have HS2 := Lib.hid hS; clear hS) | (go_at_call 13; refine (H1.out _ HS0.out).mono ?_; rintro e w1 ⟨vo1, rfl, hS⟩; have HS1 := Lib.hid hS; clear hS) | (go_at_call 4; refine HN.out.mono ?_; rintro e w0 ⟨rfl, hS⟩; have HS0 := Lib.hid hS; clear hS))
  go_wp2_with (first | (go_at_call 8; refine (HQ.out _ _ _ _ _ _ _ _ _ _ _ _ HS12.out).mono ?_; rintro e w13 ⟨S, sc, Ga, gc, rfl, hC, hS⟩; have HC := Lib.hid hC; have HS13 := Lib.hid hS; clear hC hS))
  have hr3 := HS13.out.rw (vo3, al3.2.1) (by simp)
  have hr6 := HS13.out.rw (vo6, al6.2.1) (by simp)
  have hr9 := HS13.out.rw (vo9, al9.2) (by simp)
  simp only [al_s_len, al_d_len, al_m_len] at hr3 hr6 hr9
  obtain ⟨g3, c3, rfl, _, _⟩ := own_form hr3 (by decide)
  obtain ⟨g6, c6, rfl, _, _⟩ := own_form hr6 (by decide)
  obtain ⟨g9, c9, rfl, _, _⟩ := own_form hr9 (by decide)
  have hbW : Below w13.heap.size w13 (w13.alloc (.cells #[.slice S 0 sc, .slice Ga al12.1.length gc, nilS] 36)) := (Below.refl _ _).alloc (Nat.le_refl _) _
  have hlow := HS13.out.low
  have hbx : (w13.alloc (.cells #[.slice S 0 sc, .slice Ga al12.1.length gc, nilS] 36)).heap[w13.heap.size]? = some (.cells #[.slice S 0 sc, .slice Ga al12.1.length gc, nilS] 36 (0, 0)) := heap_alloc_new w13 _
  generalize hw14 : w13.alloc (.cells #[.slice S 0 sc, .slice Ga al12.1.length gc, nilS] 36) = w14 at *
  have R3 := Lib.hid (own_reads_at (own_below hr3 hbW)); have R6 := Lib.hid (own_reads_at (own_below hr6 hbW)); have R9 := Lib.hid (own_reads_at (own_below hr9 hbW))
  have HC14 := Lib.hid (HC.out.below hbW)
  have HL14 := Lib.hid (hlow.trans (hbW.mono (Nat.le_of_lt HS13.out.len)))
  have l14 : w.heap.size ≤ w14.heap.size := HL14.out.size
  obtain ⟨c0, c1, c2, f0, f1, f2⟩ := box_facts hbx
  have l13 : w13.heap.size < w14.heap.size := (Array.getElem?_eq_some_iff.1 hbx).1
  have hcells : ∀ W, Below w14.heap.size w14 W → W.cell? ⟨w13.heap.size, 0, none⟩ = some (.slice S 0 sc) ∧ W.cell? ⟨w13.heap.size, 1, none⟩ = some (.slice Ga al12.1.length gc) ∧ W.cell? ⟨w13.heap.size, 2, none⟩ = some nilS := fun W hb => ⟨(hb.cell l13).trans c0, (hb.cell l13).trans c1, (hb.cell l13).trans c2⟩
  have HCE := Lib.hid hcells
  have hCC : checkErr 97 (⟨[], al12.1, [], S, Ga, none, sc, gc, 0⟩ : Cir) = 0 := by kernel_rfl
  have HCK : Hid (∀ W, Below w14.heap.size w14 W → Calls Tryz.prog 17 #[.int .u64 97, .agg #[.slice S 0 sc, .slice Ga al12.1.length gc, nilS]] W fun e W' => e = .returned (.int .i64 0) ∧ Below w14.heap.size w14 W') :=
    Lib.hid fun W hb => (rcheck_any 97 (by decide) ⟨[], al12.1, [], S, Ga, none, sc, gc, 0⟩ W (HC14.out.below hb)).mono fun _ _ he => by
      obtain ⟨e1, e2⟩ := he
      rw [hCC] at e1
      exact ⟨e1, hb.trans (e2.mono hb.size)⟩
  have HPL : Hid (∀ W A c, Below w14.heap.size w14 W → Reads W A (nCells (al12.2 :: (al3.2.1 ++ al6.2.1 ++ al9.2))) → Calls Tryz.prog 18 #[.agg #[.slice S 0 sc, .slice Ga al12.1.length gc, nilS], .slice A 13 c] W fun e W' => e = .returned (.int .i64 0) ∧ Below w14.heap.size w14 W') :=
    Lib.hid fun W A c hb hA => (places_ok S Ga none 0 sc al12.1.length gc 0 0 (al12.2 :: (al3.2.1 ++ al6.2.1 ++ al9.2)) A c 13 (by simp [al_s_len, al_d_len, al_m_len]) (by decide) (by
      intro x hx
      rcases List.mem_cons.1 hx with rfl | hx
      · exact of_decide_eq_true al_l_in
      · rcases List.mem_append.1 hx with hx | hx
        · rcases List.mem_append.1 hx with hx | hx
          · exact all_ltB al_s_in x hx
          · exact all_ltB al_d_in x hx
        · exact all_ltB al_m_in x hx) W hA).mono fun _ _ he => ⟨he.1, hb.trans (he.2.mono hb.size)⟩
  clear hr3 hr6 hr9 hbW hlow hbx hcells hw14 hCC H1 H2 H3 H4 H5 H6 H7 H8 H9 H10 H11 H12 HN HQ HS0 HS1 HS2 HS3 HS4 HS5 HS6 HS7 HS8 HS9 HS10 HS11 HS12 HS13 HC
  go_wp2
  go_region_held3 (fun W => W.cell? ⟨w13.heap.size, 0, none⟩ = some (.slice S 0 sc) ∧ W.cell? ⟨w13.heap.size, 1, none⟩ = some (.slice Ga al12.1.length gc) ∧ W.cell? ⟨w13.heap.size, 2, none⟩ = some nilS) (first | exact HCE.out _ (Below.refl _ _).drew | exact HCE.out _ HBp.out | exact HCE.out _ HB3.out | exact HCE.out _ HB2.out | exact HCE.out _ HB1.out | exact HCE.out _ (HBc.out.alloc HBc.out.size _) | exact HCE.out _ HBc.out) (first
    | (go_at_call 17; refine (HCK.out _ (Below.refl _ _).drew).mono ?_; rintro e wc ⟨rfl, hb⟩; have HBc := Lib.hid hb; clear hb)
    | (go_at_call 18; refine (HPL.out _ _ _ HB3.out HR3.out).mono ?_; rintro e wp ⟨rfl, hb⟩; have HBp := Lib.hid hb; clear hb)
    | (refine step_app_slice wc.heap.size (by rfl) _ _ 38 3 _ 8 rfl Tryz.underlying38 infoInt rfl (by decide) _ 9 (nCells (al12.2 :: (al3.2.1 ++ al6.2.1))) (nCells al9.2) rfl ⟨g9, 0, none⟩ 4 c9 rfl (by unfold nCells; rw [List.length_map]; exact al_m_len) (reads_get R9.out HB2.out) (one_nat _) HO2.out (by have h5 := HB2.out.size; have h6 := HZ2.out; omega) (by decide) ?_; intro va3 wa3 hown hg; have hown' : wa3.ownsRow wc.heap.size 3 1 va3 13 (nCells (al12.2 :: (al3.2.1 ++ al6.2.1 ++ al9.2))) := (by simpa [nCells] using hown); obtain ⟨A3, ca3, rfl, hrd⟩ := own_nat hown'; have HR3 := Lib.hid hrd; have HB3 := Lib.hid (HB2.out.grown hg HB2.out.size (fun q hq => Nat.le_trans HBc.out.size (HO2.out.lt q hq).1)); clear hown hown' hg hrd)
    | (refine step_app_slice wc.heap.size (by rfl) _ _ 38 3 _ 8 rfl Tryz.underlying38 infoInt rfl (by decide) _ 5 (nCells (al12.2 :: al3.2.1)) (nCells al6.2.1) rfl ⟨g6, 0, none⟩ 4 c6 rfl (by unfold nCells; rw [List.length_map]; exact al_d_len) (reads_get R6.out HB1.out) (one_nat _) HO1.out (by have h6 := HZ1.out; omega) (by decide) ?_; intro va2 wa2 hown hg; have hown' : wa2.ownsRow wc.heap.size 3 1 va2 9 (nCells (al12.2 :: (al3.2.1 ++ al6.2.1))) := (by simpa [nCells] using hown); have HO2 := Lib.hid hown'; have HB2 := Lib.hid (HB1.out.grown hg HB1.out.size (fun q hq => Nat.le_trans HBc.out.size (HO1.out.lt q hq).1)); have HZ2 := Lib.hid (Nat.le_trans HZ1.out hg.size); clear hown hown' hg)
    | (refine step_app_slice wc.heap.size (by rfl) _ _ 38 3 _ 8 rfl Tryz.underlying38 infoInt rfl (by decide) _ 1 [.int .i64 ((al12.2 : Nat) : Int)] (nCells al3.2.1) rfl ⟨g3, 0, none⟩ 4 c3 rfl (by unfold nCells; rw [List.length_map]; exact al_s_len) (reads_get R3.out (HBc.out.alloc HBc.out.size _)) (one_nat _) (own_fresh wc _ _) (by simp) (by decide) ?_; intro va1 wa1 hown hg; have hown' : wa1.ownsRow wc.heap.size 3 1 va1 5 (nCells (al12.2 :: al3.2.1)) := (by simpa [nCells] using hown); have HO1 := Lib.hid hown'; have HB1 := Lib.hid ((HBc.out.alloc HBc.out.size (.cells #[.int .i64 ((al12.2 : Nat) : Int)] 3)).grown hg (by have h5 := HBc.out.size; simp; omega) (fun q hq => by cases hq; exact HBc.out.size)); have HZ1 : Hid (wc.heap.size ≤ wa1.heap.size) := Lib.hid (by have h5 := hg.size; simp at h5; omega); clear hown hown' hg))
  have hcp := HCE.out wp HBp.out
  obtain ⟨c0, c1, c2⟩ := hcp
  have hCp := HC14.out.below HBp.out
  have HVV : Hid (Calls Tryz.prog 19 #[.int .u64 97, .agg #[.slice S 0 sc, .slice Ga al12.1.length gc, nilS], .slice none 0 0] wp fun e W' => ∃ vad vc, e = .returned (.slice (some vad) al12.1.length vc) ∧ Reads W' (some vad) (uCells alV) ∧ Below w14.heap.size w14 W') :=
    Lib.hid ((rvalues_any 97 (by decide) (by decide) ⟨[], al12.1, [], S, Ga, none, sc, gc, 0⟩ [] rfl (gatesErr_zero al_ok) (by have := of_decide_eq_true al12_len; simp only; omega) none 0 wp hCp (.inl rfl)).mono fun _ _ he => by
      obtain ⟨v, e1, h2, h3⟩ := he
      obtain ⟨g, c, rfl, _, _⟩ := own_form h2 (by have := of_decide_eq_true al_l_in; simp only; omega)
      exact ⟨_, c, e1, own_reads_at h2, HBp.out.trans (h3.mono HBp.out.size)⟩)
  have HLI := Lib.hid (of_decide_eq_true al_l_in)
  clear hCp HCK HPL HCE
  go_wp2_with (go_at_call 19; refine HVV.out.mono ?_; rintro e wv ⟨vad, vc, rfl, hV, hB⟩; have HV := Lib.hid hV; have HBv := Lib.hid hB; clear hV hB)
  have HN3 := Lib.hid (number_ok alV al3.2.1 (some vad) (some ⟨g3, 0, none⟩) vc c3 4 al12.1.length al_s_len al_v_len (by decide) (all_ltB al_s_in) (fun x hx => of_decide_eq_true (List.all_eq_true.1 al_s_bit x hx)) wv HV.out (R3.out.below HBv.out))
  have HN6 := Lib.hid (number_ok alV al6.2.1 (some vad) (some ⟨g6, 0, none⟩) vc c6 4 al12.1.length al_d_len al_v_len (by decide) (all_ltB al_d_in) (fun x hx => of_decide_eq_true (List.all_eq_true.1 al_d_bit x hx)) wv HV.out (R6.out.below HBv.out))
  have HN9 := Lib.hid (number_ok alV al9.2 (some vad) (some ⟨g9, 0, none⟩) vc c9 4 al12.1.length al_m_len al_v_len (by decide) (all_ltB al_m_in) (fun x hx => of_decide_eq_true (List.all_eq_true.1 al_m_bit x hx)) wv HV.out (R9.out.below HBv.out))
  rw [al_s_num] at HN3
  rw [al_d_num] at HN6
  rw [al_m_num] at HN9
  have hll : al12.2 < alV.length := by rw [al_v_len]; exact HLI.out
  obtain ⟨vad', e1, q5⟩ := HV.out.uat al12.2 hll
  injection e1 with e1
  subst e1
  have hval : alV[al12.2] = 1 := by rw [← getD_at hll]; exact al_l_val
  rw [hval] at q5
  clear hll hval c0 c1 c2
  have i1 : (0 : Int) ≤ ((al12.2 : Nat) : Int) := by omega
  have i2 : ((al12.2 : Nat) : Int) < (al12.1.length : Int) := by have := HLI.out; omega
  go_wp2_with (first | (go_at_call 20; with_reducible refine HN3.out.mono ?_; rintro e wn ⟨rfl, rfl⟩) | (go_at_call 20; with_reducible refine HN6.out.mono ?_; rintro e wn ⟨rfl, rfl⟩) | (go_at_call 20; with_reducible refine HN9.out.mono ?_; rintro e wn ⟨rfl, rfl⟩))
  go_ret
  exact ⟨rfl, HL14.out.trans (HBv.out.mono l14)⟩
end Go.Proofs.YtkcdlbclodjjhaaGreat

/- Contracts of the board's Slot. (Printed by wip/tools/gen_slot.py.) -/
namespace Go.Proofs.YtkcdlbclodjjhaaGreat
open Go.RowKit

/-- The slots' row grew. -/
theorem IsB.slot {B p : Nat} {sl : List Slo} {G : List Gat} {xs : List Exi} {v1 v2 v3 v : Value} {W W3 : World} (h : IsB B p sl G xs v1 v2 v3 W) {x : Slo} (ho : W3.ownsRow (B + 1) 40 2 v (sl.length + 1) (sloCells sl ++ [.int .i64 x.1, .bool x.2])) (hg : W.grownBy W3 v1.ownBlock) :
    IsB B p (sl ++ [x]) G xs v v2 v3 (W3.setCell ⟨B, 1, none⟩ v) := by
  refine ⟨?_, own_set (h.h2.kept hg (own_ne h.h2 h.h1 (by decide))) (Nat.lt_succ_self _) _, own_set (h.h3.kept hg (own_ne h.h3 h.h1 (by decide))) (Nat.lt_succ_self _) _, fun y hy => ⟨(h.hx y hy).1.map fun o => own_set (o.kept hg (own_ne o h.h1 (by decide))) (Nat.lt_succ_self _) _, (h.hx y hy).2.map fun o => own_set (o.kept hg (own_ne o h.h1 (by decide))) (Nat.lt_succ_self _) _⟩, ?_, h.hk, h.hz⟩
  · have := own_set ho (p := ⟨B, 1, none⟩) (Nat.lt_succ_self _) v
    rw [show sloCells (sl ++ [x]) = sloCells sl ++ [.int .i64 x.1, .bool x.2] by simp [sloCells]]
    simpa using this
  · exact box_set ((hg.block _ h.lt (own_past h.h1 (Nat.lt_succ_self _))).trans h.hb) v
set_option maxHeartbeats 2000000 in
set_option maxRecDepth 100000 in
theorem slot_full (B p : Nat) (hp : 0 < p) (sl : List Slo) (G : List Gat) (xs : List Exi) (v1 v2 v3 : Value) (x : Slo) (hx1 : 1 ≤ x.1) (hx2 : x.1 ≤ 13) (hs : 256 ≤ sl.length) (w : World) (h : IsB B p sl G xs v1 v2 v3 w) :
    Calls Tryz.prog 26 #[.pointer (some ⟨B, 0, none⟩), .agg #[.int .i64 x.1, .bool x.2]] w fun e W' => e = .returned (.tuple #[.int .i64 0, .int .i64 3]) ∧ Below w.heap.size w W' := by
  obtain ⟨SA, sc, rfl, _⟩ := own_reads h.h1
  obtain ⟨GA, gc, rfl, _⟩ := own_reads h.h2
  have q0 := (box4 h.hb).1
  have HM := Lib.hid (fun W q => made_any B p hp W q)
  have HI := Lib.hid h
  have hlt := h.lt
  obtain ⟨x1, x2⟩ := x
  simp only at hx1 hx2 ⊢
  have d1 : decide (x1 < 1) = false := decide_eq_false (by omega)
  have d2 : decide ((13 : Int) < x1) = false := decide_eq_false (by omega)
  have d3 : decide ((256 : Int) ≤ (sl.length : Int)) = true := decide_eq_true (by omega)
  have i1 : ¬ x1 < 1 := by omega
  have i2 : ¬ (13 : Int) < x1 := by omega
  have i3 : (256 : Int) ≤ (sl.length : Int) := by omega
  clear h
  go_enter Tryz.func26, Tryz.ntmps26
  go_wp2_with (first | (go_at_call 22; refine (HM.out _ (cell_al q0)).mono ?_; rintro e w1 ⟨rfl, hw1⟩; have hb1 : Below w.heap.size w w1 := (by rw [← hw1]; exact (Below.refl _ _).alloc (Nat.le_refl _) _); have c0 : w1.cell? ⟨w.heap.size, 0, none⟩ = some (.int .i64 x1) := (by rw [← hw1]; exact (two_cells w _ _ _).1); have c1 : w1.cell? ⟨w.heap.size, 1, none⟩ = some (.bool x2) := (by rw [← hw1]; exact (two_cells w _ _ _).2); clear hw1; have hbb := box4 ((hb1.block _ hlt).trans HI.out.hb); clear q0; have q0 : w1.cell? ⟨B, 0, none⟩ = _ := hbb.1; have q1 : w1.cell? ⟨B, 1, none⟩ = _ := hbb.2.1; have q2 : w1.cell? ⟨B, 2, none⟩ = _ := hbb.2.2.1; have HB1 := Lib.hid hb1; clear hb1 hbb))
  exact bodyPost_ret (v := .tuple #[.int .i64 0, .int .i64 3]) (by simp [results, Tryz.results26, go_sem]) rfl ⟨rfl, HB1.out⟩
end Go.Proofs.YtkcdlbclodjjhaaGreat
