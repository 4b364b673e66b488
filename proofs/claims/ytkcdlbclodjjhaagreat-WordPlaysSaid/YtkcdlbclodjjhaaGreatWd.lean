/- Contracts and plain laws of chapter 12, those that chapter 13 needs (kept by wip/tools/trim13.py). -/
import Derived.Test.YtkcdlbclodjjhaaGreatWa
import Derived.Test.YtkcdlbclodjjhaaGreatWb
import Derived.Test.YtkcdlbclodjjhaaGreatWc
namespace Go.Proofs.YtkcdlbclodjjhaaGreat
open Go.RowKit

/- Contracts of circ.Check and the reference's Check. -/

def gErr (p : Nat) (n : Int) (i : Int) (g : Gat) : Int := gateErr p n i g.1 g.2.1 g.2.2.1 g.2.2.2
def gatesErr (p : Nat) (n : Int) : Nat → List Gat → Int
  | _, [] => 0
  | i, g :: r => if gErr p n i g = 0 then gatesErr p n (i + 1) r else gErr p n i g
def xErr (m : Int) (x : Exi) : Int := exitErr m x.tl x.gl
def exitsErr (m : Int) : List Exi → Int
  | [] => 0
  | x :: r => if xErr m x = 0 then exitsErr m r else xErr m x
def tooBig (C : Cir) : Prop := 256 < C.slots.length ∨ 65536 < C.gates.length ∨ 4096 < C.exits.length
instance (C : Cir) : Decidable (tooBig C) := inferInstanceAs (Decidable (_ ∨ _ ∨ _))
/-- What is wrong with a circuit. -/
def checkErr (p : Nat) (C : Cir) : Int :=
  if isP p = false then 2 else if tooBig C then 3 else if C.slots.any badSlot = true then 2
  else if gatesErr p C.slots.length 0 C.gates = 0 then exitsErr C.gates.length C.exits else gatesErr p C.slots.length 0 C.gates
theorem gatesErr_at {p : Nat} {n : Int} {l : List Gat} {k : Nat} (hk : k < l.length) : gatesErr p n k (l.drop k) = if gErr p n k l[k] = 0 then gatesErr p n (k + 1) (l.drop (k + 1)) else gErr p n k l[k] := by
  rw [List.drop_eq_getElem_cons hk]; rfl
theorem gatesErr_end {p : Nat} {n : Int} {l : List Gat} : gatesErr p n l.length (l.drop l.length) = 0 := by rw [List.drop_length]; rfl
theorem exitsErr_at {m : Int} {l : List Exi} {k : Nat} (hk : k < l.length) : exitsErr m (l.drop k) = if xErr m l[k] = 0 then exitsErr m (l.drop (k + 1)) else xErr m l[k] := by
  rw [List.drop_eq_getElem_cons hk]; rfl
theorem exitsErr_end {m : Int} {l : List Exi} : exitsErr m (l.drop l.length) = 0 := by rw [List.drop_length]; rfl
theorem ck1 {p : Nat} {C : Cir} (h : isP p = false) : (2 : Int) = checkErr p C := by unfold checkErr; rw [if_pos h]
theorem ck2 {p : Nat} {C : Cir} (h : isP p = true) (h2 : tooBig C) : (3 : Int) = checkErr p C := by unfold checkErr; rw [if_neg (by rw [h]; simp), if_pos h2]
theorem ck3 {p : Nat} {C : Cir} (h : isP p = true) (h2 : ¬ tooBig C) (h3 : C.slots.any badSlot = true) : (2 : Int) = checkErr p C := by unfold checkErr; rw [if_neg (by rw [h]; simp), if_neg h2, if_pos h3]
theorem ck4 {p : Nat} {C : Cir} (h : isP p = true) (h2 : ¬ tooBig C) (h3 : C.slots.any badSlot = false) {x : Int} (h4 : gatesErr p C.slots.length 0 C.gates = x) (h5 : x ≠ 0) : x = checkErr p C := by
  unfold checkErr; rw [if_neg (by rw [h]; simp), if_neg h2, if_neg (by rw [h3]; simp), h4, if_neg h5]
theorem ck5 {p : Nat} {C : Cir} (h : isP p = true) (h2 : ¬ tooBig C) (h3 : C.slots.any badSlot = false) (h4 : gatesErr p C.slots.length 0 C.gates = 0) {x : Int} (h5 : exitsErr C.gates.length C.exits = x) : x = checkErr p C := by
  unfold checkErr; rw [if_neg (by rw [h]; simp), if_neg h2, if_neg (by rw [h3]; simp), h4, if_pos rfl, h5]
theorem below_alive {W0 w w1 : World} (h : Below W0.heap.size W0 w) (k : Below w.heap.size w w1) : Below W0.heap.size W0 w1 := h.trans (k.mono h.size)
set_option maxHeartbeats 4000000 in
set_option maxRecDepth 100000 in
theorem rcheck_any (p : Nat) (hp : p < 18446744073709551616) (C : Cir) (w : World) (hC : HoldsC w C) :
    Calls Tryz.prog 17 #[.int .u64 p, .agg #[.slice C.SA C.slots.length C.sc, .slice C.GA C.gates.length C.gc, .slice C.EA C.exits.length C.ec]] w (GatePost (checkErr p C) w) := by
  have hb0 : Below w.heap.size w (w.alloc (.cells #[.slice C.SA C.slots.length C.sc, .slice C.GA C.gates.length C.gc, .slice C.EA C.exits.length C.ec] 36)) := (Below.refl _ _).alloc (Nat.le_refl _) _
  have HC := Lib.hid (hC.below hb0)
  obtain ⟨n1, n2, n3⟩ := hC.n
  have his := fun W => rIs_any p hp W
  clear hC
  rcases Bool.eq_false_or_eq_true (isP p) with hq | hq
  · have hp0 : 0 < p := by have := ((isP_iff p).1 hq).1; omega
    rw [hq] at his
    have HI := Lib.hid his; clear his
    have HQ := Lib.hid hq; clear hq
    by_cases hbig : tooBig C
    · have HT := Lib.hid hbig
      unfold tooBig at hbig
      by_cases b1 : 256 < C.slots.length
      · clear hbig
        go_enter Tryz.func17, Tryz.ntmps17
        go_wp2_with (go_at_call 5; refine (HI.out _).mono ?_; rintro e w' ⟨rfl, rfl⟩)
        go_ret
        exact ⟨ret_e (ck2 HQ.out HT.out), hb0⟩
      by_cases b2 : 65536 < C.gates.length
      · clear hbig
        go_enter Tryz.func17, Tryz.ntmps17
        go_wp2_with (go_at_call 5; refine (HI.out _).mono ?_; rintro e w' ⟨rfl, rfl⟩)
        go_ret
        exact ⟨ret_e (ck2 HQ.out HT.out), hb0⟩
      · have b3 : 4096 < C.exits.length := by omega
        clear hbig
        go_enter Tryz.func17, Tryz.ntmps17
        go_wp2_with (go_at_call 5; refine (HI.out _).mono ?_; rintro e w' ⟨rfl, rfl⟩)
        go_ret
        exact ⟨ret_e (ck2 HQ.out HT.out), hb0⟩
    · have HT := Lib.hid hbig
      obtain ⟨b1, b2, b3⟩ : C.slots.length ≤ 256 ∧ C.gates.length ≤ 65536 ∧ C.exits.length ≤ 4096 := by unfold tooBig at hbig; omega
      clear hbig
      go_enter Tryz.func17, Tryz.ntmps17
      go_wp2_with (go_at_call 5; refine (HI.out _).mono ?_; rintro e w' ⟨rfl, rfl⟩)
      go_loopg [35] C.slots.length (fun g v wr => ∃ k : Nat, k ≤ C.slots.length ∧ g = C.slots.length - k ∧ v = .int .i64 k ∧ Hid ((C.slots.take k).any badSlot = false) ∧ Below (w.alloc (.cells #[.slice C.SA C.slots.length C.sc, .slice C.GA C.gates.length C.gc, .slice C.EA C.exits.length C.ec] 36)).heap.size (w.alloc (.cells #[.slice C.SA C.slots.length C.sc, .slice C.GA C.gates.length C.gc, .slice C.EA C.exits.length C.ec] 36)) wr)
      case atStart => exact ⟨0, by omega, rfl, rfl, rfl, Below.refl _ _⟩
      case round =>
        obtain ⟨k, hk, rfl, rfl, hd, hbel⟩ := hrel
        have HB1 := Lib.hid hbel; clear hbel
        have c0 := HB1.out.cell (p := ⟨w.heap.size, 0, none⟩) (by simp)
        have c1 := HB1.out.cell (p := ⟨w.heap.size, 1, none⟩) (by simp)
        have c2 := HB1.out.cell (p := ⟨w.heap.size, 2, none⟩) (by simp)
        have hsz : w.heap.size < wr.heap.size := by have h5 := HB1.out.size; simp at h5; omega
        by_cases hlt : k < C.slots.length
        · obtain ⟨ad, had, q0, q1⟩ := (HC.out.below HB1.out).s.slo k hlt
          rw [had] at c0 ⊢
          by_cases g1 : C.slots[k].1 < 1
          · have HN := Lib.hid (any_at (q := badSlot) hlt (by simp [badSlot, g1])); clear hd
            go_wp2
            go_ret
            exact ⟨ret_e (ck3 HQ.out HT.out HN.out), below_box (HB1.out.alloc HB1.out.size _)⟩
          have g1' : 1 ≤ C.slots[k].1 := by omega
          by_cases g2 : 13 < C.slots[k].1
          · have HN := Lib.hid (any_at (q := badSlot) hlt (by simp [badSlot, g2])); clear hd
            go_wp2
            go_ret
            exact ⟨ret_e (ck3 HQ.out HT.out HN.out), below_box (HB1.out.alloc HB1.out.size _)⟩
          · have g2' : C.slots[k].1 ≤ 13 := by omega
            have HN := Lib.hid (any_succ (q := badSlot) hlt hd.out (by simp [badSlot]; omega)); clear hd
            go_wp2
            rw [← had]
            go_roundg (C.slots.length - (k + 1))
            case measure => omega
            case rel => exact ⟨k + 1, by omega, rfl, by go_num, HN.out, HB1.out.alloc HB1.out.size _⟩
        · obtain rfl : k = C.slots.length := by omega
          have hs := hd.out
          rw [List.take_length] at hs
          have HS := Lib.hid hs; clear hs hd
          go_wp2
          clear c0 c1 c2 hsz
          go_loopg [51] C.gates.length (fun g v wr => ∃ k : Nat, k ≤ C.gates.length ∧ g = C.gates.length - k ∧ v = .int .i64 k ∧ Hid (gatesErr p C.slots.length k (C.gates.drop k) = gatesErr p C.slots.length 0 C.gates) ∧ Below (w.alloc (.cells #[.slice C.SA C.slots.length C.sc, .slice C.GA C.gates.length C.gc, .slice C.EA C.exits.length C.ec] 36)).heap.size (w.alloc (.cells #[.slice C.SA C.slots.length C.sc, .slice C.GA C.gates.length C.gc, .slice C.EA C.exits.length C.ec] 36)) wr)
          case atStart => exact ⟨0, by omega, rfl, rfl, rfl, HB1.out⟩
          case round =>
            obtain ⟨k, hk, rfl, rfl, hd, hbel⟩ := hrel
            have HB := Lib.hid hbel; clear hbel
            have c0 := HB.out.cell (p := ⟨w.heap.size, 0, none⟩) (by simp)
            have c1 := HB.out.cell (p := ⟨w.heap.size, 1, none⟩) (by simp)
            have c2 := HB.out.cell (p := ⟨w.heap.size, 2, none⟩) (by simp)
            have hsz : w.heap.size < wr.heap.size := by have h5 := HB.out.size; simp at h5; omega
            by_cases hlt : k < C.gates.length
            · obtain ⟨ad, had, q0, q1, q2, q3⟩ := (HC.out.below HB.out).g.gat k hlt
              rw [had] at c1 ⊢
              have hst := gatesErr_at (p := p) (n := C.slots.length) hlt
              have HST := Lib.hid (hst.symm.trans hd.out); clear hst hd
              have hg := fun W => rgate_any p hp0 C.slots.length k C.gates[k].1 C.gates[k].2.1 C.gates[k].2.2.1 C.gates[k].2.2.2 W
              rw [show gateErr p C.slots.length k C.gates[k].1 C.gates[k].2.1 C.gates[k].2.2.1 C.gates[k].2.2.2 = gErr p C.slots.length k C.gates[k] from rfl] at hg
              rcases Bool.eq_false_or_eq_true (gErr p C.slots.length k C.gates[k] == 0) with hz | hz
              · have hz' : gErr p C.slots.length k C.gates[k] = 0 := by simpa using hz
                rw [hz'] at hg
                have HG := Lib.hid hg; clear hg
                have HN := Lib.hid (show gatesErr p C.slots.length (k + 1) (C.gates.drop (k + 1)) = gatesErr p C.slots.length 0 C.gates by rw [← HST.out, if_pos hz']); clear hz hz'
                go_wp2_with (go_at_call 56; refine (HG.out _).mono ?_; rintro e w2 ⟨rfl, hb2⟩; have HB2 := Lib.hid hb2; clear hb2)
                rw [← had]
                go_roundg (C.gates.length - (k + 1))
                case measure => omega
                case rel => exact ⟨k + 1, by omega, rfl, by go_num, HN.out, below_alive (HB.out.alloc HB.out.size _) HB2.out⟩
              · have HN := Lib.hid (show gatesErr p C.slots.length 0 C.gates = gErr p C.slots.length k C.gates[k] by rw [← HST.out, if_neg (by simpa using hz)])
                generalize gErr p C.slots.length k C.gates[k] = er at hg hz HN
                have HG := Lib.hid hg; clear hg
                go_wp2_with (go_at_call 56; refine (HG.out _).mono ?_; rintro e w2 ⟨rfl, hb2⟩; have HB2 := Lib.hid hb2; clear hb2)
                go_ret
                exact ⟨ret_e (ck4 HQ.out HT.out HS.out HN.out (by simpa using hz)), below_box (below_alive (HB.out.alloc HB.out.size _) HB2.out)⟩
            · obtain rfl : k = C.gates.length := by omega
              have HGE := Lib.hid ((gatesErr_end).symm.trans hd.out).symm; clear hd
              go_wp2
              go_loopg [70] C.exits.length (fun g v wr => ∃ k : Nat, k ≤ C.exits.length ∧ g = C.exits.length - k ∧ v = .int .i64 k ∧ Hid (exitsErr C.gates.length (C.exits.drop k) = exitsErr C.gates.length C.exits) ∧ Below (w.alloc (.cells #[.slice C.SA C.slots.length C.sc, .slice C.GA C.gates.length C.gc, .slice C.EA C.exits.length C.ec] 36)).heap.size (w.alloc (.cells #[.slice C.SA C.slots.length C.sc, .slice C.GA C.gates.length C.gc, .slice C.EA C.exits.length C.ec] 36)) wr)
              case atStart => exact ⟨0, by omega, rfl, rfl, rfl, HB.out⟩
              case round =>
                clear c0 c1 c2
                have HBO := HB
                clear HB
                obtain ⟨k, hk, rfl, rfl, hd, hbel⟩ := hrel
                have HB := Lib.hid hbel; clear hbel
                have c0 := HB.out.cell (p := ⟨w.heap.size, 0, none⟩) (by simp)
                have c1 := HB.out.cell (p := ⟨w.heap.size, 1, none⟩) (by simp)
                have c2 := HB.out.cell (p := ⟨w.heap.size, 2, none⟩) (by simp)
                have hsz : w.heap.size < wr.heap.size := by have h5 := HB.out.size; simp at h5; omega
                by_cases hlt : k < C.exits.length
                · obtain ⟨ad, had, q0, q1⟩ := (HC.out.below HB.out).e.exi k hlt
                  rw [had] at c2 ⊢
                  have hst := exitsErr_at (m := C.gates.length) hlt
                  have HST := Lib.hid (hst.symm.trans hd.out); clear hst hd
                  have hmem : C.exits[k] ∈ C.exits := List.getElem_mem hlt
                  have hg := fun W (h : Below (w.alloc (.cells #[.slice C.SA C.slots.length C.sc, .slice C.GA C.gates.length C.gc, .slice C.EA C.exits.length C.ec] 36)).heap.size (w.alloc (.cells #[.slice C.SA C.slots.length C.sc, .slice C.GA C.gates.length C.gc, .slice C.EA C.exits.length C.ec] 36)) W) => rexit_any C.gates.length C.exits[k].tl C.exits[k].gl C.exits[k].A C.exits[k].B C.exits[k].c C.exits[k].d (HC.out.m _ hmem).1 (HC.out.m _ hmem).2 W ((HC.out.below h).x _ hmem).1 ((HC.out.below h).x _ hmem).2
                  rw [show exitErr C.gates.length C.exits[k].tl C.exits[k].gl = xErr C.gates.length C.exits[k] from rfl] at hg
                  clear hmem
                  rcases Bool.eq_false_or_eq_true (xErr C.gates.length C.exits[k] == 0) with hz | hz
                  · have hz' : xErr C.gates.length C.exits[k] = 0 := by simpa using hz
                    rw [hz'] at hg
                    have HG := Lib.hid hg; clear hg
                    have HN := Lib.hid (show exitsErr C.gates.length (C.exits.drop (k + 1)) = exitsErr C.gates.length C.exits by rw [← HST.out, if_pos hz']); clear hz hz'
                    go_wp2_with (go_at_call 57; refine (HG.out _ (HB.out.alloc HB.out.size _)).mono ?_; rintro e w2 ⟨rfl, hb2⟩; have HB2 := Lib.hid hb2; clear hb2)
                    rw [← had]
                    go_roundg (C.exits.length - (k + 1))
                    case measure => omega
                    case rel => exact ⟨k + 1, by omega, rfl, by go_num, HN.out, below_alive (HB.out.alloc HB.out.size _) HB2.out⟩
                  · have HN := Lib.hid (show exitsErr C.gates.length C.exits = xErr C.gates.length C.exits[k] by rw [← HST.out, if_neg (by simpa using hz)])
                    generalize xErr C.gates.length C.exits[k] = er at hg hz HN
                    have HG := Lib.hid hg; clear hg
                    go_wp2_with (go_at_call 57; refine (HG.out _ (HB.out.alloc HB.out.size _)).mono ?_; rintro e w2 ⟨rfl, hb2⟩; have HB2 := Lib.hid hb2; clear hb2)
                    go_ret
                    exact ⟨ret_e (ck5 HQ.out HT.out HS.out HGE.out HN.out), below_box (below_alive (HB.out.alloc HB.out.size _) HB2.out)⟩
                · obtain rfl : k = C.exits.length := by omega
                  have HXE := Lib.hid ((exitsErr_end).symm.trans hd.out).symm; clear hd
                  go_wp2
                  go_ret
                  exact ⟨ret_e (ck5 HQ.out HT.out HS.out HGE.out HXE.out), below_box HB.out⟩

  · rw [hq] at his
    have HI := Lib.hid his; clear his
    have HQ := Lib.hid hq; clear hq
    go_enter Tryz.func17, Tryz.ntmps17
    go_wp2_with (go_at_call 5; refine (HI.out _).mono ?_; rintro e w' ⟨rfl, rfl⟩)
    go_ret
    exact ⟨ret_e (ck1 HQ.out), hb0⟩
theorem infoU : (Tryz.prog.info? 22).map (fun i => (i.zero, i.size, i.bytes)) = some (some (.int .u64 0), 1, 8) := by kernel_rfl
section
variable {P : Program} {ops : Array Oper} {rest : List Oper} {o : Oper} {a : Act} {Q : Exit → Act → World → Prop}
/-- A slice's one-cell elements are appended to a row of the call's own. -/
theorem app_slice {W : World} (base : Nat) (hgd : o.guard = none) (s x : Operand) (t e : TypeId) (z : Value) (bytes : Nat)
    (ho : o.op = .call { callee := .builtin .append, args := #[s, x], argTypes := #[t, t] })
    (ht : P.underlying t = some (.slice e)) (hinfo : (P.info? e).map (fun i => (i.zero, i.size, i.bytes)) = some (some z, 1, bytes)) (hz : z.cells.size = 1) (hb0 : 0 < bytes)
    (v : Value) (n : Nat) (xs ys : List Value) (hs : a.eval s = v) (ad : Addr) (m c : Nat) (hx : a.eval x = .slice (some ad) m c) (hys : ys.length = m) (hr : ∀ j u, ys[j]? = some u → W.cell? (ad.add j) = some u) (h1 : ∀ u ∈ ys, u.oneCell' = true)
    (HO : W.ownsRow base e 1 v n xs) (hbase : base ≤ W.heap.size) (hl : (n + m) * bytes ≤ 140737488355328)
    (h : ∀ v1 w1, w1.ownsRow base e 1 v1 (n + m) (xs ++ ys) → W.grownBy w1 v.ownBlock → wpList P ops Q rest (a.put o.dst v1) w1) : wpList P ops Q (o :: rest) a W := by
  obtain ⟨i0, hi, hzz⟩ := Option.map_eq_some_iff.1 hinfo
  simp only [Prod.mk.injEq] at hzz
  obtain ⟨hz0, hz1, hz2⟩ := hzz
  have hlen : n + m ≤ 140737488355328 := Nat.le_trans (Nat.le_mul_of_pos_right _ hb0) hl
  exact wpList_append_own W hgd s x t ho base e i0 z 1 bytes ht hi hz0 hz1 hz2 hz (by omega) v n xs hs HO ad m c ys hx (by rw [hys]; omega) hr h1 (by simp only [maxLen]; omega) hl hbase fun v1 w1 hown hg _ => h v1 w1 hown hg
end
theorem own_reads {w : World} {base : Nat} {e : TypeId} {size n : Nat} {v : Value} {xs : List Value} (h : w.ownsRow base e size v n xs) : ∃ A c, v = .slice A n c ∧ Reads w A xs := by
  rcases h.2 with ⟨hv, h0⟩ | ⟨g, cap, cur, hv, hb, r⟩
  · subst h0
    exact ⟨none, 0, hv, .inl (List.eq_nil_of_length_eq_zero (by rw [h.1]; omega))⟩
  · exact ⟨some ⟨g, 0, none⟩, cap, hv, .inr ⟨_, rfl, fun j u hu => h.cells (g := g) (by rw [hv]; rfl) j u hu⟩⟩
theorem below_drewN {B : Nat} {a w : World} (h : Below B a w) (n : Nat) : Below B a (w.drewN n) := ⟨h.os, h.tape, h.output, h.size, h.block⟩
/- The value of a valid gate: circ.Of at every gate that fits. -/

def gval (p : Nat) (I V : List Nat) (g : Gat) : Nat :=
  if g.1 = 1 then I.getD g.2.1.toNat 0 else if g.1 = 2 then g.2.2.2.toNat
  else if g.1 = 3 then (V.getD g.2.1.toNat 0 + V.getD g.2.2.1.toNat 0) % p
  else if g.1 = 4 then (V.getD g.2.1.toNat 0 + p - V.getD g.2.2.1.toNat 0) % p
  else if g.1 = 5 then V.getD g.2.1.toNat 0 * V.getD g.2.2.1.toNat 0 % p
  else V.getD g.2.1.toNat 0 * g.2.2.2.toNat % p
/-- What a gate that fits names. -/
theorem gate_fits {p : Nat} {n m : Int} {k a b K : Int} (_hp : 0 < p) (h : gateErr p n m k a b K = 0) :
    (k = 1 ∧ b = 0 ∧ K = 0 ∧ 0 ≤ a ∧ a < n) ∨ (k = 2 ∧ a = 0 ∧ b = 0 ∧ K < p) ∨ ((k = 3 ∨ k = 4 ∨ k = 5) ∧ K = 0 ∧ 0 ≤ a ∧ a < m ∧ 0 ≤ b ∧ b < m) ∨ (k = 6 ∧ b = 0 ∧ 0 ≤ a ∧ a < m ∧ K < p) := by
  unfold gateErr at h
  split at h
  · rename_i h1
    split at h
    · cases h
    · split at h
      · cases h
      · left; omega
  split at h
  · rename_i h1
    split at h
    · cases h
    · split at h
      · cases h
      · right; left; omega
  split at h
  · rename_i h1
    split at h
    · cases h
    · split at h
      · cases h
      · right; right; left
        refine ⟨h1, ?_⟩
        omega
  split at h
  · rename_i h1
    split at h
    · cases h
    · split at h
      · cases h
      · split at h
        · cases h
        · right; right; right; omega
  · cases h
theorem all_lt {p : Nat} {l : List Nat} (h : allLt p l = true) (k : Nat) (hk : k < l.length) : l[k] < p := of_decide_eq_true (List.all_eq_true.1 h _ (List.getElem_mem hk))
theorem gval_lt (p : Nat) (h0 : 0 < p) (I V : List Nat) (hI : allLt p I = true) (g : Gat) (hK : 0 ≤ g.2.2.2) (hg : gErr p I.length V.length g = 0) : gval p I V g < p := by
  obtain ⟨k, a, b, K⟩ := g
  unfold gErr at hg
  simp only at hK hg ⊢
  obtain ⟨K, rfl⟩ : ∃ x : Nat, K = x := ⟨K.toNat, by omega⟩
  rcases gate_fits h0 hg with ⟨rfl, rfl, hK0, ha, ha'⟩ | ⟨rfl, rfl, rfl, hKp⟩ | ⟨hk, hK0, ha, ha', hb, hb'⟩ | ⟨rfl, rfl, ha, ha', hKp⟩
  · obtain ⟨a, rfl⟩ : ∃ x : Nat, a = x := ⟨a.toNat, by omega⟩
    have h1 : a < I.length := by omega
    have hv : gval p I V (1, (a : Int), 0, (K : Int)) = I[a] := by simp [gval, List.getElem?_eq_getElem h1]
    rw [hv]
    exact all_lt hI a h1
  · have hv : gval p I V (2, 0, 0, (K : Int)) = K := by simp [gval]
    rw [hv]
    omega
  · rcases hk with rfl | rfl | rfl
    · unfold gval; simp only [show ¬ (3 : Int) = 1 by decide, show ¬ (3 : Int) = 2 by decide, if_false, if_true]; exact Nat.mod_lt _ h0
    · unfold gval; simp only [show ¬ (4 : Int) = 1 by decide, show ¬ (4 : Int) = 2 by decide, show ¬ (4 : Int) = 3 by decide, if_false, if_true]; exact Nat.mod_lt _ h0
    · unfold gval; simp only [show ¬ (5 : Int) = 1 by decide, show ¬ (5 : Int) = 2 by decide, show ¬ (5 : Int) = 3 by decide, show ¬ (5 : Int) = 4 by decide, if_false, if_true]; exact Nat.mod_lt _ h0
  · unfold gval; simp only [show ¬ (6 : Int) = 1 by decide, show ¬ (6 : Int) = 2 by decide, show ¬ (6 : Int) = 3 by decide, show ¬ (6 : Int) = 4 by decide, show ¬ (6 : Int) = 5 by decide, if_false]; exact Nat.mod_lt _ h0
/- Plain law and contract of circ.Values. -/

def valsL (p : Nat) (I : List Nat) (l : List Gat) : List Nat := l.foldl (fun V g => V ++ [gval p I V g]) []
theorem valsL_succ (p : Nat) (I : List Nat) (l : List Gat) (k : Nat) (h : k < l.length) : valsL p I (l.take (k + 1)) = valsL p I (l.take k) ++ [gval p I (valsL p I (l.take k)) l[k]] := by
  unfold valsL
  rw [List.take_succ_eq_append_getElem h, List.foldl_append]
  rfl
theorem valsL_len (p : Nat) (I : List Nat) (l : List Gat) : ∀ k, k ≤ l.length → (valsL p I (l.take k)).length = k := by
  intro k
  induction k with
  | zero => intro _; rfl
  | succ k ih =>
    intro h
    rw [valsL_succ p I l k (by omega), List.length_append, ih (by omega)]
    rfl
theorem allLt_snoc {p : Nat} {l : List Nat} {x : Nat} (h : allLt p l = true) (hx : x < p) : allLt p (l ++ [x]) = true := by
  unfold allLt at *
  rw [List.all_append, h]
  simp [hx]
theorem own_below {w w1 : World} {base : Nat} {e : TypeId} {size n : Nat} {v : Value} {xs : List Value} (h : w.ownsRow base e size v n xs) (hb : Below w.heap.size w w1) : w1.ownsRow base e size v n xs :=
  h.kept (row := none) ⟨hb.os, hb.tape, hb.output, hb.size, fun i hi _ => hb.block i hi⟩ (by cases v.ownBlock <;> simp)
abbrev ExL := List Int × List Int
def Exi.l (x : Exi) : ExL := (x.tl, x.gl)
/-- A circuit without its places in memory. -/
abbrev Lis := List Slo × List Gat × List ExL
def Cir.l (C : Cir) : Lis := (C.slots, C.gates, C.exits.map Exi.l)
section
variable {P : Program} {ops : Array Oper} {rest : List Oper} {o : Oper} {a : Act} {Q : Exit → Act → World → Prop}
/-- One element of several cells is appended to a row of the call's own: the element's box has just been laid. -/
theorem app_cells {W : World} (base : Nat) (hgd : o.guard = none) (s x : Operand) (t e : TypeId) (z : Value) (size bytes : Nat)
    (ho : o.op = .call { callee := .builtin .append, args := #[s, x], argTypes := #[t, t] })
    (ht : P.underlying t = some (.slice e)) (hinfo : (P.info? e).map (fun i => (i.zero, i.size, i.bytes)) = some (some z, size, bytes)) (hz : z.cells.size = size) (hs0 : 0 < size) (hb0 : 0 < bytes)
    (v : Value) (n : Nat) (xs ys : List Value) (hs : a.eval s = v) (g : Nat) (hx : a.eval x = .slice (some ⟨g, 0, none⟩) 1 1) (hg0 : W.heap.size = g) (hys : ys.length = size) (h1 : ∀ u ∈ ys, u.oneCell' = true)
    (HO : W.ownsRow base e size v n xs) (hbase : base ≤ W.heap.size) (hl : (n + 1) * bytes ≤ 140737488355328)
    (h : ∀ v1 w1, w1.ownsRow base e size v1 (n + 1) (xs ++ ys) → W.grownBy w1 v.ownBlock → wpList P ops Q rest (a.put o.dst v1) w1) :
    wpList P ops Q (o :: rest) a (W.alloc (.cells ys.toArray e)) := by
  obtain ⟨i0, hi, hzz⟩ := Option.map_eq_some_iff.1 hinfo
  simp only [Prod.mk.injEq] at hzz
  obtain ⟨hz0, hz1, hz2⟩ := hzz
  subst hg0
  have hlen : n + 1 ≤ 140737488355328 := Nat.le_trans (Nat.le_mul_of_pos_right _ hb0) hl
  exact wpList_append_own (W.alloc (.cells ys.toArray e)) hgd s x t ho base e i0 z size bytes ht hi hz0 hz1 hz2 hz hs0 v n xs hs (HO.alloc _) ⟨W.heap.size, 0, none⟩ 1 1 ys hx (by rw [hys]; simp)
    (by simpa using World.news_of_block (cs := ys.toArray) (t := e) (fr := (0, 0)) (heap_alloc_new W (.cells ys.toArray e))) h1 (by simp only [maxLen]; omega) hl (by simp; omega)
    fun v1 w1 hown hg _ => h v1 w1 hown (World.grownBy.trans (World.grownBy_alloc W _ _) hg)
end
theorem grown_set (w : World) (p : Addr) (u : Value) : w.grownBy (w.setCell p u) (some p.block) :=
  ⟨rfl, rfl, rfl, by simp [World.setCell], fun k _ hk => Below.heap_setCell _ _ _ _ fun e => hk (by rw [e])⟩
theorem own_set {w : World} {base : Nat} {e : TypeId} {size n : Nat} {v : Value} {xs : List Value} (h : w.ownsRow base e size v n xs) {p : Addr} (hp : p.block < base) (u : Value) : (w.setCell p u).ownsRow base e size v n xs :=
  h.kept (grown_set w p u) (by
    cases hv : v.ownBlock with
    | none => exact .inl rfl
    | some q =>
      refine .inr fun e => ?_
      injection e with e
      have := (h.lt q hv).1
      omega)
/- What circ.Read keeps in memory while it reads. -/

theorem infoGat : (Tryz.prog.info? 42).map (fun i => (i.zero, i.size, i.bytes)) = some (some (.agg #[.int .i64 0, .int .i64 0, .int .i64 0, .int .u64 0]), 4, 32) := by kernel_rfl
theorem own_ne {w : World} {base base' : Nat} {e e' : TypeId} {size size' n n' : Nat} {v v' : Value} {xs xs' : List Value} (h : w.ownsRow base e size v n xs) (h' : w.ownsRow base' e' size' v' n' xs') (hne : e ≠ e') : v.ownBlock = none ∨ v.ownBlock ≠ v'.ownBlock := by
  rcases h.2 with ⟨rfl, _⟩ | ⟨g, cap, cur, rfl, _, hg, _⟩
  · exact .inl rfl
  · rcases h'.2 with ⟨rfl, _⟩ | ⟨g', cap', cur', rfl, _, hg', _⟩
    · exact .inr (by simp [Value.ownBlock])
    · refine .inr fun e2 => ?_
      have e3 : g = g' := by simpa [Value.ownBlock] using e2
      subst e3
      rw [hg] at hg'
      injection hg' with hg'
      injection hg' with _ hg' _
      exact hne hg'
theorem own_past {w : World} {base k : Nat} {e : TypeId} {size n : Nat} {v : Value} {xs : List Value} (h : w.ownsRow base e size v n xs) (hk : k < base) : some k ≠ v.ownBlock := fun e => by
  have := (h.lt k e.symm).1
  omega
theorem box_facts {W : World} {b : Nat} {v1 v2 v3 : Value} {t : TypeId} (h : W.heap[b]? = some (.cells #[v1, v2, v3] t (0, 0))) :
    W.cell? ⟨b, 0, none⟩ = some v1 ∧ W.cell? ⟨b, 1, none⟩ = some v2 ∧ W.cell? ⟨b, 2, none⟩ = some v3 ∧ W.frozen? ⟨b, 0, none⟩ = false ∧ W.frozen? ⟨b, 1, none⟩ = false ∧ W.frozen? ⟨b, 2, none⟩ = false := by
  simp [World.cell?, World.frozen?, h]
theorem box_set {W : World} {b i : Nat} {cs : Array Value} {t : TypeId} {fr : Nat × Nat} (h : W.heap[b]? = some (.cells cs t fr)) (u : Value) : (W.setCell ⟨b, i, none⟩ u).heap[b]? = some (.cells (cs.setIfInBounds i u) t fr) := by
  simp only [World.setCell, Array.getElem?_modify, if_true, h, Option.map_some]
  rfl
theorem gatCells_snoc (l : List Gat) (g : Gat) : gatCells (l ++ [g]) = gatCells l ++ [.int .i64 g.1, .int .i64 g.2.1, .int .i64 g.2.2.1, .int .u64 g.2.2.2] := by simp [gatCells]
theorem own_reads_at {w : World} {base n c : Nat} {e : TypeId} {size m : Nat} {A : Option Addr} {xs : List Value} (h : w.ownsRow base e size (.slice A n c) m xs) : Reads w A xs := by
  obtain ⟨A', c', e1, r⟩ := own_reads h
  injection e1 with e1 _ _
  rw [e1]
  exact r
/- Contract of the reference's Same over outputs that are the same. -/

def DPost (w : World) (e : Ending) (w' : World) : Prop := e = .returned (.bool true) ∧ ∃ n, w' = w.drewN n
theorem quiet_moreD {P : Program} {f : FuncId} {args : Array Value} {v : Value} {w : World} (h : ∀ m, Calls P f args (w.drewN m) fun e w' => e = .returned v ∧ ∃ k, w' = (w.drewN m).drewN k) {a n : Nat} :
    Calls P f args (w.drewN (a + n)) fun e w'' => e = .returned v ∧ ∃ m, w'' = w.drewN (a + m) := (h _).mono fun _ _ ⟨he, k, hk⟩ => ⟨he, n + k, by rw [hk, World.drewN_drewN, Nat.add_assoc]⟩
theorem cell_in {W : World} {b i : Nat} {cs : Array Value} {t : TypeId} {fr : Nat × Nat} (h : W.heap[b]? = some (.cells cs t fr)) : W.cell? ⟨b, i, none⟩ = cs[i]? := by simp only [World.cell?, h]; rfl
section
variable {P : Program} {ops : Array Oper} {o : Oper} {a : Act} {K : Act → World → Prop} {Q : Exit → Act → World → Prop} {E : Prop}
/-- One element is appended to a row of the call's own, in whatever world lies above. -/
theorem list_append_own {rest : List Oper} {W0 W : World} (hW : Below W0.heap.size W0 W) (base : Nat) (hgd : o.guard = none) (s x : Operand) (t e : TypeId) (z : Value) (bytes : Nat)
    (ho : o.op = .call { callee := .builtin .append, args := #[s, x], argTypes := #[t, t] })
    (ht : P.underlying t = some (.slice e)) (hinfo : (P.info? e).map (fun i => (i.zero, i.size, i.bytes)) = some (some z, 1, bytes)) (hz : z.cells.size = 1) (hb0 : 0 < bytes)
    (v : Value) (n : Nat) (xs : List Value) (y : Value) (hs : a.eval s = v) (g : Nat) (hx : a.eval x = .slice (some ⟨g, 0, none⟩) 1 1) (hc : W.cell? ⟨g, 0, none⟩ = some y) (h1 : y.oneCell' = true)
    (HO : W0.ownsRow base e 1 v n xs) (hbase : base ≤ W0.heap.size) (hl : (n + 1) * bytes ≤ 140737488355328)
    (h : ∀ v1 w1, w1.ownsRow base e 1 v1 (n + 1) (xs ++ [y]) → W0.grownBy w1 v.ownBlock → wpList P ops Q rest (a.put o.dst v1) w1) : wpList P ops Q (o :: rest) a W := by
  have hg0 : W0.grownBy W v.ownBlock := ⟨hW.os, hW.tape, hW.output, hW.size, fun k hk _ => hW.block k hk⟩
  exact app_slice base hgd s x t e z bytes ho ht hinfo hz hb0 v n xs [y] hs ⟨g, 0, none⟩ 1 1 hx rfl
    (by intro j u hj; cases j with
      | zero => simp at hj; subst hj; simpa [Addr.add] using hc
      | succ j => simp at hj) (by intro u hu; simp at hu; subst hu; exact h1) (own_below HO hW) (Nat.le_trans hbase hW.size) hl
    fun v1 w1 hown hg => h v1 w1 hown (World.grownBy.trans hg0 hg)
end
/- The contract of the reference's Values. -/

theorem cell_drewN (W : World) (o : Obj) (n : Nat) (v : Value) (t : TypeId) : (((W.alloc o).drewN n).alloc (.cells #[v] t)).cell? ⟨W.heap.size + 1, 0, none⟩ = some v := by
  have h := heap_alloc_new ((W.alloc o).drewN n) (.cells #[v] t)
  have e : ((W.alloc o).drewN n).heap.size = W.heap.size + 1 := by show (W.alloc o).heap.size = _; simp
  rw [e] at h
  rw [cell_in h]
  rfl
theorem below_snoc {W0 W : World} (h : Below W0.heap.size W0 W) (o : Obj) : Below W0.heap.size W0 (W.alloc o) := h.alloc h.size o
set_option maxHeartbeats 4000000 in
set_option maxRecDepth 100000 in
theorem rvalues_any (p : Nat) (h0 : 0 < p) (pm : p ≤ 65537) (C : Cir) (I : List Nat) (hI : allLt p I = true) (hgz : ∀ k, (hk : k < C.gates.length) → gErr p I.length k C.gates[k] = 0) (hgl : C.gates.length ≤ 65536) (IA : Option Addr) (ic : Nat) (w : World) (hC : HoldsC w C) (hA : Reads w IA (uCells I)) :
    Calls Tryz.prog 19 #[.int .u64 p, .agg #[.slice C.SA C.slots.length C.sc, .slice C.GA C.gates.length C.gc, .slice C.EA C.exits.length C.ec], .slice IA I.length ic] w fun e w' => ∃ v, e = .returned v ∧ w'.ownsRow w.heap.size 22 1 v C.gates.length (uCells (valsL p I C.gates)) ∧ Below w.heap.size w w' := by
  have HGZ := Lib.hid hgz
  have HK := Lib.hid hC.k
  have HC := Lib.hid hC
  have HII := Lib.hid hI
  have HA := Lib.hid hA
  clear hgz hC hI hA
  go_enter Tryz.func19, Tryz.ntmps19
  go_wp2
  go_loopg [7, 14] C.gates.length (fun g a v wr => ∃ (k : Nat) (vv : Value), k ≤ C.gates.length ∧ g = C.gates.length - k ∧ a = vv ∧ v = .int .i64 k ∧ wr.ownsRow w.heap.size 22 1 vv k (uCells (valsL p I (C.gates.take k))) ∧ Hid (allLt p (valsL p I (C.gates.take k)) = true) ∧ Below w.heap.size w wr)
  case atStart => exact ⟨0, _, by omega, rfl, rfl, rfl, World.ownsRow_nil _ _ _ _, Lib.hid rfl, (Below.refl _ _).alloc (Nat.le_refl _) _⟩
  case round =>
    obtain ⟨k, vv, hk, rfl, rfl, rfl, hown, hal, hbel⟩ := hrel
    have HB := Lib.hid hbel; clear hbel
    have HO := Lib.hid hown; clear hown
    by_cases hlt : k < C.gates.length
    · obtain ⟨ad, had, q0, q1, q2, q3⟩ := ((HC.out.below HB.out).g).gat k hlt
      obtain ⟨VA, vc, rfl, hvr⟩ := own_reads HO.out
      have hVl := valsL_len p I C.gates k (by omega)
      have hsu := valsL_succ p I C.gates k hlt
      have hkk := HK.out _ (List.getElem_mem hlt)
      have hge := HGZ.out k hlt
      have hir := HA.out.below HB.out
      have hgv := gval_lt p h0 I _ HII.out C.gates[k] hkk (by rw [hVl]; exact hge)
      have HAL : Hid (allLt p (valsL p I (C.gates.take (k + 1))) = true) := Lib.hid (by rw [hsu]; exact allLt_snoc hal.out hgv)
      have hVA := all_lt hal.out
      clear hal hgv
      have hszr : w.heap.size ≤ wr.heap.size := HB.out.size
      generalize valsL p I (C.gates.take k) = V at HO hvr hVl hsu hVA
      generalize C.gates[k] = gt at q0 q1 q2 q3 hkk hge hsu
      obtain ⟨kk, a, b, K⟩ := gt
      unfold gErr at hge
      simp only at q0 q1 q2 q3 hkk hge hsu
      obtain ⟨K, rfl⟩ : ∃ x : Nat, K = x := ⟨K.toNat, by omega⟩
      have hgf := gate_fits h0 hge
      rw [had]
      clear hge hkk
      rcases hgf with ⟨rfl, rfl, hK0, ha, ha'⟩ | ⟨rfl, rfl, rfl, hKp⟩ | ⟨hk3, hK0, ha, ha', hb, hb'⟩ | ⟨rfl, rfl, ha, ha', hKp⟩
      · obtain ⟨a, rfl⟩ : ∃ x : Nat, a = x := ⟨a.toNat, by omega⟩
        have h1 : a < I.length := by omega
        have hv : gval p I V (1, (a : Int), 0, (K : Int)) = I[a] := by simp [gval, List.getElem?_eq_getElem h1]
        rw [hv] at hsu
        obtain ⟨iad, rfl, r0⟩ := (hir.below ((Below.refl _ _).alloc (Nat.le_refl _) (.cells #[.int .i64 1, .int .i64 a, .int .i64 0, .int .u64 K] 42))).u a h1
        generalize I[a] = val at hsu r0
        have HSU := Lib.hid hsu
        clear hsu hv hir hvr hVA ha ha' hK0
        have i1 : (a : Int) < (I.length : Int) := by omega
        go_wp2_with (first | (at_builtin; refine list_append_own (W0 := wr) (below_snoc (below_snoc (Below.refl _ _) _) _) w.heap.size rfl _ _ 24 22 _ 8 rfl Tryz.underlying24 infoU rfl (by decide) (.slice VA k vc) k _ (.int .u64 val) rfl _ rfl (by first | (simp; done) | exact cell_drewN _ _ _ _ _ | exact cell_drewN' _ _ _) rfl HO.out (by omega) (by omega) ?_; intro v3 w3 hown3 hg3; have HO3 := Lib.hid hown3; have HB3 := Lib.hid (HB.out.grown hg3 hszr (fun q hq => (HO.out.lt q hq).1)); clear hown3 hg3))
        rw [← had]
        go_roundg (C.gates.length - (k + 1))
        case measure => omega
        case rel => exact ⟨k + 1, _, by omega, rfl, rfl, by go_num, by rw [HSU.out]; simpa [uCells] using HO3.out, HAL.out, HB3.out⟩
      · have hv : gval p I V (2, 0, 0, (K : Int)) = K := by simp [gval]
        rw [hv] at hsu
        have HSU := Lib.hid hsu
        clear hsu hv hir hvr hVA
        go_wp2_with (first | (at_builtin; refine list_append_own (W0 := wr) (below_snoc (below_snoc (Below.refl _ _) _) _) w.heap.size rfl _ _ 24 22 _ 8 rfl Tryz.underlying24 infoU rfl (by decide) (.slice VA k vc) k _ (.int .u64 K) rfl _ rfl (by first | (simp; done) | exact cell_drewN _ _ _ _ _ | exact cell_drewN' _ _ _) rfl HO.out (by omega) (by omega) ?_; intro v3 w3 hown3 hg3; have HO3 := Lib.hid hown3; have HB3 := Lib.hid (HB.out.grown hg3 hszr (fun q hq => (HO.out.lt q hq).1)); clear hown3 hg3))
        rw [← had]
        go_roundg (C.gates.length - (k + 1))
        case measure => omega
        case rel => exact ⟨k + 1, _, by omega, rfl, rfl, by go_num, by rw [HSU.out]; simpa [uCells] using HO3.out, HAL.out, HB3.out⟩
      · obtain ⟨a, rfl⟩ : ∃ x : Nat, a = x := ⟨a.toNat, by omega⟩
        obtain ⟨b, rfl⟩ : ∃ x : Nat, b = x := ⟨b.toNat, by omega⟩
        have h1 : a < V.length := by omega
        have h2 : b < V.length := by omega
        have va := hVA a h1
        have vb := hVA b h2
        have i1 : (a : Int) < (k : Int) := by omega
        have i2 : (b : Int) < (k : Int) := by omega
        rcases hk3 with rfl | rfl | rfl
        · have hv : gval p I V (3, (a : Int), (b : Int), (K : Int)) = (V[a] + V[b]) % p := by simp [gval, List.getElem?_eq_getElem h1, List.getElem?_eq_getElem h2]
          rw [hv] at hsu
          have hrr := hvr.below ((Below.refl _ _).alloc (Nat.le_refl _) (.cells #[.int .i64 3, .int .i64 a, .int .i64 b, .int .u64 K] 42))
          obtain ⟨vad, rfl, r0⟩ := hrr.u a h1
          have r1 := hrr.some_u b h2
          have hc := fun W => radd_any p V[a] V[b] h0 pm va vb W
          generalize (V[a] + V[b]) % p = val at hsu hc
          generalize V[a] = x at r0 hc
          generalize V[b] = y at r1 hc
          have HF := Lib.hid hc
          have HSU := Lib.hid hsu
          clear hsu hv hir hvr hrr hVA hc va vb ha ha' hb hb' h1 h2 hK0
          go_wp2
          go_quiet ((exact Calls.quiet_of_same ((HF.out _).mono fun _ _ h => ⟨h.1, h.2.symm⟩)))
          go_wp2_with (first | (at_builtin; refine list_append_own (W0 := wr) (below_snoc (below_drewN (below_snoc (Below.refl _ _) _) _) _) w.heap.size rfl _ _ 24 22 _ 8 rfl Tryz.underlying24 infoU rfl (by decide) (.slice (some vad) k vc) k _ (.int .u64 val) rfl _ rfl (by first | (simp; done) | exact cell_drewN _ _ _ _ _ | exact cell_drewN' _ _ _) rfl HO.out (by omega) (by omega) ?_; intro v3 w3 hown3 hg3; have HO3 := Lib.hid hown3; have HB3 := Lib.hid (HB.out.grown hg3 hszr (fun q hq => (HO.out.lt q hq).1)); clear hown3 hg3))
          rw [← had]
          go_roundg (C.gates.length - (k + 1))
          case measure => omega
          case rel => exact ⟨k + 1, _, by omega, rfl, rfl, by go_num, by rw [HSU.out]; simpa [uCells] using HO3.out, HAL.out, HB3.out⟩
        · have hv : gval p I V (4, (a : Int), (b : Int), (K : Int)) = (V[a] + p - V[b]) % p := by simp [gval, List.getElem?_eq_getElem h1, List.getElem?_eq_getElem h2]
          rw [hv] at hsu
          have hrr := hvr.below ((Below.refl _ _).alloc (Nat.le_refl _) (.cells #[.int .i64 4, .int .i64 a, .int .i64 b, .int .u64 K] 42))
          obtain ⟨vad, rfl, r0⟩ := hrr.u a h1
          have r1 := hrr.some_u b h2
          have hc := fun W => rsub_any p V[a] V[b] h0 pm va vb W
          generalize (V[a] + p - V[b]) % p = val at hsu hc
          generalize V[a] = x at r0 hc
          generalize V[b] = y at r1 hc
          have HF := Lib.hid hc
          have HSU := Lib.hid hsu
          clear hsu hv hir hvr hrr hVA hc va vb ha ha' hb hb' h1 h2 hK0
          go_wp2
          go_quiet ((exact Calls.quiet_of_same ((HF.out _).mono fun _ _ h => ⟨h.1, h.2.symm⟩)))
          go_wp2_with (first | (at_builtin; refine list_append_own (W0 := wr) (below_snoc (below_drewN (below_snoc (Below.refl _ _) _) _) _) w.heap.size rfl _ _ 24 22 _ 8 rfl Tryz.underlying24 infoU rfl (by decide) (.slice (some vad) k vc) k _ (.int .u64 val) rfl _ rfl (by first | (simp; done) | exact cell_drewN _ _ _ _ _ | exact cell_drewN' _ _ _) rfl HO.out (by omega) (by omega) ?_; intro v3 w3 hown3 hg3; have HO3 := Lib.hid hown3; have HB3 := Lib.hid (HB.out.grown hg3 hszr (fun q hq => (HO.out.lt q hq).1)); clear hown3 hg3))
          rw [← had]
          go_roundg (C.gates.length - (k + 1))
          case measure => omega
          case rel => exact ⟨k + 1, _, by omega, rfl, rfl, by go_num, by rw [HSU.out]; simpa [uCells] using HO3.out, HAL.out, HB3.out⟩
        · have hv : gval p I V (5, (a : Int), (b : Int), (K : Int)) = V[a] * V[b] % p := by simp [gval, List.getElem?_eq_getElem h1, List.getElem?_eq_getElem h2]
          rw [hv] at hsu
          have hrr := hvr.below ((Below.refl _ _).alloc (Nat.le_refl _) (.cells #[.int .i64 5, .int .i64 a, .int .i64 b, .int .u64 K] 42))
          obtain ⟨vad, rfl, r0⟩ := hrr.u a h1
          have r1 := hrr.some_u b h2
          have hc := fun W => rmul_any p V[a] V[b] h0 pm va vb W
          generalize V[a] * V[b] % p = val at hsu hc
          generalize V[a] = x at r0 hc
          generalize V[b] = y at r1 hc
          have HF := Lib.hid hc
          have HSU := Lib.hid hsu
          clear hsu hv hir hvr hrr hVA hc va vb ha ha' hb hb' h1 h2 hK0
          go_wp2
          go_quiet ((exact Calls.quiet_of_same ((HF.out _).mono fun _ _ h => ⟨h.1, h.2.symm⟩)))
          go_wp2_with (first | (at_builtin; refine list_append_own (W0 := wr) (below_snoc (below_drewN (below_snoc (Below.refl _ _) _) _) _) w.heap.size rfl _ _ 24 22 _ 8 rfl Tryz.underlying24 infoU rfl (by decide) (.slice (some vad) k vc) k _ (.int .u64 val) rfl _ rfl (by first | (simp; done) | exact cell_drewN _ _ _ _ _ | exact cell_drewN' _ _ _) rfl HO.out (by omega) (by omega) ?_; intro v3 w3 hown3 hg3; have HO3 := Lib.hid hown3; have HB3 := Lib.hid (HB.out.grown hg3 hszr (fun q hq => (HO.out.lt q hq).1)); clear hown3 hg3))
          rw [← had]
          go_roundg (C.gates.length - (k + 1))
          case measure => omega
          case rel => exact ⟨k + 1, _, by omega, rfl, rfl, by go_num, by rw [HSU.out]; simpa [uCells] using HO3.out, HAL.out, HB3.out⟩
      · obtain ⟨a, rfl⟩ : ∃ x : Nat, a = x := ⟨a.toNat, by omega⟩
        have h1 : a < V.length := by omega
        have va := hVA a h1
        have i1 : (a : Int) < (k : Int) := by omega
        have hv : gval p I V (6, (a : Int), 0, (K : Int)) = V[a] * K % p := by simp [gval, List.getElem?_eq_getElem h1]
        rw [hv] at hsu
        have hrr := hvr.below ((Below.refl _ _).alloc (Nat.le_refl _) (.cells #[.int .i64 6, .int .i64 a, .int .i64 0, .int .u64 K] 42))
        obtain ⟨vad, rfl, r0⟩ := hrr.u a h1
        have hc := fun W => rmul_any p V[a] K h0 pm va (by omega) W
        generalize V[a] * K % p = val at hsu hc
        generalize V[a] = x at r0 hc
        have HF := Lib.hid hc
        have HSU := Lib.hid hsu
        clear hsu hv hir hvr hrr hVA hc va ha ha' h1
        go_wp2
        go_quiet ((exact Calls.quiet_of_same ((HF.out _).mono fun _ _ h => ⟨h.1, h.2.symm⟩)))
        go_wp2_with (first | (at_builtin; refine list_append_own (W0 := wr) (below_snoc (below_drewN (below_snoc (Below.refl _ _) _) _) _) w.heap.size rfl _ _ 24 22 _ 8 rfl Tryz.underlying24 infoU rfl (by decide) (.slice (some vad) k vc) k _ (.int .u64 val) rfl _ rfl (by first | (simp; done) | exact cell_drewN _ _ _ _ _ | exact cell_drewN' _ _ _) rfl HO.out (by omega) (by omega) ?_; intro v3 w3 hown3 hg3; have HO3 := Lib.hid hown3; have HB3 := Lib.hid (HB.out.grown hg3 hszr (fun q hq => (HO.out.lt q hq).1)); clear hown3 hg3))
        rw [← had]
        go_roundg (C.gates.length - (k + 1))
        case measure => omega
        case rel => exact ⟨k + 1, _, by omega, rfl, rfl, by go_num, by rw [HSU.out]; simpa [uCells] using HO3.out, HAL.out, HB3.out⟩
    · obtain rfl : k = C.gates.length := by omega
      have hO := HO.out
      rw [List.take_length] at hO
      have HO2 := Lib.hid hO; clear hO hal
      go_wp2
      go_ret
      exact ⟨_, rfl, HO2.out, HB.out⟩
/- The reference's Same where both circuits are the same. -/

set_option maxRecDepth 100000 in
theorem rints_some (l : List Int) (hl : l.length ≤ 9223372036854775807) (a b : Addr) (c d : Nat) (w : World) (hA : Reads w (some a) (iCells l)) (hB : Reads w (some b) (iCells l)) : Calls Tryz.prog 21 #[.slice (some a) l.length c, .slice (some b) l.length d] w fun e w' => e = .returned (.bool true) ∧ ∃ n, w' = w.drewN n := by
  have HA := Lib.hid hA; clear hA
  have HB := Lib.hid hB; clear hB
  go_enter Tryz.func21, Tryz.ntmps21
  go_wp2
  go_loopg [13] l.length (fun g v wr => ∃ k n : Nat, k ≤ l.length ∧ g = l.length - k ∧ v = .int .i64 k ∧ wr = w.drewN n)
  case atStart => exact ⟨0, 0, by omega, rfl, rfl, by simp [World.drewN_zero]⟩
  case round =>
    obtain ⟨k, n, hk, rfl, rfl, rfl⟩ := hrel
    by_cases hlt : k < l.length
    · have q0 := HA.out.some_i k hlt
      have r0 := HB.out.some_i k hlt
      go_wp2
      go_quiet (fail)
      try go_wp2
      go_roundg (l.length - (k + 1))
      case measure => omega
      case rel => exact ⟨k + 1, _, by omega, rfl, by go_num, by first | rfl | (rw [World.drewN_drewN]) | (rw [World.drewN_add])⟩
    · obtain rfl : k = l.length := by omega
      go_wp2
      go_ret
      exact ⟨rfl, _, rfl⟩
set_option maxRecDepth 100000 in
theorem rints_none (A B : Option Addr) (c d : Nat) (w : World) : Calls Tryz.prog 21 #[.slice A 0 c, .slice B 0 d] w (DPost w) := by
  go_enter Tryz.func21, Tryz.ntmps21
  go_wp2
  go_loopg [13] 0 (fun g v wr => v = .int .i64 0 ∧ w = wr)
  case atStart => exact ⟨rfl, rfl⟩
  case round =>
    obtain ⟨rfl, rfl⟩ := hrel
    go_wp2
    go_ret
    exact ⟨rfl, 0, rfl⟩
theorem rints_any (l : List Int) (hl : l.length ≤ 9223372036854775807) (A B : Option Addr) (c d : Nat) (w : World) (hA : Reads w A (iCells l)) (hB : Reads w B (iCells l)) : Calls Tryz.prog 21 #[.slice A l.length c, .slice B l.length d] w (DPost w) := by
  rcases Nat.eq_zero_or_pos l.length with h0 | h0
  · obtain rfl := List.eq_nil_of_length_eq_zero h0
    exact rints_none A B c d w
  · obtain ⟨a, rfl, _⟩ := hA.i 0 h0
    obtain ⟨b, rfl, _⟩ := hB.i 0 h0
    exact rints_some l hl a b c d w hA hB
set_option maxHeartbeats 6000000 in
set_option maxRecDepth 100000 in
theorem rsame_any (C D : Cir) (h : C.l = D.l) (w : World) (hC : HoldsC w C) (hD : HoldsC w D) :
    Calls Tryz.prog 7 #[.agg #[.slice C.SA C.slots.length C.sc, .slice C.GA C.gates.length C.gc, .slice C.EA C.exits.length C.ec], .agg #[.slice D.SA D.slots.length D.sc, .slice D.GA D.gates.length D.gc, .slice D.EA D.exits.length D.ec]] w fun e w' => e = .returned (.bool true) ∧ Below w.heap.size w w' := by
  have es : C.slots = D.slots := congrArg (fun x : Lis => x.1) h
  have eg : C.gates = D.gates := congrArg (fun x : Lis => x.2.1) h
  have ex : C.exits.map Exi.l = D.exits.map Exi.l := congrArg (fun x : Lis => x.2.2) h
  have ls : D.slots.length = C.slots.length := by rw [es]
  have lg : D.gates.length = C.gates.length := by rw [eg]
  have lx : D.exits.length = C.exits.length := by have := congrArg List.length ex; simpa using this.symm
  rw [ls, lg, lx]
  have hb2 : Below w.heap.size w ((w.alloc (.cells #[.slice C.SA C.slots.length C.sc, .slice C.GA C.gates.length C.gc, .slice C.EA C.exits.length C.ec] 36)).alloc (.cells #[.slice D.SA C.slots.length D.sc, .slice D.GA C.gates.length D.gc, .slice D.EA C.exits.length D.ec] 36)) := below_snoc (below_snoc (Below.refl _ _) _) _
  obtain ⟨Z, hZ⟩ : ∃ Z, Z = ((w.alloc (.cells #[.slice C.SA C.slots.length C.sc, .slice C.GA C.gates.length C.gc, .slice C.EA C.exits.length C.ec] 36)).alloc (.cells #[.slice D.SA C.slots.length D.sc, .slice D.GA C.gates.length D.gc, .slice D.EA C.exits.length D.ec] 36)) := ⟨_, rfl⟩
  have hz1 := heap_alloc_new (w.alloc (.cells #[.slice C.SA C.slots.length C.sc, .slice C.GA C.gates.length C.gc, .slice C.EA C.exits.length C.ec] 36)) (.cells #[.slice D.SA C.slots.length D.sc, .slice D.GA C.gates.length D.gc, .slice D.EA C.exits.length D.ec] 36)
  have hz0 := (Below.heap_alloc (w.alloc (.cells #[.slice C.SA C.slots.length C.sc, .slice C.GA C.gates.length C.gc, .slice C.EA C.exits.length C.ec] 36)) (.cells #[.slice D.SA C.slots.length D.sc, .slice D.GA C.gates.length D.gc, .slice D.EA C.exits.length D.ec] 36) w.heap.size (by simp)).trans (heap_alloc_new w (.cells #[.slice C.SA C.slots.length C.sc, .slice C.GA C.gates.length C.gc, .slice C.EA C.exits.length C.ec] 36))
  have e1 : (w.alloc (.cells #[.slice C.SA C.slots.length C.sc, .slice C.GA C.gates.length C.gc, .slice C.EA C.exits.length C.ec] 36)).heap.size = w.heap.size + 1 := by simp
  rw [e1] at hz1
  rw [← hZ] at hz0 hz1
  have hbz : Below w.heap.size w Z := by rw [hZ]; exact hb2
  have Z0 : Hid (Z.cell? ⟨w.heap.size, 0, none⟩ = some (.slice C.SA C.slots.length C.sc)) := Lib.hid (by rw [cell_in hz0]; rfl)
  have Z1 : Hid (Z.cell? ⟨w.heap.size, 1, none⟩ = some (.slice C.GA C.gates.length C.gc)) := Lib.hid (by rw [cell_in hz0]; rfl)
  have Z2 : Hid (Z.cell? ⟨w.heap.size, 2, none⟩ = some (.slice C.EA C.exits.length C.ec)) := Lib.hid (by rw [cell_in hz0]; rfl)
  have Z3 : Hid (Z.cell? ⟨w.heap.size + 1, 0, none⟩ = some (.slice D.SA C.slots.length D.sc)) := Lib.hid (by rw [cell_in hz1]; rfl)
  have Z4 : Hid (Z.cell? ⟨w.heap.size + 1, 1, none⟩ = some (.slice D.GA C.gates.length D.gc)) := Lib.hid (by rw [cell_in hz1]; rfl)
  have Z5 : Hid (Z.cell? ⟨w.heap.size + 1, 2, none⟩ = some (.slice D.EA C.exits.length D.ec)) := Lib.hid (by rw [cell_in hz1]; rfl)
  obtain ⟨n1, n2, n3⟩ := hC.n
  have HC := Lib.hid (hC.below hbz)
  have HD := Lib.hid (hD.below hbz)
  have HBZ := Lib.hid hbz
  have HES := Lib.hid es
  have HEG := Lib.hid eg
  have HEX := Lib.hid ex
  have HLX := Lib.hid lx
  have HZ := Lib.hid hZ
  clear h es eg ex ls lg lx hC hD hb2 hz0 hz1 e1 hbz hZ
  go_enter Tryz.func7, Tryz.ntmps7
  go_wp2
  rw [← HZ.out]
  clear HZ
  go_loopg [36] C.slots.length (fun g v wr => ∃ k n : Nat, k ≤ C.slots.length ∧ g = C.slots.length - k ∧ v = .int .i64 k ∧ wr = Z.drewN n)
  case atStart => exact ⟨0, 0, by omega, rfl, rfl, by simp [World.drewN_zero]⟩
  case round =>
    obtain ⟨k, n, hk, rfl, rfl, rfl⟩ := hrel
    by_cases hlt : k < C.slots.length
    · obtain ⟨aa, ha, q0, q1⟩ := HC.out.s.slo k hlt
      obtain ⟨bb, hb, r0, r1⟩ := HD.out.s.slo k (by rw [← HES.out]; exact hlt)
      have he : D.slots[k]'(by rw [← HES.out]; exact hlt) = C.slots[k] := by simp only [HES.out]
      rw [he] at r0 r1
      have z0 := Z0.out
      have z3 := Z3.out
      rw [ha] at z0
      rw [hb] at z3
      generalize C.slots[k] = s at q0 q1 r0 r1
      obtain ⟨s1, s2⟩ := s
      simp only at q0 q1 r0 r1
      clear he
      go_wp2
      go_quiet (fail)
      try go_wp2
      go_roundg (C.slots.length - (k + 1))
      case measure => omega
      case rel => exact ⟨k + 1, _, by omega, rfl, by go_num, by first | rfl | (rw [World.drewN_drewN]) | (rw [World.drewN_add])⟩
    · obtain rfl : k = C.slots.length := by omega
      have z1 := Z1.out
      go_wp2
      clear z1
      go_loopg [54] C.gates.length (fun g v wr => ∃ k n : Nat, k ≤ C.gates.length ∧ g = C.gates.length - k ∧ v = .int .i64 k ∧ wr = Z.drewN n)
      case atStart => exact ⟨0, _, by omega, rfl, rfl, rfl⟩
      case round =>
        obtain ⟨k, n, hk, rfl, rfl, rfl⟩ := hrel
        by_cases hlt : k < C.gates.length
        · obtain ⟨aa, ha, q0, q1, q2, q3⟩ := HC.out.g.gat k hlt
          obtain ⟨bb, hb, r0, r1, r2, r3⟩ := HD.out.g.gat k (by rw [← HEG.out]; exact hlt)
          have he : D.gates[k]'(by rw [← HEG.out]; exact hlt) = C.gates[k] := by simp only [HEG.out]
          rw [he] at r0 r1 r2 r3
          have z1 := Z1.out
          have z4 := Z4.out
          rw [ha] at z1
          rw [hb] at z4
          generalize C.gates[k] = s at q0 q1 q2 q3 r0 r1 r2 r3
          obtain ⟨s1, s2, s3, s4⟩ := s
          simp only at q0 q1 q2 q3 r0 r1 r2 r3
          clear he
          go_wp2
          go_quiet (fail)
          try go_wp2
          go_roundg (C.gates.length - (k + 1))
          case measure => omega
          case rel => exact ⟨k + 1, _, by omega, rfl, by go_num, by first | rfl | (rw [World.drewN_drewN]) | (rw [World.drewN_add])⟩
        · obtain rfl : k = C.gates.length := by omega
          have z2 := Z2.out
          go_wp2
          clear z2
          go_loopg [72] C.exits.length (fun g v wr => ∃ k n : Nat, k ≤ C.exits.length ∧ g = C.exits.length - k ∧ v = .int .i64 k ∧ wr = Z.drewN n)
          case atStart => exact ⟨0, _, by omega, rfl, rfl, rfl⟩
          case round =>
            obtain ⟨k, n, hk, rfl, rfl, rfl⟩ := hrel
            by_cases hlt : k < C.exits.length
            · have hlt' : k < D.exits.length := by rw [HLX.out]; exact hlt
              obtain ⟨aa, ha, q0, q1⟩ := HC.out.e.exi k hlt
              obtain ⟨bb, hb, r0, r1⟩ := HD.out.e.exi k hlt'
              obtain ⟨x1, x2⟩ := HC.out.x _ (List.getElem_mem hlt)
              obtain ⟨m1, m2⟩ := HC.out.m _ (List.getElem_mem hlt)
              obtain ⟨y1, y2⟩ := HD.out.x _ (List.getElem_mem hlt')
              have he : C.exits[k].l = D.exits[k].l := by
                have := congrArg (fun l => l[k]?) HEX.out
                simpa [List.getElem?_map, List.getElem?_eq_getElem hlt, List.getElem?_eq_getElem hlt'] using this
              have z2 := Z2.out
              have z5 := Z5.out
              rw [ha] at z2
              rw [hb] at z5
              generalize C.exits[k] = t at q0 q1 x1 x2 m1 m2 he
              generalize D.exits[k] = u at r0 r1 y1 y2 he
              obtain ⟨tl, gl, tA, tB, tc, td⟩ := t
              obtain ⟨tl', gl', uA, uB, uc, ud⟩ := u
              have e1 : tl = tl' := congrArg (fun x : List Int × List Int => x.1) he
              have e2 : gl = gl' := congrArg (fun x : List Int × List Int => x.2) he
              subst e1
              subst e2
              simp only at q0 q1 r0 r1 x1 x2 y1 y2 m1 m2
              have HI := Lib.hid (fun m => show Calls Tryz.prog 21 #[.slice tA tl.length tc, .slice uA tl.length uc] (Z.drewN m) (fun e w' => e = .returned (.bool true) ∧ ∃ k, w' = (Z.drewN m).drewN k) from rints_any tl m1 tA uA tc uc (Z.drewN m) x1 y1)
              have HS := Lib.hid (fun m => show Calls Tryz.prog 21 #[.slice tB gl.length td, .slice uB gl.length ud] (Z.drewN m) (fun e w' => e = .returned (.bool true) ∧ ∃ k, w' = (Z.drewN m).drewN k) from rints_any gl m2 tB uB td ud (Z.drewN m) x2 y2)
              clear x1 x2 y1 y2 he m1 m2
              go_wp2
              go_quiet (first | (with_reducible exact quiet_moreD HI.out) | (with_reducible exact quiet_moreD HS.out))
              try go_wp2
              go_roundg (C.exits.length - (k + 1))
              case measure => omega
              case rel => exact ⟨k + 1, _, by omega, rfl, by go_num, by first | rfl | (rw [World.drewN_drewN]) | (rw [World.drewN_add])⟩
            · obtain rfl : k = C.exits.length := by omega
              go_wp2
              go_ret
              exact ⟨rfl, below_drewN HBZ.out _⟩
end Go.Proofs.YtkcdlbclodjjhaaGreat
