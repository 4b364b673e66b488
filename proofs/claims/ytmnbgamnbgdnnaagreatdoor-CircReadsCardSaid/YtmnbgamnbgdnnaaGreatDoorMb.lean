/- Contracts and plain laws of chapter 12, merged: CirH CirI CirJ CirK CirL CirM. -/
import Derived.Test.YtmnbgamnbgdnnaaGreatDoorMa
import Derived.Laws.MakeOwn
import Derived.Deep.AppendLies
import Derived.Laws.AppendOwnNone
/- Contract of circ.Inputs. -/
namespace Go.Proofs.YtmnbgamnbgdnnaaGreatDoor
open Go.RowKit

/-- A slot's input as it counts. -/
def eff1 (s : Slo) (x : Nat) : Nat := if s.2 && decide (1 < x) then 0 else x
def effL (s : List Slo) (x : List Nat) : List Nat := List.zipWith eff1 s x
/-- The first k are turned, the rest are as they came. -/
def partL (s : List Slo) (x : List Nat) (k : Nat) : List Nat := effL (s.take k) (x.take k) ++ x.drop k
theorem partL_zero (s : List Slo) (x : List Nat) : partL s x 0 = x := by simp [partL, effL]
theorem partL_all {s : List Slo} {x : List Nat} (h : x.length = s.length) : partL s x s.length = effL s x := by
  unfold partL
  rw [List.take_length, ← h, List.take_length, List.drop_length, List.append_nil]
theorem effL_len {s : List Slo} {x : List Nat} {k : Nat} (h1 : k ≤ s.length) (h2 : k ≤ x.length) : (effL (s.take k) (x.take k)).length = k := by
  unfold effL
  rw [List.length_zipWith, List.length_take, List.length_take]; omega
theorem partL_len {s : List Slo} {x : List Nat} {k : Nat} (h1 : k ≤ s.length) (h2 : k ≤ x.length) : (partL s x k).length = x.length := by
  unfold partL
  rw [List.length_append, effL_len h1 h2, List.length_drop]; omega
theorem partL_at {s : List Slo} {x : List Nat} {k : Nat} (h1 : k < s.length) (h2 : k < x.length) : (partL s x k)[k]? = some x[k] := by
  unfold partL
  rw [List.getElem?_append_right (by rw [effL_len (by omega) (by omega)]; omega), effL_len (by omega) (by omega), List.getElem?_drop, show k + (k - k) = k by omega, List.getElem?_eq_getElem h2]
theorem partL_succ {s : List Slo} {x : List Nat} {k : Nat} (h1 : k < s.length) (h2 : k < x.length) : partL s x (k + 1) = (partL s x k).set k (eff1 s[k] x[k]) := by
  unfold partL
  have hl := effL_len (k := k) (s := s) (x := x) (by omega) (by omega)
  have e : effL (s.take (k + 1)) (x.take (k + 1)) = effL (s.take k) (x.take k) ++ [eff1 s[k] x[k]] := by
    unfold effL
    rw [List.take_succ_eq_append_getElem h1, List.take_succ_eq_append_getElem h2, List.zipWith_append (by rw [List.length_take, List.length_take]; omega)]
    rfl
  rw [e, List.set_append_right _ _ (by rw [hl]; omega), hl, show k - k = 0 by omega, List.drop_eq_getElem_cons h2, List.append_assoc]
  rfl
def inErr (p : Nat) (C : Cir) (x : List Nat) : Int := if checkErr p C = 0 then (if x.length = C.slots.length ∧ allLt p x = true then 0 else 2) else checkErr p C
def InPost (p : Nat) (C : Cir) (x : List Nat) (w : World) (e : Ending) (w' : World) : Prop :=
  ((inErr p C x ≠ 0 ∧ e = .returned (.tuple #[.slice none 0 0, .int .i64 (inErr p C x)])) ∨
   (inErr p C x = 0 ∧ ∃ v, e = .returned (.tuple #[v, .int .i64 0]) ∧ w'.ownsRow w.heap.size 22 1 v x.length (uCells (effL C.slots x)))) ∧ Below w.heap.size w w'
theorem in_bad {p : Nat} {C : Cir} {x : List Nat} {w w' : World} {r : Int} (h : inErr p C x = r) (h0 : r ≠ 0) (hb : Below w.heap.size w w') : InPost p C x w (.returned (.tuple #[.slice none 0 0, .int .i64 r])) w' :=
  ⟨.inl ⟨by rw [h]; exact h0, by rw [h]⟩, hb⟩
theorem u_set (l : List Nat) (k x : Nat) : (uCells l).set k (.int .u64 x) = uCells (l.set k x) := by simp [uCells, List.map_set]
theorem own_lower {w : World} {base base' : Nat} {e : TypeId} {size n : Nat} {v : Value} {xs : List Value} (h : w.ownsRow base e size v n xs) (hb : base' ≤ base) : w.ownsRow base' e size v n xs := by
  refine ⟨h.1, ?_⟩
  rcases h.2 with h2 | ⟨g, cap, cur, hv, hg, r⟩
  · exact .inl h2
  · exact .inr ⟨g, cap, cur, hv, Nat.le_trans hb hg, r⟩
theorem own_form {w : World} {base : Nat} {e : TypeId} {size n : Nat} {v : Value} {xs : List Value} (h : w.ownsRow base e size v n xs) (hn : 0 < n) : ∃ g cap, v = .slice (some ⟨g, 0, none⟩) n cap ∧ base ≤ g ∧ n ≤ cap := by
  rcases h.2 with ⟨_, h0⟩ | ⟨g, cap, cur, rfl, hb, _, hc, _⟩
  · omega
  · exact ⟨g, cap, rfl, hb, hc⟩
theorem own_reads {w : World} {base : Nat} {e : TypeId} {size n : Nat} {v : Value} {xs : List Value} (h : w.ownsRow base e size v n xs) : ∃ A c, v = .slice A n c ∧ Reads w A xs := by
  rcases h.2 with ⟨hv, h0⟩ | ⟨g, cap, cur, hv, hb, r⟩
  · subst h0
    exact ⟨none, 0, hv, .inl (List.eq_nil_of_length_eq_zero (by rw [h.1]; omega))⟩
  · exact ⟨some ⟨g, 0, none⟩, cap, hv, .inr ⟨_, rfl, fun j u hu => h.cells (g := g) (by rw [hv]; rfl) j u hu⟩⟩
set_option maxHeartbeats 2000000 in
set_option maxRecDepth 100000 in
theorem inputs_bad (p : Nat) (hp : p < 18446744073709551616) (C : Cir) (x : List Nat) (hx : x.length ≤ 17592186044416) (A : Option Addr) (c : Nat) (w : World) (hC : HoldsC w C) (hA : Reads w A (uCells x)) (hbad : inErr p C x ≠ 0) :
    Calls Tryz.prog 13 #[.int .u64 p, .agg #[.slice C.SA C.slots.length C.sc, .slice C.GA C.gates.length C.gc, .slice C.EA C.exits.length C.ec], .slice A x.length c] w (InPost p C x w) := by
  have hb0 : Below w.heap.size w (w.alloc (.cells #[.slice C.SA C.slots.length C.sc, .slice C.GA C.gates.length C.gc, .slice C.EA C.exits.length C.ec] 27)) := (Below.refl _ _).alloc (Nat.le_refl _) _
  have HA := Lib.hid (hA.below hb0)
  obtain ⟨n1, n2, n3⟩ := hC.n
  have hck := check_any p hp C _ (hC.below hb0)
  have hin : inErr p C x = if checkErr p C = 0 then (if x.length = C.slots.length ∧ allLt p x = true then 0 else 2) else checkErr p C := rfl
  clear hC hA hb0
  by_cases h0 : checkErr p C = 0
  · rw [h0] at hck hin
    have HCK := Lib.hid hck; clear hck
    rw [if_pos rfl] at hin
    by_cases hl : x.length = C.slots.length
    · by_cases ha : allLt p x = true
      · rw [if_pos ⟨hl, ha⟩] at hin
        exact absurd hin hbad
      · have hlt := fun W (h : Reads W A (uCells x)) => belowL_any p x (by omega) A c W h
        rw [show ltErr p x = 2 by unfold ltErr; rw [if_neg ha]] at hlt
        rw [if_neg (fun h => ha h.2)] at hin
        have HLT := Lib.hid hlt; clear hlt
        have HIN := Lib.hid hin
        clear hin hbad ha
        rw [hl] at *
        go_enter Tryz.func13, Tryz.ntmps13
        go_wp2_with (first | (go_at_call 10; refine HCK.out.mono ?_; rintro e w1 ⟨rfl, hb1⟩; have c0 := hb1.cell (p := ⟨w.heap.size, 0, none⟩) (by simp); have HB1 := Lib.hid hb1; clear hb1) | (go_at_call 42; refine (HLT.out _ (HA.out.below HB1.out)).mono ?_; rintro e w2 ⟨rfl, rfl⟩))
        go_ret2
        exact in_bad HIN.out (by decide) (below_box HB1.out)
    · have hne : ((x.length : Int) == (C.slots.length : Int)) = false := by simp; omega
      have hne2 : (x.length == C.slots.length) = false := by simpa using hl
      rw [if_neg (fun h => hl h.1)] at hin
      have HIN := Lib.hid hin
      clear hin hbad
      go_enter Tryz.func13, Tryz.ntmps13
      go_wp2_with (first | (go_at_call 10; refine HCK.out.mono ?_; rintro e w1 ⟨rfl, hb1⟩; have c0 := hb1.cell (p := ⟨w.heap.size, 0, none⟩) (by simp); have HB1 := Lib.hid hb1; clear hb1))
      go_ret2
      exact in_bad HIN.out (by decide) (below_box HB1.out)
  · rw [if_neg h0] at hin
    have hz : (checkErr p C == 0) = false := by simpa using h0
    generalize checkErr p C = er at hck hin h0 hz
    have HCK := Lib.hid hck; clear hck
    have HIN := Lib.hid hin
    clear hin hbad
    go_enter Tryz.func13, Tryz.ntmps13
    go_wp2_with (first | (go_at_call 10; refine HCK.out.mono ?_; rintro e w1 ⟨rfl, hb1⟩; have HB1 := Lib.hid hb1; clear hb1))
    go_ret2
    exact in_bad HIN.out h0 (below_box HB1.out)
theorem cloneU_any (l : List Nat) (hl : l.length ≤ 17592186044416) (A : Option Addr) (c : Nat) (w : World) (hR : Reads w A (uCells l)) : Calls Tryz.prog 43 #[.slice A l.length c] w (OwnPost 22 l.length (uCells l) w) := by
  cases A with
  | none =>
    rcases hR with h | ⟨ad, e, _⟩
    · have := congrArg List.length h
      simp [uCells] at this
      subst this
      exact cloneU_none c w
    · cases e
  | some ad => exact cloneU_some l hl ad c w hR
theorem eff1_true {s : Slo} {x : Nat} (h : s.2 = true) (h1 : 1 < x) : eff1 s x = 0 := by simp [eff1, h, h1]
theorem eff1_small {s : Slo} {x : Nat} (h1 : ¬ 1 < x) : eff1 s x = x := by simp [eff1, h1]
theorem eff1_false {s : Slo} {x : Nat} (h : s.2 = false) : eff1 s x = x := by simp [eff1, h]
theorem set_same {l : List Nat} {k x : Nat} (h : l[k]? = some x) : l.set k x = l := by
  obtain ⟨h1, h2⟩ := List.getElem?_eq_some_iff.1 h
  subst h2
  exact List.set_getElem_self h1
theorem u_at {l : List Nat} {k x : Nat} (h : l[k]? = some x) : (uCells l)[k]? = some (.int .u64 x) := by simp [uCells, h]
set_option maxHeartbeats 4000000 in
set_option maxRecDepth 100000 in
theorem inputs_ok (p : Nat) (hp : p < 18446744073709551616) (C : Cir) (x : List Nat) (hx : x.length ≤ 17592186044416) (A : Option Addr) (c : Nat) (w : World) (hC : HoldsC w C) (hA : Reads w A (uCells x)) (hck0 : checkErr p C = 0) (hl : x.length = C.slots.length) (ha : allLt p x = true) :
    Calls Tryz.prog 13 #[.int .u64 p, .agg #[.slice C.SA C.slots.length C.sc, .slice C.GA C.gates.length C.gc, .slice C.EA C.exits.length C.ec], .slice A x.length c] w (InPost p C x w) := by
  have hb0 : Below w.heap.size w (w.alloc (.cells #[.slice C.SA C.slots.length C.sc, .slice C.GA C.gates.length C.gc, .slice C.EA C.exits.length C.ec] 27)) := (Below.refl _ _).alloc (Nat.le_refl _) _
  have HA := Lib.hid (hA.below hb0)
  have HC := Lib.hid (hC.below hb0)
  obtain ⟨n1, n2, n3⟩ := hC.n
  have hck := check_any p hp C _ (hC.below hb0)
  rw [hck0] at hck
  have HCK := Lib.hid hck; clear hck
  have hlt := fun W (h : Reads W A (uCells x)) => belowL_any p x (by omega) A c W h
  rw [show ltErr p x = 0 by unfold ltErr; rw [if_pos ha]] at hlt
  rw [hl] at hlt
  have HLT := Lib.hid hlt; clear hlt
  have hcl := fun W (h : Reads W A (uCells x)) => cloneU_any x hx A c W h
  rw [hl] at hcl
  have HCL := Lib.hid hcl; clear hcl
  have HIN : Hid (inErr p C x = 0) := Lib.hid (by unfold inErr; rw [if_pos hck0, if_pos ⟨hl, ha⟩])
  clear hC hA hb0 ha hck0
  have HL := Lib.hid hl
  unfold InPost
  rw [hl]
  clear hl
  go_enter Tryz.func13, Tryz.ntmps13
  go_wp2_with (first | (go_at_call 10; refine HCK.out.mono ?_; rintro e w1 ⟨rfl, hb1⟩; have c0 := hb1.cell (p := ⟨w.heap.size, 0, none⟩) (by simp); have HB1 := Lib.hid hb1; clear hb1) | (go_at_call 42; refine (HLT.out _ (HA.out.below HB1.out)).mono ?_; rintro e w2 ⟨rfl, rfl⟩) | (go_at_call 43; refine (HCL.out _ (HA.out.below HB1.out)).mono ?_; rintro e w3 ⟨v, rfl, hown, hb3⟩; have c0 := (hb3.mono HB1.out.size).cell (p := ⟨w.heap.size, 0, none⟩) (by simp); have HO := Lib.hid hown; clear hown; have HB3 := Lib.hid (below_alive HB1.out hb3); clear hb3))
  go_loopg [35] C.slots.length (fun g i wr => ∃ k : Nat, k ≤ C.slots.length ∧ g = C.slots.length - k ∧ i = .int .i64 k ∧ wr.ownsRow (w.heap.size + 1) 22 1 v C.slots.length (uCells (partL C.slots x k)) ∧ Below (w.alloc (.cells #[.slice C.SA C.slots.length C.sc, .slice C.GA C.gates.length C.gc, .slice C.EA C.exits.length C.ec] 27)).heap.size (w.alloc (.cells #[.slice C.SA C.slots.length C.sc, .slice C.GA C.gates.length C.gc, .slice C.EA C.exits.length C.ec] 27)) wr)
  case atStart => exact ⟨0, by omega, rfl, rfl, by rw [partL_zero]; exact own_lower HO.out (by have h5 := HB1.out.size; simpa using h5), HB3.out⟩
  case round =>
    obtain ⟨k, hk, rfl, rfl, hown, hbel⟩ := hrel
    clear c0
    have HB := Lib.hid hbel; clear hbel
    have HOW := Lib.hid hown; clear hown HO HB3
    by_cases hlt : k < C.slots.length
    · obtain ⟨g, cap, rfl, hg1, hg2⟩ := own_form HOW.out (by omega)
      have hgl := (HOW.out.lt g rfl).2
      obtain ⟨ad, had, q0, q1⟩ := (HC.out.below HB.out).s.slo k hlt
      have c0 := HB.out.cell (p := ⟨w.heap.size, 0, none⟩) (by simp)
      have hsz : w.heap.size < wr.heap.size := by have h5 := HB.out.size; simp at h5; omega
      have hkx : k < x.length := by have := HL.out; omega
      have r0 := (HOW.out.cellAt k (by omega)).trans (u_at (partL_at hlt hkx))
      have rf := HOW.out.frozenAt k
      have HPS := Lib.hid (partL_succ hlt hkx)
      have HPA := Lib.hid (partL_at hlt hkx)
      rw [had]
      have hno : ¬ g = wr.heap.size := by omega
      rcases Bool.eq_false_or_eq_true C.slots[k].2 with hb | hb
      · by_cases h1 : 1 < x[k]
        · have i1 : (1 : Int) < (x[k] : Int) := by omega
          have HE := Lib.hid (eff1_true hb h1)
          rw [hb] at q1
          generalize x[k] = xk at *
          go_wp2
          rw [← had]
          go_roundg (C.slots.length - (k + 1))
          case measure => omega
          case rel => exact ⟨k + 1, by omega, rfl, by go_num, by rw [HPS.out, HE.out, ← u_set]; exact ((HOW.out.stored k _).1).alloc _, (HB.out.setCell (p := ⟨g, k, none⟩) (by simp; omega) _).alloc (by have h5 := HB.out.size; simpa using h5) _⟩
        · have i1 : (x[k] : Int) ≤ 1 := by omega
          have HE := Lib.hid (eff1_small (s := C.slots[k]) h1)
          rw [hb] at q1
          have HPN : Hid (partL C.slots x (k + 1) = partL C.slots x k) := Lib.hid (by rw [HPS.out, HE.out]; exact set_same HPA.out)
          generalize x[k] = xk at *
          go_wp2
          rw [← had]
          go_roundg (C.slots.length - (k + 1))
          case measure => omega
          case rel => exact ⟨k + 1, by omega, rfl, by go_num, by rw [HPN.out]; exact HOW.out.alloc _, HB.out.alloc HB.out.size _⟩
      · have HE := Lib.hid (eff1_false (x := x[k]) hb)
        rw [hb] at q1
        have HPN : Hid (partL C.slots x (k + 1) = partL C.slots x k) := Lib.hid (by rw [HPS.out, HE.out]; exact set_same HPA.out)
        go_wp2
        rw [← had]
        go_roundg (C.slots.length - (k + 1))
        case measure => omega
        case rel => exact ⟨k + 1, by omega, rfl, by go_num, by rw [HPN.out]; exact HOW.out.alloc _, HB.out.alloc HB.out.size _⟩
    · obtain rfl : k = C.slots.length := by omega
      go_wp2
      go_ret2
      exact ⟨.inr ⟨HIN.out, _, rfl, by have h := HOW.out; rw [partL_all HL.out] at h; exact own_lower h (by omega)⟩, below_box HB.out⟩
theorem inErr_ok {p : Nat} {C : Cir} {x : List Nat} (h : inErr p C x = 0) : checkErr p C = 0 ∧ x.length = C.slots.length ∧ allLt p x = true := by
  unfold inErr at h
  split at h
  · rename_i h0
    split at h
    · rename_i h1; exact ⟨h0, h1⟩
    · cases h
  · rename_i h0; exact absurd h h0
theorem inputs_any (p : Nat) (hp : p < 18446744073709551616) (C : Cir) (x : List Nat) (hx : x.length ≤ 17592186044416) (A : Option Addr) (c : Nat) (w : World) (hC : HoldsC w C) (hA : Reads w A (uCells x)) :
    Calls Tryz.prog 13 #[.int .u64 p, .agg #[.slice C.SA C.slots.length C.sc, .slice C.GA C.gates.length C.gc, .slice C.EA C.exits.length C.ec], .slice A x.length c] w (InPost p C x w) := by
  by_cases h : inErr p C x = 0
  · obtain ⟨h1, h2, h3⟩ := inErr_ok h
    exact inputs_ok p hp C x hx A c w hC hA h1 h2 h3
  · exact inputs_bad p hp C x hx A c w hC hA h
end Go.Proofs.YtmnbgamnbgdnnaaGreatDoor

/- Contract of circ.Of: the value of a gate, by those of lesser ones. -/
namespace Go.Proofs.YtmnbgamnbgdnnaaGreatDoor
open Go.RowKit

def UPost (r : Nat) (w : World) (e : Ending) (w' : World) : Prop := e = .returned (.int .u64 r) ∧ Below w.heap.size w w'
theorem below_drewN {B : Nat} {a w : World} (h : Below B a w) (n : Nat) : Below B a (w.drewN n) := ⟨h.os, h.tape, h.output, h.size, h.block⟩
set_option maxHeartbeats 1000000 in
set_option maxRecDepth 100000 in
theorem of_1 (p : Nat) (_h0 : 0 < p) (_hp : p ≤ 65537) (I V : List Nat) (A B : Option Addr) (c d a b K : Nat) (w : World) (hA : Reads w A (uCells I)) (ha : a < I.length) :
    Calls Tryz.prog 44 #[.int .u64 p, .agg #[.int .i64 1, .int .i64 a, .int .i64 b, .int .u64 K], .slice A I.length c, .slice B V.length d] w (UPost (I[a]) w) := by
  obtain ⟨ad, rfl, q0⟩ := (hA.below ((Below.refl _ _).alloc (Nat.le_refl _) (.cells #[.int .i64 1, .int .i64 a, .int .i64 b, .int .u64 K] 69))).u a ha
  have i1 : (a : Int) < (I.length : Int) := by omega
  go_enter Tryz.func44, Tryz.ntmps44
  go_wp2
  go_ret
  exact ⟨rfl, (Below.refl _ _).alloc (Nat.le_refl _) _⟩
set_option maxHeartbeats 1000000 in
set_option maxRecDepth 100000 in
theorem of_2 (p : Nat) (_h0 : 0 < p) (_hp : p ≤ 65537) (I V : List Nat) (A B : Option Addr) (c d a b K : Nat) (w : World) :
    Calls Tryz.prog 44 #[.int .u64 p, .agg #[.int .i64 2, .int .i64 a, .int .i64 b, .int .u64 K], .slice A I.length c, .slice B V.length d] w (UPost (K) w) := by
  go_enter Tryz.func44, Tryz.ntmps44
  go_wp2
  go_ret
  exact ⟨rfl, (Below.refl _ _).alloc (Nat.le_refl _) _⟩
set_option maxHeartbeats 1000000 in
set_option maxRecDepth 100000 in
theorem of_3 (p : Nat) (h0 : 0 < p) (hp : p ≤ 65537) (I V : List Nat) (A B : Option Addr) (c d a b K : Nat) (w : World) (hB : Reads w B (uCells V)) (ha : a < V.length) (hb : b < V.length) (va : V[a] < p) (vb : V[b] < p) :
    Calls Tryz.prog 44 #[.int .u64 p, .agg #[.int .i64 3, .int .i64 a, .int .i64 b, .int .u64 K], .slice A I.length c, .slice B V.length d] w (UPost ((V[a] + V[b]) % p) w) := by
  have hB' := hB.below ((Below.refl _ _).alloc (Nat.le_refl _) (.cells #[.int .i64 3, .int .i64 a, .int .i64 b, .int .u64 K] 69))
  obtain ⟨ad, rfl, q0⟩ := hB'.u a ha
  have r0 := hB'.some_u b hb
  have i1 : (a : Int) < (V.length : Int) := by omega
  have i2 : (b : Int) < (V.length : Int) := by omega
  have hc := fun W => plus_any p V[a] V[b] h0 hp va vb W
  generalize V[a] = x at *
  generalize V[b] = y at *
  have HC := Lib.hid hc; clear hc hB hB'
  go_enter Tryz.func44, Tryz.ntmps44
  go_wp2
  go_quiet ((exact Calls.quiet_of_same ((HC.out _).mono fun _ _ h => ⟨h.1, h.2.symm⟩)))
  go_wp2
  go_ret
  exact ⟨rfl, below_drewN ((Below.refl _ _).alloc (Nat.le_refl _) _) _⟩
set_option maxHeartbeats 1000000 in
set_option maxRecDepth 100000 in
theorem of_4 (p : Nat) (h0 : 0 < p) (hp : p ≤ 65537) (I V : List Nat) (A B : Option Addr) (c d a b K : Nat) (w : World) (hB : Reads w B (uCells V)) (ha : a < V.length) (hb : b < V.length) (va : V[a] < p) (vb : V[b] < p) :
    Calls Tryz.prog 44 #[.int .u64 p, .agg #[.int .i64 4, .int .i64 a, .int .i64 b, .int .u64 K], .slice A I.length c, .slice B V.length d] w (UPost ((V[a] + p - V[b]) % p) w) := by
  have hB' := hB.below ((Below.refl _ _).alloc (Nat.le_refl _) (.cells #[.int .i64 4, .int .i64 a, .int .i64 b, .int .u64 K] 69))
  obtain ⟨ad, rfl, q0⟩ := hB'.u a ha
  have r0 := hB'.some_u b hb
  have i1 : (a : Int) < (V.length : Int) := by omega
  have i2 : (b : Int) < (V.length : Int) := by omega
  have hc := fun W => minus_any p V[a] V[b] h0 hp va vb W
  generalize V[a] = x at *
  generalize V[b] = y at *
  have HC := Lib.hid hc; clear hc hB hB'
  go_enter Tryz.func44, Tryz.ntmps44
  go_wp2
  go_quiet ((exact Calls.quiet_of_same ((HC.out _).mono fun _ _ h => ⟨h.1, h.2.symm⟩)))
  go_wp2
  go_ret
  exact ⟨rfl, below_drewN ((Below.refl _ _).alloc (Nat.le_refl _) _) _⟩
set_option maxHeartbeats 1000000 in
set_option maxRecDepth 100000 in
theorem of_5 (p : Nat) (h0 : 0 < p) (hp : p ≤ 65537) (I V : List Nat) (A B : Option Addr) (c d a b K : Nat) (w : World) (hB : Reads w B (uCells V)) (ha : a < V.length) (hb : b < V.length) (va : V[a] < p) (vb : V[b] < p) :
    Calls Tryz.prog 44 #[.int .u64 p, .agg #[.int .i64 5, .int .i64 a, .int .i64 b, .int .u64 K], .slice A I.length c, .slice B V.length d] w (UPost (V[a] * V[b] % p) w) := by
  have hB' := hB.below ((Below.refl _ _).alloc (Nat.le_refl _) (.cells #[.int .i64 5, .int .i64 a, .int .i64 b, .int .u64 K] 69))
  obtain ⟨ad, rfl, q0⟩ := hB'.u a ha
  have r0 := hB'.some_u b hb
  have i1 : (a : Int) < (V.length : Int) := by omega
  have i2 : (b : Int) < (V.length : Int) := by omega
  have hc := fun W => times_any p V[a] V[b] h0 hp va vb W
  generalize V[a] = x at *
  generalize V[b] = y at *
  have HC := Lib.hid hc; clear hc hB hB'
  go_enter Tryz.func44, Tryz.ntmps44
  go_wp2
  go_quiet ((exact Calls.quiet_of_same ((HC.out _).mono fun _ _ h => ⟨h.1, h.2.symm⟩)))
  go_wp2
  go_ret
  exact ⟨rfl, below_drewN ((Below.refl _ _).alloc (Nat.le_refl _) _) _⟩
set_option maxHeartbeats 1000000 in
set_option maxRecDepth 100000 in
theorem of_6 (p : Nat) (h0 : 0 < p) (hp : p ≤ 65537) (I V : List Nat) (A B : Option Addr) (c d a b K : Nat) (w : World) (hB : Reads w B (uCells V)) (ha : a < V.length) (va : V[a] < p) (vb : K < p) :
    Calls Tryz.prog 44 #[.int .u64 p, .agg #[.int .i64 6, .int .i64 a, .int .i64 b, .int .u64 K], .slice A I.length c, .slice B V.length d] w (UPost (V[a] * K % p) w) := by
  have hB' := hB.below ((Below.refl _ _).alloc (Nat.le_refl _) (.cells #[.int .i64 6, .int .i64 a, .int .i64 b, .int .u64 K] 69))
  obtain ⟨ad, rfl, q0⟩ := hB'.u a ha
  have i1 : (a : Int) < (V.length : Int) := by omega
  have hc := fun W => times_any p V[a] K h0 hp va vb W
  generalize V[a] = x at *
  have HC := Lib.hid hc; clear hc hB hB'
  go_enter Tryz.func44, Tryz.ntmps44
  go_wp2
  go_quiet ((exact Calls.quiet_of_same ((HC.out _).mono fun _ _ h => ⟨h.1, h.2.symm⟩)))
  go_wp2
  go_ret
  exact ⟨rfl, below_drewN ((Below.refl _ _).alloc (Nat.le_refl _) _) _⟩
end Go.Proofs.YtmnbgamnbgdnnaaGreatDoor

/- The value of a valid gate: circ.Of at every gate that fits. -/
namespace Go.Proofs.YtmnbgamnbgdnnaaGreatDoor
open Go.RowKit

def gval (p : Nat) (I V : List Nat) (g : Gat) : Nat :=
  if g.1 = 1 then I.getD g.2.1.toNat 0 else if g.1 = 2 then g.2.2.2.toNat
  else if g.1 = 3 then (V.getD g.2.1.toNat 0 + V.getD g.2.2.1.toNat 0) % p
  else if g.1 = 4 then (V.getD g.2.1.toNat 0 + p - V.getD g.2.2.1.toNat 0) % p
  else if g.1 = 5 then V.getD g.2.1.toNat 0 * V.getD g.2.2.1.toNat 0 % p
  else V.getD g.2.1.toNat 0 * g.2.2.2.toNat % p
/-- What a gate that fits names. -/
theorem gate_fits {p : Nat} {n m : Int} {k a b K : Int} (_hp : 0 < p) (h : gateErr p n m k a b K = 0) :
    (k = 1 ∧ b = 0 ∧ K = 0 ∧ 0 ≤ a ∧ a < n) ∨ (k = 2 ∧ a = 0 ∧ b = 0 ∧ K < p) ∨ ((k = 3 ∨ k = 4 ∨ k = 5) ∧ K = 0 ∧ 0 ≤ a ∧ a < m ∧ 0 ≤ b ∧ b < m) ∨ (k = 6 ∧ b = 0 ∧ 0 ≤ a ∧ a < m ∧ K < p) := by
  unfold gateErr at h
  split at h
  · rename_i h1
    split at h
    · cases h
    · split at h
      · cases h
      · left; omega
  split at h
  · rename_i h1
    split at h
    · cases h
    · split at h
      · cases h
      · right; left; omega
  split at h
  · rename_i h1
    split at h
    · cases h
    · split at h
      · cases h
      · right; right; left
        refine ⟨h1, ?_⟩
        omega
  split at h
  · rename_i h1
    split at h
    · cases h
    · split at h
      · cases h
      · split at h
        · cases h
        · right; right; right; omega
  · cases h
theorem getD_at {l : List Nat} {k : Nat} (h : k < l.length) : l.getD k 0 = l[k] := by
  rw [List.getD_eq_getElem?_getD, List.getElem?_eq_getElem h]; rfl
theorem all_lt {p : Nat} {l : List Nat} (h : allLt p l = true) (k : Nat) (hk : k < l.length) : l[k] < p := of_decide_eq_true (List.all_eq_true.1 h _ (List.getElem_mem hk))
theorem of_any (p : Nat) (h0 : 0 < p) (hp : p ≤ 65537) (I V : List Nat) (hI : allLt p I = true) (hV : allLt p V = true) (A B : Option Addr) (c d : Nat) (g : Gat) (hK : 0 ≤ g.2.2.2) (hg : gErr p I.length V.length g = 0) (w : World) (hA : Reads w A (uCells I)) (hB : Reads w B (uCells V)) :
    gval p I V g < p ∧ Calls Tryz.prog 44 #[.int .u64 p, .agg #[.int .i64 g.1, .int .i64 g.2.1, .int .i64 g.2.2.1, .int .u64 g.2.2.2], .slice A I.length c, .slice B V.length d] w (UPost (gval p I V g) w) := by
  obtain ⟨k, a, b, K⟩ := g
  unfold gErr at hg
  simp only at hK hg ⊢
  obtain ⟨K, rfl⟩ : ∃ x : Nat, K = x := ⟨K.toNat, by omega⟩
  rcases gate_fits h0 hg with ⟨rfl, rfl, hK0, ha, ha'⟩ | ⟨rfl, rfl, rfl, hKp⟩ | ⟨hk, hK0, ha, ha', hb, hb'⟩ | ⟨rfl, rfl, ha, ha', hKp⟩
  · obtain ⟨a, rfl⟩ : ∃ x : Nat, a = x := ⟨a.toNat, by omega⟩
    have h1 : a < I.length := by omega
    have hv : gval p I V (1, (a : Int), 0, (K : Int)) = I[a] := by simp [gval, List.getElem?_eq_getElem h1]
    rw [hv]
    exact ⟨all_lt hI a h1, of_1 p h0 hp I V A B c d a 0 K w hA h1⟩
  · have hv : gval p I V (2, 0, 0, (K : Int)) = K := by simp [gval]
    rw [hv]
    exact ⟨by omega, of_2 p h0 hp I V A B c d 0 0 K w⟩
  · obtain ⟨a, rfl⟩ : ∃ x : Nat, a = x := ⟨a.toNat, by omega⟩
    obtain ⟨b, rfl⟩ : ∃ x : Nat, b = x := ⟨b.toNat, by omega⟩
    have h1 : a < V.length := by omega
    have h2 : b < V.length := by omega
    rcases hk with rfl | rfl | rfl
    · have hv : gval p I V (3, (a : Int), (b : Int), (K : Int)) = (V[a] + V[b]) % p := by simp [gval, List.getElem?_eq_getElem h1, List.getElem?_eq_getElem h2]
      rw [hv]
      exact ⟨Nat.mod_lt _ h0, of_3 p h0 hp I V A B c d a b K w hB h1 h2 (all_lt hV a h1) (all_lt hV b h2)⟩
    · have hv : gval p I V (4, (a : Int), (b : Int), (K : Int)) = (V[a] + p - V[b]) % p := by simp [gval, List.getElem?_eq_getElem h1, List.getElem?_eq_getElem h2]
      rw [hv]
      exact ⟨Nat.mod_lt _ h0, of_4 p h0 hp I V A B c d a b K w hB h1 h2 (all_lt hV a h1) (all_lt hV b h2)⟩
    · have hv : gval p I V (5, (a : Int), (b : Int), (K : Int)) = V[a] * V[b] % p := by simp [gval, List.getElem?_eq_getElem h1, List.getElem?_eq_getElem h2]
      rw [hv]
      exact ⟨Nat.mod_lt _ h0, of_5 p h0 hp I V A B c d a b K w hB h1 h2 (all_lt hV a h1) (all_lt hV b h2)⟩
  · obtain ⟨a, rfl⟩ : ∃ x : Nat, a = x := ⟨a.toNat, by omega⟩
    have h1 : a < V.length := by omega
    have hv : gval p I V (6, (a : Int), 0, (K : Int)) = V[a] * K % p := by simp [gval, List.getElem?_eq_getElem h1]
    rw [hv]
    exact ⟨Nat.mod_lt _ h0, of_6 p h0 hp I V A B c d a 0 K w hB h1 (all_lt hV a h1) (by omega)⟩
end Go.Proofs.YtmnbgamnbgdnnaaGreatDoor

/- Plain law and contract of circ.Values. -/
namespace Go.Proofs.YtmnbgamnbgdnnaaGreatDoor
open Go.RowKit

def valsL (p : Nat) (I : List Nat) (l : List Gat) : List Nat := l.foldl (fun V g => V ++ [gval p I V g]) []
theorem valsL_succ (p : Nat) (I : List Nat) (l : List Gat) (k : Nat) (h : k < l.length) : valsL p I (l.take (k + 1)) = valsL p I (l.take k) ++ [gval p I (valsL p I (l.take k)) l[k]] := by
  unfold valsL
  rw [List.take_succ_eq_append_getElem h, List.foldl_append]
  rfl
theorem valsL_len (p : Nat) (I : List Nat) (l : List Gat) : ∀ k, k ≤ l.length → (valsL p I (l.take k)).length = k := by
  intro k
  induction k with
  | zero => intro _; rfl
  | succ k ih =>
    intro h
    rw [valsL_succ p I l k (by omega), List.length_append, ih (by omega)]
    rfl
theorem gatesErr_zero {p : Nat} {n : Int} {l : List Gat} (h : gatesErr p n 0 l = 0) : ∀ k, (hk : k < l.length) → gErr p n k l[k] = 0 := by
  have key : ∀ k, k ≤ l.length → gatesErr p n k (l.drop k) = 0 := by
    intro k
    induction k with
    | zero => intro _; exact h
    | succ k ih =>
      intro hk
      have h1 := ih (by omega)
      rw [gatesErr_at (by omega)] at h1
      split at h1
      · exact h1
      · rename_i h2; exact absurd h1 h2
  intro k hk
  have h1 := key k (by omega)
  rw [gatesErr_at hk] at h1
  split at h1
  · assumption
  · rename_i h2; exact absurd h1 h2
theorem check_ok {p : Nat} {C : Cir} (h : checkErr p C = 0) : isP p = true ∧ ¬ tooBig C ∧ gatesErr p C.slots.length 0 C.gates = 0 := by
  unfold checkErr at h
  split at h
  · cases h
  rename_i h1
  split at h
  · cases h
  rename_i h2
  split at h
  · cases h
  split at h
  · rename_i h4; exact ⟨by simpa using h1, h2, h4⟩
  · rename_i h4; exact absurd h h4
theorem allLt_eff {p : Nat} (h0 : 0 < p) : ∀ {s : List Slo} {x : List Nat}, allLt p x = true → allLt p (effL s x) = true
  | [], _, _ => rfl
  | _ :: _, [], _ => rfl
  | s :: sr, x :: xr, h => by
    unfold allLt at h
    rw [List.all_cons, Bool.and_eq_true] at h
    have h2 := allLt_eff (p := p) h0 (s := sr) (x := xr) h.2
    have h1 : x < p := by simpa using h.1
    have h3 : eff1 s x < p := by unfold eff1; split <;> omega
    unfold allLt effL at h2 ⊢
    rw [List.zipWith_cons_cons, List.all_cons, h2]
    simp [h3]
theorem allLt_snoc {p : Nat} {l : List Nat} {x : Nat} (h : allLt p l = true) (hx : x < p) : allLt p (l ++ [x]) = true := by
  unfold allLt at *
  rw [List.all_append, h]
  simp [hx]
theorem made_own (w : World) (n : Nat) (hn : n ≤ maxLen) : (w.alloc (.cells (madeCells #[.int .u64 0] (n * 1)) 22)).ownsRow w.heap.size 22 1 (.slice (some ⟨w.heap.size, 0, none⟩) 0 n) 0 [] :=
  ⟨rfl, .inr ⟨w.heap.size, n, _, rfl, Nat.le_refl _, heap_alloc_new w _, Nat.zero_le _, hn, by simp [size_madeCells], by simp⟩⟩
end Go.Proofs.YtmnbgamnbgdnnaaGreatDoor

/- Contract of circ.Values. -/
namespace Go.Proofs.YtmnbgamnbgdnnaaGreatDoor
open Go.RowKit

def ValPost (p : Nat) (C : Cir) (x : List Nat) (w : World) (e : Ending) (w' : World) : Prop :=
  ((inErr p C x ≠ 0 ∧ e = .returned (.tuple #[.slice none 0 0, .int .i64 (inErr p C x)])) ∨
   (inErr p C x = 0 ∧ ∃ v, e = .returned (.tuple #[v, .int .i64 0]) ∧ w'.ownsRow w.heap.size 22 1 v C.gates.length (uCells (valsL p (effL C.slots x) C.gates)))) ∧ Below w.heap.size w w'
set_option maxHeartbeats 1000000 in
set_option maxRecDepth 100000 in
theorem values_bad (p : Nat) (hp : p < 18446744073709551616) (C : Cir) (x : List Nat) (hx : x.length ≤ 17592186044416) (A : Option Addr) (c : Nat) (w : World) (hC : HoldsC w C) (hA : Reads w A (uCells x)) (hbad : inErr p C x ≠ 0) :
    Calls Tryz.prog 14 #[.int .u64 p, .agg #[.slice C.SA C.slots.length C.sc, .slice C.GA C.gates.length C.gc, .slice C.EA C.exits.length C.ec], .slice A x.length c] w (ValPost p C x w) := by
  have hb0 : Below w.heap.size w (w.alloc (.cells #[.slice C.SA C.slots.length C.sc, .slice C.GA C.gates.length C.gc, .slice C.EA C.exits.length C.ec] 27)) := (Below.refl _ _).alloc (Nat.le_refl _) _
  have hin := inputs_any p hp C x hx A c _ (hC.below hb0) (hA.below hb0)
  have hz : (inErr p C x == 0) = false := by simpa using hbad
  unfold InPost at hin
  unfold ValPost
  generalize inErr p C x = er at hin hbad hz
  have HI := Lib.hid hin; clear hin hC hA hb0
  have HBAD := Lib.hid hbad; clear hbad
  go_enter Tryz.func14, Tryz.ntmps14
  go_wp2_with fail
  refine HI.out.mono ?_
  rintro e w1 ⟨hor, hb1⟩
  rcases hor with ⟨_, rfl⟩ | ⟨h, _⟩
  · have HB1 := Lib.hid hb1; clear hb1
    go_wp2
    go_ret2
    exact ⟨.inl ⟨HBAD.out, rfl⟩, below_box HB1.out⟩
  · exact absurd h HBAD.out
theorem own_below {w w1 : World} {base : Nat} {e : TypeId} {size n : Nat} {v : Value} {xs : List Value} (h : w.ownsRow base e size v n xs) (hb : Below w.heap.size w w1) : w1.ownsRow base e size v n xs :=
  h.kept (row := none) ⟨hb.os, hb.tape, hb.output, hb.size, fun i hi _ => hb.block i hi⟩ (by cases v.ownBlock <;> simp)
set_option maxHeartbeats 4000000 in
set_option maxRecDepth 100000 in
theorem values_ok (p : Nat) (hp : p < 18446744073709551616) (C : Cir) (x : List Nat) (hx : x.length ≤ 17592186044416) (A : Option Addr) (c : Nat) (w : World) (hC : HoldsC w C) (hA : Reads w A (uCells x)) (hok : inErr p C x = 0) :
    Calls Tryz.prog 14 #[.int .u64 p, .agg #[.slice C.SA C.slots.length C.sc, .slice C.GA C.gates.length C.gc, .slice C.EA C.exits.length C.ec], .slice A x.length c] w (ValPost p C x w) := by
  have hb0 : Below w.heap.size w (w.alloc (.cells #[.slice C.SA C.slots.length C.sc, .slice C.GA C.gates.length C.gc, .slice C.EA C.exits.length C.ec] 27)) := (Below.refl _ _).alloc (Nat.le_refl _) _
  have hin := inputs_any p hp C x hx A c _ (hC.below hb0) (hA.below hb0)
  obtain ⟨i1, i2, i3⟩ := inErr_ok hok
  obtain ⟨k1, k2, k3⟩ := check_ok i1
  obtain ⟨p3, pm, _⟩ := (isP_iff p).1 k1
  have hI := allLt_eff (s := C.slots) (by omega : 0 < p) i3
  have hIl : (effL C.slots x).length = x.length := by unfold effL; rw [List.length_zipWith]; omega
  have hgz := gatesErr_zero k3
  rw [← i2, ← hIl] at hgz
  have HGZ := Lib.hid hgz
  have HK := Lib.hid hC.k
  have HC := Lib.hid (hC.below hb0)
  have hgl : C.gates.length ≤ 65536 := by unfold tooBig at k2; omega
  have HII := Lib.hid hI
  have HIL := Lib.hid hIl
  unfold InPost at hin
  unfold ValPost
  have HOK := Lib.hid hok
  have HI := Lib.hid hin
  clear hin hC hA hb0 i1 i2 i3 k1 k2 k3 hI hIl hgz hok
  obtain ⟨i0, hi0, hzz⟩ := Option.map_eq_some_iff.1 infoU
  simp only [Prod.mk.injEq] at hzz
  obtain ⟨hz0, hz1, hz2⟩ := hzz
  have hmk : ∀ W, (Instr.makeSlice 32 (.int .i64 0) (.int .i64 (C.gates.length : Int))).run Tryz.prog W = .ok (.slice (some ⟨W.heap.size, 0, none⟩) 0 C.gates.length) (W.alloc (.cells (madeCells #[.int .u64 0] (C.gates.length * 1)) 22)) := fun W => by
    have h := run_make (P := Tryz.prog) W 32 22 i0 _ Tryz.underlying32 hi0 hz0 .i64 .i64 0 (C.gates.length : Int) (by omega) (by omega) (by rw [hz2]; omega) (by omega)
    rw [hz1] at h
    simpa [Value.cells] using h
  clear hz0 hz1 hz2 hi0
  go_enter Tryz.func14, Tryz.ntmps14
  go_wp2_with fail
  refine HI.out.mono ?_
  rintro e w1 ⟨hor, hb1⟩
  rcases hor with ⟨h, _⟩ | ⟨_, v, rfl, hown⟩
  · exact absurd HOK.out h
  have c1 := hb1.cell (p := ⟨w.heap.size, 1, none⟩) (by simp)
  have hsz1 : w.heap.size < w1.heap.size := by have h5 := hb1.size; simp at h5; omega
  obtain ⟨IA, ic, rfl, hIr⟩ := own_reads hown
  have HB1 := Lib.hid hb1; clear hb1 hown
  have HIR := Lib.hid hIr; clear hIr
  go_wp2
  go_loopg [9, 29] C.gates.length (fun g a v wr => ∃ k : Nat, k ≤ C.gates.length ∧ g = C.gates.length - k ∧ v = .int .i64 k ∧ wr.ownsRow w1.heap.size 22 1 a k (uCells (valsL p (effL C.slots x) (C.gates.take k))) ∧ Hid (allLt p (valsL p (effL C.slots x) (C.gates.take k)) = true) ∧ Below w1.heap.size w1 wr)
  case atStart => exact ⟨0, by omega, rfl, rfl, by simpa [valsL, uCells] using made_own w1 C.gates.length (by unfold maxLen; omega), rfl, (Below.refl _ _).alloc (Nat.le_refl _) _⟩
  case round =>
    obtain ⟨k, hk, rfl, rfl, hown, hal, hbel⟩ := hrel
    have HB := Lib.hid hbel; clear hbel
    have HO := Lib.hid hown; clear hown
    by_cases hlt : k < C.gates.length
    · obtain ⟨ad, had, q0, q1, q2, q3⟩ := (((HC.out.below HB1.out).below HB.out).g).gat k hlt
      obtain ⟨VA, vc, rfl, hvr⟩ := own_reads HO.out
      have HVR := Lib.hid hvr; clear hvr
      have hVl := valsL_len p (effL C.slots x) C.gates k (by omega)
      have hsu := valsL_succ p (effL C.slots x) C.gates k hlt
      have hof := fun W (h1 : Reads W IA (uCells (effL C.slots x))) (h2 : Reads W VA (uCells (valsL p (effL C.slots x) (C.gates.take k)))) => of_any p (by omega) pm (effL C.slots x) _ HII.out hal.out IA VA ic vc C.gates[k] (HK.out _ (List.getElem_mem hlt)) (by rw [hVl]; exact HGZ.out k hlt) W h1 h2
      have hgv := (hof wr ((HIR.out).below HB.out) HVR.out).1
      have hof2 := fun W h1 h2 => (hof W h1 h2).2
      clear hof
      rw [hVl, HIL.out] at hof2
      have HAL : Hid (allLt p (valsL p (effL C.slots x) (C.gates.take (k + 1))) = true) := Lib.hid (by rw [hsu]; exact allLt_snoc hal.out hgv)
      have HSU := Lib.hid hsu
      clear hsu hal hVl
      generalize gval p (effL C.slots x) (valsL p (effL C.slots x) (C.gates.take k)) C.gates[k] = val at hof2 hgv HSU
      generalize valsL p (effL C.slots x) (C.gates.take k) = V at hof2 HSU HO HVR
      have HOF := Lib.hid hof2; clear hof2
      rw [had] at c1 ⊢
      have hszr : w1.heap.size ≤ wr.heap.size := HB.out.size
      have hb3 : Below wr.heap.size wr (wr.alloc (.cells #[.int .i64 C.gates[k].1, .int .i64 C.gates[k].2.1, .int .i64 C.gates[k].2.2.1, .int .u64 C.gates[k].2.2.2] 69)) := (Below.refl _ _).alloc (Nat.le_refl _) _
      have HIR2 := Lib.hid ((HIR.out.below HB.out).below hb3)
      have HVR2 := Lib.hid (HVR.out.below hb3)
      clear hb3
      go_wp2_with (first | (go_at_call 44; refine (HOF.out _ HIR2.out HVR2.out).mono ?_; rintro e w2 ⟨rfl, hb2⟩; have hsz2 : w1.heap.size ≤ w2.heap.size := (by have h5 := hb2.size; simp at h5; omega); have HO2 := Lib.hid (own_below (HO.out.alloc _) hb2); have HB2 := Lib.hid (below_alive (HB.out.alloc hszr _) (hb2.mono (Nat.le_refl _))); clear hb2) | (at_builtin; refine app_slice w1.heap.size rfl _ _ 32 22 _ 8 rfl Tryz.underlying32 infoU rfl (by decide) (.slice VA k vc) k (uCells V) [.int .u64 val] rfl ⟨w2.heap.size, 0, none⟩ 1 1 rfl (by simp) (by simpa using World.news_of_block (cs := #[.int .u64 val]) (t := 22) (fr := (0, 0)) (heap_alloc_new w2 (.cells #[.int .u64 val] 22))) (by intro u hu; simp at hu; subst hu; rfl) (HO2.out.alloc _) (by simp; omega) (by omega) ?_; intro v3 w3 hown3 hg3; have HO3 := Lib.hid hown3; clear hown3; have HG3 := Lib.hid hg3; clear hg3))
      rw [← had]
      go_roundg (C.gates.length - (k + 1))
      case measure => omega
      case rel => exact ⟨k + 1, by omega, rfl, by go_num, by rw [HSU.out]; simpa [uCells] using HO3.out, HAL.out, (HB2.out.alloc hsz2 _).grown HG3.out (by simp; omega) (fun q hq => (HO2.out.lt q hq).1)⟩
    · obtain rfl : k = C.gates.length := by omega
      have hO := HO.out
      rw [List.take_length] at hO
      have HO2 := Lib.hid hO; clear hO hal
      go_wp2
      go_ret2
      exact ⟨.inr ⟨HOK.out, _, rfl, own_lower HO2.out (by omega)⟩, below_box (below_alive HB1.out HB.out)⟩
theorem values_any (p : Nat) (hp : p < 18446744073709551616) (C : Cir) (x : List Nat) (hx : x.length ≤ 17592186044416) (A : Option Addr) (c : Nat) (w : World) (hC : HoldsC w C) (hA : Reads w A (uCells x)) :
    Calls Tryz.prog 14 #[.int .u64 p, .agg #[.slice C.SA C.slots.length C.sc, .slice C.GA C.gates.length C.gc, .slice C.EA C.exits.length C.ec], .slice A x.length c] w (ValPost p C x w) := by
  by_cases h : inErr p C x = 0
  · exact values_ok p hp C x hx A c w hC hA h
  · exact values_bad p hp C x hx A c w hC hA h
end Go.Proofs.YtmnbgamnbgdnnaaGreatDoor

/- Contract of the reference's Inputs. -/
namespace Go.Proofs.YtmnbgamnbgdnnaaGreatDoor
open Go.RowKit

theorem u_len (l : List Nat) : (uCells l).length = l.length := by simp [uCells]
theorem reads_some {w : World} {ad : Addr} {cs : List Value} (h : Reads w (some ad) cs) (w' : World) (hb : Below w.heap.size w w') : ∀ j u, cs[j]? = some u → w'.cell? (ad.add j) = some u := by
  rcases h.below hb with h | ⟨ad', e, h⟩
  · intro j u hj; rw [h] at hj; simp at hj
  · injection e with e; subst e; exact h
theorem own_zero {w : World} {base : Nat} {e : TypeId} {size n : Nat} {v : Value} {xs : List Value} (h : w.ownsRow base e size v (0 + n) ([] ++ xs)) : w.ownsRow base e size v n xs := by rwa [Nat.zero_add, List.nil_append] at h
set_option maxHeartbeats 2000000 in
set_option maxRecDepth 100000 in
theorem rinputs_bad (p : Nat) (hp : p < 18446744073709551616) (C : Cir) (x : List Nat) (hx : x.length ≤ 17592186044416) (A : Option Addr) (c : Nat) (w : World) (hC : HoldsC w C) (hA : Reads w A (uCells x)) (hbad : inErr p C x ≠ 0) :
    Calls Tryz.prog 16 #[.int .u64 p, .agg #[.slice C.SA C.slots.length C.sc, .slice C.GA C.gates.length C.gc, .slice C.EA C.exits.length C.ec], .slice A x.length c] w (InPost p C x w) := by
  have hb0 : Below w.heap.size w (w.alloc (.cells #[.slice C.SA C.slots.length C.sc, .slice C.GA C.gates.length C.gc, .slice C.EA C.exits.length C.ec] 27)) := (Below.refl _ _).alloc (Nat.le_refl _) _
  have HA := Lib.hid (hA.below hb0)
  obtain ⟨n1, n2, n3⟩ := hC.n
  have hck := rcheck_any p hp C _ (hC.below hb0)
  have hin : inErr p C x = if checkErr p C = 0 then (if x.length = C.slots.length ∧ allLt p x = true then 0 else 2) else checkErr p C := rfl
  clear hC hA hb0
  by_cases h0 : checkErr p C = 0
  · rw [h0] at hck hin
    have HCK := Lib.hid hck; clear hck
    rw [if_pos rfl] at hin
    by_cases hl : x.length = C.slots.length
    · by_cases ha : allLt p x = true
      · rw [if_pos ⟨hl, ha⟩] at hin
        exact absurd hin hbad
      · have hlt := fun W (h : Reads W A (uCells x)) => withinL_any p x (by omega) A c W h
        rw [show ltErr p x = 2 by unfold ltErr; rw [if_neg ha]] at hlt
        rw [if_neg (fun h => ha h.2)] at hin
        have HLT := Lib.hid hlt; clear hlt
        have HIN := Lib.hid hin
        clear hin hbad ha
        rw [hl] at *
        go_enter Tryz.func16, Tryz.ntmps16
        go_wp2_with (first | (go_at_call 11; refine HCK.out.mono ?_; rintro e w1 ⟨rfl, hb1⟩; have c0 := hb1.cell (p := ⟨w.heap.size, 0, none⟩) (by simp); have HB1 := Lib.hid hb1; clear hb1) | (go_at_call 27; refine (HLT.out _ (HA.out.below HB1.out)).mono ?_; rintro e w2 ⟨rfl, rfl⟩))
        go_ret2
        exact in_bad HIN.out (by decide) (below_box HB1.out)
    · have hne : ((x.length : Int) == (C.slots.length : Int)) = false := by simp; omega
      have hne2 : (x.length == C.slots.length) = false := by simpa using hl
      rw [if_neg (fun h => hl h.1)] at hin
      have HIN := Lib.hid hin
      clear hin hbad
      go_enter Tryz.func16, Tryz.ntmps16
      go_wp2_with (first | (go_at_call 11; refine HCK.out.mono ?_; rintro e w1 ⟨rfl, hb1⟩; have c0 := hb1.cell (p := ⟨w.heap.size, 0, none⟩) (by simp); have HB1 := Lib.hid hb1; clear hb1))
      go_ret2
      exact in_bad HIN.out (by decide) (below_box HB1.out)
  · rw [if_neg h0] at hin
    have hz : (checkErr p C == 0) = false := by simpa using h0
    generalize checkErr p C = er at hck hin h0 hz
    have HCK := Lib.hid hck; clear hck
    have HIN := Lib.hid hin
    clear hin hbad
    go_enter Tryz.func16, Tryz.ntmps16
    go_wp2_with (first | (go_at_call 11; refine HCK.out.mono ?_; rintro e w1 ⟨rfl, hb1⟩; have HB1 := Lib.hid hb1; clear hb1))
    go_ret2
    exact in_bad HIN.out h0 (below_box HB1.out)
set_option maxHeartbeats 4000000 in
set_option maxRecDepth 100000 in
theorem rinputs_some (p : Nat) (hp : p < 18446744073709551616) (C : Cir) (x : List Nat) (hx : x.length ≤ 17592186044416) (aa : Addr) (c : Nat) (w : World) (hC : HoldsC w C) (hA : Reads w (some aa) (uCells x)) (hck0 : checkErr p C = 0) (hl : x.length = C.slots.length) (ha : allLt p x = true) :
    Calls Tryz.prog 16 #[.int .u64 p, .agg #[.slice C.SA C.slots.length C.sc, .slice C.GA C.gates.length C.gc, .slice C.EA C.exits.length C.ec], (.slice (some aa) x.length c)] w (InPost p C x w) := by
  have hb0 : Below w.heap.size w (w.alloc (.cells #[.slice C.SA C.slots.length C.sc, .slice C.GA C.gates.length C.gc, .slice C.EA C.exits.length C.ec] 27)) := (Below.refl _ _).alloc (Nat.le_refl _) _
  have HA := Lib.hid (hA.below hb0)
  have HC := Lib.hid (hC.below hb0)
  obtain ⟨n1, n2, n3⟩ := hC.n
  have hck := rcheck_any p hp C _ (hC.below hb0)
  rw [hck0] at hck
  have HCK := Lib.hid hck; clear hck
  have hlt := fun W (h : Reads W (some aa) (uCells x)) => withinL_any p x (by omega) (some aa) c W h
  rw [show ltErr p x = 0 by unfold ltErr; rw [if_pos ha]] at hlt
  rw [hl] at hlt
  have HLT := Lib.hid hlt; clear hlt
  have HIN : Hid (inErr p C x = 0) := Lib.hid (by unfold inErr; rw [if_pos hck0, if_pos ⟨hl, ha⟩])
  clear hC hA hb0 ha hck0
  have HL := Lib.hid hl
  unfold InPost
  rw [hl]
  clear hl
  go_enter Tryz.func16, Tryz.ntmps16
  go_wp2_with (first | (go_at_call 11; refine HCK.out.mono ?_; rintro e w1 ⟨rfl, hb1⟩; have c0 := hb1.cell (p := ⟨w.heap.size, 0, none⟩) (by simp); have HB1 := Lib.hid hb1; clear hb1) | (go_at_call 27; refine (HLT.out _ (HA.out.below HB1.out)).mono ?_; rintro e w2 ⟨rfl, rfl⟩) | (at_builtin; have hr3 := reads_some (HA.out.below HB1.out) (w1.alloc (.cells #[] 22)) ((Below.refl _ _).alloc (Nat.le_refl _) _); refine app_slice w1.heap.size rfl _ _ 32 22 _ 8 rfl Tryz.underlying32 infoU rfl (by decide) _ 0 [] (uCells x) rfl aa C.slots.length c rfl (by rw [u_len]; exact HL.out) hr3 (by intro u hu; simp [uCells] at hu; obtain ⟨y, _, rfl⟩ := hu; rfl) (own_empty w1 _) (by simp) (by have := HL.out; omega) ?_; intro v w3 hown3 hg3; have hb3 := ((Below.refl w1.heap.size w1).alloc (Nat.le_refl _) _).grown hg3 (by simp) (fun q hq => by cases hq; exact Nat.le_refl _); have c0 := (hb3.mono HB1.out.size).cell (p := ⟨w.heap.size, 0, none⟩) (by simp); have HO := Lib.hid (own_zero hown3); clear hown3 hg3 hr3; have HB3 := Lib.hid (below_alive HB1.out hb3); clear hb3))
  go_loopg [36] C.slots.length (fun g i wr => ∃ k : Nat, k ≤ C.slots.length ∧ g = C.slots.length - k ∧ i = .int .i64 k ∧ wr.ownsRow (w.heap.size + 1) 22 1 v C.slots.length (uCells (partL C.slots x k)) ∧ Below (w.alloc (.cells #[.slice C.SA C.slots.length C.sc, .slice C.GA C.gates.length C.gc, .slice C.EA C.exits.length C.ec] 27)).heap.size (w.alloc (.cells #[.slice C.SA C.slots.length C.sc, .slice C.GA C.gates.length C.gc, .slice C.EA C.exits.length C.ec] 27)) wr)
  case atStart => exact ⟨0, by omega, rfl, rfl, by rw [partL_zero]; exact own_lower HO.out (by have h5 := HB1.out.size; simpa using h5), HB3.out⟩
  case round =>
    obtain ⟨k, hk, rfl, rfl, hown, hbel⟩ := hrel
    clear c0
    have HB := Lib.hid hbel; clear hbel
    have HOW := Lib.hid hown; clear hown HO HB3
    by_cases hlt : k < C.slots.length
    · obtain ⟨g, cap, rfl, hg1, hg2⟩ := own_form HOW.out (by omega)
      have hgl := (HOW.out.lt g rfl).2
      obtain ⟨ad, had, q0, q1⟩ := (HC.out.below HB.out).s.slo k hlt
      have c0 := HB.out.cell (p := ⟨w.heap.size, 0, none⟩) (by simp)
      have hsz : w.heap.size < wr.heap.size := by have h5 := HB.out.size; simp at h5; omega
      have hkx : k < x.length := by have := HL.out; omega
      have r0 := (HOW.out.cellAt k (by omega)).trans (u_at (partL_at hlt hkx))
      have rf := HOW.out.frozenAt k
      have HPS := Lib.hid (partL_succ hlt hkx)
      have HPA := Lib.hid (partL_at hlt hkx)
      rw [had]
      have hno : ¬ g = wr.heap.size := by omega
      rcases Bool.eq_false_or_eq_true C.slots[k].2 with hb | hb
      · by_cases h1 : 1 < x[k]
        · have i1 : (1 : Int) < (x[k] : Int) := by omega
          have HE := Lib.hid (eff1_true hb h1)
          rw [hb] at q1
          generalize x[k] = xk at *
          go_wp2
          rw [← had]
          go_roundg (C.slots.length - (k + 1))
          case measure => omega
          case rel => exact ⟨k + 1, by omega, rfl, by go_num, by rw [HPS.out, HE.out, ← u_set]; exact ((HOW.out.stored k _).1).alloc _, (HB.out.setCell (p := ⟨g, k, none⟩) (by simp; omega) _).alloc (by have h5 := HB.out.size; simpa using h5) _⟩
        · have i1 : (x[k] : Int) ≤ 1 := by omega
          have HE := Lib.hid (eff1_small (s := C.slots[k]) h1)
          rw [hb] at q1
          have HPN : Hid (partL C.slots x (k + 1) = partL C.slots x k) := Lib.hid (by rw [HPS.out, HE.out]; exact set_same HPA.out)
          generalize x[k] = xk at *
          go_wp2
          rw [← had]
          go_roundg (C.slots.length - (k + 1))
          case measure => omega
          case rel => exact ⟨k + 1, by omega, rfl, by go_num, by rw [HPN.out]; exact HOW.out.alloc _, HB.out.alloc HB.out.size _⟩
      · have HE := Lib.hid (eff1_false (x := x[k]) hb)
        rw [hb] at q1
        have HPN : Hid (partL C.slots x (k + 1) = partL C.slots x k) := Lib.hid (by rw [HPS.out, HE.out]; exact set_same HPA.out)
        go_wp2
        rw [← had]
        go_roundg (C.slots.length - (k + 1))
        case measure => omega
        case rel => exact ⟨k + 1, by omega, rfl, by go_num, by rw [HPN.out]; exact HOW.out.alloc _, HB.out.alloc HB.out.size _⟩
    · obtain rfl : k = C.slots.length := by omega
      go_wp2
      go_ret2
      exact ⟨.inr ⟨HIN.out, _, rfl, by have h := HOW.out; rw [partL_all HL.out] at h; exact own_lower h (by omega)⟩, below_box HB.out⟩
set_option maxHeartbeats 2000000 in
set_option maxRecDepth 100000 in
theorem rinputs_nil (p : Nat) (hp : p < 18446744073709551616) (C : Cir) (w : World) (hC : HoldsC w C) (hck0 : checkErr p C = 0) (hl : C.slots.length = 0) :
    Calls Tryz.prog 16 #[.int .u64 p, .agg #[.slice C.SA C.slots.length C.sc, .slice C.GA C.gates.length C.gc, .slice C.EA C.exits.length C.ec], .slice none 0 0] w (InPost p C [] w) := by
  have hb0 : Below w.heap.size w (w.alloc (.cells #[.slice C.SA C.slots.length C.sc, .slice C.GA C.gates.length C.gc, .slice C.EA C.exits.length C.ec] 27)) := (Below.refl _ _).alloc (Nat.le_refl _) _
  obtain ⟨n1, n2, n3⟩ := hC.n
  have hck := rcheck_any p hp C _ (hC.below hb0)
  rw [hck0] at hck
  have hlt := fun W => withinL_any p [] (by simp) none 0 W (.inl rfl)
  have HLT := Lib.hid hlt; clear hlt
  have HIN : Hid (inErr p C [] = 0) := Lib.hid (by unfold inErr; rw [if_pos hck0, if_pos ⟨hl.symm, rfl⟩])
  have HE : Hid (effL C.slots [] = []) := Lib.hid (by unfold effL; simp)
  rw [hl] at hck ⊢
  have HCK := Lib.hid hck; clear hck hC hb0 hck0
  obtain ⟨i0, hi0, _⟩ := Option.map_eq_some_iff.1 infoU
  unfold InPost
  go_enter Tryz.func16, Tryz.ntmps16
  go_wp2_with (first | (go_at_call 11; refine HCK.out.mono ?_; rintro e w1 ⟨rfl, hb1⟩; have c0 := hb1.cell (p := ⟨w.heap.size, 0, none⟩) (by simp); have hsz : w.heap.size < w1.heap.size := (by have h5 := hb1.size; simp at h5; omega); have HB1 := Lib.hid hb1; clear hb1) | (go_at_call 27; refine (HLT.out _).mono ?_; rintro e w2 ⟨rfl, rfl⟩) | (at_builtin; refine wpList_append_own_none rfl _ _ 32 rfl w1.heap.size 22 i0 1 Tryz.underlying32 hi0 _ 0 [] rfl (own_empty w1 _) rfl ?_))
  go_loopg [36] 0 (fun g i wr => i = .int .i64 0 ∧ w1.alloc (.cells #[] 22) = wr)
  case atStart => exact ⟨rfl, rfl⟩
  case round =>
    obtain ⟨rfl, rfl⟩ := hrel
    go_wp2
    go_ret2
    exact ⟨.inr ⟨HIN.out, _, rfl, by rw [HE.out]; exact own_lower (own_empty w1 _) (by omega)⟩, (below_box HB1.out).alloc (by omega) _⟩
end Go.Proofs.YtmnbgamnbgdnnaaGreatDoor
