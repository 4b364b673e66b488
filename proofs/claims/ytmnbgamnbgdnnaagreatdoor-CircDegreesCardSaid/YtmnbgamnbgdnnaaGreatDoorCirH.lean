/- Contract of circ.Inputs. -/
import Derived.Test.YtmnbgamnbgdnnaaGreatDoorCirG
namespace Go.Proofs.YtmnbgamnbgdnnaaGreatDoor
open Go.RowKit

/-- A slot's input as it counts. -/
def eff1 (s : Slo) (x : Nat) : Nat := if s.2 && decide (1 < x) then 0 else x
def effL (s : List Slo) (x : List Nat) : List Nat := List.zipWith eff1 s x
/-- The first k are turned, the rest are as they came. -/
def partL (s : List Slo) (x : List Nat) (k : Nat) : List Nat := effL (s.take k) (x.take k) ++ x.drop k
theorem partL_zero (s : List Slo) (x : List Nat) : partL s x 0 = x := by simp [partL, effL]
theorem partL_all {s : List Slo} {x : List Nat} (h : x.length = s.length) : partL s x s.length = effL s x := by
  unfold partL
  rw [List.take_length, ← h, List.take_length, List.drop_length, List.append_nil]
theorem effL_len {s : List Slo} {x : List Nat} {k : Nat} (h1 : k ≤ s.length) (h2 : k ≤ x.length) : (effL (s.take k) (x.take k)).length = k := by
  unfold effL
  rw [List.length_zipWith, List.length_take, List.length_take]; omega
theorem partL_len {s : List Slo} {x : List Nat} {k : Nat} (h1 : k ≤ s.length) (h2 : k ≤ x.length) : (partL s x k).length = x.length := by
  unfold partL
  rw [List.length_append, effL_len h1 h2, List.length_drop]; omega
theorem partL_at {s : List Slo} {x : List Nat} {k : Nat} (h1 : k < s.length) (h2 : k < x.length) : (partL s x k)[k]? = some x[k] := by
  unfold partL
  rw [List.getElem?_append_right (by rw [effL_len (by omega) (by omega)]; omega), effL_len (by omega) (by omega), List.getElem?_drop, show k + (k - k) = k by omega, List.getElem?_eq_getElem h2]
theorem partL_succ {s : List Slo} {x : List Nat} {k : Nat} (h1 : k < s.length) (h2 : k < x.length) : partL s x (k + 1) = (partL s x k).set k (eff1 s[k] x[k]) := by
  unfold partL
  have hl := effL_len (k := k) (s := s) (x := x) (by omega) (by omega)
  have e : effL (s.take (k + 1)) (x.take (k + 1)) = effL (s.take k) (x.take k) ++ [eff1 s[k] x[k]] := by
    unfold effL
    rw [List.take_succ_eq_append_getElem h1, List.take_succ_eq_append_getElem h2, List.zipWith_append (by rw [List.length_take, List.length_take]; omega)]
    rfl
  rw [e, List.set_append_right _ _ (by rw [hl]; omega), hl, show k - k = 0 by omega, List.drop_eq_getElem_cons h2, List.append_assoc]
  rfl
def inErr (p : Nat) (C : Cir) (x : List Nat) : Int := if checkErr p C = 0 then (if x.length = C.slots.length ∧ allLt p x = true then 0 else 2) else checkErr p C
def InPost (p : Nat) (C : Cir) (x : List Nat) (w : World) (e : Ending) (w' : World) : Prop :=
  ((inErr p C x ≠ 0 ∧ e = .returned (.tuple #[.slice none 0 0, .int .i64 (inErr p C x)])) ∨
   (inErr p C x = 0 ∧ ∃ v, e = .returned (.tuple #[v, .int .i64 0]) ∧ w'.ownsRow w.heap.size 22 1 v x.length (uCells (effL C.slots x)))) ∧ Below w.heap.size w w'
theorem in_bad {p : Nat} {C : Cir} {x : List Nat} {w w' : World} {r : Int} (h : inErr p C x = r) (h0 : r ≠ 0) (hb : Below w.heap.size w w') : InPost p C x w (.returned (.tuple #[.slice none 0 0, .int .i64 r])) w' :=
  ⟨.inl ⟨by rw [h]; exact h0, by rw [h]⟩, hb⟩
theorem u_set (l : List Nat) (k x : Nat) : (uCells l).set k (.int .u64 x) = uCells (l.set k x) := by simp [uCells, List.map_set]
theorem own_lower {w : World} {base base' : Nat} {e : TypeId} {size n : Nat} {v : Value} {xs : List Value} (h : w.ownsRow base e size v n xs) (hb : base' ≤ base) : w.ownsRow base' e size v n xs := by
  refine ⟨h.1, ?_⟩
  rcases h.2 with h2 | ⟨g, cap, cur, hv, hg, r⟩
  · exact .inl h2
  · exact .inr ⟨g, cap, cur, hv, Nat.le_trans hb hg, r⟩
theorem own_form {w : World} {base : Nat} {e : TypeId} {size n : Nat} {v : Value} {xs : List Value} (h : w.ownsRow base e size v n xs) (hn : 0 < n) : ∃ g cap, v = .slice (some ⟨g, 0, none⟩) n cap ∧ base ≤ g ∧ n ≤ cap := by
  rcases h.2 with ⟨_, h0⟩ | ⟨g, cap, cur, rfl, hb, _, hc, _⟩
  · omega
  · exact ⟨g, cap, rfl, hb, hc⟩
theorem own_reads {w : World} {base : Nat} {e : TypeId} {size n : Nat} {v : Value} {xs : List Value} (h : w.ownsRow base e size v n xs) : ∃ A c, v = .slice A n c ∧ Reads w A xs := by
  rcases h.2 with ⟨hv, h0⟩ | ⟨g, cap, cur, hv, hb, r⟩
  · subst h0
    exact ⟨none, 0, hv, .inl (List.eq_nil_of_length_eq_zero (by rw [h.1]; omega))⟩
  · exact ⟨some ⟨g, 0, none⟩, cap, hv, .inr ⟨_, rfl, fun j u hu => h.cells (g := g) (by rw [hv]; rfl) j u hu⟩⟩
set_option maxHeartbeats 2000000 in
set_option maxRecDepth 100000 in
theorem inputs_bad (p : Nat) (hp : p < 18446744073709551616) (C : Cir) (x : List Nat) (hx : x.length ≤ 17592186044416) (A : Option Addr) (c : Nat) (w : World) (hC : HoldsC w C) (hA : Reads w A (uCells x)) (hbad : inErr p C x ≠ 0) :
    Calls Tryz.prog 13 #[.int .u64 p, .agg #[.slice C.SA C.slots.length C.sc, .slice C.GA C.gates.length C.gc, .slice C.EA C.exits.length C.ec], .slice A x.length c] w (InPost p C x w) := by
  have hb0 : Below w.heap.size w (w.alloc (.cells #[.slice C.SA C.slots.length C.sc, .slice C.GA C.gates.length C.gc, .slice C.EA C.exits.length C.ec] 27)) := (Below.refl _ _).alloc (Nat.le_refl _) _
  have HA := Lib.hid (hA.below hb0)
  obtain ⟨n1, n2, n3⟩ := hC.n
  have hck := check_any p hp C _ (hC.below hb0)
  have hin : inErr p C x = if checkErr p C = 0 then (if x.length = C.slots.length ∧ allLt p x = true then 0 else 2) else checkErr p C := rfl
  clear hC hA hb0
  by_cases h0 : checkErr p C = 0
  · rw [h0] at hck hin
    have HCK := Lib.hid hck; clear hck
    rw [if_pos rfl] at hin
    by_cases hl : x.length = C.slots.length
    · by_cases ha : allLt p x = true
      · rw [if_pos ⟨hl, ha⟩] at hin
        exact absurd hin hbad
      · have hlt := fun W (h : Reads W A (uCells x)) => belowL_any p x (by omega) A c W h
        rw [show ltErr p x = 2 by unfold ltErr; rw [if_neg ha]] at hlt
        rw [if_neg (fun h => ha h.2)] at hin
        have HLT := Lib.hid hlt; clear hlt
        have HIN := Lib.hid hin
        clear hin hbad ha
        rw [hl] at *
        go_enter Tryz.func13, Tryz.ntmps13
        go_wp2_with (first | (go_at_call 10; refine HCK.out.mono ?_; rintro e w1 ⟨rfl, hb1⟩; have c0 := hb1.cell (p := ⟨w.heap.size, 0, none⟩) (by simp); have HB1 := Lib.hid hb1; clear hb1) | (go_at_call 42; refine (HLT.out _ (HA.out.below HB1.out)).mono ?_; rintro e w2 ⟨rfl, rfl⟩))
        go_ret2
        exact in_bad HIN.out (by decide) (below_box HB1.out)
    · have hne : ((x.length : Int) == (C.slots.length : Int)) = false := by simp; omega
      have hne2 : (x.length == C.slots.length) = false := by simpa using hl
      rw [if_neg (fun h => hl h.1)] at hin
      have HIN := Lib.hid hin
      clear hin hbad
      go_enter Tryz.func13, Tryz.ntmps13
      go_wp2_with (first | (go_at_call 10; refine HCK.out.mono ?_; rintro e w1 ⟨rfl, hb1⟩; have c0 := hb1.cell (p := ⟨w.heap.size, 0, none⟩) (by simp); have HB1 := Lib.hid hb1; clear hb1))
      go_ret2
      exact in_bad HIN.out (by decide) (below_box HB1.out)
  · rw [if_neg h0] at hin
    have hz : (checkErr p C == 0) = false := by simpa using h0
    generalize checkErr p C = er at hck hin h0 hz
    have HCK := Lib.hid hck; clear hck
    have HIN := Lib.hid hin
    clear hin hbad
    go_enter Tryz.func13, Tryz.ntmps13
    go_wp2_with (first | (go_at_call 10; refine HCK.out.mono ?_; rintro e w1 ⟨rfl, hb1⟩; have HB1 := Lib.hid hb1; clear hb1))
    go_ret2
    exact in_bad HIN.out h0 (below_box HB1.out)
theorem cloneU_any (l : List Nat) (hl : l.length ≤ 17592186044416) (A : Option Addr) (c : Nat) (w : World) (hR : Reads w A (uCells l)) : Calls Tryz.prog 43 #[.slice A l.length c] w (OwnPost 22 l.length (uCells l) w) := by
  cases A with
  | none =>
    rcases hR with h | ⟨ad, e, _⟩
    · have := congrArg List.length h
      simp [uCells] at this
      subst this
      exact cloneU_none c w
    · cases e
  | some ad => exact cloneU_some l hl ad c w hR
theorem eff1_true {s : Slo} {x : Nat} (h : s.2 = true) (h1 : 1 < x) : eff1 s x = 0 := by simp [eff1, h, h1]
theorem eff1_small {s : Slo} {x : Nat} (h1 : ¬ 1 < x) : eff1 s x = x := by simp [eff1, h1]
theorem eff1_false {s : Slo} {x : Nat} (h : s.2 = false) : eff1 s x = x := by simp [eff1, h]
theorem set_same {l : List Nat} {k x : Nat} (h : l[k]? = some x) : l.set k x = l := by
  obtain ⟨h1, h2⟩ := List.getElem?_eq_some_iff.1 h
  subst h2
  exact List.set_getElem_self h1
theorem u_at {l : List Nat} {k x : Nat} (h : l[k]? = some x) : (uCells l)[k]? = some (.int .u64 x) := by simp [uCells, h]
set_option maxHeartbeats 4000000 in
set_option maxRecDepth 100000 in
theorem inputs_ok (p : Nat) (hp : p < 18446744073709551616) (C : Cir) (x : List Nat) (hx : x.length ≤ 17592186044416) (A : Option Addr) (c : Nat) (w : World) (hC : HoldsC w C) (hA : Reads w A (uCells x)) (hck0 : checkErr p C = 0) (hl : x.length = C.slots.length) (ha : allLt p x = true) :
    Calls Tryz.prog 13 #[.int .u64 p, .agg #[.slice C.SA C.slots.length C.sc, .slice C.GA C.gates.length C.gc, .slice C.EA C.exits.length C.ec], .slice A x.length c] w (InPost p C x w) := by
  have hb0 : Below w.heap.size w (w.alloc (.cells #[.slice C.SA C.slots.length C.sc, .slice C.GA C.gates.length C.gc, .slice C.EA C.exits.length C.ec] 27)) := (Below.refl _ _).alloc (Nat.le_refl _) _
  have HA := Lib.hid (hA.below hb0)
  have HC := Lib.hid (hC.below hb0)
  obtain ⟨n1, n2, n3⟩ := hC.n
  have hck := check_any p hp C _ (hC.below hb0)
  rw [hck0] at hck
  have HCK := Lib.hid hck; clear hck
  have hlt := fun W (h : Reads W A (uCells x)) => belowL_any p x (by omega) A c W h
  rw [show ltErr p x = 0 by unfold ltErr; rw [if_pos ha]] at hlt
  rw [hl] at hlt
  have HLT := Lib.hid hlt; clear hlt
  have hcl := fun W (h : Reads W A (uCells x)) => cloneU_any x hx A c W h
  rw [hl] at hcl
  have HCL := Lib.hid hcl; clear hcl
  have HIN : Hid (inErr p C x = 0) := Lib.hid (by unfold inErr; rw [if_pos hck0, if_pos ⟨hl, ha⟩])
  clear hC hA hb0 ha hck0
  have HL := Lib.hid hl
  unfold InPost
  rw [hl]
  clear hl
  go_enter Tryz.func13, Tryz.ntmps13
  go_wp2_with (first | (go_at_call 10; refine HCK.out.mono ?_; rintro e w1 ⟨rfl, hb1⟩; have c0 := hb1.cell (p := ⟨w.heap.size, 0, none⟩) (by simp); have HB1 := Lib.hid hb1; clear hb1) | (go_at_call 42; refine (HLT.out _ (HA.out.below HB1.out)).mono ?_; rintro e w2 ⟨rfl, rfl⟩) | (go_at_call 43; refine (HCL.out _ (HA.out.below HB1.out)).mono ?_; rintro e w3 ⟨v, rfl, hown, hb3⟩; have c0 := (hb3.mono HB1.out.size).cell (p := ⟨w.heap.size, 0, none⟩) (by simp); have HO := Lib.hid hown; clear hown; have HB3 := Lib.hid (below_alive HB1.out hb3); clear hb3))
  go_loopg [35] C.slots.length (fun g i wr => ∃ k : Nat, k ≤ C.slots.length ∧ g = C.slots.length - k ∧ i = .int .i64 k ∧ wr.ownsRow (w.heap.size + 1) 22 1 v C.slots.length (uCells (partL C.slots x k)) ∧ Below (w.alloc (.cells #[.slice C.SA C.slots.length C.sc, .slice C.GA C.gates.length C.gc, .slice C.EA C.exits.length C.ec] 27)).heap.size (w.alloc (.cells #[.slice C.SA C.slots.length C.sc, .slice C.GA C.gates.length C.gc, .slice C.EA C.exits.length C.ec] 27)) wr)
  case atStart => exact ⟨0, by omega, rfl, rfl, by rw [partL_zero]; exact own_lower HO.out (by have h5 := HB1.out.size; simpa using h5), HB3.out⟩
  case round =>
    obtain ⟨k, hk, rfl, rfl, hown, hbel⟩ := hrel
    clear c0
    have HB := Lib.hid hbel; clear hbel
    have HOW := Lib.hid hown; clear hown HO HB3
    by_cases hlt : k < C.slots.length
    · obtain ⟨g, cap, rfl, hg1, hg2⟩ := own_form HOW.out (by omega)
      have hgl := (HOW.out.lt g rfl).2
      obtain ⟨ad, had, q0, q1⟩ := (HC.out.below HB.out).s.slo k hlt
      have c0 := HB.out.cell (p := ⟨w.heap.size, 0, none⟩) (by simp)
      have hsz : w.heap.size < wr.heap.size := by have h5 := HB.out.size; simp at h5; omega
      have hkx : k < x.length := by have := HL.out; omega
      have r0 := (HOW.out.cellAt k (by omega)).trans (u_at (partL_at hlt hkx))
      have rf := HOW.out.frozenAt k
      have HPS := Lib.hid (partL_succ hlt hkx)
      have HPA := Lib.hid (partL_at hlt hkx)
      rw [had]
      have hno : ¬ g = wr.heap.size := by omega
      rcases Bool.eq_false_or_eq_true C.slots[k].2 with hb | hb
      · by_cases h1 : 1 < x[k]
        · have i1 : (1 : Int) < (x[k] : Int) := by omega
          have HE := Lib.hid (eff1_true hb h1)
          rw [hb] at q1
          generalize x[k] = xk at *
          go_wp2
          rw [← had]
          go_roundg (C.slots.length - (k + 1))
          case measure => omega
          case rel => exact ⟨k + 1, by omega, rfl, by go_num, by rw [HPS.out, HE.out, ← u_set]; exact ((HOW.out.stored k _).1).alloc _, (HB.out.setCell (p := ⟨g, k, none⟩) (by simp; omega) _).alloc (by have h5 := HB.out.size; simpa using h5) _⟩
        · have i1 : (x[k] : Int) ≤ 1 := by omega
          have HE := Lib.hid (eff1_small (s := C.slots[k]) h1)
          rw [hb] at q1
          have HPN : Hid (partL C.slots x (k + 1) = partL C.slots x k) := Lib.hid (by rw [HPS.out, HE.out]; exact set_same HPA.out)
          generalize x[k] = xk at *
          go_wp2
          rw [← had]
          go_roundg (C.slots.length - (k + 1))
          case measure => omega
          case rel => exact ⟨k + 1, by omega, rfl, by go_num, by rw [HPN.out]; exact HOW.out.alloc _, HB.out.alloc HB.out.size _⟩
      · have HE := Lib.hid (eff1_false (x := x[k]) hb)
        rw [hb] at q1
        have HPN : Hid (partL C.slots x (k + 1) = partL C.slots x k) := Lib.hid (by rw [HPS.out, HE.out]; exact set_same HPA.out)
        go_wp2
        rw [← had]
        go_roundg (C.slots.length - (k + 1))
        case measure => omega
        case rel => exact ⟨k + 1, by omega, rfl, by go_num, by rw [HPN.out]; exact HOW.out.alloc _, HB.out.alloc HB.out.size _⟩
    · obtain rfl : k = C.slots.length := by omega
      go_wp2
      go_ret2
      exact ⟨.inr ⟨HIN.out, _, rfl, by have h := HOW.out; rw [partL_all HL.out] at h; exact own_lower h (by omega)⟩, below_box HB.out⟩
theorem inErr_ok {p : Nat} {C : Cir} {x : List Nat} (h : inErr p C x = 0) : checkErr p C = 0 ∧ x.length = C.slots.length ∧ allLt p x = true := by
  unfold inErr at h
  split at h
  · rename_i h0
    split at h
    · rename_i h1; exact ⟨h0, h1⟩
    · cases h
  · rename_i h0; exact absurd h h0
theorem inputs_any (p : Nat) (hp : p < 18446744073709551616) (C : Cir) (x : List Nat) (hx : x.length ≤ 17592186044416) (A : Option Addr) (c : Nat) (w : World) (hC : HoldsC w C) (hA : Reads w A (uCells x)) :
    Calls Tryz.prog 13 #[.int .u64 p, .agg #[.slice C.SA C.slots.length C.sc, .slice C.GA C.gates.length C.gc, .slice C.EA C.exits.length C.ec], .slice A x.length c] w (InPost p C x w) := by
  by_cases h : inErr p C x = 0
  · obtain ⟨h1, h2, h3⟩ := inErr_ok h
    exact inputs_ok p hp C x hx A c w hC hA h1 h2 h3
  · exact inputs_bad p hp C x hx A c w hC hA h
end Go.Proofs.YtmnbgamnbgdnnaaGreatDoor
