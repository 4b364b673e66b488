/- Contract of the reference's Inputs. -/
import Derived.Test.YtmnbgamnbgdnnaaGreatDoorCirL
import Derived.Laws.AppendOwnNone
namespace Go.Proofs.YtmnbgamnbgdnnaaGreatDoor
open Go.RowKit

theorem u_len (l : List Nat) : (uCells l).length = l.length := by simp [uCells]
theorem reads_some {w : World} {ad : Addr} {cs : List Value} (h : Reads w (some ad) cs) (w' : World) (hb : Below w.heap.size w w') : ∀ j u, cs[j]? = some u → w'.cell? (ad.add j) = some u := by
  rcases h.below hb with h | ⟨ad', e, h⟩
  · intro j u hj; rw [h] at hj; simp at hj
  · injection e with e; subst e; exact h
theorem own_zero {w : World} {base : Nat} {e : TypeId} {size n : Nat} {v : Value} {xs : List Value} (h : w.ownsRow base e size v (0 + n) ([] ++ xs)) : w.ownsRow base e size v n xs := by rwa [Nat.zero_add, List.nil_append] at h
set_option maxHeartbeats 2000000 in
set_option maxRecDepth 100000 in
theorem rinputs_bad (p : Nat) (hp : p < 18446744073709551616) (C : Cir) (x : List Nat) (hx : x.length ≤ 17592186044416) (A : Option Addr) (c : Nat) (w : World) (hC : HoldsC w C) (hA : Reads w A (uCells x)) (hbad : inErr p C x ≠ 0) :
    Calls Tryz.prog 16 #[.int .u64 p, .agg #[.slice C.SA C.slots.length C.sc, .slice C.GA C.gates.length C.gc, .slice C.EA C.exits.length C.ec], .slice A x.length c] w (InPost p C x w) := by
  have hb0 : Below w.heap.size w (w.alloc (.cells #[.slice C.SA C.slots.length C.sc, .slice C.GA C.gates.length C.gc, .slice C.EA C.exits.length C.ec] 27)) := (Below.refl _ _).alloc (Nat.le_refl _) _
  have HA := Lib.hid (hA.below hb0)
  obtain ⟨n1, n2, n3⟩ := hC.n
  have hck := rcheck_any p hp C _ (hC.below hb0)
  have hin : inErr p C x = if checkErr p C = 0 then (if x.length = C.slots.length ∧ allLt p x = true then 0 else 2) else checkErr p C := rfl
  clear hC hA hb0
  by_cases h0 : checkErr p C = 0
  · rw [h0] at hck hin
    have HCK := Lib.hid hck; clear hck
    rw [if_pos rfl] at hin
    by_cases hl : x.length = C.slots.length
    · by_cases ha : allLt p x = true
      · rw [if_pos ⟨hl, ha⟩] at hin
        exact absurd hin hbad
      · have hlt := fun W (h : Reads W A (uCells x)) => withinL_any p x (by omega) A c W h
        rw [show ltErr p x = 2 by unfold ltErr; rw [if_neg ha]] at hlt
        rw [if_neg (fun h => ha h.2)] at hin
        have HLT := Lib.hid hlt; clear hlt
        have HIN := Lib.hid hin
        clear hin hbad ha
        rw [hl] at *
        go_enter Tryz.func16, Tryz.ntmps16
        go_wp2_with (first | (go_at_call 11; refine HCK.out.mono ?_; rintro e w1 ⟨rfl, hb1⟩; have c0 := hb1.cell (p := ⟨w.heap.size, 0, none⟩) (by simp); have HB1 := Lib.hid hb1; clear hb1) | (go_at_call 27; refine (HLT.out _ (HA.out.below HB1.out)).mono ?_; rintro e w2 ⟨rfl, rfl⟩))
        go_ret2
        exact in_bad HIN.out (by decide) (below_box HB1.out)
    · have hne : ((x.length : Int) == (C.slots.length : Int)) = false := by simp; omega
      have hne2 : (x.length == C.slots.length) = false := by simpa using hl
      rw [if_neg (fun h => hl h.1)] at hin
      have HIN := Lib.hid hin
      clear hin hbad
      go_enter Tryz.func16, Tryz.ntmps16
      go_wp2_with (first | (go_at_call 11; refine HCK.out.mono ?_; rintro e w1 ⟨rfl, hb1⟩; have c0 := hb1.cell (p := ⟨w.heap.size, 0, none⟩) (by simp); have HB1 := Lib.hid hb1; clear hb1))
      go_ret2
      exact in_bad HIN.out (by decide) (below_box HB1.out)
  · rw [if_neg h0] at hin
    have hz : (checkErr p C == 0) = false := by simpa using h0
    generalize checkErr p C = er at hck hin h0 hz
    have HCK := Lib.hid hck; clear hck
    have HIN := Lib.hid hin
    clear hin hbad
    go_enter Tryz.func16, Tryz.ntmps16
    go_wp2_with (first | (go_at_call 11; refine HCK.out.mono ?_; rintro e w1 ⟨rfl, hb1⟩; have HB1 := Lib.hid hb1; clear hb1))
    go_ret2
    exact in_bad HIN.out h0 (below_box HB1.out)
set_option maxHeartbeats 4000000 in
set_option maxRecDepth 100000 in
theorem rinputs_some (p : Nat) (hp : p < 18446744073709551616) (C : Cir) (x : List Nat) (hx : x.length ≤ 17592186044416) (aa : Addr) (c : Nat) (w : World) (hC : HoldsC w C) (hA : Reads w (some aa) (uCells x)) (hck0 : checkErr p C = 0) (hl : x.length = C.slots.length) (ha : allLt p x = true) :
    Calls Tryz.prog 16 #[.int .u64 p, .agg #[.slice C.SA C.slots.length C.sc, .slice C.GA C.gates.length C.gc, .slice C.EA C.exits.length C.ec], (.slice (some aa) x.length c)] w (InPost p C x w) := by
  have hb0 : Below w.heap.size w (w.alloc (.cells #[.slice C.SA C.slots.length C.sc, .slice C.GA C.gates.length C.gc, .slice C.EA C.exits.length C.ec] 27)) := (Below.refl _ _).alloc (Nat.le_refl _) _
  have HA := Lib.hid (hA.below hb0)
  have HC := Lib.hid (hC.below hb0)
  obtain ⟨n1, n2, n3⟩ := hC.n
  have hck := rcheck_any p hp C _ (hC.below hb0)
  rw [hck0] at hck
  have HCK := Lib.hid hck; clear hck
  have hlt := fun W (h : Reads W (some aa) (uCells x)) => withinL_any p x (by omega) (some aa) c W h
  rw [show ltErr p x = 0 by unfold ltErr; rw [if_pos ha]] at hlt
  rw [hl] at hlt
  have HLT := Lib.hid hlt; clear hlt
  have HIN : Hid (inErr p C x = 0) := Lib.hid (by unfold inErr; rw [if_pos hck0, if_pos ⟨hl, ha⟩])
  clear hC hA hb0 ha hck0
  have HL := Lib.hid hl
  unfold InPost
  rw [hl]
  clear hl
  go_enter Tryz.func16, Tryz.ntmps16
  go_wp2_with (first | (go_at_call 11; refine HCK.out.mono ?_; rintro e w1 ⟨rfl, hb1⟩; have c0 := hb1.cell (p := ⟨w.heap.size, 0, none⟩) (by simp); have HB1 := Lib.hid hb1; clear hb1) | (go_at_call 27; refine (HLT.out _ (HA.out.below HB1.out)).mono ?_; rintro e w2 ⟨rfl, rfl⟩) | (at_builtin; have hr3 := reads_some (HA.out.below HB1.out) (w1.alloc (.cells #[] 22)) ((Below.refl _ _).alloc (Nat.le_refl _) _); refine app_slice w1.heap.size rfl _ _ 32 22 _ 8 rfl Tryz.underlying32 infoU rfl (by decide) _ 0 [] (uCells x) rfl aa C.slots.length c rfl (by rw [u_len]; exact HL.out) hr3 (by intro u hu; simp [uCells] at hu; obtain ⟨y, _, rfl⟩ := hu; rfl) (own_empty w1 _) (by simp) (by have := HL.out; omega) ?_; intro v w3 hown3 hg3; have hb3 := ((Below.refl w1.heap.size w1).alloc (Nat.le_refl _) _).grown hg3 (by simp) (fun q hq => by cases hq; exact Nat.le_refl _); have c0 := (hb3.mono HB1.out.size).cell (p := ⟨w.heap.size, 0, none⟩) (by simp); have HO := Lib.hid (own_zero hown3); clear hown3 hg3 hr3; have HB3 := Lib.hid (below_alive HB1.out hb3); clear hb3))
  go_loopg [36] C.slots.length (fun g i wr => ∃ k : Nat, k ≤ C.slots.length ∧ g = C.slots.length - k ∧ i = .int .i64 k ∧ wr.ownsRow (w.heap.size + 1) 22 1 v C.slots.length (uCells (partL C.slots x k)) ∧ Below (w.alloc (.cells #[.slice C.SA C.slots.length C.sc, .slice C.GA C.gates.length C.gc, .slice C.EA C.exits.length C.ec] 27)).heap.size (w.alloc (.cells #[.slice C.SA C.slots.length C.sc, .slice C.GA C.gates.length C.gc, .slice C.EA C.exits.length C.ec] 27)) wr)
  case atStart => exact ⟨0, by omega, rfl, rfl, by rw [partL_zero]; exact own_lower HO.out (by have h5 := HB1.out.size; simpa using h5), HB3.out⟩
  case round =>
    obtain ⟨k, hk, rfl, rfl, hown, hbel⟩ := hrel
    clear c0
    have HB := Lib.hid hbel; clear hbel
    have HOW := Lib.hid hown; clear hown HO HB3
    by_cases hlt : k < C.slots.length
    · obtain ⟨g, cap, rfl, hg1, hg2⟩ := own_form HOW.out (by omega)
      have hgl := (HOW.out.lt g rfl).2
      obtain ⟨ad, had, q0, q1⟩ := (HC.out.below HB.out).s.slo k hlt
      have c0 := HB.out.cell (p := ⟨w.heap.size, 0, none⟩) (by simp)
      have hsz : w.heap.size < wr.heap.size := by have h5 := HB.out.size; simp at h5; omega
      have hkx : k < x.length := by have := HL.out; omega
      have r0 := (HOW.out.cellAt k (by omega)).trans (u_at (partL_at hlt hkx))
      have rf := HOW.out.frozenAt k
      have HPS := Lib.hid (partL_succ hlt hkx)
      have HPA := Lib.hid (partL_at hlt hkx)
      rw [had]
      have hno : ¬ g = wr.heap.size := by omega
      rcases Bool.eq_false_or_eq_true C.slots[k].2 with hb | hb
      · by_cases h1 : 1 < x[k]
        · have i1 : (1 : Int) < (x[k] : Int) := by omega
          have HE := Lib.hid (eff1_true hb h1)
          rw [hb] at q1
          generalize x[k] = xk at *
          go_wp2
          rw [← had]
          go_roundg (C.slots.length - (k + 1))
          case measure => omega
          case rel => exact ⟨k + 1, by omega, rfl, by go_num, by rw [HPS.out, HE.out, ← u_set]; exact ((HOW.out.stored k _).1).alloc _, (HB.out.setCell (p := ⟨g, k, none⟩) (by simp; omega) _).alloc (by have h5 := HB.out.size; simpa using h5) _⟩
        · have i1 : (x[k] : Int) ≤ 1 := by omega
          have HE := Lib.hid (eff1_small (s := C.slots[k]) h1)
          rw [hb] at q1
          have HPN : Hid (partL C.slots x (k + 1) = partL C.slots x k) := Lib.hid (by rw [HPS.out, HE.out]; exact set_same HPA.out)
          generalize x[k] = xk at *
          go_wp2
          rw [← had]
          go_roundg (C.slots.length - (k + 1))
          case measure => omega
          case rel => exact ⟨k + 1, by omega, rfl, by go_num, by rw [HPN.out]; exact HOW.out.alloc _, HB.out.alloc HB.out.size _⟩
      · have HE := Lib.hid (eff1_false (x := x[k]) hb)
        rw [hb] at q1
        have HPN : Hid (partL C.slots x (k + 1) = partL C.slots x k) := Lib.hid (by rw [HPS.out, HE.out]; exact set_same HPA.out)
        go_wp2
        rw [← had]
        go_roundg (C.slots.length - (k + 1))
        case measure => omega
        case rel => exact ⟨k + 1, by omega, rfl, by go_num, by rw [HPN.out]; exact HOW.out.alloc _, HB.out.alloc HB.out.size _⟩
    · obtain rfl : k = C.slots.length := by omega
      go_wp2
      go_ret2
      exact ⟨.inr ⟨HIN.out, _, rfl, by have h := HOW.out; rw [partL_all HL.out] at h; exact own_lower h (by omega)⟩, below_box HB.out⟩
set_option maxHeartbeats 2000000 in
set_option maxRecDepth 100000 in
theorem rinputs_nil (p : Nat) (hp : p < 18446744073709551616) (C : Cir) (w : World) (hC : HoldsC w C) (hck0 : checkErr p C = 0) (hl : C.slots.length = 0) :
    Calls Tryz.prog 16 #[.int .u64 p, .agg #[.slice C.SA C.slots.length C.sc, .slice C.GA C.gates.length C.gc, .slice C.EA C.exits.length C.ec], .slice none 0 0] w (InPost p C [] w) := by
  have hb0 : Below w.heap.size w (w.alloc (.cells #[.slice C.SA C.slots.length C.sc, .slice C.GA C.gates.length C.gc, .slice C.EA C.exits.length C.ec] 27)) := (Below.refl _ _).alloc (Nat.le_refl _) _
  obtain ⟨n1, n2, n3⟩ := hC.n
  have hck := rcheck_any p hp C _ (hC.below hb0)
  rw [hck0] at hck
  have hlt := fun W => withinL_any p [] (by simp) none 0 W (.inl rfl)
  have HLT := Lib.hid hlt; clear hlt
  have HIN : Hid (inErr p C [] = 0) := Lib.hid (by unfold inErr; rw [if_pos hck0, if_pos ⟨hl.symm, rfl⟩])
  have HE : Hid (effL C.slots [] = []) := Lib.hid (by unfold effL; simp)
  rw [hl] at hck ⊢
  have HCK := Lib.hid hck; clear hck hC hb0 hck0
  obtain ⟨i0, hi0, _⟩ := Option.map_eq_some_iff.1 infoU
  unfold InPost
  go_enter Tryz.func16, Tryz.ntmps16
  go_wp2_with (first | (go_at_call 11; refine HCK.out.mono ?_; rintro e w1 ⟨rfl, hb1⟩; have c0 := hb1.cell (p := ⟨w.heap.size, 0, none⟩) (by simp); have hsz : w.heap.size < w1.heap.size := (by have h5 := hb1.size; simp at h5; omega); have HB1 := Lib.hid hb1; clear hb1) | (go_at_call 27; refine (HLT.out _).mono ?_; rintro e w2 ⟨rfl, rfl⟩) | (at_builtin; refine wpList_append_own_none rfl _ _ 32 rfl w1.heap.size 22 i0 1 Tryz.underlying32 hi0 _ 0 [] rfl (own_empty w1 _) rfl ?_))
  go_loopg [36] 0 (fun g i wr => i = .int .i64 0 ∧ w1.alloc (.cells #[] 22) = wr)
  case atStart => exact ⟨rfl, rfl⟩
  case round =>
    obtain ⟨rfl, rfl⟩ := hrel
    go_wp2
    go_ret2
    exact ⟨.inr ⟨HIN.out, _, rfl, by rw [HE.out]; exact own_lower (own_empty w1 _) (by omega)⟩, (below_box HB1.out).alloc (by omega) _⟩
end Go.Proofs.YtmnbgamnbgdnnaaGreatDoor
