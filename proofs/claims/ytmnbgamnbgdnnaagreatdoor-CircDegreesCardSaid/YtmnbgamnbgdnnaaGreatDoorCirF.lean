/- Contracts of circ.Count and the reference's Count. -/
import Derived.Test.YtmnbgamnbgdnnaaGreatDoorCirE
namespace Go.Proofs.YtmnbgamnbgdnnaaGreatDoor
open Go.RowKit

def countK (kind : Int) (l : List Gat) : Nat := (l.filter fun g => g.1 == kind).length
theorem countK_succ (kind : Int) (l : List Gat) (k : Nat) (h : k < l.length) : countK kind (l.take (k + 1)) = countK kind (l.take k) + (if l[k].1 == kind then 1 else 0) := by
  unfold countK
  rw [List.take_succ_eq_append_getElem h, List.filter_append, List.length_append]
  congr 1
  by_cases hk : (l[k].1 == kind) = true
  · simp [hk]
  · simp [hk]
theorem countK_le (kind : Int) (l : List Gat) (k : Nat) : countK kind (l.take k) ≤ k := by
  unfold countK
  have h1 := List.length_filter_le (fun g : Gat => g.1 == kind) (l.take k)
  have h2 := List.length_take_le k l
  omega
set_option maxHeartbeats 1000000 in
set_option maxRecDepth 100000 in
theorem count_any (C : Cir) (kind : Int) (w : World) (hC : HoldsC w C) :
    Calls Tryz.prog 31 #[.agg #[.slice C.SA C.slots.length C.sc, .slice C.GA C.gates.length C.gc, .slice C.EA C.exits.length C.ec], .int .i64 kind] w (GatePost (countK kind C.gates) w) := by
  have hb0 : Below w.heap.size w (w.alloc (.cells #[.slice C.SA C.slots.length C.sc, .slice C.GA C.gates.length C.gc, .slice C.EA C.exits.length C.ec] 27)) := (Below.refl _ _).alloc (Nat.le_refl _) _
  have HC := Lib.hid (hC.below hb0)
  obtain ⟨n1, n2, n3⟩ := hC.n
  clear hC
  go_enter Tryz.func31, Tryz.ntmps31
  go_wp2
  go_loopg [5, 11] C.gates.length (fun g a v wr => ∃ k : Nat, k ≤ C.gates.length ∧ g = C.gates.length - k ∧ a = .int .i64 (countK kind (C.gates.take k) : Nat) ∧ v = .int .i64 k ∧ Below (w.alloc (.cells #[.slice C.SA C.slots.length C.sc, .slice C.GA C.gates.length C.gc, .slice C.EA C.exits.length C.ec] 27)).heap.size (w.alloc (.cells #[.slice C.SA C.slots.length C.sc, .slice C.GA C.gates.length C.gc, .slice C.EA C.exits.length C.ec] 27)) wr)
  case atStart => exact ⟨0, by omega, rfl, rfl, rfl, Below.refl _ _⟩
  case round =>
    obtain ⟨k, hk, rfl, rfl, rfl, hbel⟩ := hrel
    have HB := Lib.hid hbel; clear hbel
    by_cases hlt : k < C.gates.length
    · obtain ⟨ad, had, q0, q1, q2, q3⟩ := (HC.out.below HB.out).g.gat k hlt
      rw [had]
      have hle := countK_le kind C.gates k
      have hsu := countK_succ kind C.gates k hlt
      generalize countK kind (C.gates.take k) = n at hle hsu
      generalize C.gates[k].2.1 = y1 at q1
      generalize C.gates[k].2.2.1 = y2 at q2
      generalize C.gates[k].2.2.2 = y3 at q3
      rcases Bool.eq_false_or_eq_true (C.gates[k].1 == kind) with hq | hq
      · rw [hq] at hsu
        have HSU := Lib.hid hsu; clear hsu
        go_wp2
        rw [← had]
        go_roundg (C.gates.length - (k + 1))
        case measure => omega
        case rel => exact ⟨k + 1, by omega, rfl, by rw [HSU.out]; go_num, by go_num, HB.out.alloc HB.out.size _⟩
      · rw [hq] at hsu
        have HSU := Lib.hid hsu; clear hsu
        go_wp2
        rw [← had]
        go_roundg (C.gates.length - (k + 1))
        case measure => omega
        case rel => exact ⟨k + 1, by omega, rfl, by rw [HSU.out]; rfl, by go_num, HB.out.alloc HB.out.size _⟩
    · obtain rfl : k = C.gates.length := by omega
      go_wp2
      go_ret
      exact ⟨ret_e (by rw [List.take_length]), below_box HB.out⟩
set_option maxHeartbeats 1000000 in
set_option maxRecDepth 100000 in
theorem rcount_any (C : Cir) (kind : Int) (w : World) (hC : HoldsC w C) :
    Calls Tryz.prog 26 #[.agg #[.slice C.SA C.slots.length C.sc, .slice C.GA C.gates.length C.gc, .slice C.EA C.exits.length C.ec], .int .i64 kind] w (GatePost (countK kind C.gates) w) := by
  have hb0 : Below w.heap.size w (w.alloc (.cells #[.slice C.SA C.slots.length C.sc, .slice C.GA C.gates.length C.gc, .slice C.EA C.exits.length C.ec] 27)) := (Below.refl _ _).alloc (Nat.le_refl _) _
  have HC := Lib.hid (hC.below hb0)
  obtain ⟨n1, n2, n3⟩ := hC.n
  clear hC
  go_enter Tryz.func26, Tryz.ntmps26
  go_wp2
  go_loopg [5, 11] C.gates.length (fun g a v wr => ∃ k : Nat, k ≤ C.gates.length ∧ g = C.gates.length - k ∧ a = .int .i64 (countK kind (C.gates.take k) : Nat) ∧ v = .int .i64 k ∧ Below (w.alloc (.cells #[.slice C.SA C.slots.length C.sc, .slice C.GA C.gates.length C.gc, .slice C.EA C.exits.length C.ec] 27)).heap.size (w.alloc (.cells #[.slice C.SA C.slots.length C.sc, .slice C.GA C.gates.length C.gc, .slice C.EA C.exits.length C.ec] 27)) wr)
  case atStart => exact ⟨0, by omega, rfl, rfl, rfl, Below.refl _ _⟩
  case round =>
    obtain ⟨k, hk, rfl, rfl, rfl, hbel⟩ := hrel
    have HB := Lib.hid hbel; clear hbel
    by_cases hlt : k < C.gates.length
    · obtain ⟨ad, had, q0, q1, q2, q3⟩ := (HC.out.below HB.out).g.gat k hlt
      rw [had]
      have hle := countK_le kind C.gates k
      have hsu := countK_succ kind C.gates k hlt
      generalize countK kind (C.gates.take k) = n at hle hsu
      generalize C.gates[k].2.1 = y1 at q1
      generalize C.gates[k].2.2.1 = y2 at q2
      generalize C.gates[k].2.2.2 = y3 at q3
      rcases Bool.eq_false_or_eq_true (C.gates[k].1 == kind) with hq | hq
      · rw [hq] at hsu
        have HSU := Lib.hid hsu; clear hsu
        go_wp2
        rw [← had]
        go_roundg (C.gates.length - (k + 1))
        case measure => omega
        case rel => exact ⟨k + 1, by omega, rfl, by rw [HSU.out]; go_num, by go_num, HB.out.alloc HB.out.size _⟩
      · rw [hq] at hsu
        have HSU := Lib.hid hsu; clear hsu
        go_wp2
        rw [← had]
        go_roundg (C.gates.length - (k + 1))
        case measure => omega
        case rel => exact ⟨k + 1, by omega, rfl, by rw [HSU.out]; rfl, by go_num, HB.out.alloc HB.out.size _⟩
    · obtain rfl : k = C.gates.length := by omega
      go_wp2
      go_ret
      exact ⟨ret_e (by rw [List.take_length]), below_box HB.out⟩
end Go.Proofs.YtmnbgamnbgdnnaaGreatDoor
