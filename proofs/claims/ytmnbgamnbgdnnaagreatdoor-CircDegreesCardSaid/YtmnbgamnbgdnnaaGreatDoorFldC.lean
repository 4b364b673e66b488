/- Contracts over slices of numbers: Below, Within, Same, ints. -/
import Derived.Test.YtmnbgamnbgdnnaaGreatDoorCirA
import Derived.Deep.QuietTactic
import Derived.BigQuiet
namespace Go.Proofs.YtmnbgamnbgdnnaaGreatDoor
open Go.RowKit

/-- A slice that reads as these cells. -/
def Reads (w : World) (A : Option Addr) (cs : List Value) : Prop := cs = [] ∨ ∃ ad, A = some ad ∧ ∀ j u, cs[j]? = some u → w.cell? (ad.add j) = some u
theorem Reads.below {w w' : World} {A : Option Addr} {cs : List Value} (h : Reads w A cs) (hb : Below w.heap.size w w') : Reads w' A cs := by
  rcases h with h | ⟨ad, h1, h2⟩
  · exact .inl h
  · exact .inr ⟨ad, h1, fun j u hu => (hb.cell (World.block_lt_of_cell? w _ (h2 j u hu))).trans (h2 j u hu)⟩
def uCells (l : List Nat) : List Value := l.map fun (x : Nat) => .int .u64 x
def iCells (l : List Int) : List Value := l.map fun x => .int .i64 x
theorem Reads.u {w : World} {A : Option Addr} {l : List Nat} (h : Reads w A (uCells l)) (k : Nat) (hk : k < l.length) : ∃ ad, A = some ad ∧ w.cell? (ad.add k) = some (.int .u64 l[k]) := by
  rcases h with h | ⟨ad, h1, h2⟩
  · have := congrArg List.length h; simp [uCells] at this; subst this; simp at hk
  · exact ⟨ad, h1, h2 k _ (by simp [uCells, List.getElem?_eq_getElem hk])⟩
theorem Reads.i {w : World} {A : Option Addr} {l : List Int} (h : Reads w A (iCells l)) (k : Nat) (hk : k < l.length) : ∃ ad, A = some ad ∧ w.cell? (ad.add k) = some (.int .i64 l[k]) := by
  rcases h with h | ⟨ad, h1, h2⟩
  · have := congrArg List.length h; simp [iCells] at this; subst this; simp at hk
  · exact ⟨ad, h1, h2 k _ (by simp [iCells, List.getElem?_eq_getElem hk])⟩
theorem Reads.some_u {w : World} {ad : Addr} {l : List Nat} (h : Reads w (some ad) (uCells l)) (k : Nat) (hk : k < l.length) : w.cell? (ad.add k) = some (.int .u64 l[k]) := by
  obtain ⟨ad', e, q⟩ := h.u k hk
  injection e with e
  subst e
  exact q
theorem Reads.some_i {w : World} {ad : Addr} {l : List Int} (h : Reads w (some ad) (iCells l)) (k : Nat) (hk : k < l.length) : w.cell? (ad.add k) = some (.int .i64 l[k]) := by
  obtain ⟨ad', e, q⟩ := h.i k hk
  injection e with e
  subst e
  exact q
def allLt (p : Nat) (l : List Nat) : Bool := l.all fun x => decide (x < p)
theorem allLt_succ {p : Nat} {l : List Nat} {k : Nat} (hk : k < l.length) (h : allLt p (l.take k) = true) (h1 : l[k] < p) : allLt p (l.take (k + 1)) = true := by
  unfold allLt at *
  rw [List.take_succ_eq_append_getElem hk, List.all_append, h]
  simp [h1]
theorem allLt_bad {p : Nat} {l : List Nat} {k : Nat} (hk : k < l.length) (h1 : p ≤ l[k]) : allLt p l = false := by
  unfold allLt
  rw [List.all_eq_false]
  exact ⟨l[k], List.getElem_mem hk, by simp; omega⟩
def ltErr (p : Nat) (l : List Nat) : Int := if allLt p l then 0 else 2
def IPost (r : Int) (w : World) (e : Ending) (w' : World) : Prop := e = .returned (.int .i64 r) ∧ w = w'
set_option maxRecDepth 100000 in
theorem below_some (p : Nat) (l : List Nat) (hl : l.length ≤ 9223372036854775807) (ad : Addr) (c : Nat) (w : World) (hR : Reads w (some ad) (uCells l)) : Calls Tryz.prog 42 #[.int .u64 p, .slice (some ad) l.length c] w (IPost (ltErr p l) w) := by
  have HR := Lib.hid hR; clear hR
  go_enter Tryz.func42, Tryz.ntmps42
  go_wp2
  go_loopg [9] l.length (fun g v wr => ∃ k : Nat, k ≤ l.length ∧ g = l.length - k ∧ v = .int .i64 k ∧ Hid (allLt p (l.take k) = true) ∧ w = wr)
  case atStart => exact ⟨0, by omega, rfl, rfl, rfl, rfl⟩
  case round =>
    obtain ⟨k, hk, rfl, rfl, hd, rfl⟩ := hrel
    by_cases hlt : k < l.length
    · have q0 := HR.out.some_u k hlt
      by_cases h1 : l[k] < p
      · have i1 : (l[k] : Int) < (p : Int) := by omega
        have HN := Lib.hid (allLt_succ hlt hd.out h1)
        clear hd h1
        go_wp2
        go_roundg (l.length - (k + 1))
        case measure => omega
        case rel => exact ⟨k + 1, by omega, rfl, by go_num, HN.out, rfl⟩
      · have i1 : (p : Int) ≤ (l[k] : Int) := by omega
        have HN := Lib.hid (allLt_bad hlt (by omega : p ≤ l[k]))
        clear hd h1
        go_wp2
        go_ret
        exact ⟨ret_e (by unfold ltErr; rw [HN.out]; rfl), rfl⟩
    · obtain rfl : k = l.length := by omega
      have hd' := hd.out
      rw [List.take_length] at hd'
      have HN := Lib.hid hd'; clear hd hd'
      go_wp2
      go_ret
      exact ⟨ret_e (by unfold ltErr; rw [HN.out]; rfl), rfl⟩
set_option maxRecDepth 100000 in
theorem below_none (p : Nat) (A : Option Addr) (c : Nat) (w : World) : Calls Tryz.prog 42 #[.int .u64 p, .slice A 0 c] w (IPost 0 w) := by
  go_enter Tryz.func42, Tryz.ntmps42
  go_wp2
  go_loopg [9] 0 (fun g v wr => v = .int .i64 0 ∧ w = wr)
  case atStart => exact ⟨rfl, rfl⟩
  case round =>
    obtain ⟨rfl, rfl⟩ := hrel
    go_wp2
    go_ret
    exact ⟨rfl, rfl⟩
theorem belowL_any (p : Nat) (l : List Nat) (hl : l.length ≤ 9223372036854775807) (A : Option Addr) (c : Nat) (w : World) (hR : Reads w A (uCells l)) : Calls Tryz.prog 42 #[.int .u64 p, .slice A l.length c] w (IPost (ltErr p l) w) := by
  have hR' := hR
  rcases hR with h | ⟨ad, rfl, _⟩
  · have := congrArg List.length h
    simp [uCells] at this
    subst this
    exact below_none p A c w
  · exact below_some p l hl ad c w hR'
set_option maxRecDepth 100000 in
theorem within_some (p : Nat) (l : List Nat) (hl : l.length ≤ 9223372036854775807) (ad : Addr) (c : Nat) (w : World) (hR : Reads w (some ad) (uCells l)) : Calls Tryz.prog 27 #[.int .u64 p, .slice (some ad) l.length c] w (IPost (ltErr p l) w) := by
  have HR := Lib.hid hR; clear hR
  go_enter Tryz.func27, Tryz.ntmps27
  go_wp2
  go_loopg [9] l.length (fun g v wr => ∃ k : Nat, k ≤ l.length ∧ g = l.length - k ∧ v = .int .i64 k ∧ Hid (allLt p (l.take k) = true) ∧ w = wr)
  case atStart => exact ⟨0, by omega, rfl, rfl, rfl, rfl⟩
  case round =>
    obtain ⟨k, hk, rfl, rfl, hd, rfl⟩ := hrel
    by_cases hlt : k < l.length
    · have q0 := HR.out.some_u k hlt
      by_cases h1 : l[k] < p
      · have i1 : (l[k] : Int) < (p : Int) := by omega
        have HN := Lib.hid (allLt_succ hlt hd.out h1)
        clear hd h1
        go_wp2
        go_roundg (l.length - (k + 1))
        case measure => omega
        case rel => exact ⟨k + 1, by omega, rfl, by go_num, HN.out, rfl⟩
      · have i1 : (p : Int) ≤ (l[k] : Int) := by omega
        have HN := Lib.hid (allLt_bad hlt (by omega : p ≤ l[k]))
        clear hd h1
        go_wp2
        go_ret
        exact ⟨ret_e (by unfold ltErr; rw [HN.out]; rfl), rfl⟩
    · obtain rfl : k = l.length := by omega
      have hd' := hd.out
      rw [List.take_length] at hd'
      have HN := Lib.hid hd'; clear hd hd'
      go_wp2
      go_ret
      exact ⟨ret_e (by unfold ltErr; rw [HN.out]; rfl), rfl⟩
set_option maxRecDepth 100000 in
theorem within_none (p : Nat) (A : Option Addr) (c : Nat) (w : World) : Calls Tryz.prog 27 #[.int .u64 p, .slice A 0 c] w (IPost 0 w) := by
  go_enter Tryz.func27, Tryz.ntmps27
  go_wp2
  go_loopg [9] 0 (fun g v wr => v = .int .i64 0 ∧ w = wr)
  case atStart => exact ⟨rfl, rfl⟩
  case round =>
    obtain ⟨rfl, rfl⟩ := hrel
    go_wp2
    go_ret
    exact ⟨rfl, rfl⟩
theorem withinL_any (p : Nat) (l : List Nat) (hl : l.length ≤ 9223372036854775807) (A : Option Addr) (c : Nat) (w : World) (hR : Reads w A (uCells l)) : Calls Tryz.prog 27 #[.int .u64 p, .slice A l.length c] w (IPost (ltErr p l) w) := by
  have hR' := hR
  rcases hR with h | ⟨ad, rfl, _⟩
  · have := congrArg List.length h
    simp [uCells] at this
    subst this
    exact within_none p A c w
  · exact within_some p l hl ad c w hR'
set_option maxRecDepth 100000 in
theorem same_some (l : List Nat) (hl : l.length ≤ 9223372036854775807) (a b : Addr) (c d : Nat) (w : World) (hA : Reads w (some a) (uCells l)) (hB : Reads w (some b) (uCells l)) : Calls Tryz.prog 46 #[.slice (some a) l.length c, .slice (some b) l.length d] w fun e w' => e = .returned (.bool true) ∧ ∃ n, w' = w.drewN n := by
  have HA := Lib.hid hA; clear hA
  have HB := Lib.hid hB; clear hB
  go_enter Tryz.func46, Tryz.ntmps46
  go_wp2
  go_loopg [13] l.length (fun g v wr => ∃ k n : Nat, k ≤ l.length ∧ g = l.length - k ∧ v = .int .i64 k ∧ wr = w.drewN n)
  case atStart => exact ⟨0, 0, by omega, rfl, rfl, by simp [World.drewN_zero]⟩
  case round =>
    obtain ⟨k, n, hk, rfl, rfl, rfl⟩ := hrel
    by_cases hlt : k < l.length
    · have q0 := HA.out.some_u k hlt
      have r0 := HB.out.some_u k hlt
      go_wp2
      go_quiet (fail)
      try go_wp2
      go_roundg (l.length - (k + 1))
      case measure => omega
      case rel => exact ⟨k + 1, _, by omega, rfl, by go_num, by first | rfl | (rw [World.drewN_drewN]) | (rw [World.drewN_add])⟩
    · obtain rfl : k = l.length := by omega
      go_wp2
      go_ret
      exact ⟨rfl, _, rfl⟩
set_option maxRecDepth 100000 in
theorem told_ints_some (l : List Int) (hl : l.length ≤ 9223372036854775807) (a b : Addr) (c d : Nat) (w : World) (hA : Reads w (some a) (iCells l)) (hB : Reads w (some b) (iCells l)) : Calls Tryz.prog 49 #[.slice (some a) l.length c, .slice (some b) l.length d] w fun e w' => e = .returned (.bool true) ∧ ∃ n, w' = w.drewN n := by
  have HA := Lib.hid hA; clear hA
  have HB := Lib.hid hB; clear hB
  go_enter Tryz.func49, Tryz.ntmps49
  go_wp2
  go_loopg [13] l.length (fun g v wr => ∃ k n : Nat, k ≤ l.length ∧ g = l.length - k ∧ v = .int .i64 k ∧ wr = w.drewN n)
  case atStart => exact ⟨0, 0, by omega, rfl, rfl, by simp [World.drewN_zero]⟩
  case round =>
    obtain ⟨k, n, hk, rfl, rfl, rfl⟩ := hrel
    by_cases hlt : k < l.length
    · have q0 := HA.out.some_i k hlt
      have r0 := HB.out.some_i k hlt
      go_wp2
      go_quiet (fail)
      try go_wp2
      go_roundg (l.length - (k + 1))
      case measure => omega
      case rel => exact ⟨k + 1, _, by omega, rfl, by go_num, by first | rfl | (rw [World.drewN_drewN]) | (rw [World.drewN_add])⟩
    · obtain rfl : k = l.length := by omega
      go_wp2
      go_ret
      exact ⟨rfl, _, rfl⟩
set_option maxRecDepth 100000 in
theorem ints_some (l : List Int) (hl : l.length ≤ 9223372036854775807) (a b : Addr) (c d : Nat) (w : World) (hA : Reads w (some a) (iCells l)) (hB : Reads w (some b) (iCells l)) : Calls Tryz.prog 65 #[.slice (some a) l.length c, .slice (some b) l.length d] w fun e w' => e = .returned (.bool true) ∧ ∃ n, w' = w.drewN n := by
  have HA := Lib.hid hA; clear hA
  have HB := Lib.hid hB; clear hB
  go_enter Tryz.func65, Tryz.ntmps65
  go_wp2
  go_loopg [13] l.length (fun g v wr => ∃ k n : Nat, k ≤ l.length ∧ g = l.length - k ∧ v = .int .i64 k ∧ wr = w.drewN n)
  case atStart => exact ⟨0, 0, by omega, rfl, rfl, by simp [World.drewN_zero]⟩
  case round =>
    obtain ⟨k, n, hk, rfl, rfl, rfl⟩ := hrel
    by_cases hlt : k < l.length
    · have q0 := HA.out.some_i k hlt
      have r0 := HB.out.some_i k hlt
      go_wp2
      go_quiet (fail)
      try go_wp2
      go_roundg (l.length - (k + 1))
      case measure => omega
      case rel => exact ⟨k + 1, _, by omega, rfl, by go_num, by first | rfl | (rw [World.drewN_drewN]) | (rw [World.drewN_add])⟩
    · obtain rfl : k = l.length := by omega
      go_wp2
      go_ret
      exact ⟨rfl, _, rfl⟩
end Go.Proofs.YtmnbgamnbgdnnaaGreatDoor
