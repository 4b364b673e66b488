/- Contract of the reference's Same, where the words are the same. -/
import Derived.Test.YtaccooeodimdaaaDoorTokO
namespace Go.Proofs.YtaccooeodimdaaaDoor
open Go.RowKit

set_option maxHeartbeats 1000000 in
set_option maxRecDepth 100000 in
theorem same_some (off : Bool) (ts us : List ITok) (hn : us.length = ts.length) (hpos : 0 < ts.length) (h : ∀ k (h1 : k < ts.length) (h2 : k < us.length), ts[k].1 = us[k].1 ∧ ts[k].2.1 = us[k].2.1 ∧ (off = true → ts[k].2.2 = us[k].2.2))
    (a b : Addr) (c d : Nat) (w : World) (hA : Reads w (some a) (iCells ts)) (hB : Reads w (some b) (iCells us)) (hl : ts.length ≤ 9223372036854775807) :
    Calls Tryd.prog 12 #[.slice (some a) ts.length c, .slice (some b) us.length d, .bool off] w fun e w' => e = .returned (.bool true) ∧ Below w.heap.size w w' := by
  have HA := Lib.hid hA; clear hA
  have HB := Lib.hid hB; clear hB
  have HH := Lib.hid h; clear h
  rw [hn]
  cases off
  · go_enter Tryd.func12, Tryd.ntmps12
    go_wp2
    go_loopg [15] ts.length (fun g v wr => ∃ k : Nat, k ≤ ts.length ∧ g = ts.length - k ∧ v = .int .i64 k ∧ Below w.heap.size w wr)
    case atStart => exact ⟨0, by omega, rfl, rfl, Below.refl _ _⟩
    case round =>
      obtain ⟨k, hk, rfl, rfl, hbel⟩ := hrel
      by_cases hlt : k < ts.length
      · obtain ⟨q0, q1, q2⟩ := (HA.out.below hbel).tok k hlt
        obtain ⟨r0, r1, r2⟩ := (HB.out.below hbel).tok k (by omega)
        have hh := HH.out k hlt (by omega)
        rw [← hh.1] at r0
        rw [← hh.2.1] at r1
        have HBL := Lib.hid hbel; clear hbel hh
        go_wp2
        try go_quiet (fail)
        try go_wp2
        go_roundg (ts.length - (k + 1))
        case measure => omega
        case rel => exact ⟨k + 1, by omega, rfl, by go_num, by first | exact HBL.out | exact below_drewN HBL.out _⟩
      · obtain rfl : k = ts.length := by omega
        go_wp2
        go_ret
        exact ⟨rfl, hbel⟩
  · go_enter Tryd.func12, Tryd.ntmps12
    go_wp2
    go_loopg [15] ts.length (fun g v wr => ∃ k : Nat, k ≤ ts.length ∧ g = ts.length - k ∧ v = .int .i64 k ∧ Below w.heap.size w wr)
    case atStart => exact ⟨0, by omega, rfl, rfl, Below.refl _ _⟩
    case round =>
      obtain ⟨k, hk, rfl, rfl, hbel⟩ := hrel
      by_cases hlt : k < ts.length
      · obtain ⟨q0, q1, q2⟩ := (HA.out.below hbel).tok k hlt
        obtain ⟨r0, r1, r2⟩ := (HB.out.below hbel).tok k (by omega)
        have hh := HH.out k hlt (by omega)
        rw [← hh.1] at r0
        rw [← hh.2.1] at r1
        rw [← hh.2.2 (by first | rfl | trivial)] at r2
        have HBL := Lib.hid hbel; clear hbel hh
        go_wp2
        try go_quiet (fail)
        try go_wp2
        go_roundg (ts.length - (k + 1))
        case measure => omega
        case rel => exact ⟨k + 1, by omega, rfl, by go_num, by first | exact HBL.out | exact below_drewN HBL.out _⟩
      · obtain rfl : k = ts.length := by omega
        go_wp2
        go_ret
        exact ⟨rfl, hbel⟩
set_option maxRecDepth 100000 in
theorem same_none (off : Bool) (A B : Option Addr) (c d : Nat) (w : World) :
    Calls Tryd.prog 12 #[.slice A 0 c, .slice B 0 d, .bool off] w fun e w' => e = .returned (.bool true) ∧ w = w' := by
  go_enter Tryd.func12, Tryd.ntmps12
  go_wp2
  go_loopg [15] 0 (fun g v wr => v = .int .i64 0 ∧ w = wr)
  case atStart => exact ⟨rfl, rfl⟩
  case round =>
    obtain ⟨rfl, rfl⟩ := hrel
    go_wp2
    go_ret
    exact ⟨rfl, rfl⟩
theorem same_yes (off : Bool) (ts us : List ITok) (hn : us.length = ts.length) (h : ∀ k (h1 : k < ts.length) (h2 : k < us.length), ts[k].1 = us[k].1 ∧ ts[k].2.1 = us[k].2.1 ∧ (off = true → ts[k].2.2 = us[k].2.2))
    (A B : Option Addr) (c d : Nat) (w : World) (hA : Reads w A (iCells ts)) (hB : Reads w B (iCells us)) (hl : ts.length ≤ 9223372036854775807) :
    Calls Tryd.prog 12 #[.slice A ts.length c, .slice B us.length d, .bool off] w fun e w' => e = .returned (.bool true) ∧ Below w.heap.size w w' := by
  rcases Nat.eq_zero_or_pos ts.length with h0 | h0
  · obtain rfl := List.eq_nil_of_length_eq_zero h0
    obtain rfl := List.eq_nil_of_length_eq_zero hn
    refine (same_none off A B c d w).mono ?_
    rintro e w1 ⟨rfl, rfl⟩
    exact ⟨rfl, Below.refl _ _⟩
  · have hA' := hA
    have hB' := hB
    rcases hA with h1 | ⟨a, rfl, _⟩
    · have := iCells_len ts; rw [h1] at this; simp at this; omega
    rcases hB with h1 | ⟨b, rfl, _⟩
    · have := iCells_len us; rw [h1] at this; simp at this; omega
    exact same_some off ts us hn h0 h a b c d w hA' hB' hl
end Go.Proofs.YtaccooeodimdaaaDoor
