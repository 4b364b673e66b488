/- Contracts of strconv.Itoa where the number is not negative, of circ.words and of the reference's number and gateLine. -/
import Derived.Test.YtmnbgamnbgdnnaaGreatDoorCirR
import Derived.Deep.RegionHeld3
namespace Go.Proofs.YtmnbgamnbgdnnaaGreatDoor
open Go.RowKit

theorem PowTab.below {W W' : World} (h : PowTab W) (hb : Below W.heap.size W W') : PowTab W' := Lib.tabBelow_of_tabIs h W' hb
def SPost (s : Bs) (w : World) (e : Ending) (w' : World) : Prop := e = .returned (.string ⟨s.toArray⟩) ∧ Below w.heap.size w w'
theorem itoa_any (n : Int) (h0 : 0 ≤ n) (h1 : n ≤ 9223372036854775807) (w : World) (htab : PowTab w) : Calls Tryz.prog 85 #[.int .i64 n] w (SPost (numI n) w) := by
  refine (Tryz.strconv_Itoa n (by omega) h1 w htab).mono ?_
  rintro e w' ⟨rfl, k, os, rfl⟩
  obtain ⟨u, rfl⟩ : ∃ u : Nat, n = u := ⟨n.toNat, by omega⟩
  refine ⟨?_, below_grow0 w k os⟩
  rw [Lib.itoa_nonneg]
  rfl
set_option maxRecDepth 100000 in
theorem words1_any (n : Int) (h0 : 0 ≤ n) (h1 : n ≤ 9223372036854775807) (w : World) (htab : PowTab w) : Calls Tryz.prog 87 #[.int .i64 n] w (SPost (numI n) w) := by
  have H := Lib.hid (itoa_any n h0 h1 w htab)
  clear htab h0 h1
  go_enter Tryz.func87, Tryz.ntmps87
  go_wp2_with (go_at_call 85; refine H.out.mono ?_; rintro e w' ⟨rfl, hb⟩)
  go_ret
  exact ⟨rfl, ‹_›⟩
set_option maxRecDepth 100000 in
theorem rnumber_any (n : Int) (h0 : 0 ≤ n) (h1 : n ≤ 9223372036854775807) (w : World) : Calls Tryz.prog 59 #[.int .i64 n] w (SPost (numI n) w) := by
  obtain ⟨u, rfl⟩ : ∃ u : Nat, n = u := ⟨n.toNat, by omega⟩
  have H := Lib.hid (rdigits_any u (by omega) w)
  have e1 : IntKind.u64.wrap (u : Int) = (u : Int) := IntWalk.u64_in _ (by omega)
  go_enter Tryz.func59, Tryz.ntmps59
  go_wp2_with (go_at_call 89; refine H.out.mono ?_; rintro e w' ⟨rfl, hb⟩)
  go_ret
  exact ⟨rfl, ‹_›⟩
end Go.Proofs.YtmnbgamnbgdnnaaGreatDoor
