/- The walk of the law CircChecks. -/
import Derived.Test.YtmnbgamnbgdnnaaGreatDoorMh
import Derived.Deep.RegionHeld3
namespace Go.Proofs.YtmnbgamnbgdnnaaGreatDoor
open Go.RowKit

theorem stepK {W0 W W' : World} {kb : Nat} {v0 v1 v2 : Value} (h : W.cell? ⟨kb, 0, none⟩ = some v0 ∧ W.cell? ⟨kb, 1, none⟩ = some v1 ∧ W.cell? ⟨kb, 2, none⟩ = some v2 ∧ Hid (Below W0.heap.size W0 W)) (hb : Below W.heap.size W W') :
    W'.cell? ⟨kb, 0, none⟩ = some v0 ∧ W'.cell? ⟨kb, 1, none⟩ = some v1 ∧ W'.cell? ⟨kb, 2, none⟩ = some v2 ∧ Hid (Below W0.heap.size W0 W') :=
  ⟨(hb.cell (World.block_lt_of_cell? W _ h.1)).trans h.1, (hb.cell (World.block_lt_of_cell? W _ h.2.1)).trans h.2.1, (hb.cell (World.block_lt_of_cell? W _ h.2.2.1)).trans h.2.2.1, Lib.hid (below_alive h.2.2.2.out hb)⟩
set_option maxHeartbeats 1000000 in
set_option maxRecDepth 100000 in
theorem checks_walk (p : Nat) (hp : p < 18446744073709551616) (C : Cir) (w : World) (hC : HoldsC w C) (hE : Env w) :
    Calls Tryz.prog 3 #[.int .u64 p, .agg #[.slice C.SA C.slots.length C.sc, .slice C.GA C.gates.length C.gc, .slice C.EA C.exits.length C.ec]] w fun e w' => e = .returned (.bool true) ∧ Below w.heap.size w w' := by
  have hk1 := fun W (h : Hid (Below w.heap.size w W)) => check_any p hp C W (hC.below h.out)
  have hk2 := fun W (h : Hid (Below w.heap.size w W)) => rcheck_any p hp C W (hC.below h.out)
  have hk3 := fun W (h : Hid (Below w.heap.size w W)) => alive_any W (hE.below h.out)
  unfold GatePost at hk1 hk2
  have hbx : Below w.heap.size w (w.alloc (.cells #[.slice C.SA C.slots.length C.sc, .slice C.GA C.gates.length C.gc, .slice C.EA C.exits.length C.ec] 27)) := (Below.refl _ _).alloc (Nat.le_refl _) _
  have HBX := Lib.hid hbx.drew
  generalize checkErr p C = ck at hk1 hk2
  have HK1 := Lib.hid hk1; clear hk1
  have HK2 := Lib.hid hk2; clear hk2
  have HK3 := Lib.hid hk3; clear hk3
  clear hbx hC hE hp
  go_enter Tryz.func3, Tryz.ntmps3
  go_wp2_with fail
  go_region_held3 (fun W => W.cell? ⟨w.heap.size, 0, none⟩ = some (.slice C.SA C.slots.length C.sc) ∧ W.cell? ⟨w.heap.size, 1, none⟩ = some (.slice C.GA C.gates.length C.gc) ∧ W.cell? ⟨w.heap.size, 2, none⟩ = some (.slice C.EA C.exits.length C.ec) ∧ Hid (Below w.heap.size w W)) (first | assumption | exact ⟨by go_simp, by go_simp, by go_simp, HBX⟩) (first | (go_at_call 10; refine (HK1.out _ (by (have h9 := (by assumption : _ ∧ _ ∧ _ ∧ Hid (Below w.heap.size w _)); exact h9.2.2.2))).mono ?_; rintro e wa ⟨rfl, hba⟩; have hSa := stepK (by assumption) hba; clear hba) | (go_at_call 11; refine (HK2.out _ (by (have h9 := (by assumption : _ ∧ _ ∧ _ ∧ Hid (Below w.heap.size w _)); exact h9.2.2.2))).mono ?_; rintro e wb ⟨rfl, hbb⟩; have hSb := stepK (by assumption) hbb; clear hbb) | (go_at_call 12; refine (HK3.out _ (by (have h9 := (by assumption : _ ∧ _ ∧ _ ∧ Hid (Below w.heap.size w _)); exact h9.2.2.2))).mono ?_; rintro e wc ⟨rfl, hbc⟩; have hSc := stepK (by assumption) hbc; clear hbc))
  all_goals go_wp2_with fail
  all_goals go_ret
  all_goals exact ⟨rfl, hSc.2.2.2.out⟩
end Go.Proofs.YtmnbgamnbgdnnaaGreatDoor
