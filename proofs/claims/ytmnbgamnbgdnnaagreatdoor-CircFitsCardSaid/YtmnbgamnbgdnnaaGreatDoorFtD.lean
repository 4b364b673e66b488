/- The walk of the law CircFits. -/
import Derived.Test.YtmnbgamnbgdnnaaGreatDoorFtC
import Derived.Test.YtmnbgamnbgdnnaaGreatDoorCkA
namespace Go.Proofs.YtmnbgamnbgdnnaaGreatDoor
open Go.RowKit

theorem stepF {w W W' : World} {s0 s1 s2 v0 v1 v2 : Value} (h : W.cell? ⟨w.heap.size, 0, none⟩ = some s0 ∧ W.cell? ⟨w.heap.size, 1, none⟩ = some s1 ∧ W.cell? ⟨w.heap.size, 2, none⟩ = some s2 ∧ W.cell? ⟨w.heap.size + 1, 0, none⟩ = some v0 ∧ W.cell? ⟨w.heap.size + 1, 1, none⟩ = some v1 ∧ W.cell? ⟨w.heap.size + 1, 2, none⟩ = some v2 ∧ Hid (Below w.heap.size w W)) (hb : Below W.heap.size W W') :
    W'.cell? ⟨w.heap.size, 0, none⟩ = some s0 ∧ W'.cell? ⟨w.heap.size, 1, none⟩ = some s1 ∧ W'.cell? ⟨w.heap.size, 2, none⟩ = some s2 ∧ W'.cell? ⟨w.heap.size + 1, 0, none⟩ = some v0 ∧ W'.cell? ⟨w.heap.size + 1, 1, none⟩ = some v1 ∧ W'.cell? ⟨w.heap.size + 1, 2, none⟩ = some v2 ∧ Hid (Below w.heap.size w W') :=
  ⟨(hb.cell (World.block_lt_of_cell? W _ h.1)).trans h.1, (hb.cell (World.block_lt_of_cell? W _ h.2.1)).trans h.2.1, (hb.cell (World.block_lt_of_cell? W _ h.2.2.1)).trans h.2.2.1, (hb.cell (World.block_lt_of_cell? W _ h.2.2.2.1)).trans h.2.2.2.1, (hb.cell (World.block_lt_of_cell? W _ h.2.2.2.2.1)).trans h.2.2.2.2.1, (hb.cell (World.block_lt_of_cell? W _ h.2.2.2.2.2.1)).trans h.2.2.2.2.2.1, Lib.hid (below_alive h.2.2.2.2.2.2.out hb)⟩
set_option maxHeartbeats 2000000 in
set_option maxRecDepth 100000 in
theorem fits_walk (p : Nat) (hp : p < 18446744073709551616) (N T : Int) (C : Cir) (kind : Int) (w : World) (hC : HoldsC w C) (hE : Env w) :
    Calls Tryz.prog 8 #[.agg #[.int .u64 p, .int .i64 N, .int .i64 T], .agg #[.slice C.SA C.slots.length C.sc, .slice C.GA C.gates.length C.gc, .slice C.EA C.exits.length C.ec], .int .i64 kind] w fun e w' => e = .returned (.bool true) ∧ Below w.heap.size w w' := by
  have hk1 := fun W (h : Hid (Below w.heap.size w W)) => fits_any p hp N T C W (hC.below h.out)
  have hk2 := fun W (h : Hid (Below w.heap.size w W)) => rfits_any p hp N T C W (hC.below h.out)
  have hk3 := fun W (h : Hid (Below w.heap.size w W)) => count_any C kind W (hC.below h.out)
  have hk4 := fun W (h : Hid (Below w.heap.size w W)) => rcount_any C kind W (hC.below h.out)
  have hk5 := fun W (h : Hid (Below w.heap.size w W)) => alive_any W (hE.below h.out)
  unfold GatePost at hk1 hk2 hk3 hk4
  have hbx : Below w.heap.size w ((w.alloc (.cells #[.int .u64 p, .int .i64 N, .int .i64 T] 58)).alloc (.cells #[.slice C.SA C.slots.length C.sc, .slice C.GA C.gates.length C.gc, .slice C.EA C.exits.length C.ec] 27)) := ((Below.refl _ _).alloc (Nat.le_refl _) _).alloc (by simp) _
  have HBX := Lib.hid hbx.drew
  generalize fitErr p N T C = ck at hk1 hk2
  generalize (countK kind C.gates : Int) = q at hk3 hk4
  have HK1 := Lib.hid hk1; clear hk1
  have HK2 := Lib.hid hk2; clear hk2
  have HK3 := Lib.hid hk3; clear hk3
  have HK4 := Lib.hid hk4; clear hk4
  have HK5 := Lib.hid hk5; clear hk5
  clear hbx hC hE hp
  go_enter Tryz.func8, Tryz.ntmps8
  go_wp2_with fail
  go_region_held3 (fun W => W.cell? ⟨w.heap.size, 0, none⟩ = some (.int .u64 p) ∧ W.cell? ⟨w.heap.size, 1, none⟩ = some (.int .i64 N) ∧ W.cell? ⟨w.heap.size, 2, none⟩ = some (.int .i64 T) ∧ W.cell? ⟨w.heap.size + 1, 0, none⟩ = some (.slice C.SA C.slots.length C.sc) ∧ W.cell? ⟨w.heap.size + 1, 1, none⟩ = some (.slice C.GA C.gates.length C.gc) ∧ W.cell? ⟨w.heap.size + 1, 2, none⟩ = some (.slice C.EA C.exits.length C.ec) ∧ Hid (Below w.heap.size w W)) (first | assumption | exact ⟨by go_simp, by go_simp, by go_simp, by go_simp, by go_simp, by go_simp, HBX⟩) (first | (go_at_call 29; refine (HK1.out _ (by (have h9 := (by assumption : _ ∧ _ ∧ _ ∧ _ ∧ _ ∧ _ ∧ Hid (Below w.heap.size w _)); exact h9.2.2.2.2.2.2))).mono ?_; rintro e wa ⟨rfl, hba⟩; have hSa := stepF (by assumption) hba; clear hba) | (go_at_call 30; refine (HK2.out _ (by (have h9 := (by assumption : _ ∧ _ ∧ _ ∧ _ ∧ _ ∧ _ ∧ Hid (Below w.heap.size w _)); exact h9.2.2.2.2.2.2))).mono ?_; rintro e wb ⟨rfl, hbb⟩; have hSb := stepF (by assumption) hbb; clear hbb) | (go_at_call 31; refine (HK3.out _ (by (have h9 := (by assumption : _ ∧ _ ∧ _ ∧ _ ∧ _ ∧ _ ∧ Hid (Below w.heap.size w _)); exact h9.2.2.2.2.2.2))).mono ?_; rintro e wc ⟨rfl, hbc⟩; have hSc := stepF (by assumption) hbc; clear hbc) | (go_at_call 26; refine (HK4.out _ (by (have h9 := (by assumption : _ ∧ _ ∧ _ ∧ _ ∧ _ ∧ _ ∧ Hid (Below w.heap.size w _)); exact h9.2.2.2.2.2.2))).mono ?_; rintro e wd ⟨rfl, hbd⟩; have hSd := stepF (by assumption) hbd; clear hbd) | (go_at_call 12; refine (HK5.out _ (by (have h9 := (by assumption : _ ∧ _ ∧ _ ∧ _ ∧ _ ∧ _ ∧ Hid (Below w.heap.size w _)); exact h9.2.2.2.2.2.2))).mono ?_; rintro e we ⟨rfl, hbe⟩; have hSe := stepF (by assumption) hbe; clear hbe))
  all_goals go_wp2_with fail
  all_goals go_ret
  all_goals exact ⟨rfl, hSe.2.2.2.2.2.2.out⟩
end Go.Proofs.YtmnbgamnbgdnnaaGreatDoor
