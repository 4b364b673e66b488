/- Contract of circ.Fits where the setup is one. -/
import Derived.Test.YtmnbgamnbgdnnaaGreatDoorFtA
import Derived.Laws.EntriesVeiled
namespace Go.Proofs.YtmnbgamnbgdnnaaGreatDoor
open Go.RowKit

theorem below_box2 {w w1 : World} {o o' : Obj} (h : Below ((w.alloc o).alloc o').heap.size ((w.alloc o).alloc o') w1) : Below w.heap.size w w1 := below_box (below_box h)
section
variable (p : Nat) (hp : p < 18446744073709551616) (N T : Int) (C : Cir) (w : World) (hC : HoldsC w C)
include hp hC
set_option maxHeartbeats 2000000 in
set_option maxRecDepth 100000 in
theorem fits_go (hgood : ¬ badSetup p N T) : Calls Tryz.prog 29 #[.agg #[.int .u64 p, .int .i64 N, .int .i64 T], .agg #[.slice C.SA C.slots.length C.sc, .slice C.GA C.gates.length C.gc, .slice C.EA C.exits.length C.ec]] w (GatePost (if checkErr p C ≠ 0 then checkErr p C else if anyAbove N C then 2 else 0) w) := by
  have hb0 : Below w.heap.size w ((w.alloc (.cells #[.int .u64 p, .int .i64 N, .int .i64 T] 58)).alloc (.cells #[.slice C.SA C.slots.length C.sc, .slice C.GA C.gates.length C.gc, .slice C.EA C.exits.length C.ec] 27)) := ((Below.refl _ _).alloc (Nat.le_refl _) _).alloc (by simp) _
  have his := is_any p hp
  have hck := check_any p hp C _ (hC.below hb0)
  unfold GatePost at hck
  have hgd : isP p = true ∧ 1 ≤ N ∧ N ≤ 13 ∧ 0 ≤ T ∧ 4 * T + 1 ≤ N ∧ N < (p : Int) := by
    unfold badSetup at hgood
    have h1 : isP p = true := by
      cases h : isP p
      · exact absurd (.inl h) hgood
      · rfl
    rw [h1] at hgood
    refine ⟨h1, ?_⟩
    simp at hgood
    omega
  obtain ⟨hP, i2, i3, i4, i6, i7⟩ := hgd
  have i5 : T ≤ N := by omega
  obtain ⟨p3, pm, _⟩ := (isP_iff p).1 hP
  rw [hP] at his
  have HIS := Lib.hid his
  have HC := Lib.hid hC
  obtain ⟨n1, n2, n3⟩ := hC.n
  have hw : IntKind.u64.wrap N = N := IntWalk.u64_in _ (by omega)
  clear his hC hgood hP
  by_cases h0 : checkErr p C = 0
  · rw [h0] at hck ⊢
    rw [if_neg (by simp)]
    have HCK := Lib.hid hck; clear hck h0 hb0
    cases b1 : C.slots.any (fun z => aboveN N z.1) with
    | true =>
      rw [show anyAbove N C = true by unfold anyAbove; rw [b1]; rfl, if_pos rfl]
      have HXC := Lib.hid (fun (v : Nat) (W' : World) (i : FInv N w.heap.size v W') (h : Below w.heap.size w W') => by have hc := containsSG_any _ _ _ _ (fits2_says N w.heap.size v) (fun _ _ h hb => h.below hb) W' i C.slots C.SA C.sc n1 (HC.out.s.below h); rw [b1] at hc; exact hc)
      clear b1
      go_enter Tryz.func29, Tryz.ntmps29
      go_wp2_with (first
        | (go_at_call 34; refine (HIS.out _).mono ?_; rintro e w1 ⟨rfl, rfl⟩)
        | (go_at_call 10; refine HCK.out.mono ?_; rintro e w2 ⟨rfl, hb⟩; have c0 := hb.cell (p := ⟨w.heap.size, 1, none⟩) (by simp; omega); have c1 := hb.cell (p := ⟨w.heap.size + 1, 0, none⟩) (by simp); have c2 := hb.cell (p := ⟨w.heap.size + 1, 2, none⟩) (by simp); simp at c0 c1 c2; have HB2 := Lib.hid (below_box2 hb); have hsz := HB2.out.size; have hz := hb.size; simp at hz; have z0 : w.heap.size < w2.heap.size := (by omega); have z1 : w.heap.size + 1 < w2.heap.size := (by omega); clear hb hz)
        | (go_at_call 35; have hi : FInv N w.heap.size w2.heap.size (w2.alloc (.cells #[.func (.func 70) #[] #[.pointer (some ⟨w.heap.size, 0, none⟩)]] 110)) := ⟨(by go_simp), (by go_simp)⟩; have hb : Below w.heap.size w (w2.alloc (.cells #[.func (.func 70) #[] #[.pointer (some ⟨w.heap.size, 0, none⟩)]] 110)) := HB2.out.alloc hsz _; have HI := Lib.hid hi; have HB3 := Lib.hid hb; clear hi hb; refine (HXC.out _ _ HI.out HB3.out).mono ?_; rintro e w3 ⟨rfl, hb⟩; have c3 := hb.cell (p := ⟨w.heap.size + 1, 2, none⟩) (by simp; omega); simp [World.cell?_alloc_lt, z1] at c3; rw [c2] at c3; have HI4 := Lib.hid (HI.out.below hb); have HB4 := Lib.hid (below_twoF HB3.out hb); clear hb))
      go_ret
      exact ⟨rfl, HB4.out⟩
    | false =>
      cases b2 : C.exits.any (fun z => z.tl.any (aboveN N)) with
      | true =>
        rw [show anyAbove N C = true by unfold anyAbove; rw [b1, b2]; rfl, if_pos rfl]
        have HXC := Lib.hid (fun (v : Nat) (W' : World) (i : FInv N w.heap.size v W') (h : Below w.heap.size w W') => by have hc := containsSG_any _ _ _ _ (fits2_says N w.heap.size v) (fun _ _ h hb => h.below hb) W' i C.slots C.SA C.sc n1 (HC.out.s.below h); rw [b1] at hc; exact hc)
        have HXX := Lib.hid (fun (v : Nat) (W' : World) (i : FInv N w.heap.size v W') (h : Below w.heap.size w W') => by have hc := containsXG_any _ _ _ _ (fits3_says N w.heap.size v) (fun _ _ h hb => h.below hb) W' i C.exits C.EA C.ec n3 (HC.out.e.below h) (fun z hz => ⟨(HC.out.m z hz).1, (HC.out.x z hz).1.below h⟩); rw [b2] at hc; exact hc)
        clear b1 b2
        go_enter Tryz.func29, Tryz.ntmps29
        go_wp2_with (first
          | (go_at_call 34; refine (HIS.out _).mono ?_; rintro e w1 ⟨rfl, rfl⟩)
          | (go_at_call 10; refine HCK.out.mono ?_; rintro e w2 ⟨rfl, hb⟩; have c0 := hb.cell (p := ⟨w.heap.size, 1, none⟩) (by simp; omega); have c1 := hb.cell (p := ⟨w.heap.size + 1, 0, none⟩) (by simp); have c2 := hb.cell (p := ⟨w.heap.size + 1, 2, none⟩) (by simp); simp at c0 c1 c2; have HB2 := Lib.hid (below_box2 hb); have hsz := HB2.out.size; have hz := hb.size; simp at hz; have z0 : w.heap.size < w2.heap.size := (by omega); have z1 : w.heap.size + 1 < w2.heap.size := (by omega); clear hb hz)
          | (go_at_call 35; have hi : FInv N w.heap.size w2.heap.size (w2.alloc (.cells #[.func (.func 70) #[] #[.pointer (some ⟨w.heap.size, 0, none⟩)]] 110)) := ⟨(by go_simp), (by go_simp)⟩; have hb : Below w.heap.size w (w2.alloc (.cells #[.func (.func 70) #[] #[.pointer (some ⟨w.heap.size, 0, none⟩)]] 110)) := HB2.out.alloc hsz _; have HI := Lib.hid hi; have HB3 := Lib.hid hb; clear hi hb; refine (HXC.out _ _ HI.out HB3.out).mono ?_; rintro e w3 ⟨rfl, hb⟩; have c3 := hb.cell (p := ⟨w.heap.size + 1, 2, none⟩) (by simp; omega); simp [World.cell?_alloc_lt, z1] at c3; rw [c2] at c3; have HI4 := Lib.hid (HI.out.below hb); have HB4 := Lib.hid (below_twoF HB3.out hb); clear hb)
          | (go_at_call 72; refine (HXX.out _ _ HI4.out HB4.out).mono ?_; rintro e w5 ⟨rfl, hb⟩; have HB5 := Lib.hid (below_twoF HB4.out hb); clear hb))
        go_ret
        exact ⟨rfl, HB5.out⟩
      | false =>
        rw [show anyAbove N C = false by unfold anyAbove; rw [b1, b2]; rfl, if_neg (by simp)]
        have HXC := Lib.hid (fun (v : Nat) (W' : World) (i : FInv N w.heap.size v W') (h : Below w.heap.size w W') => by have hc := containsSG_any _ _ _ _ (fits2_says N w.heap.size v) (fun _ _ h hb => h.below hb) W' i C.slots C.SA C.sc n1 (HC.out.s.below h); rw [b1] at hc; exact hc)
        have HXX := Lib.hid (fun (v : Nat) (W' : World) (i : FInv N w.heap.size v W') (h : Below w.heap.size w W') => by have hc := containsXG_any _ _ _ _ (fits3_says N w.heap.size v) (fun _ _ h hb => h.below hb) W' i C.exits C.EA C.ec n3 (HC.out.e.below h) (fun z hz => ⟨(HC.out.m z hz).1, (HC.out.x z hz).1.below h⟩); rw [b2] at hc; exact hc)
        clear b1 b2
        go_enter Tryz.func29, Tryz.ntmps29
        go_wp2_with (first
          | (go_at_call 34; refine (HIS.out _).mono ?_; rintro e w1 ⟨rfl, rfl⟩)
          | (go_at_call 10; refine HCK.out.mono ?_; rintro e w2 ⟨rfl, hb⟩; have c0 := hb.cell (p := ⟨w.heap.size, 1, none⟩) (by simp; omega); have c1 := hb.cell (p := ⟨w.heap.size + 1, 0, none⟩) (by simp); have c2 := hb.cell (p := ⟨w.heap.size + 1, 2, none⟩) (by simp); simp at c0 c1 c2; have HB2 := Lib.hid (below_box2 hb); have hsz := HB2.out.size; have hz := hb.size; simp at hz; have z0 : w.heap.size < w2.heap.size := (by omega); have z1 : w.heap.size + 1 < w2.heap.size := (by omega); clear hb hz)
          | (go_at_call 35; have hi : FInv N w.heap.size w2.heap.size (w2.alloc (.cells #[.func (.func 70) #[] #[.pointer (some ⟨w.heap.size, 0, none⟩)]] 110)) := ⟨(by go_simp), (by go_simp)⟩; have hb : Below w.heap.size w (w2.alloc (.cells #[.func (.func 70) #[] #[.pointer (some ⟨w.heap.size, 0, none⟩)]] 110)) := HB2.out.alloc hsz _; have HI := Lib.hid hi; have HB3 := Lib.hid hb; clear hi hb; refine (HXC.out _ _ HI.out HB3.out).mono ?_; rintro e w3 ⟨rfl, hb⟩; have c3 := hb.cell (p := ⟨w.heap.size + 1, 2, none⟩) (by simp; omega); simp [World.cell?_alloc_lt, z1] at c3; rw [c2] at c3; have HI4 := Lib.hid (HI.out.below hb); have HB4 := Lib.hid (below_twoF HB3.out hb); clear hb)
          | (go_at_call 72; refine (HXX.out _ _ HI4.out HB4.out).mono ?_; rintro e w5 ⟨rfl, hb⟩; have HB5 := Lib.hid (below_twoF HB4.out hb); clear hb))
        go_ret
        exact ⟨rfl, HB5.out⟩
  · have hz : (checkErr p C == 0) = false := by simpa using h0
    rw [if_pos h0]
    generalize checkErr p C = er at *
    have HCK := Lib.hid hck; clear hck hb0 h0
    go_enter Tryz.func29, Tryz.ntmps29
    go_wp2_with (first
      | (go_at_call 34; refine (HIS.out _).mono ?_; rintro e w1 ⟨rfl, rfl⟩)
      | (go_at_call 10; refine HCK.out.mono ?_; rintro e w2 ⟨rfl, hb⟩; have c0 := hb.cell (p := ⟨w.heap.size, 1, none⟩) (by simp; omega); have c1 := hb.cell (p := ⟨w.heap.size + 1, 0, none⟩) (by simp); have c2 := hb.cell (p := ⟨w.heap.size + 1, 2, none⟩) (by simp); simp at c0 c1 c2; have HB2 := Lib.hid (below_box2 hb); have hsz := HB2.out.size; have hz := hb.size; simp at hz; have z0 : w.heap.size < w2.heap.size := (by omega); have z1 : w.heap.size + 1 < w2.heap.size := (by omega); clear hb hz))
    go_ret
    exact ⟨rfl, HB2.out⟩
end
theorem fits_any (p : Nat) (hp : p < 18446744073709551616) (N T : Int) (C : Cir) (w : World) (hC : HoldsC w C) : Calls Tryz.prog 29 #[.agg #[.int .u64 p, .int .i64 N, .int .i64 T], .agg #[.slice C.SA C.slots.length C.sc, .slice C.GA C.gates.length C.gc, .slice C.EA C.exits.length C.ec]] w (GatePost (fitErr p N T C) w) := by
  unfold fitErr
  split
  · rename_i h
    exact fits_set p hp N T C w h
  · rename_i h
    exact fits_go p hp N T C w hC h
end Go.Proofs.YtmnbgamnbgdnnaaGreatDoor
