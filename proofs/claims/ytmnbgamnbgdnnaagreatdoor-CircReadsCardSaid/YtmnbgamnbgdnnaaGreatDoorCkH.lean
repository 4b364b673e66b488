/- The reference's Same where both circuits are the same. -/
import Derived.Test.YtmnbgamnbgdnnaaGreatDoorCkD
import Derived.Laws.StructEq
namespace Go.Proofs.YtmnbgamnbgdnnaaGreatDoor
open Go.RowKit

set_option maxRecDepth 100000 in
theorem rints_some (l : List Int) (hl : l.length ≤ 9223372036854775807) (a b : Addr) (c d : Nat) (w : World) (hA : Reads w (some a) (iCells l)) (hB : Reads w (some b) (iCells l)) : Calls Tryz.prog 65 #[.slice (some a) l.length c, .slice (some b) l.length d] w fun e w' => e = .returned (.bool true) ∧ ∃ n, w' = w.drewN n := by
  have HA := Lib.hid hA; clear hA
  have HB := Lib.hid hB; clear hB
  go_enter Tryz.func65, Tryz.ntmps65
  go_wp2
  go_loopg [13] l.length (fun g v wr => ∃ k n : Nat, k ≤ l.length ∧ g = l.length - k ∧ v = .int .i64 k ∧ wr = w.drewN n)
  case atStart => exact ⟨0, 0, by omega, rfl, rfl, by simp [World.drewN_zero]⟩
  case round =>
    obtain ⟨k, n, hk, rfl, rfl, rfl⟩ := hrel
    by_cases hlt : k < l.length
    · have q0 := HA.out.some_i k hlt
      have r0 := HB.out.some_i k hlt
      go_wp2
      go_quiet (fail)
      try go_wp2
      go_roundg (l.length - (k + 1))
      case measure => omega
      case rel => exact ⟨k + 1, _, by omega, rfl, by go_num, by first | rfl | (rw [World.drewN_drewN]) | (rw [World.drewN_add])⟩
    · obtain rfl : k = l.length := by omega
      go_wp2
      go_ret
      exact ⟨rfl, _, rfl⟩
set_option maxRecDepth 100000 in
theorem rints_none (A B : Option Addr) (c d : Nat) (w : World) : Calls Tryz.prog 65 #[.slice A 0 c, .slice B 0 d] w (DPost w) := by
  go_enter Tryz.func65, Tryz.ntmps65
  go_wp2
  go_loopg [13] 0 (fun g v wr => v = .int .i64 0 ∧ w = wr)
  case atStart => exact ⟨rfl, rfl⟩
  case round =>
    obtain ⟨rfl, rfl⟩ := hrel
    go_wp2
    go_ret
    exact ⟨rfl, 0, rfl⟩
theorem rints_any (l : List Int) (hl : l.length ≤ 9223372036854775807) (A B : Option Addr) (c d : Nat) (w : World) (hA : Reads w A (iCells l)) (hB : Reads w B (iCells l)) : Calls Tryz.prog 65 #[.slice A l.length c, .slice B l.length d] w (DPost w) := by
  rcases Nat.eq_zero_or_pos l.length with h0 | h0
  · obtain rfl := List.eq_nil_of_length_eq_zero h0
    exact rints_none A B c d w
  · obtain ⟨a, rfl, _⟩ := hA.i 0 h0
    obtain ⟨b, rfl, _⟩ := hB.i 0 h0
    exact rints_some l hl a b c d w hA hB

set_option maxHeartbeats 6000000 in
set_option maxRecDepth 100000 in
theorem rsame_any (C D : Cir) (h : C.l = D.l) (w : World) (hC : HoldsC w C) (hD : HoldsC w D) :
    Calls Tryz.prog 24 #[.agg #[.slice C.SA C.slots.length C.sc, .slice C.GA C.gates.length C.gc, .slice C.EA C.exits.length C.ec], .agg #[.slice D.SA D.slots.length D.sc, .slice D.GA D.gates.length D.gc, .slice D.EA D.exits.length D.ec]] w fun e w' => e = .returned (.bool true) ∧ Below w.heap.size w w' := by
  have es : C.slots = D.slots := congrArg (fun x : Lis => x.1) h
  have eg : C.gates = D.gates := congrArg (fun x : Lis => x.2.1) h
  have ex : C.exits.map Exi.l = D.exits.map Exi.l := congrArg (fun x : Lis => x.2.2) h
  have ls : D.slots.length = C.slots.length := by rw [es]
  have lg : D.gates.length = C.gates.length := by rw [eg]
  have lx : D.exits.length = C.exits.length := by have := congrArg List.length ex; simpa using this.symm
  rw [ls, lg, lx]
  have hb2 : Below w.heap.size w ((w.alloc (.cells #[.slice C.SA C.slots.length C.sc, .slice C.GA C.gates.length C.gc, .slice C.EA C.exits.length C.ec] 27)).alloc (.cells #[.slice D.SA C.slots.length D.sc, .slice D.GA C.gates.length D.gc, .slice D.EA C.exits.length D.ec] 27)) := below_snoc (below_snoc (Below.refl _ _) _) _
  obtain ⟨Z, hZ⟩ : ∃ Z, Z = ((w.alloc (.cells #[.slice C.SA C.slots.length C.sc, .slice C.GA C.gates.length C.gc, .slice C.EA C.exits.length C.ec] 27)).alloc (.cells #[.slice D.SA C.slots.length D.sc, .slice D.GA C.gates.length D.gc, .slice D.EA C.exits.length D.ec] 27)) := ⟨_, rfl⟩
  have hz1 := heap_alloc_new (w.alloc (.cells #[.slice C.SA C.slots.length C.sc, .slice C.GA C.gates.length C.gc, .slice C.EA C.exits.length C.ec] 27)) (.cells #[.slice D.SA C.slots.length D.sc, .slice D.GA C.gates.length D.gc, .slice D.EA C.exits.length D.ec] 27)
  have hz0 := (Below.heap_alloc (w.alloc (.cells #[.slice C.SA C.slots.length C.sc, .slice C.GA C.gates.length C.gc, .slice C.EA C.exits.length C.ec] 27)) (.cells #[.slice D.SA C.slots.length D.sc, .slice D.GA C.gates.length D.gc, .slice D.EA C.exits.length D.ec] 27) w.heap.size (by simp)).trans (heap_alloc_new w (.cells #[.slice C.SA C.slots.length C.sc, .slice C.GA C.gates.length C.gc, .slice C.EA C.exits.length C.ec] 27))
  have e1 : (w.alloc (.cells #[.slice C.SA C.slots.length C.sc, .slice C.GA C.gates.length C.gc, .slice C.EA C.exits.length C.ec] 27)).heap.size = w.heap.size + 1 := by simp
  rw [e1] at hz1
  rw [← hZ] at hz0 hz1
  have hbz : Below w.heap.size w Z := by rw [hZ]; exact hb2
  have Z0 : Hid (Z.cell? ⟨w.heap.size, 0, none⟩ = some (.slice C.SA C.slots.length C.sc)) := Lib.hid (by rw [cell_in hz0]; rfl)
  have Z1 : Hid (Z.cell? ⟨w.heap.size, 1, none⟩ = some (.slice C.GA C.gates.length C.gc)) := Lib.hid (by rw [cell_in hz0]; rfl)
  have Z2 : Hid (Z.cell? ⟨w.heap.size, 2, none⟩ = some (.slice C.EA C.exits.length C.ec)) := Lib.hid (by rw [cell_in hz0]; rfl)
  have Z3 : Hid (Z.cell? ⟨w.heap.size + 1, 0, none⟩ = some (.slice D.SA C.slots.length D.sc)) := Lib.hid (by rw [cell_in hz1]; rfl)
  have Z4 : Hid (Z.cell? ⟨w.heap.size + 1, 1, none⟩ = some (.slice D.GA C.gates.length D.gc)) := Lib.hid (by rw [cell_in hz1]; rfl)
  have Z5 : Hid (Z.cell? ⟨w.heap.size + 1, 2, none⟩ = some (.slice D.EA C.exits.length D.ec)) := Lib.hid (by rw [cell_in hz1]; rfl)
  obtain ⟨n1, n2, n3⟩ := hC.n
  have HC := Lib.hid (hC.below hbz)
  have HD := Lib.hid (hD.below hbz)
  have HBZ := Lib.hid hbz
  have HES := Lib.hid es
  have HEG := Lib.hid eg
  have HEX := Lib.hid ex
  have HLX := Lib.hid lx
  have HZ := Lib.hid hZ
  clear h es eg ex ls lg lx hC hD hb2 hz0 hz1 e1 hbz hZ
  go_enter Tryz.func24, Tryz.ntmps24
  go_wp2
  rw [← HZ.out]
  clear HZ
  go_loopg [36] C.slots.length (fun g v wr => ∃ k n : Nat, k ≤ C.slots.length ∧ g = C.slots.length - k ∧ v = .int .i64 k ∧ wr = Z.drewN n)
  case atStart => exact ⟨0, 0, by omega, rfl, rfl, by simp [World.drewN_zero]⟩
  case round =>
    obtain ⟨k, n, hk, rfl, rfl, rfl⟩ := hrel
    by_cases hlt : k < C.slots.length
    · obtain ⟨aa, ha, q0, q1⟩ := HC.out.s.slo k hlt
      obtain ⟨bb, hb, r0, r1⟩ := HD.out.s.slo k (by rw [← HES.out]; exact hlt)
      have he : D.slots[k]'(by rw [← HES.out]; exact hlt) = C.slots[k] := by simp only [HES.out]
      rw [he] at r0 r1
      have z0 := Z0.out
      have z3 := Z3.out
      rw [ha] at z0
      rw [hb] at z3
      generalize C.slots[k] = s at q0 q1 r0 r1
      obtain ⟨s1, s2⟩ := s
      simp only at q0 q1 r0 r1
      clear he
      go_wp2
      go_quiet (fail)
      try go_wp2
      go_roundg (C.slots.length - (k + 1))
      case measure => omega
      case rel => exact ⟨k + 1, _, by omega, rfl, by go_num, by first | rfl | (rw [World.drewN_drewN]) | (rw [World.drewN_add])⟩
    · obtain rfl : k = C.slots.length := by omega
      have z1 := Z1.out
      go_wp2
      clear z1
      go_loopg [54] C.gates.length (fun g v wr => ∃ k n : Nat, k ≤ C.gates.length ∧ g = C.gates.length - k ∧ v = .int .i64 k ∧ wr = Z.drewN n)
      case atStart => exact ⟨0, _, by omega, rfl, rfl, rfl⟩
      case round =>
        obtain ⟨k, n, hk, rfl, rfl, rfl⟩ := hrel
        by_cases hlt : k < C.gates.length
        · obtain ⟨aa, ha, q0, q1, q2, q3⟩ := HC.out.g.gat k hlt
          obtain ⟨bb, hb, r0, r1, r2, r3⟩ := HD.out.g.gat k (by rw [← HEG.out]; exact hlt)
          have he : D.gates[k]'(by rw [← HEG.out]; exact hlt) = C.gates[k] := by simp only [HEG.out]
          rw [he] at r0 r1 r2 r3
          have z1 := Z1.out
          have z4 := Z4.out
          rw [ha] at z1
          rw [hb] at z4
          generalize C.gates[k] = s at q0 q1 q2 q3 r0 r1 r2 r3
          obtain ⟨s1, s2, s3, s4⟩ := s
          simp only at q0 q1 q2 q3 r0 r1 r2 r3
          clear he
          go_wp2
          go_quiet (fail)
          try go_wp2
          go_roundg (C.gates.length - (k + 1))
          case measure => omega
          case rel => exact ⟨k + 1, _, by omega, rfl, by go_num, by first | rfl | (rw [World.drewN_drewN]) | (rw [World.drewN_add])⟩
        · obtain rfl : k = C.gates.length := by omega
          have z2 := Z2.out
          go_wp2
          clear z2
          go_loopg [72] C.exits.length (fun g v wr => ∃ k n : Nat, k ≤ C.exits.length ∧ g = C.exits.length - k ∧ v = .int .i64 k ∧ wr = Z.drewN n)
          case atStart => exact ⟨0, _, by omega, rfl, rfl, rfl⟩
          case round =>
            obtain ⟨k, n, hk, rfl, rfl, rfl⟩ := hrel
            by_cases hlt : k < C.exits.length
            · have hlt' : k < D.exits.length := by rw [HLX.out]; exact hlt
              obtain ⟨aa, ha, q0, q1⟩ := HC.out.e.exi k hlt
              obtain ⟨bb, hb, r0, r1⟩ := HD.out.e.exi k hlt'
              obtain ⟨x1, x2⟩ := HC.out.x _ (List.getElem_mem hlt)
              obtain ⟨m1, m2⟩ := HC.out.m _ (List.getElem_mem hlt)
              obtain ⟨y1, y2⟩ := HD.out.x _ (List.getElem_mem hlt')
              have he : C.exits[k].l = D.exits[k].l := by
                have := congrArg (fun l => l[k]?) HEX.out
                simpa [List.getElem?_map, List.getElem?_eq_getElem hlt, List.getElem?_eq_getElem hlt'] using this
              have z2 := Z2.out
              have z5 := Z5.out
              rw [ha] at z2
              rw [hb] at z5
              generalize C.exits[k] = t at q0 q1 x1 x2 m1 m2 he
              generalize D.exits[k] = u at r0 r1 y1 y2 he
              obtain ⟨tl, gl, tA, tB, tc, td⟩ := t
              obtain ⟨tl', gl', uA, uB, uc, ud⟩ := u
              have e1 : tl = tl' := congrArg (fun x : List Int × List Int => x.1) he
              have e2 : gl = gl' := congrArg (fun x : List Int × List Int => x.2) he
              subst e1
              subst e2
              simp only at q0 q1 r0 r1 x1 x2 y1 y2 m1 m2
              have HI := Lib.hid (fun m => show Calls Tryz.prog 65 #[.slice tA tl.length tc, .slice uA tl.length uc] (Z.drewN m) (fun e w' => e = .returned (.bool true) ∧ ∃ k, w' = (Z.drewN m).drewN k) from rints_any tl m1 tA uA tc uc (Z.drewN m) x1 y1)
              have HS := Lib.hid (fun m => show Calls Tryz.prog 65 #[.slice tB gl.length td, .slice uB gl.length ud] (Z.drewN m) (fun e w' => e = .returned (.bool true) ∧ ∃ k, w' = (Z.drewN m).drewN k) from rints_any gl m2 tB uB td ud (Z.drewN m) x2 y2)
              clear x1 x2 y1 y2 he m1 m2
              go_wp2
              go_quiet (first | (with_reducible exact quiet_moreD HI.out) | (with_reducible exact quiet_moreD HS.out))
              try go_wp2
              go_roundg (C.exits.length - (k + 1))
              case measure => omega
              case rel => exact ⟨k + 1, _, by omega, rfl, by go_num, by first | rfl | (rw [World.drewN_drewN]) | (rw [World.drewN_add])⟩
            · obtain rfl : k = C.exits.length := by omega
              go_wp2
              go_ret
              exact ⟨rfl, below_drewN HBZ.out _⟩
end Go.Proofs.YtmnbgamnbgdnnaaGreatDoor
