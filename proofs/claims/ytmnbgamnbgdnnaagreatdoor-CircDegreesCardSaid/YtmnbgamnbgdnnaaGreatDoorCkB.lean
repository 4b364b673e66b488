/- The contract of the reference's Values. -/
import Derived.Test.YtmnbgamnbgdnnaaGreatDoorCjL
namespace Go.Proofs.YtmnbgamnbgdnnaaGreatDoor
open Go.RowKit

section
variable {P : Program} {ops : Array Oper} {o : Oper} {a : Act} {K : Act → World → Prop} {Q : Exit → Act → World → Prop} {E : Prop}
/-- One element is appended to a row of the call's own, in whatever world lies above. -/
theorem list_append_own {rest : List Oper} {W0 W : World} (hW : Below W0.heap.size W0 W) (base : Nat) (hgd : o.guard = none) (s x : Operand) (t e : TypeId) (z : Value) (bytes : Nat)
    (ho : o.op = .call { callee := .builtin .append, args := #[s, x], argTypes := #[t, t] })
    (ht : P.underlying t = some (.slice e)) (hinfo : (P.info? e).map (fun i => (i.zero, i.size, i.bytes)) = some (some z, 1, bytes)) (hz : z.cells.size = 1) (hb0 : 0 < bytes)
    (v : Value) (n : Nat) (xs : List Value) (y : Value) (hs : a.eval s = v) (g : Nat) (hx : a.eval x = .slice (some ⟨g, 0, none⟩) 1 1) (hc : W.cell? ⟨g, 0, none⟩ = some y) (h1 : y.oneCell' = true)
    (HO : W0.ownsRow base e 1 v n xs) (hbase : base ≤ W0.heap.size) (hl : (n + 1) * bytes ≤ 140737488355328)
    (h : ∀ v1 w1, w1.ownsRow base e 1 v1 (n + 1) (xs ++ [y]) → W0.grownBy w1 v.ownBlock → wpList P ops Q rest (a.put o.dst v1) w1) : wpList P ops Q (o :: rest) a W := by
  have hg0 : W0.grownBy W v.ownBlock := ⟨hW.os, hW.tape, hW.output, hW.size, fun k hk _ => hW.block k hk⟩
  exact app_slice base hgd s x t e z bytes ho ht hinfo hz hb0 v n xs [y] hs ⟨g, 0, none⟩ 1 1 hx rfl
    (by intro j u hj; cases j with
      | zero => simp at hj; subst hj; simpa [Addr.add] using hc
      | succ j => simp at hj) (by intro u hu; simp at hu; subst hu; exact h1) (own_below HO hW) (Nat.le_trans hbase hW.size) hl
    fun v1 w1 hown hg => h v1 w1 hown (World.grownBy.trans hg0 hg)
end
theorem cell_drewN (W : World) (o : Obj) (n : Nat) (v : Value) (t : TypeId) : (((W.alloc o).drewN n).alloc (.cells #[v] t)).cell? ⟨W.heap.size + 1, 0, none⟩ = some v := by
  have h := heap_alloc_new ((W.alloc o).drewN n) (.cells #[v] t)
  have e : ((W.alloc o).drewN n).heap.size = W.heap.size + 1 := by show (W.alloc o).heap.size = _; simp
  rw [e] at h
  rw [cell_in h]
  rfl
theorem cell_drewN' (W : World) (v : Value) (t : TypeId) : (W.alloc (.cells #[v] t)).cell? ⟨W.heap.size, 0, none⟩ = some v := by
  rw [cell_in (heap_alloc_new W _)]
  rfl
theorem below_snoc {W0 W : World} (h : Below W0.heap.size W0 W) (o : Obj) : Below W0.heap.size W0 (W.alloc o) := h.alloc h.size o
set_option maxHeartbeats 4000000 in
set_option maxRecDepth 100000 in
theorem rvalues_any (p : Nat) (h0 : 0 < p) (pm : p ≤ 65537) (C : Cir) (I : List Nat) (hI : allLt p I = true) (hgz : ∀ k, (hk : k < C.gates.length) → gErr p I.length k C.gates[k] = 0) (hgl : C.gates.length ≤ 65536) (IA : Option Addr) (ic : Nat) (w : World) (hC : HoldsC w C) (hA : Reads w IA (uCells I)) :
    Calls Tryz.prog 18 #[.int .u64 p, .agg #[.slice C.SA C.slots.length C.sc, .slice C.GA C.gates.length C.gc, .slice C.EA C.exits.length C.ec], .slice IA I.length ic] w fun e w' => ∃ v, e = .returned v ∧ w'.ownsRow w.heap.size 22 1 v C.gates.length (uCells (valsL p I C.gates)) ∧ Below w.heap.size w w' := by
  have HGZ := Lib.hid hgz
  have HK := Lib.hid hC.k
  have HC := Lib.hid hC
  have HII := Lib.hid hI
  have HA := Lib.hid hA
  clear hgz hC hI hA
  go_enter Tryz.func18, Tryz.ntmps18
  go_wp2
  go_loopg [7, 14] C.gates.length (fun g a v wr => ∃ (k : Nat) (vv : Value), k ≤ C.gates.length ∧ g = C.gates.length - k ∧ a = vv ∧ v = .int .i64 k ∧ wr.ownsRow w.heap.size 22 1 vv k (uCells (valsL p I (C.gates.take k))) ∧ Hid (allLt p (valsL p I (C.gates.take k)) = true) ∧ Below w.heap.size w wr)
  case atStart => exact ⟨0, _, by omega, rfl, rfl, rfl, World.ownsRow_nil _ _ _ _, Lib.hid rfl, (Below.refl _ _).alloc (Nat.le_refl _) _⟩
  case round =>
    obtain ⟨k, vv, hk, rfl, rfl, rfl, hown, hal, hbel⟩ := hrel
    have HB := Lib.hid hbel; clear hbel
    have HO := Lib.hid hown; clear hown
    by_cases hlt : k < C.gates.length
    · obtain ⟨ad, had, q0, q1, q2, q3⟩ := ((HC.out.below HB.out).g).gat k hlt
      obtain ⟨VA, vc, rfl, hvr⟩ := own_reads HO.out
      have hVl := valsL_len p I C.gates k (by omega)
      have hsu := valsL_succ p I C.gates k hlt
      have hkk := HK.out _ (List.getElem_mem hlt)
      have hge := HGZ.out k hlt
      have hir := HA.out.below HB.out
      have hgv := (of_any p h0 pm I _ HII.out hal.out IA VA ic vc C.gates[k] hkk (by rw [hVl]; exact hge) wr hir hvr).1
      have HAL : Hid (allLt p (valsL p I (C.gates.take (k + 1))) = true) := Lib.hid (by rw [hsu]; exact allLt_snoc hal.out hgv)
      have hVA := all_lt hal.out
      clear hal hgv
      have hszr : w.heap.size ≤ wr.heap.size := HB.out.size
      generalize valsL p I (C.gates.take k) = V at HO hvr hVl hsu hVA
      generalize C.gates[k] = gt at q0 q1 q2 q3 hkk hge hsu
      obtain ⟨kk, a, b, K⟩ := gt
      unfold gErr at hge
      simp only at q0 q1 q2 q3 hkk hge hsu
      obtain ⟨K, rfl⟩ : ∃ x : Nat, K = x := ⟨K.toNat, by omega⟩
      have hgf := gate_fits h0 hge
      rw [had]
      clear hge hkk
      rcases hgf with ⟨rfl, rfl, hK0, ha, ha'⟩ | ⟨rfl, rfl, rfl, hKp⟩ | ⟨hk3, hK0, ha, ha', hb, hb'⟩ | ⟨rfl, rfl, ha, ha', hKp⟩
      · obtain ⟨a, rfl⟩ : ∃ x : Nat, a = x := ⟨a.toNat, by omega⟩
        have h1 : a < I.length := by omega
        have hv : gval p I V (1, (a : Int), 0, (K : Int)) = I[a] := by simp [gval, List.getElem?_eq_getElem h1]
        rw [hv] at hsu
        obtain ⟨iad, rfl, r0⟩ := (hir.below ((Below.refl _ _).alloc (Nat.le_refl _) (.cells #[.int .i64 1, .int .i64 a, .int .i64 0, .int .u64 K] 69))).u a h1
        generalize I[a] = val at hsu r0
        have HSU := Lib.hid hsu
        clear hsu hv hir hvr hVA ha ha' hK0
        have i1 : (a : Int) < (I.length : Int) := by omega
        go_wp2_with (first | (at_builtin; refine list_append_own (W0 := wr) (below_snoc (below_snoc (Below.refl _ _) _) _) w.heap.size rfl _ _ 32 22 _ 8 rfl Tryz.underlying32 infoU rfl (by decide) (.slice VA k vc) k _ (.int .u64 val) rfl _ rfl (by first | (simp; done) | exact cell_drewN _ _ _ _ _ | exact cell_drewN' _ _ _) rfl HO.out (by omega) (by omega) ?_; intro v3 w3 hown3 hg3; have HO3 := Lib.hid hown3; have HB3 := Lib.hid (HB.out.grown hg3 hszr (fun q hq => (HO.out.lt q hq).1)); clear hown3 hg3))
        rw [← had]
        go_roundg (C.gates.length - (k + 1))
        case measure => omega
        case rel => exact ⟨k + 1, _, by omega, rfl, rfl, by go_num, by rw [HSU.out]; simpa [uCells] using HO3.out, HAL.out, HB3.out⟩
      · have hv : gval p I V (2, 0, 0, (K : Int)) = K := by simp [gval]
        rw [hv] at hsu
        have HSU := Lib.hid hsu
        clear hsu hv hir hvr hVA
        go_wp2_with (first | (at_builtin; refine list_append_own (W0 := wr) (below_snoc (below_snoc (Below.refl _ _) _) _) w.heap.size rfl _ _ 32 22 _ 8 rfl Tryz.underlying32 infoU rfl (by decide) (.slice VA k vc) k _ (.int .u64 K) rfl _ rfl (by first | (simp; done) | exact cell_drewN _ _ _ _ _ | exact cell_drewN' _ _ _) rfl HO.out (by omega) (by omega) ?_; intro v3 w3 hown3 hg3; have HO3 := Lib.hid hown3; have HB3 := Lib.hid (HB.out.grown hg3 hszr (fun q hq => (HO.out.lt q hq).1)); clear hown3 hg3))
        rw [← had]
        go_roundg (C.gates.length - (k + 1))
        case measure => omega
        case rel => exact ⟨k + 1, _, by omega, rfl, rfl, by go_num, by rw [HSU.out]; simpa [uCells] using HO3.out, HAL.out, HB3.out⟩
      · obtain ⟨a, rfl⟩ : ∃ x : Nat, a = x := ⟨a.toNat, by omega⟩
        obtain ⟨b, rfl⟩ : ∃ x : Nat, b = x := ⟨b.toNat, by omega⟩
        have h1 : a < V.length := by omega
        have h2 : b < V.length := by omega
        have va := hVA a h1
        have vb := hVA b h2
        have i1 : (a : Int) < (k : Int) := by omega
        have i2 : (b : Int) < (k : Int) := by omega
        rcases hk3 with rfl | rfl | rfl
        · have hv : gval p I V (3, (a : Int), (b : Int), (K : Int)) = (V[a] + V[b]) % p := by simp [gval, List.getElem?_eq_getElem h1, List.getElem?_eq_getElem h2]
          rw [hv] at hsu
          have hrr := hvr.below ((Below.refl _ _).alloc (Nat.le_refl _) (.cells #[.int .i64 3, .int .i64 a, .int .i64 b, .int .u64 K] 69))
          obtain ⟨vad, rfl, r0⟩ := hrr.u a h1
          have r1 := hrr.some_u b h2
          have hc := fun W => radd_any p V[a] V[b] h0 pm va vb W
          generalize (V[a] + V[b]) % p = val at hsu hc
          generalize V[a] = x at r0 hc
          generalize V[b] = y at r1 hc
          have HF := Lib.hid hc
          have HSU := Lib.hid hsu
          clear hsu hv hir hvr hrr hVA hc va vb ha ha' hb hb' h1 h2 hK0
          go_wp2
          go_quiet ((exact Calls.quiet_of_same ((HF.out _).mono fun _ _ h => ⟨h.1, h.2.symm⟩)))
          go_wp2_with (first | (at_builtin; refine list_append_own (W0 := wr) (below_snoc (below_drewN (below_snoc (Below.refl _ _) _) _) _) w.heap.size rfl _ _ 32 22 _ 8 rfl Tryz.underlying32 infoU rfl (by decide) (.slice (some vad) k vc) k _ (.int .u64 val) rfl _ rfl (by first | (simp; done) | exact cell_drewN _ _ _ _ _ | exact cell_drewN' _ _ _) rfl HO.out (by omega) (by omega) ?_; intro v3 w3 hown3 hg3; have HO3 := Lib.hid hown3; have HB3 := Lib.hid (HB.out.grown hg3 hszr (fun q hq => (HO.out.lt q hq).1)); clear hown3 hg3))
          rw [← had]
          go_roundg (C.gates.length - (k + 1))
          case measure => omega
          case rel => exact ⟨k + 1, _, by omega, rfl, rfl, by go_num, by rw [HSU.out]; simpa [uCells] using HO3.out, HAL.out, HB3.out⟩
        · have hv : gval p I V (4, (a : Int), (b : Int), (K : Int)) = (V[a] + p - V[b]) % p := by simp [gval, List.getElem?_eq_getElem h1, List.getElem?_eq_getElem h2]
          rw [hv] at hsu
          have hrr := hvr.below ((Below.refl _ _).alloc (Nat.le_refl _) (.cells #[.int .i64 4, .int .i64 a, .int .i64 b, .int .u64 K] 69))
          obtain ⟨vad, rfl, r0⟩ := hrr.u a h1
          have r1 := hrr.some_u b h2
          have hc := fun W => rsub_any p V[a] V[b] h0 pm va vb W
          generalize (V[a] + p - V[b]) % p = val at hsu hc
          generalize V[a] = x at r0 hc
          generalize V[b] = y at r1 hc
          have HF := Lib.hid hc
          have HSU := Lib.hid hsu
          clear hsu hv hir hvr hrr hVA hc va vb ha ha' hb hb' h1 h2 hK0
          go_wp2
          go_quiet ((exact Calls.quiet_of_same ((HF.out _).mono fun _ _ h => ⟨h.1, h.2.symm⟩)))
          go_wp2_with (first | (at_builtin; refine list_append_own (W0 := wr) (below_snoc (below_drewN (below_snoc (Below.refl _ _) _) _) _) w.heap.size rfl _ _ 32 22 _ 8 rfl Tryz.underlying32 infoU rfl (by decide) (.slice (some vad) k vc) k _ (.int .u64 val) rfl _ rfl (by first | (simp; done) | exact cell_drewN _ _ _ _ _ | exact cell_drewN' _ _ _) rfl HO.out (by omega) (by omega) ?_; intro v3 w3 hown3 hg3; have HO3 := Lib.hid hown3; have HB3 := Lib.hid (HB.out.grown hg3 hszr (fun q hq => (HO.out.lt q hq).1)); clear hown3 hg3))
          rw [← had]
          go_roundg (C.gates.length - (k + 1))
          case measure => omega
          case rel => exact ⟨k + 1, _, by omega, rfl, rfl, by go_num, by rw [HSU.out]; simpa [uCells] using HO3.out, HAL.out, HB3.out⟩
        · have hv : gval p I V (5, (a : Int), (b : Int), (K : Int)) = V[a] * V[b] % p := by simp [gval, List.getElem?_eq_getElem h1, List.getElem?_eq_getElem h2]
          rw [hv] at hsu
          have hrr := hvr.below ((Below.refl _ _).alloc (Nat.le_refl _) (.cells #[.int .i64 5, .int .i64 a, .int .i64 b, .int .u64 K] 69))
          obtain ⟨vad, rfl, r0⟩ := hrr.u a h1
          have r1 := hrr.some_u b h2
          have hc := fun W => rmul_any p V[a] V[b] h0 pm va vb W
          generalize V[a] * V[b] % p = val at hsu hc
          generalize V[a] = x at r0 hc
          generalize V[b] = y at r1 hc
          have HF := Lib.hid hc
          have HSU := Lib.hid hsu
          clear hsu hv hir hvr hrr hVA hc va vb ha ha' hb hb' h1 h2 hK0
          go_wp2
          go_quiet ((exact Calls.quiet_of_same ((HF.out _).mono fun _ _ h => ⟨h.1, h.2.symm⟩)))
          go_wp2_with (first | (at_builtin; refine list_append_own (W0 := wr) (below_snoc (below_drewN (below_snoc (Below.refl _ _) _) _) _) w.heap.size rfl _ _ 32 22 _ 8 rfl Tryz.underlying32 infoU rfl (by decide) (.slice (some vad) k vc) k _ (.int .u64 val) rfl _ rfl (by first | (simp; done) | exact cell_drewN _ _ _ _ _ | exact cell_drewN' _ _ _) rfl HO.out (by omega) (by omega) ?_; intro v3 w3 hown3 hg3; have HO3 := Lib.hid hown3; have HB3 := Lib.hid (HB.out.grown hg3 hszr (fun q hq => (HO.out.lt q hq).1)); clear hown3 hg3))
          rw [← had]
          go_roundg (C.gates.length - (k + 1))
          case measure => omega
          case rel => exact ⟨k + 1, _, by omega, rfl, rfl, by go_num, by rw [HSU.out]; simpa [uCells] using HO3.out, HAL.out, HB3.out⟩
      · obtain ⟨a, rfl⟩ : ∃ x : Nat, a = x := ⟨a.toNat, by omega⟩
        have h1 : a < V.length := by omega
        have va := hVA a h1
        have i1 : (a : Int) < (k : Int) := by omega
        have hv : gval p I V (6, (a : Int), 0, (K : Int)) = V[a] * K % p := by simp [gval, List.getElem?_eq_getElem h1]
        rw [hv] at hsu
        have hrr := hvr.below ((Below.refl _ _).alloc (Nat.le_refl _) (.cells #[.int .i64 6, .int .i64 a, .int .i64 0, .int .u64 K] 69))
        obtain ⟨vad, rfl, r0⟩ := hrr.u a h1
        have hc := fun W => rmul_any p V[a] K h0 pm va (by omega) W
        generalize V[a] * K % p = val at hsu hc
        generalize V[a] = x at r0 hc
        have HF := Lib.hid hc
        have HSU := Lib.hid hsu
        clear hsu hv hir hvr hrr hVA hc va ha ha' h1
        go_wp2
        go_quiet ((exact Calls.quiet_of_same ((HF.out _).mono fun _ _ h => ⟨h.1, h.2.symm⟩)))
        go_wp2_with (first | (at_builtin; refine list_append_own (W0 := wr) (below_snoc (below_drewN (below_snoc (Below.refl _ _) _) _) _) w.heap.size rfl _ _ 32 22 _ 8 rfl Tryz.underlying32 infoU rfl (by decide) (.slice (some vad) k vc) k _ (.int .u64 val) rfl _ rfl (by first | (simp; done) | exact cell_drewN _ _ _ _ _ | exact cell_drewN' _ _ _) rfl HO.out (by omega) (by omega) ?_; intro v3 w3 hown3 hg3; have HO3 := Lib.hid hown3; have HB3 := Lib.hid (HB.out.grown hg3 hszr (fun q hq => (HO.out.lt q hq).1)); clear hown3 hg3))
        rw [← had]
        go_roundg (C.gates.length - (k + 1))
        case measure => omega
        case rel => exact ⟨k + 1, _, by omega, rfl, rfl, by go_num, by rw [HSU.out]; simpa [uCells] using HO3.out, HAL.out, HB3.out⟩
    · obtain rfl : k = C.gates.length := by omega
      have hO := HO.out
      rw [List.take_length] at hO
      have HO2 := Lib.hid hO; clear hO hal
      go_wp2
      go_ret
      exact ⟨_, rfl, HO2.out, HB.out⟩
end Go.Proofs.YtmnbgamnbgdnnaaGreatDoor
