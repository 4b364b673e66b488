/- Contracts and plain laws of chapter 12, merged: CkB CkC CkE CkF. -/
import Derived.Test.YtmnbgamnbgdnnaaGreatDoorMh
/- The contract of the reference's Values. -/
namespace Go.Proofs.YtmnbgamnbgdnnaaGreatDoor
open Go.RowKit

section
variable {P : Program} {ops : Array Oper} {o : Oper} {a : Act} {K : Act → World → Prop} {Q : Exit → Act → World → Prop} {E : Prop}
/-- One element is appended to a row of the call's own, in whatever world lies above. -/
theorem list_append_own {rest : List Oper} {W0 W : World} (hW : Below W0.heap.size W0 W) (base : Nat) (hgd : o.guard = none) (s x : Operand) (t e : TypeId) (z : Value) (bytes : Nat)
    (ho : o.op = .call { callee := .builtin .append, args := #[s, x], argTypes := #[t, t] })
    (ht : P.underlying t = some (.slice e)) (hinfo : (P.info? e).map (fun i => (i.zero, i.size, i.bytes)) = some (some z, 1, bytes)) (hz : z.cells.size = 1) (hb0 : 0 < bytes)
    (v : Value) (n : Nat) (xs : List Value) (y : Value) (hs : a.eval s = v) (g : Nat) (hx : a.eval x = .slice (some ⟨g, 0, none⟩) 1 1) (hc : W.cell? ⟨g, 0, none⟩ = some y) (h1 : y.oneCell' = true)
    (HO : W0.ownsRow base e 1 v n xs) (hbase : base ≤ W0.heap.size) (hl : (n + 1) * bytes ≤ 140737488355328)
    (h : ∀ v1 w1, w1.ownsRow base e 1 v1 (n + 1) (xs ++ [y]) → W0.grownBy w1 v.ownBlock → wpList P ops Q rest (a.put o.dst v1) w1) : wpList P ops Q (o :: rest) a W := by
  have hg0 : W0.grownBy W v.ownBlock := ⟨hW.os, hW.tape, hW.output, hW.size, fun k hk _ => hW.block k hk⟩
  exact app_slice base hgd s x t e z bytes ho ht hinfo hz hb0 v n xs [y] hs ⟨g, 0, none⟩ 1 1 hx rfl
    (by intro j u hj; cases j with
      | zero => simp at hj; subst hj; simpa [Addr.add] using hc
      | succ j => simp at hj) (by intro u hu; simp at hu; subst hu; exact h1) (own_below HO hW) (Nat.le_trans hbase hW.size) hl
    fun v1 w1 hown hg => h v1 w1 hown (World.grownBy.trans hg0 hg)
end
theorem cell_drewN (W : World) (o : Obj) (n : Nat) (v : Value) (t : TypeId) : (((W.alloc o).drewN n).alloc (.cells #[v] t)).cell? ⟨W.heap.size + 1, 0, none⟩ = some v := by
  have h := heap_alloc_new ((W.alloc o).drewN n) (.cells #[v] t)
  have e : ((W.alloc o).drewN n).heap.size = W.heap.size + 1 := by show (W.alloc o).heap.size = _; simp
  rw [e] at h
  rw [cell_in h]
  rfl
theorem cell_drewN' (W : World) (v : Value) (t : TypeId) : (W.alloc (.cells #[v] t)).cell? ⟨W.heap.size, 0, none⟩ = some v := by
  rw [cell_in (heap_alloc_new W _)]
  rfl
theorem below_snoc {W0 W : World} (h : Below W0.heap.size W0 W) (o : Obj) : Below W0.heap.size W0 (W.alloc o) := h.alloc h.size o
set_option maxHeartbeats 4000000 in
set_option maxRecDepth 100000 in
theorem rvalues_any (p : Nat) (h0 : 0 < p) (pm : p ≤ 65537) (C : Cir) (I : List Nat) (hI : allLt p I = true) (hgz : ∀ k, (hk : k < C.gates.length) → gErr p I.length k C.gates[k] = 0) (hgl : C.gates.length ≤ 65536) (IA : Option Addr) (ic : Nat) (w : World) (hC : HoldsC w C) (hA : Reads w IA (uCells I)) :
    Calls Tryz.prog 18 #[.int .u64 p, .agg #[.slice C.SA C.slots.length C.sc, .slice C.GA C.gates.length C.gc, .slice C.EA C.exits.length C.ec], .slice IA I.length ic] w fun e w' => ∃ v, e = .returned v ∧ w'.ownsRow w.heap.size 22 1 v C.gates.length (uCells (valsL p I C.gates)) ∧ Below w.heap.size w w' := by
  have HGZ := Lib.hid hgz
  have HK := Lib.hid hC.k
  have HC := Lib.hid hC
  have HII := Lib.hid hI
  have HA := Lib.hid hA
  clear hgz hC hI hA
  go_enter Tryz.func18, Tryz.ntmps18
  go_wp2
  go_loopg [7, 14] C.gates.length (fun g a v wr => ∃ (k : Nat) (vv : Value), k ≤ C.gates.length ∧ g = C.gates.length - k ∧ a = vv ∧ v = .int .i64 k ∧ wr.ownsRow w.heap.size 22 1 vv k (uCells (valsL p I (C.gates.take k))) ∧ Hid (allLt p (valsL p I (C.gates.take k)) = true) ∧ Below w.heap.size w wr)
  case atStart => exact ⟨0, _, by omega, rfl, rfl, rfl, World.ownsRow_nil _ _ _ _, Lib.hid rfl, (Below.refl _ _).alloc (Nat.le_refl _) _⟩
  case round =>
    obtain ⟨k, vv, hk, rfl, rfl, rfl, hown, hal, hbel⟩ := hrel
    have HB := Lib.hid hbel; clear hbel
    have HO := Lib.hid hown; clear hown
    by_cases hlt : k < C.gates.length
    · obtain ⟨ad, had, q0, q1, q2, q3⟩ := ((HC.out.below HB.out).g).gat k hlt
      obtain ⟨VA, vc, rfl, hvr⟩ := own_reads HO.out
      have hVl := valsL_len p I C.gates k (by omega)
      have hsu := valsL_succ p I C.gates k hlt
      have hkk := HK.out _ (List.getElem_mem hlt)
      have hge := HGZ.out k hlt
      have hir := HA.out.below HB.out
      have hgv := (of_any p h0 pm I _ HII.out hal.out IA VA ic vc C.gates[k] hkk (by rw [hVl]; exact hge) wr hir hvr).1
      have HAL : Hid (allLt p (valsL p I (C.gates.take (k + 1))) = true) := Lib.hid (by rw [hsu]; exact allLt_snoc hal.out hgv)
      have hVA := all_lt hal.out
      clear hal hgv
      have hszr : w.heap.size ≤ wr.heap.size := HB.out.size
      generalize valsL p I (C.gates.take k) = V at HO hvr hVl hsu hVA
      generalize C.gates[k] = gt at q0 q1 q2 q3 hkk hge hsu
      obtain ⟨kk, a, b, K⟩ := gt
      unfold gErr at hge
      simp only at q0 q1 q2 q3 hkk hge hsu
      obtain ⟨K, rfl⟩ : ∃ x : Nat, K = x := ⟨K.toNat, by omega⟩
      have hgf := gate_fits h0 hge
      rw [had]
      clear hge hkk
      rcases hgf with ⟨rfl, rfl, hK0, ha, ha'⟩ | ⟨rfl, rfl, rfl, hKp⟩ | ⟨hk3, hK0, ha, ha', hb, hb'⟩ | ⟨rfl, rfl, ha, ha', hKp⟩
      · obtain ⟨a, rfl⟩ : ∃ x : Nat, a = x := ⟨a.toNat, by omega⟩
        have h1 : a < I.length := by omega
        have hv : gval p I V (1, (a : Int), 0, (K : Int)) = I[a] := by simp [gval, List.getElem?_eq_getElem h1]
        rw [hv] at hsu
        obtain ⟨iad, rfl, r0⟩ := (hir.below ((Below.refl _ _).alloc (Nat.le_refl _) (.cells #[.int .i64 1, .int .i64 a, .int .i64 0, .int .u64 K] 69))).u a h1
        generalize I[a] = val at hsu r0
        have HSU := Lib.hid hsu
        clear hsu hv hir hvr hVA ha ha' hK0
        have i1 : (a : Int) < (I.length : Int) := by omega
        go_wp2_with (first | (at_builtin; refine list_append_own (W0 := wr) (below_snoc (below_snoc (Below.refl _ _) _) _) w.heap.size rfl _ _ 32 22 _ 8 rfl Tryz.underlying32 infoU rfl (by decide) (.slice VA k vc) k _ (.int .u64 val) rfl _ rfl (by first | (simp; done) | exact cell_drewN _ _ _ _ _ | exact cell_drewN' _ _ _) rfl HO.out (by omega) (by omega) ?_; intro v3 w3 hown3 hg3; have HO3 := Lib.hid hown3; have HB3 := Lib.hid (HB.out.grown hg3 hszr (fun q hq => (HO.out.lt q hq).1)); clear hown3 hg3))
        rw [← had]
        go_roundg (C.gates.length - (k + 1))
        case measure => omega
        case rel => exact ⟨k + 1, _, by omega, rfl, rfl, by go_num, by rw [HSU.out]; simpa [uCells] using HO3.out, HAL.out, HB3.out⟩
      · have hv : gval p I V (2, 0, 0, (K : Int)) = K := by simp [gval]
        rw [hv] at hsu
        have HSU := Lib.hid hsu
        clear hsu hv hir hvr hVA
        go_wp2_with (first | (at_builtin; refine list_append_own (W0 := wr) (below_snoc (below_snoc (Below.refl _ _) _) _) w.heap.size rfl _ _ 32 22 _ 8 rfl Tryz.underlying32 infoU rfl (by decide) (.slice VA k vc) k _ (.int .u64 K) rfl _ rfl (by first | (simp; done) | exact cell_drewN _ _ _ _ _ | exact cell_drewN' _ _ _) rfl HO.out (by omega) (by omega) ?_; intro v3 w3 hown3 hg3; have HO3 := Lib.hid hown3; have HB3 := Lib.hid (HB.out.grown hg3 hszr (fun q hq => (HO.out.lt q hq).1)); clear hown3 hg3))
        rw [← had]
        go_roundg (C.gates.length - (k + 1))
        case measure => omega
        case rel => exact ⟨k + 1, _, by omega, rfl, rfl, by go_num, by rw [HSU.out]; simpa [uCells] using HO3.out, HAL.out, HB3.out⟩
      · obtain ⟨a, rfl⟩ : ∃ x : Nat, a = x := ⟨a.toNat, by omega⟩
        obtain ⟨b, rfl⟩ : ∃ x : Nat, b = x := ⟨b.toNat, by omega⟩
        have h1 : a < V.length := by omega
        have h2 : b < V.length := by omega
        have va := hVA a h1
        have vb := hVA b h2
        have i1 : (a : Int) < (k : Int) := by omega
        have i2 : (b : Int) < (k : Int) := by omega
        rcases hk3 with rfl | rfl | rfl
        · have hv : gval p I V (3, (a : Int), (b : Int), (K : Int)) = (V[a] + V[b]) % p := by simp [gval, List.getElem?_eq_getElem h1, List.getElem?_eq_getElem h2]
          rw [hv] at hsu
          have hrr := hvr.below ((Below.refl _ _).alloc (Nat.le_refl _) (.cells #[.int .i64 3, .int .i64 a, .int .i64 b, .int .u64 K] 69))
          obtain ⟨vad, rfl, r0⟩ := hrr.u a h1
          have r1 := hrr.some_u b h2
          have hc := fun W => radd_any p V[a] V[b] h0 pm va vb W
          generalize (V[a] + V[b]) % p = val at hsu hc
          generalize V[a] = x at r0 hc
          generalize V[b] = y at r1 hc
          have HF := Lib.hid hc
          have HSU := Lib.hid hsu
          clear hsu hv hir hvr hrr hVA hc va vb ha ha' hb hb' h1 h2 hK0
          go_wp2
          go_quiet ((exact Calls.quiet_of_same ((HF.out _).mono fun _ _ h => ⟨h.1, h.2.symm⟩)))
          go_wp2_with (first | (at_builtin; refine list_append_own (W0 := wr) (below_snoc (below_drewN (below_snoc (Below.refl _ _) _) _) _) w.heap.size rfl _ _ 32 22 _ 8 rfl Tryz.underlying32 infoU rfl (by decide) (.slice (some vad) k vc) k _ (.int .u64 val) rfl _ rfl (by first | (simp; done) | exact cell_drewN _ _ _ _ _ | exact cell_drewN' _ _ _) rfl HO.out (by omega) (by omega) ?_; intro v3 w3 hown3 hg3; have HO3 := Lib.hid hown3; have HB3 := Lib.hid (HB.out.grown hg3 hszr (fun q hq => (HO.out.lt q hq).1)); clear hown3 hg3))
          rw [← had]
          go_roundg (C.gates.length - (k + 1))
          case measure => omega
          case rel => exact ⟨k + 1, _, by omega, rfl, rfl, by go_num, by rw [HSU.out]; simpa [uCells] using HO3.out, HAL.out, HB3.out⟩
        · have hv : gval p I V (4, (a : Int), (b : Int), (K : Int)) = (V[a] + p - V[b]) % p := by simp [gval, List.getElem?_eq_getElem h1, List.getElem?_eq_getElem h2]
          rw [hv] at hsu
          have hrr := hvr.below ((Below.refl _ _).alloc (Nat.le_refl _) (.cells #[.int .i64 4, .int .i64 a, .int .i64 b, .int .u64 K] 69))
          obtain ⟨vad, rfl, r0⟩ := hrr.u a h1
          have r1 := hrr.some_u b h2
          have hc := fun W => rsub_any p V[a] V[b] h0 pm va vb W
          generalize (V[a] + p - V[b]) % p = val at hsu hc
          generalize V[a] = x at r0 hc
          generalize V[b] = y at r1 hc
          have HF := Lib.hid hc
          have HSU := Lib.hid hsu
          clear hsu hv hir hvr hrr hVA hc va vb ha ha' hb hb' h1 h2 hK0
          go_wp2
          go_quiet ((exact Calls.quiet_of_same ((HF.out _).mono fun _ _ h => ⟨h.1, h.2.symm⟩)))
          go_wp2_with (first | (at_builtin; refine list_append_own (W0 := wr) (below_snoc (below_drewN (below_snoc (Below.refl _ _) _) _) _) w.heap.size rfl _ _ 32 22 _ 8 rfl Tryz.underlying32 infoU rfl (by decide) (.slice (some vad) k vc) k _ (.int .u64 val) rfl _ rfl (by first | (simp; done) | exact cell_drewN _ _ _ _ _ | exact cell_drewN' _ _ _) rfl HO.out (by omega) (by omega) ?_; intro v3 w3 hown3 hg3; have HO3 := Lib.hid hown3; have HB3 := Lib.hid (HB.out.grown hg3 hszr (fun q hq => (HO.out.lt q hq).1)); clear hown3 hg3))
          rw [← had]
          go_roundg (C.gates.length - (k + 1))
          case measure => omega
          case rel => exact ⟨k + 1, _, by omega, rfl, rfl, by go_num, by rw [HSU.out]; simpa [uCells] using HO3.out, HAL.out, HB3.out⟩
        · have hv : gval p I V (5, (a : Int), (b : Int), (K : Int)) = V[a] * V[b] % p := by simp [gval, List.getElem?_eq_getElem h1, List.getElem?_eq_getElem h2]
          rw [hv] at hsu
          have hrr := hvr.below ((Below.refl _ _).alloc (Nat.le_refl _) (.cells #[.int .i64 5, .int .i64 a, .int .i64 b, .int .u64 K] 69))
          obtain ⟨vad, rfl, r0⟩ := hrr.u a h1
          have r1 := hrr.some_u b h2
          have hc := fun W => rmul_any p V[a] V[b] h0 pm va vb W
          generalize V[a] * V[b] % p = val at hsu hc
          generalize V[a] = x at r0 hc
          generalize V[b] = y at r1 hc
          have HF := Lib.hid hc
          have HSU := Lib.hid hsu
          clear hsu hv hir hvr hrr hVA hc va vb ha ha' hb hb' h1 h2 hK0
          go_wp2
          go_quiet ((exact Calls.quiet_of_same ((HF.out _).mono fun _ _ h => ⟨h.1, h.2.symm⟩)))
          go_wp2_with (first | (at_builtin; refine list_append_own (W0 := wr) (below_snoc (below_drewN (below_snoc (Below.refl _ _) _) _) _) w.heap.size rfl _ _ 32 22 _ 8 rfl Tryz.underlying32 infoU rfl (by decide) (.slice (some vad) k vc) k _ (.int .u64 val) rfl _ rfl (by first | (simp; done) | exact cell_drewN _ _ _ _ _ | exact cell_drewN' _ _ _) rfl HO.out (by omega) (by omega) ?_; intro v3 w3 hown3 hg3; have HO3 := Lib.hid hown3; have HB3 := Lib.hid (HB.out.grown hg3 hszr (fun q hq => (HO.out.lt q hq).1)); clear hown3 hg3))
          rw [← had]
          go_roundg (C.gates.length - (k + 1))
          case measure => omega
          case rel => exact ⟨k + 1, _, by omega, rfl, rfl, by go_num, by rw [HSU.out]; simpa [uCells] using HO3.out, HAL.out, HB3.out⟩
      · obtain ⟨a, rfl⟩ : ∃ x : Nat, a = x := ⟨a.toNat, by omega⟩
        have h1 : a < V.length := by omega
        have va := hVA a h1
        have i1 : (a : Int) < (k : Int) := by omega
        have hv : gval p I V (6, (a : Int), 0, (K : Int)) = V[a] * K % p := by simp [gval, List.getElem?_eq_getElem h1]
        rw [hv] at hsu
        have hrr := hvr.below ((Below.refl _ _).alloc (Nat.le_refl _) (.cells #[.int .i64 6, .int .i64 a, .int .i64 0, .int .u64 K] 69))
        obtain ⟨vad, rfl, r0⟩ := hrr.u a h1
        have hc := fun W => rmul_any p V[a] K h0 pm va (by omega) W
        generalize V[a] * K % p = val at hsu hc
        generalize V[a] = x at r0 hc
        have HF := Lib.hid hc
        have HSU := Lib.hid hsu
        clear hsu hv hir hvr hrr hVA hc va ha ha' h1
        go_wp2
        go_quiet ((exact Calls.quiet_of_same ((HF.out _).mono fun _ _ h => ⟨h.1, h.2.symm⟩)))
        go_wp2_with (first | (at_builtin; refine list_append_own (W0 := wr) (below_snoc (below_drewN (below_snoc (Below.refl _ _) _) _) _) w.heap.size rfl _ _ 32 22 _ 8 rfl Tryz.underlying32 infoU rfl (by decide) (.slice (some vad) k vc) k _ (.int .u64 val) rfl _ rfl (by first | (simp; done) | exact cell_drewN _ _ _ _ _ | exact cell_drewN' _ _ _) rfl HO.out (by omega) (by omega) ?_; intro v3 w3 hown3 hg3; have HO3 := Lib.hid hown3; have HB3 := Lib.hid (HB.out.grown hg3 hszr (fun q hq => (HO.out.lt q hq).1)); clear hown3 hg3))
        rw [← had]
        go_roundg (C.gates.length - (k + 1))
        case measure => omega
        case rel => exact ⟨k + 1, _, by omega, rfl, rfl, by go_num, by rw [HSU.out]; simpa [uCells] using HO3.out, HAL.out, HB3.out⟩
    · obtain rfl : k = C.gates.length := by omega
      have hO := HO.out
      rw [List.take_length] at hO
      have HO2 := Lib.hid hO; clear hO hal
      go_wp2
      go_ret
      exact ⟨_, rfl, HO2.out, HB.out⟩
end Go.Proofs.YtmnbgamnbgdnnaaGreatDoor

/- The contract of the reference's Run. -/
namespace Go.Proofs.YtmnbgamnbgdnnaaGreatDoor
open Go.RowKit

section
variable {P : Program} {ops : Array Oper} {o : Oper} {a : Act} {Q : Exit → Act → World → Prop}
/-- A row is appended to a new empty one. -/
theorem list_append_clone {rest : List Oper} {W0 : World} (s x : Operand) (t e : TypeId) (z : Value) (bytes : Nat) (hgd : o.guard = none)
    (ho : o.op = .call { callee := .builtin .append, args := #[s, x], argTypes := #[t, t] })
    (ht : P.underlying t = some (.slice e)) (hinfo : (P.info? e).map (fun i => (i.zero, i.size, i.bytes)) = some (some z, 1, bytes)) (hz : z.cells.size = 1) (hb0 : 0 < bytes)
    (g : Nat) (hs : a.eval s = .slice (some ⟨g, 0, none⟩) 0 0) (hg : g = W0.heap.size) (A : Option Addr) (c : Nat) (xs : List Value) (n : Nat) (hn : xs.length = n) (hx : a.eval x = .slice A n c) (hA : Reads W0 A xs) (hc : A = none → c = 0) (h1 : ∀ u ∈ xs, u.oneCell' = true) (hl : n * bytes ≤ 140737488355328)
    (h : ∀ v1 w1, w1.ownsRow W0.heap.size e 1 v1 n xs → Below W0.heap.size W0 w1 → wpList P ops Q rest (a.put o.dst v1) w1) : wpList P ops Q (o :: rest) a (W0.alloc (.cells #[] e)) := by
  subst hg
  have hb : Below W0.heap.size W0 (W0.alloc (.cells #[] e)) := (Below.refl _ _).alloc (Nat.le_refl _) _
  cases A with
  | none =>
    obtain rfl := hc rfl
    have hxs : xs = [] := by rcases hA with h | ⟨ad, h, _⟩; exact h; cases h
    subst hxs
    obtain rfl : n = 0 := hn.symm
    obtain ⟨i0, hi, hzz⟩ := Option.map_eq_some_iff.1 hinfo
    exact wpList_append_own_none hgd s x t ho W0.heap.size e i0 1 ht hi _ 0 [] hs (own_empty W0 e) hx (h _ _ (own_empty W0 e) hb)
  | some ad =>
    have hr : ∀ j u, xs[j]? = some u → (W0.alloc (.cells #[] e)).cell? (ad.add j) = some u := reads_some hA _ hb
    refine app_slice W0.heap.size hgd s x t e z bytes ho ht hinfo hz hb0 _ 0 [] xs hs ad n c hx hn hr h1 (own_empty W0 e) (by simp) (by rw [Nat.zero_add]; exact hl) fun v1 w1 hown hg => ?_
    exact h v1 w1 (by simpa using hown) (hb.grown hg (by simp) (fun q hq => by cases hq; exact Nat.le_refl _))
end
set_option maxHeartbeats 600000 in
set_option maxRecDepth 100000 in
theorem rrun_any (p : Nat) (h0 : 0 < p) (pm : p ≤ 65537) (C : Cir) (I : List Nat) (hI : allLt p I = true) (hgz : ∀ k, (hk : k < C.gates.length) → gErr p I.length k C.gates[k] = 0) (hgt : C.gates.length ≤ 65536)
    (hgx : ∀ y ∈ C.exits, ∀ i ∈ y.gl, 0 ≤ i ∧ i < C.gates.length) (hxn : ∀ y ∈ C.exits, y.tl.length ≤ 13 ∧ y.gl.length ≤ 1024) (n3 : C.exits.length ≤ 4096) (hnil : ∀ y ∈ C.exits, y.A = none → y.c = 0)
    (IA : Option Addr) (ic : Nat) (w : World) (hC : HoldsC w C) (hA : Reads w IA (uCells I)) :
    Calls Tryz.prog 20 #[.int .u64 p, .agg #[.slice C.SA C.slots.length C.sc, .slice C.GA C.gates.length C.gc, .slice C.EA C.exits.length C.ec], .slice IA I.length ic] w fun e w' => ∃ ts v, e = .returned v ∧ ts.map Tel.l = C.exits.map (toldOf (valsL p I C.gates)) ∧ InvT w.heap.size ts v w' ∧ Below w.heap.size w w' := by
  have hb0 : Below w.heap.size w (w.alloc (.cells #[.slice C.SA C.slots.length C.sc, .slice C.GA C.gates.length C.gc, .slice C.EA C.exits.length C.ec] 27)) := (Below.refl _ _).alloc (Nat.le_refl _) _
  have hv := rvalues_any p h0 pm C I hI hgz hgt IA ic _ (hC.below hb0) (hA.below hb0)
  have HV := Lib.hid hv
  have HGL := Lib.hid hgx
  have HXN := Lib.hid hxn
  have HNIL := Lib.hid hnil
  have HC := Lib.hid (hC.below hb0)
  have hVl : (valsL p I C.gates).length = C.gates.length := by
    have := valsL_len p I C.gates C.gates.length (Nat.le_refl _)
    rw [List.take_length] at this
    exact this
  generalize valsL p I C.gates = V at *
  have HVL := Lib.hid hVl
  have N3 := Lib.hid n3
  have hv2 := HV.out.mono (R' := fun e w' => ∃ VA vc, e = .returned (.slice VA C.gates.length vc) ∧ Reads w' VA (uCells V) ∧ Below (w.alloc (.cells #[.slice C.SA C.slots.length C.sc, .slice C.GA C.gates.length C.gc, .slice C.EA C.exits.length C.ec] 27)).heap.size (w.alloc (.cells #[.slice C.SA C.slots.length C.sc, .slice C.GA C.gates.length C.gc, .slice C.EA C.exits.length C.ec] 27)) w') (by
    rintro e w1 ⟨v, rfl, hown, hb1⟩
    obtain ⟨VA, vc, rfl, hVr⟩ := own_reads hown
    exact ⟨VA, vc, rfl, hVr, hb1⟩)
  have HV2 := Lib.hid hv2
  clear hb0 hC hA hv HV hv2 hVl n3 hgx hxn hnil hI hgz
  go_enter Tryz.func20, Tryz.ntmps20
  go_wp2_with (first | (go_at_call 18; refine HV2.out.mono ?_; rintro e w1 ⟨VA, vc, rfl, hVr, hb1⟩; have c2 := hb1.cell (p := ⟨w.heap.size, 2, none⟩) (by simp); have hsz1 : w.heap.size < w1.heap.size := (by have h5 := hb1.size; simp at h5; omega); have HVR := Lib.hid hVr; clear hVr; have HB1 := Lib.hid hb1; clear hb1))
  clear c2
  go_loopg [8, 21] C.exits.length (fun g o i wr => ∃ (k : Nat) (ts : List Tel), k ≤ C.exits.length ∧ g = C.exits.length - k ∧ i = .int .i64 k ∧ ts.length = k ∧ Hid (ts.map Tel.l = (C.exits.take k).map (toldOf V)) ∧ InvT w1.heap.size ts o wr ∧ Below w1.heap.size w1 wr)
  case atStart => exact ⟨0, [], Nat.zero_le _, rfl, rfl, rfl, rfl, ⟨World.ownsRow_nil _ _ _ _, by simp⟩, Below.refl _ _⟩
  case round =>
    obtain ⟨k, ts, hk, rfl, rfl, htl, hts, hinv, hbel⟩ := hrel
    have HI := Lib.hid hinv; clear hinv
    have HB := Lib.hid hbel; clear hbel
    have hszr := HB.out.size
    obtain ⟨OA, oc, rfl, _⟩ := own_reads HI.out.1
    by_cases hlt : k < C.exits.length
    · have hCr := (HC.out.below HB1.out).below HB.out
      obtain ⟨ad, had, q0, q1⟩ := hCr.e.exi k hlt
      obtain ⟨rA, rB⟩ := hCr.x _ (List.getElem_mem hlt)
      obtain ⟨hn1, hn2⟩ := HXN.out _ (List.getElem_mem hlt)
      have hgl := HGL.out _ (List.getElem_mem hlt)
      have hnl := HNIL.out _ (List.getElem_mem hlt)
      have hsu : (C.exits.take (k + 1)).map (toldOf V) = (C.exits.take k).map (toldOf V) ++ [toldOf V C.exits[k]] := by rw [List.take_succ_eq_append_getElem hlt, List.map_append]; rfl
      rw [had]
      generalize C.exits[k] = y at q0 q1 rA rB hn1 hn2 hgl hsu hnl
      obtain ⟨tl, gl, TA, GA, tc, gc⟩ := y
      simp only at q0 q1 rA rB hn1 hn2 hgl hsu hnl
      have hbx : Below wr.heap.size wr (wr.alloc (.cells #[.slice TA tl.length tc, .slice GA gl.length gc] 72)) := (Below.refl _ _).alloc (Nat.le_refl _) _
      have hra := rA.below hbx
      have HRA := Lib.hid hra
      have HTC := Lib.hid hnl
      have HGR := Lib.hid rB
      have HBX := Lib.hid hbx
      have HGI := Lib.hid hgl
      have HSU := Lib.hid hsu
      clear hCr rA rB hgl hsu hbx hra hnl
      go_wp2_with (first | (at_builtin; (refine list_append_clone (W0 := (wr.alloc (.cells #[.slice TA tl.length tc, .slice GA gl.length gc] 72))) _ _ 61 3 _ 8 rfl rfl Tryz.underlying61 infoI rfl (by decide) _ rfl (by simp) TA tc (iCells tl) tl.length (by simp [iCells]) rfl HRA.out HTC.out (by intro u hu; simp [iCells] at hu; obtain ⟨y, _, rfl⟩ := hu; rfl) (by omega) ?_; intro v2 w2 hown2 hb2; obtain ⟨TA2, tc2, rfl, _⟩ := own_reads hown2); have hb22 := HBX.out.trans (hb2.mono HBX.out.size); have hsz2 : wr.heap.size < w2.heap.size := (by have h5 := hb2.size; simp at h5; omega); have c1 := hb2.cell (p := ⟨wr.heap.size, 1, none⟩) (by simp); simp at c1; have HO2 := Lib.hid hown2; have HB2 := Lib.hid hb22; clear hown2 hb2 hb22))
      obtain ⟨vf, hvf⟩ : ∃ vf : Int → Nat, (fun g => V.getD g.toNat 0) = vf := ⟨_, rfl⟩
      have HVF := Lib.hid hvf
      clear hvf
      go_loopg [33] gl.length (fun g i wr => ∃ (j : Nat) (v : Value), j ≤ gl.length ∧ g = gl.length - j ∧ i = .int .i64 j ∧ wr.heap[w2.heap.size]? = some (.cells #[.slice TA2 tl.length tc2, v] 75 (0, 0)) ∧ wr.ownsRow (w2.heap.size + 1) 22 1 v j (uCells ((gl.take j).map vf)) ∧ Below w2.heap.size w2 wr)
      case atStart => exact ⟨0, .slice none 0 0, Nat.zero_le _, rfl, rfl, heap_alloc_new _ _, World.ownsRow_nil _ _ _ _, (Below.refl _ _).alloc (Nat.le_refl _) _⟩
      case round =>
        obtain ⟨j, v, hj, rfl, rfl, hbox, hown, hbq⟩ := hrel
        obtain ⟨BA, bc, rfl, _⟩ := own_reads hown
        have HQ := Lib.hid hbq; clear hbq
        have HO := Lib.hid hown; clear hown
        have HX := Lib.hid hbox
        have hbs := (Array.getElem?_eq_some_iff.1 hbox).1
        have b1 : wr.cell? ⟨w2.heap.size, 1, none⟩ = some (.slice BA j bc) := by simp [World.cell?, hbox]
        clear hbox
        by_cases hjl : j < gl.length
        · have h2q := HB2.out.trans (HQ.out.mono HB2.out.size)
          obtain ⟨ga, rfl, q2⟩ := (HGR.out.below h2q).i j hjl
          have hin := HGI.out _ (List.getElem_mem hjl)
          have hsu : uCells ((gl.take (j + 1)).map vf) = uCells ((gl.take j).map vf) ++ [.int .u64 (vf gl[j])] := by rw [List.take_succ_eq_append_getElem hjl, List.map_append]; simp [uCells]
          have hvg : vf gl[j] = V.getD gl[j].toNat 0 := (congrFun HVF.out gl[j]).symm
          generalize gl[j] = gi at q2 hin hsu hvg
          obtain ⟨u, rfl⟩ : ∃ u : Nat, gi = u := ⟨gi.toNat, by omega⟩
          have huV : u < V.length := by rw [HVL.out]; omega
          obtain ⟨va, rfl, q3⟩ := (HVR.out.below (HB.out.trans (h2q.mono hszr))).u u huV
          have hve : vf u = V[u] := by rw [hvg, Int.toNat_natCast, List.getD_eq_getElem?_getD, List.getElem?_eq_getElem huV]; rfl
          rw [← hve] at q3
          have hui : (u : Int) < (C.gates.length : Int) := hin.2
          have HSUJ := Lib.hid hsu
          clear hin hsu hvg hve huV h2q
          generalize vf u = val at q3 HSUJ
          go_wp2
          go_region_law (refine step_append_own (W0 := wr) (by repeat (first | exact Below.refl _ _ | refine Below.drew ?_ | refine Below.alloc ?_ (by simp) _)) (w2.heap.size + 1) rfl _ _ 32 22 _ 8 rfl Tryz.underlying32 infoU rfl (by decide) (.slice BA j bc) j _ (.int .u64 val) rfl _ rfl (by simp) rfl HO.out (by omega) (by omega) ?_; intro v3 w3 hown3 hg3; obtain ⟨BA3, bc3, rfl, _⟩ := own_reads hown3; have hbx3 := (hg3.block w2.heap.size (by omega) (own_past HO.out (Nat.lt_succ_self _))).trans HX.out; have p1 : w3.cell? ⟨w2.heap.size, 1, none⟩ = some (.slice BA j bc) := (by simp [World.cell?, hbx3]); have p2 : w3.frozen? ⟨w2.heap.size, 1, none⟩ = false := (by simp [World.frozen?, hbx3]); have HX3 := Lib.hid hbx3; have HO3 := Lib.hid hown3; have HB3 := Lib.hid (HQ.out.grown hg3 (by omega) (fun q hq => by have h5 := (HO.out.lt q hq).1; omega)); clear hbx3 hown3 hg3)
          all_goals (try go_wp2)
          all_goals go_roundg (gl.length - (j + 1))
          all_goals first
            | omega
            | exact ⟨j + 1, .slice BA3 (j + 1) bc3, by omega, rfl, by go_num, box_set HX3.out _, by rw [HSUJ.out]; exact own_set HO3.out (Nat.lt_succ_self _) _, HB3.out.setCell (Nat.le_refl _) _⟩
        · obtain rfl : j = gl.length := by omega
          have hO := HO.out
          rw [List.take_length] at hO
          have b0 : wr.cell? ⟨w2.heap.size, 0, none⟩ = some (.slice TA2 tl.length tc2) := by simp [World.cell?, HX.out]
          have hbb := HB2.out.trans (HQ.out.mono HB2.out.size)
          have HIW := Lib.hid (HI.out.below hbb)
          have HTA := Lib.hid (own_lower (own_below HO2.out HQ.out) (show w1.heap.size ≤ _ by simp; omega))
          have HTB := Lib.hid (show wr.ownsRow w1.heap.size 22 1 (.slice BA (gl.map vf).length bc) (gl.map vf).length (uCells (gl.map vf)) from by rw [List.length_map]; exact own_lower hO (by omega))
          have HBW := Lib.hid (HB.out.trans (hbb.mono hszr))
          have hszw := HBW.out.size
          have hk13 : k ≤ 4096 := by have := N3.out; omega
          subst htl
          clear hO hbb
          go_wp2_with (first | (at_builtin; refine app_cells w1.heap.size rfl _ _ 35 75 _ 2 48 rfl Tryz.underlying35 infoTol rfl (by decide) (by decide) (.slice OA ts.length oc) ts.length _ [.slice TA2 tl.length tc2, .slice BA gl.length bc] rfl _ rfl (by simp) rfl (by intro u hu; simp at hu; rcases hu with rfl | rfl <;> rfl) HIW.out.1 (by omega) (by omega) ?_; intro v3 w3 hown3 hg3; have HI3 := Lib.hid (HIW.out.add (t := ⟨tl, gl.map vf, TA2, BA, tc2, bc⟩) HTA.out HTB.out (by simpa using hown3) hg3); have HB3 := Lib.hid (HBW.out.grown hg3 hszw (fun q hq => (HIW.out.1.lt q hq).1)); clear hown3 hg3))
          rw [← had]
          go_roundg (C.exits.length - (ts.length + 1))
          case measure => omega
          case rel => exact ⟨ts.length + 1, ts ++ [(⟨tl, gl.map vf, TA2, BA, tc2, bc⟩ : Tel)], by omega, rfl, by go_num, by simp, by rw [HSU.out, List.map_append, hts.out]; show _ ++ [(tl, gl.map vf)] = _ ++ [(tl, gl.map fun g => V.getD g.toNat 0)]; rw [HVF.out], HI3.out, HB3.out⟩
    · obtain rfl : k = C.exits.length := by omega
      have h := hts.out
      rw [List.take_length] at h
      have HT := Lib.hid h
      clear h hts
      go_wp2
      go_ret
      exact ⟨ts, _, rfl, HT.out, ⟨own_lower HI.out.1 (Nat.le_of_lt hsz1), fun t ht => ⟨own_lower (HI.out.2 t ht).1 (Nat.le_of_lt hsz1), own_lower (HI.out.2 t ht).2 (Nat.le_of_lt hsz1)⟩⟩, below_box (below_alive HB1.out HB.out)⟩
end Go.Proofs.YtmnbgamnbgdnnaaGreatDoor

/- The degrees: plain law, and the contract of the reference's Degree. -/
namespace Go.Proofs.YtmnbgamnbgdnnaaGreatDoor
open Go.RowKit

def dval (V : List Int) (g : Gat) : Int :=
  if g.1 = 1 then 1
  else if g.1 = 3 ∨ g.1 = 4 then max (V.getD g.2.1.toNat 0) (V.getD g.2.2.1.toNat 0)
  else if g.1 = 5 then min (V.getD g.2.1.toNat 0 + V.getD g.2.2.1.toNat 0) 1073741824
  else if g.1 = 6 then V.getD g.2.1.toNat 0
  else 0
def degL (l : List Gat) : List Int := l.foldl (fun V g => V ++ [dval V g]) []
theorem degL_succ (l : List Gat) (k : Nat) (h : k < l.length) : degL (l.take (k + 1)) = degL (l.take k) ++ [dval (degL (l.take k)) l[k]] := by
  unfold degL
  rw [List.take_succ_eq_append_getElem h, List.foldl_append]
  rfl
theorem degL_len (l : List Gat) : ∀ k, k ≤ l.length → (degL (l.take k)).length = k := by
  intro k
  induction k with
  | zero => intro _; rfl
  | succ k ih =>
    intro h
    rw [degL_succ l k (by omega), List.length_append, ih (by omega)]
    rfl
def DB (V : List Int) : Prop := ∀ x ∈ V, 0 ≤ x ∧ x ≤ 1073741824
theorem DB.getD {V : List Int} (h : DB V) (k : Nat) : 0 ≤ V.getD k 0 ∧ V.getD k 0 ≤ 1073741824 := by
  rw [List.getD_eq_getElem?_getD]
  cases hk : V[k]? with
  | none => simp
  | some x => exact h x (List.mem_of_getElem? hk)
theorem DB.val {V : List Int} (h : DB V) (g : Gat) : 0 ≤ dval V g ∧ dval V g ≤ 1073741824 := by
  have h1 := h.getD g.2.1.toNat
  have h2 := h.getD g.2.2.1.toNat
  unfold dval
  repeat' split
  all_goals omega
theorem DB.snoc {V : List Int} (h : DB V) (g : Gat) : DB (V ++ [dval V g]) := fun x hx => by
  rcases List.mem_append.1 hx with e | e
  · exact h x e
  · rw [List.mem_singleton.1 e]; exact h.val g
theorem iat {l : List Int} {k : Nat} (h : k < l.length) : l.getD k 0 = l[k] := by rw [List.getD_eq_getElem?_getD, List.getElem?_eq_getElem h]; rfl
set_option maxHeartbeats 4000000 in
set_option maxRecDepth 100000 in
theorem rdegree_any (p : Nat) (h0 : 0 < p) (C : Cir) (n : Int) (hgz : ∀ k, (hk : k < C.gates.length) → gErr p n k C.gates[k] = 0) (hgl : C.gates.length ≤ 65536) (w : World) (hC : HoldsC w C) :
    Calls Tryz.prog 33 #[.agg #[.slice C.SA C.slots.length C.sc, .slice C.GA C.gates.length C.gc, .slice C.EA C.exits.length C.ec]] w fun e w' => ∃ v, e = .returned v ∧ w'.ownsRow w.heap.size 3 1 v C.gates.length (iCells (degL C.gates)) ∧ Below w.heap.size w w' := by
  have HGZ := Lib.hid hgz
  have HC := Lib.hid hC
  clear hgz hC
  go_enter Tryz.func33, Tryz.ntmps33
  go_wp2
  go_loopg [3, 10] C.gates.length (fun g a v wr => ∃ (k : Nat) (vv : Value), k ≤ C.gates.length ∧ g = C.gates.length - k ∧ a = vv ∧ v = .int .i64 k ∧ wr.ownsRow w.heap.size 3 1 vv k (iCells (degL (C.gates.take k))) ∧ Hid (DB (degL (C.gates.take k))) ∧ Below w.heap.size w wr)
  case atStart => exact ⟨0, _, by omega, rfl, rfl, rfl, World.ownsRow_nil _ _ _ _, Lib.hid (fun _ h => by cases h), (Below.refl _ _).alloc (Nat.le_refl _) _⟩
  case round =>
    obtain ⟨k, vv, hk, rfl, rfl, rfl, hown, hal, hbel⟩ := hrel
    have HB := Lib.hid hbel; clear hbel
    have HO := Lib.hid hown; clear hown
    by_cases hlt : k < C.gates.length
    · obtain ⟨ad, had, q0, q1, q2, q3⟩ := ((HC.out.below HB.out).g).gat k hlt
      obtain ⟨VA, vc, rfl, hvr⟩ := own_reads HO.out
      have hVl := degL_len C.gates k (by omega)
      have hsu := degL_succ C.gates k hlt
      have hge := HGZ.out k hlt
      have HAL : Hid (DB (degL (C.gates.take (k + 1)))) := Lib.hid (by rw [hsu]; exact hal.out.snoc _)
      have hVA : DB (degL (C.gates.take k)) := hal.out
      clear hal
      have hszr : w.heap.size ≤ wr.heap.size := HB.out.size
      generalize degL (C.gates.take k) = V at HO hvr hVl hsu hVA
      generalize C.gates[k] = gt at q0 q1 q2 q3 hge hsu
      obtain ⟨kk, a, b, K⟩ := gt
      unfold gErr at hge
      simp only at q0 q1 q2 q3 hge hsu
      have hgf := gate_fits h0 hge
      rw [had]
      clear hge
      rcases hgf with ⟨rfl, rfl, hK0, ha, ha'⟩ | ⟨rfl, rfl, rfl, hKp⟩ | ⟨hk3, hK0, ha, ha', hb, hb'⟩ | ⟨rfl, rfl, ha, ha', hKp⟩
      · have hv : dval V (1, a, 0, K) = 1 := by simp [dval]
        rw [hv] at hsu
        have HSU := Lib.hid hsu
        clear hsu hv hvr hVA ha ha' hK0
        go_wp2_with (first | (at_builtin; refine list_append_own (W0 := wr) (below_snoc (below_snoc (Below.refl _ _) _) _) w.heap.size rfl _ _ 61 3 _ 8 rfl Tryz.underlying61 infoI rfl (by decide) (.slice VA k vc) k _ (.int .i64 1) rfl _ rfl (by first | (simp; done) | exact cell_drewN _ _ _ _ _ | exact cell_drewN' _ _ _) rfl HO.out (by omega) (by omega) ?_; intro v3 w3 hown3 hg3; have HO3 := Lib.hid hown3; have HB3 := Lib.hid (HB.out.grown hg3 hszr (fun q hq => (HO.out.lt q hq).1)); clear hown3 hg3))
        rw [← had]
        go_roundg (C.gates.length - (k + 1))
        case measure => omega
        case rel => exact ⟨k + 1, _, by omega, rfl, rfl, by go_num, by rw [HSU.out]; simpa [iCells] using HO3.out, HAL.out, HB3.out⟩
      · have hv : dval V (2, 0, 0, K) = 0 := by simp [dval]
        rw [hv] at hsu
        have HSU := Lib.hid hsu
        clear hsu hv hvr hVA hKp
        go_wp2_with (first | (at_builtin; refine list_append_own (W0 := wr) (below_snoc (below_snoc (Below.refl _ _) _) _) w.heap.size rfl _ _ 61 3 _ 8 rfl Tryz.underlying61 infoI rfl (by decide) (.slice VA k vc) k _ (.int .i64 0) rfl _ rfl (by first | (simp; done) | exact cell_drewN _ _ _ _ _ | exact cell_drewN' _ _ _) rfl HO.out (by omega) (by omega) ?_; intro v3 w3 hown3 hg3; have HO3 := Lib.hid hown3; have HB3 := Lib.hid (HB.out.grown hg3 hszr (fun q hq => (HO.out.lt q hq).1)); clear hown3 hg3))
        rw [← had]
        go_roundg (C.gates.length - (k + 1))
        case measure => omega
        case rel => exact ⟨k + 1, _, by omega, rfl, rfl, by go_num, by rw [HSU.out]; simpa [iCells] using HO3.out, HAL.out, HB3.out⟩
      · obtain ⟨a, rfl⟩ : ∃ x : Nat, a = x := ⟨a.toNat, by omega⟩
        obtain ⟨b, rfl⟩ : ∃ x : Nat, b = x := ⟨b.toNat, by omega⟩
        have h1 : a < V.length := by omega
        have h2 : b < V.length := by omega
        have va := hVA _ (List.getElem_mem h1)
        have vb := hVA _ (List.getElem_mem h2)
        have i1 : (a : Int) < (k : Int) := by omega
        have i2 : (b : Int) < (k : Int) := by omega
        rcases hk3 with rfl | rfl | rfl
        · have hv : dval V (3, (a : Int), (b : Int), K) = max V[a] V[b] := by simp [dval, List.getElem?_eq_getElem h1, List.getElem?_eq_getElem h2]
          rw [hv] at hsu
          have hrr := hvr.below ((Below.refl _ _).alloc (Nat.le_refl _) (.cells #[.int .i64 3, .int .i64 a, .int .i64 b, .int .u64 K] 69))
          obtain ⟨vad, rfl, r0⟩ := hrr.i a h1
          have r1 := hrr.some_i b h2
          generalize V[a] = x at r0 va hsu hv
          generalize V[b] = y at r1 vb hsu hv
          obtain ⟨val, hm⟩ : ∃ val, max x y = val := ⟨_, rfl⟩
          rw [hm] at hsu
          skip
          have HSU := Lib.hid hsu
          clear hsu hv hvr hrr hVA ha ha' hb hb' h1 h2 hK0
          go_wp2
          go_quiet (fail)
          go_wp2_with (first | (at_builtin; refine list_append_own (W0 := wr) (below_snoc (below_drewN (below_snoc (Below.refl _ _) _) _) _) w.heap.size rfl _ _ 61 3 _ 8 rfl Tryz.underlying61 infoI rfl (by decide) (.slice (some vad) k vc) k _ (.int .i64 val) rfl _ rfl (by first | (simp; done) | exact cell_drewN _ _ _ _ _ | exact cell_drewN' _ _ _) rfl HO.out (by omega) (by omega) ?_; intro v3 w3 hown3 hg3; have HO3 := Lib.hid hown3; have HB3 := Lib.hid (HB.out.grown hg3 hszr (fun q hq => (HO.out.lt q hq).1)); clear hown3 hg3))
          rw [← had]
          go_roundg (C.gates.length - (k + 1))
          case measure => omega
          case rel => exact ⟨k + 1, _, by omega, rfl, rfl, by go_num, by rw [HSU.out]; simpa [iCells] using HO3.out, HAL.out, HB3.out⟩
        · have hv : dval V (4, (a : Int), (b : Int), K) = max V[a] V[b] := by simp [dval, List.getElem?_eq_getElem h1, List.getElem?_eq_getElem h2]
          rw [hv] at hsu
          have hrr := hvr.below ((Below.refl _ _).alloc (Nat.le_refl _) (.cells #[.int .i64 4, .int .i64 a, .int .i64 b, .int .u64 K] 69))
          obtain ⟨vad, rfl, r0⟩ := hrr.i a h1
          have r1 := hrr.some_i b h2
          generalize V[a] = x at r0 va hsu hv
          generalize V[b] = y at r1 vb hsu hv
          obtain ⟨val, hm⟩ : ∃ val, max x y = val := ⟨_, rfl⟩
          rw [hm] at hsu
          skip
          have HSU := Lib.hid hsu
          clear hsu hv hvr hrr hVA ha ha' hb hb' h1 h2 hK0
          go_wp2
          go_quiet (fail)
          go_wp2_with (first | (at_builtin; refine list_append_own (W0 := wr) (below_snoc (below_drewN (below_snoc (Below.refl _ _) _) _) _) w.heap.size rfl _ _ 61 3 _ 8 rfl Tryz.underlying61 infoI rfl (by decide) (.slice (some vad) k vc) k _ (.int .i64 val) rfl _ rfl (by first | (simp; done) | exact cell_drewN _ _ _ _ _ | exact cell_drewN' _ _ _) rfl HO.out (by omega) (by omega) ?_; intro v3 w3 hown3 hg3; have HO3 := Lib.hid hown3; have HB3 := Lib.hid (HB.out.grown hg3 hszr (fun q hq => (HO.out.lt q hq).1)); clear hown3 hg3))
          rw [← had]
          go_roundg (C.gates.length - (k + 1))
          case measure => omega
          case rel => exact ⟨k + 1, _, by omega, rfl, rfl, by go_num, by rw [HSU.out]; simpa [iCells] using HO3.out, HAL.out, HB3.out⟩
        · have hv : dval V (5, (a : Int), (b : Int), K) = min (V[a] + V[b]) 1073741824 := by simp [dval, List.getElem?_eq_getElem h1, List.getElem?_eq_getElem h2]
          rw [hv] at hsu
          have hrr := hvr.below ((Below.refl _ _).alloc (Nat.le_refl _) (.cells #[.int .i64 5, .int .i64 a, .int .i64 b, .int .u64 K] 69))
          obtain ⟨vad, rfl, r0⟩ := hrr.i a h1
          have r1 := hrr.some_i b h2
          generalize V[a] = x at r0 va hsu hv
          generalize V[b] = y at r1 vb hsu hv
          obtain ⟨val, hm⟩ : ∃ val, min (x + y) 1073741824 = val := ⟨_, rfl⟩
          rw [hm] at hsu
          have hs1 : x + y ≤ 9223372036854775807 := by omega
          have hs2 : -9223372036854775808 ≤ x + y := by omega
          have HSU := Lib.hid hsu
          clear hsu hv hvr hrr hVA ha ha' hb hb' h1 h2 hK0
          go_wp2
          go_quiet (fail)
          go_wp2_with (first | (at_builtin; refine list_append_own (W0 := wr) (below_snoc (below_drewN (below_snoc (Below.refl _ _) _) _) _) w.heap.size rfl _ _ 61 3 _ 8 rfl Tryz.underlying61 infoI rfl (by decide) (.slice (some vad) k vc) k _ (.int .i64 val) rfl _ rfl (by first | (simp; done) | exact cell_drewN _ _ _ _ _ | exact cell_drewN' _ _ _) rfl HO.out (by omega) (by omega) ?_; intro v3 w3 hown3 hg3; have HO3 := Lib.hid hown3; have HB3 := Lib.hid (HB.out.grown hg3 hszr (fun q hq => (HO.out.lt q hq).1)); clear hown3 hg3))
          rw [← had]
          go_roundg (C.gates.length - (k + 1))
          case measure => omega
          case rel => exact ⟨k + 1, _, by omega, rfl, rfl, by go_num, by rw [HSU.out]; simpa [iCells] using HO3.out, HAL.out, HB3.out⟩
      · obtain ⟨a, rfl⟩ : ∃ x : Nat, a = x := ⟨a.toNat, by omega⟩
        have h1 : a < V.length := by omega
        have i1 : (a : Int) < (k : Int) := by omega
        have hv : dval V (6, (a : Int), 0, K) = V[a] := by simp [dval, List.getElem?_eq_getElem h1]
        rw [hv] at hsu
        have hrr := hvr.below ((Below.refl _ _).alloc (Nat.le_refl _) (.cells #[.int .i64 6, .int .i64 a, .int .i64 0, .int .u64 K] 69))
        obtain ⟨vad, rfl, r0⟩ := hrr.i a h1
        generalize V[a] = val at hsu r0
        have HSU := Lib.hid hsu
        clear hsu hv hvr hrr hVA ha ha' h1 hKp
        go_wp2_with (first | (at_builtin; refine list_append_own (W0 := wr) (below_snoc (below_snoc (Below.refl _ _) _) _) w.heap.size rfl _ _ 61 3 _ 8 rfl Tryz.underlying61 infoI rfl (by decide) (.slice (some vad) k vc) k _ (.int .i64 val) rfl _ rfl (by first | (simp; done) | exact cell_drewN _ _ _ _ _ | exact cell_drewN' _ _ _) rfl HO.out (by omega) (by omega) ?_; intro v3 w3 hown3 hg3; have HO3 := Lib.hid hown3; have HB3 := Lib.hid (HB.out.grown hg3 hszr (fun q hq => (HO.out.lt q hq).1)); clear hown3 hg3))
        rw [← had]
        go_roundg (C.gates.length - (k + 1))
        case measure => omega
        case rel => exact ⟨k + 1, _, by omega, rfl, rfl, by go_num, by rw [HSU.out]; simpa [iCells] using HO3.out, HAL.out, HB3.out⟩
    · obtain rfl : k = C.gates.length := by omega
      have hO := HO.out
      rw [List.take_length] at hO
      have HO2 := Lib.hid hO; clear hO hal
      go_wp2
      go_ret
      exact ⟨_, rfl, HO2.out, HB.out⟩
end Go.Proofs.YtmnbgamnbgdnnaaGreatDoor

/- The contract of circ.Degree. -/
namespace Go.Proofs.YtmnbgamnbgdnnaaGreatDoor
open Go.RowKit

def DegPost (p : Nat) (C : Cir) (w : World) (e : Ending) (w' : World) : Prop :=
  ((checkErr p C ≠ 0 ∧ e = .returned (.tuple #[.slice none 0 0, .int .i64 (checkErr p C)])) ∨
   (checkErr p C = 0 ∧ ∃ v, e = .returned (.tuple #[v, .int .i64 0]) ∧ w'.ownsRow w.heap.size 3 1 v C.gates.length (iCells (degL C.gates)))) ∧ Below w.heap.size w w'
set_option maxRecDepth 100000 in
theorem degree_bad (p : Nat) (hp : p < 18446744073709551616) (C : Cir) (w : World) (hC : HoldsC w C) (hbad : checkErr p C ≠ 0) :
    Calls Tryz.prog 32 #[.int .u64 p, .agg #[.slice C.SA C.slots.length C.sc, .slice C.GA C.gates.length C.gc, .slice C.EA C.exits.length C.ec]] w (DegPost p C w) := by
  have hb0 : Below w.heap.size w (w.alloc (.cells #[.slice C.SA C.slots.length C.sc, .slice C.GA C.gates.length C.gc, .slice C.EA C.exits.length C.ec] 27)) := (Below.refl _ _).alloc (Nat.le_refl _) _
  have hck := check_any p hp C _ (hC.below hb0)
  unfold GatePost at hck
  unfold DegPost
  generalize checkErr p C = r at *
  have HCK := Lib.hid hck
  clear hck hC hb0
  go_enter Tryz.func32, Tryz.ntmps32
  go_wp2_with (first | (go_at_call 10; refine HCK.out.mono ?_; rintro e w1 ⟨rfl, hb1⟩; have HB1 := Lib.hid hb1; clear hb1))
  go_ret2
  exact ⟨.inl ⟨hbad, rfl⟩, below_box HB1.out⟩
def pad (n : Nat) (V : List Int) : List Int := V ++ List.replicate (n - V.length) 0
theorem pad_len {n : Nat} {V : List Int} (h : V.length ≤ n) : (pad n V).length = n := by unfold pad; simp; omega
theorem pad_snoc {n : Nat} {V : List Int} (h : V.length < n) (x : Int) : pad n (V ++ [x]) = (pad n V).set V.length x := by
  unfold pad
  rw [List.set_append_right _ _ (Nat.le_refl _), Nat.sub_self, List.append_assoc]
  congr 1
  obtain ⟨m, hm⟩ : ∃ m, n - V.length = m + 1 := ⟨n - V.length - 1, by omega⟩
  rw [hm, List.replicate_succ, List.set_cons_zero]
  simp
  omega
theorem pad_at {n : Nat} {V : List Int} (k : Nat) (h : k < V.length) : (iCells (pad n V))[k]? = some (.int .i64 V[k]) := by
  unfold iCells pad
  rw [List.map_append, List.getElem?_append_left (by simpa using h)]
  simp [h]
theorem set_same' {l : List Int} {k : Nat} {x : Int} (h : l[k]? = some x) : l.set k x = l := by
  obtain ⟨h1, h2⟩ := List.getElem?_eq_some_iff.1 h
  subst h2
  exact List.set_getElem_self h1
theorem i_set (l : List Int) (k : Nat) (x : Int) : (iCells l).set k (.int .i64 x) = iCells (l.set k x) := by simp [iCells, List.map_set]
theorem pad_zero {n : Nat} {V : List Int} (h : V.length < n) : pad n (V ++ [0]) = pad n V := by
  rw [pad_snoc h]
  refine set_same' ?_
  unfold pad
  rw [List.getElem?_append_right (Nat.le_refl _), Nat.sub_self, List.getElem?_replicate]
  simp
  omega
theorem own_drew {W : World} {base : Nat} {e : TypeId} {size n : Nat} {v : Value} {xs : List Value} (h : W.ownsRow base e size v n xs) : W.drew.ownsRow base e size v n xs :=
  own_below (w1 := W.drew) h ((Below.refl W.heap.size W).drew)
theorem pad_here {n : Nat} {V : List Int} (h : V.length < n) : (iCells (pad n V))[V.length]? = some (.int .i64 0) := by
  unfold iCells pad
  rw [List.getElem?_map, List.getElem?_append_right (Nat.le_refl _), Nat.sub_self, List.getElem?_replicate, if_pos (by omega)]
  rfl
theorem made_ints (w : World) (n : Nat) (hn : n ≤ maxLen) : (w.alloc (.cells (madeCells #[.int .i64 0] (n * 1)) 3)).ownsRow w.heap.size 3 1 (.slice (some ⟨w.heap.size, 0, none⟩) n n) n (iCells (pad n [])) := by
  have e : madeCells #[.int .i64 0] (n * 1) = (iCells (pad n [])).toArray := by
    unfold madeCells iCells pad
    apply Array.ext'
    simp [List.ext_getElem_iff]
    intro i _
    simp [Nat.mod_one]
  refine ⟨by simp [iCells, pad], .inr ⟨w.heap.size, n, _, rfl, Nat.le_refl _, heap_alloc_new w _, Nat.le_refl _, hn, by simp [size_madeCells], ?_⟩⟩
  rw [e]
  simp [iCells, pad]
set_option maxHeartbeats 4000000 in
set_option maxRecDepth 100000 in
theorem degree_ok (p : Nat) (hp : p < 18446744073709551616) (C : Cir) (w : World) (hC : HoldsC w C) (hok : checkErr p C = 0) :
    Calls Tryz.prog 32 #[.int .u64 p, .agg #[.slice C.SA C.slots.length C.sc, .slice C.GA C.gates.length C.gc, .slice C.EA C.exits.length C.ec]] w (DegPost p C w) := by
  have hb0 : Below w.heap.size w (w.alloc (.cells #[.slice C.SA C.slots.length C.sc, .slice C.GA C.gates.length C.gc, .slice C.EA C.exits.length C.ec] 27)) := (Below.refl _ _).alloc (Nat.le_refl _) _
  have hck := check_any p hp C _ (hC.below hb0)
  unfold GatePost at hck
  rw [hok] at hck
  obtain ⟨k1, k2, k3⟩ := check_ok hok
  obtain ⟨p3, pm, _⟩ := (isP_iff p).1 k1
  have hgz := gatesErr_zero k3
  have HGZ := Lib.hid hgz
  have hgl : C.gates.length ≤ 65536 := by unfold tooBig at k2; omega
  have HOK := Lib.hid hok
  unfold DegPost
  have HCK := Lib.hid hck
  have HC := Lib.hid (hC.below hb0)
  have H0 : Hid (0 < p) := Lib.hid (by omega)
  clear hck hC hb0 hok k1 k2 k3 p3 pm hgz hp
  obtain ⟨i0, hi0, hzz⟩ := Option.map_eq_some_iff.1 infoI
  simp only [Prod.mk.injEq] at hzz
  obtain ⟨hz0, hz1, hz2⟩ := hzz
  have hmk : ∀ W, (Instr.makeSlice 61 (.int .i64 (C.gates.length : Int)) (.int .i64 (C.gates.length : Int))).run Tryz.prog W = .ok (.slice (some ⟨W.heap.size, 0, none⟩) C.gates.length C.gates.length) (W.alloc (.cells (madeCells #[.int .i64 0] (C.gates.length * 1)) 3)) := fun W => by
    have h := run_make (P := Tryz.prog) W 61 3 i0 _ Tryz.underlying61 hi0 hz0 .i64 .i64 (C.gates.length : Int) (C.gates.length : Int) (by omega) (by omega) (by rw [hz2]; omega) (by omega)
    rw [hz1] at h
    simpa [Value.cells] using h
  clear hz0 hz1 hz2 hi0
  go_enter Tryz.func32, Tryz.ntmps32
  go_wp2_with (first | (go_at_call 10; refine HCK.out.mono ?_; rintro e w1 ⟨rfl, hb1⟩; have c1 := hb1.cell (p := ⟨w.heap.size, 1, none⟩) (by simp); have hsz1 : w.heap.size < w1.heap.size := (by have h5 := hb1.size; simp at h5; omega); have HB1 := Lib.hid hb1; clear hb1))
  go_loopg [23] C.gates.length (fun g v wr => ∃ k : Nat, k ≤ C.gates.length ∧ g = C.gates.length - k ∧ v = .int .i64 k ∧ wr.ownsRow w1.heap.size 3 1 (.slice (some ⟨w1.heap.size, 0, none⟩) C.gates.length C.gates.length) C.gates.length (iCells (pad C.gates.length (degL (C.gates.take k)))) ∧ Hid (DB (degL (C.gates.take k))) ∧ Below w1.heap.size w1 wr)
  case atStart => exact ⟨0, by omega, rfl, rfl, by simpa [degL] using made_ints w1 C.gates.length (by unfold maxLen; omega), Lib.hid (fun _ h => by cases h), (Below.refl _ _).alloc (Nat.le_refl _) _⟩
  case round =>
    obtain ⟨k, hk, rfl, rfl, hown, hal, hbel⟩ := hrel
    have HB := Lib.hid hbel; clear hbel
    have HO := Lib.hid hown; clear hown
    by_cases hlt : k < C.gates.length
    · obtain ⟨ad, had, q0, q1, q2, q3⟩ := (((HC.out.below HB1.out).below HB.out).g).gat k hlt
      have hgl' : w1.heap.size < wr.heap.size := (HO.out.lt _ rfl).2
      have hno : ¬ w1.heap.size = wr.heap.size := by omega
      have hVl := degL_len C.gates k (by omega)
      have hsu := degL_succ C.gates k hlt
      have hge := HGZ.out k hlt
      have HAL : Hid (DB (degL (C.gates.take (k + 1)))) := Lib.hid (by rw [hsu]; exact hal.out.snoc _)
      have hVA : DB (degL (C.gates.take k)) := hal.out
      have rf := HO.out.frozenAt k
      clear hal
      generalize degL (C.gates.take k) = V at HO hVl hsu hVA
      have rk : wr.cell? ⟨w1.heap.size, k, none⟩ = some (.int .i64 0) := (HO.out.cellAt k (by omega)).trans (by have h := pad_here (n := C.gates.length) (V := V) (by omega); rw [hVl] at h; exact h)
      have hcell := fun j (hj : j < V.length) => (HO.out.cellAt j (by omega)).trans (pad_at (n := C.gates.length) j hj)
      generalize C.gates[k] = gt at q0 q1 q2 q3 hge hsu
      obtain ⟨kk, a, b, K⟩ := gt
      unfold gErr at hge
      simp only at q0 q1 q2 q3 hge hsu
      have hgf := gate_fits H0.out hge
      have HPS : Hid (∀ x, dval V (kk, a, b, K) = x → pad C.gates.length (degL (C.gates.take (k + 1))) = (pad C.gates.length V).set k x) := Lib.hid fun x hx => by rw [hsu, hx, pad_snoc (by omega), hVl]
      have HPZ : Hid (dval V (kk, a, b, K) = 0 → pad C.gates.length (degL (C.gates.take (k + 1))) = pad C.gates.length V) := Lib.hid fun hx => by rw [hsu, hx, pad_zero (by omega)]
      rw [had]
      clear hge hsu
      rcases hgf with ⟨rfl, rfl, hK0, ha, ha'⟩ | ⟨rfl, rfl, rfl, hKp⟩ | ⟨hk3, hK0, ha, ha', hb, hb'⟩ | ⟨rfl, rfl, ha, ha', hKp⟩
      · have hv : dval V (1, a, 0, K) = 1 := by simp [dval]
        clear hVA ha ha' hK0 hcell
        go_wp2
        rw [← had]
        go_roundg (C.gates.length - (k + 1))
        case measure => omega
        case rel => exact ⟨k + 1, by omega, rfl, by go_num, by rw [HPS.out 1 hv, ← i_set]; exact ((HO.out.stored k _).1).alloc _, HAL.out, (HB.out.setCell (p := ⟨w1.heap.size, k, none⟩) (by simp) _).alloc (by have h5 := HB.out.size; simpa using h5) _⟩
      · have hv : dval V (2, 0, 0, K) = 0 := by simp [dval]
        clear hVA hKp hcell
        go_wp2
        rw [← had]
        go_roundg (C.gates.length - (k + 1))
        case measure => omega
        case rel => exact ⟨k + 1, by omega, rfl, by go_num, by rw [HPZ.out hv]; exact HO.out.alloc _, HAL.out, HB.out.alloc HB.out.size _⟩
      · obtain ⟨a, rfl⟩ : ∃ x : Nat, a = x := ⟨a.toNat, by omega⟩
        obtain ⟨b, rfl⟩ : ∃ x : Nat, b = x := ⟨b.toNat, by omega⟩
        have h1 : a < V.length := by omega
        have h2 : b < V.length := by omega
        have va := hVA _ (List.getElem_mem h1)
        have vb := hVA _ (List.getElem_mem h2)
        have i1 : (a : Int) < (C.gates.length : Int) := by omega
        have i2 : (b : Int) < (C.gates.length : Int) := by omega
        have r0 := hcell a h1
        have r1 := hcell b h2
        rcases hk3 with rfl | rfl | rfl
        · have hv : dval V (3, (a : Int), (b : Int), K) = max V[a] V[b] := by simp [dval, List.getElem?_eq_getElem h1, List.getElem?_eq_getElem h2]
          generalize V[a] = x at r0 va hv
          generalize V[b] = y at r1 vb hv
          obtain ⟨val, hm⟩ : ∃ val, max x y = val := ⟨_, rfl⟩
          rw [hm] at hv
          skip
          have HV := Lib.hid hv
          clear hv hVA ha ha' hb hb' h1 h2 hK0 hcell
          go_wp2
          go_region_law fail
          all_goals (try go_wp2)
          all_goals rw [← had]
          all_goals go_roundg (C.gates.length - (k + 1))
          all_goals first
            | omega
            | exact ⟨k + 1, by omega, rfl, by go_num, by rw [HPS.out val HV.out, ← i_set]; (try simp only [hm]); exact own_drew (((HO.out.stored k _).1).alloc _), HAL.out, ((HB.out.setCell (p := ⟨w1.heap.size, k, none⟩) (by simp) _).alloc (by have h5 := HB.out.size; simpa using h5) _).drew⟩
        · have hv : dval V (4, (a : Int), (b : Int), K) = max V[a] V[b] := by simp [dval, List.getElem?_eq_getElem h1, List.getElem?_eq_getElem h2]
          generalize V[a] = x at r0 va hv
          generalize V[b] = y at r1 vb hv
          obtain ⟨val, hm⟩ : ∃ val, max x y = val := ⟨_, rfl⟩
          rw [hm] at hv
          skip
          have HV := Lib.hid hv
          clear hv hVA ha ha' hb hb' h1 h2 hK0 hcell
          go_wp2
          go_region_law fail
          all_goals (try go_wp2)
          all_goals rw [← had]
          all_goals go_roundg (C.gates.length - (k + 1))
          all_goals first
            | omega
            | exact ⟨k + 1, by omega, rfl, by go_num, by rw [HPS.out val HV.out, ← i_set]; (try simp only [hm]); exact own_drew (((HO.out.stored k _).1).alloc _), HAL.out, ((HB.out.setCell (p := ⟨w1.heap.size, k, none⟩) (by simp) _).alloc (by have h5 := HB.out.size; simpa using h5) _).drew⟩
        · have hv : dval V (5, (a : Int), (b : Int), K) = min (V[a] + V[b]) 1073741824 := by simp [dval, List.getElem?_eq_getElem h1, List.getElem?_eq_getElem h2]
          generalize V[a] = x at r0 va hv
          generalize V[b] = y at r1 vb hv
          obtain ⟨val, hm⟩ : ∃ val, min (x + y) 1073741824 = val := ⟨_, rfl⟩
          rw [hm] at hv
          have hs1 : x + y ≤ 9223372036854775807 := by omega
          have hs2 : -9223372036854775808 ≤ x + y := by omega
          have HV := Lib.hid hv
          clear hv hVA ha ha' hb hb' h1 h2 hK0 hcell
          go_wp2
          go_region_law fail
          all_goals (try go_wp2)
          all_goals rw [← had]
          all_goals go_roundg (C.gates.length - (k + 1))
          all_goals first
            | omega
            | exact ⟨k + 1, by omega, rfl, by go_num, by rw [HPS.out val HV.out, ← i_set]; (try simp only [hm]); exact own_drew (((HO.out.stored k _).1).alloc _), HAL.out, ((HB.out.setCell (p := ⟨w1.heap.size, k, none⟩) (by simp) _).alloc (by have h5 := HB.out.size; simpa using h5) _).drew⟩
      · obtain ⟨a, rfl⟩ : ∃ x : Nat, a = x := ⟨a.toNat, by omega⟩
        have h1 : a < V.length := by omega
        have i1 : (a : Int) < (C.gates.length : Int) := by omega
        have hv : dval V (6, (a : Int), 0, K) = V[a] := by simp [dval, List.getElem?_eq_getElem h1]
        have r0 := hcell a h1
        generalize V[a] = val at hv r0
        clear hVA ha ha' h1 hKp hcell
        go_wp2
        rw [← had]
        go_roundg (C.gates.length - (k + 1))
        case measure => omega
        case rel => exact ⟨k + 1, by omega, rfl, by go_num, by rw [HPS.out val hv, ← i_set]; exact ((HO.out.stored k _).1).alloc _, HAL.out, (HB.out.setCell (p := ⟨w1.heap.size, k, none⟩) (by simp) _).alloc (by have h5 := HB.out.size; simpa using h5) _⟩
    · obtain rfl : k = C.gates.length := by omega
      have hO := HO.out
      have hVl := degL_len C.gates C.gates.length (by omega)
      rw [List.take_length] at hO hVl
      have hO' : wr.ownsRow w1.heap.size 3 1 (.slice (some ⟨w1.heap.size, 0, none⟩) C.gates.length C.gates.length) C.gates.length (iCells (degL C.gates)) := by
        have e : pad C.gates.length (degL C.gates) = degL C.gates := by unfold pad; rw [hVl]; simp
        rw [e] at hO
        exact hO
      have HO2 := Lib.hid hO'; clear hO hO' hal hVl
      go_wp2
      go_ret2
      exact ⟨.inr ⟨HOK.out, _, rfl, own_lower HO2.out (by omega)⟩, below_box (below_alive HB1.out HB.out)⟩
theorem degree_any (p : Nat) (hp : p < 18446744073709551616) (C : Cir) (w : World) (hC : HoldsC w C) :
    Calls Tryz.prog 32 #[.int .u64 p, .agg #[.slice C.SA C.slots.length C.sc, .slice C.GA C.gates.length C.gc, .slice C.EA C.exits.length C.ec]] w (DegPost p C w) := by
  by_cases h : checkErr p C = 0
  · exact degree_ok p hp C w hC h
  · exact degree_bad p hp C w hC h
end Go.Proofs.YtmnbgamnbgdnnaaGreatDoor
