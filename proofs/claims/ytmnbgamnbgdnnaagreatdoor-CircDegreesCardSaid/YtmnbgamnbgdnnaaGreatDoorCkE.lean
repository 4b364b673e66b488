/- The degrees: plain law, and the contract of the reference's Degree. -/
import Derived.Test.YtmnbgamnbgdnnaaGreatDoorCkC
namespace Go.Proofs.YtmnbgamnbgdnnaaGreatDoor
open Go.RowKit

def dval (V : List Int) (g : Gat) : Int :=
  if g.1 = 1 then 1
  else if g.1 = 3 ∨ g.1 = 4 then max (V.getD g.2.1.toNat 0) (V.getD g.2.2.1.toNat 0)
  else if g.1 = 5 then min (V.getD g.2.1.toNat 0 + V.getD g.2.2.1.toNat 0) 1073741824
  else if g.1 = 6 then V.getD g.2.1.toNat 0
  else 0
def degL (l : List Gat) : List Int := l.foldl (fun V g => V ++ [dval V g]) []
theorem degL_succ (l : List Gat) (k : Nat) (h : k < l.length) : degL (l.take (k + 1)) = degL (l.take k) ++ [dval (degL (l.take k)) l[k]] := by
  unfold degL
  rw [List.take_succ_eq_append_getElem h, List.foldl_append]
  rfl
theorem degL_len (l : List Gat) : ∀ k, k ≤ l.length → (degL (l.take k)).length = k := by
  intro k
  induction k with
  | zero => intro _; rfl
  | succ k ih =>
    intro h
    rw [degL_succ l k (by omega), List.length_append, ih (by omega)]
    rfl
def DB (V : List Int) : Prop := ∀ x ∈ V, 0 ≤ x ∧ x ≤ 1073741824
theorem DB.getD {V : List Int} (h : DB V) (k : Nat) : 0 ≤ V.getD k 0 ∧ V.getD k 0 ≤ 1073741824 := by
  rw [List.getD_eq_getElem?_getD]
  cases hk : V[k]? with
  | none => simp
  | some x => exact h x (List.mem_of_getElem? hk)
theorem DB.val {V : List Int} (h : DB V) (g : Gat) : 0 ≤ dval V g ∧ dval V g ≤ 1073741824 := by
  have h1 := h.getD g.2.1.toNat
  have h2 := h.getD g.2.2.1.toNat
  unfold dval
  repeat' split
  all_goals omega
theorem DB.snoc {V : List Int} (h : DB V) (g : Gat) : DB (V ++ [dval V g]) := fun x hx => by
  rcases List.mem_append.1 hx with e | e
  · exact h x e
  · rw [List.mem_singleton.1 e]; exact h.val g
theorem iat {l : List Int} {k : Nat} (h : k < l.length) : l.getD k 0 = l[k] := by rw [List.getD_eq_getElem?_getD, List.getElem?_eq_getElem h]; rfl
set_option maxHeartbeats 4000000 in
set_option maxRecDepth 100000 in
theorem rdegree_any (p : Nat) (h0 : 0 < p) (C : Cir) (n : Int) (hgz : ∀ k, (hk : k < C.gates.length) → gErr p n k C.gates[k] = 0) (hgl : C.gates.length ≤ 65536) (w : World) (hC : HoldsC w C) :
    Calls Tryz.prog 33 #[.agg #[.slice C.SA C.slots.length C.sc, .slice C.GA C.gates.length C.gc, .slice C.EA C.exits.length C.ec]] w fun e w' => ∃ v, e = .returned v ∧ w'.ownsRow w.heap.size 3 1 v C.gates.length (iCells (degL C.gates)) ∧ Below w.heap.size w w' := by
  have HGZ := Lib.hid hgz
  have HC := Lib.hid hC
  clear hgz hC
  go_enter Tryz.func33, Tryz.ntmps33
  go_wp2
  go_loopg [3, 10] C.gates.length (fun g a v wr => ∃ (k : Nat) (vv : Value), k ≤ C.gates.length ∧ g = C.gates.length - k ∧ a = vv ∧ v = .int .i64 k ∧ wr.ownsRow w.heap.size 3 1 vv k (iCells (degL (C.gates.take k))) ∧ Hid (DB (degL (C.gates.take k))) ∧ Below w.heap.size w wr)
  case atStart => exact ⟨0, _, by omega, rfl, rfl, rfl, World.ownsRow_nil _ _ _ _, Lib.hid (fun _ h => by cases h), (Below.refl _ _).alloc (Nat.le_refl _) _⟩
  case round =>
    obtain ⟨k, vv, hk, rfl, rfl, rfl, hown, hal, hbel⟩ := hrel
    have HB := Lib.hid hbel; clear hbel
    have HO := Lib.hid hown; clear hown
    by_cases hlt : k < C.gates.length
    · obtain ⟨ad, had, q0, q1, q2, q3⟩ := ((HC.out.below HB.out).g).gat k hlt
      obtain ⟨VA, vc, rfl, hvr⟩ := own_reads HO.out
      have hVl := degL_len C.gates k (by omega)
      have hsu := degL_succ C.gates k hlt
      have hge := HGZ.out k hlt
      have HAL : Hid (DB (degL (C.gates.take (k + 1)))) := Lib.hid (by rw [hsu]; exact hal.out.snoc _)
      have hVA : DB (degL (C.gates.take k)) := hal.out
      clear hal
      have hszr : w.heap.size ≤ wr.heap.size := HB.out.size
      generalize degL (C.gates.take k) = V at HO hvr hVl hsu hVA
      generalize C.gates[k] = gt at q0 q1 q2 q3 hge hsu
      obtain ⟨kk, a, b, K⟩ := gt
      unfold gErr at hge
      simp only at q0 q1 q2 q3 hge hsu
      have hgf := gate_fits h0 hge
      rw [had]
      clear hge
      rcases hgf with ⟨rfl, rfl, hK0, ha, ha'⟩ | ⟨rfl, rfl, rfl, hKp⟩ | ⟨hk3, hK0, ha, ha', hb, hb'⟩ | ⟨rfl, rfl, ha, ha', hKp⟩
      · have hv : dval V (1, a, 0, K) = 1 := by simp [dval]
        rw [hv] at hsu
        have HSU := Lib.hid hsu
        clear hsu hv hvr hVA ha ha' hK0
        go_wp2_with (first | (at_builtin; refine list_append_own (W0 := wr) (below_snoc (below_snoc (Below.refl _ _) _) _) w.heap.size rfl _ _ 61 3 _ 8 rfl Tryz.underlying61 infoI rfl (by decide) (.slice VA k vc) k _ (.int .i64 1) rfl _ rfl (by first | (simp; done) | exact cell_drewN _ _ _ _ _ | exact cell_drewN' _ _ _) rfl HO.out (by omega) (by omega) ?_; intro v3 w3 hown3 hg3; have HO3 := Lib.hid hown3; have HB3 := Lib.hid (HB.out.grown hg3 hszr (fun q hq => (HO.out.lt q hq).1)); clear hown3 hg3))
        rw [← had]
        go_roundg (C.gates.length - (k + 1))
        case measure => omega
        case rel => exact ⟨k + 1, _, by omega, rfl, rfl, by go_num, by rw [HSU.out]; simpa [iCells] using HO3.out, HAL.out, HB3.out⟩
      · have hv : dval V (2, 0, 0, K) = 0 := by simp [dval]
        rw [hv] at hsu
        have HSU := Lib.hid hsu
        clear hsu hv hvr hVA hKp
        go_wp2_with (first | (at_builtin; refine list_append_own (W0 := wr) (below_snoc (below_snoc (Below.refl _ _) _) _) w.heap.size rfl _ _ 61 3 _ 8 rfl Tryz.underlying61 infoI rfl (by decide) (.slice VA k vc) k _ (.int .i64 0) rfl _ rfl (by first | (simp; done) | exact cell_drewN _ _ _ _ _ | exact cell_drewN' _ _ _) rfl HO.out (by omega) (by omega) ?_; intro v3 w3 hown3 hg3; have HO3 := Lib.hid hown3; have HB3 := Lib.hid (HB.out.grown hg3 hszr (fun q hq => (HO.out.lt q hq).1)); clear hown3 hg3))
        rw [← had]
        go_roundg (C.gates.length - (k + 1))
        case measure => omega
        case rel => exact ⟨k + 1, _, by omega, rfl, rfl, by go_num, by rw [HSU.out]; simpa [iCells] using HO3.out, HAL.out, HB3.out⟩
      · obtain ⟨a, rfl⟩ : ∃ x : Nat, a = x := ⟨a.toNat, by omega⟩
        obtain ⟨b, rfl⟩ : ∃ x : Nat, b = x := ⟨b.toNat, by omega⟩
        have h1 : a < V.length := by omega
        have h2 : b < V.length := by omega
        have va := hVA _ (List.getElem_mem h1)
        have vb := hVA _ (List.getElem_mem h2)
        have i1 : (a : Int) < (k : Int) := by omega
        have i2 : (b : Int) < (k : Int) := by omega
        rcases hk3 with rfl | rfl | rfl
        · have hv : dval V (3, (a : Int), (b : Int), K) = max V[a] V[b] := by simp [dval, List.getElem?_eq_getElem h1, List.getElem?_eq_getElem h2]
          rw [hv] at hsu
          have hrr := hvr.below ((Below.refl _ _).alloc (Nat.le_refl _) (.cells #[.int .i64 3, .int .i64 a, .int .i64 b, .int .u64 K] 69))
          obtain ⟨vad, rfl, r0⟩ := hrr.i a h1
          have r1 := hrr.some_i b h2
          generalize V[a] = x at r0 va hsu hv
          generalize V[b] = y at r1 vb hsu hv
          obtain ⟨val, hm⟩ : ∃ val, max x y = val := ⟨_, rfl⟩
          rw [hm] at hsu
          skip
          have HSU := Lib.hid hsu
          clear hsu hv hvr hrr hVA ha ha' hb hb' h1 h2 hK0
          go_wp2
          go_quiet (fail)
          go_wp2_with (first | (at_builtin; refine list_append_own (W0 := wr) (below_snoc (below_drewN (below_snoc (Below.refl _ _) _) _) _) w.heap.size rfl _ _ 61 3 _ 8 rfl Tryz.underlying61 infoI rfl (by decide) (.slice (some vad) k vc) k _ (.int .i64 val) rfl _ rfl (by first | (simp; done) | exact cell_drewN _ _ _ _ _ | exact cell_drewN' _ _ _) rfl HO.out (by omega) (by omega) ?_; intro v3 w3 hown3 hg3; have HO3 := Lib.hid hown3; have HB3 := Lib.hid (HB.out.grown hg3 hszr (fun q hq => (HO.out.lt q hq).1)); clear hown3 hg3))
          rw [← had]
          go_roundg (C.gates.length - (k + 1))
          case measure => omega
          case rel => exact ⟨k + 1, _, by omega, rfl, rfl, by go_num, by rw [HSU.out]; simpa [iCells] using HO3.out, HAL.out, HB3.out⟩
        · have hv : dval V (4, (a : Int), (b : Int), K) = max V[a] V[b] := by simp [dval, List.getElem?_eq_getElem h1, List.getElem?_eq_getElem h2]
          rw [hv] at hsu
          have hrr := hvr.below ((Below.refl _ _).alloc (Nat.le_refl _) (.cells #[.int .i64 4, .int .i64 a, .int .i64 b, .int .u64 K] 69))
          obtain ⟨vad, rfl, r0⟩ := hrr.i a h1
          have r1 := hrr.some_i b h2
          generalize V[a] = x at r0 va hsu hv
          generalize V[b] = y at r1 vb hsu hv
          obtain ⟨val, hm⟩ : ∃ val, max x y = val := ⟨_, rfl⟩
          rw [hm] at hsu
          skip
          have HSU := Lib.hid hsu
          clear hsu hv hvr hrr hVA ha ha' hb hb' h1 h2 hK0
          go_wp2
          go_quiet (fail)
          go_wp2_with (first | (at_builtin; refine list_append_own (W0 := wr) (below_snoc (below_drewN (below_snoc (Below.refl _ _) _) _) _) w.heap.size rfl _ _ 61 3 _ 8 rfl Tryz.underlying61 infoI rfl (by decide) (.slice (some vad) k vc) k _ (.int .i64 val) rfl _ rfl (by first | (simp; done) | exact cell_drewN _ _ _ _ _ | exact cell_drewN' _ _ _) rfl HO.out (by omega) (by omega) ?_; intro v3 w3 hown3 hg3; have HO3 := Lib.hid hown3; have HB3 := Lib.hid (HB.out.grown hg3 hszr (fun q hq => (HO.out.lt q hq).1)); clear hown3 hg3))
          rw [← had]
          go_roundg (C.gates.length - (k + 1))
          case measure => omega
          case rel => exact ⟨k + 1, _, by omega, rfl, rfl, by go_num, by rw [HSU.out]; simpa [iCells] using HO3.out, HAL.out, HB3.out⟩
        · have hv : dval V (5, (a : Int), (b : Int), K) = min (V[a] + V[b]) 1073741824 := by simp [dval, List.getElem?_eq_getElem h1, List.getElem?_eq_getElem h2]
          rw [hv] at hsu
          have hrr := hvr.below ((Below.refl _ _).alloc (Nat.le_refl _) (.cells #[.int .i64 5, .int .i64 a, .int .i64 b, .int .u64 K] 69))
          obtain ⟨vad, rfl, r0⟩ := hrr.i a h1
          have r1 := hrr.some_i b h2
          generalize V[a] = x at r0 va hsu hv
          generalize V[b] = y at r1 vb hsu hv
          obtain ⟨val, hm⟩ : ∃ val, min (x + y) 1073741824 = val := ⟨_, rfl⟩
          rw [hm] at hsu
          have hs1 : x + y ≤ 9223372036854775807 := by omega
          have hs2 : -9223372036854775808 ≤ x + y := by omega
          have HSU := Lib.hid hsu
          clear hsu hv hvr hrr hVA ha ha' hb hb' h1 h2 hK0
          go_wp2
          go_quiet (fail)
          go_wp2_with (first | (at_builtin; refine list_append_own (W0 := wr) (below_snoc (below_drewN (below_snoc (Below.refl _ _) _) _) _) w.heap.size rfl _ _ 61 3 _ 8 rfl Tryz.underlying61 infoI rfl (by decide) (.slice (some vad) k vc) k _ (.int .i64 val) rfl _ rfl (by first | (simp; done) | exact cell_drewN _ _ _ _ _ | exact cell_drewN' _ _ _) rfl HO.out (by omega) (by omega) ?_; intro v3 w3 hown3 hg3; have HO3 := Lib.hid hown3; have HB3 := Lib.hid (HB.out.grown hg3 hszr (fun q hq => (HO.out.lt q hq).1)); clear hown3 hg3))
          rw [← had]
          go_roundg (C.gates.length - (k + 1))
          case measure => omega
          case rel => exact ⟨k + 1, _, by omega, rfl, rfl, by go_num, by rw [HSU.out]; simpa [iCells] using HO3.out, HAL.out, HB3.out⟩
      · obtain ⟨a, rfl⟩ : ∃ x : Nat, a = x := ⟨a.toNat, by omega⟩
        have h1 : a < V.length := by omega
        have i1 : (a : Int) < (k : Int) := by omega
        have hv : dval V (6, (a : Int), 0, K) = V[a] := by simp [dval, List.getElem?_eq_getElem h1]
        rw [hv] at hsu
        have hrr := hvr.below ((Below.refl _ _).alloc (Nat.le_refl _) (.cells #[.int .i64 6, .int .i64 a, .int .i64 0, .int .u64 K] 69))
        obtain ⟨vad, rfl, r0⟩ := hrr.i a h1
        generalize V[a] = val at hsu r0
        have HSU := Lib.hid hsu
        clear hsu hv hvr hrr hVA ha ha' h1 hKp
        go_wp2_with (first | (at_builtin; refine list_append_own (W0 := wr) (below_snoc (below_snoc (Below.refl _ _) _) _) w.heap.size rfl _ _ 61 3 _ 8 rfl Tryz.underlying61 infoI rfl (by decide) (.slice (some vad) k vc) k _ (.int .i64 val) rfl _ rfl (by first | (simp; done) | exact cell_drewN _ _ _ _ _ | exact cell_drewN' _ _ _) rfl HO.out (by omega) (by omega) ?_; intro v3 w3 hown3 hg3; have HO3 := Lib.hid hown3; have HB3 := Lib.hid (HB.out.grown hg3 hszr (fun q hq => (HO.out.lt q hq).1)); clear hown3 hg3))
        rw [← had]
        go_roundg (C.gates.length - (k + 1))
        case measure => omega
        case rel => exact ⟨k + 1, _, by omega, rfl, rfl, by go_num, by rw [HSU.out]; simpa [iCells] using HO3.out, HAL.out, HB3.out⟩
    · obtain rfl : k = C.gates.length := by omega
      have hO := HO.out
      rw [List.take_length] at hO
      have HO2 := Lib.hid hO; clear hO hal
      go_wp2
      go_ret
      exact ⟨_, rfl, HO2.out, HB.out⟩
end Go.Proofs.YtmnbgamnbgdnnaaGreatDoor
