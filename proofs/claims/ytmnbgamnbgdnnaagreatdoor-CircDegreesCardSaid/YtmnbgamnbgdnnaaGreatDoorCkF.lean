/- The contract of circ.Degree. -/
import Derived.Test.YtmnbgamnbgdnnaaGreatDoorCkE
namespace Go.Proofs.YtmnbgamnbgdnnaaGreatDoor
open Go.RowKit

def DegPost (p : Nat) (C : Cir) (w : World) (e : Ending) (w' : World) : Prop :=
  ((checkErr p C ≠ 0 ∧ e = .returned (.tuple #[.slice none 0 0, .int .i64 (checkErr p C)])) ∨
   (checkErr p C = 0 ∧ ∃ v, e = .returned (.tuple #[v, .int .i64 0]) ∧ w'.ownsRow w.heap.size 3 1 v C.gates.length (iCells (degL C.gates)))) ∧ Below w.heap.size w w'
set_option maxRecDepth 100000 in
theorem degree_bad (p : Nat) (hp : p < 18446744073709551616) (C : Cir) (w : World) (hC : HoldsC w C) (hbad : checkErr p C ≠ 0) :
    Calls Tryz.prog 32 #[.int .u64 p, .agg #[.slice C.SA C.slots.length C.sc, .slice C.GA C.gates.length C.gc, .slice C.EA C.exits.length C.ec]] w (DegPost p C w) := by
  have hb0 : Below w.heap.size w (w.alloc (.cells #[.slice C.SA C.slots.length C.sc, .slice C.GA C.gates.length C.gc, .slice C.EA C.exits.length C.ec] 27)) := (Below.refl _ _).alloc (Nat.le_refl _) _
  have hck := check_any p hp C _ (hC.below hb0)
  unfold GatePost at hck
  unfold DegPost
  generalize checkErr p C = r at *
  have HCK := Lib.hid hck
  clear hck hC hb0
  go_enter Tryz.func32, Tryz.ntmps32
  go_wp2_with (first | (go_at_call 10; refine HCK.out.mono ?_; rintro e w1 ⟨rfl, hb1⟩; have HB1 := Lib.hid hb1; clear hb1))
  go_ret2
  exact ⟨.inl ⟨hbad, rfl⟩, below_box HB1.out⟩
def pad (n : Nat) (V : List Int) : List Int := V ++ List.replicate (n - V.length) 0
theorem pad_len {n : Nat} {V : List Int} (h : V.length ≤ n) : (pad n V).length = n := by unfold pad; simp; omega
theorem pad_snoc {n : Nat} {V : List Int} (h : V.length < n) (x : Int) : pad n (V ++ [x]) = (pad n V).set V.length x := by
  unfold pad
  rw [List.set_append_right _ _ (Nat.le_refl _), Nat.sub_self, List.append_assoc]
  congr 1
  obtain ⟨m, hm⟩ : ∃ m, n - V.length = m + 1 := ⟨n - V.length - 1, by omega⟩
  rw [hm, List.replicate_succ, List.set_cons_zero]
  simp
  omega
theorem pad_at {n : Nat} {V : List Int} (k : Nat) (h : k < V.length) : (iCells (pad n V))[k]? = some (.int .i64 V[k]) := by
  unfold iCells pad
  rw [List.map_append, List.getElem?_append_left (by simpa using h)]
  simp [h]
theorem set_same' {l : List Int} {k : Nat} {x : Int} (h : l[k]? = some x) : l.set k x = l := by
  obtain ⟨h1, h2⟩ := List.getElem?_eq_some_iff.1 h
  subst h2
  exact List.set_getElem_self h1
theorem i_set (l : List Int) (k : Nat) (x : Int) : (iCells l).set k (.int .i64 x) = iCells (l.set k x) := by simp [iCells, List.map_set]
theorem pad_zero {n : Nat} {V : List Int} (h : V.length < n) : pad n (V ++ [0]) = pad n V := by
  rw [pad_snoc h]
  refine set_same' ?_
  unfold pad
  rw [List.getElem?_append_right (Nat.le_refl _), Nat.sub_self, List.getElem?_replicate]
  simp
  omega
theorem own_drew {W : World} {base : Nat} {e : TypeId} {size n : Nat} {v : Value} {xs : List Value} (h : W.ownsRow base e size v n xs) : W.drew.ownsRow base e size v n xs :=
  own_below (w1 := W.drew) h ((Below.refl W.heap.size W).drew)
theorem pad_here {n : Nat} {V : List Int} (h : V.length < n) : (iCells (pad n V))[V.length]? = some (.int .i64 0) := by
  unfold iCells pad
  rw [List.getElem?_map, List.getElem?_append_right (Nat.le_refl _), Nat.sub_self, List.getElem?_replicate, if_pos (by omega)]
  rfl
theorem made_ints (w : World) (n : Nat) (hn : n ≤ maxLen) : (w.alloc (.cells (madeCells #[.int .i64 0] (n * 1)) 3)).ownsRow w.heap.size 3 1 (.slice (some ⟨w.heap.size, 0, none⟩) n n) n (iCells (pad n [])) := by
  have e : madeCells #[.int .i64 0] (n * 1) = (iCells (pad n [])).toArray := by
    unfold madeCells iCells pad
    apply Array.ext'
    simp [List.ext_getElem_iff]
    intro i _
    simp [Nat.mod_one]
  refine ⟨by simp [iCells, pad], .inr ⟨w.heap.size, n, _, rfl, Nat.le_refl _, heap_alloc_new w _, Nat.le_refl _, hn, by simp [size_madeCells], ?_⟩⟩
  rw [e]
  simp [iCells, pad]
set_option maxHeartbeats 4000000 in
set_option maxRecDepth 100000 in
theorem degree_ok (p : Nat) (hp : p < 18446744073709551616) (C : Cir) (w : World) (hC : HoldsC w C) (hok : checkErr p C = 0) :
    Calls Tryz.prog 32 #[.int .u64 p, .agg #[.slice C.SA C.slots.length C.sc, .slice C.GA C.gates.length C.gc, .slice C.EA C.exits.length C.ec]] w (DegPost p C w) := by
  have hb0 : Below w.heap.size w (w.alloc (.cells #[.slice C.SA C.slots.length C.sc, .slice C.GA C.gates.length C.gc, .slice C.EA C.exits.length C.ec] 27)) := (Below.refl _ _).alloc (Nat.le_refl _) _
  have hck := check_any p hp C _ (hC.below hb0)
  unfold GatePost at hck
  rw [hok] at hck
  obtain ⟨k1, k2, k3⟩ := check_ok hok
  obtain ⟨p3, pm, _⟩ := (isP_iff p).1 k1
  have hgz := gatesErr_zero k3
  have HGZ := Lib.hid hgz
  have hgl : C.gates.length ≤ 65536 := by unfold tooBig at k2; omega
  have HOK := Lib.hid hok
  unfold DegPost
  have HCK := Lib.hid hck
  have HC := Lib.hid (hC.below hb0)
  have H0 : Hid (0 < p) := Lib.hid (by omega)
  clear hck hC hb0 hok k1 k2 k3 p3 pm hgz hp
  obtain ⟨i0, hi0, hzz⟩ := Option.map_eq_some_iff.1 infoI
  simp only [Prod.mk.injEq] at hzz
  obtain ⟨hz0, hz1, hz2⟩ := hzz
  have hmk : ∀ W, (Instr.makeSlice 61 (.int .i64 (C.gates.length : Int)) (.int .i64 (C.gates.length : Int))).run Tryz.prog W = .ok (.slice (some ⟨W.heap.size, 0, none⟩) C.gates.length C.gates.length) (W.alloc (.cells (madeCells #[.int .i64 0] (C.gates.length * 1)) 3)) := fun W => by
    have h := run_make (P := Tryz.prog) W 61 3 i0 _ Tryz.underlying61 hi0 hz0 .i64 .i64 (C.gates.length : Int) (C.gates.length : Int) (by omega) (by omega) (by rw [hz2]; omega) (by omega)
    rw [hz1] at h
    simpa [Value.cells] using h
  clear hz0 hz1 hz2 hi0
  go_enter Tryz.func32, Tryz.ntmps32
  go_wp2_with (first | (go_at_call 10; refine HCK.out.mono ?_; rintro e w1 ⟨rfl, hb1⟩; have c1 := hb1.cell (p := ⟨w.heap.size, 1, none⟩) (by simp); have hsz1 : w.heap.size < w1.heap.size := (by have h5 := hb1.size; simp at h5; omega); have HB1 := Lib.hid hb1; clear hb1))
  go_loopg [23] C.gates.length (fun g v wr => ∃ k : Nat, k ≤ C.gates.length ∧ g = C.gates.length - k ∧ v = .int .i64 k ∧ wr.ownsRow w1.heap.size 3 1 (.slice (some ⟨w1.heap.size, 0, none⟩) C.gates.length C.gates.length) C.gates.length (iCells (pad C.gates.length (degL (C.gates.take k)))) ∧ Hid (DB (degL (C.gates.take k))) ∧ Below w1.heap.size w1 wr)
  case atStart => exact ⟨0, by omega, rfl, rfl, by simpa [degL] using made_ints w1 C.gates.length (by unfold maxLen; omega), Lib.hid (fun _ h => by cases h), (Below.refl _ _).alloc (Nat.le_refl _) _⟩
  case round =>
    obtain ⟨k, hk, rfl, rfl, hown, hal, hbel⟩ := hrel
    have HB := Lib.hid hbel; clear hbel
    have HO := Lib.hid hown; clear hown
    by_cases hlt : k < C.gates.length
    · obtain ⟨ad, had, q0, q1, q2, q3⟩ := (((HC.out.below HB1.out).below HB.out).g).gat k hlt
      have hgl' : w1.heap.size < wr.heap.size := (HO.out.lt _ rfl).2
      have hno : ¬ w1.heap.size = wr.heap.size := by omega
      have hVl := degL_len C.gates k (by omega)
      have hsu := degL_succ C.gates k hlt
      have hge := HGZ.out k hlt
      have HAL : Hid (DB (degL (C.gates.take (k + 1)))) := Lib.hid (by rw [hsu]; exact hal.out.snoc _)
      have hVA : DB (degL (C.gates.take k)) := hal.out
      have rf := HO.out.frozenAt k
      clear hal
      generalize degL (C.gates.take k) = V at HO hVl hsu hVA
      have rk : wr.cell? ⟨w1.heap.size, k, none⟩ = some (.int .i64 0) := (HO.out.cellAt k (by omega)).trans (by have h := pad_here (n := C.gates.length) (V := V) (by omega); rw [hVl] at h; exact h)
      have hcell := fun j (hj : j < V.length) => (HO.out.cellAt j (by omega)).trans (pad_at (n := C.gates.length) j hj)
      generalize C.gates[k] = gt at q0 q1 q2 q3 hge hsu
      obtain ⟨kk, a, b, K⟩ := gt
      unfold gErr at hge
      simp only at q0 q1 q2 q3 hge hsu
      have hgf := gate_fits H0.out hge
      have HPS : Hid (∀ x, dval V (kk, a, b, K) = x → pad C.gates.length (degL (C.gates.take (k + 1))) = (pad C.gates.length V).set k x) := Lib.hid fun x hx => by rw [hsu, hx, pad_snoc (by omega), hVl]
      have HPZ : Hid (dval V (kk, a, b, K) = 0 → pad C.gates.length (degL (C.gates.take (k + 1))) = pad C.gates.length V) := Lib.hid fun hx => by rw [hsu, hx, pad_zero (by omega)]
      rw [had]
      clear hge hsu
      rcases hgf with ⟨rfl, rfl, hK0, ha, ha'⟩ | ⟨rfl, rfl, rfl, hKp⟩ | ⟨hk3, hK0, ha, ha', hb, hb'⟩ | ⟨rfl, rfl, ha, ha', hKp⟩
      · have hv : dval V (1, a, 0, K) = 1 := by simp [dval]
        clear hVA ha ha' hK0 hcell
        go_wp2
        rw [← had]
        go_roundg (C.gates.length - (k + 1))
        case measure => omega
        case rel => exact ⟨k + 1, by omega, rfl, by go_num, by rw [HPS.out 1 hv, ← i_set]; exact ((HO.out.stored k _).1).alloc _, HAL.out, (HB.out.setCell (p := ⟨w1.heap.size, k, none⟩) (by simp) _).alloc (by have h5 := HB.out.size; simpa using h5) _⟩
      · have hv : dval V (2, 0, 0, K) = 0 := by simp [dval]
        clear hVA hKp hcell
        go_wp2
        rw [← had]
        go_roundg (C.gates.length - (k + 1))
        case measure => omega
        case rel => exact ⟨k + 1, by omega, rfl, by go_num, by rw [HPZ.out hv]; exact HO.out.alloc _, HAL.out, HB.out.alloc HB.out.size _⟩
      · obtain ⟨a, rfl⟩ : ∃ x : Nat, a = x := ⟨a.toNat, by omega⟩
        obtain ⟨b, rfl⟩ : ∃ x : Nat, b = x := ⟨b.toNat, by omega⟩
        have h1 : a < V.length := by omega
        have h2 : b < V.length := by omega
        have va := hVA _ (List.getElem_mem h1)
        have vb := hVA _ (List.getElem_mem h2)
        have i1 : (a : Int) < (C.gates.length : Int) := by omega
        have i2 : (b : Int) < (C.gates.length : Int) := by omega
        have r0 := hcell a h1
        have r1 := hcell b h2
        rcases hk3 with rfl | rfl | rfl
        · have hv : dval V (3, (a : Int), (b : Int), K) = max V[a] V[b] := by simp [dval, List.getElem?_eq_getElem h1, List.getElem?_eq_getElem h2]
          generalize V[a] = x at r0 va hv
          generalize V[b] = y at r1 vb hv
          obtain ⟨val, hm⟩ : ∃ val, max x y = val := ⟨_, rfl⟩
          rw [hm] at hv
          skip
          have HV := Lib.hid hv
          clear hv hVA ha ha' hb hb' h1 h2 hK0 hcell
          go_wp2
          go_region_law fail
          all_goals (try go_wp2)
          all_goals rw [← had]
          all_goals go_roundg (C.gates.length - (k + 1))
          all_goals first
            | omega
            | exact ⟨k + 1, by omega, rfl, by go_num, by rw [HPS.out val HV.out, ← i_set]; (try simp only [hm]); exact own_drew (((HO.out.stored k _).1).alloc _), HAL.out, ((HB.out.setCell (p := ⟨w1.heap.size, k, none⟩) (by simp) _).alloc (by have h5 := HB.out.size; simpa using h5) _).drew⟩
        · have hv : dval V (4, (a : Int), (b : Int), K) = max V[a] V[b] := by simp [dval, List.getElem?_eq_getElem h1, List.getElem?_eq_getElem h2]
          generalize V[a] = x at r0 va hv
          generalize V[b] = y at r1 vb hv
          obtain ⟨val, hm⟩ : ∃ val, max x y = val := ⟨_, rfl⟩
          rw [hm] at hv
          skip
          have HV := Lib.hid hv
          clear hv hVA ha ha' hb hb' h1 h2 hK0 hcell
          go_wp2
          go_region_law fail
          all_goals (try go_wp2)
          all_goals rw [← had]
          all_goals go_roundg (C.gates.length - (k + 1))
          all_goals first
            | omega
            | exact ⟨k + 1, by omega, rfl, by go_num, by rw [HPS.out val HV.out, ← i_set]; (try simp only [hm]); exact own_drew (((HO.out.stored k _).1).alloc _), HAL.out, ((HB.out.setCell (p := ⟨w1.heap.size, k, none⟩) (by simp) _).alloc (by have h5 := HB.out.size; simpa using h5) _).drew⟩
        · have hv : dval V (5, (a : Int), (b : Int), K) = min (V[a] + V[b]) 1073741824 := by simp [dval, List.getElem?_eq_getElem h1, List.getElem?_eq_getElem h2]
          generalize V[a] = x at r0 va hv
          generalize V[b] = y at r1 vb hv
          obtain ⟨val, hm⟩ : ∃ val, min (x + y) 1073741824 = val := ⟨_, rfl⟩
          rw [hm] at hv
          have hs1 : x + y ≤ 9223372036854775807 := by omega
          have hs2 : -9223372036854775808 ≤ x + y := by omega
          have HV := Lib.hid hv
          clear hv hVA ha ha' hb hb' h1 h2 hK0 hcell
          go_wp2
          go_region_law fail
          all_goals (try go_wp2)
          all_goals rw [← had]
          all_goals go_roundg (C.gates.length - (k + 1))
          all_goals first
            | omega
            | exact ⟨k + 1, by omega, rfl, by go_num, by rw [HPS.out val HV.out, ← i_set]; (try simp only [hm]); exact own_drew (((HO.out.stored k _).1).alloc _), HAL.out, ((HB.out.setCell (p := ⟨w1.heap.size, k, none⟩) (by simp) _).alloc (by have h5 := HB.out.size; simpa using h5) _).drew⟩
      · obtain ⟨a, rfl⟩ : ∃ x : Nat, a = x := ⟨a.toNat, by omega⟩
        have h1 : a < V.length := by omega
        have i1 : (a : Int) < (C.gates.length : Int) := by omega
        have hv : dval V (6, (a : Int), 0, K) = V[a] := by simp [dval, List.getElem?_eq_getElem h1]
        have r0 := hcell a h1
        generalize V[a] = val at hv r0
        clear hVA ha ha' h1 hKp hcell
        go_wp2
        rw [← had]
        go_roundg (C.gates.length - (k + 1))
        case measure => omega
        case rel => exact ⟨k + 1, by omega, rfl, by go_num, by rw [HPS.out val hv, ← i_set]; exact ((HO.out.stored k _).1).alloc _, HAL.out, (HB.out.setCell (p := ⟨w1.heap.size, k, none⟩) (by simp) _).alloc (by have h5 := HB.out.size; simpa using h5) _⟩
    · obtain rfl : k = C.gates.length := by omega
      have hO := HO.out
      have hVl := degL_len C.gates C.gates.length (by omega)
      rw [List.take_length] at hO hVl
      have hO' : wr.ownsRow w1.heap.size 3 1 (.slice (some ⟨w1.heap.size, 0, none⟩) C.gates.length C.gates.length) C.gates.length (iCells (degL C.gates)) := by
        have e : pad C.gates.length (degL C.gates) = degL C.gates := by unfold pad; rw [hVl]; simp
        rw [e] at hO
        exact hO
      have HO2 := Lib.hid hO'; clear hO hO' hal hVl
      go_wp2
      go_ret2
      exact ⟨.inr ⟨HOK.out, _, rfl, own_lower HO2.out (by omega)⟩, below_box (below_alive HB1.out HB.out)⟩
theorem degree_any (p : Nat) (hp : p < 18446744073709551616) (C : Cir) (w : World) (hC : HoldsC w C) :
    Calls Tryz.prog 32 #[.int .u64 p, .agg #[.slice C.SA C.slots.length C.sc, .slice C.GA C.gates.length C.gc, .slice C.EA C.exits.length C.ec]] w (DegPost p C w) := by
  by_cases h : checkErr p C = 0
  · exact degree_ok p hp C w hC h
  · exact degree_bad p hp C w hC h
end Go.Proofs.YtmnbgamnbgdnnaaGreatDoor
