/- Contract of the reference's gateOf. (Printed by wip/tools/gen_rgate4.py.) -/
import Derived.Test.YtmnbgamnbgdnnaaGreatDoorReG
import Derived.Deep.RegionHeld3
namespace Go.Proofs.YtmnbgamnbgdnnaaGreatDoor
open Go.RowKit

set_option maxHeartbeats 4000000 in
set_option maxRecDepth 100000 in
theorem rgate_g0 (s : Bs) (hs : s.length ≤ 4194304) (w : World) (t : List Bs) (hc : cut 32 s = kwIn :: t) (a : Nat)  (hns : allOf valOf t = some [a]) :
    Calls Tryz.prog 68 #[.string ⟨s.toArray⟩] w (GatePostR (some (1, (a : Int), 0, 0)) w) := by
  have hlen : t.length ≤ 4194304 := by
    have := cut_len 32 s
    rw [hc, List.length_cons] at this
    have : s.count 32 ≤ s.length := List.count_le_length
    omega
  have hsp := parts_any s hs (w.alloc (.cells #[.int .i64 0, .int .i64 0, .int .i64 0, .int .u64 0] 69))
  rw [hc] at hsp
  have HSP : Hid (Calls Tryz.prog 93 #[.string ⟨s.toArray⟩] (w.alloc (.cells #[.int .i64 0, .int .i64 0, .int .i64 0, .int .u64 0] 69)) (HeadPost kwIn t (w.alloc (.cells #[.int .i64 0, .int .i64 0, .int .i64 0, .int .u64 0] 69)))) := Lib.hid (hsp.mono (by rintro e w' ⟨v, rfl, k⟩; exact head_of k))
  have HSZ0 := Lib.hid (show (w.alloc (.cells #[.int .i64 0, .int .i64 0, .int .i64 0, .int .u64 0] 69)).heap.size = w.heap.size + 1 by simp)
  have HW0 : Hid (Below w.heap.size w (w.alloc (.cells #[.int .i64 0, .int .i64 0, .int .i64 0, .int .u64 0] 69))) := Lib.hid ((Below.refl _ _).alloc (Nat.le_refl _) _)
  have HBOX : Hid ((w.alloc (.cells #[.int .i64 0, .int .i64 0, .int .i64 0, .int .u64 0] 69)).heap[w.heap.size]? = some (.cells #[.int .i64 0, .int .i64 0, .int .i64 0, .int .u64 0] 69 (0, 0))) := Lib.hid (by have h5 := heap_alloc_new w (.cells #[.int .i64 0, .int .i64 0, .int .i64 0, .int .u64 0] 69); simpa using h5)
  have hS : ∀ x ∈ t, x.length ≤ 281474976710656 := fun x hx => by
    have h1 := cut_part 32 s x (by rw [hc]; exact List.mem_cons_of_mem _ hx)
    omega
  have hn := fun ad c W hw => rvals_any' t hlen hS ad c W hw
  rw [hns] at hn
  have HN := Lib.hid hn
  clear hsp hn hc hns hs hlen hS
  have hkw : (⟨kwIn.toArray⟩ : ByteArray) = ⟨#[105, 110]⟩ := rfl
  go_enter Tryz.func68, Tryz.ntmps68
  go_wp2_with (first | (go_at_call 93; refine HSP.out.mono ?_; rintro e w1 ⟨g, c, rfl, hcap, z1, hw1, hb1⟩; have hN : w.heap.size < w1.heap.size := (by have h5 := hb1.size; have h6 := HSZ0.out; omega); have hno : ¬ w.heap.size = w1.heap.size := Nat.ne_of_lt hN; have HB1 := Lib.hid (HW0.out.trans (hb1.mono (by have h6 := HSZ0.out; omega))); rw [hkw] at z1; have HZ := Lib.hid z1; have HW := Lib.hid hw1; have hsl := (fun W => run_behind g t.length c hcap W); have HCAP := Lib.hid (show t.length ≤ c - 1 by omega); have h7 := gate_facts ((hb1.block _ (by have h6 := HSZ0.out; omega)).trans HBOX.out); have Q := Lib.hid h7; clear hb1 hw1 hcap z1 h7 HSZ0 HW0 HBOX; generalize behind g c = ad at HW hsl) | (go_at_call 95; refine (HN.out _ _ _ HW.out).mono ?_; rintro e w2 ⟨hb2, A, vc, rfl, hv⟩; have z0 := (hb2.cell (World.block_lt_of_cell? _ _ HZ.out)).trans HZ.out; have r0 := (hb2.cell (p := ⟨w.heap.size, 0, none⟩) hN).trans Q.out.1; have r1 := (hb2.cell (p := ⟨w.heap.size, 1, none⟩) hN).trans Q.out.2.1; have r2 := (hb2.cell (p := ⟨w.heap.size, 2, none⟩) hN).trans Q.out.2.2.1; have r3 := (hb2.cell (p := ⟨w.heap.size, 3, none⟩) hN).trans Q.out.2.2.2.1; have f0 := (hb2.frozen (p := ⟨w.heap.size, 0, none⟩) hN).trans Q.out.2.2.2.2.1; have f1 := (hb2.frozen (p := ⟨w.heap.size, 1, none⟩) hN).trans Q.out.2.2.2.2.2.1; have f2 := (hb2.frozen (p := ⟨w.heap.size, 2, none⟩) hN).trans Q.out.2.2.2.2.2.2.1; have f3 := (hb2.frozen (p := ⟨w.heap.size, 3, none⟩) hN).trans Q.out.2.2.2.2.2.2.2; have HB2 := Lib.hid (HB1.out.trans (hb2.mono (by omega))); clear Q HW HZ hsl hb2; obtain ⟨gA, rfl, p0⟩ := hv 0 (by simp); simp only [List.getElem_cons_zero] at p0; clear hv))
  all_goals (try simp only [Exit.inBlock, Exit.then])
  all_goals refine bodyPost_ret (v := .tuple #[.agg #[.int .i64 1, .int .i64 a, .int .i64 0, .int .u64 0], .bool true]) ?_ rfl ⟨?_, rfl⟩
  all_goals first
    | (rw [results_cell_tmp rfl]; go_simp; done)
    | (have hw := HB2.out; repeat (first | exact hw | refine Below.drew ?_ | refine below_drewN ?_ _ | refine Below.alloc ?_ (by first | omega | (simp; omega)) _ | refine Below.setCell ?_ (by simp) _))
set_option maxHeartbeats 4000000 in
set_option maxRecDepth 100000 in
theorem rgate_g1 (s : Bs) (hs : s.length ≤ 4194304) (w : World) (t : List Bs) (hc : cut 32 s = kwConst :: t) (a : Nat) (hk : IntKind.u64.wrap (a : Int) = a) (hns : allOf valOf t = some [a]) :
    Calls Tryz.prog 68 #[.string ⟨s.toArray⟩] w (GatePostR (some (2, 0, 0, (a : Int))) w) := by
  have hlen : t.length ≤ 4194304 := by
    have := cut_len 32 s
    rw [hc, List.length_cons] at this
    have : s.count 32 ≤ s.length := List.count_le_length
    omega
  have hsp := parts_any s hs (w.alloc (.cells #[.int .i64 0, .int .i64 0, .int .i64 0, .int .u64 0] 69))
  rw [hc] at hsp
  have HSP : Hid (Calls Tryz.prog 93 #[.string ⟨s.toArray⟩] (w.alloc (.cells #[.int .i64 0, .int .i64 0, .int .i64 0, .int .u64 0] 69)) (HeadPost kwConst t (w.alloc (.cells #[.int .i64 0, .int .i64 0, .int .i64 0, .int .u64 0] 69)))) := Lib.hid (hsp.mono (by rintro e w' ⟨v, rfl, k⟩; exact head_of k))
  have HSZ0 := Lib.hid (show (w.alloc (.cells #[.int .i64 0, .int .i64 0, .int .i64 0, .int .u64 0] 69)).heap.size = w.heap.size + 1 by simp)
  have HW0 : Hid (Below w.heap.size w (w.alloc (.cells #[.int .i64 0, .int .i64 0, .int .i64 0, .int .u64 0] 69))) := Lib.hid ((Below.refl _ _).alloc (Nat.le_refl _) _)
  have HBOX : Hid ((w.alloc (.cells #[.int .i64 0, .int .i64 0, .int .i64 0, .int .u64 0] 69)).heap[w.heap.size]? = some (.cells #[.int .i64 0, .int .i64 0, .int .i64 0, .int .u64 0] 69 (0, 0))) := Lib.hid (by have h5 := heap_alloc_new w (.cells #[.int .i64 0, .int .i64 0, .int .i64 0, .int .u64 0] 69); simpa using h5)
  have hS : ∀ x ∈ t, x.length ≤ 281474976710656 := fun x hx => by
    have h1 := cut_part 32 s x (by rw [hc]; exact List.mem_cons_of_mem _ hx)
    omega
  have hn := fun ad c W hw => rvals_any' t hlen hS ad c W hw
  rw [hns] at hn
  have HN := Lib.hid hn
  clear hsp hn hc hns hs hlen hS
  have hkw : (⟨kwConst.toArray⟩ : ByteArray) = ⟨#[99, 111, 110, 115, 116]⟩ := rfl
  go_enter Tryz.func68, Tryz.ntmps68
  go_wp2_with (first | (go_at_call 93; refine HSP.out.mono ?_; rintro e w1 ⟨g, c, rfl, hcap, z1, hw1, hb1⟩; have hN : w.heap.size < w1.heap.size := (by have h5 := hb1.size; have h6 := HSZ0.out; omega); have hno : ¬ w.heap.size = w1.heap.size := Nat.ne_of_lt hN; have HB1 := Lib.hid (HW0.out.trans (hb1.mono (by have h6 := HSZ0.out; omega))); rw [hkw] at z1; have HZ := Lib.hid z1; have HW := Lib.hid hw1; have hsl := (fun W => run_behind g t.length c hcap W); have HCAP := Lib.hid (show t.length ≤ c - 1 by omega); have h7 := gate_facts ((hb1.block _ (by have h6 := HSZ0.out; omega)).trans HBOX.out); have Q := Lib.hid h7; clear hb1 hw1 hcap z1 h7 HSZ0 HW0 HBOX; generalize behind g c = ad at HW hsl) | (go_at_call 95; refine (HN.out _ _ _ HW.out).mono ?_; rintro e w2 ⟨hb2, A, vc, rfl, hv⟩; have z0 := (hb2.cell (World.block_lt_of_cell? _ _ HZ.out)).trans HZ.out; have r0 := (hb2.cell (p := ⟨w.heap.size, 0, none⟩) hN).trans Q.out.1; have r1 := (hb2.cell (p := ⟨w.heap.size, 1, none⟩) hN).trans Q.out.2.1; have r2 := (hb2.cell (p := ⟨w.heap.size, 2, none⟩) hN).trans Q.out.2.2.1; have r3 := (hb2.cell (p := ⟨w.heap.size, 3, none⟩) hN).trans Q.out.2.2.2.1; have f0 := (hb2.frozen (p := ⟨w.heap.size, 0, none⟩) hN).trans Q.out.2.2.2.2.1; have f1 := (hb2.frozen (p := ⟨w.heap.size, 1, none⟩) hN).trans Q.out.2.2.2.2.2.1; have f2 := (hb2.frozen (p := ⟨w.heap.size, 2, none⟩) hN).trans Q.out.2.2.2.2.2.2.1; have f3 := (hb2.frozen (p := ⟨w.heap.size, 3, none⟩) hN).trans Q.out.2.2.2.2.2.2.2; have HB2 := Lib.hid (HB1.out.trans (hb2.mono (by omega))); clear Q HW HZ hsl hb2; obtain ⟨gA, rfl, p0⟩ := hv 0 (by simp); simp only [List.getElem_cons_zero] at p0; clear hv))
  all_goals (try simp only [Exit.inBlock, Exit.then])
  all_goals refine bodyPost_ret (v := .tuple #[.agg #[.int .i64 2, .int .i64 0, .int .i64 0, .int .u64 a], .bool true]) ?_ rfl ⟨?_, rfl⟩
  all_goals first
    | (rw [results_cell_tmp rfl]; go_simp; done)
    | (have hw := HB2.out; repeat (first | exact hw | refine Below.drew ?_ | refine below_drewN ?_ _ | refine Below.alloc ?_ (by first | omega | (simp; omega)) _ | refine Below.setCell ?_ (by simp) _))
set_option maxHeartbeats 4000000 in
set_option maxRecDepth 100000 in
theorem rgate_g2 (s : Bs) (hs : s.length ≤ 4194304) (w : World) (t : List Bs) (hc : cut 32 s = kwAdd :: t) (a : Nat) (b : Nat)  (hns : allOf valOf t = some [a, b]) :
    Calls Tryz.prog 68 #[.string ⟨s.toArray⟩] w (GatePostR (some (3, (a : Int), (b : Int), 0)) w) := by
  have hlen : t.length ≤ 4194304 := by
    have := cut_len 32 s
    rw [hc, List.length_cons] at this
    have : s.count 32 ≤ s.length := List.count_le_length
    omega
  have hsp := parts_any s hs (w.alloc (.cells #[.int .i64 0, .int .i64 0, .int .i64 0, .int .u64 0] 69))
  rw [hc] at hsp
  have HSP : Hid (Calls Tryz.prog 93 #[.string ⟨s.toArray⟩] (w.alloc (.cells #[.int .i64 0, .int .i64 0, .int .i64 0, .int .u64 0] 69)) (HeadPost kwAdd t (w.alloc (.cells #[.int .i64 0, .int .i64 0, .int .i64 0, .int .u64 0] 69)))) := Lib.hid (hsp.mono (by rintro e w' ⟨v, rfl, k⟩; exact head_of k))
  have HSZ0 := Lib.hid (show (w.alloc (.cells #[.int .i64 0, .int .i64 0, .int .i64 0, .int .u64 0] 69)).heap.size = w.heap.size + 1 by simp)
  have HW0 : Hid (Below w.heap.size w (w.alloc (.cells #[.int .i64 0, .int .i64 0, .int .i64 0, .int .u64 0] 69))) := Lib.hid ((Below.refl _ _).alloc (Nat.le_refl _) _)
  have HBOX : Hid ((w.alloc (.cells #[.int .i64 0, .int .i64 0, .int .i64 0, .int .u64 0] 69)).heap[w.heap.size]? = some (.cells #[.int .i64 0, .int .i64 0, .int .i64 0, .int .u64 0] 69 (0, 0))) := Lib.hid (by have h5 := heap_alloc_new w (.cells #[.int .i64 0, .int .i64 0, .int .i64 0, .int .u64 0] 69); simpa using h5)
  have hS : ∀ x ∈ t, x.length ≤ 281474976710656 := fun x hx => by
    have h1 := cut_part 32 s x (by rw [hc]; exact List.mem_cons_of_mem _ hx)
    omega
  have hn := fun ad c W hw => rvals_any' t hlen hS ad c W hw
  rw [hns] at hn
  have HN := Lib.hid hn
  clear hsp hn hc hns hs hlen hS
  have hkw : (⟨kwAdd.toArray⟩ : ByteArray) = ⟨#[97, 100, 100]⟩ := rfl
  go_enter Tryz.func68, Tryz.ntmps68
  go_wp2_with (first | (go_at_call 93; refine HSP.out.mono ?_; rintro e w1 ⟨g, c, rfl, hcap, z1, hw1, hb1⟩; have hN : w.heap.size < w1.heap.size := (by have h5 := hb1.size; have h6 := HSZ0.out; omega); have hno : ¬ w.heap.size = w1.heap.size := Nat.ne_of_lt hN; have HB1 := Lib.hid (HW0.out.trans (hb1.mono (by have h6 := HSZ0.out; omega))); rw [hkw] at z1; have HZ := Lib.hid z1; have HW := Lib.hid hw1; have hsl := (fun W => run_behind g t.length c hcap W); have HCAP := Lib.hid (show t.length ≤ c - 1 by omega); have h7 := gate_facts ((hb1.block _ (by have h6 := HSZ0.out; omega)).trans HBOX.out); have Q := Lib.hid h7; clear hb1 hw1 hcap z1 h7 HSZ0 HW0 HBOX; generalize behind g c = ad at HW hsl) | (go_at_call 95; refine (HN.out _ _ _ HW.out).mono ?_; rintro e w2 ⟨hb2, A, vc, rfl, hv⟩; have z0 := (hb2.cell (World.block_lt_of_cell? _ _ HZ.out)).trans HZ.out; have r0 := (hb2.cell (p := ⟨w.heap.size, 0, none⟩) hN).trans Q.out.1; have r1 := (hb2.cell (p := ⟨w.heap.size, 1, none⟩) hN).trans Q.out.2.1; have r2 := (hb2.cell (p := ⟨w.heap.size, 2, none⟩) hN).trans Q.out.2.2.1; have r3 := (hb2.cell (p := ⟨w.heap.size, 3, none⟩) hN).trans Q.out.2.2.2.1; have f0 := (hb2.frozen (p := ⟨w.heap.size, 0, none⟩) hN).trans Q.out.2.2.2.2.1; have f1 := (hb2.frozen (p := ⟨w.heap.size, 1, none⟩) hN).trans Q.out.2.2.2.2.2.1; have f2 := (hb2.frozen (p := ⟨w.heap.size, 2, none⟩) hN).trans Q.out.2.2.2.2.2.2.1; have f3 := (hb2.frozen (p := ⟨w.heap.size, 3, none⟩) hN).trans Q.out.2.2.2.2.2.2.2; have HB2 := Lib.hid (HB1.out.trans (hb2.mono (by omega))); clear Q HW HZ hsl hb2; obtain ⟨gA, rfl, p0⟩ := hv 0 (by simp); obtain ⟨gB, eB, p1⟩ := hv 1 (by simp); cases eB; simp only [List.getElem_cons_zero, List.getElem_cons_succ] at p0 p1; clear hv))
  go_region_law fail
  all_goals (try go_wp2)
  all_goals (try simp only [Exit.inBlock, Exit.then])
  all_goals refine bodyPost_ret (v := .tuple #[.agg #[.int .i64 3, .int .i64 a, .int .i64 b, .int .u64 0], .bool true]) ?_ rfl ⟨?_, rfl⟩
  all_goals first
    | (rw [results_cell_tmp rfl]; go_simp; done)
    | (have hw := HB2.out; repeat (first | exact hw | refine Below.drew ?_ | refine below_drewN ?_ _ | refine Below.alloc ?_ (by first | omega | (simp; omega)) _ | refine Below.setCell ?_ (by simp) _))
set_option maxHeartbeats 4000000 in
set_option maxRecDepth 100000 in
theorem rgate_g3 (s : Bs) (hs : s.length ≤ 4194304) (w : World) (t : List Bs) (hc : cut 32 s = kwSub :: t) (a : Nat) (b : Nat)  (hns : allOf valOf t = some [a, b]) :
    Calls Tryz.prog 68 #[.string ⟨s.toArray⟩] w (GatePostR (some (4, (a : Int), (b : Int), 0)) w) := by
  have hlen : t.length ≤ 4194304 := by
    have := cut_len 32 s
    rw [hc, List.length_cons] at this
    have : s.count 32 ≤ s.length := List.count_le_length
    omega
  have hsp := parts_any s hs (w.alloc (.cells #[.int .i64 0, .int .i64 0, .int .i64 0, .int .u64 0] 69))
  rw [hc] at hsp
  have HSP : Hid (Calls Tryz.prog 93 #[.string ⟨s.toArray⟩] (w.alloc (.cells #[.int .i64 0, .int .i64 0, .int .i64 0, .int .u64 0] 69)) (HeadPost kwSub t (w.alloc (.cells #[.int .i64 0, .int .i64 0, .int .i64 0, .int .u64 0] 69)))) := Lib.hid (hsp.mono (by rintro e w' ⟨v, rfl, k⟩; exact head_of k))
  have HSZ0 := Lib.hid (show (w.alloc (.cells #[.int .i64 0, .int .i64 0, .int .i64 0, .int .u64 0] 69)).heap.size = w.heap.size + 1 by simp)
  have HW0 : Hid (Below w.heap.size w (w.alloc (.cells #[.int .i64 0, .int .i64 0, .int .i64 0, .int .u64 0] 69))) := Lib.hid ((Below.refl _ _).alloc (Nat.le_refl _) _)
  have HBOX : Hid ((w.alloc (.cells #[.int .i64 0, .int .i64 0, .int .i64 0, .int .u64 0] 69)).heap[w.heap.size]? = some (.cells #[.int .i64 0, .int .i64 0, .int .i64 0, .int .u64 0] 69 (0, 0))) := Lib.hid (by have h5 := heap_alloc_new w (.cells #[.int .i64 0, .int .i64 0, .int .i64 0, .int .u64 0] 69); simpa using h5)
  have hS : ∀ x ∈ t, x.length ≤ 281474976710656 := fun x hx => by
    have h1 := cut_part 32 s x (by rw [hc]; exact List.mem_cons_of_mem _ hx)
    omega
  have hn := fun ad c W hw => rvals_any' t hlen hS ad c W hw
  rw [hns] at hn
  have HN := Lib.hid hn
  clear hsp hn hc hns hs hlen hS
  have hkw : (⟨kwSub.toArray⟩ : ByteArray) = ⟨#[115, 117, 98]⟩ := rfl
  go_enter Tryz.func68, Tryz.ntmps68
  go_wp2_with (first | (go_at_call 93; refine HSP.out.mono ?_; rintro e w1 ⟨g, c, rfl, hcap, z1, hw1, hb1⟩; have hN : w.heap.size < w1.heap.size := (by have h5 := hb1.size; have h6 := HSZ0.out; omega); have hno : ¬ w.heap.size = w1.heap.size := Nat.ne_of_lt hN; have HB1 := Lib.hid (HW0.out.trans (hb1.mono (by have h6 := HSZ0.out; omega))); rw [hkw] at z1; have HZ := Lib.hid z1; have HW := Lib.hid hw1; have hsl := (fun W => run_behind g t.length c hcap W); have HCAP := Lib.hid (show t.length ≤ c - 1 by omega); have h7 := gate_facts ((hb1.block _ (by have h6 := HSZ0.out; omega)).trans HBOX.out); have Q := Lib.hid h7; clear hb1 hw1 hcap z1 h7 HSZ0 HW0 HBOX; generalize behind g c = ad at HW hsl) | (go_at_call 95; refine (HN.out _ _ _ HW.out).mono ?_; rintro e w2 ⟨hb2, A, vc, rfl, hv⟩; have z0 := (hb2.cell (World.block_lt_of_cell? _ _ HZ.out)).trans HZ.out; have r0 := (hb2.cell (p := ⟨w.heap.size, 0, none⟩) hN).trans Q.out.1; have r1 := (hb2.cell (p := ⟨w.heap.size, 1, none⟩) hN).trans Q.out.2.1; have r2 := (hb2.cell (p := ⟨w.heap.size, 2, none⟩) hN).trans Q.out.2.2.1; have r3 := (hb2.cell (p := ⟨w.heap.size, 3, none⟩) hN).trans Q.out.2.2.2.1; have f0 := (hb2.frozen (p := ⟨w.heap.size, 0, none⟩) hN).trans Q.out.2.2.2.2.1; have f1 := (hb2.frozen (p := ⟨w.heap.size, 1, none⟩) hN).trans Q.out.2.2.2.2.2.1; have f2 := (hb2.frozen (p := ⟨w.heap.size, 2, none⟩) hN).trans Q.out.2.2.2.2.2.2.1; have f3 := (hb2.frozen (p := ⟨w.heap.size, 3, none⟩) hN).trans Q.out.2.2.2.2.2.2.2; have HB2 := Lib.hid (HB1.out.trans (hb2.mono (by omega))); clear Q HW HZ hsl hb2; obtain ⟨gA, rfl, p0⟩ := hv 0 (by simp); obtain ⟨gB, eB, p1⟩ := hv 1 (by simp); cases eB; simp only [List.getElem_cons_zero, List.getElem_cons_succ] at p0 p1; clear hv))
  go_region_law fail
  all_goals (try go_wp2)
  all_goals (try simp only [Exit.inBlock, Exit.then])
  all_goals refine bodyPost_ret (v := .tuple #[.agg #[.int .i64 4, .int .i64 a, .int .i64 b, .int .u64 0], .bool true]) ?_ rfl ⟨?_, rfl⟩
  all_goals first
    | (rw [results_cell_tmp rfl]; go_simp; done)
    | (have hw := HB2.out; repeat (first | exact hw | refine Below.drew ?_ | refine below_drewN ?_ _ | refine Below.alloc ?_ (by first | omega | (simp; omega)) _ | refine Below.setCell ?_ (by simp) _))
set_option maxHeartbeats 4000000 in
set_option maxRecDepth 100000 in
theorem rgate_g4 (s : Bs) (hs : s.length ≤ 4194304) (w : World) (t : List Bs) (hc : cut 32 s = kwMul :: t) (a : Nat) (b : Nat)  (hns : allOf valOf t = some [a, b]) :
    Calls Tryz.prog 68 #[.string ⟨s.toArray⟩] w (GatePostR (some (5, (a : Int), (b : Int), 0)) w) := by
  have hlen : t.length ≤ 4194304 := by
    have := cut_len 32 s
    rw [hc, List.length_cons] at this
    have : s.count 32 ≤ s.length := List.count_le_length
    omega
  have hsp := parts_any s hs (w.alloc (.cells #[.int .i64 0, .int .i64 0, .int .i64 0, .int .u64 0] 69))
  rw [hc] at hsp
  have HSP : Hid (Calls Tryz.prog 93 #[.string ⟨s.toArray⟩] (w.alloc (.cells #[.int .i64 0, .int .i64 0, .int .i64 0, .int .u64 0] 69)) (HeadPost kwMul t (w.alloc (.cells #[.int .i64 0, .int .i64 0, .int .i64 0, .int .u64 0] 69)))) := Lib.hid (hsp.mono (by rintro e w' ⟨v, rfl, k⟩; exact head_of k))
  have HSZ0 := Lib.hid (show (w.alloc (.cells #[.int .i64 0, .int .i64 0, .int .i64 0, .int .u64 0] 69)).heap.size = w.heap.size + 1 by simp)
  have HW0 : Hid (Below w.heap.size w (w.alloc (.cells #[.int .i64 0, .int .i64 0, .int .i64 0, .int .u64 0] 69))) := Lib.hid ((Below.refl _ _).alloc (Nat.le_refl _) _)
  have HBOX : Hid ((w.alloc (.cells #[.int .i64 0, .int .i64 0, .int .i64 0, .int .u64 0] 69)).heap[w.heap.size]? = some (.cells #[.int .i64 0, .int .i64 0, .int .i64 0, .int .u64 0] 69 (0, 0))) := Lib.hid (by have h5 := heap_alloc_new w (.cells #[.int .i64 0, .int .i64 0, .int .i64 0, .int .u64 0] 69); simpa using h5)
  have hS : ∀ x ∈ t, x.length ≤ 281474976710656 := fun x hx => by
    have h1 := cut_part 32 s x (by rw [hc]; exact List.mem_cons_of_mem _ hx)
    omega
  have hn := fun ad c W hw => rvals_any' t hlen hS ad c W hw
  rw [hns] at hn
  have HN := Lib.hid hn
  clear hsp hn hc hns hs hlen hS
  have hkw : (⟨kwMul.toArray⟩ : ByteArray) = ⟨#[109, 117, 108]⟩ := rfl
  go_enter Tryz.func68, Tryz.ntmps68
  go_wp2_with (first | (go_at_call 93; refine HSP.out.mono ?_; rintro e w1 ⟨g, c, rfl, hcap, z1, hw1, hb1⟩; have hN : w.heap.size < w1.heap.size := (by have h5 := hb1.size; have h6 := HSZ0.out; omega); have hno : ¬ w.heap.size = w1.heap.size := Nat.ne_of_lt hN; have HB1 := Lib.hid (HW0.out.trans (hb1.mono (by have h6 := HSZ0.out; omega))); rw [hkw] at z1; have HZ := Lib.hid z1; have HW := Lib.hid hw1; have hsl := (fun W => run_behind g t.length c hcap W); have HCAP := Lib.hid (show t.length ≤ c - 1 by omega); have h7 := gate_facts ((hb1.block _ (by have h6 := HSZ0.out; omega)).trans HBOX.out); have Q := Lib.hid h7; clear hb1 hw1 hcap z1 h7 HSZ0 HW0 HBOX; generalize behind g c = ad at HW hsl) | (go_at_call 95; refine (HN.out _ _ _ HW.out).mono ?_; rintro e w2 ⟨hb2, A, vc, rfl, hv⟩; have z0 := (hb2.cell (World.block_lt_of_cell? _ _ HZ.out)).trans HZ.out; have r0 := (hb2.cell (p := ⟨w.heap.size, 0, none⟩) hN).trans Q.out.1; have r1 := (hb2.cell (p := ⟨w.heap.size, 1, none⟩) hN).trans Q.out.2.1; have r2 := (hb2.cell (p := ⟨w.heap.size, 2, none⟩) hN).trans Q.out.2.2.1; have r3 := (hb2.cell (p := ⟨w.heap.size, 3, none⟩) hN).trans Q.out.2.2.2.1; have f0 := (hb2.frozen (p := ⟨w.heap.size, 0, none⟩) hN).trans Q.out.2.2.2.2.1; have f1 := (hb2.frozen (p := ⟨w.heap.size, 1, none⟩) hN).trans Q.out.2.2.2.2.2.1; have f2 := (hb2.frozen (p := ⟨w.heap.size, 2, none⟩) hN).trans Q.out.2.2.2.2.2.2.1; have f3 := (hb2.frozen (p := ⟨w.heap.size, 3, none⟩) hN).trans Q.out.2.2.2.2.2.2.2; have HB2 := Lib.hid (HB1.out.trans (hb2.mono (by omega))); clear Q HW HZ hsl hb2; obtain ⟨gA, rfl, p0⟩ := hv 0 (by simp); obtain ⟨gB, eB, p1⟩ := hv 1 (by simp); cases eB; simp only [List.getElem_cons_zero, List.getElem_cons_succ] at p0 p1; clear hv))
  go_region_law fail
  all_goals (try go_wp2)
  all_goals (try simp only [Exit.inBlock, Exit.then])
  all_goals refine bodyPost_ret (v := .tuple #[.agg #[.int .i64 5, .int .i64 a, .int .i64 b, .int .u64 0], .bool true]) ?_ rfl ⟨?_, rfl⟩
  all_goals first
    | (rw [results_cell_tmp rfl]; go_simp; done)
    | (have hw := HB2.out; repeat (first | exact hw | refine Below.drew ?_ | refine below_drewN ?_ _ | refine Below.alloc ?_ (by first | omega | (simp; omega)) _ | refine Below.setCell ?_ (by simp) _))
set_option maxHeartbeats 4000000 in
set_option maxRecDepth 100000 in
theorem rgate_g5 (s : Bs) (hs : s.length ≤ 4194304) (w : World) (t : List Bs) (hc : cut 32 s = kwScale :: t) (a : Nat) (b : Nat) (hk : IntKind.u64.wrap (b : Int) = b) (hns : allOf valOf t = some [a, b]) :
    Calls Tryz.prog 68 #[.string ⟨s.toArray⟩] w (GatePostR (some (6, (a : Int), 0, (b : Int))) w) := by
  have hlen : t.length ≤ 4194304 := by
    have := cut_len 32 s
    rw [hc, List.length_cons] at this
    have : s.count 32 ≤ s.length := List.count_le_length
    omega
  have hsp := parts_any s hs (w.alloc (.cells #[.int .i64 0, .int .i64 0, .int .i64 0, .int .u64 0] 69))
  rw [hc] at hsp
  have HSP : Hid (Calls Tryz.prog 93 #[.string ⟨s.toArray⟩] (w.alloc (.cells #[.int .i64 0, .int .i64 0, .int .i64 0, .int .u64 0] 69)) (HeadPost kwScale t (w.alloc (.cells #[.int .i64 0, .int .i64 0, .int .i64 0, .int .u64 0] 69)))) := Lib.hid (hsp.mono (by rintro e w' ⟨v, rfl, k⟩; exact head_of k))
  have HSZ0 := Lib.hid (show (w.alloc (.cells #[.int .i64 0, .int .i64 0, .int .i64 0, .int .u64 0] 69)).heap.size = w.heap.size + 1 by simp)
  have HW0 : Hid (Below w.heap.size w (w.alloc (.cells #[.int .i64 0, .int .i64 0, .int .i64 0, .int .u64 0] 69))) := Lib.hid ((Below.refl _ _).alloc (Nat.le_refl _) _)
  have HBOX : Hid ((w.alloc (.cells #[.int .i64 0, .int .i64 0, .int .i64 0, .int .u64 0] 69)).heap[w.heap.size]? = some (.cells #[.int .i64 0, .int .i64 0, .int .i64 0, .int .u64 0] 69 (0, 0))) := Lib.hid (by have h5 := heap_alloc_new w (.cells #[.int .i64 0, .int .i64 0, .int .i64 0, .int .u64 0] 69); simpa using h5)
  have hS : ∀ x ∈ t, x.length ≤ 281474976710656 := fun x hx => by
    have h1 := cut_part 32 s x (by rw [hc]; exact List.mem_cons_of_mem _ hx)
    omega
  have hn := fun ad c W hw => rvals_any' t hlen hS ad c W hw
  rw [hns] at hn
  have HN := Lib.hid hn
  clear hsp hn hc hns hs hlen hS
  have hkw : (⟨kwScale.toArray⟩ : ByteArray) = ⟨#[115, 99, 97, 108, 101]⟩ := rfl
  go_enter Tryz.func68, Tryz.ntmps68
  go_wp2_with (first | (go_at_call 93; refine HSP.out.mono ?_; rintro e w1 ⟨g, c, rfl, hcap, z1, hw1, hb1⟩; have hN : w.heap.size < w1.heap.size := (by have h5 := hb1.size; have h6 := HSZ0.out; omega); have hno : ¬ w.heap.size = w1.heap.size := Nat.ne_of_lt hN; have HB1 := Lib.hid (HW0.out.trans (hb1.mono (by have h6 := HSZ0.out; omega))); rw [hkw] at z1; have HZ := Lib.hid z1; have HW := Lib.hid hw1; have hsl := (fun W => run_behind g t.length c hcap W); have HCAP := Lib.hid (show t.length ≤ c - 1 by omega); have h7 := gate_facts ((hb1.block _ (by have h6 := HSZ0.out; omega)).trans HBOX.out); have Q := Lib.hid h7; clear hb1 hw1 hcap z1 h7 HSZ0 HW0 HBOX; generalize behind g c = ad at HW hsl) | (go_at_call 95; refine (HN.out _ _ _ HW.out).mono ?_; rintro e w2 ⟨hb2, A, vc, rfl, hv⟩; have z0 := (hb2.cell (World.block_lt_of_cell? _ _ HZ.out)).trans HZ.out; have r0 := (hb2.cell (p := ⟨w.heap.size, 0, none⟩) hN).trans Q.out.1; have r1 := (hb2.cell (p := ⟨w.heap.size, 1, none⟩) hN).trans Q.out.2.1; have r2 := (hb2.cell (p := ⟨w.heap.size, 2, none⟩) hN).trans Q.out.2.2.1; have r3 := (hb2.cell (p := ⟨w.heap.size, 3, none⟩) hN).trans Q.out.2.2.2.1; have f0 := (hb2.frozen (p := ⟨w.heap.size, 0, none⟩) hN).trans Q.out.2.2.2.2.1; have f1 := (hb2.frozen (p := ⟨w.heap.size, 1, none⟩) hN).trans Q.out.2.2.2.2.2.1; have f2 := (hb2.frozen (p := ⟨w.heap.size, 2, none⟩) hN).trans Q.out.2.2.2.2.2.2.1; have f3 := (hb2.frozen (p := ⟨w.heap.size, 3, none⟩) hN).trans Q.out.2.2.2.2.2.2.2; have HB2 := Lib.hid (HB1.out.trans (hb2.mono (by omega))); clear Q HW HZ hsl hb2; obtain ⟨gA, rfl, p0⟩ := hv 0 (by simp); obtain ⟨gB, eB, p1⟩ := hv 1 (by simp); cases eB; simp only [List.getElem_cons_zero, List.getElem_cons_succ] at p0 p1; clear hv))
  go_region_law fail
  all_goals (try go_wp2)
  all_goals (try simp only [Exit.inBlock, Exit.then])
  all_goals refine bodyPost_ret (v := .tuple #[.agg #[.int .i64 6, .int .i64 a, .int .i64 0, .int .u64 b], .bool true]) ?_ rfl ⟨?_, rfl⟩
  all_goals first
    | (rw [results_cell_tmp rfl]; go_simp; done)
    | (have hw := HB2.out; repeat (first | exact hw | refine Below.drew ?_ | refine below_drewN ?_ _ | refine Below.alloc ?_ (by first | omega | (simp; omega)) _ | refine Below.setCell ?_ (by simp) _))
theorem gate_other {h : Bs} (h1 : h ≠ kwIn) (h2 : h ≠ kwConst) (h3 : h ≠ kwAdd) (h4 : h ≠ kwSub) (h5 : h ≠ kwMul) (h6 : h ≠ kwScale) : (h == [105, 110]) = false ∧ (h == [99, 111, 110, 115, 116]) = false ∧ (h == [97, 100, 100]) = false ∧ (h == [115, 117, 98]) = false ∧ (h == [109, 117, 108]) = false ∧ (h == [115, 99, 97, 108, 101]) = false :=
  ⟨beq_eq_false_iff_ne.2 h1, beq_eq_false_iff_ne.2 h2, beq_eq_false_iff_ne.2 h3, beq_eq_false_iff_ne.2 h4, beq_eq_false_iff_ne.2 h5, beq_eq_false_iff_ne.2 h6⟩
theorem rgateOf_any (s : Bs) (hs : s.length ≤ 4194304) (w : World) : Calls Tryz.prog 68 #[.string ⟨s.toArray⟩] w (GatePostR (gateOf s) w) := by
  cases hc : cut 32 s with
  | nil => exact absurd hc (cut_ne 32 s)
  | cons h t =>
    rw [gateOf_cut hc]
    cases hns : allOf valOf t with
    | none => exact rgate_n h s hs w t hc hns
    | some ns =>
      have hlt := allOf_lt hns
      by_cases h1 : h = kwIn
      · subst h1
        match ns, hns, hlt with
        | [a], hns, _ => exact rgate_g0 s hs w t hc a hns
        | [], hns, _ => exact rgate_w0 s hs w t hc _ (by simp) hns
        | [a, b], hns, _ => exact rgate_w0 s hs w t hc _ (by simp) hns
        | a :: b :: c :: r, hns, _ => exact rgate_w0 s hs w t hc _ (by rw [beq_eq_false_iff_ne]; simp only [List.length_cons]; omega) hns
      by_cases h2 : h = kwConst
      · subst h2
        match ns, hns, hlt with
        | [a], hns, hlt => exact rgate_g1 s hs w t hc a (IntWalk.u64_in _ (by have := hlt a (by simp); omega)) hns
        | [], hns, _ => exact rgate_w1 s hs w t hc _ (by simp) hns
        | [a, b], hns, _ => exact rgate_w1 s hs w t hc _ (by simp) hns
        | a :: b :: c :: r, hns, _ => exact rgate_w1 s hs w t hc _ (by rw [beq_eq_false_iff_ne]; simp only [List.length_cons]; omega) hns
      by_cases h3 : h = kwAdd
      · subst h3
        match ns, hns, hlt with
        | [a, b], hns, hlt => exact rgate_g2 s hs w t hc a b hns
        | [], hns, _ => exact rgate_w2 s hs w t hc _ (by simp) hns
        | [a], hns, _ => exact rgate_w2 s hs w t hc _ (by simp) hns
        | a :: b :: c :: r, hns, _ => exact rgate_w2 s hs w t hc _ (by rw [beq_eq_false_iff_ne]; simp only [List.length_cons]; omega) hns
      by_cases h4 : h = kwSub
      · subst h4
        match ns, hns, hlt with
        | [a, b], hns, hlt => exact rgate_g3 s hs w t hc a b hns
        | [], hns, _ => exact rgate_w3 s hs w t hc _ (by simp) hns
        | [a], hns, _ => exact rgate_w3 s hs w t hc _ (by simp) hns
        | a :: b :: c :: r, hns, _ => exact rgate_w3 s hs w t hc _ (by rw [beq_eq_false_iff_ne]; simp only [List.length_cons]; omega) hns
      by_cases h5 : h = kwMul
      · subst h5
        match ns, hns, hlt with
        | [a, b], hns, hlt => exact rgate_g4 s hs w t hc a b hns
        | [], hns, _ => exact rgate_w4 s hs w t hc _ (by simp) hns
        | [a], hns, _ => exact rgate_w4 s hs w t hc _ (by simp) hns
        | a :: b :: c :: r, hns, _ => exact rgate_w4 s hs w t hc _ (by rw [beq_eq_false_iff_ne]; simp only [List.length_cons]; omega) hns
      by_cases h6 : h = kwScale
      · subst h6
        match ns, hns, hlt with
        | [a, b], hns, hlt => exact rgate_g5 s hs w t hc a b (IntWalk.u64_in _ (by have := hlt b (by simp); omega)) hns
        | [], hns, _ => exact rgate_w5 s hs w t hc _ (by simp) hns
        | [a], hns, _ => exact rgate_w5 s hs w t hc _ (by simp) hns
        | a :: b :: c :: r, hns, _ => exact rgate_w5 s hs w t hc _ (by rw [beq_eq_false_iff_ne]; simp only [List.length_cons]; omega) hns
      obtain ⟨b0, b1, b2, b3, b4, b5⟩ := gate_other h1 h2 h3 h4 h5 h6
      have hr := rgate_o h s hs w t hc ns b0 b1 b2 b3 b4 b5 hns
      match ns with
      | [a] => simp only [if_neg h1, if_neg h2]; exact hr
      | [a, b] => simp only [if_neg h3, if_neg h4, if_neg h5, if_neg h6]; exact hr
      | [] => exact hr
      | a :: b :: c :: r => exact hr
end Go.Proofs.YtmnbgamnbgdnnaaGreatDoor
