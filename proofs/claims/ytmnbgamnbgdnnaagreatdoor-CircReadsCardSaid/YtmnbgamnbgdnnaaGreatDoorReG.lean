/- Contract of the reference's gateOf. (Printed by wip/tools/gen_rgate4.py.) -/
import Derived.Test.YtmnbgamnbgdnnaaGreatDoorReD
import Derived.Deep.RegionHeld3
namespace Go.Proofs.YtmnbgamnbgdnnaaGreatDoor
open Go.RowKit

/-- The numbers of a row of words. -/
def ValsPost (o : Option (List Nat)) (w : World) (e : Ending) (w' : World) : Prop :=
  Below w.heap.size w w' ∧ match o with
    | none => ∃ v, e = .returned (.tuple #[v, .bool false])
    | some ns => ∃ A c, e = .returned (.tuple #[.slice A ns.length c, .bool true]) ∧ ∀ k (h : k < ns.length), ∃ g, A = some ⟨g, 0, none⟩ ∧ w'.cell? ⟨g, k, none⟩ = some (.int .i64 (ns[k] : Nat))
theorem own_cells {w : World} {base c : Nat} {A : Option Addr} {ns : List Nat} (h : w.ownsRow base 3 1 (.slice A ns.length c) ns.length (iCells (ns.map Int.ofNat))) (k : Nat) (hk : k < ns.length) : ∃ g, A = some ⟨g, 0, none⟩ ∧ w.cell? ⟨g, k, none⟩ = some (.int .i64 (ns[k] : Nat)) := by
  obtain ⟨_, o2⟩ := h
  rcases o2 with ⟨_, o3⟩ | ⟨g, cap, cur, e1, _, hg, _, _, _, ht⟩
  · omega
  · injection e1 with e1 _ _
    subst e1
    refine ⟨g, rfl, ?_⟩
    have h5 : cur[k]? = some (.int .i64 (ns[k] : Nat)) := by
      have h6 : (iCells (ns.map Int.ofNat))[k]? = some (.int .i64 (ns[k] : Nat)) := by simp [iCells, List.getElem?_eq_getElem hk]
      rw [← ht, List.getElem?_take] at h6
      split at h6
      · rw [← Array.getElem?_toList]; exact h6
      · cases h6
    simp [World.cell?, hg, h5]
theorem rvals_any' (t : List Bs) (ht : t.length ≤ 4194304) (hS : ∀ x ∈ t, x.length ≤ 281474976710656) (ad : Addr) (c : Nat) (W : World) (h : Words W ad t) : Calls Tryz.prog 95 #[.slice (some ad) t.length c] W (ValsPost (allOf valOf t) W) := by
  refine (rwords_any t (by omega) hS ad c W h).mono ?_
  intro e w' k
  unfold NumsPost at k
  unfold ValsPost
  cases ho : allOf valOf t with
  | none =>
    rw [ho] at k
    exact ⟨k.1, _, k.2⟩
  | some ns =>
    rw [ho] at k
    obtain ⟨hb, v, rfl, hown⟩ := k
    obtain ⟨A, d, rfl, _⟩ := own_reads hown
    exact ⟨hb, A, d, rfl, fun k hk => own_cells hown k hk⟩
theorem gate_facts {W : World} {b : Nat} {v0 v1 v2 v3 : Value} {t : TypeId} (h : W.heap[b]? = some (.cells #[v0, v1, v2, v3] t (0, 0))) :
    W.cell? ⟨b, 0, none⟩ = some v0 ∧ W.cell? ⟨b, 1, none⟩ = some v1 ∧ W.cell? ⟨b, 2, none⟩ = some v2 ∧ W.cell? ⟨b, 3, none⟩ = some v3 ∧ W.frozen? ⟨b, 0, none⟩ = false ∧ W.frozen? ⟨b, 1, none⟩ = false ∧ W.frozen? ⟨b, 2, none⟩ = false ∧ W.frozen? ⟨b, 3, none⟩ = false := by
  simp [World.cell?, World.frozen?, h]
set_option maxHeartbeats 4000000 in
set_option maxRecDepth 100000 in
theorem rgate_n (h : Bs) (s : Bs) (hs : s.length ≤ 4194304) (w : World) (t : List Bs) (hc : cut 32 s = h :: t)  (hns : allOf valOf t = none) :
    Calls Tryz.prog 68 #[.string ⟨s.toArray⟩] w (GatePostR none w) := by
  have hlen : t.length ≤ 4194304 := by
    have := cut_len 32 s
    rw [hc, List.length_cons] at this
    have : s.count 32 ≤ s.length := List.count_le_length
    omega
  have hsp := parts_any s hs (w.alloc (.cells #[.int .i64 0, .int .i64 0, .int .i64 0, .int .u64 0] 69))
  rw [hc] at hsp
  have HSP : Hid (Calls Tryz.prog 93 #[.string ⟨s.toArray⟩] (w.alloc (.cells #[.int .i64 0, .int .i64 0, .int .i64 0, .int .u64 0] 69)) (HeadPost h t (w.alloc (.cells #[.int .i64 0, .int .i64 0, .int .i64 0, .int .u64 0] 69)))) := Lib.hid (hsp.mono (by rintro e w' ⟨v, rfl, k⟩; exact head_of k))
  have HSZ0 := Lib.hid (show (w.alloc (.cells #[.int .i64 0, .int .i64 0, .int .i64 0, .int .u64 0] 69)).heap.size = w.heap.size + 1 by simp)
  have HW0 : Hid (Below w.heap.size w (w.alloc (.cells #[.int .i64 0, .int .i64 0, .int .i64 0, .int .u64 0] 69))) := Lib.hid ((Below.refl _ _).alloc (Nat.le_refl _) _)
  have HBOX : Hid ((w.alloc (.cells #[.int .i64 0, .int .i64 0, .int .i64 0, .int .u64 0] 69)).heap[w.heap.size]? = some (.cells #[.int .i64 0, .int .i64 0, .int .i64 0, .int .u64 0] 69 (0, 0))) := Lib.hid (by have h5 := heap_alloc_new w (.cells #[.int .i64 0, .int .i64 0, .int .i64 0, .int .u64 0] 69); simpa using h5)
  have hS : ∀ x ∈ t, x.length ≤ 281474976710656 := fun x hx => by
    have h1 := cut_part 32 s x (by rw [hc]; exact List.mem_cons_of_mem _ hx)
    omega
  have hn := fun ad c W hw => rvals_any' t hlen hS ad c W hw
  rw [hns] at hn
  have HN := Lib.hid hn
  clear hsp hn hc hns hs hlen hS
  go_enter Tryz.func68, Tryz.ntmps68
  go_wp2_with (first | (go_at_call 93; refine HSP.out.mono ?_; rintro e w1 ⟨g, c, rfl, hcap, z1, hw1, hb1⟩; have hN : w.heap.size < w1.heap.size := (by have h5 := hb1.size; have h6 := HSZ0.out; omega); have hno : ¬ w.heap.size = w1.heap.size := Nat.ne_of_lt hN; have HB1 := Lib.hid (HW0.out.trans (hb1.mono (by have h6 := HSZ0.out; omega))); have HZ := Lib.hid z1; have HW := Lib.hid hw1; have hsl := (fun W => run_behind g t.length c hcap W); have HCAP := Lib.hid (show t.length ≤ c - 1 by omega); have h7 := gate_facts ((hb1.block _ (by have h6 := HSZ0.out; omega)).trans HBOX.out); have Q := Lib.hid h7; clear hb1 hw1 hcap z1 h7 HSZ0 HW0 HBOX; generalize behind g c = ad at HW hsl) | (go_at_call 95; refine (HN.out _ _ _ HW.out).mono ?_; rintro e w2 ⟨hb2, v, rfl⟩; have z0 := (hb2.cell (World.block_lt_of_cell? _ _ HZ.out)).trans HZ.out; have r0 := (hb2.cell (p := ⟨w.heap.size, 0, none⟩) hN).trans Q.out.1; have r1 := (hb2.cell (p := ⟨w.heap.size, 1, none⟩) hN).trans Q.out.2.1; have r2 := (hb2.cell (p := ⟨w.heap.size, 2, none⟩) hN).trans Q.out.2.2.1; have r3 := (hb2.cell (p := ⟨w.heap.size, 3, none⟩) hN).trans Q.out.2.2.2.1; have f0 := (hb2.frozen (p := ⟨w.heap.size, 0, none⟩) hN).trans Q.out.2.2.2.2.1; have f1 := (hb2.frozen (p := ⟨w.heap.size, 1, none⟩) hN).trans Q.out.2.2.2.2.2.1; have f2 := (hb2.frozen (p := ⟨w.heap.size, 2, none⟩) hN).trans Q.out.2.2.2.2.2.2.1; have f3 := (hb2.frozen (p := ⟨w.heap.size, 3, none⟩) hN).trans Q.out.2.2.2.2.2.2.2; have HB2 := Lib.hid (HB1.out.trans (hb2.mono (by omega))); clear Q HW HZ hsl hb2))
  all_goals (try simp only [Exit.inBlock, Exit.then])
  all_goals refine bodyPost_ret (v := .tuple #[.agg #[.int .i64 0, .int .i64 0, .int .i64 0, .int .u64 0], .bool false]) ?_ rfl ⟨?_, 0, 0, 0, 0, rfl⟩
  all_goals first
    | (rw [results_cell_tmp rfl]; go_simp; done)
    | (have hw := HB2.out; repeat (first | exact hw | refine Below.drew ?_ | refine below_drewN ?_ _ | refine Below.alloc ?_ (by first | omega | (simp; omega)) _ | refine Below.setCell ?_ (by simp) _))
set_option maxHeartbeats 4000000 in
set_option maxRecDepth 100000 in
theorem rgate_o (h : Bs) (s : Bs) (hs : s.length ≤ 4194304) (w : World) (t : List Bs) (hc : cut 32 s = h :: t) (ns : List Nat) (b0 : (h == [105, 110]) = false) (b1 : (h == [99, 111, 110, 115, 116]) = false) (b2 : (h == [97, 100, 100]) = false) (b3 : (h == [115, 117, 98]) = false) (b4 : (h == [109, 117, 108]) = false) (b5 : (h == [115, 99, 97, 108, 101]) = false) (hns : allOf valOf t = some ns) :
    Calls Tryz.prog 68 #[.string ⟨s.toArray⟩] w (GatePostR none w) := by
  have hlen : t.length ≤ 4194304 := by
    have := cut_len 32 s
    rw [hc, List.length_cons] at this
    have : s.count 32 ≤ s.length := List.count_le_length
    omega
  have hsp := parts_any s hs (w.alloc (.cells #[.int .i64 0, .int .i64 0, .int .i64 0, .int .u64 0] 69))
  rw [hc] at hsp
  have HSP : Hid (Calls Tryz.prog 93 #[.string ⟨s.toArray⟩] (w.alloc (.cells #[.int .i64 0, .int .i64 0, .int .i64 0, .int .u64 0] 69)) (HeadPost h t (w.alloc (.cells #[.int .i64 0, .int .i64 0, .int .i64 0, .int .u64 0] 69)))) := Lib.hid (hsp.mono (by rintro e w' ⟨v, rfl, k⟩; exact head_of k))
  have HSZ0 := Lib.hid (show (w.alloc (.cells #[.int .i64 0, .int .i64 0, .int .i64 0, .int .u64 0] 69)).heap.size = w.heap.size + 1 by simp)
  have HW0 : Hid (Below w.heap.size w (w.alloc (.cells #[.int .i64 0, .int .i64 0, .int .i64 0, .int .u64 0] 69))) := Lib.hid ((Below.refl _ _).alloc (Nat.le_refl _) _)
  have HBOX : Hid ((w.alloc (.cells #[.int .i64 0, .int .i64 0, .int .i64 0, .int .u64 0] 69)).heap[w.heap.size]? = some (.cells #[.int .i64 0, .int .i64 0, .int .i64 0, .int .u64 0] 69 (0, 0))) := Lib.hid (by have h5 := heap_alloc_new w (.cells #[.int .i64 0, .int .i64 0, .int .i64 0, .int .u64 0] 69); simpa using h5)
  have hS : ∀ x ∈ t, x.length ≤ 281474976710656 := fun x hx => by
    have h1 := cut_part 32 s x (by rw [hc]; exact List.mem_cons_of_mem _ hx)
    omega
  have hn := fun ad c W hw => rvals_any' t hlen hS ad c W hw
  rw [hns] at hn
  have HN := Lib.hid hn
  clear hsp hn hc hns hs hlen hS
  go_enter Tryz.func68, Tryz.ntmps68
  go_wp2_with (first | (go_at_call 93; refine HSP.out.mono ?_; rintro e w1 ⟨g, c, rfl, hcap, z1, hw1, hb1⟩; have hN : w.heap.size < w1.heap.size := (by have h5 := hb1.size; have h6 := HSZ0.out; omega); have hno : ¬ w.heap.size = w1.heap.size := Nat.ne_of_lt hN; have HB1 := Lib.hid (HW0.out.trans (hb1.mono (by have h6 := HSZ0.out; omega))); have HZ := Lib.hid z1; have HW := Lib.hid hw1; have hsl := (fun W => run_behind g t.length c hcap W); have HCAP := Lib.hid (show t.length ≤ c - 1 by omega); have h7 := gate_facts ((hb1.block _ (by have h6 := HSZ0.out; omega)).trans HBOX.out); have Q := Lib.hid h7; clear hb1 hw1 hcap z1 h7 HSZ0 HW0 HBOX; generalize behind g c = ad at HW hsl) | (go_at_call 95; refine (HN.out _ _ _ HW.out).mono ?_; rintro e w2 ⟨hb2, A, vc, rfl, hv⟩; have z0 := (hb2.cell (World.block_lt_of_cell? _ _ HZ.out)).trans HZ.out; have r0 := (hb2.cell (p := ⟨w.heap.size, 0, none⟩) hN).trans Q.out.1; have r1 := (hb2.cell (p := ⟨w.heap.size, 1, none⟩) hN).trans Q.out.2.1; have r2 := (hb2.cell (p := ⟨w.heap.size, 2, none⟩) hN).trans Q.out.2.2.1; have r3 := (hb2.cell (p := ⟨w.heap.size, 3, none⟩) hN).trans Q.out.2.2.2.1; have f0 := (hb2.frozen (p := ⟨w.heap.size, 0, none⟩) hN).trans Q.out.2.2.2.2.1; have f1 := (hb2.frozen (p := ⟨w.heap.size, 1, none⟩) hN).trans Q.out.2.2.2.2.2.1; have f2 := (hb2.frozen (p := ⟨w.heap.size, 2, none⟩) hN).trans Q.out.2.2.2.2.2.2.1; have f3 := (hb2.frozen (p := ⟨w.heap.size, 3, none⟩) hN).trans Q.out.2.2.2.2.2.2.2; have HB2 := Lib.hid (HB1.out.trans (hb2.mono (by omega))); clear Q HW HZ hsl hb2; clear hv))
  all_goals (try simp only [Exit.inBlock, Exit.then])
  all_goals refine bodyPost_ret (v := .tuple #[.agg #[.int .i64 0, .int .i64 0, .int .i64 0, .int .u64 0], .bool false]) ?_ rfl ⟨?_, 0, 0, 0, 0, rfl⟩
  all_goals first
    | (rw [results_cell_tmp rfl]; go_simp; done)
    | (have hw := HB2.out; repeat (first | exact hw | refine Below.drew ?_ | refine below_drewN ?_ _ | refine Below.alloc ?_ (by first | omega | (simp; omega)) _ | refine Below.setCell ?_ (by simp) _))
set_option maxHeartbeats 4000000 in
set_option maxRecDepth 100000 in
theorem rgate_w0 (s : Bs) (hs : s.length ≤ 4194304) (w : World) (t : List Bs) (hc : cut 32 s = kwIn :: t) (ns : List Nat) (hm : ((ns.length : Int) == 1) = false) (hns : allOf valOf t = some ns) :
    Calls Tryz.prog 68 #[.string ⟨s.toArray⟩] w (GatePostR none w) := by
  have hlen : t.length ≤ 4194304 := by
    have := cut_len 32 s
    rw [hc, List.length_cons] at this
    have : s.count 32 ≤ s.length := List.count_le_length
    omega
  have hsp := parts_any s hs (w.alloc (.cells #[.int .i64 0, .int .i64 0, .int .i64 0, .int .u64 0] 69))
  rw [hc] at hsp
  have HSP : Hid (Calls Tryz.prog 93 #[.string ⟨s.toArray⟩] (w.alloc (.cells #[.int .i64 0, .int .i64 0, .int .i64 0, .int .u64 0] 69)) (HeadPost kwIn t (w.alloc (.cells #[.int .i64 0, .int .i64 0, .int .i64 0, .int .u64 0] 69)))) := Lib.hid (hsp.mono (by rintro e w' ⟨v, rfl, k⟩; exact head_of k))
  have HSZ0 := Lib.hid (show (w.alloc (.cells #[.int .i64 0, .int .i64 0, .int .i64 0, .int .u64 0] 69)).heap.size = w.heap.size + 1 by simp)
  have HW0 : Hid (Below w.heap.size w (w.alloc (.cells #[.int .i64 0, .int .i64 0, .int .i64 0, .int .u64 0] 69))) := Lib.hid ((Below.refl _ _).alloc (Nat.le_refl _) _)
  have HBOX : Hid ((w.alloc (.cells #[.int .i64 0, .int .i64 0, .int .i64 0, .int .u64 0] 69)).heap[w.heap.size]? = some (.cells #[.int .i64 0, .int .i64 0, .int .i64 0, .int .u64 0] 69 (0, 0))) := Lib.hid (by have h5 := heap_alloc_new w (.cells #[.int .i64 0, .int .i64 0, .int .i64 0, .int .u64 0] 69); simpa using h5)
  have hS : ∀ x ∈ t, x.length ≤ 281474976710656 := fun x hx => by
    have h1 := cut_part 32 s x (by rw [hc]; exact List.mem_cons_of_mem _ hx)
    omega
  have hn := fun ad c W hw => rvals_any' t hlen hS ad c W hw
  rw [hns] at hn
  have HN := Lib.hid hn
  clear hsp hn hc hns hs hlen hS
  have hkw : (⟨kwIn.toArray⟩ : ByteArray) = ⟨#[105, 110]⟩ := rfl
  go_enter Tryz.func68, Tryz.ntmps68
  go_wp2_with (first | (go_at_call 93; refine HSP.out.mono ?_; rintro e w1 ⟨g, c, rfl, hcap, z1, hw1, hb1⟩; have hN : w.heap.size < w1.heap.size := (by have h5 := hb1.size; have h6 := HSZ0.out; omega); have hno : ¬ w.heap.size = w1.heap.size := Nat.ne_of_lt hN; have HB1 := Lib.hid (HW0.out.trans (hb1.mono (by have h6 := HSZ0.out; omega))); rw [hkw] at z1; have HZ := Lib.hid z1; have HW := Lib.hid hw1; have hsl := (fun W => run_behind g t.length c hcap W); have HCAP := Lib.hid (show t.length ≤ c - 1 by omega); have h7 := gate_facts ((hb1.block _ (by have h6 := HSZ0.out; omega)).trans HBOX.out); have Q := Lib.hid h7; clear hb1 hw1 hcap z1 h7 HSZ0 HW0 HBOX; generalize behind g c = ad at HW hsl) | (go_at_call 95; refine (HN.out _ _ _ HW.out).mono ?_; rintro e w2 ⟨hb2, A, vc, rfl, hv⟩; have z0 := (hb2.cell (World.block_lt_of_cell? _ _ HZ.out)).trans HZ.out; have r0 := (hb2.cell (p := ⟨w.heap.size, 0, none⟩) hN).trans Q.out.1; have r1 := (hb2.cell (p := ⟨w.heap.size, 1, none⟩) hN).trans Q.out.2.1; have r2 := (hb2.cell (p := ⟨w.heap.size, 2, none⟩) hN).trans Q.out.2.2.1; have r3 := (hb2.cell (p := ⟨w.heap.size, 3, none⟩) hN).trans Q.out.2.2.2.1; have f0 := (hb2.frozen (p := ⟨w.heap.size, 0, none⟩) hN).trans Q.out.2.2.2.2.1; have f1 := (hb2.frozen (p := ⟨w.heap.size, 1, none⟩) hN).trans Q.out.2.2.2.2.2.1; have f2 := (hb2.frozen (p := ⟨w.heap.size, 2, none⟩) hN).trans Q.out.2.2.2.2.2.2.1; have f3 := (hb2.frozen (p := ⟨w.heap.size, 3, none⟩) hN).trans Q.out.2.2.2.2.2.2.2; have HB2 := Lib.hid (HB1.out.trans (hb2.mono (by omega))); clear Q HW HZ hsl hb2; clear hv))
  all_goals (try simp only [Exit.inBlock, Exit.then])
  all_goals refine bodyPost_ret (v := .tuple #[.agg #[.int .i64 0, .int .i64 0, .int .i64 0, .int .u64 0], .bool false]) ?_ rfl ⟨?_, 0, 0, 0, 0, rfl⟩
  all_goals first
    | (rw [results_cell_tmp rfl]; go_simp; done)
    | (have hw := HB2.out; repeat (first | exact hw | refine Below.drew ?_ | refine below_drewN ?_ _ | refine Below.alloc ?_ (by first | omega | (simp; omega)) _ | refine Below.setCell ?_ (by simp) _))
set_option maxHeartbeats 4000000 in
set_option maxRecDepth 100000 in
theorem rgate_w1 (s : Bs) (hs : s.length ≤ 4194304) (w : World) (t : List Bs) (hc : cut 32 s = kwConst :: t) (ns : List Nat) (hm : ((ns.length : Int) == 1) = false) (hns : allOf valOf t = some ns) :
    Calls Tryz.prog 68 #[.string ⟨s.toArray⟩] w (GatePostR none w) := by
  have hlen : t.length ≤ 4194304 := by
    have := cut_len 32 s
    rw [hc, List.length_cons] at this
    have : s.count 32 ≤ s.length := List.count_le_length
    omega
  have hsp := parts_any s hs (w.alloc (.cells #[.int .i64 0, .int .i64 0, .int .i64 0, .int .u64 0] 69))
  rw [hc] at hsp
  have HSP : Hid (Calls Tryz.prog 93 #[.string ⟨s.toArray⟩] (w.alloc (.cells #[.int .i64 0, .int .i64 0, .int .i64 0, .int .u64 0] 69)) (HeadPost kwConst t (w.alloc (.cells #[.int .i64 0, .int .i64 0, .int .i64 0, .int .u64 0] 69)))) := Lib.hid (hsp.mono (by rintro e w' ⟨v, rfl, k⟩; exact head_of k))
  have HSZ0 := Lib.hid (show (w.alloc (.cells #[.int .i64 0, .int .i64 0, .int .i64 0, .int .u64 0] 69)).heap.size = w.heap.size + 1 by simp)
  have HW0 : Hid (Below w.heap.size w (w.alloc (.cells #[.int .i64 0, .int .i64 0, .int .i64 0, .int .u64 0] 69))) := Lib.hid ((Below.refl _ _).alloc (Nat.le_refl _) _)
  have HBOX : Hid ((w.alloc (.cells #[.int .i64 0, .int .i64 0, .int .i64 0, .int .u64 0] 69)).heap[w.heap.size]? = some (.cells #[.int .i64 0, .int .i64 0, .int .i64 0, .int .u64 0] 69 (0, 0))) := Lib.hid (by have h5 := heap_alloc_new w (.cells #[.int .i64 0, .int .i64 0, .int .i64 0, .int .u64 0] 69); simpa using h5)
  have hS : ∀ x ∈ t, x.length ≤ 281474976710656 := fun x hx => by
    have h1 := cut_part 32 s x (by rw [hc]; exact List.mem_cons_of_mem _ hx)
    omega
  have hn := fun ad c W hw => rvals_any' t hlen hS ad c W hw
  rw [hns] at hn
  have HN := Lib.hid hn
  clear hsp hn hc hns hs hlen hS
  have hkw : (⟨kwConst.toArray⟩ : ByteArray) = ⟨#[99, 111, 110, 115, 116]⟩ := rfl
  go_enter Tryz.func68, Tryz.ntmps68
  go_wp2_with (first | (go_at_call 93; refine HSP.out.mono ?_; rintro e w1 ⟨g, c, rfl, hcap, z1, hw1, hb1⟩; have hN : w.heap.size < w1.heap.size := (by have h5 := hb1.size; have h6 := HSZ0.out; omega); have hno : ¬ w.heap.size = w1.heap.size := Nat.ne_of_lt hN; have HB1 := Lib.hid (HW0.out.trans (hb1.mono (by have h6 := HSZ0.out; omega))); rw [hkw] at z1; have HZ := Lib.hid z1; have HW := Lib.hid hw1; have hsl := (fun W => run_behind g t.length c hcap W); have HCAP := Lib.hid (show t.length ≤ c - 1 by omega); have h7 := gate_facts ((hb1.block _ (by have h6 := HSZ0.out; omega)).trans HBOX.out); have Q := Lib.hid h7; clear hb1 hw1 hcap z1 h7 HSZ0 HW0 HBOX; generalize behind g c = ad at HW hsl) | (go_at_call 95; refine (HN.out _ _ _ HW.out).mono ?_; rintro e w2 ⟨hb2, A, vc, rfl, hv⟩; have z0 := (hb2.cell (World.block_lt_of_cell? _ _ HZ.out)).trans HZ.out; have r0 := (hb2.cell (p := ⟨w.heap.size, 0, none⟩) hN).trans Q.out.1; have r1 := (hb2.cell (p := ⟨w.heap.size, 1, none⟩) hN).trans Q.out.2.1; have r2 := (hb2.cell (p := ⟨w.heap.size, 2, none⟩) hN).trans Q.out.2.2.1; have r3 := (hb2.cell (p := ⟨w.heap.size, 3, none⟩) hN).trans Q.out.2.2.2.1; have f0 := (hb2.frozen (p := ⟨w.heap.size, 0, none⟩) hN).trans Q.out.2.2.2.2.1; have f1 := (hb2.frozen (p := ⟨w.heap.size, 1, none⟩) hN).trans Q.out.2.2.2.2.2.1; have f2 := (hb2.frozen (p := ⟨w.heap.size, 2, none⟩) hN).trans Q.out.2.2.2.2.2.2.1; have f3 := (hb2.frozen (p := ⟨w.heap.size, 3, none⟩) hN).trans Q.out.2.2.2.2.2.2.2; have HB2 := Lib.hid (HB1.out.trans (hb2.mono (by omega))); clear Q HW HZ hsl hb2; clear hv))
  all_goals (try simp only [Exit.inBlock, Exit.then])
  all_goals refine bodyPost_ret (v := .tuple #[.agg #[.int .i64 0, .int .i64 0, .int .i64 0, .int .u64 0], .bool false]) ?_ rfl ⟨?_, 0, 0, 0, 0, rfl⟩
  all_goals first
    | (rw [results_cell_tmp rfl]; go_simp; done)
    | (have hw := HB2.out; repeat (first | exact hw | refine Below.drew ?_ | refine below_drewN ?_ _ | refine Below.alloc ?_ (by first | omega | (simp; omega)) _ | refine Below.setCell ?_ (by simp) _))
set_option maxHeartbeats 4000000 in
set_option maxRecDepth 100000 in
theorem rgate_w2 (s : Bs) (hs : s.length ≤ 4194304) (w : World) (t : List Bs) (hc : cut 32 s = kwAdd :: t) (ns : List Nat) (hm : ((ns.length : Int) == 2) = false) (hns : allOf valOf t = some ns) :
    Calls Tryz.prog 68 #[.string ⟨s.toArray⟩] w (GatePostR none w) := by
  have hlen : t.length ≤ 4194304 := by
    have := cut_len 32 s
    rw [hc, List.length_cons] at this
    have : s.count 32 ≤ s.length := List.count_le_length
    omega
  have hsp := parts_any s hs (w.alloc (.cells #[.int .i64 0, .int .i64 0, .int .i64 0, .int .u64 0] 69))
  rw [hc] at hsp
  have HSP : Hid (Calls Tryz.prog 93 #[.string ⟨s.toArray⟩] (w.alloc (.cells #[.int .i64 0, .int .i64 0, .int .i64 0, .int .u64 0] 69)) (HeadPost kwAdd t (w.alloc (.cells #[.int .i64 0, .int .i64 0, .int .i64 0, .int .u64 0] 69)))) := Lib.hid (hsp.mono (by rintro e w' ⟨v, rfl, k⟩; exact head_of k))
  have HSZ0 := Lib.hid (show (w.alloc (.cells #[.int .i64 0, .int .i64 0, .int .i64 0, .int .u64 0] 69)).heap.size = w.heap.size + 1 by simp)
  have HW0 : Hid (Below w.heap.size w (w.alloc (.cells #[.int .i64 0, .int .i64 0, .int .i64 0, .int .u64 0] 69))) := Lib.hid ((Below.refl _ _).alloc (Nat.le_refl _) _)
  have HBOX : Hid ((w.alloc (.cells #[.int .i64 0, .int .i64 0, .int .i64 0, .int .u64 0] 69)).heap[w.heap.size]? = some (.cells #[.int .i64 0, .int .i64 0, .int .i64 0, .int .u64 0] 69 (0, 0))) := Lib.hid (by have h5 := heap_alloc_new w (.cells #[.int .i64 0, .int .i64 0, .int .i64 0, .int .u64 0] 69); simpa using h5)
  have hS : ∀ x ∈ t, x.length ≤ 281474976710656 := fun x hx => by
    have h1 := cut_part 32 s x (by rw [hc]; exact List.mem_cons_of_mem _ hx)
    omega
  have hn := fun ad c W hw => rvals_any' t hlen hS ad c W hw
  rw [hns] at hn
  have HN := Lib.hid hn
  clear hsp hn hc hns hs hlen hS
  have hkw : (⟨kwAdd.toArray⟩ : ByteArray) = ⟨#[97, 100, 100]⟩ := rfl
  go_enter Tryz.func68, Tryz.ntmps68
  go_wp2_with (first | (go_at_call 93; refine HSP.out.mono ?_; rintro e w1 ⟨g, c, rfl, hcap, z1, hw1, hb1⟩; have hN : w.heap.size < w1.heap.size := (by have h5 := hb1.size; have h6 := HSZ0.out; omega); have hno : ¬ w.heap.size = w1.heap.size := Nat.ne_of_lt hN; have HB1 := Lib.hid (HW0.out.trans (hb1.mono (by have h6 := HSZ0.out; omega))); rw [hkw] at z1; have HZ := Lib.hid z1; have HW := Lib.hid hw1; have hsl := (fun W => run_behind g t.length c hcap W); have HCAP := Lib.hid (show t.length ≤ c - 1 by omega); have h7 := gate_facts ((hb1.block _ (by have h6 := HSZ0.out; omega)).trans HBOX.out); have Q := Lib.hid h7; clear hb1 hw1 hcap z1 h7 HSZ0 HW0 HBOX; generalize behind g c = ad at HW hsl) | (go_at_call 95; refine (HN.out _ _ _ HW.out).mono ?_; rintro e w2 ⟨hb2, A, vc, rfl, hv⟩; have z0 := (hb2.cell (World.block_lt_of_cell? _ _ HZ.out)).trans HZ.out; have r0 := (hb2.cell (p := ⟨w.heap.size, 0, none⟩) hN).trans Q.out.1; have r1 := (hb2.cell (p := ⟨w.heap.size, 1, none⟩) hN).trans Q.out.2.1; have r2 := (hb2.cell (p := ⟨w.heap.size, 2, none⟩) hN).trans Q.out.2.2.1; have r3 := (hb2.cell (p := ⟨w.heap.size, 3, none⟩) hN).trans Q.out.2.2.2.1; have f0 := (hb2.frozen (p := ⟨w.heap.size, 0, none⟩) hN).trans Q.out.2.2.2.2.1; have f1 := (hb2.frozen (p := ⟨w.heap.size, 1, none⟩) hN).trans Q.out.2.2.2.2.2.1; have f2 := (hb2.frozen (p := ⟨w.heap.size, 2, none⟩) hN).trans Q.out.2.2.2.2.2.2.1; have f3 := (hb2.frozen (p := ⟨w.heap.size, 3, none⟩) hN).trans Q.out.2.2.2.2.2.2.2; have HB2 := Lib.hid (HB1.out.trans (hb2.mono (by omega))); clear Q HW HZ hsl hb2; clear hv))
  all_goals (try simp only [Exit.inBlock, Exit.then])
  all_goals refine bodyPost_ret (v := .tuple #[.agg #[.int .i64 0, .int .i64 0, .int .i64 0, .int .u64 0], .bool false]) ?_ rfl ⟨?_, 0, 0, 0, 0, rfl⟩
  all_goals first
    | (rw [results_cell_tmp rfl]; go_simp; done)
    | (have hw := HB2.out; repeat (first | exact hw | refine Below.drew ?_ | refine below_drewN ?_ _ | refine Below.alloc ?_ (by first | omega | (simp; omega)) _ | refine Below.setCell ?_ (by simp) _))
set_option maxHeartbeats 4000000 in
set_option maxRecDepth 100000 in
theorem rgate_w3 (s : Bs) (hs : s.length ≤ 4194304) (w : World) (t : List Bs) (hc : cut 32 s = kwSub :: t) (ns : List Nat) (hm : ((ns.length : Int) == 2) = false) (hns : allOf valOf t = some ns) :
    Calls Tryz.prog 68 #[.string ⟨s.toArray⟩] w (GatePostR none w) := by
  have hlen : t.length ≤ 4194304 := by
    have := cut_len 32 s
    rw [hc, List.length_cons] at this
    have : s.count 32 ≤ s.length := List.count_le_length
    omega
  have hsp := parts_any s hs (w.alloc (.cells #[.int .i64 0, .int .i64 0, .int .i64 0, .int .u64 0] 69))
  rw [hc] at hsp
  have HSP : Hid (Calls Tryz.prog 93 #[.string ⟨s.toArray⟩] (w.alloc (.cells #[.int .i64 0, .int .i64 0, .int .i64 0, .int .u64 0] 69)) (HeadPost kwSub t (w.alloc (.cells #[.int .i64 0, .int .i64 0, .int .i64 0, .int .u64 0] 69)))) := Lib.hid (hsp.mono (by rintro e w' ⟨v, rfl, k⟩; exact head_of k))
  have HSZ0 := Lib.hid (show (w.alloc (.cells #[.int .i64 0, .int .i64 0, .int .i64 0, .int .u64 0] 69)).heap.size = w.heap.size + 1 by simp)
  have HW0 : Hid (Below w.heap.size w (w.alloc (.cells #[.int .i64 0, .int .i64 0, .int .i64 0, .int .u64 0] 69))) := Lib.hid ((Below.refl _ _).alloc (Nat.le_refl _) _)
  have HBOX : Hid ((w.alloc (.cells #[.int .i64 0, .int .i64 0, .int .i64 0, .int .u64 0] 69)).heap[w.heap.size]? = some (.cells #[.int .i64 0, .int .i64 0, .int .i64 0, .int .u64 0] 69 (0, 0))) := Lib.hid (by have h5 := heap_alloc_new w (.cells #[.int .i64 0, .int .i64 0, .int .i64 0, .int .u64 0] 69); simpa using h5)
  have hS : ∀ x ∈ t, x.length ≤ 281474976710656 := fun x hx => by
    have h1 := cut_part 32 s x (by rw [hc]; exact List.mem_cons_of_mem _ hx)
    omega
  have hn := fun ad c W hw => rvals_any' t hlen hS ad c W hw
  rw [hns] at hn
  have HN := Lib.hid hn
  clear hsp hn hc hns hs hlen hS
  have hkw : (⟨kwSub.toArray⟩ : ByteArray) = ⟨#[115, 117, 98]⟩ := rfl
  go_enter Tryz.func68, Tryz.ntmps68
  go_wp2_with (first | (go_at_call 93; refine HSP.out.mono ?_; rintro e w1 ⟨g, c, rfl, hcap, z1, hw1, hb1⟩; have hN : w.heap.size < w1.heap.size := (by have h5 := hb1.size; have h6 := HSZ0.out; omega); have hno : ¬ w.heap.size = w1.heap.size := Nat.ne_of_lt hN; have HB1 := Lib.hid (HW0.out.trans (hb1.mono (by have h6 := HSZ0.out; omega))); rw [hkw] at z1; have HZ := Lib.hid z1; have HW := Lib.hid hw1; have hsl := (fun W => run_behind g t.length c hcap W); have HCAP := Lib.hid (show t.length ≤ c - 1 by omega); have h7 := gate_facts ((hb1.block _ (by have h6 := HSZ0.out; omega)).trans HBOX.out); have Q := Lib.hid h7; clear hb1 hw1 hcap z1 h7 HSZ0 HW0 HBOX; generalize behind g c = ad at HW hsl) | (go_at_call 95; refine (HN.out _ _ _ HW.out).mono ?_; rintro e w2 ⟨hb2, A, vc, rfl, hv⟩; have z0 := (hb2.cell (World.block_lt_of_cell? _ _ HZ.out)).trans HZ.out; have r0 := (hb2.cell (p := ⟨w.heap.size, 0, none⟩) hN).trans Q.out.1; have r1 := (hb2.cell (p := ⟨w.heap.size, 1, none⟩) hN).trans Q.out.2.1; have r2 := (hb2.cell (p := ⟨w.heap.size, 2, none⟩) hN).trans Q.out.2.2.1; have r3 := (hb2.cell (p := ⟨w.heap.size, 3, none⟩) hN).trans Q.out.2.2.2.1; have f0 := (hb2.frozen (p := ⟨w.heap.size, 0, none⟩) hN).trans Q.out.2.2.2.2.1; have f1 := (hb2.frozen (p := ⟨w.heap.size, 1, none⟩) hN).trans Q.out.2.2.2.2.2.1; have f2 := (hb2.frozen (p := ⟨w.heap.size, 2, none⟩) hN).trans Q.out.2.2.2.2.2.2.1; have f3 := (hb2.frozen (p := ⟨w.heap.size, 3, none⟩) hN).trans Q.out.2.2.2.2.2.2.2; have HB2 := Lib.hid (HB1.out.trans (hb2.mono (by omega))); clear Q HW HZ hsl hb2; clear hv))
  all_goals (try simp only [Exit.inBlock, Exit.then])
  all_goals refine bodyPost_ret (v := .tuple #[.agg #[.int .i64 0, .int .i64 0, .int .i64 0, .int .u64 0], .bool false]) ?_ rfl ⟨?_, 0, 0, 0, 0, rfl⟩
  all_goals first
    | (rw [results_cell_tmp rfl]; go_simp; done)
    | (have hw := HB2.out; repeat (first | exact hw | refine Below.drew ?_ | refine below_drewN ?_ _ | refine Below.alloc ?_ (by first | omega | (simp; omega)) _ | refine Below.setCell ?_ (by simp) _))
set_option maxHeartbeats 4000000 in
set_option maxRecDepth 100000 in
theorem rgate_w4 (s : Bs) (hs : s.length ≤ 4194304) (w : World) (t : List Bs) (hc : cut 32 s = kwMul :: t) (ns : List Nat) (hm : ((ns.length : Int) == 2) = false) (hns : allOf valOf t = some ns) :
    Calls Tryz.prog 68 #[.string ⟨s.toArray⟩] w (GatePostR none w) := by
  have hlen : t.length ≤ 4194304 := by
    have := cut_len 32 s
    rw [hc, List.length_cons] at this
    have : s.count 32 ≤ s.length := List.count_le_length
    omega
  have hsp := parts_any s hs (w.alloc (.cells #[.int .i64 0, .int .i64 0, .int .i64 0, .int .u64 0] 69))
  rw [hc] at hsp
  have HSP : Hid (Calls Tryz.prog 93 #[.string ⟨s.toArray⟩] (w.alloc (.cells #[.int .i64 0, .int .i64 0, .int .i64 0, .int .u64 0] 69)) (HeadPost kwMul t (w.alloc (.cells #[.int .i64 0, .int .i64 0, .int .i64 0, .int .u64 0] 69)))) := Lib.hid (hsp.mono (by rintro e w' ⟨v, rfl, k⟩; exact head_of k))
  have HSZ0 := Lib.hid (show (w.alloc (.cells #[.int .i64 0, .int .i64 0, .int .i64 0, .int .u64 0] 69)).heap.size = w.heap.size + 1 by simp)
  have HW0 : Hid (Below w.heap.size w (w.alloc (.cells #[.int .i64 0, .int .i64 0, .int .i64 0, .int .u64 0] 69))) := Lib.hid ((Below.refl _ _).alloc (Nat.le_refl _) _)
  have HBOX : Hid ((w.alloc (.cells #[.int .i64 0, .int .i64 0, .int .i64 0, .int .u64 0] 69)).heap[w.heap.size]? = some (.cells #[.int .i64 0, .int .i64 0, .int .i64 0, .int .u64 0] 69 (0, 0))) := Lib.hid (by have h5 := heap_alloc_new w (.cells #[.int .i64 0, .int .i64 0, .int .i64 0, .int .u64 0] 69); simpa using h5)
  have hS : ∀ x ∈ t, x.length ≤ 281474976710656 := fun x hx => by
    have h1 := cut_part 32 s x (by rw [hc]; exact List.mem_cons_of_mem _ hx)
    omega
  have hn := fun ad c W hw => rvals_any' t hlen hS ad c W hw
  rw [hns] at hn
  have HN := Lib.hid hn
  clear hsp hn hc hns hs hlen hS
  have hkw : (⟨kwMul.toArray⟩ : ByteArray) = ⟨#[109, 117, 108]⟩ := rfl
  go_enter Tryz.func68, Tryz.ntmps68
  go_wp2_with (first | (go_at_call 93; refine HSP.out.mono ?_; rintro e w1 ⟨g, c, rfl, hcap, z1, hw1, hb1⟩; have hN : w.heap.size < w1.heap.size := (by have h5 := hb1.size; have h6 := HSZ0.out; omega); have hno : ¬ w.heap.size = w1.heap.size := Nat.ne_of_lt hN; have HB1 := Lib.hid (HW0.out.trans (hb1.mono (by have h6 := HSZ0.out; omega))); rw [hkw] at z1; have HZ := Lib.hid z1; have HW := Lib.hid hw1; have hsl := (fun W => run_behind g t.length c hcap W); have HCAP := Lib.hid (show t.length ≤ c - 1 by omega); have h7 := gate_facts ((hb1.block _ (by have h6 := HSZ0.out; omega)).trans HBOX.out); have Q := Lib.hid h7; clear hb1 hw1 hcap z1 h7 HSZ0 HW0 HBOX; generalize behind g c = ad at HW hsl) | (go_at_call 95; refine (HN.out _ _ _ HW.out).mono ?_; rintro e w2 ⟨hb2, A, vc, rfl, hv⟩; have z0 := (hb2.cell (World.block_lt_of_cell? _ _ HZ.out)).trans HZ.out; have r0 := (hb2.cell (p := ⟨w.heap.size, 0, none⟩) hN).trans Q.out.1; have r1 := (hb2.cell (p := ⟨w.heap.size, 1, none⟩) hN).trans Q.out.2.1; have r2 := (hb2.cell (p := ⟨w.heap.size, 2, none⟩) hN).trans Q.out.2.2.1; have r3 := (hb2.cell (p := ⟨w.heap.size, 3, none⟩) hN).trans Q.out.2.2.2.1; have f0 := (hb2.frozen (p := ⟨w.heap.size, 0, none⟩) hN).trans Q.out.2.2.2.2.1; have f1 := (hb2.frozen (p := ⟨w.heap.size, 1, none⟩) hN).trans Q.out.2.2.2.2.2.1; have f2 := (hb2.frozen (p := ⟨w.heap.size, 2, none⟩) hN).trans Q.out.2.2.2.2.2.2.1; have f3 := (hb2.frozen (p := ⟨w.heap.size, 3, none⟩) hN).trans Q.out.2.2.2.2.2.2.2; have HB2 := Lib.hid (HB1.out.trans (hb2.mono (by omega))); clear Q HW HZ hsl hb2; clear hv))
  all_goals (try simp only [Exit.inBlock, Exit.then])
  all_goals refine bodyPost_ret (v := .tuple #[.agg #[.int .i64 0, .int .i64 0, .int .i64 0, .int .u64 0], .bool false]) ?_ rfl ⟨?_, 0, 0, 0, 0, rfl⟩
  all_goals first
    | (rw [results_cell_tmp rfl]; go_simp; done)
    | (have hw := HB2.out; repeat (first | exact hw | refine Below.drew ?_ | refine below_drewN ?_ _ | refine Below.alloc ?_ (by first | omega | (simp; omega)) _ | refine Below.setCell ?_ (by simp) _))
set_option maxHeartbeats 4000000 in
set_option maxRecDepth 100000 in
theorem rgate_w5 (s : Bs) (hs : s.length ≤ 4194304) (w : World) (t : List Bs) (hc : cut 32 s = kwScale :: t) (ns : List Nat) (hm : ((ns.length : Int) == 2) = false) (hns : allOf valOf t = some ns) :
    Calls Tryz.prog 68 #[.string ⟨s.toArray⟩] w (GatePostR none w) := by
  have hlen : t.length ≤ 4194304 := by
    have := cut_len 32 s
    rw [hc, List.length_cons] at this
    have : s.count 32 ≤ s.length := List.count_le_length
    omega
  have hsp := parts_any s hs (w.alloc (.cells #[.int .i64 0, .int .i64 0, .int .i64 0, .int .u64 0] 69))
  rw [hc] at hsp
  have HSP : Hid (Calls Tryz.prog 93 #[.string ⟨s.toArray⟩] (w.alloc (.cells #[.int .i64 0, .int .i64 0, .int .i64 0, .int .u64 0] 69)) (HeadPost kwScale t (w.alloc (.cells #[.int .i64 0, .int .i64 0, .int .i64 0, .int .u64 0] 69)))) := Lib.hid (hsp.mono (by rintro e w' ⟨v, rfl, k⟩; exact head_of k))
  have HSZ0 := Lib.hid (show (w.alloc (.cells #[.int .i64 0, .int .i64 0, .int .i64 0, .int .u64 0] 69)).heap.size = w.heap.size + 1 by simp)
  have HW0 : Hid (Below w.heap.size w (w.alloc (.cells #[.int .i64 0, .int .i64 0, .int .i64 0, .int .u64 0] 69))) := Lib.hid ((Below.refl _ _).alloc (Nat.le_refl _) _)
  have HBOX : Hid ((w.alloc (.cells #[.int .i64 0, .int .i64 0, .int .i64 0, .int .u64 0] 69)).heap[w.heap.size]? = some (.cells #[.int .i64 0, .int .i64 0, .int .i64 0, .int .u64 0] 69 (0, 0))) := Lib.hid (by have h5 := heap_alloc_new w (.cells #[.int .i64 0, .int .i64 0, .int .i64 0, .int .u64 0] 69); simpa using h5)
  have hS : ∀ x ∈ t, x.length ≤ 281474976710656 := fun x hx => by
    have h1 := cut_part 32 s x (by rw [hc]; exact List.mem_cons_of_mem _ hx)
    omega
  have hn := fun ad c W hw => rvals_any' t hlen hS ad c W hw
  rw [hns] at hn
  have HN := Lib.hid hn
  clear hsp hn hc hns hs hlen hS
  have hkw : (⟨kwScale.toArray⟩ : ByteArray) = ⟨#[115, 99, 97, 108, 101]⟩ := rfl
  go_enter Tryz.func68, Tryz.ntmps68
  go_wp2_with (first | (go_at_call 93; refine HSP.out.mono ?_; rintro e w1 ⟨g, c, rfl, hcap, z1, hw1, hb1⟩; have hN : w.heap.size < w1.heap.size := (by have h5 := hb1.size; have h6 := HSZ0.out; omega); have hno : ¬ w.heap.size = w1.heap.size := Nat.ne_of_lt hN; have HB1 := Lib.hid (HW0.out.trans (hb1.mono (by have h6 := HSZ0.out; omega))); rw [hkw] at z1; have HZ := Lib.hid z1; have HW := Lib.hid hw1; have hsl := (fun W => run_behind g t.length c hcap W); have HCAP := Lib.hid (show t.length ≤ c - 1 by omega); have h7 := gate_facts ((hb1.block _ (by have h6 := HSZ0.out; omega)).trans HBOX.out); have Q := Lib.hid h7; clear hb1 hw1 hcap z1 h7 HSZ0 HW0 HBOX; generalize behind g c = ad at HW hsl) | (go_at_call 95; refine (HN.out _ _ _ HW.out).mono ?_; rintro e w2 ⟨hb2, A, vc, rfl, hv⟩; have z0 := (hb2.cell (World.block_lt_of_cell? _ _ HZ.out)).trans HZ.out; have r0 := (hb2.cell (p := ⟨w.heap.size, 0, none⟩) hN).trans Q.out.1; have r1 := (hb2.cell (p := ⟨w.heap.size, 1, none⟩) hN).trans Q.out.2.1; have r2 := (hb2.cell (p := ⟨w.heap.size, 2, none⟩) hN).trans Q.out.2.2.1; have r3 := (hb2.cell (p := ⟨w.heap.size, 3, none⟩) hN).trans Q.out.2.2.2.1; have f0 := (hb2.frozen (p := ⟨w.heap.size, 0, none⟩) hN).trans Q.out.2.2.2.2.1; have f1 := (hb2.frozen (p := ⟨w.heap.size, 1, none⟩) hN).trans Q.out.2.2.2.2.2.1; have f2 := (hb2.frozen (p := ⟨w.heap.size, 2, none⟩) hN).trans Q.out.2.2.2.2.2.2.1; have f3 := (hb2.frozen (p := ⟨w.heap.size, 3, none⟩) hN).trans Q.out.2.2.2.2.2.2.2; have HB2 := Lib.hid (HB1.out.trans (hb2.mono (by omega))); clear Q HW HZ hsl hb2; clear hv))
  all_goals (try simp only [Exit.inBlock, Exit.then])
  all_goals refine bodyPost_ret (v := .tuple #[.agg #[.int .i64 0, .int .i64 0, .int .i64 0, .int .u64 0], .bool false]) ?_ rfl ⟨?_, 0, 0, 0, 0, rfl⟩
  all_goals first
    | (rw [results_cell_tmp rfl]; go_simp; done)
    | (have hw := HB2.out; repeat (first | exact hw | refine Below.drew ?_ | refine below_drewN ?_ _ | refine Below.alloc ?_ (by first | omega | (simp; omega)) _ | refine Below.setCell ?_ (by simp) _))
end Go.Proofs.YtmnbgamnbgdnnaaGreatDoor
