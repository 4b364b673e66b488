/- Contract of circ.readGate. (Printed by wip/tools/gen_rgate.py.) -/
import Derived.Test.YtmnbgamnbgdnnaaGreatDoorCjA
import Derived.Deep.RegionHeld3
namespace Go.Proofs.YtmnbgamnbgdnnaaGreatDoor
open Go.RowKit Go.Maps

set_option maxHeartbeats 2000000 in
set_option maxRecDepth 100000 in
theorem readGate_b0 (s : Bs) (hs : s.length ≤ 4194304) (w : World) (hE : Env w) (h : Bs) (t : List Bs) (hc : cut 32 s = h :: t) (ns : List Nat) (hns : allOf valOf t = some ns) (hk : kindOf h = (0, 0)) :
    Calls Tryz.prog 63 #[.string ⟨s.toArray⟩] w (GatePostR none w) := by
  have hlen : t.length ≤ 4194304 := by
    have := cut_len 32 s
    rw [hc, List.length_cons] at this
    have : s.count 32 ≤ s.length := List.count_le_length
    omega
  have hnb : ns.length ≤ 4194304 := by rw [allOf_len hns]; exact hlen
  have hW0 : Below w.heap.size w (w.alloc (.cells #[.int .i64 0, .int .i64 0, .int .i64 0, .int .u64 0] 69)) := (Below.refl _ _).alloc (Nat.le_refl _) _
  have hsp := split_any s 32 (w.alloc (.cells #[.int .i64 0, .int .i64 0, .int .i64 0, .int .u64 0] 69)) (by omega)
  rw [hc, List.length_cons] at hsp
  have HSP := Lib.hid hsp; clear hsp
  have hS : ∀ x ∈ t, x.length ≤ 281474976710656 := fun x hx => by
    have h1 := cut_part 32 s x (by rw [hc]; exact List.mem_cons_of_mem _ hx)
    omega
  have hb2 := (Below.refl (w.alloc (.cells #[.int .i64 0, .int .i64 0, .int .i64 0, .int .u64 0] 69)).heap.size _).alloc (Nat.le_refl _) (.cells (sCells (h :: t)).toArray 9)
  have hnum := numbers_any t (by omega) hS _ t.length _ ((hE.below hW0).below hb2) (words_new _ t h)
  rw [hns] at hnum
  have HN := Lib.hid hnum
  have hsl := fun W => run_tail (w.alloc (.cells #[.int .i64 0, .int .i64 0, .int .i64 0, .int .u64 0] 69)).heap.size t.length W
  have HZ := Lib.hid (word_zero (w.alloc (.cells #[.int .i64 0, .int .i64 0, .int .i64 0, .int .u64 0] 69)) t h)
  have HB1 : Hid (Below w.heap.size w ((w.alloc (.cells #[.int .i64 0, .int .i64 0, .int .i64 0, .int .u64 0] 69)).alloc (.cells (sCells (h :: t)).toArray 9))) := Lib.hid (hW0.alloc (by simp) _)
  clear hnum hS hb2 hW0 hE hns hs
  rw [show (w.alloc (.cells #[.int .i64 0, .int .i64 0, .int .i64 0, .int .u64 0] 69)).heap.size = w.heap.size + 1 by simp] at HSP HN hsl HZ
  generalize tailAd (w.heap.size + 1) t.length = ad at HN hsl
  have hmm : ∀ W, (Instr.makeMap 132 none).run Tryz.prog W = .ok (.map (some W.heap.size)) (W.alloc (.map kmap0 0)) := fun W => run_makeMap_plain W 132
  have hp1 := put1
  have hp2 := put2
  have hp3 := put3
  have hp4 := put4
  have hp5 := put5
  have hp6 := put6
  have hlk := fun W => run_kind W h
  rw [hk] at hlk
  go_enter Tryz.func63, Tryz.ntmps63
  go_wp2_with (first | (go_at_call 61; refine HSP.out.mono ?_; rintro e w1 ⟨rfl, rfl⟩) | (go_at_call 92; refine HN.out.mono ?_; rintro e w2 ⟨hb2, v, rfl, hown⟩; have z0 := (hb2.cell (p := ⟨w.heap.size + 1, 0, none⟩) (by simp)).trans HZ.out; have hsz2 : w.heap.size + 1 < w2.heap.size := (by have h5 := hb2.size; simp at h5; omega); have hlt1 : w.heap.size < w2.heap.size := (by omega); have hlt2 : w.heap.size < w2.heap.size + 1 := (by omega); have hno1 : ¬ w.heap.size = w2.heap.size := (by omega); have hno2 : ¬ w.heap.size = w2.heap.size + 1 := (by omega); have r0 := hb2.cell (p := ⟨w.heap.size, 0, none⟩) (by simp; omega); have r1 := hb2.cell (p := ⟨w.heap.size, 1, none⟩) (by simp; omega); have r2 := hb2.cell (p := ⟨w.heap.size, 2, none⟩) (by simp; omega); have r3 := hb2.cell (p := ⟨w.heap.size, 3, none⟩) (by simp; omega); simp at r0 r1 r2 r3; have f0 := hb2.frozen (p := ⟨w.heap.size, 0, none⟩) (by simp; omega); have f1 := hb2.frozen (p := ⟨w.heap.size, 1, none⟩) (by simp; omega); have f2 := hb2.frozen (p := ⟨w.heap.size, 2, none⟩) (by simp; omega); have f3 := hb2.frozen (p := ⟨w.heap.size, 3, none⟩) (by simp; omega); simp at f0 f1 f2 f3; have HO := Lib.hid hown; clear hown; have HB2 := Lib.hid hb2; clear hb2))
  (try simp only [Exit.inBlock, Exit.then])
  refine bodyPost_ret (v := .tuple #[.agg #[.int .i64 0, .int .i64 0, .int .i64 0, .int .u64 0], .bool false]) ?_ rfl ⟨?_, 0, 0, 0, 0, rfl⟩
  · rw [results_cell_tmp rfl]
    go_simp
  · have hw := HB1.out.trans (HB2.out.mono (by simp; omega)); repeat (first | exact hw | refine Below.alloc ?_ (by simp; omega) _ | refine Below.setCell ?_ (by simp) _)
set_option maxHeartbeats 2000000 in
set_option maxRecDepth 100000 in
theorem readGate_bm (s : Bs) (hs : s.length ≤ 4194304) (w : World) (hE : Env w) (h : Bs) (t : List Bs) (hc : cut 32 s = h :: t) (ns : List Nat) (hns : allOf valOf t = some ns) (k m : Int) (hk : kindOf h = (k, m)) (hk0 : (k == 0) = false) (hm : ¬ m = (ns.length : Int)) :
    Calls Tryz.prog 63 #[.string ⟨s.toArray⟩] w (GatePostR none w) := by
  have hlen : t.length ≤ 4194304 := by
    have := cut_len 32 s
    rw [hc, List.length_cons] at this
    have : s.count 32 ≤ s.length := List.count_le_length
    omega
  have hnb : ns.length ≤ 4194304 := by rw [allOf_len hns]; exact hlen
  have hW0 : Below w.heap.size w (w.alloc (.cells #[.int .i64 0, .int .i64 0, .int .i64 0, .int .u64 0] 69)) := (Below.refl _ _).alloc (Nat.le_refl _) _
  have hsp := split_any s 32 (w.alloc (.cells #[.int .i64 0, .int .i64 0, .int .i64 0, .int .u64 0] 69)) (by omega)
  rw [hc, List.length_cons] at hsp
  have HSP := Lib.hid hsp; clear hsp
  have hS : ∀ x ∈ t, x.length ≤ 281474976710656 := fun x hx => by
    have h1 := cut_part 32 s x (by rw [hc]; exact List.mem_cons_of_mem _ hx)
    omega
  have hb2 := (Below.refl (w.alloc (.cells #[.int .i64 0, .int .i64 0, .int .i64 0, .int .u64 0] 69)).heap.size _).alloc (Nat.le_refl _) (.cells (sCells (h :: t)).toArray 9)
  have hnum := numbers_any t (by omega) hS _ t.length _ ((hE.below hW0).below hb2) (words_new _ t h)
  rw [hns] at hnum
  have HN := Lib.hid hnum
  have hsl := fun W => run_tail (w.alloc (.cells #[.int .i64 0, .int .i64 0, .int .i64 0, .int .u64 0] 69)).heap.size t.length W
  have HZ := Lib.hid (word_zero (w.alloc (.cells #[.int .i64 0, .int .i64 0, .int .i64 0, .int .u64 0] 69)) t h)
  have HB1 : Hid (Below w.heap.size w ((w.alloc (.cells #[.int .i64 0, .int .i64 0, .int .i64 0, .int .u64 0] 69)).alloc (.cells (sCells (h :: t)).toArray 9))) := Lib.hid (hW0.alloc (by simp) _)
  clear hnum hS hb2 hW0 hE hns hs
  rw [show (w.alloc (.cells #[.int .i64 0, .int .i64 0, .int .i64 0, .int .u64 0] 69)).heap.size = w.heap.size + 1 by simp] at HSP HN hsl HZ
  generalize tailAd (w.heap.size + 1) t.length = ad at HN hsl
  have hmm : ∀ W, (Instr.makeMap 132 none).run Tryz.prog W = .ok (.map (some W.heap.size)) (W.alloc (.map kmap0 0)) := fun W => run_makeMap_plain W 132
  have hp1 := put1
  have hp2 := put2
  have hp3 := put3
  have hp4 := put4
  have hp5 := put5
  have hp6 := put6
  have hlk := fun W => run_kind W h
  rw [hk] at hlk
  go_enter Tryz.func63, Tryz.ntmps63
  go_wp2_with (first | (go_at_call 61; refine HSP.out.mono ?_; rintro e w1 ⟨rfl, rfl⟩) | (go_at_call 92; refine HN.out.mono ?_; rintro e w2 ⟨hb2, v, rfl, hown⟩; have z0 := (hb2.cell (p := ⟨w.heap.size + 1, 0, none⟩) (by simp)).trans HZ.out; have hsz2 : w.heap.size + 1 < w2.heap.size := (by have h5 := hb2.size; simp at h5; omega); have hlt1 : w.heap.size < w2.heap.size := (by omega); have hlt2 : w.heap.size < w2.heap.size + 1 := (by omega); have hno1 : ¬ w.heap.size = w2.heap.size := (by omega); have hno2 : ¬ w.heap.size = w2.heap.size + 1 := (by omega); have r0 := hb2.cell (p := ⟨w.heap.size, 0, none⟩) (by simp; omega); have r1 := hb2.cell (p := ⟨w.heap.size, 1, none⟩) (by simp; omega); have r2 := hb2.cell (p := ⟨w.heap.size, 2, none⟩) (by simp; omega); have r3 := hb2.cell (p := ⟨w.heap.size, 3, none⟩) (by simp; omega); simp at r0 r1 r2 r3; have f0 := hb2.frozen (p := ⟨w.heap.size, 0, none⟩) (by simp; omega); have f1 := hb2.frozen (p := ⟨w.heap.size, 1, none⟩) (by simp; omega); have f2 := hb2.frozen (p := ⟨w.heap.size, 2, none⟩) (by simp; omega); have f3 := hb2.frozen (p := ⟨w.heap.size, 3, none⟩) (by simp; omega); simp at f0 f1 f2 f3; have HO := Lib.hid hown; clear hown; have HB2 := Lib.hid hb2; clear hb2; obtain ⟨VA, vc, rfl, _⟩ := own_reads HO.out))
  (try simp only [Exit.inBlock, Exit.then])
  refine bodyPost_ret (v := .tuple #[.agg #[.int .i64 0, .int .i64 0, .int .i64 0, .int .u64 0], .bool false]) ?_ rfl ⟨?_, 0, 0, 0, 0, rfl⟩
  · rw [results_cell_tmp rfl]
    go_simp
  · have hw := HB1.out.trans (HB2.out.mono (by simp; omega)); repeat (first | exact hw | refine Below.alloc ?_ (by simp; omega) _ | refine Below.setCell ?_ (by simp) _)
theorem startG {W : World} {kb g : Nat} {k a b : Value} (h1 : W.cell? ⟨kb, 0, none⟩ = some k) (h2 : W.cell? ⟨g, 0, none⟩ = some a) (h3 : W.cell? ⟨g, 1, none⟩ = some b) :
    W.drew.cell? ⟨kb, 0, none⟩ = some k ∧ W.drew.cell? ⟨g, 0, none⟩ = some a ∧ W.drew.cell? ⟨g, 1, none⟩ = some b ∧ Hid (Below W.heap.size W W.drew) := ⟨h1, h2, h3, (Below.refl _ _).drew⟩
theorem stepG {W0 W W' : World} {kb g : Nat} {k a b : Value} (h : W.cell? ⟨kb, 0, none⟩ = some k ∧ W.cell? ⟨g, 0, none⟩ = some a ∧ W.cell? ⟨g, 1, none⟩ = some b ∧ Hid (Below W0.heap.size W0 W)) (hb : Below W.heap.size W W') :
    W'.cell? ⟨kb, 0, none⟩ = some k ∧ W'.cell? ⟨g, 0, none⟩ = some a ∧ W'.cell? ⟨g, 1, none⟩ = some b ∧ Hid (Below W0.heap.size W0 W') :=
  ⟨(hb.cell (World.block_lt_of_cell? W _ h.1)).trans h.1, (hb.cell (World.block_lt_of_cell? W _ h.2.1)).trans h.2.1, (hb.cell (World.block_lt_of_cell? W _ h.2.2.1)).trans h.2.2.1, below_alive h.2.2.2.out hb⟩
theorem kb_cell (W : World) (m : Obj) (a b : Value) (t : TypeId) : ((W.alloc m).alloc (.cells #[a, b] t)).cell? ⟨W.heap.size + 1, 0, none⟩ = some a := by
  rw [World.cell?_alloc_at (hn := by simp)]
  rfl
set_option maxHeartbeats 2000000 in
set_option maxRecDepth 100000 in
theorem readGate_p (s : Bs) (hs : s.length ≤ 4194304) (w : World) (hE : Env w) (h : Bs) (t : List Bs) (hc : cut 32 s = h :: t) (ns : List Nat) (hns : allOf valOf t = some ns) (k : Int) (hk : kindOf h = (k, (ns.length : Int))) (hk0 : (k == 0) = false) (hk2 : (k == 2) = false) (hk6 : (k == 6) = false) (a b : Nat) (hc0 : (iCells (ns.map Int.ofNat) ++ [Value.int .i64 0])[0]? = some (.int .i64 (a : Int))) (hc1 : (iCells (ns.map Int.ofNat) ++ [Value.int .i64 0])[1]? = some (.int .i64 (b : Int))) (hnpos : 0 < ns.length) :
    Calls Tryz.prog 63 #[.string ⟨s.toArray⟩] w (GatePostR (some (k, a, b, 0)) w) := by
  have hlen : t.length ≤ 4194304 := by
    have := cut_len 32 s
    rw [hc, List.length_cons] at this
    have : s.count 32 ≤ s.length := List.count_le_length
    omega
  have hnb : ns.length ≤ 4194304 := by rw [allOf_len hns]; exact hlen
  have hW0 : Below w.heap.size w (w.alloc (.cells #[.int .i64 0, .int .i64 0, .int .i64 0, .int .u64 0] 69)) := (Below.refl _ _).alloc (Nat.le_refl _) _
  have hsp := split_any s 32 (w.alloc (.cells #[.int .i64 0, .int .i64 0, .int .i64 0, .int .u64 0] 69)) (by omega)
  rw [hc, List.length_cons] at hsp
  have HSP := Lib.hid hsp; clear hsp
  have hS : ∀ x ∈ t, x.length ≤ 281474976710656 := fun x hx => by
    have h1 := cut_part 32 s x (by rw [hc]; exact List.mem_cons_of_mem _ hx)
    omega
  have hb2 := (Below.refl (w.alloc (.cells #[.int .i64 0, .int .i64 0, .int .i64 0, .int .u64 0] 69)).heap.size _).alloc (Nat.le_refl _) (.cells (sCells (h :: t)).toArray 9)
  have hnum := numbers_any t (by omega) hS _ t.length _ ((hE.below hW0).below hb2) (words_new _ t h)
  rw [hns] at hnum
  have HN := Lib.hid hnum
  have hsl := fun W => run_tail (w.alloc (.cells #[.int .i64 0, .int .i64 0, .int .i64 0, .int .u64 0] 69)).heap.size t.length W
  have HZ := Lib.hid (word_zero (w.alloc (.cells #[.int .i64 0, .int .i64 0, .int .i64 0, .int .u64 0] 69)) t h)
  have HB1 : Hid (Below w.heap.size w ((w.alloc (.cells #[.int .i64 0, .int .i64 0, .int .i64 0, .int .u64 0] 69)).alloc (.cells (sCells (h :: t)).toArray 9))) := Lib.hid (hW0.alloc (by simp) _)
  clear hnum hS hb2 hW0 hE hns hs
  rw [show (w.alloc (.cells #[.int .i64 0, .int .i64 0, .int .i64 0, .int .u64 0] 69)).heap.size = w.heap.size + 1 by simp] at HSP HN hsl HZ
  generalize tailAd (w.heap.size + 1) t.length = ad at HN hsl
  have hmm : ∀ W, (Instr.makeMap 132 none).run Tryz.prog W = .ok (.map (some W.heap.size)) (W.alloc (.map kmap0 0)) := fun W => run_makeMap_plain W 132
  have hp1 := put1
  have hp2 := put2
  have hp3 := put3
  have hp4 := put4
  have hp5 := put5
  have hp6 := put6
  have hlk := fun W => run_kind W h
  rw [hk] at hlk
  go_enter Tryz.func63, Tryz.ntmps63
  go_wp2_with (first | (go_at_call 61; refine HSP.out.mono ?_; rintro e w1 ⟨rfl, rfl⟩) | (go_at_call 92; refine HN.out.mono ?_; rintro e w2 ⟨hb2, v, rfl, hown⟩; have z0 := (hb2.cell (p := ⟨w.heap.size + 1, 0, none⟩) (by simp)).trans HZ.out; have hsz2 : w.heap.size + 1 < w2.heap.size := (by have h5 := hb2.size; simp at h5; omega); have hlt1 : w.heap.size < w2.heap.size := (by omega); have hlt2 : w.heap.size < w2.heap.size + 1 := (by omega); have hno1 : ¬ w.heap.size = w2.heap.size := (by omega); have hno2 : ¬ w.heap.size = w2.heap.size + 1 := (by omega); have r0 := hb2.cell (p := ⟨w.heap.size, 0, none⟩) (by simp; omega); have r1 := hb2.cell (p := ⟨w.heap.size, 1, none⟩) (by simp; omega); have r2 := hb2.cell (p := ⟨w.heap.size, 2, none⟩) (by simp; omega); have r3 := hb2.cell (p := ⟨w.heap.size, 3, none⟩) (by simp; omega); simp at r0 r1 r2 r3; have f0 := hb2.frozen (p := ⟨w.heap.size, 0, none⟩) (by simp; omega); have f1 := hb2.frozen (p := ⟨w.heap.size, 1, none⟩) (by simp; omega); have f2 := hb2.frozen (p := ⟨w.heap.size, 2, none⟩) (by simp; omega); have f3 := hb2.frozen (p := ⟨w.heap.size, 3, none⟩) (by simp; omega); simp at f0 f1 f2 f3; have HO := Lib.hid hown; clear hown; have HB2 := Lib.hid hb2; clear hb2; obtain ⟨gv, vcap, rfl, hgv, _⟩ := own_form HO.out hnpos; have hgl := (HO.out.lt gv rfl).2; simp at hgv) | (at_builtin; go_loud (refine app_cells (w.heap.size + 2) rfl _ _ 61 3 _ 1 8 rfl Tryz.underlying61 infoI rfl (by decide) (by decide) (.slice (some ⟨gv, 0, none⟩) ns.length vcap) ns.length _ [.int .i64 0] rfl _ rfl (by simp) rfl (by intro u hu; simp at hu; subst hu; rfl) ((own_lower HO.out (by simp)).alloc _ |>.alloc _) (by simp; omega) (by omega) ?_; intro v3 w3 hown3 hg3; have k0 := hg3.cell (a := ⟨w2.heap.size + 1, 0, none⟩) (v := .int .i64 k) (kb_cell _ _ _ _ _) (by intro e; have e1 : w2.heap.size + 1 = gv := (by injection e); omega); have hsz3 := hg3.size; simp at hsz3; have HB3 := Lib.hid (((((HB2.out.alloc (by simp; omega) (.map kmap6 6)).alloc (by simp; omega) (.cells #[.int .i64 k, .int .i64 (ns.length : Int)] 131))).grown hg3 (by simp; omega) (fun q hq => by cases hq; simp; omega))); clear hg3; obtain ⟨g3, c3, rfl, hg3b, _⟩ := own_form hown3 (by omega); have hg3l := (hown3.lt g3 rfl).2; have n0 := (hown3.cellAt 0 (by omega)).trans hc0; have n1 := (hown3.cellAt 1 (by omega)).trans hc1; clear hown3; clear r0 r1 r2 r3 f0 f1 f2 f3; have r0 := HB3.out.cell (p := ⟨w.heap.size, 0, none⟩) (by simp; omega); have f0 := HB3.out.frozen (p := ⟨w.heap.size, 0, none⟩) (by simp; omega); have r1 := HB3.out.cell (p := ⟨w.heap.size, 1, none⟩) (by simp; omega); have f1 := HB3.out.frozen (p := ⟨w.heap.size, 1, none⟩) (by simp; omega); have r2 := HB3.out.cell (p := ⟨w.heap.size, 2, none⟩) (by simp; omega); have f2 := HB3.out.frozen (p := ⟨w.heap.size, 2, none⟩) (by simp; omega); have r3 := HB3.out.cell (p := ⟨w.heap.size, 3, none⟩) (by simp; omega); have f3 := HB3.out.frozen (p := ⟨w.heap.size, 3, none⟩) (by simp; omega); simp at r0 r1 r2 r3 f0 f1 f2 f3)))
  have hx1 : w2.heap.size + 1 < w3.heap.size := by omega
  have hx4 : (1 : Int) < (ns.length : Int) + 1 := by omega
  have hx5 : 1 < ns.length + 1 := by omega
  have hx2 : w.heap.size < w3.heap.size := by omega
  have hx3 : ¬ w.heap.size = w3.heap.size := by omega
  have hx6 : g3 < w3.heap.size := by omega
  have hx7 : ¬ g3 = w3.heap.size := by omega
  have hS0 := startG (W := w3) (kb := w2.heap.size + 1) (g := g3) k0 n0 n1
  go_region_held3 (fun W => W.cell? ⟨w2.heap.size + 1, 0, none⟩ = some (.int .i64 k) ∧ W.cell? ⟨g3, 0, none⟩ = some (.int .i64 a) ∧ W.cell? ⟨g3, 1, none⟩ = some (.int .i64 b) ∧ Hid (Below w3.heap.size w3 W)) (first | assumption | exact stepG (by assumption) ((Below.refl _ _).alloc (Nat.le_refl _) _) | exact stepG (W := w3) (W0 := w3) ⟨k0, n0, n1, Below.refl _ _⟩ (((Below.refl _ _).alloc (Nat.le_refl _) _).drew)) (fail)
  go_wp2
  all_goals (try simp only [Exit.inBlock, Exit.then])
  all_goals refine bodyPost_ret (v := .tuple #[.agg #[.int .i64 k, .int .i64 a, .int .i64 b, .int .u64 0], .bool true]) ?_ rfl ⟨?_, rfl⟩
  all_goals first
    | (rw [results_cell_tmp rfl]; go_simp; done)
    | (have hw := HB1.out.trans (HB3.out.mono (by simp; omega)); repeat (first | exact hw | refine Below.drew ?_ | refine Below.alloc ?_ (by simp; omega) _ | refine Below.setCell ?_ (by simp) _))
set_option maxHeartbeats 2000000 in
set_option maxRecDepth 100000 in
theorem readGate_c (s : Bs) (hs : s.length ≤ 4194304) (w : World) (hE : Env w) (h : Bs) (t : List Bs) (hc : cut 32 s = h :: t) (ns : List Nat) (hns : allOf valOf t = some ns) (hk : kindOf h = (2, (ns.length : Int))) (a b : Nat) (ew : IntKind.u64.wrap (a : Int) = (a : Int)) (hc0 : (iCells (ns.map Int.ofNat) ++ [Value.int .i64 0])[0]? = some (.int .i64 (a : Int))) (hc1 : (iCells (ns.map Int.ofNat) ++ [Value.int .i64 0])[1]? = some (.int .i64 (b : Int))) (hnpos : 0 < ns.length) :
    Calls Tryz.prog 63 #[.string ⟨s.toArray⟩] w (GatePostR (some (2, 0, b, a)) w) := by
  have hlen : t.length ≤ 4194304 := by
    have := cut_len 32 s
    rw [hc, List.length_cons] at this
    have : s.count 32 ≤ s.length := List.count_le_length
    omega
  have hnb : ns.length ≤ 4194304 := by rw [allOf_len hns]; exact hlen
  have hW0 : Below w.heap.size w (w.alloc (.cells #[.int .i64 0, .int .i64 0, .int .i64 0, .int .u64 0] 69)) := (Below.refl _ _).alloc (Nat.le_refl _) _
  have hsp := split_any s 32 (w.alloc (.cells #[.int .i64 0, .int .i64 0, .int .i64 0, .int .u64 0] 69)) (by omega)
  rw [hc, List.length_cons] at hsp
  have HSP := Lib.hid hsp; clear hsp
  have hS : ∀ x ∈ t, x.length ≤ 281474976710656 := fun x hx => by
    have h1 := cut_part 32 s x (by rw [hc]; exact List.mem_cons_of_mem _ hx)
    omega
  have hb2 := (Below.refl (w.alloc (.cells #[.int .i64 0, .int .i64 0, .int .i64 0, .int .u64 0] 69)).heap.size _).alloc (Nat.le_refl _) (.cells (sCells (h :: t)).toArray 9)
  have hnum := numbers_any t (by omega) hS _ t.length _ ((hE.below hW0).below hb2) (words_new _ t h)
  rw [hns] at hnum
  have HN := Lib.hid hnum
  have hsl := fun W => run_tail (w.alloc (.cells #[.int .i64 0, .int .i64 0, .int .i64 0, .int .u64 0] 69)).heap.size t.length W
  have HZ := Lib.hid (word_zero (w.alloc (.cells #[.int .i64 0, .int .i64 0, .int .i64 0, .int .u64 0] 69)) t h)
  have HB1 : Hid (Below w.heap.size w ((w.alloc (.cells #[.int .i64 0, .int .i64 0, .int .i64 0, .int .u64 0] 69)).alloc (.cells (sCells (h :: t)).toArray 9))) := Lib.hid (hW0.alloc (by simp) _)
  clear hnum hS hb2 hW0 hE hns hs
  rw [show (w.alloc (.cells #[.int .i64 0, .int .i64 0, .int .i64 0, .int .u64 0] 69)).heap.size = w.heap.size + 1 by simp] at HSP HN hsl HZ
  generalize tailAd (w.heap.size + 1) t.length = ad at HN hsl
  have hmm : ∀ W, (Instr.makeMap 132 none).run Tryz.prog W = .ok (.map (some W.heap.size)) (W.alloc (.map kmap0 0)) := fun W => run_makeMap_plain W 132
  have hp1 := put1
  have hp2 := put2
  have hp3 := put3
  have hp4 := put4
  have hp5 := put5
  have hp6 := put6
  have hlk := fun W => run_kind W h
  rw [hk] at hlk
  go_enter Tryz.func63, Tryz.ntmps63
  go_wp2_with (first | (go_at_call 61; refine HSP.out.mono ?_; rintro e w1 ⟨rfl, rfl⟩) | (go_at_call 92; refine HN.out.mono ?_; rintro e w2 ⟨hb2, v, rfl, hown⟩; have z0 := (hb2.cell (p := ⟨w.heap.size + 1, 0, none⟩) (by simp)).trans HZ.out; have hsz2 : w.heap.size + 1 < w2.heap.size := (by have h5 := hb2.size; simp at h5; omega); have hlt1 : w.heap.size < w2.heap.size := (by omega); have hlt2 : w.heap.size < w2.heap.size + 1 := (by omega); have hno1 : ¬ w.heap.size = w2.heap.size := (by omega); have hno2 : ¬ w.heap.size = w2.heap.size + 1 := (by omega); have r0 := hb2.cell (p := ⟨w.heap.size, 0, none⟩) (by simp; omega); have r1 := hb2.cell (p := ⟨w.heap.size, 1, none⟩) (by simp; omega); have r2 := hb2.cell (p := ⟨w.heap.size, 2, none⟩) (by simp; omega); have r3 := hb2.cell (p := ⟨w.heap.size, 3, none⟩) (by simp; omega); simp at r0 r1 r2 r3; have f0 := hb2.frozen (p := ⟨w.heap.size, 0, none⟩) (by simp; omega); have f1 := hb2.frozen (p := ⟨w.heap.size, 1, none⟩) (by simp; omega); have f2 := hb2.frozen (p := ⟨w.heap.size, 2, none⟩) (by simp; omega); have f3 := hb2.frozen (p := ⟨w.heap.size, 3, none⟩) (by simp; omega); simp at f0 f1 f2 f3; have HO := Lib.hid hown; clear hown; have HB2 := Lib.hid hb2; clear hb2; obtain ⟨gv, vcap, rfl, hgv, _⟩ := own_form HO.out hnpos; have hgl := (HO.out.lt gv rfl).2; simp at hgv) | (at_builtin; go_loud (refine app_cells (w.heap.size + 2) rfl _ _ 61 3 _ 1 8 rfl Tryz.underlying61 infoI rfl (by decide) (by decide) (.slice (some ⟨gv, 0, none⟩) ns.length vcap) ns.length _ [.int .i64 0] rfl _ rfl (by simp) rfl (by intro u hu; simp at hu; subst hu; rfl) ((own_lower HO.out (by simp)).alloc _ |>.alloc _) (by simp; omega) (by omega) ?_; intro v3 w3 hown3 hg3; have k0 := hg3.cell (a := ⟨w2.heap.size + 1, 0, none⟩) (v := .int .i64 2) (kb_cell _ _ _ _ _) (by intro e; have e1 : w2.heap.size + 1 = gv := (by injection e); omega); have hsz3 := hg3.size; simp at hsz3; have HB3 := Lib.hid (((((HB2.out.alloc (by simp; omega) (.map kmap6 6)).alloc (by simp; omega) (.cells #[.int .i64 2, .int .i64 (ns.length : Int)] 131))).grown hg3 (by simp; omega) (fun q hq => by cases hq; simp; omega))); clear hg3; obtain ⟨g3, c3, rfl, hg3b, _⟩ := own_form hown3 (by omega); have hg3l := (hown3.lt g3 rfl).2; have n0 := (hown3.cellAt 0 (by omega)).trans hc0; have n1 := (hown3.cellAt 1 (by omega)).trans hc1; clear hown3; clear r0 r1 r2 r3 f0 f1 f2 f3; have r0 := HB3.out.cell (p := ⟨w.heap.size, 0, none⟩) (by simp; omega); have f0 := HB3.out.frozen (p := ⟨w.heap.size, 0, none⟩) (by simp; omega); have r1 := HB3.out.cell (p := ⟨w.heap.size, 1, none⟩) (by simp; omega); have f1 := HB3.out.frozen (p := ⟨w.heap.size, 1, none⟩) (by simp; omega); have r2 := HB3.out.cell (p := ⟨w.heap.size, 2, none⟩) (by simp; omega); have f2 := HB3.out.frozen (p := ⟨w.heap.size, 2, none⟩) (by simp; omega); have r3 := HB3.out.cell (p := ⟨w.heap.size, 3, none⟩) (by simp; omega); have f3 := HB3.out.frozen (p := ⟨w.heap.size, 3, none⟩) (by simp; omega); simp at r0 r1 r2 r3 f0 f1 f2 f3)))
  have hx1 : w2.heap.size + 1 < w3.heap.size := by omega
  have hx4 : (1 : Int) < (ns.length : Int) + 1 := by omega
  have hx5 : 1 < ns.length + 1 := by omega
  have hx2 : w.heap.size < w3.heap.size := by omega
  have hx3 : ¬ w.heap.size = w3.heap.size := by omega
  have hx6 : g3 < w3.heap.size := by omega
  have hx7 : ¬ g3 = w3.heap.size := by omega
  have hS0 := startG (W := w3) (kb := w2.heap.size + 1) (g := g3) k0 n0 n1
  go_region_held3 (fun W => W.cell? ⟨w2.heap.size + 1, 0, none⟩ = some (.int .i64 2) ∧ W.cell? ⟨g3, 0, none⟩ = some (.int .i64 a) ∧ W.cell? ⟨g3, 1, none⟩ = some (.int .i64 b) ∧ Hid (Below w3.heap.size w3 W)) (first | assumption | exact stepG (by assumption) ((Below.refl _ _).alloc (Nat.le_refl _) _) | exact stepG (W := w3) (W0 := w3) ⟨k0, n0, n1, Below.refl _ _⟩ (((Below.refl _ _).alloc (Nat.le_refl _) _).drew)) (fail)
  go_wp2
  have hS1 := stepG (W := w3) (W0 := w3) ⟨k0, n0, n1, Below.refl _ _⟩ ((((Below.refl _ _).alloc (Nat.le_refl _) (.cells #[.int .i64 2, .int .i64 a, .int .i64 b, .int .u64 0] 69)).drew).drew)
  go_region_held3 (fun W => W.cell? ⟨w2.heap.size + 1, 0, none⟩ = some (.int .i64 2) ∧ W.cell? ⟨g3, 0, none⟩ = some (.int .i64 a) ∧ W.cell? ⟨g3, 1, none⟩ = some (.int .i64 b) ∧ Hid (Below w3.heap.size w3 W)) (first | assumption | exact stepG (W := w3) (W0 := w3) ⟨k0, n0, n1, Below.refl _ _⟩ ((((Below.refl _ _).alloc (Nat.le_refl _) _).drew).drew)) (fail)
  all_goals (try go_wp2)
  all_goals (try simp only [Exit.inBlock, Exit.then])
  all_goals refine bodyPost_ret (v := .tuple #[.agg #[.int .i64 2, .int .i64 0, .int .i64 b, .int .u64 a], .bool true]) ?_ rfl ⟨?_, rfl⟩
  all_goals first
    | (rw [results_cell_tmp rfl]; go_simp; done)
    | (have hw := HB1.out.trans (HB3.out.mono (by simp; omega)); repeat (first | exact hw | refine Below.drew ?_ | refine Below.alloc ?_ (by simp; omega) _ | refine Below.setCell ?_ (by simp) _))
set_option maxHeartbeats 2000000 in
set_option maxRecDepth 100000 in
theorem readGate_s (s : Bs) (hs : s.length ≤ 4194304) (w : World) (hE : Env w) (h : Bs) (t : List Bs) (hc : cut 32 s = h :: t) (ns : List Nat) (hns : allOf valOf t = some ns) (hk : kindOf h = (6, (ns.length : Int))) (a b : Nat) (ew : IntKind.u64.wrap (b : Int) = (b : Int)) (hc0 : (iCells (ns.map Int.ofNat) ++ [Value.int .i64 0])[0]? = some (.int .i64 (a : Int))) (hc1 : (iCells (ns.map Int.ofNat) ++ [Value.int .i64 0])[1]? = some (.int .i64 (b : Int))) (hnpos : 0 < ns.length) :
    Calls Tryz.prog 63 #[.string ⟨s.toArray⟩] w (GatePostR (some (6, a, 0, b)) w) := by
  have hlen : t.length ≤ 4194304 := by
    have := cut_len 32 s
    rw [hc, List.length_cons] at this
    have : s.count 32 ≤ s.length := List.count_le_length
    omega
  have hnb : ns.length ≤ 4194304 := by rw [allOf_len hns]; exact hlen
  have hW0 : Below w.heap.size w (w.alloc (.cells #[.int .i64 0, .int .i64 0, .int .i64 0, .int .u64 0] 69)) := (Below.refl _ _).alloc (Nat.le_refl _) _
  have hsp := split_any s 32 (w.alloc (.cells #[.int .i64 0, .int .i64 0, .int .i64 0, .int .u64 0] 69)) (by omega)
  rw [hc, List.length_cons] at hsp
  have HSP := Lib.hid hsp; clear hsp
  have hS : ∀ x ∈ t, x.length ≤ 281474976710656 := fun x hx => by
    have h1 := cut_part 32 s x (by rw [hc]; exact List.mem_cons_of_mem _ hx)
    omega
  have hb2 := (Below.refl (w.alloc (.cells #[.int .i64 0, .int .i64 0, .int .i64 0, .int .u64 0] 69)).heap.size _).alloc (Nat.le_refl _) (.cells (sCells (h :: t)).toArray 9)
  have hnum := numbers_any t (by omega) hS _ t.length _ ((hE.below hW0).below hb2) (words_new _ t h)
  rw [hns] at hnum
  have HN := Lib.hid hnum
  have hsl := fun W => run_tail (w.alloc (.cells #[.int .i64 0, .int .i64 0, .int .i64 0, .int .u64 0] 69)).heap.size t.length W
  have HZ := Lib.hid (word_zero (w.alloc (.cells #[.int .i64 0, .int .i64 0, .int .i64 0, .int .u64 0] 69)) t h)
  have HB1 : Hid (Below w.heap.size w ((w.alloc (.cells #[.int .i64 0, .int .i64 0, .int .i64 0, .int .u64 0] 69)).alloc (.cells (sCells (h :: t)).toArray 9))) := Lib.hid (hW0.alloc (by simp) _)
  clear hnum hS hb2 hW0 hE hns hs
  rw [show (w.alloc (.cells #[.int .i64 0, .int .i64 0, .int .i64 0, .int .u64 0] 69)).heap.size = w.heap.size + 1 by simp] at HSP HN hsl HZ
  generalize tailAd (w.heap.size + 1) t.length = ad at HN hsl
  have hmm : ∀ W, (Instr.makeMap 132 none).run Tryz.prog W = .ok (.map (some W.heap.size)) (W.alloc (.map kmap0 0)) := fun W => run_makeMap_plain W 132
  have hp1 := put1
  have hp2 := put2
  have hp3 := put3
  have hp4 := put4
  have hp5 := put5
  have hp6 := put6
  have hlk := fun W => run_kind W h
  rw [hk] at hlk
  go_enter Tryz.func63, Tryz.ntmps63
  go_wp2_with (first | (go_at_call 61; refine HSP.out.mono ?_; rintro e w1 ⟨rfl, rfl⟩) | (go_at_call 92; refine HN.out.mono ?_; rintro e w2 ⟨hb2, v, rfl, hown⟩; have z0 := (hb2.cell (p := ⟨w.heap.size + 1, 0, none⟩) (by simp)).trans HZ.out; have hsz2 : w.heap.size + 1 < w2.heap.size := (by have h5 := hb2.size; simp at h5; omega); have hlt1 : w.heap.size < w2.heap.size := (by omega); have hlt2 : w.heap.size < w2.heap.size + 1 := (by omega); have hno1 : ¬ w.heap.size = w2.heap.size := (by omega); have hno2 : ¬ w.heap.size = w2.heap.size + 1 := (by omega); have r0 := hb2.cell (p := ⟨w.heap.size, 0, none⟩) (by simp; omega); have r1 := hb2.cell (p := ⟨w.heap.size, 1, none⟩) (by simp; omega); have r2 := hb2.cell (p := ⟨w.heap.size, 2, none⟩) (by simp; omega); have r3 := hb2.cell (p := ⟨w.heap.size, 3, none⟩) (by simp; omega); simp at r0 r1 r2 r3; have f0 := hb2.frozen (p := ⟨w.heap.size, 0, none⟩) (by simp; omega); have f1 := hb2.frozen (p := ⟨w.heap.size, 1, none⟩) (by simp; omega); have f2 := hb2.frozen (p := ⟨w.heap.size, 2, none⟩) (by simp; omega); have f3 := hb2.frozen (p := ⟨w.heap.size, 3, none⟩) (by simp; omega); simp at f0 f1 f2 f3; have HO := Lib.hid hown; clear hown; have HB2 := Lib.hid hb2; clear hb2; obtain ⟨gv, vcap, rfl, hgv, _⟩ := own_form HO.out hnpos; have hgl := (HO.out.lt gv rfl).2; simp at hgv) | (at_builtin; go_loud (refine app_cells (w.heap.size + 2) rfl _ _ 61 3 _ 1 8 rfl Tryz.underlying61 infoI rfl (by decide) (by decide) (.slice (some ⟨gv, 0, none⟩) ns.length vcap) ns.length _ [.int .i64 0] rfl _ rfl (by simp) rfl (by intro u hu; simp at hu; subst hu; rfl) ((own_lower HO.out (by simp)).alloc _ |>.alloc _) (by simp; omega) (by omega) ?_; intro v3 w3 hown3 hg3; have k0 := hg3.cell (a := ⟨w2.heap.size + 1, 0, none⟩) (v := .int .i64 6) (kb_cell _ _ _ _ _) (by intro e; have e1 : w2.heap.size + 1 = gv := (by injection e); omega); have hsz3 := hg3.size; simp at hsz3; have HB3 := Lib.hid (((((HB2.out.alloc (by simp; omega) (.map kmap6 6)).alloc (by simp; omega) (.cells #[.int .i64 6, .int .i64 (ns.length : Int)] 131))).grown hg3 (by simp; omega) (fun q hq => by cases hq; simp; omega))); clear hg3; obtain ⟨g3, c3, rfl, hg3b, _⟩ := own_form hown3 (by omega); have hg3l := (hown3.lt g3 rfl).2; have n0 := (hown3.cellAt 0 (by omega)).trans hc0; have n1 := (hown3.cellAt 1 (by omega)).trans hc1; clear hown3; clear r0 r1 r2 r3 f0 f1 f2 f3; have r0 := HB3.out.cell (p := ⟨w.heap.size, 0, none⟩) (by simp; omega); have f0 := HB3.out.frozen (p := ⟨w.heap.size, 0, none⟩) (by simp; omega); have r1 := HB3.out.cell (p := ⟨w.heap.size, 1, none⟩) (by simp; omega); have f1 := HB3.out.frozen (p := ⟨w.heap.size, 1, none⟩) (by simp; omega); have r2 := HB3.out.cell (p := ⟨w.heap.size, 2, none⟩) (by simp; omega); have f2 := HB3.out.frozen (p := ⟨w.heap.size, 2, none⟩) (by simp; omega); have r3 := HB3.out.cell (p := ⟨w.heap.size, 3, none⟩) (by simp; omega); have f3 := HB3.out.frozen (p := ⟨w.heap.size, 3, none⟩) (by simp; omega); simp at r0 r1 r2 r3 f0 f1 f2 f3)))
  have hx1 : w2.heap.size + 1 < w3.heap.size := by omega
  have hx4 : (1 : Int) < (ns.length : Int) + 1 := by omega
  have hx5 : 1 < ns.length + 1 := by omega
  have hx2 : w.heap.size < w3.heap.size := by omega
  have hx3 : ¬ w.heap.size = w3.heap.size := by omega
  have hx6 : g3 < w3.heap.size := by omega
  have hx7 : ¬ g3 = w3.heap.size := by omega
  have hS0 := startG (W := w3) (kb := w2.heap.size + 1) (g := g3) k0 n0 n1
  go_region_held3 (fun W => W.cell? ⟨w2.heap.size + 1, 0, none⟩ = some (.int .i64 6) ∧ W.cell? ⟨g3, 0, none⟩ = some (.int .i64 a) ∧ W.cell? ⟨g3, 1, none⟩ = some (.int .i64 b) ∧ Hid (Below w3.heap.size w3 W)) (first | assumption | exact stepG (by assumption) ((Below.refl _ _).alloc (Nat.le_refl _) _) | exact stepG (W := w3) (W0 := w3) ⟨k0, n0, n1, Below.refl _ _⟩ (((Below.refl _ _).alloc (Nat.le_refl _) _).drew)) (fail)
  go_wp2
  have hS1 := stepG (W := w3) (W0 := w3) ⟨k0, n0, n1, Below.refl _ _⟩ ((((Below.refl _ _).alloc (Nat.le_refl _) (.cells #[.int .i64 6, .int .i64 a, .int .i64 b, .int .u64 0] 69)).drew).drew)
  go_region_held3 (fun W => W.cell? ⟨w2.heap.size + 1, 0, none⟩ = some (.int .i64 6) ∧ W.cell? ⟨g3, 0, none⟩ = some (.int .i64 a) ∧ W.cell? ⟨g3, 1, none⟩ = some (.int .i64 b) ∧ Hid (Below w3.heap.size w3 W)) (first | assumption | exact stepG (W := w3) (W0 := w3) ⟨k0, n0, n1, Below.refl _ _⟩ ((((Below.refl _ _).alloc (Nat.le_refl _) _).drew).drew)) (fail)
  all_goals (try go_wp2)
  all_goals (try simp only [Exit.inBlock, Exit.then])
  all_goals refine bodyPost_ret (v := .tuple #[.agg #[.int .i64 6, .int .i64 a, .int .i64 0, .int .u64 b], .bool true]) ?_ rfl ⟨?_, rfl⟩
  all_goals first
    | (rw [results_cell_tmp rfl]; go_simp; done)
    | (have hw := HB1.out.trans (HB3.out.mono (by simp; omega)); repeat (first | exact hw | refine Below.drew ?_ | refine Below.alloc ?_ (by simp; omega) _ | refine Below.setCell ?_ (by simp) _))
end Go.Proofs.YtmnbgamnbgdnnaaGreatDoor
