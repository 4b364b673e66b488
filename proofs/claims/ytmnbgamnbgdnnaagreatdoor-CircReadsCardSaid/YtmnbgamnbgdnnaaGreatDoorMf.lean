/- Contracts and plain laws of chapter 12, merged: CjA CjB CjC. -/
import Derived.Test.YtmnbgamnbgdnnaaGreatDoorMe
import Derived.Maps.Own
import Derived.Maps.OwnOps
import Derived.Maps.Views
import Derived.Maps.Keyed
import Derived.Maps.OwnSet
import Derived.WideMake
import Derived.Laws.ResultCell
import Derived.Deep.RegionHeld3
/- Contract of circ.readGate. -/
namespace Go.Proofs.YtmnbgamnbgdnnaaGreatDoor
open Go.RowKit Go.Maps

def GatePostR (o : Option Gat) (w : World) (e : Ending) (w' : World) : Prop :=
  Below w.heap.size w w' ∧ match o with
    | none => ∃ a b c d, e = .returned (.tuple #[.agg #[.int .i64 a, .int .i64 b, .int .i64 c, .int .u64 d], .bool false])
    | some g => e = .returned (.tuple #[.agg #[.int .i64 g.1, .int .i64 g.2.1, .int .i64 g.2.2.1, .int .u64 g.2.2.2], .bool true])
theorem run_put (mty kt et : TypeId) (hm : Tryz.prog.underlying mty = some (.map kt et)) (hk : Tryz.prog.underlying kt = some .string) (W : World) (es es' : Array MapEntry) (clock : Nat) (s : ByteArray) (val : Value) (hf : Instr.findNow .string (.string s) es.toList 0 = some none) (he : es.push { key := .string s, val := val, born := clock } = es') :
    (Instr.mapUpdate mty (.map (some W.heap.size)) (.string s) val).run Tryz.prog (W.alloc (.map es clock)) = .ok () (W.alloc (.map es' (clock + 1))) := by
  subst he
  have hb : (W.alloc (.map es clock)).heap[W.heap.size]? = some (.map es clock) := heap_alloc_new _ _
  have hc : (Instr.checkKey false 10000 kt (.string s)).run Tryz.prog (W.alloc (.map es clock)) = .ok () (W.alloc (.map es clock)) := MapKept.run_checkKey (k := .string s) hk (by simp [MapKept.IsKey]) false 9999
  have hh : ({ W.alloc (.map es clock) with heap := (W.alloc (.map es clock)).heap.setIfInBounds W.heap.size (.map (es.push { key := .string s, val := val, born := clock }) (clock + 1)) } : World) = W.alloc (.map (es.push { key := .string s, val := val, born := clock }) (clock + 1)) := by
    have ha : (W.heap.push (.map es clock)).setIfInBounds W.heap.size (.map (es.push { key := .string s, val := val, born := clock }) (clock + 1)) = W.heap.push (.map (es.push { key := .string s, val := val, born := clock }) (clock + 1)) := by
      apply Array.ext_getElem?
      intro j
      rw [Array.getElem?_setIfInBounds, Array.getElem?_push, Array.getElem?_push]
      by_cases hj : W.heap.size = j
      · subst hj; simp
      · rw [if_neg hj, if_neg (Ne.symm hj), if_neg (Ne.symm hj)]
    exact congrArg (fun x => ({ W with heap := x } : World)) ha
  rw [← hh]
  simp [Instr.mapUpdate, run_underlying hm, MapKept.run_getObj_map hb, hc, MapKept.run_findKey hk hf, MapKept.run_setObj_map _ hb, Result.andThen]
def kmap0 : Array MapEntry := #[]
def kmap1 : Array MapEntry := #[{ key := .string ⟨#[105, 110]⟩, val := .agg #[.int .i64 1, .int .i64 1], born := 0 }]
def kmap2 : Array MapEntry := #[{ key := .string ⟨#[105, 110]⟩, val := .agg #[.int .i64 1, .int .i64 1], born := 0 }, { key := .string ⟨#[99, 111, 110, 115, 116]⟩, val := .agg #[.int .i64 2, .int .i64 1], born := 1 }]
def kmap3 : Array MapEntry := #[{ key := .string ⟨#[105, 110]⟩, val := .agg #[.int .i64 1, .int .i64 1], born := 0 }, { key := .string ⟨#[99, 111, 110, 115, 116]⟩, val := .agg #[.int .i64 2, .int .i64 1], born := 1 }, { key := .string ⟨#[97, 100, 100]⟩, val := .agg #[.int .i64 3, .int .i64 2], born := 2 }]
def kmap4 : Array MapEntry := #[{ key := .string ⟨#[105, 110]⟩, val := .agg #[.int .i64 1, .int .i64 1], born := 0 }, { key := .string ⟨#[99, 111, 110, 115, 116]⟩, val := .agg #[.int .i64 2, .int .i64 1], born := 1 }, { key := .string ⟨#[97, 100, 100]⟩, val := .agg #[.int .i64 3, .int .i64 2], born := 2 }, { key := .string ⟨#[115, 117, 98]⟩, val := .agg #[.int .i64 4, .int .i64 2], born := 3 }]
def kmap5 : Array MapEntry := #[{ key := .string ⟨#[105, 110]⟩, val := .agg #[.int .i64 1, .int .i64 1], born := 0 }, { key := .string ⟨#[99, 111, 110, 115, 116]⟩, val := .agg #[.int .i64 2, .int .i64 1], born := 1 }, { key := .string ⟨#[97, 100, 100]⟩, val := .agg #[.int .i64 3, .int .i64 2], born := 2 }, { key := .string ⟨#[115, 117, 98]⟩, val := .agg #[.int .i64 4, .int .i64 2], born := 3 }, { key := .string ⟨#[109, 117, 108]⟩, val := .agg #[.int .i64 5, .int .i64 2], born := 4 }]
def kmap6 : Array MapEntry := #[{ key := .string ⟨#[105, 110]⟩, val := .agg #[.int .i64 1, .int .i64 1], born := 0 }, { key := .string ⟨#[99, 111, 110, 115, 116]⟩, val := .agg #[.int .i64 2, .int .i64 1], born := 1 }, { key := .string ⟨#[97, 100, 100]⟩, val := .agg #[.int .i64 3, .int .i64 2], born := 2 }, { key := .string ⟨#[115, 117, 98]⟩, val := .agg #[.int .i64 4, .int .i64 2], born := 3 }, { key := .string ⟨#[109, 117, 108]⟩, val := .agg #[.int .i64 5, .int .i64 2], born := 4 }, { key := .string ⟨#[115, 99, 97, 108, 101]⟩, val := .agg #[.int .i64 6, .int .i64 2], born := 5 }]
theorem put1 (W : World) : (Instr.mapUpdate 132 (.map (some W.heap.size)) (.string ⟨#[105, 110]⟩) (.agg #[.int .i64 1, .int .i64 1])).run Tryz.prog (W.alloc (.map kmap0 0)) = .ok () (W.alloc (.map kmap1 1)) :=
  run_put 132 9 131 Tryz.underlying132 Tryz.underlying9 W kmap0 kmap1 0 _ _ rfl rfl
theorem put2 (W : World) : (Instr.mapUpdate 132 (.map (some W.heap.size)) (.string ⟨#[99, 111, 110, 115, 116]⟩) (.agg #[.int .i64 2, .int .i64 1])).run Tryz.prog (W.alloc (.map kmap1 1)) = .ok () (W.alloc (.map kmap2 2)) :=
  run_put 132 9 131 Tryz.underlying132 Tryz.underlying9 W kmap1 kmap2 1 _ _ rfl rfl
theorem put3 (W : World) : (Instr.mapUpdate 132 (.map (some W.heap.size)) (.string ⟨#[97, 100, 100]⟩) (.agg #[.int .i64 3, .int .i64 2])).run Tryz.prog (W.alloc (.map kmap2 2)) = .ok () (W.alloc (.map kmap3 3)) :=
  run_put 132 9 131 Tryz.underlying132 Tryz.underlying9 W kmap2 kmap3 2 _ _ rfl rfl
theorem put4 (W : World) : (Instr.mapUpdate 132 (.map (some W.heap.size)) (.string ⟨#[115, 117, 98]⟩) (.agg #[.int .i64 4, .int .i64 2])).run Tryz.prog (W.alloc (.map kmap3 3)) = .ok () (W.alloc (.map kmap4 4)) :=
  run_put 132 9 131 Tryz.underlying132 Tryz.underlying9 W kmap3 kmap4 3 _ _ rfl rfl
theorem put5 (W : World) : (Instr.mapUpdate 132 (.map (some W.heap.size)) (.string ⟨#[109, 117, 108]⟩) (.agg #[.int .i64 5, .int .i64 2])).run Tryz.prog (W.alloc (.map kmap4 4)) = .ok () (W.alloc (.map kmap5 5)) :=
  run_put 132 9 131 Tryz.underlying132 Tryz.underlying9 W kmap4 kmap5 4 _ _ rfl rfl
theorem put6 (W : World) : (Instr.mapUpdate 132 (.map (some W.heap.size)) (.string ⟨#[115, 99, 97, 108, 101]⟩) (.agg #[.int .i64 6, .int .i64 2])).run Tryz.prog (W.alloc (.map kmap5 5)) = .ok () (W.alloc (.map kmap6 6)) :=
  run_put 132 9 131 Tryz.underlying132 Tryz.underlying9 W kmap5 kmap6 5 _ _ rfl rfl
/-- The kind and the number of words behind a gate's first word. -/
def kindOf (h : Bs) : Int × Int := if h = kwIn then (1, 1) else if h = kwConst then (2, 1) else if h = kwAdd then (3, 2) else if h = kwSub then (4, 2) else if h = kwMul then (5, 2) else if h = kwScale then (6, 2) else (0, 0)
theorem run_kind (W : World) (h : Bs) : (Instr.lookup 132 (.map (some W.heap.size)) (.string ⟨h.toArray⟩) false).run Tryz.prog (W.alloc (.map kmap6 6)) = .ok (.agg #[.int .i64 (kindOf h).1, .int .i64 (kindOf h).2]) (W.alloc (.map kmap6 6)) := by
  have hb : (W.alloc (.map kmap6 6)).heap[W.heap.size]? = some (.map kmap6 6) := heap_alloc_new _ _
  have hc : (Instr.checkKey false 10000 9 (.string ⟨h.toArray⟩)).run Tryz.prog (W.alloc (.map kmap6 6)) = .ok () (W.alloc (.map kmap6 6)) := MapKept.run_checkKey (k := .string ⟨h.toArray⟩) Tryz.underlying9 (by simp [MapKept.IsKey]) false 9999
  have key : ∀ (i : Nat) (v : Value), Instr.findNow .string (.string ⟨h.toArray⟩) kmap6.toList 0 = some (some (i, v)) → (Instr.lookup 132 (.map (some W.heap.size)) (.string ⟨h.toArray⟩) false).run Tryz.prog (W.alloc (.map kmap6 6)) = .ok v (W.alloc (.map kmap6 6)) := fun i v hf => by
    simp [Instr.lookup, run_underlying Tryz.underlying132, MapKept.run_getObj_map hb, show kmap6.isEmpty = false from rfl, hc, MapKept.run_findKey Tryz.underlying9 hf, Result.andThen]
  have keyn : Instr.findNow .string (.string ⟨h.toArray⟩) kmap6.toList 0 = some none → (Instr.lookup 132 (.map (some W.heap.size)) (.string ⟨h.toArray⟩) false).run Tryz.prog (W.alloc (.map kmap6 6)) = .ok (.agg #[.int .i64 0, .int .i64 0]) (W.alloc (.map kmap6 6)) := fun hf => by
    simp [Instr.lookup, run_underlying Tryz.underlying132, MapKept.run_getObj_map hb, show kmap6.isEmpty = false from rfl, hc, MapKept.run_findKey Tryz.underlying9 hf, Result.andThen, Tryz.zeroValue131]
  unfold kindOf
  by_cases g0 : h = kwIn
  · subst g0
    rw [if_pos rfl]
    exact key 0 _ rfl
  rw [if_neg g0]
  by_cases g1 : h = kwConst
  · subst g1
    rw [if_pos rfl]
    exact key 1 _ rfl
  rw [if_neg g1]
  by_cases g2 : h = kwAdd
  · subst g2
    rw [if_pos rfl]
    exact key 2 _ rfl
  rw [if_neg g2]
  by_cases g3 : h = kwSub
  · subst g3
    rw [if_pos rfl]
    exact key 3 _ rfl
  rw [if_neg g3]
  by_cases g4 : h = kwMul
  · subst g4
    rw [if_pos rfl]
    exact key 4 _ rfl
  rw [if_neg g4]
  by_cases g5 : h = kwScale
  · subst g5
    rw [if_pos rfl]
    exact key 5 _ rfl
  rw [if_neg g5]
  refine keyn ?_
  rcases MapKept.findNow_spec (d := .string) (k := .string ⟨h.toArray⟩) (by simp [MapKept.IsKey]) kmap6.toList 0 (by
    intro x hx
    simp [kmap6] at hx
    rcases hx with rfl | rfl | rfl | rfl | rfl | rfl <;> simp [MapKept.IsKey]) with ⟨e, _⟩ | ⟨j, e, _, h2, h3⟩
  · exact e
  · have hm := List.mem_of_getElem? h2
    simp [kmap6] at hm
    rcases hm with rfl | rfl | rfl | rfl | rfl | rfl <;> (simp only [Value.string.injEq, ByteArray.mk.injEq] at h3; have h4 := congrArg Array.toList h3; simp at h4; subst h4; first | exact absurd rfl g0 | exact absurd rfl g1 | exact absurd rfl g2 | exact absurd rfl g3 | exact absurd rfl g4 | exact absurd rfl g5)
end Go.Proofs.YtmnbgamnbgdnnaaGreatDoor

/- Contract of circ.readGate. (Printed by wip/tools/gen_rgate.py.) -/
namespace Go.Proofs.YtmnbgamnbgdnnaaGreatDoor
open Go.RowKit Go.Maps

set_option maxHeartbeats 2000000 in
set_option maxRecDepth 100000 in
theorem readGate_b0 (s : Bs) (hs : s.length ≤ 4194304) (w : World) (hE : Env w) (h : Bs) (t : List Bs) (hc : cut 32 s = h :: t) (ns : List Nat) (hns : allOf valOf t = some ns) (hk : kindOf h = (0, 0)) :
    Calls Tryz.prog 63 #[.string ⟨s.toArray⟩] w (GatePostR none w) := by
  have hlen : t.length ≤ 4194304 := by
    have := cut_len 32 s
    rw [hc, List.length_cons] at this
    have : s.count 32 ≤ s.length := List.count_le_length
    omega
  have hnb : ns.length ≤ 4194304 := by rw [allOf_len hns]; exact hlen
  have hW0 : Below w.heap.size w (w.alloc (.cells #[.int .i64 0, .int .i64 0, .int .i64 0, .int .u64 0] 69)) := (Below.refl _ _).alloc (Nat.le_refl _) _
  have hsp := split_any s 32 (w.alloc (.cells #[.int .i64 0, .int .i64 0, .int .i64 0, .int .u64 0] 69)) (by omega)
  rw [hc, List.length_cons] at hsp
  have HSP := Lib.hid hsp; clear hsp
  have hS : ∀ x ∈ t, x.length ≤ 281474976710656 := fun x hx => by
    have h1 := cut_part 32 s x (by rw [hc]; exact List.mem_cons_of_mem _ hx)
    omega
  have hb2 := (Below.refl (w.alloc (.cells #[.int .i64 0, .int .i64 0, .int .i64 0, .int .u64 0] 69)).heap.size _).alloc (Nat.le_refl _) (.cells (sCells (h :: t)).toArray 9)
  have hnum := numbers_any t (by omega) hS _ t.length _ ((hE.below hW0).below hb2) (words_new _ t h)
  rw [hns] at hnum
  have HN := Lib.hid hnum
  have hsl := fun W => run_tail (w.alloc (.cells #[.int .i64 0, .int .i64 0, .int .i64 0, .int .u64 0] 69)).heap.size t.length W
  have HZ := Lib.hid (word_zero (w.alloc (.cells #[.int .i64 0, .int .i64 0, .int .i64 0, .int .u64 0] 69)) t h)
  have HB1 : Hid (Below w.heap.size w ((w.alloc (.cells #[.int .i64 0, .int .i64 0, .int .i64 0, .int .u64 0] 69)).alloc (.cells (sCells (h :: t)).toArray 9))) := Lib.hid (hW0.alloc (by simp) _)
  clear hnum hS hb2 hW0 hE hns hs
  rw [show (w.alloc (.cells #[.int .i64 0, .int .i64 0, .int .i64 0, .int .u64 0] 69)).heap.size = w.heap.size + 1 by simp] at HSP HN hsl HZ
  generalize tailAd (w.heap.size + 1) t.length = ad at HN hsl
  have hmm : ∀ W, (Instr.makeMap 132 none).run Tryz.prog W = .ok (.map (some W.heap.size)) (W.alloc (.map kmap0 0)) := fun W => run_makeMap_plain W 132
  have hp1 := put1
  have hp2 := put2
  have hp3 := put3
  have hp4 := put4
  have hp5 := put5
  have hp6 := put6
  have hlk := fun W => run_kind W h
  rw [hk] at hlk
  go_enter Tryz.func63, Tryz.ntmps63
  go_wp2_with (first | (go_at_call 61; refine HSP.out.mono ?_; rintro e w1 ⟨rfl, rfl⟩) | (go_at_call 92; refine HN.out.mono ?_; rintro e w2 ⟨hb2, v, rfl, hown⟩; have z0 := (hb2.cell (p := ⟨w.heap.size + 1, 0, none⟩) (by simp)).trans HZ.out; have hsz2 : w.heap.size + 1 < w2.heap.size := (by have h5 := hb2.size; simp at h5; omega); have hlt1 : w.heap.size < w2.heap.size := (by omega); have hlt2 : w.heap.size < w2.heap.size + 1 := (by omega); have hno1 : ¬ w.heap.size = w2.heap.size := (by omega); have hno2 : ¬ w.heap.size = w2.heap.size + 1 := (by omega); have r0 := hb2.cell (p := ⟨w.heap.size, 0, none⟩) (by simp; omega); have r1 := hb2.cell (p := ⟨w.heap.size, 1, none⟩) (by simp; omega); have r2 := hb2.cell (p := ⟨w.heap.size, 2, none⟩) (by simp; omega); have r3 := hb2.cell (p := ⟨w.heap.size, 3, none⟩) (by simp; omega); simp at r0 r1 r2 r3; have f0 := hb2.frozen (p := ⟨w.heap.size, 0, none⟩) (by simp; omega); have f1 := hb2.frozen (p := ⟨w.heap.size, 1, none⟩) (by simp; omega); have f2 := hb2.frozen (p := ⟨w.heap.size, 2, none⟩) (by simp; omega); have f3 := hb2.frozen (p := ⟨w.heap.size, 3, none⟩) (by simp; omega); simp at f0 f1 f2 f3; have HO := Lib.hid hown; clear hown; have HB2 := Lib.hid hb2; clear hb2))
  (try simp only [Exit.inBlock, Exit.then])
  refine bodyPost_ret (v := .tuple #[.agg #[.int .i64 0, .int .i64 0, .int .i64 0, .int .u64 0], .bool false]) ?_ rfl ⟨?_, 0, 0, 0, 0, rfl⟩
  · rw [results_cell_tmp rfl]
    go_simp
  · have hw := HB1.out.trans (HB2.out.mono (by simp; omega)); repeat (first | exact hw | refine Below.alloc ?_ (by simp; omega) _ | refine Below.setCell ?_ (by simp) _)
set_option maxHeartbeats 2000000 in
set_option maxRecDepth 100000 in
theorem readGate_bm (s : Bs) (hs : s.length ≤ 4194304) (w : World) (hE : Env w) (h : Bs) (t : List Bs) (hc : cut 32 s = h :: t) (ns : List Nat) (hns : allOf valOf t = some ns) (k m : Int) (hk : kindOf h = (k, m)) (hk0 : (k == 0) = false) (hm : ¬ m = (ns.length : Int)) :
    Calls Tryz.prog 63 #[.string ⟨s.toArray⟩] w (GatePostR none w) := by
  have hlen : t.length ≤ 4194304 := by
    have := cut_len 32 s
    rw [hc, List.length_cons] at this
    have : s.count 32 ≤ s.length := List.count_le_length
    omega
  have hnb : ns.length ≤ 4194304 := by rw [allOf_len hns]; exact hlen
  have hW0 : Below w.heap.size w (w.alloc (.cells #[.int .i64 0, .int .i64 0, .int .i64 0, .int .u64 0] 69)) := (Below.refl _ _).alloc (Nat.le_refl _) _
  have hsp := split_any s 32 (w.alloc (.cells #[.int .i64 0, .int .i64 0, .int .i64 0, .int .u64 0] 69)) (by omega)
  rw [hc, List.length_cons] at hsp
  have HSP := Lib.hid hsp; clear hsp
  have hS : ∀ x ∈ t, x.length ≤ 281474976710656 := fun x hx => by
    have h1 := cut_part 32 s x (by rw [hc]; exact List.mem_cons_of_mem _ hx)
    omega
  have hb2 := (Below.refl (w.alloc (.cells #[.int .i64 0, .int .i64 0, .int .i64 0, .int .u64 0] 69)).heap.size _).alloc (Nat.le_refl _) (.cells (sCells (h :: t)).toArray 9)
  have hnum := numbers_any t (by omega) hS _ t.length _ ((hE.below hW0).below hb2) (words_new _ t h)
  rw [hns] at hnum
  have HN := Lib.hid hnum
  have hsl := fun W => run_tail (w.alloc (.cells #[.int .i64 0, .int .i64 0, .int .i64 0, .int .u64 0] 69)).heap.size t.length W
  have HZ := Lib.hid (word_zero (w.alloc (.cells #[.int .i64 0, .int .i64 0, .int .i64 0, .int .u64 0] 69)) t h)
  have HB1 : Hid (Below w.heap.size w ((w.alloc (.cells #[.int .i64 0, .int .i64 0, .int .i64 0, .int .u64 0] 69)).alloc (.cells (sCells (h :: t)).toArray 9))) := Lib.hid (hW0.alloc (by simp) _)
  clear hnum hS hb2 hW0 hE hns hs
  rw [show (w.alloc (.cells #[.int .i64 0, .int .i64 0, .int .i64 0, .int .u64 0] 69)).heap.size = w.heap.size + 1 by simp] at HSP HN hsl HZ
  generalize tailAd (w.heap.size + 1) t.length = ad at HN hsl
  have hmm : ∀ W, (Instr.makeMap 132 none).run Tryz.prog W = .ok (.map (some W.heap.size)) (W.alloc (.map kmap0 0)) := fun W => run_makeMap_plain W 132
  have hp1 := put1
  have hp2 := put2
  have hp3 := put3
  have hp4 := put4
  have hp5 := put5
  have hp6 := put6
  have hlk := fun W => run_kind W h
  rw [hk] at hlk
  go_enter Tryz.func63, Tryz.ntmps63
  go_wp2_with (first | (go_at_call 61; refine HSP.out.mono ?_; rintro e w1 ⟨rfl, rfl⟩) | (go_at_call 92; refine HN.out.mono ?_; rintro e w2 ⟨hb2, v, rfl, hown⟩; have z0 := (hb2.cell (p := ⟨w.heap.size + 1, 0, none⟩) (by simp)).trans HZ.out; have hsz2 : w.heap.size + 1 < w2.heap.size := (by have h5 := hb2.size; simp at h5; omega); have hlt1 : w.heap.size < w2.heap.size := (by omega); have hlt2 : w.heap.size < w2.heap.size + 1 := (by omega); have hno1 : ¬ w.heap.size = w2.heap.size := (by omega); have hno2 : ¬ w.heap.size = w2.heap.size + 1 := (by omega); have r0 := hb2.cell (p := ⟨w.heap.size, 0, none⟩) (by simp; omega); have r1 := hb2.cell (p := ⟨w.heap.size, 1, none⟩) (by simp; omega); have r2 := hb2.cell (p := ⟨w.heap.size, 2, none⟩) (by simp; omega); have r3 := hb2.cell (p := ⟨w.heap.size, 3, none⟩) (by simp; omega); simp at r0 r1 r2 r3; have f0 := hb2.frozen (p := ⟨w.heap.size, 0, none⟩) (by simp; omega); have f1 := hb2.frozen (p := ⟨w.heap.size, 1, none⟩) (by simp; omega); have f2 := hb2.frozen (p := ⟨w.heap.size, 2, none⟩) (by simp; omega); have f3 := hb2.frozen (p := ⟨w.heap.size, 3, none⟩) (by simp; omega); simp at f0 f1 f2 f3; have HO := Lib.hid hown; clear hown; have HB2 := Lib.hid hb2; clear hb2; obtain ⟨VA, vc, rfl, _⟩ := own_reads HO.out))
  (try simp only [Exit.inBlock, Exit.then])
  refine bodyPost_ret (v := .tuple #[.agg #[.int .i64 0, .int .i64 0, .int .i64 0, .int .u64 0], .bool false]) ?_ rfl ⟨?_, 0, 0, 0, 0, rfl⟩
  · rw [results_cell_tmp rfl]
    go_simp
  · have hw := HB1.out.trans (HB2.out.mono (by simp; omega)); repeat (first | exact hw | refine Below.alloc ?_ (by simp; omega) _ | refine Below.setCell ?_ (by simp) _)
theorem startG {W : World} {kb g : Nat} {k a b : Value} (h1 : W.cell? ⟨kb, 0, none⟩ = some k) (h2 : W.cell? ⟨g, 0, none⟩ = some a) (h3 : W.cell? ⟨g, 1, none⟩ = some b) :
    W.drew.cell? ⟨kb, 0, none⟩ = some k ∧ W.drew.cell? ⟨g, 0, none⟩ = some a ∧ W.drew.cell? ⟨g, 1, none⟩ = some b ∧ Hid (Below W.heap.size W W.drew) := ⟨h1, h2, h3, (Below.refl _ _).drew⟩
theorem stepG {W0 W W' : World} {kb g : Nat} {k a b : Value} (h : W.cell? ⟨kb, 0, none⟩ = some k ∧ W.cell? ⟨g, 0, none⟩ = some a ∧ W.cell? ⟨g, 1, none⟩ = some b ∧ Hid (Below W0.heap.size W0 W)) (hb : Below W.heap.size W W') :
    W'.cell? ⟨kb, 0, none⟩ = some k ∧ W'.cell? ⟨g, 0, none⟩ = some a ∧ W'.cell? ⟨g, 1, none⟩ = some b ∧ Hid (Below W0.heap.size W0 W') :=
  ⟨(hb.cell (World.block_lt_of_cell? W _ h.1)).trans h.1, (hb.cell (World.block_lt_of_cell? W _ h.2.1)).trans h.2.1, (hb.cell (World.block_lt_of_cell? W _ h.2.2.1)).trans h.2.2.1, below_alive h.2.2.2.out hb⟩
theorem kb_cell (W : World) (m : Obj) (a b : Value) (t : TypeId) : ((W.alloc m).alloc (.cells #[a, b] t)).cell? ⟨W.heap.size + 1, 0, none⟩ = some a := by
  rw [World.cell?_alloc_at (hn := by simp)]
  rfl
set_option maxHeartbeats 2000000 in
set_option maxRecDepth 100000 in
theorem readGate_p (s : Bs) (hs : s.length ≤ 4194304) (w : World) (hE : Env w) (h : Bs) (t : List Bs) (hc : cut 32 s = h :: t) (ns : List Nat) (hns : allOf valOf t = some ns) (k : Int) (hk : kindOf h = (k, (ns.length : Int))) (hk0 : (k == 0) = false) (hk2 : (k == 2) = false) (hk6 : (k == 6) = false) (a b : Nat) (hc0 : (iCells (ns.map Int.ofNat) ++ [Value.int .i64 0])[0]? = some (.int .i64 (a : Int))) (hc1 : (iCells (ns.map Int.ofNat) ++ [Value.int .i64 0])[1]? = some (.int .i64 (b : Int))) (hnpos : 0 < ns.length) :
    Calls Tryz.prog 63 #[.string ⟨s.toArray⟩] w (GatePostR (some (k, a, b, 0)) w) := by
  have hlen : t.length ≤ 4194304 := by
    have := cut_len 32 s
    rw [hc, List.length_cons] at this
    have : s.count 32 ≤ s.length := List.count_le_length
    omega
  have hnb : ns.length ≤ 4194304 := by rw [allOf_len hns]; exact hlen
  have hW0 : Below w.heap.size w (w.alloc (.cells #[.int .i64 0, .int .i64 0, .int .i64 0, .int .u64 0] 69)) := (Below.refl _ _).alloc (Nat.le_refl _) _
  have hsp := split_any s 32 (w.alloc (.cells #[.int .i64 0, .int .i64 0, .int .i64 0, .int .u64 0] 69)) (by omega)
  rw [hc, List.length_cons] at hsp
  have HSP := Lib.hid hsp; clear hsp
  have hS : ∀ x ∈ t, x.length ≤ 281474976710656 := fun x hx => by
    have h1 := cut_part 32 s x (by rw [hc]; exact List.mem_cons_of_mem _ hx)
    omega
  have hb2 := (Below.refl (w.alloc (.cells #[.int .i64 0, .int .i64 0, .int .i64 0, .int .u64 0] 69)).heap.size _).alloc (Nat.le_refl _) (.cells (sCells (h :: t)).toArray 9)
  have hnum := numbers_any t (by omega) hS _ t.length _ ((hE.below hW0).below hb2) (words_new _ t h)
  rw [hns] at hnum
  have HN := Lib.hid hnum
  have hsl := fun W => run_tail (w.alloc (.cells #[.int .i64 0, .int .i64 0, .int .i64 0, .int .u64 0] 69)).heap.size t.length W
  have HZ := Lib.hid (word_zero (w.alloc (.cells #[.int .i64 0, .int .i64 0, .int .i64 0, .int .u64 0] 69)) t h)
  have HB1 : Hid (Below w.heap.size w ((w.alloc (.cells #[.int .i64 0, .int .i64 0, .int .i64 0, .int .u64 0] 69)).alloc (.cells (sCells (h :: t)).toArray 9))) := Lib.hid (hW0.alloc (by simp) _)
  clear hnum hS hb2 hW0 hE hns hs
  rw [show (w.alloc (.cells #[.int .i64 0, .int .i64 0, .int .i64 0, .int .u64 0] 69)).heap.size = w.heap.size + 1 by simp] at HSP HN hsl HZ
  generalize tailAd (w.heap.size + 1) t.length = ad at HN hsl
  have hmm : ∀ W, (Instr.makeMap 132 none).run Tryz.prog W = .ok (.map (some W.heap.size)) (W.alloc (.map kmap0 0)) := fun W => run_makeMap_plain W 132
  have hp1 := put1
  have hp2 := put2
  have hp3 := put3
  have hp4 := put4
  have hp5 := put5
  have hp6 := put6
  have hlk := fun W => run_kind W h
  rw [hk] at hlk
  go_enter Tryz.func63, Tryz.ntmps63
  go_wp2_with (first | (go_at_call 61; refine HSP.out.mono ?_; rintro e w1 ⟨rfl, rfl⟩) | (go_at_call 92; refine HN.out.mono ?_; rintro e w2 ⟨hb2, v, rfl, hown⟩; have z0 := (hb2.cell (p := ⟨w.heap.size + 1, 0, none⟩) (by simp)).trans HZ.out; have hsz2 : w.heap.size + 1 < w2.heap.size := (by have h5 := hb2.size; simp at h5; omega); have hlt1 : w.heap.size < w2.heap.size := (by omega); have hlt2 : w.heap.size < w2.heap.size + 1 := (by omega); have hno1 : ¬ w.heap.size = w2.heap.size := (by omega); have hno2 : ¬ w.heap.size = w2.heap.size + 1 := (by omega); have r0 := hb2.cell (p := ⟨w.heap.size, 0, none⟩) (by simp; omega); have r1 := hb2.cell (p := ⟨w.heap.size, 1, none⟩) (by simp; omega); have r2 := hb2.cell (p := ⟨w.heap.size, 2, none⟩) (by simp; omega); have r3 := hb2.cell (p := ⟨w.heap.size, 3, none⟩) (by simp; omega); simp at r0 r1 r2 r3; have f0 := hb2.frozen (p := ⟨w.heap.size, 0, none⟩) (by simp; omega); have f1 := hb2.frozen (p := ⟨w.heap.size, 1, none⟩) (by simp; omega); have f2 := hb2.frozen (p := ⟨w.heap.size, 2, none⟩) (by simp; omega); have f3 := hb2.frozen (p := ⟨w.heap.size, 3, none⟩) (by simp; omega); simp at f0 f1 f2 f3; have HO := Lib.hid hown; clear hown; have HB2 := Lib.hid hb2; clear hb2; obtain ⟨gv, vcap, rfl, hgv, _⟩ := own_form HO.out hnpos; have hgl := (HO.out.lt gv rfl).2; simp at hgv) | (at_builtin; go_loud (refine app_cells (w.heap.size + 2) rfl _ _ 61 3 _ 1 8 rfl Tryz.underlying61 infoI rfl (by decide) (by decide) (.slice (some ⟨gv, 0, none⟩) ns.length vcap) ns.length _ [.int .i64 0] rfl _ rfl (by simp) rfl (by intro u hu; simp at hu; subst hu; rfl) ((own_lower HO.out (by simp)).alloc _ |>.alloc _) (by simp; omega) (by omega) ?_; intro v3 w3 hown3 hg3; have k0 := hg3.cell (a := ⟨w2.heap.size + 1, 0, none⟩) (v := .int .i64 k) (kb_cell _ _ _ _ _) (by intro e; have e1 : w2.heap.size + 1 = gv := (by injection e); omega); have hsz3 := hg3.size; simp at hsz3; have HB3 := Lib.hid (((((HB2.out.alloc (by simp; omega) (.map kmap6 6)).alloc (by simp; omega) (.cells #[.int .i64 k, .int .i64 (ns.length : Int)] 131))).grown hg3 (by simp; omega) (fun q hq => by cases hq; simp; omega))); clear hg3; obtain ⟨g3, c3, rfl, hg3b, _⟩ := own_form hown3 (by omega); have hg3l := (hown3.lt g3 rfl).2; have n0 := (hown3.cellAt 0 (by omega)).trans hc0; have n1 := (hown3.cellAt 1 (by omega)).trans hc1; clear hown3; clear r0 r1 r2 r3 f0 f1 f2 f3; have r0 := HB3.out.cell (p := ⟨w.heap.size, 0, none⟩) (by simp; omega); have f0 := HB3.out.frozen (p := ⟨w.heap.size, 0, none⟩) (by simp; omega); have r1 := HB3.out.cell (p := ⟨w.heap.size, 1, none⟩) (by simp; omega); have f1 := HB3.out.frozen (p := ⟨w.heap.size, 1, none⟩) (by simp; omega); have r2 := HB3.out.cell (p := ⟨w.heap.size, 2, none⟩) (by simp; omega); have f2 := HB3.out.frozen (p := ⟨w.heap.size, 2, none⟩) (by simp; omega); have r3 := HB3.out.cell (p := ⟨w.heap.size, 3, none⟩) (by simp; omega); have f3 := HB3.out.frozen (p := ⟨w.heap.size, 3, none⟩) (by simp; omega); simp at r0 r1 r2 r3 f0 f1 f2 f3)))
  have hx1 : w2.heap.size + 1 < w3.heap.size := by omega
  have hx4 : (1 : Int) < (ns.length : Int) + 1 := by omega
  have hx5 : 1 < ns.length + 1 := by omega
  have hx2 : w.heap.size < w3.heap.size := by omega
  have hx3 : ¬ w.heap.size = w3.heap.size := by omega
  have hx6 : g3 < w3.heap.size := by omega
  have hx7 : ¬ g3 = w3.heap.size := by omega
  have hS0 := startG (W := w3) (kb := w2.heap.size + 1) (g := g3) k0 n0 n1
  go_region_held3 (fun W => W.cell? ⟨w2.heap.size + 1, 0, none⟩ = some (.int .i64 k) ∧ W.cell? ⟨g3, 0, none⟩ = some (.int .i64 a) ∧ W.cell? ⟨g3, 1, none⟩ = some (.int .i64 b) ∧ Hid (Below w3.heap.size w3 W)) (first | assumption | exact stepG (by assumption) ((Below.refl _ _).alloc (Nat.le_refl _) _) | exact stepG (W := w3) (W0 := w3) ⟨k0, n0, n1, Below.refl _ _⟩ (((Below.refl _ _).alloc (Nat.le_refl _) _).drew)) (fail)
  go_wp2
  all_goals (try simp only [Exit.inBlock, Exit.then])
  all_goals refine bodyPost_ret (v := .tuple #[.agg #[.int .i64 k, .int .i64 a, .int .i64 b, .int .u64 0], .bool true]) ?_ rfl ⟨?_, rfl⟩
  all_goals first
    | (rw [results_cell_tmp rfl]; go_simp; done)
    | (have hw := HB1.out.trans (HB3.out.mono (by simp; omega)); repeat (first | exact hw | refine Below.drew ?_ | refine Below.alloc ?_ (by simp; omega) _ | refine Below.setCell ?_ (by simp) _))
set_option maxHeartbeats 2000000 in
set_option maxRecDepth 100000 in
theorem readGate_c (s : Bs) (hs : s.length ≤ 4194304) (w : World) (hE : Env w) (h : Bs) (t : List Bs) (hc : cut 32 s = h :: t) (ns : List Nat) (hns : allOf valOf t = some ns) (hk : kindOf h = (2, (ns.length : Int))) (a b : Nat) (ew : IntKind.u64.wrap (a : Int) = (a : Int)) (hc0 : (iCells (ns.map Int.ofNat) ++ [Value.int .i64 0])[0]? = some (.int .i64 (a : Int))) (hc1 : (iCells (ns.map Int.ofNat) ++ [Value.int .i64 0])[1]? = some (.int .i64 (b : Int))) (hnpos : 0 < ns.length) :
    Calls Tryz.prog 63 #[.string ⟨s.toArray⟩] w (GatePostR (some (2, 0, b, a)) w) := by
  have hlen : t.length ≤ 4194304 := by
    have := cut_len 32 s
    rw [hc, List.length_cons] at this
    have : s.count 32 ≤ s.length := List.count_le_length
    omega
  have hnb : ns.length ≤ 4194304 := by rw [allOf_len hns]; exact hlen
  have hW0 : Below w.heap.size w (w.alloc (.cells #[.int .i64 0, .int .i64 0, .int .i64 0, .int .u64 0] 69)) := (Below.refl _ _).alloc (Nat.le_refl _) _
  have hsp := split_any s 32 (w.alloc (.cells #[.int .i64 0, .int .i64 0, .int .i64 0, .int .u64 0] 69)) (by omega)
  rw [hc, List.length_cons] at hsp
  have HSP := Lib.hid hsp; clear hsp
  have hS : ∀ x ∈ t, x.length ≤ 281474976710656 := fun x hx => by
    have h1 := cut_part 32 s x (by rw [hc]; exact List.mem_cons_of_mem _ hx)
    omega
  have hb2 := (Below.refl (w.alloc (.cells #[.int .i64 0, .int .i64 0, .int .i64 0, .int .u64 0] 69)).heap.size _).alloc (Nat.le_refl _) (.cells (sCells (h :: t)).toArray 9)
  have hnum := numbers_any t (by omega) hS _ t.length _ ((hE.below hW0).below hb2) (words_new _ t h)
  rw [hns] at hnum
  have HN := Lib.hid hnum
  have hsl := fun W => run_tail (w.alloc (.cells #[.int .i64 0, .int .i64 0, .int .i64 0, .int .u64 0] 69)).heap.size t.length W
  have HZ := Lib.hid (word_zero (w.alloc (.cells #[.int .i64 0, .int .i64 0, .int .i64 0, .int .u64 0] 69)) t h)
  have HB1 : Hid (Below w.heap.size w ((w.alloc (.cells #[.int .i64 0, .int .i64 0, .int .i64 0, .int .u64 0] 69)).alloc (.cells (sCells (h :: t)).toArray 9))) := Lib.hid (hW0.alloc (by simp) _)
  clear hnum hS hb2 hW0 hE hns hs
  rw [show (w.alloc (.cells #[.int .i64 0, .int .i64 0, .int .i64 0, .int .u64 0] 69)).heap.size = w.heap.size + 1 by simp] at HSP HN hsl HZ
  generalize tailAd (w.heap.size + 1) t.length = ad at HN hsl
  have hmm : ∀ W, (Instr.makeMap 132 none).run Tryz.prog W = .ok (.map (some W.heap.size)) (W.alloc (.map kmap0 0)) := fun W => run_makeMap_plain W 132
  have hp1 := put1
  have hp2 := put2
  have hp3 := put3
  have hp4 := put4
  have hp5 := put5
  have hp6 := put6
  have hlk := fun W => run_kind W h
  rw [hk] at hlk
  go_enter Tryz.func63, Tryz.ntmps63
  go_wp2_with (first | (go_at_call 61; refine HSP.out.mono ?_; rintro e w1 ⟨rfl, rfl⟩) | (go_at_call 92; refine HN.out.mono ?_; rintro e w2 ⟨hb2, v, rfl, hown⟩; have z0 := (hb2.cell (p := ⟨w.heap.size + 1, 0, none⟩) (by simp)).trans HZ.out; have hsz2 : w.heap.size + 1 < w2.heap.size := (by have h5 := hb2.size; simp at h5; omega); have hlt1 : w.heap.size < w2.heap.size := (by omega); have hlt2 : w.heap.size < w2.heap.size + 1 := (by omega); have hno1 : ¬ w.heap.size = w2.heap.size := (by omega); have hno2 : ¬ w.heap.size = w2.heap.size + 1 := (by omega); have r0 := hb2.cell (p := ⟨w.heap.size, 0, none⟩) (by simp; omega); have r1 := hb2.cell (p := ⟨w.heap.size, 1, none⟩) (by simp; omega); have r2 := hb2.cell (p := ⟨w.heap.size, 2, none⟩) (by simp; omega); have r3 := hb2.cell (p := ⟨w.heap.size, 3, none⟩) (by simp; omega); simp at r0 r1 r2 r3; have f0 := hb2.frozen (p := ⟨w.heap.size, 0, none⟩) (by simp; omega); have f1 := hb2.frozen (p := ⟨w.heap.size, 1, none⟩) (by simp; omega); have f2 := hb2.frozen (p := ⟨w.heap.size, 2, none⟩) (by simp; omega); have f3 := hb2.frozen (p := ⟨w.heap.size, 3, none⟩) (by simp; omega); simp at f0 f1 f2 f3; have HO := Lib.hid hown; clear hown; have HB2 := Lib.hid hb2; clear hb2; obtain ⟨gv, vcap, rfl, hgv, _⟩ := own_form HO.out hnpos; have hgl := (HO.out.lt gv rfl).2; simp at hgv) | (at_builtin; go_loud (refine app_cells (w.heap.size + 2) rfl _ _ 61 3 _ 1 8 rfl Tryz.underlying61 infoI rfl (by decide) (by decide) (.slice (some ⟨gv, 0, none⟩) ns.length vcap) ns.length _ [.int .i64 0] rfl _ rfl (by simp) rfl (by intro u hu; simp at hu; subst hu; rfl) ((own_lower HO.out (by simp)).alloc _ |>.alloc _) (by simp; omega) (by omega) ?_; intro v3 w3 hown3 hg3; have k0 := hg3.cell (a := ⟨w2.heap.size + 1, 0, none⟩) (v := .int .i64 2) (kb_cell _ _ _ _ _) (by intro e; have e1 : w2.heap.size + 1 = gv := (by injection e); omega); have hsz3 := hg3.size; simp at hsz3; have HB3 := Lib.hid (((((HB2.out.alloc (by simp; omega) (.map kmap6 6)).alloc (by simp; omega) (.cells #[.int .i64 2, .int .i64 (ns.length : Int)] 131))).grown hg3 (by simp; omega) (fun q hq => by cases hq; simp; omega))); clear hg3; obtain ⟨g3, c3, rfl, hg3b, _⟩ := own_form hown3 (by omega); have hg3l := (hown3.lt g3 rfl).2; have n0 := (hown3.cellAt 0 (by omega)).trans hc0; have n1 := (hown3.cellAt 1 (by omega)).trans hc1; clear hown3; clear r0 r1 r2 r3 f0 f1 f2 f3; have r0 := HB3.out.cell (p := ⟨w.heap.size, 0, none⟩) (by simp; omega); have f0 := HB3.out.frozen (p := ⟨w.heap.size, 0, none⟩) (by simp; omega); have r1 := HB3.out.cell (p := ⟨w.heap.size, 1, none⟩) (by simp; omega); have f1 := HB3.out.frozen (p := ⟨w.heap.size, 1, none⟩) (by simp; omega); have r2 := HB3.out.cell (p := ⟨w.heap.size, 2, none⟩) (by simp; omega); have f2 := HB3.out.frozen (p := ⟨w.heap.size, 2, none⟩) (by simp; omega); have r3 := HB3.out.cell (p := ⟨w.heap.size, 3, none⟩) (by simp; omega); have f3 := HB3.out.frozen (p := ⟨w.heap.size, 3, none⟩) (by simp; omega); simp at r0 r1 r2 r3 f0 f1 f2 f3)))
  have hx1 : w2.heap.size + 1 < w3.heap.size := by omega
  have hx4 : (1 : Int) < (ns.length : Int) + 1 := by omega
  have hx5 : 1 < ns.length + 1 := by omega
  have hx2 : w.heap.size < w3.heap.size := by omega
  have hx3 : ¬ w.heap.size = w3.heap.size := by omega
  have hx6 : g3 < w3.heap.size := by omega
  have hx7 : ¬ g3 = w3.heap.size := by omega
  have hS0 := startG (W := w3) (kb := w2.heap.size + 1) (g := g3) k0 n0 n1
  go_region_held3 (fun W => W.cell? ⟨w2.heap.size + 1, 0, none⟩ = some (.int .i64 2) ∧ W.cell? ⟨g3, 0, none⟩ = some (.int .i64 a) ∧ W.cell? ⟨g3, 1, none⟩ = some (.int .i64 b) ∧ Hid (Below w3.heap.size w3 W)) (first | assumption | exact stepG (by assumption) ((Below.refl _ _).alloc (Nat.le_refl _) _) | exact stepG (W := w3) (W0 := w3) ⟨k0, n0, n1, Below.refl _ _⟩ (((Below.refl _ _).alloc (Nat.le_refl _) _).drew)) (fail)
  go_wp2
  have hS1 := stepG (W := w3) (W0 := w3) ⟨k0, n0, n1, Below.refl _ _⟩ ((((Below.refl _ _).alloc (Nat.le_refl _) (.cells #[.int .i64 2, .int .i64 a, .int .i64 b, .int .u64 0] 69)).drew).drew)
  go_region_held3 (fun W => W.cell? ⟨w2.heap.size + 1, 0, none⟩ = some (.int .i64 2) ∧ W.cell? ⟨g3, 0, none⟩ = some (.int .i64 a) ∧ W.cell? ⟨g3, 1, none⟩ = some (.int .i64 b) ∧ Hid (Below w3.heap.size w3 W)) (first | assumption | exact stepG (W := w3) (W0 := w3) ⟨k0, n0, n1, Below.refl _ _⟩ ((((Below.refl _ _).alloc (Nat.le_refl _) _).drew).drew)) (fail)
  all_goals (try go_wp2)
  all_goals (try simp only [Exit.inBlock, Exit.then])
  all_goals refine bodyPost_ret (v := .tuple #[.agg #[.int .i64 2, .int .i64 0, .int .i64 b, .int .u64 a], .bool true]) ?_ rfl ⟨?_, rfl⟩
  all_goals first
    | (rw [results_cell_tmp rfl]; go_simp; done)
    | (have hw := HB1.out.trans (HB3.out.mono (by simp; omega)); repeat (first | exact hw | refine Below.drew ?_ | refine Below.alloc ?_ (by simp; omega) _ | refine Below.setCell ?_ (by simp) _))
set_option maxHeartbeats 2000000 in
set_option maxRecDepth 100000 in
theorem readGate_s (s : Bs) (hs : s.length ≤ 4194304) (w : World) (hE : Env w) (h : Bs) (t : List Bs) (hc : cut 32 s = h :: t) (ns : List Nat) (hns : allOf valOf t = some ns) (hk : kindOf h = (6, (ns.length : Int))) (a b : Nat) (ew : IntKind.u64.wrap (b : Int) = (b : Int)) (hc0 : (iCells (ns.map Int.ofNat) ++ [Value.int .i64 0])[0]? = some (.int .i64 (a : Int))) (hc1 : (iCells (ns.map Int.ofNat) ++ [Value.int .i64 0])[1]? = some (.int .i64 (b : Int))) (hnpos : 0 < ns.length) :
    Calls Tryz.prog 63 #[.string ⟨s.toArray⟩] w (GatePostR (some (6, a, 0, b)) w) := by
  have hlen : t.length ≤ 4194304 := by
    have := cut_len 32 s
    rw [hc, List.length_cons] at this
    have : s.count 32 ≤ s.length := List.count_le_length
    omega
  have hnb : ns.length ≤ 4194304 := by rw [allOf_len hns]; exact hlen
  have hW0 : Below w.heap.size w (w.alloc (.cells #[.int .i64 0, .int .i64 0, .int .i64 0, .int .u64 0] 69)) := (Below.refl _ _).alloc (Nat.le_refl _) _
  have hsp := split_any s 32 (w.alloc (.cells #[.int .i64 0, .int .i64 0, .int .i64 0, .int .u64 0] 69)) (by omega)
  rw [hc, List.length_cons] at hsp
  have HSP := Lib.hid hsp; clear hsp
  have hS : ∀ x ∈ t, x.length ≤ 281474976710656 := fun x hx => by
    have h1 := cut_part 32 s x (by rw [hc]; exact List.mem_cons_of_mem _ hx)
    omega
  have hb2 := (Below.refl (w.alloc (.cells #[.int .i64 0, .int .i64 0, .int .i64 0, .int .u64 0] 69)).heap.size _).alloc (Nat.le_refl _) (.cells (sCells (h :: t)).toArray 9)
  have hnum := numbers_any t (by omega) hS _ t.length _ ((hE.below hW0).below hb2) (words_new _ t h)
  rw [hns] at hnum
  have HN := Lib.hid hnum
  have hsl := fun W => run_tail (w.alloc (.cells #[.int .i64 0, .int .i64 0, .int .i64 0, .int .u64 0] 69)).heap.size t.length W
  have HZ := Lib.hid (word_zero (w.alloc (.cells #[.int .i64 0, .int .i64 0, .int .i64 0, .int .u64 0] 69)) t h)
  have HB1 : Hid (Below w.heap.size w ((w.alloc (.cells #[.int .i64 0, .int .i64 0, .int .i64 0, .int .u64 0] 69)).alloc (.cells (sCells (h :: t)).toArray 9))) := Lib.hid (hW0.alloc (by simp) _)
  clear hnum hS hb2 hW0 hE hns hs
  rw [show (w.alloc (.cells #[.int .i64 0, .int .i64 0, .int .i64 0, .int .u64 0] 69)).heap.size = w.heap.size + 1 by simp] at HSP HN hsl HZ
  generalize tailAd (w.heap.size + 1) t.length = ad at HN hsl
  have hmm : ∀ W, (Instr.makeMap 132 none).run Tryz.prog W = .ok (.map (some W.heap.size)) (W.alloc (.map kmap0 0)) := fun W => run_makeMap_plain W 132
  have hp1 := put1
  have hp2 := put2
  have hp3 := put3
  have hp4 := put4
  have hp5 := put5
  have hp6 := put6
  have hlk := fun W => run_kind W h
  rw [hk] at hlk
  go_enter Tryz.func63, Tryz.ntmps63
  go_wp2_with (first | (go_at_call 61; refine HSP.out.mono ?_; rintro e w1 ⟨rfl, rfl⟩) | (go_at_call 92; refine HN.out.mono ?_; rintro e w2 ⟨hb2, v, rfl, hown⟩; have z0 := (hb2.cell (p := ⟨w.heap.size + 1, 0, none⟩) (by simp)).trans HZ.out; have hsz2 : w.heap.size + 1 < w2.heap.size := (by have h5 := hb2.size; simp at h5; omega); have hlt1 : w.heap.size < w2.heap.size := (by omega); have hlt2 : w.heap.size < w2.heap.size + 1 := (by omega); have hno1 : ¬ w.heap.size = w2.heap.size := (by omega); have hno2 : ¬ w.heap.size = w2.heap.size + 1 := (by omega); have r0 := hb2.cell (p := ⟨w.heap.size, 0, none⟩) (by simp; omega); have r1 := hb2.cell (p := ⟨w.heap.size, 1, none⟩) (by simp; omega); have r2 := hb2.cell (p := ⟨w.heap.size, 2, none⟩) (by simp; omega); have r3 := hb2.cell (p := ⟨w.heap.size, 3, none⟩) (by simp; omega); simp at r0 r1 r2 r3; have f0 := hb2.frozen (p := ⟨w.heap.size, 0, none⟩) (by simp; omega); have f1 := hb2.frozen (p := ⟨w.heap.size, 1, none⟩) (by simp; omega); have f2 := hb2.frozen (p := ⟨w.heap.size, 2, none⟩) (by simp; omega); have f3 := hb2.frozen (p := ⟨w.heap.size, 3, none⟩) (by simp; omega); simp at f0 f1 f2 f3; have HO := Lib.hid hown; clear hown; have HB2 := Lib.hid hb2; clear hb2; obtain ⟨gv, vcap, rfl, hgv, _⟩ := own_form HO.out hnpos; have hgl := (HO.out.lt gv rfl).2; simp at hgv) | (at_builtin; go_loud (refine app_cells (w.heap.size + 2) rfl _ _ 61 3 _ 1 8 rfl Tryz.underlying61 infoI rfl (by decide) (by decide) (.slice (some ⟨gv, 0, none⟩) ns.length vcap) ns.length _ [.int .i64 0] rfl _ rfl (by simp) rfl (by intro u hu; simp at hu; subst hu; rfl) ((own_lower HO.out (by simp)).alloc _ |>.alloc _) (by simp; omega) (by omega) ?_; intro v3 w3 hown3 hg3; have k0 := hg3.cell (a := ⟨w2.heap.size + 1, 0, none⟩) (v := .int .i64 6) (kb_cell _ _ _ _ _) (by intro e; have e1 : w2.heap.size + 1 = gv := (by injection e); omega); have hsz3 := hg3.size; simp at hsz3; have HB3 := Lib.hid (((((HB2.out.alloc (by simp; omega) (.map kmap6 6)).alloc (by simp; omega) (.cells #[.int .i64 6, .int .i64 (ns.length : Int)] 131))).grown hg3 (by simp; omega) (fun q hq => by cases hq; simp; omega))); clear hg3; obtain ⟨g3, c3, rfl, hg3b, _⟩ := own_form hown3 (by omega); have hg3l := (hown3.lt g3 rfl).2; have n0 := (hown3.cellAt 0 (by omega)).trans hc0; have n1 := (hown3.cellAt 1 (by omega)).trans hc1; clear hown3; clear r0 r1 r2 r3 f0 f1 f2 f3; have r0 := HB3.out.cell (p := ⟨w.heap.size, 0, none⟩) (by simp; omega); have f0 := HB3.out.frozen (p := ⟨w.heap.size, 0, none⟩) (by simp; omega); have r1 := HB3.out.cell (p := ⟨w.heap.size, 1, none⟩) (by simp; omega); have f1 := HB3.out.frozen (p := ⟨w.heap.size, 1, none⟩) (by simp; omega); have r2 := HB3.out.cell (p := ⟨w.heap.size, 2, none⟩) (by simp; omega); have f2 := HB3.out.frozen (p := ⟨w.heap.size, 2, none⟩) (by simp; omega); have r3 := HB3.out.cell (p := ⟨w.heap.size, 3, none⟩) (by simp; omega); have f3 := HB3.out.frozen (p := ⟨w.heap.size, 3, none⟩) (by simp; omega); simp at r0 r1 r2 r3 f0 f1 f2 f3)))
  have hx1 : w2.heap.size + 1 < w3.heap.size := by omega
  have hx4 : (1 : Int) < (ns.length : Int) + 1 := by omega
  have hx5 : 1 < ns.length + 1 := by omega
  have hx2 : w.heap.size < w3.heap.size := by omega
  have hx3 : ¬ w.heap.size = w3.heap.size := by omega
  have hx6 : g3 < w3.heap.size := by omega
  have hx7 : ¬ g3 = w3.heap.size := by omega
  have hS0 := startG (W := w3) (kb := w2.heap.size + 1) (g := g3) k0 n0 n1
  go_region_held3 (fun W => W.cell? ⟨w2.heap.size + 1, 0, none⟩ = some (.int .i64 6) ∧ W.cell? ⟨g3, 0, none⟩ = some (.int .i64 a) ∧ W.cell? ⟨g3, 1, none⟩ = some (.int .i64 b) ∧ Hid (Below w3.heap.size w3 W)) (first | assumption | exact stepG (by assumption) ((Below.refl _ _).alloc (Nat.le_refl _) _) | exact stepG (W := w3) (W0 := w3) ⟨k0, n0, n1, Below.refl _ _⟩ (((Below.refl _ _).alloc (Nat.le_refl _) _).drew)) (fail)
  go_wp2
  have hS1 := stepG (W := w3) (W0 := w3) ⟨k0, n0, n1, Below.refl _ _⟩ ((((Below.refl _ _).alloc (Nat.le_refl _) (.cells #[.int .i64 6, .int .i64 a, .int .i64 b, .int .u64 0] 69)).drew).drew)
  go_region_held3 (fun W => W.cell? ⟨w2.heap.size + 1, 0, none⟩ = some (.int .i64 6) ∧ W.cell? ⟨g3, 0, none⟩ = some (.int .i64 a) ∧ W.cell? ⟨g3, 1, none⟩ = some (.int .i64 b) ∧ Hid (Below w3.heap.size w3 W)) (first | assumption | exact stepG (W := w3) (W0 := w3) ⟨k0, n0, n1, Below.refl _ _⟩ ((((Below.refl _ _).alloc (Nat.le_refl _) _).drew).drew)) (fail)
  all_goals (try go_wp2)
  all_goals (try simp only [Exit.inBlock, Exit.then])
  all_goals refine bodyPost_ret (v := .tuple #[.agg #[.int .i64 6, .int .i64 a, .int .i64 0, .int .u64 b], .bool true]) ?_ rfl ⟨?_, rfl⟩
  all_goals first
    | (rw [results_cell_tmp rfl]; go_simp; done)
    | (have hw := HB1.out.trans (HB3.out.mono (by simp; omega)); repeat (first | exact hw | refine Below.drew ?_ | refine Below.alloc ?_ (by simp; omega) _ | refine Below.setCell ?_ (by simp) _))
end Go.Proofs.YtmnbgamnbgdnnaaGreatDoor

/- Contract of circ.readGate, joined. -/
namespace Go.Proofs.YtmnbgamnbgdnnaaGreatDoor
open Go.RowKit Go.Maps

theorem gateOf_cut {s h : Bs} {t : List Bs} (hc : cut 32 s = h :: t) : gateOf s = match allOf valOf t with
    | some [a] => if h = kwIn then some (1, (a : Int), 0, 0) else if h = kwConst then some (2, 0, 0, (a : Int)) else none
    | some [a, b] => if h = kwAdd then some (3, (a : Int), (b : Int), 0) else if h = kwSub then some (4, (a : Int), (b : Int), 0) else if h = kwMul then some (5, (a : Int), (b : Int), 0) else
        if h = kwScale then some (6, (a : Int), 0, (b : Int)) else none
    | _ => none := by
  unfold gateOf
  rw [hc]
  rfl
set_option maxHeartbeats 2000000 in
set_option maxRecDepth 100000 in
theorem readGate_n (s : Bs) (hs : s.length ≤ 4194304) (w : World) (hE : Env w) (h : Bs) (t : List Bs) (hc : cut 32 s = h :: t) (hns : allOf valOf t = none) :
    Calls Tryz.prog 63 #[.string ⟨s.toArray⟩] w (GatePostR none w) := by
  have hlen : t.length ≤ 4194304 := by
    have := cut_len 32 s
    rw [hc, List.length_cons] at this
    have : s.count 32 ≤ s.length := List.count_le_length
    omega
  have hW0 : Below w.heap.size w (w.alloc (.cells #[.int .i64 0, .int .i64 0, .int .i64 0, .int .u64 0] 69)) := (Below.refl _ _).alloc (Nat.le_refl _) _
  have hsp := split_any s 32 (w.alloc (.cells #[.int .i64 0, .int .i64 0, .int .i64 0, .int .u64 0] 69)) (by omega)
  rw [hc, List.length_cons] at hsp
  have HSP := Lib.hid hsp; clear hsp
  have hS : ∀ x ∈ t, x.length ≤ 281474976710656 := fun x hx => by
    have h1 := cut_part 32 s x (by rw [hc]; exact List.mem_cons_of_mem _ hx)
    omega
  have hb2 := (Below.refl (w.alloc (.cells #[.int .i64 0, .int .i64 0, .int .i64 0, .int .u64 0] 69)).heap.size _).alloc (Nat.le_refl _) (.cells (sCells (h :: t)).toArray 9)
  have hnum := numbers_any t (by omega) hS _ t.length _ ((hE.below hW0).below hb2) (words_new _ t h)
  rw [hns] at hnum
  have HN := Lib.hid hnum
  have hsl := fun W => run_tail (w.alloc (.cells #[.int .i64 0, .int .i64 0, .int .i64 0, .int .u64 0] 69)).heap.size t.length W
  have HB1 : Hid (Below w.heap.size w ((w.alloc (.cells #[.int .i64 0, .int .i64 0, .int .i64 0, .int .u64 0] 69)).alloc (.cells (sCells (h :: t)).toArray 9))) := Lib.hid (hW0.alloc (by simp) _)
  clear hnum hS hb2 hW0 hE hns hs
  rw [show (w.alloc (.cells #[.int .i64 0, .int .i64 0, .int .i64 0, .int .u64 0] 69)).heap.size = w.heap.size + 1 by simp] at HSP HN hsl
  generalize tailAd (w.heap.size + 1) t.length = ad at HN hsl
  go_enter Tryz.func63, Tryz.ntmps63
  go_wp2_with (first | (go_at_call 61; refine HSP.out.mono ?_; rintro e w1 ⟨rfl, rfl⟩) | (go_at_call 92; refine HN.out.mono ?_; rintro e w2 ⟨hb2, rfl⟩; have r0 := hb2.cell (p := ⟨w.heap.size, 0, none⟩) (by simp; omega); have r1 := hb2.cell (p := ⟨w.heap.size, 1, none⟩) (by simp; omega); have r2 := hb2.cell (p := ⟨w.heap.size, 2, none⟩) (by simp; omega); have r3 := hb2.cell (p := ⟨w.heap.size, 3, none⟩) (by simp; omega); simp at r0 r1 r2 r3; have f0 := hb2.frozen (p := ⟨w.heap.size, 0, none⟩) (by simp; omega); have f1 := hb2.frozen (p := ⟨w.heap.size, 1, none⟩) (by simp; omega); have f2 := hb2.frozen (p := ⟨w.heap.size, 2, none⟩) (by simp; omega); have f3 := hb2.frozen (p := ⟨w.heap.size, 3, none⟩) (by simp; omega); simp at f0 f1 f2 f3; have HB2 := Lib.hid hb2; clear hb2))
  (try simp only [Exit.inBlock, Exit.then])
  refine bodyPost_ret (v := .tuple #[.agg #[.int .i64 0, .int .i64 0, .int .i64 0, .int .u64 0], .bool false]) ?_ rfl ⟨?_, 0, 0, 0, 0, rfl⟩
  · rw [results_cell_tmp rfl]
    go_simp
  · have hw := HB1.out.trans (HB2.out.mono (by simp; omega)); repeat (first | exact hw | refine Below.alloc ?_ (by simp; omega) _ | refine Below.setCell ?_ (by simp) _)
theorem allOf_lt {l : List Bs} {ns : List Nat} (h : allOf valOf l = some ns) : ∀ x ∈ ns, x < 1000000000 := by
  induction l generalizing ns with
  | nil => injection h with h; subst h; simp
  | cons x r ih =>
    rw [allOf] at h
    cases e1 : valOf x with
    | none => rw [e1] at h; cases h
    | some a =>
      cases e2 : allOf valOf r with
      | none => rw [e1, e2] at h; cases h
      | some b =>
        rw [e1, e2] at h
        injection h with h
        subst h
        intro y hy
        rcases List.mem_cons.1 hy with e | e
        · subst e; exact (valOf_some e1).2
        · exact ih e2 y e
theorem readGate_any (s : Bs) (hs : s.length ≤ 4194304) (w : World) (hE : Env w) : Calls Tryz.prog 63 #[.string ⟨s.toArray⟩] w (GatePostR (gateOf s) w) := by
  cases hc : cut 32 s with
  | nil => exact absurd hc (cut_ne 32 s)
  | cons h t =>
    rw [gateOf_cut hc]
    cases hns : allOf valOf t with
    | none => exact readGate_n s hs w hE h t hc hns
    | some ns =>
      have hlt := allOf_lt hns
      have bad : ∀ k m, kindOf h = (k, m) → k ≠ 0 → ¬ m = (ns.length : Int) → Calls Tryz.prog 63 #[.string ⟨s.toArray⟩] w (GatePostR none w) := fun k m h1 h2 h3 =>
        readGate_bm s hs w hE h t hc ns hns k m h1 (by simpa using h2) h3
      have one : ∀ k, kindOf h = (k, 1) → (k = 1 ∧ h = kwIn ∨ k = 2 ∧ h = kwConst) → Calls Tryz.prog 63 #[.string ⟨s.toArray⟩] w (GatePostR (match some ns with
          | some [a] => if h = kwIn then some (1, (a : Int), 0, 0) else if h = kwConst then some (2, 0, 0, (a : Int)) else none
          | some [a, b] => if h = kwAdd then some (3, (a : Int), (b : Int), 0) else if h = kwSub then some (4, (a : Int), (b : Int), 0) else if h = kwMul then some (5, (a : Int), (b : Int), 0) else
              if h = kwScale then some (6, (a : Int), 0, (b : Int)) else none
          | _ => none) w) := by
        intro k hk hor
        match ns, hns, hlt, bad with
        | [], _, _, bad => exact bad k 1 hk (by omega) (by simp)
        | [a], hns, hlt, _ =>
          have ha := hlt a (by simp)
          rcases hor with ⟨rfl, rfl⟩ | ⟨rfl, rfl⟩
          · exact readGate_p s hs w hE kwIn t hc [a] hns 1 hk rfl rfl rfl a 0 rfl rfl (by simp)
          · exact readGate_c s hs w hE kwConst t hc [a] hns hk a 0 (IntWalk.u64_in _ (by omega)) rfl rfl (by simp)
        | [a, b], _, _, bad =>
          have := bad k 1 hk (by omega) (by simp)
          rcases hor with ⟨rfl, rfl⟩ | ⟨rfl, rfl⟩ <;> exact this
        | a :: b :: c :: r, _, _, bad => exact bad k 1 hk (by omega) (by simp; omega)
      have two : ∀ k, kindOf h = (k, 2) → (k = 3 ∧ h = kwAdd ∨ k = 4 ∧ h = kwSub ∨ k = 5 ∧ h = kwMul ∨ k = 6 ∧ h = kwScale) → Calls Tryz.prog 63 #[.string ⟨s.toArray⟩] w (GatePostR (match some ns with
          | some [a] => if h = kwIn then some (1, (a : Int), 0, 0) else if h = kwConst then some (2, 0, 0, (a : Int)) else none
          | some [a, b] => if h = kwAdd then some (3, (a : Int), (b : Int), 0) else if h = kwSub then some (4, (a : Int), (b : Int), 0) else if h = kwMul then some (5, (a : Int), (b : Int), 0) else
              if h = kwScale then some (6, (a : Int), 0, (b : Int)) else none
          | _ => none) w) := by
        intro k hk hor
        match ns, hns, hlt, bad with
        | [], _, _, bad => exact bad k 2 hk (by omega) (by simp)
        | [a], _, _, bad =>
          have := bad k 2 hk (by omega) (by simp)
          rcases hor with ⟨rfl, rfl⟩ | ⟨rfl, rfl⟩ | ⟨rfl, rfl⟩ | ⟨rfl, rfl⟩ <;> exact this
        | [a, b], hns, hlt, _ =>
          have hb := hlt b (by simp)
          rcases hor with ⟨rfl, rfl⟩ | ⟨rfl, rfl⟩ | ⟨rfl, rfl⟩ | ⟨rfl, rfl⟩
          · exact readGate_p s hs w hE kwAdd t hc [a, b] hns 3 hk rfl rfl rfl a b rfl rfl (by simp)
          · exact readGate_p s hs w hE kwSub t hc [a, b] hns 4 hk rfl rfl rfl a b rfl rfl (by simp)
          · exact readGate_p s hs w hE kwMul t hc [a, b] hns 5 hk rfl rfl rfl a b rfl rfl (by simp)
          · exact readGate_s s hs w hE kwScale t hc [a, b] hns hk a b (IntWalk.u64_in _ (by omega)) rfl rfl (by simp)
        | a :: b :: c :: r, _, _, bad => exact bad k 2 hk (by omega) (by simp; omega)
      by_cases g0 : h = kwIn
      · exact one 1 (by rw [g0]; rfl) (.inl ⟨rfl, g0⟩)
      by_cases g1 : h = kwConst
      · exact one 2 (by rw [g1]; rfl) (.inr ⟨rfl, g1⟩)
      by_cases g2 : h = kwAdd
      · exact two 3 (by rw [g2]; rfl) (.inl ⟨rfl, g2⟩)
      by_cases g3 : h = kwSub
      · exact two 4 (by rw [g3]; rfl) (.inr (.inl ⟨rfl, g3⟩))
      by_cases g4 : h = kwMul
      · exact two 5 (by rw [g4]; rfl) (.inr (.inr (.inl ⟨rfl, g4⟩)))
      by_cases g5 : h = kwScale
      · exact two 6 (by rw [g5]; rfl) (.inr (.inr (.inr ⟨rfl, g5⟩)))
      have hk : kindOf h = (0, 0) := by unfold kindOf; rw [if_neg g0, if_neg g1, if_neg g2, if_neg g3, if_neg g4, if_neg g5]
      have h0 := readGate_b0 s hs w hE h t hc ns hns hk
      match ns, h0 with
      | [], h0 => exact h0
      | [a], h0 => simp only [g0, g1, if_false]; exact h0
      | [a, b], h0 => simp only [g2, g3, g4, g5, if_false]; exact h0
      | a :: b :: c :: r, h0 => exact h0
end Go.Proofs.YtmnbgamnbgdnnaaGreatDoor
