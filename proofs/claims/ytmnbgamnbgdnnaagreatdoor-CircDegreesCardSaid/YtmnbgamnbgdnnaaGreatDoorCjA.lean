/- Contract of circ.readGate. -/
import Derived.Test.YtmnbgamnbgdnnaaGreatDoorCirZ
import Derived.Maps.Own
import Derived.Maps.OwnOps
import Derived.Maps.Views
import Derived.Maps.Keyed
import Derived.Maps.OwnSet
import Derived.WideMake
import Derived.Laws.ResultCell
namespace Go.Proofs.YtmnbgamnbgdnnaaGreatDoor
open Go.RowKit Go.Maps

def GatePostR (o : Option Gat) (w : World) (e : Ending) (w' : World) : Prop :=
  Below w.heap.size w w' ∧ match o with
    | none => ∃ a b c d, e = .returned (.tuple #[.agg #[.int .i64 a, .int .i64 b, .int .i64 c, .int .u64 d], .bool false])
    | some g => e = .returned (.tuple #[.agg #[.int .i64 g.1, .int .i64 g.2.1, .int .i64 g.2.2.1, .int .u64 g.2.2.2], .bool true])
theorem run_put (mty kt et : TypeId) (hm : Tryz.prog.underlying mty = some (.map kt et)) (hk : Tryz.prog.underlying kt = some .string) (W : World) (es es' : Array MapEntry) (clock : Nat) (s : ByteArray) (val : Value) (hf : Instr.findNow .string (.string s) es.toList 0 = some none) (he : es.push { key := .string s, val := val, born := clock } = es') :
    (Instr.mapUpdate mty (.map (some W.heap.size)) (.string s) val).run Tryz.prog (W.alloc (.map es clock)) = .ok () (W.alloc (.map es' (clock + 1))) := by
  subst he
  have hb : (W.alloc (.map es clock)).heap[W.heap.size]? = some (.map es clock) := heap_alloc_new _ _
  have hc : (Instr.checkKey false 10000 kt (.string s)).run Tryz.prog (W.alloc (.map es clock)) = .ok () (W.alloc (.map es clock)) := MapKept.run_checkKey (k := .string s) hk (by simp [MapKept.IsKey]) false 9999
  have hh : ({ W.alloc (.map es clock) with heap := (W.alloc (.map es clock)).heap.setIfInBounds W.heap.size (.map (es.push { key := .string s, val := val, born := clock }) (clock + 1)) } : World) = W.alloc (.map (es.push { key := .string s, val := val, born := clock }) (clock + 1)) := by
    have ha : (W.heap.push (.map es clock)).setIfInBounds W.heap.size (.map (es.push { key := .string s, val := val, born := clock }) (clock + 1)) = W.heap.push (.map (es.push { key := .string s, val := val, born := clock }) (clock + 1)) := by
      apply Array.ext_getElem?
      intro j
      rw [Array.getElem?_setIfInBounds, Array.getElem?_push, Array.getElem?_push]
      by_cases hj : W.heap.size = j
      · subst hj; simp
      · rw [if_neg hj, if_neg (Ne.symm hj), if_neg (Ne.symm hj)]
    exact congrArg (fun x => ({ W with heap := x } : World)) ha
  rw [← hh]
  simp [Instr.mapUpdate, run_underlying hm, MapKept.run_getObj_map hb, hc, MapKept.run_findKey hk hf, MapKept.run_setObj_map _ hb, Result.andThen]
def kmap0 : Array MapEntry := #[]
def kmap1 : Array MapEntry := #[{ key := .string ⟨#[105, 110]⟩, val := .agg #[.int .i64 1, .int .i64 1], born := 0 }]
def kmap2 : Array MapEntry := #[{ key := .string ⟨#[105, 110]⟩, val := .agg #[.int .i64 1, .int .i64 1], born := 0 }, { key := .string ⟨#[99, 111, 110, 115, 116]⟩, val := .agg #[.int .i64 2, .int .i64 1], born := 1 }]
def kmap3 : Array MapEntry := #[{ key := .string ⟨#[105, 110]⟩, val := .agg #[.int .i64 1, .int .i64 1], born := 0 }, { key := .string ⟨#[99, 111, 110, 115, 116]⟩, val := .agg #[.int .i64 2, .int .i64 1], born := 1 }, { key := .string ⟨#[97, 100, 100]⟩, val := .agg #[.int .i64 3, .int .i64 2], born := 2 }]
def kmap4 : Array MapEntry := #[{ key := .string ⟨#[105, 110]⟩, val := .agg #[.int .i64 1, .int .i64 1], born := 0 }, { key := .string ⟨#[99, 111, 110, 115, 116]⟩, val := .agg #[.int .i64 2, .int .i64 1], born := 1 }, { key := .string ⟨#[97, 100, 100]⟩, val := .agg #[.int .i64 3, .int .i64 2], born := 2 }, { key := .string ⟨#[115, 117, 98]⟩, val := .agg #[.int .i64 4, .int .i64 2], born := 3 }]
def kmap5 : Array MapEntry := #[{ key := .string ⟨#[105, 110]⟩, val := .agg #[.int .i64 1, .int .i64 1], born := 0 }, { key := .string ⟨#[99, 111, 110, 115, 116]⟩, val := .agg #[.int .i64 2, .int .i64 1], born := 1 }, { key := .string ⟨#[97, 100, 100]⟩, val := .agg #[.int .i64 3, .int .i64 2], born := 2 }, { key := .string ⟨#[115, 117, 98]⟩, val := .agg #[.int .i64 4, .int .i64 2], born := 3 }, { key := .string ⟨#[109, 117, 108]⟩, val := .agg #[.int .i64 5, .int .i64 2], born := 4 }]
def kmap6 : Array MapEntry := #[{ key := .string ⟨#[105, 110]⟩, val := .agg #[.int .i64 1, .int .i64 1], born := 0 }, { key := .string ⟨#[99, 111, 110, 115, 116]⟩, val := .agg #[.int .i64 2, .int .i64 1], born := 1 }, { key := .string ⟨#[97, 100, 100]⟩, val := .agg #[.int .i64 3, .int .i64 2], born := 2 }, { key := .string ⟨#[115, 117, 98]⟩, val := .agg #[.int .i64 4, .int .i64 2], born := 3 }, { key := .string ⟨#[109, 117, 108]⟩, val := .agg #[.int .i64 5, .int .i64 2], born := 4 }, { key := .string ⟨#[115, 99, 97, 108, 101]⟩, val := .agg #[.int .i64 6, .int .i64 2], born := 5 }]
theorem put1 (W : World) : (Instr.mapUpdate 132 (.map (some W.heap.size)) (.string ⟨#[105, 110]⟩) (.agg #[.int .i64 1, .int .i64 1])).run Tryz.prog (W.alloc (.map kmap0 0)) = .ok () (W.alloc (.map kmap1 1)) :=
  run_put 132 9 131 Tryz.underlying132 Tryz.underlying9 W kmap0 kmap1 0 _ _ rfl rfl
theorem put2 (W : World) : (Instr.mapUpdate 132 (.map (some W.heap.size)) (.string ⟨#[99, 111, 110, 115, 116]⟩) (.agg #[.int .i64 2, .int .i64 1])).run Tryz.prog (W.alloc (.map kmap1 1)) = .ok () (W.alloc (.map kmap2 2)) :=
  run_put 132 9 131 Tryz.underlying132 Tryz.underlying9 W kmap1 kmap2 1 _ _ rfl rfl
theorem put3 (W : World) : (Instr.mapUpdate 132 (.map (some W.heap.size)) (.string ⟨#[97, 100, 100]⟩) (.agg #[.int .i64 3, .int .i64 2])).run Tryz.prog (W.alloc (.map kmap2 2)) = .ok () (W.alloc (.map kmap3 3)) :=
  run_put 132 9 131 Tryz.underlying132 Tryz.underlying9 W kmap2 kmap3 2 _ _ rfl rfl
theorem put4 (W : World) : (Instr.mapUpdate 132 (.map (some W.heap.size)) (.string ⟨#[115, 117, 98]⟩) (.agg #[.int .i64 4, .int .i64 2])).run Tryz.prog (W.alloc (.map kmap3 3)) = .ok () (W.alloc (.map kmap4 4)) :=
  run_put 132 9 131 Tryz.underlying132 Tryz.underlying9 W kmap3 kmap4 3 _ _ rfl rfl
theorem put5 (W : World) : (Instr.mapUpdate 132 (.map (some W.heap.size)) (.string ⟨#[109, 117, 108]⟩) (.agg #[.int .i64 5, .int .i64 2])).run Tryz.prog (W.alloc (.map kmap4 4)) = .ok () (W.alloc (.map kmap5 5)) :=
  run_put 132 9 131 Tryz.underlying132 Tryz.underlying9 W kmap4 kmap5 4 _ _ rfl rfl
theorem put6 (W : World) : (Instr.mapUpdate 132 (.map (some W.heap.size)) (.string ⟨#[115, 99, 97, 108, 101]⟩) (.agg #[.int .i64 6, .int .i64 2])).run Tryz.prog (W.alloc (.map kmap5 5)) = .ok () (W.alloc (.map kmap6 6)) :=
  run_put 132 9 131 Tryz.underlying132 Tryz.underlying9 W kmap5 kmap6 5 _ _ rfl rfl
/-- The kind and the number of words behind a gate's first word. -/
def kindOf (h : Bs) : Int × Int := if h = kwIn then (1, 1) else if h = kwConst then (2, 1) else if h = kwAdd then (3, 2) else if h = kwSub then (4, 2) else if h = kwMul then (5, 2) else if h = kwScale then (6, 2) else (0, 0)
theorem run_kind (W : World) (h : Bs) : (Instr.lookup 132 (.map (some W.heap.size)) (.string ⟨h.toArray⟩) false).run Tryz.prog (W.alloc (.map kmap6 6)) = .ok (.agg #[.int .i64 (kindOf h).1, .int .i64 (kindOf h).2]) (W.alloc (.map kmap6 6)) := by
  have hb : (W.alloc (.map kmap6 6)).heap[W.heap.size]? = some (.map kmap6 6) := heap_alloc_new _ _
  have hc : (Instr.checkKey false 10000 9 (.string ⟨h.toArray⟩)).run Tryz.prog (W.alloc (.map kmap6 6)) = .ok () (W.alloc (.map kmap6 6)) := MapKept.run_checkKey (k := .string ⟨h.toArray⟩) Tryz.underlying9 (by simp [MapKept.IsKey]) false 9999
  have key : ∀ (i : Nat) (v : Value), Instr.findNow .string (.string ⟨h.toArray⟩) kmap6.toList 0 = some (some (i, v)) → (Instr.lookup 132 (.map (some W.heap.size)) (.string ⟨h.toArray⟩) false).run Tryz.prog (W.alloc (.map kmap6 6)) = .ok v (W.alloc (.map kmap6 6)) := fun i v hf => by
    simp [Instr.lookup, run_underlying Tryz.underlying132, MapKept.run_getObj_map hb, show kmap6.isEmpty = false from rfl, hc, MapKept.run_findKey Tryz.underlying9 hf, Result.andThen]
  have keyn : Instr.findNow .string (.string ⟨h.toArray⟩) kmap6.toList 0 = some none → (Instr.lookup 132 (.map (some W.heap.size)) (.string ⟨h.toArray⟩) false).run Tryz.prog (W.alloc (.map kmap6 6)) = .ok (.agg #[.int .i64 0, .int .i64 0]) (W.alloc (.map kmap6 6)) := fun hf => by
    simp [Instr.lookup, run_underlying Tryz.underlying132, MapKept.run_getObj_map hb, show kmap6.isEmpty = false from rfl, hc, MapKept.run_findKey Tryz.underlying9 hf, Result.andThen, Tryz.zeroValue131]
  unfold kindOf
  by_cases g0 : h = kwIn
  · subst g0
    rw [if_pos rfl]
    exact key 0 _ rfl
  rw [if_neg g0]
  by_cases g1 : h = kwConst
  · subst g1
    rw [if_pos rfl]
    exact key 1 _ rfl
  rw [if_neg g1]
  by_cases g2 : h = kwAdd
  · subst g2
    rw [if_pos rfl]
    exact key 2 _ rfl
  rw [if_neg g2]
  by_cases g3 : h = kwSub
  · subst g3
    rw [if_pos rfl]
    exact key 3 _ rfl
  rw [if_neg g3]
  by_cases g4 : h = kwMul
  · subst g4
    rw [if_pos rfl]
    exact key 4 _ rfl
  rw [if_neg g4]
  by_cases g5 : h = kwScale
  · subst g5
    rw [if_pos rfl]
    exact key 5 _ rfl
  rw [if_neg g5]
  refine keyn ?_
  rcases MapKept.findNow_spec (d := .string) (k := .string ⟨h.toArray⟩) (by simp [MapKept.IsKey]) kmap6.toList 0 (by
    intro x hx
    simp [kmap6] at hx
    rcases hx with rfl | rfl | rfl | rfl | rfl | rfl <;> simp [MapKept.IsKey]) with ⟨e, _⟩ | ⟨j, e, _, h2, h3⟩
  · exact e
  · have hm := List.mem_of_getElem? h2
    simp [kmap6] at hm
    rcases hm with rfl | rfl | rfl | rfl | rfl | rfl <;> (simp only [Value.string.injEq, ByteArray.mk.injEq] at h3; have h4 := congrArg Array.toList h3; simp at h4; subst h4; first | exact absurd rfl g0 | exact absurd rfl g1 | exact absurd rfl g2 | exact absurd rfl g3 | exact absurd rfl g4 | exact absurd rfl g5)
end Go.Proofs.YtmnbgamnbgdnnaaGreatDoor
