/- Contracts of the reserved names: token.reserved (a map), IsReserved, and the reference's. -/
import Derived.Test.YtaccooeodimdaaaDoorTokS
import Derived.Test.YtaccooeodimdaaaDoorTokU
import Derived.Maps.Own
import Derived.Maps.OwnOps
import Derived.Maps.Views
import Derived.Maps.Keyed
import Derived.Maps.OwnSet
import Derived.Lib.Space
import Derived.Lib.ItoaMem
namespace Go.Proofs.YtaccooeodimdaaaDoor
open Go.RowKit Go.Maps

def resText : ByteArray := ⟨#[105, 110, 32, 102, 114, 111, 109, 32, 108, 101, 116, 32, 105, 102, 32, 101, 108, 115, 101, 32, 102, 111, 114, 32, 116, 111, 32, 111, 117, 116, 32, 97, 108, 108, 32, 100, 101, 102, 32, 114, 101, 116, 117, 114, 110, 32, 110, 117, 109, 32, 98, 105, 116, 32, 119, 111, 114, 100]⟩
def resW : List ByteArray := [⟨#[105, 110]⟩, ⟨#[102, 114, 111, 109]⟩, ⟨#[108, 101, 116]⟩, ⟨#[105, 102]⟩, ⟨#[101, 108, 115, 101]⟩, ⟨#[102, 111, 114]⟩, ⟨#[116, 111]⟩, ⟨#[111, 117, 116]⟩, ⟨#[97, 108, 108]⟩, ⟨#[100, 101, 102]⟩, ⟨#[114, 101, 116, 117, 114, 110]⟩, ⟨#[110, 117, 109]⟩, ⟨#[98, 105, 116]⟩, ⟨#[119, 111, 114, 100]⟩]
def inW (l : List ByteArray) (x : List UInt8) : Bool := l.any fun y => y.data.toList == x
def SpaceTab (w : World) : Prop := Lib.TabIs Tryd.prog w "strings.asciiSpace" .u8 Lib.asciiSpaceTab
theorem law9 : Keyed Tryd.prog 9 := string_keyed Tryd.underlying9
theorem key9 (s : ByteArray) (hs : s.size ≤ maxLen) : keyOf Tryd.prog 9 (.string s) = some (.string s.data.toList) := by
  simp [keyOf, Tryd.underlying9, mapKey, hs]
theorem res_ascii : ∀ (j : Nat) b, resText.data.toList[j]? = some b → b.toNat < 128 := by
  intro j b h
  have h1 : (resText.data.toList.all fun b => decide (b.toNat < 128)) = true := by decide
  exact of_decide_eq_true (List.all_eq_true.1 h1 b (List.mem_of_getElem? h))
theorem fields_res : Lib.fields resText.data.toList = resW.map fun y => y.data.toList := by decide
theorem fields_cells : ((Lib.fields resText.data.toList).map fun l => Value.string ⟨l.toArray⟩).toArray = (resW.map Value.string).toArray := by
  rw [fields_res, List.map_map]
  rfl
theorem inW_succ (l : List ByteArray) (k : Nat) (h : k < l.length) (x : List UInt8) : inW (l.take (k + 1)) x = (inW (l.take k) x || (l[k].data.toList == x)) := by
  unfold inW
  rw [List.take_succ_eq_append_getElem h, List.any_append]
  simp
/-- The map reads as the set of the words. -/
def SetOf (D : DataW Unit) (l : List ByteArray) : Prop := IsMap D ∧ ∀ x : List UInt8, D.atKey (.string x) (.lit (.bool false)) = .lit (.bool (inW l x))
theorem SetOf.nil : SetOf (.map []) [] := ⟨isMap_empty, fun _ => rfl⟩
theorem SetOf.put {D : DataW Unit} {l : List ByteArray} {k : Nat} (h : SetOf D (l.take k)) (hk : k < l.length) : SetOf (D.put (.string l[k].data.toList) (.lit (.bool true))) (l.take (k + 1)) := by
  refine ⟨?_, fun x => ?_⟩
  · obtain ⟨es, rfl⟩ := h.1; exact ⟨_, rfl⟩
  · rw [inW_succ l k hk x]
    by_cases hx : l[k].data.toList = x
    · subst hx
      rw [atKey_put_same h.1 (show WideAt.IsKeyLit (.string _) from trivial)]
      simp
    · rw [atKey_put_other (by intro he; injection he with he; exact hx he.symm), h.2 x]
      simp [hx]
set_option maxRecDepth 100000 in
theorem lookup_bool {w : World} {b n : Nat} {D : DataW Unit} (h : w.ownsMap Tryd.prog 9 (plainElem Tryd.prog 4) b n D) (s : ByteArray) (hs : s.size ≤ maxLen) :
    ∃ c, (Instr.lookup 62 (.map (some b)) (.string s) false).run Tryd.prog w = .ok (.bool c) w ∧ D.atKey (.string s.data.toList) (.lit (.bool false)) = .lit (.bool c) := by
  obtain ⟨v, ps, hrun, hv⟩ := h.lookup law9 Tryd.underlying62 (Tryd.zeroValue4 w) (plainElem_bool Tryd.underlying4 false) (key9 s hs)
  unfold plainElem at hv
  rw [Tryd.underlying4] at hv
  cases v <;> simp at hv
  exact ⟨_, hrun, hv.1.symm⟩

theorem res_at (k : Nat) (h : k < 14) : (resW.map Value.string).toArray[k]? = some (.string (resW[k]'h)) := by
  rw [List.getElem?_toArray, List.getElem?_map, List.getElem?_eq_getElem (show k < resW.length from h)]; rfl
theorem res_small (k : Nat) (h : k < 14) : (resW[k]'h).size ≤ maxLen := by
  have h1 : (resW.all fun y => decide (y.size ≤ 10)) = true := by decide
  have h2 := of_decide_eq_true (List.all_eq_true.1 h1 _ (List.getElem_mem (show k < resW.length from h)))
  unfold maxLen; omega
def ResPost (w : World) (e : Ending) (w' : World) : Prop := e = .returned (.map (some w.heap.size)) ∧ (∃ D, w'.ownsMap Tryd.prog 9 (plainElem Tryd.prog 4) w.heap.size 14 D ∧ SetOf D resW) ∧ Below w.heap.size w w'
theorem space_alloc {w : World} (h : SpaceTab w) (o : Obj) : SpaceTab (w.alloc o) := Lib.tabIs_alloc h o
set_option maxHeartbeats 1000000 in
set_option maxRecDepth 100000 in
theorem reserved_any (w : World) (htab : SpaceTab w) : Calls Tryd.prog 43 #[] w (ResPost w) := by
  have hmm := @run_makeMap Tryd.prog
  have hf := Tryd.strings_Fields resText (w.alloc (.map #[] 0)) (by decide) res_ascii (space_alloc htab _)
  rw [fields_cells, show (Lib.fields resText.data.toList).length = 14 by rw [fields_res]; rfl] at hf
  have HF := Lib.hid hf; clear hf htab
  go_enter Tryd.func43, Tryd.ntmps43
  go_wp2_with (go_at_call 58; refine HF.out.mono ?_; rintro e w1 ⟨rfl, rfl⟩)
  go_loopg [7] 14 (fun g i wr => ∃ (k : Nat) (D : DataW Unit), k ≤ 14 ∧ g = 14 - k ∧ i = .int .i64 k ∧ wr.ownsMap Tryd.prog 9 (plainElem Tryd.prog 4) w.heap.size k D ∧ SetOf D (resW.take k) ∧ wr.heap[w.heap.size + 1]? = some (.cells (resW.map Value.string).toArray 9 (0, 0)) ∧ Below w.heap.size w wr)
  case atStart =>
    refine ⟨0, .map [], by omega, rfl, rfl, (World.ownsMap_made w _ _ _).alloc _, SetOf.nil, ?_, ((Below.refl _ _).alloc (Nat.le_refl _) _).alloc (by simp) _⟩
    have := heap_alloc_new (w.alloc (.map #[] 0)) (.cells (resW.map Value.string).toArray 9)
    simpa using this
  case round =>
    obtain ⟨k, D, hk, rfl, rfl, hown, hset, hrow, hbel⟩ := hrel
    have HO := Lib.hid hown; clear hown
    have HB := Lib.hid hbel; clear hbel
    by_cases hlt : k < 14
    · have q0 := cell_of_row wr _ k _ _ _ hrow
      rw [res_at k hlt] at q0
      have hkey := key9 (resW[k]'hlt) (res_small k hlt)
      have HS := Lib.hid (hset.put (show k < resW.length from hlt)); clear hset
      have HR := Lib.hid hrow; clear hrow
      have HD := Lib.hid (show (D.put (.string (resW[k]'hlt).data.toList) (.lit (.bool true))) = D.put (.string (resW[k]'hlt).data.toList) (.lit (.bool true)) from rfl)
      go_wp2_with (at_mapUpdate; refine wpList_mapUpdate_own _ rfl _ _ _ 62 rfl 9 4 law9 Tryd.underlying62 (plainElem (H := Unit) Tryd.prog 4) w.heap.size k D rfl HO.out (by unfold maxLen; omega) _ _ _ rfl rfl hkey _ [] (plainElem_bool Tryd.underlying4 true) ?_; intro w1 hown1 hgrow1; have HO1 := Lib.hid hown1; clear hown1; have HG1 := Lib.hid hgrow1; clear hgrow1)
      go_roundg (14 - (k + 1))
      case measure => omega
      case rel => exact ⟨k + 1, _, by omega, rfl, by go_num, HO1.out, HS.out, (HG1.out.block (w.heap.size + 1) (by have := (Array.getElem?_eq_some_iff.1 HR.out).1; omega) (by intro he; injection he; omega)).trans HR.out, HB.out.grown HG1.out HB.out.size (fun j hj => by cases hj; exact Nat.le_refl _)⟩
    · obtain rfl : k = 14 := by omega
      have HS := Lib.hid hset; clear hset hrow
      go_wp2
      go_ret
      exact ⟨rfl, ⟨D, HO.out, HS.out⟩, HB.out⟩
end Go.Proofs.YtaccooeodimdaaaDoor
