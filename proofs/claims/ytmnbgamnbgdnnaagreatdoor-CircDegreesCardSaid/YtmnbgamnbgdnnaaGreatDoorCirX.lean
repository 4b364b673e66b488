/- Contract of strings.Split at one byte. -/
import Derived.Test.YtmnbgamnbgdnnaaGreatDoorCirW
import Derived.Shelf.Strings.Split
namespace Go.Proofs.YtmnbgamnbgdnnaaGreatDoor
open Go.RowKit Go.Shelf

theorem split_eq (s : Bs) (c : UInt8) : (Lib.splitB ⟨#[c]⟩ 0 (Lib.countB ⟨s.toArray⟩ ⟨#[c]⟩) ⟨s.toArray⟩) = (cut c s).map fun x => (⟨x.toArray⟩ : ByteArray) := by
  have h := Lib.splitB_data ⟨#[c]⟩ 0 (Lib.countB ⟨s.toArray⟩ ⟨#[c]⟩) ⟨s.toArray⟩
  have h1 : Lib.countB ⟨s.toArray⟩ ⟨#[c]⟩ = s.count c := Lib.count_one c s
  have h2 : Lib.splitK [c] 0 (s.count c) s = cut c s := split_cut c _ _ rfl
  rw [h1] at h ⊢
  have h3 : (Lib.splitB ⟨#[c]⟩ 0 (s.count c) ⟨s.toArray⟩).map (fun x => x.data.toList) = cut c s := h.trans h2
  rw [← h3, List.map_map]
  conv => lhs; rw [← List.map_id (Lib.splitB ⟨#[c]⟩ 0 (s.count c) ⟨s.toArray⟩)]
  exact List.map_congr_left fun x _ => (by cases x; simp)
set_option maxHeartbeats 1000000 in
set_option maxRecDepth 100000 in
theorem split_any (s : Bs) (c : UInt8) (w : World) (hs : s.length < 4294967281) :
    Calls Tryz.prog 61 #[.string ⟨s.toArray⟩, .string ⟨#[c]⟩] w fun e w' => e = .returned (.slice (some ⟨w.heap.size, 0, none⟩) (cut c s).length (cut c s).length) ∧ w' = w.alloc (.cells (sCells (cut c s)).toArray 9) := by
  have h1 : Lib.countB ⟨s.toArray⟩ ⟨#[c]⟩ = s.count c := Lib.count_one c s
  have hle : s.count c ≤ s.length := List.count_le_length
  have hlen : (Lib.splitB ⟨#[c]⟩ 0 (s.count c) ⟨s.toArray⟩).length = s.count c + 1 := by rw [← h1, split_eq, List.length_map, cut_len, h1]
  have hcore := Any.strings_genSplit_core { Tryz.lays146 with } (by kernel_rfl) ⟨s.toArray⟩ ⟨#[c]⟩ 0 (-1) (s.count c + 1) w hs (Nat.le_refl 1) (Nat.zero_le _)
    (fun x d _ => (Any.strings_Index_one { Tryz.lays146 with } x c (w.alloc (.cells d 9))).mono fun e w' ⟨he, hw⟩ => ⟨by rw [he, ← Lib.index_one], hw⟩)
    (by
      refine (Any.strings_Count_one { Tryz.lays146 with } ⟨s.toArray⟩ c w).mono fun e w' ⟨he, hw⟩ => ⟨?_, hw⟩
      rw [he]
      show _ = Ending.returned (Value.int .i64 ((Lib.count s [c] : Nat) : Int))
      rw [Lib.count_one]
      rfl)
    (by decide) (by decide) (by rw [if_pos (by decide), h1]; show ((s.count c + 1 : Nat) : Int) = min ((s.count c : Int) + 1) ((s.length : Int) + 1); omega)
  rw [Nat.add_sub_cancel, hlen] at hcore
  have e2 : Lib.cellsOf (Lib.splitB ⟨#[c]⟩ 0 (s.count c) ⟨s.toArray⟩) (s.count c + 1) = (sCells (cut c s)).toArray := by
    rw [← hlen, Lib.cellsOf_full, ← h1, split_eq, List.map_map]
    rfl
  rw [e2, ← cut_len] at hcore
  have H := Lib.hid hcore
  clear hcore e2 hlen hle h1 hs
  go_enter Tryz.func61, Tryz.ntmps61
  go_wp2_with (go_at_call 90; refine H.out.mono ?_; rintro e w' ⟨rfl, rfl⟩)
  go_ret
  exact ⟨rfl, rfl⟩
end Go.Proofs.YtmnbgamnbgdnnaaGreatDoor
