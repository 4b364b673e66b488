/- The walk of the law TokenWrites. -/
import Derived.Test.YtaccooeodimdaaaDoorTokT
import Derived.Test.YtaccooeodimdaaaDoorTokR
namespace Go.Proofs.YtaccooeodimdaaaDoor
open Go.RowKit

theorem below_two {W0 wr wa wb : World} {o : Obj} (h : Below W0.heap.size W0 wr) (ha : Below (wr.alloc o).drew.heap.size (wr.alloc o).drew wa) (hb : Below wa.heap.size wa wb) : Below W0.heap.size W0 wb := by
  have h1 := h.size
  have h2 : Below W0.heap.size W0 (wr.alloc o).drew := (h.alloc h1 o).drew
  have h3 := h2.size
  have h4 := h2.trans (ha.mono h3)
  exact h4.trans (hb.mono h4.size)
set_option maxHeartbeats 2000000 in
set_option maxRecDepth 100000 in
theorem writes_some (ts : List ITok) (hn : 0 < ts.length) (hsz : ∀ t ∈ ts, t.2.1.size ≤ 9223372036854775807) (ad : Addr) (c : Nat) (w : World) (hR : Reads w (some ad) (iCells ts)) (hl : ts.length ≤ 9223372036854775807) :
    Calls Tryd.prog 4 #[.slice (some ad) ts.length c] w fun e w' => e = .returned (.bool true) ∧ Below w.heap.size w w' := by
  have HW := Lib.hid (write_any ts hsz (some ad) c w hR hl)
  have hw2 := fun W (h : Reads W (some ad) (iCells ts)) => rwrite_any ts hsz (some ad) c W h hl
  have HW2 := Lib.hid hw2; clear hw2
  have HR := Lib.hid hR; clear hR
  have HSZ := Lib.hid hsz; clear hsz
  unfold WritePost at HW HW2
  go_enter Tryd.func4, Tryd.ntmps4
  go_wp2_with fail
  refine HW.out.mono ?_
  rintro e w1 ⟨rfl, hb1⟩
  have HB1 := Lib.hid hb1; clear hb1 HW
  go_wp2_with fail
  refine (HW2.out _ (HR.out.below HB1.out)).mono ?_
  rintro e w2 ⟨rfl, hb2⟩
  have HB2 := Lib.hid (below_alive HB1.out hb2); clear hb2 HW2 HB1
  generalize (writeOf ts).2 = err
  generalize ByteArray.mk (writeOf ts).1.toArray = out
  go_wp2
  go_loopg [21] ts.length (fun g i wr => ∃ k : Nat, k ≤ ts.length ∧ g = ts.length - k ∧ i = .int .i64 k ∧ Below w.heap.size w wr)
  case atStart => exact ⟨0, by omega, rfl, rfl, HB2.out⟩
  case round =>
    obtain ⟨k, hk, rfl, rfl, hbel⟩ := hrel
    have HB := Lib.hid hbel; clear hbel
    by_cases hlt : k < ts.length
    · obtain ⟨q0, q1, q2⟩ := (HR.out.below HB.out).tok k hlt
      have hmem : ts[k] ∈ ts := List.getElem_mem hlt
      have hck : ∀ W, Calls Tryd.prog 16 #[.agg #[.int .i64 ts[k].1, .string ts[k].2.1, .int .i64 ts[k].2.2]] W fun e w' => e = .returned (.int .i64 (chkTok ts[k].1 ts[k].2.1.data.toList ts[k].2.2)) ∧ Below W.heap.size W w' := fun W => check_any _ _ (HSZ.out _ hmem) _ W
      have hrk : ∀ W, Calls Tryd.prog 17 #[.agg #[.int .i64 ts[k].1, .string ts[k].2.1, .int .i64 ts[k].2.2]] W fun e w' => e = .returned (.int .i64 (chkTok ts[k].1 ts[k].2.1.data.toList ts[k].2.2)) ∧ Below W.heap.size W w' := fun W => rcheck_any _ _ (HSZ.out _ hmem) _ W
      generalize chkTok ts[k].1 ts[k].2.1.data.toList ts[k].2.2 = ck at hck hrk
      generalize ts[k].1 = ta at hck hrk q0
      generalize ts[k].2.1 = tb at hck hrk q1
      generalize ts[k].2.2 = tc at hck hrk q2
      have HCK := Lib.hid hck; clear hck
      have HRK := Lib.hid hrk; clear hrk
      clear hmem
      go_wp2
      go_region_with (first | (go_at_call 16; refine (HCK.out _).mono ?_; rintro e wa ⟨rfl, hba⟩; have hza : wr.heap.size < wa.heap.size := (by have h5 := hba.size; first | omega | (simp at h5; omega)); have ca0 := hba.cell (p := ⟨wr.heap.size, 0, none⟩) (by first | (simp; done) | (show wr.heap.size < _; omega)); have ca1 := hba.cell (p := ⟨wr.heap.size, 1, none⟩) (by first | (simp; done) | (show wr.heap.size < _; omega)); have ca2 := hba.cell (p := ⟨wr.heap.size, 2, none⟩) (by first | (simp; done) | (show wr.heap.size < _; omega)); have HBA := Lib.hid hba; clear hba) | (go_at_call 17; refine (HRK.out _).mono ?_; rintro e wb ⟨rfl, hbb⟩; have hzb : wr.heap.size < wb.heap.size := (by have h5 := hbb.size; first | omega | (simp at h5; omega)); have cb0 := hbb.cell (p := ⟨wr.heap.size, 0, none⟩) (by first | (simp; done) | (show wr.heap.size < _; omega)); have cb1 := hbb.cell (p := ⟨wr.heap.size, 1, none⟩) (by first | (simp; done) | (show wr.heap.size < _; omega)); have cb2 := hbb.cell (p := ⟨wr.heap.size, 2, none⟩) (by first | (simp; done) | (show wr.heap.size < _; omega)); have HBB := Lib.hid hbb; clear hbb))
      all_goals go_wp2
      all_goals go_roundg (ts.length - (k + 1))
      all_goals first | omega | exact ⟨k + 1, by omega, rfl, by go_num, by first | exact below_two HB.out HBA.out HBB.out | exact below_two HB.out HBB.out HBA.out⟩
    · obtain rfl : k = ts.length := by omega
      go_wp2_with (go_at_call 13; refine (alive_any _).mono ?_; rintro e w4 ⟨rfl, hb4⟩; have HB4 := Lib.hid (below_alive HB.out hb4); clear hb4)
      go_ret
      exact ⟨rfl, HB4.out⟩
set_option maxRecDepth 100000 in
theorem writes_none (A : Option Addr) (c : Nat) (w : World) : Calls Tryd.prog 4 #[.slice A 0 c] w fun e w' => e = .returned (.bool true) ∧ Below w.heap.size w w' := by
  have hw1 := fun W => write_none A c W
  have HW := Lib.hid hw1; clear hw1
  have hw2 := fun W => rwrite_none A c W
  have HW2 := Lib.hid hw2; clear hw2
  unfold WritePost at HW HW2
  go_enter Tryd.func4, Tryd.ntmps4
  go_wp2_with fail
  refine (HW.out _).mono ?_
  rintro e w1 ⟨rfl, hb1⟩
  have HB1 := Lib.hid hb1; clear hb1 HW
  go_wp2_with fail
  refine (HW2.out _).mono ?_
  rintro e w2 ⟨rfl, hb2⟩
  have HB2 := Lib.hid (below_alive HB1.out hb2); clear hb2 HW2 HB1
  generalize (writeOf []).2 = err
  generalize ByteArray.mk (writeOf []).1.toArray = out
  go_wp2
  go_loopg [21] 0 (fun g i wr => i = .int .i64 0 ∧ Below w.heap.size w wr)
  case atStart => exact ⟨rfl, HB2.out⟩
  case round =>
    obtain ⟨rfl, hbel⟩ := hrel
    have HB := Lib.hid hbel; clear hbel
    go_wp2_with (go_at_call 13; refine (alive_any _).mono ?_; rintro e w4 ⟨rfl, hb4⟩; have HB4 := Lib.hid (below_alive HB.out hb4); clear hb4)
    go_ret
    exact ⟨rfl, HB4.out⟩
theorem writes_walk (ts : List ITok) (hsz : ∀ t ∈ ts, t.2.1.size ≤ 9223372036854775807) (A : Option Addr) (c : Nat) (w : World) (hR : Reads w A (iCells ts)) (hl : ts.length ≤ 9223372036854775807) :
    Calls Tryd.prog 4 #[.slice A ts.length c] w fun e w' => e = .returned (.bool true) ∧ Below w.heap.size w w' := by
  rcases Nat.eq_zero_or_pos ts.length with h0 | h0
  · obtain rfl := List.eq_nil_of_length_eq_zero h0
    exact writes_none A c w
  · have hR' := hR
    rcases hR with h | ⟨ad, rfl, _⟩
    · have := iCells_len ts; rw [h] at this; simp at this; omega
    · exact writes_some ts h0 hsz ad c w hR' hl
end Go.Proofs.YtaccooeodimdaaaDoor
