/- The walk of the law TokenReads. -/
import Derived.Test.YtaccooeodimdaaaDoorTokQ
namespace Go.Proofs.YtaccooeodimdaaaDoor
open Go.RowKit

theorem own_max {w : World} {base : Nat} {e : TypeId} {size n : Nat} {v : Value} {xs : List Value} (h : w.ownsRow base e size v n xs) : n ≤ maxLen := by
  rcases h.2 with ⟨_, h0⟩ | ⟨g, cap, cur, hv, hb, r⟩
  · omega
  · exact Nat.le_trans r.2.1 r.2.2.1
theorem below_alive {W0 w w1 : World} (h : Below W0.heap.size W0 w) (k : Below w.heap.size w w1) : Below W0.heap.size W0 w1 := h.trans (k.mono h.size)
set_option maxHeartbeats 1000000 in
set_option maxRecDepth 100000 in
theorem reads_walk (s : ByteArray) (hs : s.size ≤ 140737488355328) (w : World) : Calls Tryd.prog 3 #[.string s] w fun e w' => e = .returned (.bool true) ∧ Below w.heap.size w w' := by
  have HR := Lib.hid (read_any s (by omega) w)
  have HRR := Lib.hid (rread_any s (by omega))
  clear hs
  go_enter Tryd.func3, Tryd.ntmps3
  go_wp2_with fail
  refine HR.out.mono ?_
  rintro e w1 ⟨v, rfl, hown, hb1⟩
  have hlen := own_max hown
  have HO1 := Lib.hid hown; clear hown
  have HB1 := Lib.hid hb1; clear hb1
  go_wp2_with fail
  refine (HRR.out w1).mono ?_
  rintro e w2 ⟨v2, rfl, hown2, hb2⟩
  obtain ⟨A2, c2, rfl, hr2⟩ := own_reads hown2
  obtain ⟨A1, c1, rfl, hr1⟩ := own_reads HO1.out
  have hr1 := hr1.below hb2
  clear hown2
  rw [← iCells_int] at hr1 hr2
  have HB2 := Lib.hid (below_alive HB1.out hb2)
  have hsm := same_yes true ((readAll s).1.map intTok) ((readAll s).1.map intTok) rfl (fun _ _ _ => ⟨rfl, rfl, fun _ => rfl⟩) A1 A2 c1 c2 w2 hr1 hr2 (by rw [List.length_map]; exact Nat.le_trans hlen (by decide))
  rw [List.length_map] at hsm
  clear hlen
  have HS := Lib.hid hsm
  clear hsm hr1 hr2 hb2 HO1 HRR HR
  go_wp2_with (first | (go_at_call 12; refine HS.out.mono ?_; rintro e w3 ⟨rfl, hb3⟩; have HB3 := Lib.hid (below_alive HB2.out hb3); clear hb3) | (go_at_call 13; refine (alive_any _).mono ?_; rintro e w4 ⟨rfl, hb4⟩; have HB4 := Lib.hid (below_alive HB3.out hb4); clear hb4))
  go_ret
  exact ⟨rfl, HB4.out⟩
end Go.Proofs.YtaccooeodimdaaaDoor
