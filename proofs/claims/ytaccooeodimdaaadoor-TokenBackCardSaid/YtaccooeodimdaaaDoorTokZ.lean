/- The walk of the law TokenBetween. -/
import Derived.Test.YtaccooeodimdaaaDoorTokY
import Derived.Test.YtaccooeodimdaaaDoorTokR
import Derived.BigQuiet
namespace Go.Proofs.YtaccooeodimdaaaDoor
open Go.RowKit

theorem reads_at {w : World} {ad : Addr} {ts : List Tok} (h : Reads w (some ad) (tokCells ts)) (k : Nat) (hk : k < ts.length) :
    w.cell? (ad.add (k * 3)) = some (.int .i64 ts[k].1) ∧ w.cell? ⟨(ad.add (k * 3)).block, (ad.add (k * 3)).off + 1, none⟩ = some (.string ts[k].2.1) ∧ w.cell? ⟨(ad.add (k * 3)).block, (ad.add (k * 3)).off + 2, none⟩ = some (.int .i64 (ts[k].2.2 : Int)) := by
  rw [← iCells_int] at h
  have := h.tok k (by rw [List.length_map]; exact hk)
  simpa [intTok] using this
theorem between_at {s : ByteArray} {i : Nat} {ts : List Tok} {k : Nat} (h : Between s i (ts.drop k)) (hk : k < ts.length) :
    skipTo s.data.toList i = ts[k].2.2 ∧ ts[k].2.2 + ts[k].2.1.size ≤ s.size ∧ s.extract ts[k].2.2 (ts[k].2.2 + ts[k].2.1.size) = ts[k].2.1 ∧ Between s (ts[k].2.2 + ts[k].2.1.size) (ts.drop (k + 1)) := by
  rw [List.drop_eq_getElem_cons hk] at h
  exact h
theorem between_end {s : ByteArray} {i : Nat} {ts : List Tok} (h : Between s i (ts.drop ts.length)) : skipTo s.data.toList i = s.size := by
  rw [List.drop_length] at h
  exact h
set_option maxHeartbeats 1000000 in
set_option maxRecDepth 100000 in
theorem between_bad (s : ByteArray) (hs : s.size ≤ 140737488355328) (h : (readAll s).2.2 ≠ 0) (w : World) : Calls Tryd.prog 6 #[.string s] w fun e w' => e = .returned (.bool true) ∧ Below w.heap.size w w' := by
  have hr := read_any s (by omega) w
  unfold ReadPost at hr
  rw [readAll_err s h] at hr
  have HR := Lib.hid hr; clear hr hs
  have hb : ((readAll s).2.2 == 0) = false := by simpa using h
  generalize (readAll s).2.2 = er at HR hb h
  generalize (readAll s).2.1 = at_ at HR
  clear h
  go_enter Tryd.func6, Tryd.ntmps6
  go_wp2_with fail
  refine HR.out.mono ?_
  rintro e w1 ⟨v, rfl, hown, hb1⟩
  obtain ⟨A, c, rfl, _⟩ := own_reads hown
  have HB1 := Lib.hid hb1; clear hb1 hown
  go_wp2_with (go_at_call 13; refine (alive_any _).mono ?_; rintro e w4 ⟨rfl, hb4⟩; have HB4 := Lib.hid (below_alive HB1.out hb4); clear hb4)
  go_ret
  exact ⟨rfl, HB4.out⟩
set_option maxHeartbeats 2000000 in
set_option maxRecDepth 100000 in
theorem between_some (s : ByteArray) (hs : s.size ≤ 140737488355328) (ts : List Tok) (hts : readAll s = (ts, 0, 0)) (hn : 0 < ts.length) (w : World) : Calls Tryd.prog 6 #[.string s] w fun e w' => e = .returned (.bool true) ∧ Below w.heap.size w w' := by
  have hr := read_any s (by omega) w
  unfold ReadPost at hr
  rw [hts] at hr
  have HR := Lib.hid hr; clear hr
  have hbt := readAll_between s (by rw [hts])
  rw [hts] at hbt
  have HBT := Lib.hid hbt; clear hbt hts
  have hsk := fun (i : Nat) (hi : i ≤ s.size) (W : World) => rskip_any s (by omega) i hi W
  have HSK := Lib.hid hsk; clear hsk
  go_enter Tryd.func6, Tryd.ntmps6
  go_wp2_with fail
  refine HR.out.mono ?_
  rintro e w1 ⟨v, rfl, hown, hb1⟩
  have hmax := own_max hown
  obtain ⟨ad, cap, rfl, hcap, hrd⟩ := own_some hown hn
  have HRD := Lib.hid hrd; clear hrd hown
  have HB1 := Lib.hid hb1; clear hb1
  simp only [maxLen] at hmax
  go_wp2
  go_loopg [6, 25] ts.length (fun g a i wr => ∃ (k p : Nat), k ≤ ts.length ∧ g = ts.length - k ∧ a = .int .i64 p ∧ i = .int .i64 k ∧ p ≤ s.size ∧ Hid (Between s p (ts.drop k)) ∧ Below w1.heap.size w1 wr)
  case atStart => exact ⟨0, 0, by omega, rfl, rfl, rfl, by omega, HBT.out, Below.refl _ _⟩
  case round =>
    obtain ⟨k, p, hk, rfl, rfl, rfl, hp, hbt, hbel⟩ := hrel
    have HB := Lib.hid hbel; clear hbel
    by_cases hlt : k < ts.length
    · obtain ⟨q0, q1, q2⟩ := reads_at (HRD.out.below HB.out) k hlt
      obtain ⟨b0, b1, b2, b3⟩ := between_at hbt.out hlt
      have HN := Lib.hid b3; clear b3 hbt
      have hsk := HSK.out p hp
      rw [b0] at hsk
      have HS := Lib.hid hsk; clear hsk b0
      generalize ts[k].1 = tk at q0
      generalize ts[k].2.1 = tx at *
      generalize ts[k].2.2 = tp at *
      have b1' : (tp : Int) + (tx.size : Int) ≤ (s.size : Int) := by omega
      have hw : IntKind.i64.wrap ((tp : Int) + (tx.size : Int)) = (tp : Int) + (tx.size : Int) := IntWalk.i64_in _ (by omega)
      have hg : decide ((s.size : Int) < (tp : Int) + (tx.size : Int)) = false := decide_eq_false (by omega)
      go_wp2
      go_quiet ((exact Calls.quiet_of_same ((HS.out _).mono fun _ _ h => ⟨h.1, h.2.symm⟩)))
      go_wp2
      go_roundg (ts.length - (k + 1))
      case measure => omega
      case rel => exact ⟨k + 1, tp + tx.size, by omega, rfl, by go_num, by go_num, b1, HN.out, below_drewN (HB.out.alloc HB.out.size _) _⟩
    · obtain rfl : k = ts.length := by omega
      have he := between_end hbt.out
      have hsk := HSK.out p hp
      rw [he] at hsk
      have HS := Lib.hid hsk; clear hsk he hbt
      go_wp2_with (first | (go_at_call 18; refine (HS.out _).mono ?_; rintro e w3 ⟨rfl, rfl⟩) | (go_at_call 13; refine (alive_any _).mono ?_; rintro e w4 ⟨rfl, hb4⟩; have HB4 := Lib.hid (below_alive (below_alive HB1.out HB.out) hb4); clear hb4))
      go_ret
      exact ⟨rfl, HB4.out⟩
set_option maxHeartbeats 1000000 in
set_option maxRecDepth 100000 in
theorem between_none (s : ByteArray) (hs : s.size ≤ 140737488355328) (hts : readAll s = ([], 0, 0)) (w : World) : Calls Tryd.prog 6 #[.string s] w fun e w' => e = .returned (.bool true) ∧ Below w.heap.size w w' := by
  have hr := read_any s (by omega) w
  unfold ReadPost at hr
  rw [hts] at hr
  have HR := Lib.hid hr; clear hr
  have hbt : skipTo s.data.toList 0 = s.size := by
    have := readAll_between s (by rw [hts])
    rw [hts] at this
    exact this
  have hsk := fun (W : World) => rskip_any s (by omega) 0 (by omega) W
  rw [hbt] at hsk
  have HSK := Lib.hid hsk; clear hsk hbt hts
  go_enter Tryd.func6, Tryd.ntmps6
  go_wp2_with fail
  refine HR.out.mono ?_
  rintro e w1 ⟨v, rfl, hown, hb1⟩
  obtain ⟨A, c, rfl, _⟩ := own_reads hown
  have HB1 := Lib.hid hb1; clear hb1 hown
  go_wp2
  go_loopg [6, 25] 0 (fun g a i wr => a = .int .i64 0 ∧ i = .int .i64 0 ∧ w1 = wr)
  case atStart => exact ⟨rfl, rfl, rfl⟩
  case round =>
    obtain ⟨rfl, rfl, rfl⟩ := hrel
    go_wp2_with (first | (go_at_call 18; refine (HSK.out _).mono ?_; rintro e w3 ⟨rfl, rfl⟩) | (go_at_call 13; refine (alive_any _).mono ?_; rintro e w4 ⟨rfl, hb4⟩; have HB4 := Lib.hid (below_alive HB1.out hb4); clear hb4))
    go_ret
    exact ⟨rfl, HB4.out⟩
theorem between_walk (s : ByteArray) (hs : s.size ≤ 140737488355328) (w : World) : Calls Tryd.prog 6 #[.string s] w fun e w' => e = .returned (.bool true) ∧ Below w.heap.size w w' := by
  by_cases h : (readAll s).2.2 = 0
  · have h2 := (readAll_ok s h).2.2
    rcases Nat.eq_zero_or_pos (readFrom s 0).1.length with h0 | h0
    · rw [List.eq_nil_of_length_eq_zero h0] at h2
      exact between_none s hs h2 w
    · exact between_some s hs _ h2 h0 w
  · exact between_bad s hs h w
end Go.Proofs.YtaccooeodimdaaaDoor
