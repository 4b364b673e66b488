/- The walk of the law TokenBack. -/
import Derived.Test.YtaccooeodimdaaaDoorTokBa
import Derived.Test.YtaccooeodimdaaaDoorTokZ
namespace Go.Proofs.YtaccooeodimdaaaDoor
open Go.RowKit

theorem between_sizes (s : ByteArray) : ∀ (ts : List Tok) (i : Nat), Between s i ts → ∀ t ∈ ts, t.2.1.size ≤ s.size
  | [], _, _, t, h => by simp at h
  | (k, x, p) :: r, i, hb, t, h => by
    rcases List.mem_cons.1 h with rfl | h
    · have := hb.2.1; show x.size ≤ s.size; omega
    · exact between_sizes s r _ hb.2.2.2 t h
theorem write_small (ts : List ITok) : (ByteArray.mk (writeOf ts).1.toArray).size ≤ 20000 := by
  have h : (writeOf ts).1.length ≤ 20000 := by
    unfold writeOf
    split
    · simp
    split
    · simp
    split
    · simp
    · show (joined ts).length ≤ 20000; omega
  show (writeOf ts).1.toArray.size ≤ 20000
  simpa using h
theorem alike_map {us : List Tok} {ts : List ITok} (h : Alike us ts) : ∀ k (h1 : k < (us.map intTok).length) (h2 : k < ts.length), (us.map intTok)[k].1 = ts[k].1 ∧ (us.map intTok)[k].2.1 = ts[k].2.1 ∧ (false = true → (us.map intTok)[k].2.2 = ts[k].2.2) := by
  intro k h1 h2
  have := h.2 k (by simpa using h1) h2
  simp only [List.getElem_map, intTok]
  exact ⟨this.1, this.2, fun h => by cases h⟩
set_option maxHeartbeats 4000000 in
set_option maxRecDepth 100000 in
theorem back_skip_bad (ts : List ITok) (hsz : ∀ t ∈ ts, t.2.1.size ≤ 9223372036854775807) (A : Option Addr) (c : Nat) (s : ByteArray) (hs : s.size ≤ 140737488355328) (h1 : (readAll s).2.2 ≠ 0) (h6 : (writeOf ts).2 ≠ 0) (h7 : (writeOf ts).1 = []) (w : World) (hR : Reads w A (iCells ts)) (hl : ts.length ≤ 9223372036854775807) :
    Calls Tryd.prog 5 #[.slice A ts.length c, .string s] w fun e w' => e = .returned (.bool true) ∧ Below w.heap.size w w' := by
  have hr1 := read_any s (by omega) w
  unfold ReadPost at hr1
  rw [readAll_err s h1] at hr1
  have g1 : ((readAll s).2.2 == 0) = false := by simpa using h1
  generalize (readAll s).2.2 = er1 at hr1 g1 h1
  generalize (readAll s).2.1 = at1 at hr1
  clear h1
  have HR1 := Lib.hid hr1; clear hr1 hs
  have hw2 := fun W (h : Reads W A (iCells ts)) => write_any ts hsz A c W h hl
  unfold WritePost at hw2
  rw [h7] at hw2
  have g6 : ((writeOf ts).2 == 0) = false := by simpa using h6
  generalize (writeOf ts).2 = er2 at hw2 g6 h6
  clear h6 h7
  have HW2 := Lib.hid hw2; clear hw2
  have HRL := Lib.hid hR; clear hR hsz
  go_enter Tryd.func5, Tryd.ntmps5
  go_wp2_with fail
  refine HR1.out.mono ?_
  rintro e w1 ⟨v1, rfl, hown1, hb1⟩
  obtain ⟨A1, c1, rfl, hr1⟩ := own_reads hown1
  have HB1 := Lib.hid hb1; clear hb1
  clear hr1 hown1
  go_wp2_with fail
  refine (HW2.out _ (HRL.out.below HB1.out)).mono ?_
  rintro e w5 ⟨rfl, hb5⟩
  have HB5 := Lib.hid (below_alive HB1.out hb5); clear hb5
  go_wp2_with (go_at_call 13; refine (alive_any _).mono ?_; rintro e w6 ⟨rfl, hb6⟩; have HB6 := Lib.hid (below_alive HB5.out hb6); clear hb6)
  go_ret
  exact ⟨rfl, HB6.out⟩
set_option maxHeartbeats 4000000 in
set_option maxRecDepth 100000 in
theorem back_skip_ok (ts : List ITok) (hsz : ∀ t ∈ ts, t.2.1.size ≤ 9223372036854775807) (A : Option Addr) (c : Nat) (s : ByteArray) (hs : s.size ≤ 140737488355328) (h1 : (readAll s).2.2 ≠ 0) (h6 : (writeOf ts).2 = 0) (us : List Tok) (h7 : readAll ⟨(writeOf ts).1.toArray⟩ = (us, 0, 0)) (h8 : Alike us ts) (h9 : Asc 0 us) (w : World) (hR : Reads w A (iCells ts)) (hl : ts.length ≤ 9223372036854775807) :
    Calls Tryd.prog 5 #[.slice A ts.length c, .string s] w fun e w' => e = .returned (.bool true) ∧ Below w.heap.size w w' := by
  have hr1 := read_any s (by omega) w
  unfold ReadPost at hr1
  rw [readAll_err s h1] at hr1
  have g1 : ((readAll s).2.2 == 0) = false := by simpa using h1
  generalize (readAll s).2.2 = er1 at hr1 g1 h1
  generalize (readAll s).2.1 = at1 at hr1
  clear h1
  have HR1 := Lib.hid hr1; clear hr1 hs
  have hw2 := fun W (h : Reads W A (iCells ts)) => write_any ts hsz A c W h hl
  unfold WritePost at hw2
  rw [h6] at hw2
  have hr2 := read_any ⟨(writeOf ts).1.toArray⟩ (Nat.le_trans (write_small _) (by omega))
  unfold ReadPost at hr2
  rw [h7] at hr2
  have HR2 := Lib.hid hr2; clear hr2 h6 h7
  have HAL := Lib.hid h8; clear h8
  have HASC := Lib.hid h9; clear h9
  generalize ByteArray.mk (writeOf ts).1.toArray = out2 at hw2 HR2
  have HW2 := Lib.hid hw2; clear hw2
  have HRL := Lib.hid hR; clear hR hsz
  go_enter Tryd.func5, Tryd.ntmps5
  go_wp2_with fail
  refine HR1.out.mono ?_
  rintro e w1 ⟨v1, rfl, hown1, hb1⟩
  obtain ⟨A1, c1, rfl, hr1⟩ := own_reads hown1
  have HB1 := Lib.hid hb1; clear hb1
  clear hr1 hown1
  go_wp2_with fail
  refine (HW2.out _ (HRL.out.below HB1.out)).mono ?_
  rintro e w5 ⟨rfl, hb5⟩
  have HB5 := Lib.hid (below_alive HB1.out hb5); clear hb5
  go_wp2_with fail
  refine (HR2.out _).mono ?_
  rintro e w6 ⟨v6, rfl, hown6, hb6⟩
  have hmax := own_max hown6
  obtain ⟨A6, c6, rfl, hr6⟩ := own_reads hown6
  have HB6 := Lib.hid (below_alive HB5.out hb6); clear hb6 hown6
  rw [← iCells_int] at hr6
  have hsm := same_yes false (us.map intTok) ts (by rw [List.length_map]; exact HAL.out.1) (alike_map HAL.out) A6 A c6 c w6 hr6 (HRL.out.below HB6.out) (by rw [List.length_map]; exact hmax)
  rw [List.length_map] at hsm
  rw [iCells_int] at hr6
  have HRU := Lib.hid hr6; clear hr6
  have HS := Lib.hid hsm; clear hsm
  simp only [maxLen] at hmax
  go_wp2_with (go_at_call 12; refine HS.out.mono ?_; rintro e w7 ⟨rfl, hb7⟩; have HRV := Lib.hid (HRU.out.below hb7); have HB7 := Lib.hid (below_alive HB6.out hb7); clear hb7)
  go_loopg [18] (us.length + 1) (fun g i wr => ∃ m : Nat, m ≤ us.length ∧ g = us.length + 1 - m ∧ i = .int .i64 ((m : Int) + 1) ∧ Below w7.heap.size w7 wr)
  case atStart => exact ⟨0, by omega, rfl, rfl, Below.refl _ _⟩
  case round =>
    obtain ⟨m, hm, rfl, rfl, hbel⟩ := hrel
    have HB := Lib.hid hbel; clear hbel
    by_cases hlt : m + 1 < us.length
    · have hasc := asc_at HASC.out m hlt
      have hrv := HRV.out.below HB.out
      rcases hrv with h0 | ⟨ad, rfl, h0⟩
      · have := congrArg List.length h0; rw [← iCells_int, iCells_len, List.length_map] at this; simp at this; omega
      have hrv := reads_at (.inr ⟨ad, rfl, h0⟩ : Reads wr (some ad) (tokCells us))
      obtain ⟨_, _, q2⟩ := hrv (m + 1) hlt
      obtain ⟨_, _, r2⟩ := hrv m (by omega)
      clear h0 hrv
      generalize us[m].2.2 = x at *
      generalize us[m + 1].2.2 = y at *
      have hd : decide ((y : Int) ≤ (x : Int)) = false := decide_eq_false (by omega)
      have hw : IntKind.i64.wrap ((m : Int) + 1 - 1) = (m : Int) := by rw [IntWalk.i64_in _ (by omega)]; omega
      go_wp2
      go_quiet (fail)
      go_wp2
      go_roundg (us.length + 1 - (m + 1))
      case measure => omega
      case rel => exact ⟨m + 1, by omega, rfl, by go_num, below_drewN HB.out _⟩
    · go_wp2_with (go_at_call 13; refine (alive_any _).mono ?_; rintro e w8 ⟨rfl, hb8⟩; have HB8 := Lib.hid (below_alive (below_alive HB7.out HB.out) hb8); clear hb8)
      go_ret
      exact ⟨rfl, HB8.out⟩
set_option maxHeartbeats 4000000 in
set_option maxRecDepth 100000 in
theorem back_badw_bad (ts : List ITok) (hsz : ∀ t ∈ ts, t.2.1.size ≤ 9223372036854775807) (A : Option Addr) (c : Nat) (s : ByteArray) (hs : s.size ≤ 140737488355328) (rs : List Tok) (h1 : readAll s = (rs, 0, 0)) (h3 : (writeOf (rs.map intTok)).2 ≠ 0) (h6 : (writeOf ts).2 ≠ 0) (h7 : (writeOf ts).1 = []) (w : World) (hR : Reads w A (iCells ts)) (hl : ts.length ≤ 9223372036854775807) :
    Calls Tryd.prog 5 #[.slice A ts.length c, .string s] w fun e w' => e = .returned (.bool true) ∧ Below w.heap.size w w' := by
  have hr1 := read_any s (by omega) w
  unfold ReadPost at hr1
  rw [h1] at hr1
  have hbt := readAll_between s (by rw [h1])
  rw [h1] at hbt
  have hsz1 : ∀ t ∈ rs, t.2.1.size ≤ 9223372036854775807 := fun t ht => Nat.le_trans (between_sizes s rs 0 hbt t ht) (by omega)
  have HSZ := Lib.hid hsz1; clear hsz1 hbt h1
  have hr3 := read_any ⟨(writeOf (rs.map intTok)).1.toArray⟩ (Nat.le_trans (write_small _) (by omega))
  unfold ReadPost at hr3
  have g3 : ((writeOf (rs.map intTok)).2 == 0) = false := by simpa using h3
  have HR3 := Lib.hid hr3; clear hr3 h3
  have HR1 := Lib.hid hr1; clear hr1 hs
  have hw2 := fun W (h : Reads W A (iCells ts)) => write_any ts hsz A c W h hl
  unfold WritePost at hw2
  rw [h7] at hw2
  have g6 : ((writeOf ts).2 == 0) = false := by simpa using h6
  generalize (writeOf ts).2 = er2 at hw2 g6 h6
  clear h6 h7
  have HW2 := Lib.hid hw2; clear hw2
  have HRL := Lib.hid hR; clear hR hsz
  go_enter Tryd.func5, Tryd.ntmps5
  go_wp2_with fail
  refine HR1.out.mono ?_
  rintro e w1 ⟨v1, rfl, hown1, hb1⟩
  obtain ⟨A1, c1, rfl, hr1⟩ := own_reads hown1
  have HB1 := Lib.hid hb1; clear hb1
  have hmax1 := own_max hown1
  rw [← iCells_int] at hr1
  have hw1 := write_any (rs.map intTok) (by intro t ht; obtain ⟨u, hu, rfl⟩ := List.mem_map.1 ht; exact HSZ.out u hu) A1 c1 w1 hr1 (by rw [List.length_map]; exact hmax1)
  rw [List.length_map] at hw1
  have HW1 := Lib.hid hw1; clear hw1 hown1
  have HRD1 := Lib.hid hr1; clear hr1
  unfold WritePost at HW1
  go_wp2_with fail
  refine HW1.out.mono ?_
  rintro e w2 ⟨rfl, hb2⟩
  have HRD2 := Lib.hid (HRD1.out.below hb2)
  have HB2 := Lib.hid (below_alive HB1.out hb2); clear hb2 HRD1 HW1
  go_wp2_with fail
  refine (HR3.out _).mono ?_
  rintro e w3 ⟨v3, rfl, hown3, hb3⟩
  have hmax3 := own_max hown3
  obtain ⟨A3, c3, rfl, hr3⟩ := own_reads hown3
  have HRD3 := Lib.hid (HRD2.out.below hb3)
  have HB3 := Lib.hid (below_alive HB2.out hb3); clear hb3 HRD2
  clear hown3 hr3
  go_wp2_with fail
  refine (HW2.out _ (HRL.out.below HB3.out)).mono ?_
  rintro e w5 ⟨rfl, hb5⟩
  have HB5 := Lib.hid (below_alive HB3.out hb5); clear hb5
  go_wp2_with (go_at_call 13; refine (alive_any _).mono ?_; rintro e w6 ⟨rfl, hb6⟩; have HB6 := Lib.hid (below_alive HB5.out hb6); clear hb6)
  go_ret
  exact ⟨rfl, HB6.out⟩
set_option maxHeartbeats 4000000 in
set_option maxRecDepth 100000 in
theorem back_badw_ok (ts : List ITok) (hsz : ∀ t ∈ ts, t.2.1.size ≤ 9223372036854775807) (A : Option Addr) (c : Nat) (s : ByteArray) (hs : s.size ≤ 140737488355328) (rs : List Tok) (h1 : readAll s = (rs, 0, 0)) (h3 : (writeOf (rs.map intTok)).2 ≠ 0) (h6 : (writeOf ts).2 = 0) (us : List Tok) (h7 : readAll ⟨(writeOf ts).1.toArray⟩ = (us, 0, 0)) (h8 : Alike us ts) (h9 : Asc 0 us) (w : World) (hR : Reads w A (iCells ts)) (hl : ts.length ≤ 9223372036854775807) :
    Calls Tryd.prog 5 #[.slice A ts.length c, .string s] w fun e w' => e = .returned (.bool true) ∧ Below w.heap.size w w' := by
  have hr1 := read_any s (by omega) w
  unfold ReadPost at hr1
  rw [h1] at hr1
  have hbt := readAll_between s (by rw [h1])
  rw [h1] at hbt
  have hsz1 : ∀ t ∈ rs, t.2.1.size ≤ 9223372036854775807 := fun t ht => Nat.le_trans (between_sizes s rs 0 hbt t ht) (by omega)
  have HSZ := Lib.hid hsz1; clear hsz1 hbt h1
  have hr3 := read_any ⟨(writeOf (rs.map intTok)).1.toArray⟩ (Nat.le_trans (write_small _) (by omega))
  unfold ReadPost at hr3
  have g3 : ((writeOf (rs.map intTok)).2 == 0) = false := by simpa using h3
  have HR3 := Lib.hid hr3; clear hr3 h3
  have HR1 := Lib.hid hr1; clear hr1 hs
  have hw2 := fun W (h : Reads W A (iCells ts)) => write_any ts hsz A c W h hl
  unfold WritePost at hw2
  rw [h6] at hw2
  have hr2 := read_any ⟨(writeOf ts).1.toArray⟩ (Nat.le_trans (write_small _) (by omega))
  unfold ReadPost at hr2
  rw [h7] at hr2
  have HR2 := Lib.hid hr2; clear hr2 h6 h7
  have HAL := Lib.hid h8; clear h8
  have HASC := Lib.hid h9; clear h9
  generalize ByteArray.mk (writeOf ts).1.toArray = out2 at hw2 HR2
  have HW2 := Lib.hid hw2; clear hw2
  have HRL := Lib.hid hR; clear hR hsz
  go_enter Tryd.func5, Tryd.ntmps5
  go_wp2_with fail
  refine HR1.out.mono ?_
  rintro e w1 ⟨v1, rfl, hown1, hb1⟩
  obtain ⟨A1, c1, rfl, hr1⟩ := own_reads hown1
  have HB1 := Lib.hid hb1; clear hb1
  have hmax1 := own_max hown1
  rw [← iCells_int] at hr1
  have hw1 := write_any (rs.map intTok) (by intro t ht; obtain ⟨u, hu, rfl⟩ := List.mem_map.1 ht; exact HSZ.out u hu) A1 c1 w1 hr1 (by rw [List.length_map]; exact hmax1)
  rw [List.length_map] at hw1
  have HW1 := Lib.hid hw1; clear hw1 hown1
  have HRD1 := Lib.hid hr1; clear hr1
  unfold WritePost at HW1
  go_wp2_with fail
  refine HW1.out.mono ?_
  rintro e w2 ⟨rfl, hb2⟩
  have HRD2 := Lib.hid (HRD1.out.below hb2)
  have HB2 := Lib.hid (below_alive HB1.out hb2); clear hb2 HRD1 HW1
  go_wp2_with fail
  refine (HR3.out _).mono ?_
  rintro e w3 ⟨v3, rfl, hown3, hb3⟩
  have hmax3 := own_max hown3
  obtain ⟨A3, c3, rfl, hr3⟩ := own_reads hown3
  have HRD3 := Lib.hid (HRD2.out.below hb3)
  have HB3 := Lib.hid (below_alive HB2.out hb3); clear hb3 HRD2
  clear hown3 hr3
  go_wp2_with fail
  refine (HW2.out _ (HRL.out.below HB3.out)).mono ?_
  rintro e w5 ⟨rfl, hb5⟩
  have HB5 := Lib.hid (below_alive HB3.out hb5); clear hb5
  go_wp2_with fail
  refine (HR2.out _).mono ?_
  rintro e w6 ⟨v6, rfl, hown6, hb6⟩
  have hmax := own_max hown6
  obtain ⟨A6, c6, rfl, hr6⟩ := own_reads hown6
  have HB6 := Lib.hid (below_alive HB5.out hb6); clear hb6 hown6
  rw [← iCells_int] at hr6
  have hsm := same_yes false (us.map intTok) ts (by rw [List.length_map]; exact HAL.out.1) (alike_map HAL.out) A6 A c6 c w6 hr6 (HRL.out.below HB6.out) (by rw [List.length_map]; exact hmax)
  rw [List.length_map] at hsm
  rw [iCells_int] at hr6
  have HRU := Lib.hid hr6; clear hr6
  have HS := Lib.hid hsm; clear hsm
  simp only [maxLen] at hmax
  go_wp2_with (go_at_call 12; refine HS.out.mono ?_; rintro e w7 ⟨rfl, hb7⟩; have HRV := Lib.hid (HRU.out.below hb7); have HB7 := Lib.hid (below_alive HB6.out hb7); clear hb7)
  go_loopg [18] (us.length + 1) (fun g i wr => ∃ m : Nat, m ≤ us.length ∧ g = us.length + 1 - m ∧ i = .int .i64 ((m : Int) + 1) ∧ Below w7.heap.size w7 wr)
  case atStart => exact ⟨0, by omega, rfl, rfl, Below.refl _ _⟩
  case round =>
    obtain ⟨m, hm, rfl, rfl, hbel⟩ := hrel
    have HB := Lib.hid hbel; clear hbel
    by_cases hlt : m + 1 < us.length
    · have hasc := asc_at HASC.out m hlt
      have hrv := HRV.out.below HB.out
      rcases hrv with h0 | ⟨ad, rfl, h0⟩
      · have := congrArg List.length h0; rw [← iCells_int, iCells_len, List.length_map] at this; simp at this; omega
      have hrv := reads_at (.inr ⟨ad, rfl, h0⟩ : Reads wr (some ad) (tokCells us))
      obtain ⟨_, _, q2⟩ := hrv (m + 1) hlt
      obtain ⟨_, _, r2⟩ := hrv m (by omega)
      clear h0 hrv
      generalize us[m].2.2 = x at *
      generalize us[m + 1].2.2 = y at *
      have hd : decide ((y : Int) ≤ (x : Int)) = false := decide_eq_false (by omega)
      have hw : IntKind.i64.wrap ((m : Int) + 1 - 1) = (m : Int) := by rw [IntWalk.i64_in _ (by omega)]; omega
      go_wp2
      go_quiet (fail)
      go_wp2
      go_roundg (us.length + 1 - (m + 1))
      case measure => omega
      case rel => exact ⟨m + 1, by omega, rfl, by go_num, below_drewN HB.out _⟩
    · go_wp2_with (go_at_call 13; refine (alive_any _).mono ?_; rintro e w8 ⟨rfl, hb8⟩; have HB8 := Lib.hid (below_alive (below_alive HB7.out HB.out) hb8); clear hb8)
      go_ret
      exact ⟨rfl, HB8.out⟩
set_option maxHeartbeats 4000000 in
set_option maxRecDepth 100000 in
theorem back_okw_bad (ts : List ITok) (hsz : ∀ t ∈ ts, t.2.1.size ≤ 9223372036854775807) (A : Option Addr) (c : Nat) (s : ByteArray) (hs : s.size ≤ 140737488355328) (rs : List Tok) (h1 : readAll s = (rs, 0, 0)) (h3 : (writeOf (rs.map intTok)).2 = 0) (us3 : List Tok) (h4 : readAll ⟨(writeOf (rs.map intTok)).1.toArray⟩ = (us3, 0, 0)) (h5 : Alike us3 (rs.map intTok)) (h6 : (writeOf ts).2 ≠ 0) (h7 : (writeOf ts).1 = []) (w : World) (hR : Reads w A (iCells ts)) (hl : ts.length ≤ 9223372036854775807) :
    Calls Tryd.prog 5 #[.slice A ts.length c, .string s] w fun e w' => e = .returned (.bool true) ∧ Below w.heap.size w w' := by
  have hr1 := read_any s (by omega) w
  unfold ReadPost at hr1
  rw [h1] at hr1
  have hbt := readAll_between s (by rw [h1])
  rw [h1] at hbt
  have hsz1 : ∀ t ∈ rs, t.2.1.size ≤ 9223372036854775807 := fun t ht => Nat.le_trans (between_sizes s rs 0 hbt t ht) (by omega)
  have HSZ := Lib.hid hsz1; clear hsz1 hbt h1
  have hr3 := read_any ⟨(writeOf (rs.map intTok)).1.toArray⟩ (Nat.le_trans (write_small _) (by omega))
  unfold ReadPost at hr3
  rw [h4] at hr3
  have HR3 := Lib.hid hr3; clear hr3 h4
  have HAL3 := Lib.hid h5; clear h5
  have HR1 := Lib.hid hr1; clear hr1 hs
  have hw2 := fun W (h : Reads W A (iCells ts)) => write_any ts hsz A c W h hl
  unfold WritePost at hw2
  rw [h7] at hw2
  have g6 : ((writeOf ts).2 == 0) = false := by simpa using h6
  generalize (writeOf ts).2 = er2 at hw2 g6 h6
  clear h6 h7
  have HW2 := Lib.hid hw2; clear hw2
  have HRL := Lib.hid hR; clear hR hsz
  go_enter Tryd.func5, Tryd.ntmps5
  go_wp2_with fail
  refine HR1.out.mono ?_
  rintro e w1 ⟨v1, rfl, hown1, hb1⟩
  obtain ⟨A1, c1, rfl, hr1⟩ := own_reads hown1
  have HB1 := Lib.hid hb1; clear hb1
  have hmax1 := own_max hown1
  rw [← iCells_int] at hr1
  have hw1 := write_any (rs.map intTok) (by intro t ht; obtain ⟨u, hu, rfl⟩ := List.mem_map.1 ht; exact HSZ.out u hu) A1 c1 w1 hr1 (by rw [List.length_map]; exact hmax1)
  rw [List.length_map] at hw1
  have HW1 := Lib.hid hw1; clear hw1 hown1
  have HRD1 := Lib.hid hr1; clear hr1
  unfold WritePost at HW1
  rw [h3] at HW1
  clear h3
  go_wp2_with fail
  refine HW1.out.mono ?_
  rintro e w2 ⟨rfl, hb2⟩
  have HRD2 := Lib.hid (HRD1.out.below hb2)
  have HB2 := Lib.hid (below_alive HB1.out hb2); clear hb2 HRD1 HW1
  go_wp2_with fail
  refine (HR3.out _).mono ?_
  rintro e w3 ⟨v3, rfl, hown3, hb3⟩
  have hmax3 := own_max hown3
  obtain ⟨A3, c3, rfl, hr3⟩ := own_reads hown3
  have HRD3 := Lib.hid (HRD2.out.below hb3)
  have HB3 := Lib.hid (below_alive HB2.out hb3); clear hb3 HRD2
  rw [← iCells_int] at hr3
  have hsm3 := same_yes false (us3.map intTok) (rs.map intTok) (by have := HAL3.out.1; simpa using this) (alike_map HAL3.out) A3 A1 c3 c1 w3 hr3 HRD3.out (by rw [List.length_map]; exact hmax3)
  rw [List.length_map, List.length_map] at hsm3
  have HS3 := Lib.hid hsm3; clear hsm3 hr3 hown3
  go_wp2_with (go_at_call 12; refine HS3.out.mono ?_; rintro e w4 ⟨rfl, hb4⟩; have HB4 := Lib.hid (below_alive HB3.out hb4); clear hb4)
  refine (HW2.out _ (HRL.out.below HB4.out)).mono ?_
  rintro e w5 ⟨rfl, hb5⟩
  have HB5 := Lib.hid (below_alive HB4.out hb5); clear hb5
  go_wp2_with (go_at_call 13; refine (alive_any _).mono ?_; rintro e w6 ⟨rfl, hb6⟩; have HB6 := Lib.hid (below_alive HB5.out hb6); clear hb6)
  go_ret
  exact ⟨rfl, HB6.out⟩
set_option maxHeartbeats 4000000 in
set_option maxRecDepth 100000 in
theorem back_okw_ok (ts : List ITok) (hsz : ∀ t ∈ ts, t.2.1.size ≤ 9223372036854775807) (A : Option Addr) (c : Nat) (s : ByteArray) (hs : s.size ≤ 140737488355328) (rs : List Tok) (h1 : readAll s = (rs, 0, 0)) (h3 : (writeOf (rs.map intTok)).2 = 0) (us3 : List Tok) (h4 : readAll ⟨(writeOf (rs.map intTok)).1.toArray⟩ = (us3, 0, 0)) (h5 : Alike us3 (rs.map intTok)) (h6 : (writeOf ts).2 = 0) (us : List Tok) (h7 : readAll ⟨(writeOf ts).1.toArray⟩ = (us, 0, 0)) (h8 : Alike us ts) (h9 : Asc 0 us) (w : World) (hR : Reads w A (iCells ts)) (hl : ts.length ≤ 9223372036854775807) :
    Calls Tryd.prog 5 #[.slice A ts.length c, .string s] w fun e w' => e = .returned (.bool true) ∧ Below w.heap.size w w' := by
  have hr1 := read_any s (by omega) w
  unfold ReadPost at hr1
  rw [h1] at hr1
  have hbt := readAll_between s (by rw [h1])
  rw [h1] at hbt
  have hsz1 : ∀ t ∈ rs, t.2.1.size ≤ 9223372036854775807 := fun t ht => Nat.le_trans (between_sizes s rs 0 hbt t ht) (by omega)
  have HSZ := Lib.hid hsz1; clear hsz1 hbt h1
  have hr3 := read_any ⟨(writeOf (rs.map intTok)).1.toArray⟩ (Nat.le_trans (write_small _) (by omega))
  unfold ReadPost at hr3
  rw [h4] at hr3
  have HR3 := Lib.hid hr3; clear hr3 h4
  have HAL3 := Lib.hid h5; clear h5
  have HR1 := Lib.hid hr1; clear hr1 hs
  have hw2 := fun W (h : Reads W A (iCells ts)) => write_any ts hsz A c W h hl
  unfold WritePost at hw2
  rw [h6] at hw2
  have hr2 := read_any ⟨(writeOf ts).1.toArray⟩ (Nat.le_trans (write_small _) (by omega))
  unfold ReadPost at hr2
  rw [h7] at hr2
  have HR2 := Lib.hid hr2; clear hr2 h6 h7
  have HAL := Lib.hid h8; clear h8
  have HASC := Lib.hid h9; clear h9
  generalize ByteArray.mk (writeOf ts).1.toArray = out2 at hw2 HR2
  have HW2 := Lib.hid hw2; clear hw2
  have HRL := Lib.hid hR; clear hR hsz
  go_enter Tryd.func5, Tryd.ntmps5
  go_wp2_with fail
  refine HR1.out.mono ?_
  rintro e w1 ⟨v1, rfl, hown1, hb1⟩
  obtain ⟨A1, c1, rfl, hr1⟩ := own_reads hown1
  have HB1 := Lib.hid hb1; clear hb1
  have hmax1 := own_max hown1
  rw [← iCells_int] at hr1
  have hw1 := write_any (rs.map intTok) (by intro t ht; obtain ⟨u, hu, rfl⟩ := List.mem_map.1 ht; exact HSZ.out u hu) A1 c1 w1 hr1 (by rw [List.length_map]; exact hmax1)
  rw [List.length_map] at hw1
  have HW1 := Lib.hid hw1; clear hw1 hown1
  have HRD1 := Lib.hid hr1; clear hr1
  unfold WritePost at HW1
  rw [h3] at HW1
  clear h3
  go_wp2_with fail
  refine HW1.out.mono ?_
  rintro e w2 ⟨rfl, hb2⟩
  have HRD2 := Lib.hid (HRD1.out.below hb2)
  have HB2 := Lib.hid (below_alive HB1.out hb2); clear hb2 HRD1 HW1
  go_wp2_with fail
  refine (HR3.out _).mono ?_
  rintro e w3 ⟨v3, rfl, hown3, hb3⟩
  have hmax3 := own_max hown3
  obtain ⟨A3, c3, rfl, hr3⟩ := own_reads hown3
  have HRD3 := Lib.hid (HRD2.out.below hb3)
  have HB3 := Lib.hid (below_alive HB2.out hb3); clear hb3 HRD2
  rw [← iCells_int] at hr3
  have hsm3 := same_yes false (us3.map intTok) (rs.map intTok) (by have := HAL3.out.1; simpa using this) (alike_map HAL3.out) A3 A1 c3 c1 w3 hr3 HRD3.out (by rw [List.length_map]; exact hmax3)
  rw [List.length_map, List.length_map] at hsm3
  have HS3 := Lib.hid hsm3; clear hsm3 hr3 hown3
  go_wp2_with (go_at_call 12; refine HS3.out.mono ?_; rintro e w4 ⟨rfl, hb4⟩; have HB4 := Lib.hid (below_alive HB3.out hb4); clear hb4)
  refine (HW2.out _ (HRL.out.below HB4.out)).mono ?_
  rintro e w5 ⟨rfl, hb5⟩
  have HB5 := Lib.hid (below_alive HB4.out hb5); clear hb5
  go_wp2_with fail
  refine (HR2.out _).mono ?_
  rintro e w6 ⟨v6, rfl, hown6, hb6⟩
  have hmax := own_max hown6
  obtain ⟨A6, c6, rfl, hr6⟩ := own_reads hown6
  have HB6 := Lib.hid (below_alive HB5.out hb6); clear hb6 hown6
  rw [← iCells_int] at hr6
  have hsm := same_yes false (us.map intTok) ts (by rw [List.length_map]; exact HAL.out.1) (alike_map HAL.out) A6 A c6 c w6 hr6 (HRL.out.below HB6.out) (by rw [List.length_map]; exact hmax)
  rw [List.length_map] at hsm
  rw [iCells_int] at hr6
  have HRU := Lib.hid hr6; clear hr6
  have HS := Lib.hid hsm; clear hsm
  simp only [maxLen] at hmax
  go_wp2_with (go_at_call 12; refine HS.out.mono ?_; rintro e w7 ⟨rfl, hb7⟩; have HRV := Lib.hid (HRU.out.below hb7); have HB7 := Lib.hid (below_alive HB6.out hb7); clear hb7)
  go_loopg [18] (us.length + 1) (fun g i wr => ∃ m : Nat, m ≤ us.length ∧ g = us.length + 1 - m ∧ i = .int .i64 ((m : Int) + 1) ∧ Below w7.heap.size w7 wr)
  case atStart => exact ⟨0, by omega, rfl, rfl, Below.refl _ _⟩
  case round =>
    obtain ⟨m, hm, rfl, rfl, hbel⟩ := hrel
    have HB := Lib.hid hbel; clear hbel
    by_cases hlt : m + 1 < us.length
    · have hasc := asc_at HASC.out m hlt
      have hrv := HRV.out.below HB.out
      rcases hrv with h0 | ⟨ad, rfl, h0⟩
      · have := congrArg List.length h0; rw [← iCells_int, iCells_len, List.length_map] at this; simp at this; omega
      have hrv := reads_at (.inr ⟨ad, rfl, h0⟩ : Reads wr (some ad) (tokCells us))
      obtain ⟨_, _, q2⟩ := hrv (m + 1) hlt
      obtain ⟨_, _, r2⟩ := hrv m (by omega)
      clear h0 hrv
      generalize us[m].2.2 = x at *
      generalize us[m + 1].2.2 = y at *
      have hd : decide ((y : Int) ≤ (x : Int)) = false := decide_eq_false (by omega)
      have hw : IntKind.i64.wrap ((m : Int) + 1 - 1) = (m : Int) := by rw [IntWalk.i64_in _ (by omega)]; omega
      go_wp2
      go_quiet (fail)
      go_wp2
      go_roundg (us.length + 1 - (m + 1))
      case measure => omega
      case rel => exact ⟨m + 1, by omega, rfl, by go_num, below_drewN HB.out _⟩
    · go_wp2_with (go_at_call 13; refine (alive_any _).mono ?_; rintro e w8 ⟨rfl, hb8⟩; have HB8 := Lib.hid (below_alive (below_alive HB7.out HB.out) hb8); clear hb8)
      go_ret
      exact ⟨rfl, HB8.out⟩
theorem back_walk (ts : List ITok) (hsz : ∀ t ∈ ts, t.2.1.size ≤ 9223372036854775807) (A : Option Addr) (c : Nat) (s : ByteArray) (hs : s.size ≤ 140737488355328) (w : World) (hR : Reads w A (iCells ts)) (hl : ts.length ≤ 9223372036854775807) :
    Calls Tryd.prog 5 #[.slice A ts.length c, .string s] w fun e w' => e = .returned (.bool true) ∧ Below w.heap.size w w' := by
  by_cases h1 : (readAll s).2.2 = 0
  · have h2 := (readAll_ok s h1).2.2
    rcases write_cases ((readFrom s 0).1.map intTok) with ⟨h3, _⟩ | ⟨h3, us3, h4, h5, _⟩
    · rcases write_cases ts with ⟨h6, h7⟩ | ⟨h6, us, h7, h8, h9⟩
      · exact back_badw_bad ts hsz A c s hs _ h2 h3 h6 h7 w hR hl
      · exact back_badw_ok ts hsz A c s hs _ h2 h3 h6 us h7 h8 h9 w hR hl
    · rcases write_cases ts with ⟨h6, h7⟩ | ⟨h6, us, h7, h8, h9⟩
      · exact back_okw_bad ts hsz A c s hs _ h2 h3 us3 h4 h5 h6 h7 w hR hl
      · exact back_okw_ok ts hsz A c s hs _ h2 h3 us3 h4 h5 h6 us h7 h8 h9 w hR hl
  · rcases write_cases ts with ⟨h6, h7⟩ | ⟨h6, us, h7, h8, h9⟩
    · exact back_skip_bad ts hsz A c s hs h1 h6 h7 w hR hl
    · exact back_skip_ok ts hsz A c s hs h1 h6 us h7 h8 h9 w hR hl
end Go.Proofs.YtaccooeodimdaaaDoor
