/- Contracts of the reader's next: signs, and what is no word. -/
import Derived.Test.YtaccooeodimdaaaDoorTokG
namespace Go.Proofs.YtaccooeodimdaaaDoor
open Go.RowKit

/-- A callee that leaves the world alone, in a region that follows another one. -/
theorem quiet_more {P : Program} {f : FuncId} {args : Array Value} {v : Value} (h : ∀ W : World, Calls P f args W fun e w' => e = .returned v ∧ w' = W) {w : World} {a n : Nat} :
    Calls P f args (w.drewN (a + n)) fun e w'' => e = .returned v ∧ ∃ m, w'' = w.drewN (a + m) := (h _).mono fun _ _ ⟨he, hm⟩ => ⟨he, n, hm⟩
theorem set1_far {w : World} {g k j : Nat} {o : Obj} (h : w.heap[k]? = some o) (hne : k ≠ g) (x : Value) : (w.setCell ⟨g, j, none⟩ x).heap[k]? = some o := by
  rw [Below.heap_setCell _ _ _ _ hne]; exact h
theorem chk_eq (i : Nat) : chkTok 3 [61, 61] i = 0 := by
  unfold chkTok
  rw [if_neg]
  have h1 : okTok 3 [61, 61] = true := by decide
  simp [h1]
theorem chk_sign1 (s : ByteArray) (i : Nat) (hi : i < s.size) (h : isSign (s[i].toNat : Int) = true) : chkTok 3 (s.extract i (i + 1)).data.toList i = 0 := by
  have hl : (s.extract i (i + 1)).data.toList = [s[i]] := by
    rw [Lib.extract_data, List.drop_eq_getElem_cons (by rw [data_len]; exact hi), show i + 1 - i = 1 by omega]
    rfl
  rw [hl]
  unfold chkTok
  rw [if_neg]
  have h1 : okTok 3 [s[i]] = true := by
    unfold okTok
    rw [if_neg (by decide), if_neg (by decide), if_pos rfl]
    simp [h]
  simp [h1]
theorem drop_lt (s : ByteArray) (i : Nat) (hE : Lib.hasPrefix (s.data.toList.drop i) [61, 61] = true) : i + 2 ≤ s.size := by
  have h : [61, 61] <+: s.data.toList.drop i := by simpa [Lib.hasPrefix] using hE
  have := h.length_le
  rw [List.length_drop, data_len] at this
  simp at this
  omega

set_option maxRecDepth 100000 in
theorem next_eq (b : Nat) (s : ByteArray) (hs : s.size ≤ 9223372036854775807) (i : Nat) (hi : i < s.size) (w : World) (hR : IsR w b s i) (hL : isLetter (s[i].toNat : Int) = false) (hD : isDigit (s[i].toNat : Int) = false) (hE : Lib.hasPrefix (s.data.toList.drop i) [61, 61] = true) :
    Calls Tryd.prog 28 #[.pointer (some ⟨b, 0, none⟩)] w (NextPost b s i w) := by
  have hc0 := hR.c0
  have hc1 := hR.c1
  have hf1 := hR.f1
  have hb : b < w.heap.size := (Array.getElem?_eq_some_iff.1 hR).1
  have HR := Lib.hid hR; clear hR
  have hlet := fun W => letter_any (s[i].toNat : Int) W
  rw [hL] at hlet
  have HT := Lib.hid hlet; clear hlet
  have hdig := fun W => digit_any (s[i].toNat : Int) W
  rw [hD] at hdig
  have HD := Lib.hid hdig; clear hdig
  have hraw : rawTok s i = some (3, ⟨#[61, 61]⟩, i + 2) := by unfold rawTok; rw [getD_i hi]; simp only [*, if_true, if_false, Bool.false_eq_true]
  have HW := Lib.hid hraw; clear hraw
  have hi2 := drop_lt s i hE
  have hw2 : i + 2 ≤ 9223372036854775807 := by omega
  have hp := Tryd.strings_HasPrefix (s.extract i s.size) ⟨#[61, 61]⟩
  rw [drop_ext, show (⟨#[61, 61]⟩ : ByteArray).data.toList = [61, 61] from rfl, hE] at hp
  have HP := Lib.hid hp; clear hp
  clear hL hD hE
  have HS := Lib.hid hs; clear hs
  have hk : ∀ W, Calls Tryd.prog 16 #[.agg #[.int .i64 3, .string ⟨#[61, 61]⟩, .int .i64 i]] W fun e w' => e = .returned (.int .i64 (chkTok 3 [61, 61] i)) ∧ Below W.heap.size W w' := fun W => check_any 3 ⟨#[61, 61]⟩ (by decide) i W
  rw [chk_eq] at hk
  have HK := Lib.hid hk; clear hk
  go_enter Tryd.func28, Tryd.ntmps28
  go_wp2
  go_quiet (fail)
  go_wp2_with (first | (go_at_call 40; refine (HT.out _).mono ?_; rintro e w' ⟨rfl, rfl⟩) | (go_at_call 36; refine (HD.out _).mono ?_; rintro e w' ⟨rfl, rfl⟩))
  go_quiet ((exact quiet_more HP.out))
  go_wp2_with fail
  refine (HK.out _).mono ?_
  rintro e w2 ⟨rfl, hb2⟩
  have hx3 := (hb2.block (w.heap.size + 1) (by simp [World.setCell])).trans (set1_far (set2 (heap_new2 w _ _ _).2 _ _) (by omega) _)
  have hx4 := (hb2.block w.heap.size (by simp [World.setCell]; omega)).trans (set1_far (set2_far (heap_new2 w _ _ _).1 (by omega) _ _) (by omega) _)
  have hx5 := (hb2.block b (by simp [World.setCell]; omega)).trans (IsR.of (s := s) (i := i) (show IsR _ b s i from set2_far (show _ = _ from (getD_box HR.out).drewN _) (by omega) _ _) (i + 2) rfl)
  obtain ⟨d10, d11, d12, g10, g11, g12⟩ := cells3 hx4
  obtain ⟨d20, d21, d22, g20, g21, g22⟩ := cells3 hx3
  have hf := grown_below (grown_set (grown_far (grown_far (grown_start w _ _ _ b) (by omega) _ _) (by omega) _ _) _ _) hb2
  have HF := Lib.hid hf; clear hf
  have HX5 := Lib.hid hx5; clear hx5 hx3 hx4 hb2
  clear hc0 hc1 hf1
  go_wp2
  refine bodyPost_ret (v := .tuple #[.agg #[.int .i64 3, .string ⟨#[61, 61]⟩, .int .i64 i], .int .i64 0]) ?_ rfl ⟨3, _, _, _, rfl, ?_, grown_far (grown_far (grown_far HF.out (Nat.le_refl _) _ _) (Nat.le_refl _) _ _) (Nat.le_refl _) _ _, .inr ⟨HW.out, err_good (chk_eq i)⟩⟩
  · simp [results, Tryd.results28, go_sem, d10, d11, d12]
  · exact set3_far HX5.out (by omega) _ _ _

set_option maxRecDepth 100000 in
theorem next_sign (b : Nat) (s : ByteArray) (hs : s.size ≤ 9223372036854775807) (i : Nat) (hi : i < s.size) (w : World) (hR : IsR w b s i) (hL : isLetter (s[i].toNat : Int) = false) (hD : isDigit (s[i].toNat : Int) = false) (hE : Lib.hasPrefix (s.data.toList.drop i) [61, 61] = false) (hS : isSign (s[i].toNat : Int) = true) :
    Calls Tryd.prog 28 #[.pointer (some ⟨b, 0, none⟩)] w (NextPost b s i w) := by
  have hc0 := hR.c0
  have hc1 := hR.c1
  have hf1 := hR.f1
  have hb : b < w.heap.size := (Array.getElem?_eq_some_iff.1 hR).1
  have HR := Lib.hid hR; clear hR
  have hlet := fun W => letter_any (s[i].toNat : Int) W
  rw [hL] at hlet
  have HT := Lib.hid hlet; clear hlet
  have hdig := fun W => digit_any (s[i].toNat : Int) W
  rw [hD] at hdig
  have HD := Lib.hid hdig; clear hdig
  have hsig := fun W => sign_any (s[i].toNat : Int) W
  rw [hS] at hsig
  have HG := Lib.hid hsig; clear hsig
  have hraw : rawTok s i = some (3, s.extract i (i + 1), i + 1) := by unfold rawTok; rw [getD_i hi]; simp only [*, if_true, if_false, Bool.false_eq_true]
  have HW := Lib.hid hraw; clear hraw
  have hw2 : i + 1 ≤ 9223372036854775807 := by omega
  have hp := Tryd.strings_HasPrefix (s.extract i s.size) ⟨#[61, 61]⟩
  rw [drop_ext, show (⟨#[61, 61]⟩ : ByteArray).data.toList = [61, 61] from rfl, hE] at hp
  have HP := Lib.hid hp; clear hp
  have hch := chk_sign1 s i hi hS
  clear hL hD hE hS
  have hk : ∀ W, Calls Tryd.prog 16 #[.agg #[.int .i64 3, .string (s.extract i (i + 1)), .int .i64 i]] W fun e w' => e = .returned (.int .i64 (chkTok 3 (s.extract i (i + 1)).data.toList i)) ∧ Below W.heap.size W w' := fun W => check_any 3 (s.extract i (i + 1)) (by rw [ByteArray.size_extract]; omega) i W
  rw [hch] at hk
  have HK := Lib.hid hk; clear hk
  have HCH := Lib.hid hch; clear hch
  have HS := Lib.hid hs; clear hs
  go_enter Tryd.func28, Tryd.ntmps28
  go_wp2
  go_quiet (fail)
  go_wp2_with (first | (go_at_call 40; refine (HT.out _).mono ?_; rintro e w' ⟨rfl, rfl⟩) | (go_at_call 36; refine (HD.out _).mono ?_; rintro e w' ⟨rfl, rfl⟩))
  go_quiet ((exact quiet_more HP.out))
  go_wp2_with (first | (go_at_call 31; refine (HG.out _).mono ?_; rintro e w' ⟨rfl, rfl⟩))
  go_region
  go_wp2_with fail
  refine (HK.out _).mono ?_
  rintro e w2 ⟨rfl, hb2⟩
  have hx3 := (hb2.block (w.heap.size + 1) (by simp [World.setCell])).trans (set1_far (set2 (heap_new2 w _ _ _).2 _ _) (by omega) _)
  have hx4 := (hb2.block w.heap.size (by simp [World.setCell]; omega)).trans (set1_far (set2_far (heap_new2 w _ _ _).1 (by omega) _ _) (by omega) _)
  have hx5 := (hb2.block b (by simp [World.setCell]; omega)).trans (IsR.of (s := s) (i := i) (show IsR _ b s i from set2_far (show _ = _ from (getD_box HR.out).drewN _) (by omega) _ _) (i + 1) rfl)
  obtain ⟨d10, d11, d12, g10, g11, g12⟩ := cells3 hx4
  obtain ⟨d20, d21, d22, g20, g21, g22⟩ := cells3 hx3
  have hf := grown_below (grown_set (grown_far (grown_far (grown_start w _ _ _ b) (by omega) _ _) (by omega) _ _) _ _) hb2
  have HF := Lib.hid hf; clear hf
  have HX5 := Lib.hid hx5; clear hx5 hx3 hx4 hb2
  clear hc0 hc1 hf1
  go_wp2
  refine bodyPost_ret (v := .tuple #[.agg #[.int .i64 3, .string (s.extract i (i + 1)), .int .i64 i], .int .i64 0]) ?_ rfl ⟨3, _, _, _, rfl, ?_, grown_far (grown_far (grown_far HF.out (Nat.le_refl _) _ _) (Nat.le_refl _) _ _) (Nat.le_refl _) _ _, .inr ⟨HW.out, err_good HCH.out⟩⟩
  · simp [results, Tryd.results28, go_sem, d10, d11, d12]
  · exact set3_far HX5.out (by omega) _ _ _

set_option maxRecDepth 100000 in
theorem next_none (b : Nat) (s : ByteArray) (i : Nat) (hi : i < s.size) (w : World) (hR : IsR w b s i) (hL : isLetter (s[i].toNat : Int) = false) (hD : isDigit (s[i].toNat : Int) = false) (hE : Lib.hasPrefix (s.data.toList.drop i) [61, 61] = false) (hS : isSign (s[i].toNat : Int) = false) :
    Calls Tryd.prog 28 #[.pointer (some ⟨b, 0, none⟩)] w (NextPost b s i w) := by
  have hc0 := hR.c0
  have hc1 := hR.c1
  have hb : b < w.heap.size := (Array.getElem?_eq_some_iff.1 hR).1
  have HR := Lib.hid hR; clear hR
  have hlet := fun W => letter_any (s[i].toNat : Int) W
  rw [hL] at hlet
  have HT := Lib.hid hlet; clear hlet
  have hdig := fun W => digit_any (s[i].toNat : Int) W
  rw [hD] at hdig
  have HD := Lib.hid hdig; clear hdig
  have hsig := fun W => sign_any (s[i].toNat : Int) W
  rw [hS] at hsig
  have HG := Lib.hid hsig; clear hsig
  have hraw : rawTok s i = none := by unfold rawTok; rw [getD_i hi]; simp only [*, if_false, Bool.false_eq_true]
  have HW := Lib.hid hraw; clear hraw
  have hp := Tryd.strings_HasPrefix (s.extract i s.size) ⟨#[61, 61]⟩
  rw [drop_ext, show (⟨#[61, 61]⟩ : ByteArray).data.toList = [61, 61] from rfl, hE] at hp
  have HP := Lib.hid hp; clear hp
  clear hL hD hE hS
  go_enter Tryd.func28, Tryd.ntmps28
  go_wp2
  go_quiet (fail)
  go_wp2_with (first | (go_at_call 40; refine (HT.out _).mono ?_; rintro e w' ⟨rfl, rfl⟩) | (go_at_call 36; refine (HD.out _).mono ?_; rintro e w' ⟨rfl, rfl⟩))
  go_quiet ((exact quiet_more HP.out))
  go_wp2_with (first | (go_at_call 31; refine (HG.out _).mono ?_; rintro e w' ⟨rfl, rfl⟩))
  refine bodyPost_ret (v := .tuple #[.agg #[.int .i64 0, .string ⟨#[]⟩, .int .i64 i], .int .i64 4]) ?_ rfl ⟨0, _, i, _, rfl, ?_, grown_far (grown_far (grown_far (grown_start w _ _ _ b) (Nat.le_refl _) _ _) (Nat.le_refl _) _ _) (Nat.le_refl _) _ _, .inl ⟨HW.out, rfl, rfl⟩⟩
  · simp [results, Tryd.results28, go_sem]
  · exact set3_far (show _ = _ from (getD_box HR.out).drewN _) (by omega) _ _ _
theorem next_any (b : Nat) (s : ByteArray) (hs : s.size ≤ 9223372036854775807) (i : Nat) (hi : i < s.size) (w : World) (hR : IsR w b s i) :
    Calls Tryd.prog 28 #[.pointer (some ⟨b, 0, none⟩)] w (NextPost b s i w) := by
  rcases Bool.eq_false_or_eq_true (isLetter (s[i].toNat : Int)) with hL | hL
  · exact next_letter b s hs i hi w hR hL
  rcases Bool.eq_false_or_eq_true (isDigit (s[i].toNat : Int)) with hD | hD
  · exact next_digit b s hs i hi w hR hL hD
  rcases Bool.eq_false_or_eq_true (Lib.hasPrefix (s.data.toList.drop i) [61, 61]) with hE | hE
  · exact next_eq b s hs i hi w hR hL hD hE
  rcases Bool.eq_false_or_eq_true (isSign (s[i].toNat : Int)) with hS | hS
  · exact next_sign b s hs i hi w hR hL hD hE hS
  exact next_none b s i hi w hR hL hD hE hS
end Go.Proofs.YtaccooeodimdaaaDoor
