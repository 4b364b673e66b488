/- Contracts of the reference's Word, Words, Bits. -/
import Derived.Test.YtkcdlbclodjjhaaGreatGan
import Derived.Test.YtkcdlbclodjjhaaGreatGae
namespace Go.Proofs.YtkcdlbclodjjhaaGreat
open Go.RowKit

set_option maxRecDepth 100000 in
theorem rword_any (S Ga E : Option Addr) (sn sc gn gc en ec : Nat) (ws : List Int) (A : Option Addr) (c : Nat) (hl : ws.length ≤ 9223372036854775807) (w : World) (hA : Reads w A (iCells ws)) :
    Calls Tryz.prog 81 #[.agg #[.slice S sn sc, .slice Ga gn gc, .slice E en ec], .slice A ws.length c] w (GatePost (wordErr gn ws) w) := by
  have hb : Below w.heap.size w (w.alloc (.cells #[.slice S sn sc, .slice Ga gn gc, .slice E en ec] 36)) := (Below.refl _ _).alloc (Nat.le_refl _) _
  have HP := Lib.hid (places_any S Ga E sn sc gn gc en ec ws A c hl _ (hA.below hb))
  have HB := Lib.hid hb
  obtain ⟨d0, d1, d2, _, _, _⟩ := box_facts (heap_alloc_new w (.cells #[.slice S sn sc, .slice Ga gn gc, .slice E en ec] 36))
  unfold wordErr
  generalize placesErr gn ws = er at *
  generalize ws.length = n at *
  clear hA hb hl
  by_cases h1 : n < 1
  · have i1 : (n : Int) < 1 := by omega
    rw [if_pos (.inl h1)]
    go_enter Tryz.func81, Tryz.ntmps81
    go_wp2
    go_ret
    exact ⟨rfl, HB.out⟩
  · have i1 : ¬ (n : Int) < 1 := by omega
    by_cases h2 : 16 < n
    · have i2 : (16 : Int) < (n : Int) := by omega
      rw [if_pos (.inr h2)]
      go_enter Tryz.func81, Tryz.ntmps81
      go_wp2
      go_ret
      exact ⟨rfl, HB.out⟩
    · have i2 : ¬ (16 : Int) < (n : Int) := by omega
      rw [if_neg (by omega)]
      go_enter Tryz.func81, Tryz.ntmps81
      go_wp2_with (go_at_call 18; refine HP.out.mono ?_; rintro e w1 ⟨rfl, hb⟩; have HB1 := Lib.hid (HB.out.trans (hb.mono HB.out.size)); clear hb)
      go_ret
      exact ⟨rfl, HB1.out⟩
set_option maxHeartbeats 1000000 in
set_option maxRecDepth 100000 in
theorem rwords_any (S Ga E : Option Addr) (sn sc gn gc en ec : Nat) (vs ws : List Int) (A : Option Addr) (c : Nat) (D : Option Addr) (d : Nat) (hl1 : vs.length ≤ 9223372036854775807) (hl2 : ws.length ≤ 9223372036854775807) (w : World) (hA : Reads w A (iCells vs)) (hD : Reads w D (iCells ws)) :
    Calls Tryz.prog 82 #[.agg #[.slice S sn sc, .slice Ga gn gc, .slice E en ec], .slice A vs.length c, .slice D ws.length d] w (GatePost (wordsErr gn vs ws) w) := by
  have HPV : Hid (∀ W, Below w.heap.size w W → Calls Tryz.prog 18 #[.agg #[.slice S sn sc, .slice Ga gn gc, .slice E en ec], .slice A vs.length c] W fun e W' => e = .returned (.int .i64 (placesErr gn vs)) ∧ Below W.heap.size W W') := Lib.hid fun W hb => places_any S Ga E sn sc gn gc en ec vs A c hl1 W (hA.below hb)
  have HPW : Hid (∀ W, Below w.heap.size w W → Calls Tryz.prog 18 #[.agg #[.slice S sn sc, .slice Ga gn gc, .slice E en ec], .slice D ws.length d] W fun e W' => e = .returned (.int .i64 (placesErr gn ws)) ∧ Below W.heap.size W W') := Lib.hid fun W hb => places_any S Ga E sn sc gn gc en ec ws D d hl2 W (hD.below hb)
  have hwe : wordsErr gn vs ws = if (vs.length < 1 ∨ 16 < vs.length) ∨ (ws.length < 1 ∨ 16 < ws.length) then 3 else if placesErr gn vs ≠ 0 then placesErr gn vs else if placesErr gn ws ≠ 0 then placesErr gn ws else if vs.length = ws.length then 0 else 2 := by
    unfold wordsErr placesErr
    rw [List.any_append]
    cases vs.any (outside gn) <;> cases ws.any (outside gn) <;> simp
  rw [hwe]
  generalize placesErr gn vs = ev at *
  generalize placesErr gn ws = ew at *
  generalize vs.length = n at *
  generalize ws.length = m at *
  clear hA hD hl1 hl2 hwe
  have k0 : ((w.alloc (.cells #[.slice S sn sc, .slice Ga gn gc, .slice E en ec] 36)).alloc (.cells #[.slice A n c, .slice D m d] 38)).heap[w.heap.size]? = some (.cells #[.slice S sn sc, .slice Ga gn gc, .slice E en ec] 36 (0, 0)) := by
    rw [Below.heap_alloc _ _ _ (by simp)]; exact heap_alloc_new w _
  have k1 : ((w.alloc (.cells #[.slice S sn sc, .slice Ga gn gc, .slice E en ec] 36)).alloc (.cells #[.slice A n c, .slice D m d] 38)).heap[w.heap.size + 1]? = some (.cells #[.slice A n c, .slice D m d] 38 (0, 0)) := by
    have := heap_alloc_new (w.alloc (.cells #[.slice S sn sc, .slice Ga gn gc, .slice E en ec] 36)) (.cells #[.slice A n c, .slice D m d] 38); simpa using this
  have hb0 : Below w.heap.size w ((w.alloc (.cells #[.slice S sn sc, .slice Ga gn gc, .slice E en ec] 36)).alloc (.cells #[.slice A n c, .slice D m d] 38)) := ((Below.refl _ _).alloc (Nat.le_refl _) _).alloc (by simp) _
  have c0 : ((w.alloc (.cells #[.slice S sn sc, .slice Ga gn gc, .slice E en ec] 36)).alloc (.cells #[.slice A n c, .slice D m d] 38)).cell? ⟨w.heap.size + 1, 0, none⟩ = some (.slice A n c) := cell_in k1
  have c1 : ((w.alloc (.cells #[.slice S sn sc, .slice Ga gn gc, .slice E en ec] 36)).alloc (.cells #[.slice A n c, .slice D m d] 38)).cell? ⟨w.heap.size + 1, 1, none⟩ = some (.slice D m d) := cell_in k1
  have HK0 := Lib.hid k0
  have HB0 := Lib.hid hb0
  clear k0 k1 hb0
  by_cases h1 : n < 1 ∨ 16 < n
  · rw [if_pos (.inl h1)]
    rcases h1 with h1 | h1
    · have i1 : (n : Int) < 1 := by omega
      clear h1
      go_enter Tryz.func82, Tryz.ntmps82
      go_wp2
      go_loopg [16] 2 (fun g i' wr => g = 2 ∧ i' = .int .i64 0 ∧ ((w.alloc (.cells #[.slice S sn sc, .slice Ga gn gc, .slice E en ec] 36)).alloc (.cells #[.slice A n c, .slice D m d] 38)) = wr)
      case atStart => exact ⟨rfl, rfl, rfl⟩
      case round =>
        obtain ⟨rfl, rfl, rfl⟩ := hrel
        go_wp2
        go_ret
        exact ⟨rfl, HB0.out⟩
    · have i1 : ¬ (n : Int) < 1 := by omega
      have i2 : (16 : Int) < (n : Int) := by omega
      clear h1
      go_enter Tryz.func82, Tryz.ntmps82
      go_wp2
      go_loopg [16] 2 (fun g i' wr => g = 2 ∧ i' = .int .i64 0 ∧ ((w.alloc (.cells #[.slice S sn sc, .slice Ga gn gc, .slice E en ec] 36)).alloc (.cells #[.slice A n c, .slice D m d] 38)) = wr)
      case atStart => exact ⟨rfl, rfl, rfl⟩
      case round =>
        obtain ⟨rfl, rfl, rfl⟩ := hrel
        go_wp2
        go_ret
        exact ⟨rfl, HB0.out⟩
  have i1 : ¬ (n : Int) < 1 := by omega
  have i2 : ¬ (16 : Int) < (n : Int) := by omega
  by_cases h2 : m < 1 ∨ 16 < m
  · rw [if_pos (.inr h2)]
    clear h1
    rcases h2 with h2 | h2
    · have i3 : (m : Int) < 1 := by omega
      clear h2
      go_enter Tryz.func82, Tryz.ntmps82
      go_wp2
      go_loopg [16] 2 (fun g i' wr => ∃ k : Nat, k ≤ 1 ∧ g = 2 - k ∧ i' = .int .i64 k ∧ ((w.alloc (.cells #[.slice S sn sc, .slice Ga gn gc, .slice E en ec] 36)).alloc (.cells #[.slice A n c, .slice D m d] 38)) = wr)
      case atStart => exact ⟨0, by omega, rfl, rfl, rfl⟩
      case round =>
        obtain ⟨k, hk, rfl, rfl, rfl⟩ := hrel
        have hc : k = 0 ∨ k = 1 := by omega
        rcases hc with rfl | rfl
        · go_wp2
          go_roundg 1
          case measure => omega
          case rel => exact ⟨1, by omega, rfl, by go_num, rfl⟩
        · go_wp2
          go_ret
          exact ⟨rfl, HB0.out⟩
    · have i3 : ¬ (m : Int) < 1 := by omega
      have i4 : (16 : Int) < (m : Int) := by omega
      clear h2
      go_enter Tryz.func82, Tryz.ntmps82
      go_wp2
      go_loopg [16] 2 (fun g i' wr => ∃ k : Nat, k ≤ 1 ∧ g = 2 - k ∧ i' = .int .i64 k ∧ ((w.alloc (.cells #[.slice S sn sc, .slice Ga gn gc, .slice E en ec] 36)).alloc (.cells #[.slice A n c, .slice D m d] 38)) = wr)
      case atStart => exact ⟨0, by omega, rfl, rfl, rfl⟩
      case round =>
        obtain ⟨k, hk, rfl, rfl, rfl⟩ := hrel
        have hc : k = 0 ∨ k = 1 := by omega
        rcases hc with rfl | rfl
        · go_wp2
          go_roundg 1
          case measure => omega
          case rel => exact ⟨1, by omega, rfl, by go_num, rfl⟩
        · go_wp2
          go_ret
          exact ⟨rfl, HB0.out⟩
  have i3 : ¬ (m : Int) < 1 := by omega
  have i4 : ¬ (16 : Int) < (m : Int) := by omega
  have hne : ((n : Int) == (m : Int)) = decide (n = m) := by rw [Bool.eq_iff_iff]; simp; omega
  rw [if_neg (by omega)]
  clear h1 h2
  obtain ⟨er, her⟩ : ∃ er : Int, er = (if ev ≠ 0 then ev else if ew ≠ 0 then ew else if n = m then 0 else 2) := ⟨_, rfl⟩
  rw [← her]
  have HER := Lib.hid her
  clear her
  go_enter Tryz.func82, Tryz.ntmps82
  go_wp2
  go_loopg [16] 2 (fun g i' wr => ∃ k : Nat, k ≤ 2 ∧ g = 2 - k ∧ i' = .int .i64 k ∧ ((w.alloc (.cells #[.slice S sn sc, .slice Ga gn gc, .slice E en ec] 36)).alloc (.cells #[.slice A n c, .slice D m d] 38)) = wr)
  case atStart => exact ⟨0, by omega, rfl, rfl, rfl⟩
  case round =>
    obtain ⟨k, hk, rfl, rfl, rfl⟩ := hrel
    have hc : k = 0 ∨ k = 1 ∨ k = 2 := by omega
    rcases hc with rfl | rfl | rfl
    · go_wp2
      go_roundg 1
      case measure => omega
      case rel => exact ⟨1, by omega, rfl, by go_num, rfl⟩
    · go_wp2
      go_roundg 0
      case measure => omega
      case rel => exact ⟨2, by omega, rfl, by go_num, rfl⟩
    · have hz1 : ((w.alloc (.cells #[.slice S sn sc, .slice Ga gn gc, .slice E en ec] 36)).alloc (.cells #[.slice A n c, .slice D m d] 38)).heap.size = w.heap.size + 1 + 1 := by simp
      generalize hw1 : ((w.alloc (.cells #[.slice S sn sc, .slice Ga gn gc, .slice E en ec] 36)).alloc (.cells #[.slice A n c, .slice D m d] 38)) = w1 at *
      clear c0 c1 hw1
      have hb2 : Below w.heap.size w (w1.alloc (.cells #[.slice A n c, .slice D m d] 38)) := HB0.out.alloc HB0.out.size _
      have k0 : (w1.alloc (.cells #[.slice A n c, .slice D m d] 38)).heap[w.heap.size]? = some (.cells #[.slice S sn sc, .slice Ga gn gc, .slice E en ec] 36 (0, 0)) := by rw [Below.heap_alloc _ _ _ (by omega)]; exact HK0.out
      have k1 : (w1.alloc (.cells #[.slice A n c, .slice D m d] 38)).heap[w.heap.size + 1 + 1]? = some (.cells #[.slice A n c, .slice D m d] 38 (0, 0)) := by
        have := heap_alloc_new w1 (.cells #[.slice A n c, .slice D m d] 38)
        rwa [hz1] at this
      have HB2 := Lib.hid hb2
      have HC0 := Lib.hid k0
      have HC1 := Lib.hid k1
      clear hb2 k0 k1
      go_wp2
      generalize (w1.alloc (.cells #[.slice A n c, .slice D m d] 38)) = w2 at *
      go_loopg [33] 2 (fun g i' wr => ∃ k : Nat, k ≤ 2 ∧ g = 2 - k ∧ i' = .int .i64 k ∧ Hid (1 ≤ k → ev = 0) ∧ Hid (2 ≤ k → ew = 0) ∧ Hid (Below w2.heap.size w2 wr))
      case atStart => exact ⟨0, by omega, rfl, rfl, Lib.hid (fun h => by omega), Lib.hid (fun h => by omega), Lib.hid (Below.refl _ _)⟩
      case round =>
        obtain ⟨k, hk2, rfl, rfl, HV, HW, HR⟩ := hrel
        have hwr : Below w.heap.size w wr := HB2.out.trans (HR.out.mono HB2.out.size)
        have HWR := Lib.hid hwr
        have t0 := (HR.out.block _ (Array.getElem?_eq_some_iff.1 HC0.out).1).trans HC0.out
        have t1 := (HR.out.block _ (Array.getElem?_eq_some_iff.1 HC1.out).1).trans HC1.out
        have e0 : wr.cell? ⟨w.heap.size + 1 + 1, 0, none⟩ = some (.slice A n c) := cell_in t1
        have e1 : wr.cell? ⟨w.heap.size + 1 + 1, 1, none⟩ = some (.slice D m d) := cell_in t1
        obtain ⟨d0, d1, d2, _, _, _⟩ := box_facts t0
        clear t0 t1 hwr
        have hc : k = 0 ∨ k = 1 ∨ k = 2 := by omega
        rcases hc with rfl | rfl | rfl
        · by_cases hev : ev = 0
          · have h1 : (ev == 0) = true := by simpa using hev
            go_wp2_with (go_at_call 18; refine (HPV.out _ HWR.out).mono ?_; rintro e wp ⟨rfl, hb⟩; have HRP := Lib.hid (HR.out.trans (hb.mono HR.out.size)); clear hb)
            go_roundg 1
            case measure => omega
            case rel => exact ⟨1, by omega, rfl, by go_num, Lib.hid (fun _ => hev), Lib.hid (fun h => by omega), HRP⟩
          · have h1 : (ev == 0) = false := by simpa using hev
            go_wp2_with (go_at_call 18; refine (HPV.out _ HWR.out).mono ?_; rintro e wp ⟨rfl, hb⟩; have HRP := Lib.hid (HWR.out.trans (hb.mono HWR.out.size)); clear hb)
            go_ret
            exact ⟨ret_e (by rw [HER.out, if_pos hev]), HRP.out⟩
        · have hev := HV.out (by omega)
          by_cases hew : ew = 0
          · have h1 : (ew == 0) = true := by simpa using hew
            go_wp2_with (go_at_call 18; refine (HPW.out _ HWR.out).mono ?_; rintro e wp ⟨rfl, hb⟩; have HRP := Lib.hid (HR.out.trans (hb.mono HR.out.size)); clear hb)
            go_roundg 0
            case measure => omega
            case rel => exact ⟨2, by omega, rfl, by go_num, Lib.hid (fun _ => hev), Lib.hid (fun _ => hew), HRP⟩
          · have h1 : (ew == 0) = false := by simpa using hew
            go_wp2_with (go_at_call 18; refine (HPW.out _ HWR.out).mono ?_; rintro e wp ⟨rfl, hb⟩; have HRP := Lib.hid (HWR.out.trans (hb.mono HWR.out.size)); clear hb)
            go_ret
            exact ⟨ret_e (by rw [HER.out, if_neg (by rw [hev]; simp), if_pos hew]), HRP.out⟩
        · have hev := HV.out (by omega)
          have hew := HW.out (by omega)
          by_cases hnm : n = m
          · have h1 : ((n : Int) == (m : Int)) = true := by simp; omega
            have h2 : (n : Int) = (m : Int) := by omega
            go_wp2
            go_ret
            exact ⟨ret_e (by rw [HER.out, if_neg (by rw [hev]; simp), if_neg (by rw [hew]; simp), if_pos hnm]), HWR.out⟩
          · have h1 : ((n : Int) == (m : Int)) = false := by simp; omega
            have h2 : ¬ (n : Int) = (m : Int) := by omega
            go_wp2
            go_ret
            exact ⟨ret_e (by rw [HER.out, if_neg (by rw [hev]; simp), if_neg (by rw [hew]; simp), if_neg hnm]), HWR.out⟩
set_option maxHeartbeats 1000000 in
set_option maxRecDepth 100000 in
theorem bits_any (V ls : List Nat) (VA A : Option Addr) (vc c vn n : Nat) (hn : ls.length = n) (hvn : V.length = vn) (hl : n ≤ 65536) (hr : ∀ x ∈ ls, x < vn) (w : World) (hV : Reads w VA (uCells V)) (hA : Reads w A (nCells ls)) :
    Calls Tryz.prog 45 #[.slice VA vn vc, .slice A n c] w (BRet (ls.all fun x => decide (V.getD x 0 ≤ 1)) w) := by
  subst hn
  subst hvn
  have HA := Lib.hid hA
  have HV := Lib.hid hV
  have HR := Lib.hid hr
  clear hA hr hV
  go_enter Tryz.func45, Tryz.ntmps45
  go_wp2
  go_loopg [9] ls.length (fun g i' wr => ∃ k : Nat, k ≤ ls.length ∧ g = ls.length - k ∧ i' = .int .i64 k ∧ Hid ((ls.take k).all (fun x => decide (V.getD x 0 ≤ 1)) = true) ∧ w = wr)
  case atStart => exact ⟨0, Nat.zero_le _, rfl, rfl, Lib.hid rfl, rfl⟩
  case round =>
    obtain ⟨k, hk, rfl, rfl, HP, rfl⟩ := hrel
    by_cases hlt : k < ls.length
    · obtain ⟨ad, hva, q0⟩ := HA.out.nat k hlt
      have hx := HR.out _ (List.getElem_mem hlt)
      have hmem := List.getElem_mem hlt
      have hsu : (ls.take (k + 1)).all (fun x => decide (V.getD x 0 ≤ 1)) = decide (V.getD ls[k] 0 ≤ 1) := by
        rw [List.take_succ_eq_append_getElem hlt, List.all_append, HP.out]
        simp
      have hno : ¬ V.getD ls[k] 0 ≤ 1 → ls.all (fun x => decide (V.getD x 0 ≤ 1)) = false := fun h => by
        rw [List.all_eq_false]
        exact ⟨_, hmem, by simpa using h⟩
      generalize ls[k] = x at *
      obtain ⟨vad, hvv, q1⟩ : ∃ ad, VA = some ad ∧ w.cell? (ad.add x) = some (.int .u64 ((V[x] : Nat) : Int)) := HV.out.u x hx
      have hvx : V.getD x 0 = V[x] := by rw [List.getD_eq_getElem?_getD, List.getElem?_eq_getElem hx]; rfl
      rw [hvx] at hsu hno
      have HSU := Lib.hid hsu
      have HNO := Lib.hid hno
      clear hsu hno hvx hmem
      generalize V[x] = b at *
      subst hva
      subst hvv
      have i1 : (0 : Int) ≤ (k : Int) := by omega
      have i2 : (k : Int) < (ls.length : Int) := by omega
      have i3 : (0 : Int) ≤ (x : Int) := by omega
      have i4 : (x : Int) < (V.length : Int) := by omega
      by_cases hb : b ≤ 1
      · have j1 : ¬ (1 : Int) < (b : Int) := by omega
        have HBB := Lib.hid hb
        clear hb
        go_wp2
        go_roundg (ls.length - (k + 1))
        case measure => omega
        case rel => exact ⟨k + 1, by omega, rfl, by go_num, Lib.hid (by rw [HSU.out]; exact decide_eq_true HBB.out), rfl⟩
      · have j1 : (1 : Int) < (b : Int) := by omega
        have HBB := Lib.hid hb
        clear hb
        go_wp2
        go_ret
        exact ⟨ret_bl (HNO.out HBB.out).symm, rfl⟩
    · obtain rfl : k = ls.length := by omega
      have hp := HP.out
      rw [List.take_length] at hp
      have HPP := Lib.hid hp
      clear hp
      go_wp2
      go_ret
      exact ⟨ret_bl HPP.out.symm, rfl⟩
end Go.Proofs.YtkcdlbclodjjhaaGreat
