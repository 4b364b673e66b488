/- Contract of the reference's exitOf. (Printed by wip/tools/gen_rexitof.py.) -/
import Derived.Test.YtmnbgamnbgdnnaaGreatDoorReD
namespace Go.Proofs.YtmnbgamnbgdnnaaGreatDoor
open Go.RowKit

theorem upTo_at {l : List Bs} {j : Nat} (h : j < upTo l) : ∃ h2 : j < l.length, l[j] ≠ [58] := by
  unfold upTo at h
  have h1 : j < l.length := Nat.lt_of_lt_of_le h (List.takeWhile_prefix _).length_le
  refine ⟨h1, ?_⟩
  have h2 := List.all_eq_true.1 (List.all_takeWhile (p := fun x => decide (x ≠ [58])) (l := l)) _ (List.getElem_mem h)
  have h3 : (l.takeWhile fun x => decide (x ≠ [58]))[j] = l[j] := (List.takeWhile_prefix _).getElem h
  rw [h3] at h2
  simpa using h2
theorem upTo_here {l : List Bs} (h : upTo l < l.length) : l[upTo l] = [58] := by
  induction l with
  | nil => simp [upTo] at h
  | cons x r ih =>
    by_cases hx : x = [58]
    · have e : upTo (x :: r) = 0 := by unfold upTo; rw [List.takeWhile_cons_of_neg (by simp [hx])]; rfl
      simp only [e]
      exact hx
    · have e : upTo (x :: r) = upTo r + 1 := by unfold upTo; rw [List.takeWhile_cons_of_pos (by simp [hx])]; rfl
      simp only [e]
      exact ih (by rw [e] at h; simpa using h)
theorem upTo_cons {x : Bs} {r : List Bs} (h : x ≠ [58]) : upTo (x :: r) = upTo r + 1 := by unfold upTo; rw [List.takeWhile_cons_of_pos (by simp [h])]; rfl
theorem upTo_len (l : List Bs) : upTo l ≤ l.length := (List.takeWhile_prefix _).length_le
/-- All words at hand. -/
def AllPost (L : List Bs) (w : World) (e : Ending) (w' : World) : Prop :=
  ∃ g c, e = .returned (.slice (some ⟨g, 0, none⟩) L.length c) ∧ L.length ≤ c ∧ (∀ k (h : k < L.length), w'.cell? ⟨g, k, none⟩ = some (.string ⟨L[k].toArray⟩)) ∧ Below w.heap.size w w'
theorem all_of {L : List Bs} (h0 : 0 < L.length) {w : World} {v : Value} {w' : World} (k : WordsPost L w v w') : AllPost L w (.returned v) w' := by
  obtain ⟨hb, A, c, rfl, hc, hw⟩ := k
  obtain ⟨g, rfl, h1⟩ := hw 0 h0
  exact ⟨g, c, rfl, hc, fun k hk => by obtain ⟨g2, e2, h2⟩ := hw k hk; cases e2; exact h2, hb⟩
theorem box2_facts {W : World} {b : Nat} {v0 v1 : Value} {t : TypeId} (h : W.heap[b]? = some (.cells #[v0, v1] t (0, 0))) :
    W.cell? ⟨b, 0, none⟩ = some v0 ∧ W.cell? ⟨b, 1, none⟩ = some v1 ∧ W.frozen? ⟨b, 0, none⟩ = false ∧ W.frozen? ⟨b, 1, none⟩ = false := by
  simp [World.cell?, World.frozen?, h]
/-- Where a cut from k on lies. -/
def fromAd (g c k : Nat) : Addr := if c = k then ⟨g, 0, none⟩ else ⟨g, k, none⟩
theorem sz94 (W : World) : (sizeOf (Tryz.prog.elem 94)).run Tryz.prog W = .ok 1 W := by
  have : Tryz.prog.elem 94 = 9 := by kernel_rfl
  rw [this]
  exact Tryz.sizeOf9 W
theorem run_from (g n c k : Nat) (h1 : k + 1 ≤ n) (W : World) : (Instr.sliceAt 94 (.slice (some ⟨g, 0, none⟩) n c) (some (.int .i64 ((k : Int) + 1))) none none).run Tryz.prog W = .ok (.slice (some (fromAd g c (k + 1))) (n - (k + 1)) (c - (k + 1))) W := by
  rw [run_sliceAt_slice (h := under94), run_slice_l (ht := under94) (h0 := by omega) (h1 := by omega), sz94]
  simp only [Result.andThen, sliced, fromAd, Option.map]
  rw [show ((k : Int) + 1).toNat = k + 1 by omega]
  by_cases hc : c = k + 1
  · rw [if_pos hc, if_pos hc]
  · rw [if_neg hc, if_neg hc]
    rw [Nat.mul_one]
    unfold Addr.add
    rw [if_neg (by omega)]
    simp
theorem run_mid (g n c k : Nat) (h0 : 1 ≤ k) (h1 : k ≤ n) (h2 : n ≤ c) (W : World) : (Instr.sliceAt 94 (.slice (some ⟨g, 0, none⟩) n c) (some (.int .i64 1)) (some (.int .i64 (k : Int))) none).run Tryz.prog W = .ok (.slice (some (fromAd g c 1)) (k - 1) (c - 1)) W := by
  rw [run_sliceAt_slice (h := under94), run_slice_lh (ht := under94) (h0 := by omega) (h1 := by omega) (h2 := by omega), sz94]
  simp only [Result.andThen, sliced, fromAd, Option.map]
  by_cases hc : c = 1
  · rw [if_pos hc, if_pos (by omega)]
    rfl
  · rw [if_neg hc, if_neg (by omega)]
    rfl
theorem words_at {W : World} {g c k n : Nat} {L : List Bs} (hc : L.length ≤ c) (hw : ∀ k (h : k < L.length), W.cell? ⟨g, k, none⟩ = some (.string ⟨L[k].toArray⟩)) (_ : 0 < k) : Words W (fromAd g c k) ((L.drop k).take n) := by
  intro j hj
  have hj2 : j < n ∧ k + j < L.length := by
    rw [List.length_take, List.length_drop] at hj
    omega
  have e : (fromAd g c k).add j = ⟨g, k + j, none⟩ := by
    unfold fromAd
    rw [if_neg (by omega)]
    unfold Addr.add
    by_cases h0 : j = 0
    · subst h0; rfl
    · rw [if_neg h0]
  rw [e, hw (k + j) hj2.2]
  congr 3
  simp
set_option maxHeartbeats 1000000 in
set_option maxRecDepth 100000 in
theorem rexit_bad (s : Bs) (hs : s.length ≤ 4194304) (w : World) (L : List Bs) (hc : cut 32 s = L) (h0 : Bs) (HH : Hid (∀ h, L[0]'h = h0)) (hbad : ¬ (h0 = kwOut ∧ 2 ≤ upTo L ∧ upTo L < L.length)) :
    Calls Tryz.prog 69 #[.string ⟨s.toArray⟩] w (ExitPostR none w) := by
  have hlen : L.length ≤ 4194305 ∧ 0 < L.length := by
    have := cut_len 32 s
    rw [hc] at this
    have : s.count 32 ≤ s.length := List.count_le_length
    omega
  have HPT : Hid (∀ x ∈ L, x.length ≤ 281474976710656) := Lib.hid fun x hx => by
    have h1 := cut_part 32 s x (by rw [hc]; exact hx)
    omega
  obtain ⟨hlen, hl0⟩ := hlen
  have HL0 := Lib.hid hl0
  have hsp := parts_any s hs (w.alloc (.cells #[.slice none 0 0, .slice none 0 0] 72))
  rw [hc] at hsp
  have HSP : Hid (Calls Tryz.prog 93 #[.string ⟨s.toArray⟩] (w.alloc (.cells #[.slice none 0 0, .slice none 0 0] 72)) (AllPost L (w.alloc (.cells #[.slice none 0 0, .slice none 0 0] 72)))) := Lib.hid (hsp.mono (by rintro e w' ⟨v, rfl, k⟩; exact all_of hl0 k))
  have HSZ0 := Lib.hid (show (w.alloc (.cells #[.slice none 0 0, .slice none 0 0] 72)).heap.size = w.heap.size + 1 by simp)
  have HW0 : Hid (Below w.heap.size w (w.alloc (.cells #[.slice none 0 0, .slice none 0 0] 72))) := Lib.hid ((Below.refl _ _).alloc (Nat.le_refl _) _)
  have HBOX : Hid ((w.alloc (.cells #[.slice none 0 0, .slice none 0 0] 72)).heap[w.heap.size]? = some (.cells #[.slice none 0 0, .slice none 0 0] 72 (0, 0))) := Lib.hid (by have h5 := heap_alloc_new w (.cells #[.slice none 0 0, .slice none 0 0] 72); simpa using h5)
  clear hsp hc hs
  go_enter Tryz.func69, Tryz.ntmps69
  go_wp2_with (first | (go_at_call 93; refine HSP.out.mono ?_; rintro e w1 ⟨g, c, rfl, hcap, hw1, hb1⟩; have hN : w.heap.size < w1.heap.size := (by have h5 := hb1.size; have h6 := HSZ0.out; omega); have hno : ¬ w.heap.size = w1.heap.size := Nat.ne_of_lt hN; have HB1 := Lib.hid (HW0.out.trans (hb1.mono (by have h6 := HSZ0.out; omega))); have HW := Lib.hid hw1; have HCAP := Lib.hid hcap; have h7 := box2_facts ((hb1.block _ (by have h6 := HSZ0.out; omega)).trans HBOX.out); have Q := Lib.hid h7; have r0 := h7.1; have r1 := h7.2.1; have f0 := h7.2.2.1; have f1 := h7.2.2.2; have z0 : w1.cell? ⟨g, 0, none⟩ = some (.string ⟨h0.toArray⟩) := (hw1 0 HL0.out).trans (congrArg (fun (x : Bs) => some (Value.string ⟨x.toArray⟩)) (HH.out _)); clear hb1 hw1 hcap h7 HSZ0 HW0 HBOX))
  go_loopg [5] L.length (fun g v wr => ∃ k : Nat, k ≤ L.length ∧ g = L.length - k ∧ v = .int .i64 (k : Int) ∧ Hid (k ≤ upTo L) ∧ w1 = wr)
  case atStart => exact ⟨0, Nat.zero_le _, rfl, rfl, Nat.zero_le _, rfl⟩
  case round =>
    obtain ⟨k, hk, rfl, rfl, hu, rfl⟩ := hrel
    by_cases hlt : k < L.length
    · have q0 := HW.out k hlt
      by_cases hx : L[k] = [58]
      · have hu2 : upTo L = k := by
          have h5 := hu.out
          by_cases h6 : k < upTo L
          · obtain ⟨_, h7⟩ := upTo_at h6
            exact absurd hx h7
          · omega
        rw [hx] at q0
        rw [hu2] at hbad
        clear hu hu2 hx
        by_cases hk0 : h0 = kwOut
        · rw [hk0] at z0
          replace z0 : w1.cell? ⟨g, 0, none⟩ = some (.string ⟨#[111, 117, 116]⟩) := z0
          by_cases hk2 : k < 2
          · have hk2' : (k : Int) < 2 := by omega
            go_wp2
            (try simp only [Exit.inBlock, Exit.then])
            refine bodyPost_ret (v := .tuple #[.agg #[.slice none 0 0, .slice none 0 0], .bool false]) ?_ rfl ⟨?_, none, 0, 0, none, 0, 0, rfl⟩
            · rw [results_cell_tmp rfl]
              go_simp
            · have hw := HB1.out; repeat (first | exact hw | refine Below.drew ?_ | refine below_drewN ?_ _ | refine Below.alloc ?_ (by first | omega | (simp; omega)) _ | refine Below.setCell ?_ (by simp) _)
          · exact absurd ⟨hk0, by omega, by omega⟩ hbad
        · have hne : (h0 == [111, 117, 116]) = false := by
            rw [beq_eq_false_iff_ne]
            exact fun e => hk0 e
          clear hk0
          go_wp2
          (try simp only [Exit.inBlock, Exit.then])
          refine bodyPost_ret (v := .tuple #[.agg #[.slice none 0 0, .slice none 0 0], .bool false]) ?_ rfl ⟨?_, none, 0, 0, none, 0, 0, rfl⟩
          · rw [results_cell_tmp rfl]
            go_simp
          · have hw := HB1.out; repeat (first | exact hw | refine Below.drew ?_ | refine below_drewN ?_ _ | refine Below.alloc ?_ (by first | omega | (simp; omega)) _ | refine Below.setCell ?_ (by simp) _)
      · have HU := Lib.hid (upTo_more hlt hu.out hx)
        have hne : (L[k] == [58]) = false := by
          rw [beq_eq_false_iff_ne]
          exact hx
        clear hx hu
        generalize L[k] = ln at q0 hne
        go_wp2
        go_roundg (L.length - (k + 1))
        case measure => omega
        case rel => exact ⟨k + 1, by omega, rfl, by go_num, HU.out, rfl⟩
    · have hkn : k = L.length := by omega
      by_cases hk0 : h0 = kwOut
      · rw [hk0] at z0
        replace z0 : w1.cell? ⟨g, 0, none⟩ = some (.string ⟨#[111, 117, 116]⟩) := z0
        by_cases hk2 : k < 2
        · have hk2' : (k : Int) < 2 := by omega
          go_wp2
          (try simp only [Exit.inBlock, Exit.then])
          refine bodyPost_ret (v := .tuple #[.agg #[.slice none 0 0, .slice none 0 0], .bool false]) ?_ rfl ⟨?_, none, 0, 0, none, 0, 0, rfl⟩
          · rw [results_cell_tmp rfl]
            go_simp
          · have hw := HB1.out; repeat (first | exact hw | refine Below.drew ?_ | refine below_drewN ?_ _ | refine Below.alloc ?_ (by first | omega | (simp; omega)) _ | refine Below.setCell ?_ (by simp) _)
        · have hk2' : ¬ (k : Int) < 2 := by omega
          obtain rfl : k = L.length := by omega
          go_wp2
          (try simp only [Exit.inBlock, Exit.then])
          refine bodyPost_ret (v := .tuple #[.agg #[.slice none 0 0, .slice none 0 0], .bool false]) ?_ rfl ⟨?_, none, 0, 0, none, 0, 0, rfl⟩
          · rw [results_cell_tmp rfl]
            go_simp
          · have hw := HB1.out; repeat (first | exact hw | refine Below.drew ?_ | refine below_drewN ?_ _ | refine Below.alloc ?_ (by first | omega | (simp; omega)) _ | refine Below.setCell ?_ (by simp) _)
      · have hne : (h0 == [111, 117, 116]) = false := by
          rw [beq_eq_false_iff_ne]
          exact fun e => hk0 e
        clear hk0
        go_wp2
        (try simp only [Exit.inBlock, Exit.then])
        refine bodyPost_ret (v := .tuple #[.agg #[.slice none 0 0, .slice none 0 0], .bool false]) ?_ rfl ⟨?_, none, 0, 0, none, 0, 0, rfl⟩
        · rw [results_cell_tmp rfl]
          go_simp
        · have hw := HB1.out; repeat (first | exact hw | refine Below.drew ?_ | refine below_drewN ?_ _ | refine Below.alloc ?_ (by first | omega | (simp; omega)) _ | refine Below.setCell ?_ (by simp) _)
set_option maxHeartbeats 1000000 in
set_option maxRecDepth 100000 in
theorem rexit_n (s : Bs) (hs : s.length ≤ 4194304) (w : World) (L : List Bs) (hc : cut 32 s = L) (u : Nat) (hu0 : 0 < u) (hul : u + 1 < L.length) (HH : Hid (∀ h, L[0]'h = kwOut)) (HEQ : Hid (L[u + 1]'hul = [58])) (HNE : Hid (∀ k (h : k < u + 1), (L[k]'(by omega) == [58]) = false)) (hv1 : allOf valOf (L.drop (u + 1 + 1)) = none) :
    Calls Tryz.prog 69 #[.string ⟨s.toArray⟩] w (ExitPostR none w) := by
  have hlen : L.length ≤ 4194305 ∧ 0 < L.length := by
    have := cut_len 32 s
    rw [hc] at this
    have : s.count 32 ≤ s.length := List.count_le_length
    omega
  have HPT : Hid (∀ x ∈ L, x.length ≤ 281474976710656) := Lib.hid fun x hx => by
    have h1 := cut_part 32 s x (by rw [hc]; exact hx)
    omega
  obtain ⟨hlen, hl0⟩ := hlen
  have HL0 := Lib.hid hl0
  have hsp := parts_any s hs (w.alloc (.cells #[.slice none 0 0, .slice none 0 0] 72))
  rw [hc] at hsp
  have HSP : Hid (Calls Tryz.prog 93 #[.string ⟨s.toArray⟩] (w.alloc (.cells #[.slice none 0 0, .slice none 0 0] 72)) (AllPost L (w.alloc (.cells #[.slice none 0 0, .slice none 0 0] 72)))) := Lib.hid (hsp.mono (by rintro e w' ⟨v, rfl, k⟩; exact all_of hl0 k))
  have HSZ0 := Lib.hid (show (w.alloc (.cells #[.slice none 0 0, .slice none 0 0] 72)).heap.size = w.heap.size + 1 by simp)
  have HW0 : Hid (Below w.heap.size w (w.alloc (.cells #[.slice none 0 0, .slice none 0 0] 72))) := Lib.hid ((Below.refl _ _).alloc (Nat.le_refl _) _)
  have HBOX : Hid ((w.alloc (.cells #[.slice none 0 0, .slice none 0 0] 72)).heap[w.heap.size]? = some (.cells #[.slice none 0 0, .slice none 0 0] 72 (0, 0))) := Lib.hid (by have h5 := heap_alloc_new w (.cells #[.slice none 0 0, .slice none 0 0] 72); simpa using h5)
  clear hsp hc hs
  go_enter Tryz.func69, Tryz.ntmps69
  go_wp2_with (first | (go_at_call 93; refine HSP.out.mono ?_; rintro e w1 ⟨g, c, rfl, hcap, hw1, hb1⟩; have hN : w.heap.size < w1.heap.size := (by have h5 := hb1.size; have h6 := HSZ0.out; omega); have hno : ¬ w.heap.size = w1.heap.size := Nat.ne_of_lt hN; have HB1 := Lib.hid (HW0.out.trans (hb1.mono (by have h6 := HSZ0.out; omega))); have HW := Lib.hid hw1; have HCAP := Lib.hid hcap; have h7 := box2_facts ((hb1.block _ (by have h6 := HSZ0.out; omega)).trans HBOX.out); have Q := Lib.hid h7; have r0 := h7.1; have r1 := h7.2.1; have f0 := h7.2.2.1; have f1 := h7.2.2.2; have z0 : w1.cell? ⟨g, 0, none⟩ = some (.string ⟨kwOut.toArray⟩) := (hw1 0 HL0.out).trans (congrArg (fun (x : Bs) => some (Value.string ⟨x.toArray⟩)) (HH.out _)); clear hb1 hw1 hcap h7 HSZ0 HW0 HBOX))
  go_loopg [5] (u + 1) (fun g v wr => ∃ k : Nat, k ≤ u + 1 ∧ g = u + 1 - k ∧ v = .int .i64 (k : Int) ∧ w1 = wr)
  case atStart => exact ⟨0, Nat.zero_le _, rfl, rfl, rfl⟩
  case round =>
    obtain ⟨k, hk, rfl, rfl, rfl⟩ := hrel
    by_cases hlt : k < u + 1
    · have hkl : k < L.length := by omega
      have q0 := HW.out k hkl
      have hne : (L[k] == [58]) = false := HNE.out k hlt
      generalize L[k] = ln at q0 hne
      go_wp2
      go_roundg (u + 1 - (k + 1))
      case measure => omega
      case rel => exact ⟨k + 1, by omega, rfl, by go_num, rfl⟩
    · obtain rfl : k = u + 1 := by omega
      have q0 := HW.out (u + 1) hul
      replace q0 : w1.cell? ⟨g, u + 1, none⟩ = some (.string ⟨#[58]⟩) := q0.trans (congrArg (fun (x : Bs) => some (Value.string ⟨x.toArray⟩)) HEQ.out)
      replace z0 : w1.cell? ⟨g, 0, none⟩ = some (.string ⟨#[111, 117, 116]⟩) := z0
      have z1 := HW.out 1 (by omega)
      have hsl := fun W => run_from g L.length c (u + 1) (by omega) W
      have HWF := Lib.hid (words_at (n := L.length - (u + 1 + 1)) (k := u + 1 + 1) HCAP.out HW.out (by omega))
      have HWM := Lib.hid (words_at (n := u) (k := 1) HCAP.out HW.out (by omega))
      have hsm := fun W => run_mid g L.length c (u + 1) (by omega) (by omega) HCAP.out W
      have hln : (L.drop (u + 1 + 1)).take (L.length - (u + 1 + 1)) = L.drop (u + 1 + 1) := List.take_of_length_le (by simp)
      rw [hln] at HWF
      have hl1 : (L.drop (u + 1 + 1)).length = L.length - (u + 1 + 1) := List.length_drop ..
      have hl2 : ((L.drop 1).take u).length = u := by simp; omega
      have hcv := fun W (hw : Words W (fromAd g c (u + 1 + 1)) (L.drop (u + 1 + 1))) => rwords_any (L.drop (u + 1 + 1)) (by omega) (fun x hx => HPT.out x (List.mem_of_mem_drop hx)) (fromAd g c (u + 1 + 1)) (c - (u + 1 + 1)) W hw
      have hcm := fun W (hw : Words W (fromAd g c 1) ((L.drop 1).take u)) => rwords_any ((L.drop 1).take u) (by omega) (fun x hx => HPT.out x (List.mem_of_mem_drop (List.mem_of_mem_take hx))) (fromAd g c 1) (c - 1) W hw
      rw [hl1, hv1] at hcv
      rw [hl2] at hcm
      unfold NumsPost at hcv hcm
      simp only at hcv
      have HCV := Lib.hid hcv; clear hcv
      have HCM := Lib.hid hcm; clear hcm
      have hb58 : ¬ ((u : Int) + 1 < 2) := by omega
      have hbn : (((u : Int) + 1) == (L.length : Int)) = false := by rw [beq_eq_false_iff_ne]; omega
      have e1 : (((u + 1 : Nat) : Int)) = (u : Int) + 1 := by omega
      have e3 : u + 1 - 1 = u := by omega
      rw [e3] at hsm
      simp only [e1] at hsl hsm
      generalize fromAd g c (u + 1 + 1) = ad1 at *
      generalize fromAd g c 1 = ad2 at *
      generalize hn1 : L.length - (u + 1 + 1) = n1 at *
      generalize hc1 : c - (u + 1 + 1) = c1 at *
      generalize hc2 : c - 1 = c2 at *
      clear hn1 hc1 hc2 hl1 hl2 hln e1 e3
      go_wp2_with (first | (go_at_call 95; have hX := HCV.out w1 HWF.out; refine hX.mono ?_; clear hX; rintro e w2 ⟨hb2, rfl⟩; have r0 := (hb2.cell (p := ⟨w.heap.size, 0, none⟩) hN).trans Q.out.1; have r1 := (hb2.cell (p := ⟨w.heap.size, 1, none⟩) hN).trans Q.out.2.1; have f0 := (hb2.frozen (p := ⟨w.heap.size, 0, none⟩) hN).trans Q.out.2.2.1; have f1 := (hb2.frozen (p := ⟨w.heap.size, 1, none⟩) hN).trans Q.out.2.2.2; have HB2 := Lib.hid (HB1.out.trans (hb2.mono (by omega))); clear hb2))
      (try simp only [Exit.inBlock, Exit.then])
      refine bodyPost_ret (v := .tuple #[.agg #[.slice none 0 0, .slice none 0 0], .bool false]) ?_ rfl ⟨?_, none, 0, 0, none, 0, 0, rfl⟩
      · rw [results_cell_tmp rfl]
        go_simp
      · have hw := HB2.out; repeat (first | exact hw | refine Below.drew ?_ | refine below_drewN ?_ _ | refine Below.alloc ?_ (by first | omega | (simp; omega)) _ | refine Below.setCell ?_ (by simp) _)
set_option maxHeartbeats 1000000 in
set_option maxRecDepth 100000 in
theorem rexit_all (s : Bs) (hs : s.length ≤ 4194304) (w : World) (L : List Bs) (hc : cut 32 s = L) (hul : 2 < L.length) (HH : Hid (∀ h, L[0]'h = kwOut)) (HEQ : Hid (L[2]'hul = [58])) (HNE : Hid (∀ k (h : k < 2), (L[k]'(by omega) == [58]) = false)) (ns : List Nat) (hv1 : allOf valOf (L.drop 3) = some ns) (HA : Hid (∀ h, L[1]'h = kwAll)) :
    Calls Tryz.prog 69 #[.string ⟨s.toArray⟩] w (ExitPostR (some ([], ns.map Int.ofNat)) w) := by
  have hlen : L.length ≤ 4194305 ∧ 0 < L.length := by
    have := cut_len 32 s
    rw [hc] at this
    have : s.count 32 ≤ s.length := List.count_le_length
    omega
  have HPT : Hid (∀ x ∈ L, x.length ≤ 281474976710656) := Lib.hid fun x hx => by
    have h1 := cut_part 32 s x (by rw [hc]; exact hx)
    omega
  obtain ⟨hlen, hl0⟩ := hlen
  have HL0 := Lib.hid hl0
  have hsp := parts_any s hs (w.alloc (.cells #[.slice none 0 0, .slice none 0 0] 72))
  rw [hc] at hsp
  have HSP : Hid (Calls Tryz.prog 93 #[.string ⟨s.toArray⟩] (w.alloc (.cells #[.slice none 0 0, .slice none 0 0] 72)) (AllPost L (w.alloc (.cells #[.slice none 0 0, .slice none 0 0] 72)))) := Lib.hid (hsp.mono (by rintro e w' ⟨v, rfl, k⟩; exact all_of hl0 k))
  have HSZ0 := Lib.hid (show (w.alloc (.cells #[.slice none 0 0, .slice none 0 0] 72)).heap.size = w.heap.size + 1 by simp)
  have HW0 : Hid (Below w.heap.size w (w.alloc (.cells #[.slice none 0 0, .slice none 0 0] 72))) := Lib.hid ((Below.refl _ _).alloc (Nat.le_refl _) _)
  have HBOX : Hid ((w.alloc (.cells #[.slice none 0 0, .slice none 0 0] 72)).heap[w.heap.size]? = some (.cells #[.slice none 0 0, .slice none 0 0] 72 (0, 0))) := Lib.hid (by have h5 := heap_alloc_new w (.cells #[.slice none 0 0, .slice none 0 0] 72); simpa using h5)
  clear hsp hc hs
  go_enter Tryz.func69, Tryz.ntmps69
  go_wp2_with (first | (go_at_call 93; refine HSP.out.mono ?_; rintro e w1 ⟨g, c, rfl, hcap, hw1, hb1⟩; have hN : w.heap.size < w1.heap.size := (by have h5 := hb1.size; have h6 := HSZ0.out; omega); have hno : ¬ w.heap.size = w1.heap.size := Nat.ne_of_lt hN; have HB1 := Lib.hid (HW0.out.trans (hb1.mono (by have h6 := HSZ0.out; omega))); have HW := Lib.hid hw1; have HCAP := Lib.hid hcap; have h7 := box2_facts ((hb1.block _ (by have h6 := HSZ0.out; omega)).trans HBOX.out); have Q := Lib.hid h7; have r0 := h7.1; have r1 := h7.2.1; have f0 := h7.2.2.1; have f1 := h7.2.2.2; have z0 : w1.cell? ⟨g, 0, none⟩ = some (.string ⟨kwOut.toArray⟩) := (hw1 0 HL0.out).trans (congrArg (fun (x : Bs) => some (Value.string ⟨x.toArray⟩)) (HH.out _)); clear hb1 hw1 hcap h7 HSZ0 HW0 HBOX))
  go_loopg [5] 2 (fun g v wr => ∃ k : Nat, k ≤ 2 ∧ g = 2 - k ∧ v = .int .i64 (k : Int) ∧ w1 = wr)
  case atStart => exact ⟨0, Nat.zero_le _, rfl, rfl, rfl⟩
  case round =>
    obtain ⟨k, hk, rfl, rfl, rfl⟩ := hrel
    by_cases hlt : k < 2
    · have hkl : k < L.length := by omega
      have q0 := HW.out k hkl
      have hne : (L[k] == [58]) = false := HNE.out k hlt
      generalize L[k] = ln at q0 hne
      go_wp2
      go_roundg (2 - (k + 1))
      case measure => omega
      case rel => exact ⟨k + 1, by omega, rfl, by go_num, rfl⟩
    · obtain rfl : k = 2 := by omega
      have q0 := HW.out 2 hul
      replace q0 : w1.cell? ⟨g, 2, none⟩ = some (.string ⟨#[58]⟩) := q0.trans (congrArg (fun (x : Bs) => some (Value.string ⟨x.toArray⟩)) HEQ.out)
      replace z0 : w1.cell? ⟨g, 0, none⟩ = some (.string ⟨#[111, 117, 116]⟩) := z0
      have z1 := HW.out 1 (by omega)
      have hsl := fun W => run_from g L.length c 2 (by omega) W
      have HWF := Lib.hid (words_at (n := L.length - (3)) (k := 3) HCAP.out HW.out (by omega))
      have HWM := Lib.hid (words_at (n := 1) (k := 1) HCAP.out HW.out (by omega))
      have hsm := fun W => run_mid g L.length c 2 (by omega) (by omega) HCAP.out W
      have hln : (L.drop (3)).take (L.length - (3)) = L.drop (3) := List.take_of_length_le (by simp)
      rw [hln] at HWF
      have hl1 : (L.drop (3)).length = L.length - (3) := List.length_drop ..
      have hl2 : ((L.drop 1).take 1).length = 1 := by simp; omega
      have hcv := fun W (hw : Words W (fromAd g c (3)) (L.drop (3))) => rwords_any (L.drop (3)) (by omega) (fun x hx => HPT.out x (List.mem_of_mem_drop hx)) (fromAd g c (3)) (c - (3)) W hw
      have hcm := fun W (hw : Words W (fromAd g c 1) ((L.drop 1).take 1)) => rwords_any ((L.drop 1).take 1) (by omega) (fun x hx => HPT.out x (List.mem_of_mem_drop (List.mem_of_mem_take hx))) (fromAd g c 1) (c - 1) W hw
      rw [hl1, hv1] at hcv
      rw [hl2] at hcm
      unfold NumsPost at hcv hcm
      simp only at hcv
      have HCV := Lib.hid hcv; clear hcv
      have HCM := Lib.hid hcm; clear hcm
      have hb58 : ¬ ((2 : Int) < 2) := by omega
      have hbn : ((2 : Int) == (L.length : Int)) = false := by rw [beq_eq_false_iff_ne]; omega
      have e1 : ((2 : Nat) : Int) = 2 := rfl
      have e3 : 2 - 1 = 1 := by omega
      rw [e3] at hsm
      simp only [e1] at hsl hsm
      simp only [show ((2 : Int) + 1) = 3 from rfl] at hsl
      generalize fromAd g c (3) = ad1 at *
      generalize fromAd g c 1 = ad2 at *
      generalize hn1 : L.length - (3) = n1 at *
      generalize hc1 : c - (3) = c1 at *
      generalize hc2 : c - 1 = c2 at *
      clear hn1 hc1 hc2 hl1 hl2 hln e1 e3
      replace z1 : w1.cell? ⟨g, 1, none⟩ = some (.string ⟨#[97, 108, 108]⟩) := z1.trans (congrArg (fun (x : Bs) => some (Value.string ⟨x.toArray⟩)) (HA.out _))
      go_wp2_with (first | (go_at_call 95; have hX := HCV.out w1 HWF.out; refine hX.mono ?_; clear hX; rintro e w2 ⟨hb2, v, rfl, hown⟩; have r0 := (hb2.cell (p := ⟨w.heap.size, 0, none⟩) hN).trans Q.out.1; have r1 := (hb2.cell (p := ⟨w.heap.size, 1, none⟩) hN).trans Q.out.2.1; have f0 := (hb2.frozen (p := ⟨w.heap.size, 0, none⟩) hN).trans Q.out.2.2.1; have f1 := (hb2.frozen (p := ⟨w.heap.size, 1, none⟩) hN).trans Q.out.2.2.2; have HB2 := Lib.hid (HB1.out.trans (hb2.mono (by omega))); obtain ⟨VA, vc, rfl, _⟩ := own_reads hown; have HO := Lib.hid hown; clear hown; have hn2 := hb2.size; replace z1 := (hb2.cell (World.block_lt_of_cell? _ _ z1)).trans z1; clear hb2))
      (try simp only [Exit.inBlock, Exit.then])
      refine bodyPost_ret (v := .tuple #[.agg #[.slice none 0 0, .slice VA ns.length vc], .bool true]) ?_ rfl ⟨?_, none, 0, VA, vc, by simp, World.ownsRow_nil _ _ _ _, ?_⟩
      · rw [results_cell_tmp rfl]
        go_simp
      · have hw := HB2.out; repeat (first | exact hw | refine Below.drew ?_ | refine below_drewN ?_ _ | refine Below.setCell ?_ (by simp) _)
      · rw [List.length_map]
        refine own_lower ?_ (Nat.le_of_lt hN)
        repeat (first | exact HO.out | refine own_set ?_ hN _)
set_option maxHeartbeats 1000000 in
set_option maxRecDepth 100000 in
theorem rexit_tn1 (s : Bs) (hs : s.length ≤ 4194304) (w : World) (L : List Bs) (hc : cut 32 s = L) (hul : 2 < L.length) (HH : Hid (∀ h, L[0]'h = kwOut)) (HEQ : Hid (L[2]'hul = [58])) (HNE : Hid (∀ k (h : k < 2), (L[k]'(by omega) == [58]) = false)) (ns : List Nat) (hv1 : allOf valOf (L.drop 3) = some ns) (hall : ¬ ∀ h, L[1]'h = kwAll) (hv2 : allOf valOf ((L.drop 1).take 1) = none) :
    Calls Tryz.prog 69 #[.string ⟨s.toArray⟩] w (ExitPostR none w) := by
  have hlen : L.length ≤ 4194305 ∧ 0 < L.length := by
    have := cut_len 32 s
    rw [hc] at this
    have : s.count 32 ≤ s.length := List.count_le_length
    omega
  have HPT : Hid (∀ x ∈ L, x.length ≤ 281474976710656) := Lib.hid fun x hx => by
    have h1 := cut_part 32 s x (by rw [hc]; exact hx)
    omega
  obtain ⟨hlen, hl0⟩ := hlen
  have HL0 := Lib.hid hl0
  have hsp := parts_any s hs (w.alloc (.cells #[.slice none 0 0, .slice none 0 0] 72))
  rw [hc] at hsp
  have HSP : Hid (Calls Tryz.prog 93 #[.string ⟨s.toArray⟩] (w.alloc (.cells #[.slice none 0 0, .slice none 0 0] 72)) (AllPost L (w.alloc (.cells #[.slice none 0 0, .slice none 0 0] 72)))) := Lib.hid (hsp.mono (by rintro e w' ⟨v, rfl, k⟩; exact all_of hl0 k))
  have HSZ0 := Lib.hid (show (w.alloc (.cells #[.slice none 0 0, .slice none 0 0] 72)).heap.size = w.heap.size + 1 by simp)
  have HW0 : Hid (Below w.heap.size w (w.alloc (.cells #[.slice none 0 0, .slice none 0 0] 72))) := Lib.hid ((Below.refl _ _).alloc (Nat.le_refl _) _)
  have HBOX : Hid ((w.alloc (.cells #[.slice none 0 0, .slice none 0 0] 72)).heap[w.heap.size]? = some (.cells #[.slice none 0 0, .slice none 0 0] 72 (0, 0))) := Lib.hid (by have h5 := heap_alloc_new w (.cells #[.slice none 0 0, .slice none 0 0] 72); simpa using h5)
  clear hsp hc hs
  go_enter Tryz.func69, Tryz.ntmps69
  go_wp2_with (first | (go_at_call 93; refine HSP.out.mono ?_; rintro e w1 ⟨g, c, rfl, hcap, hw1, hb1⟩; have hN : w.heap.size < w1.heap.size := (by have h5 := hb1.size; have h6 := HSZ0.out; omega); have hno : ¬ w.heap.size = w1.heap.size := Nat.ne_of_lt hN; have HB1 := Lib.hid (HW0.out.trans (hb1.mono (by have h6 := HSZ0.out; omega))); have HW := Lib.hid hw1; have HCAP := Lib.hid hcap; have h7 := box2_facts ((hb1.block _ (by have h6 := HSZ0.out; omega)).trans HBOX.out); have Q := Lib.hid h7; have r0 := h7.1; have r1 := h7.2.1; have f0 := h7.2.2.1; have f1 := h7.2.2.2; have z0 : w1.cell? ⟨g, 0, none⟩ = some (.string ⟨kwOut.toArray⟩) := (hw1 0 HL0.out).trans (congrArg (fun (x : Bs) => some (Value.string ⟨x.toArray⟩)) (HH.out _)); clear hb1 hw1 hcap h7 HSZ0 HW0 HBOX))
  go_loopg [5] 2 (fun g v wr => ∃ k : Nat, k ≤ 2 ∧ g = 2 - k ∧ v = .int .i64 (k : Int) ∧ w1 = wr)
  case atStart => exact ⟨0, Nat.zero_le _, rfl, rfl, rfl⟩
  case round =>
    obtain ⟨k, hk, rfl, rfl, rfl⟩ := hrel
    by_cases hlt : k < 2
    · have hkl : k < L.length := by omega
      have q0 := HW.out k hkl
      have hne : (L[k] == [58]) = false := HNE.out k hlt
      generalize L[k] = ln at q0 hne
      go_wp2
      go_roundg (2 - (k + 1))
      case measure => omega
      case rel => exact ⟨k + 1, by omega, rfl, by go_num, rfl⟩
    · obtain rfl : k = 2 := by omega
      have q0 := HW.out 2 hul
      replace q0 : w1.cell? ⟨g, 2, none⟩ = some (.string ⟨#[58]⟩) := q0.trans (congrArg (fun (x : Bs) => some (Value.string ⟨x.toArray⟩)) HEQ.out)
      replace z0 : w1.cell? ⟨g, 0, none⟩ = some (.string ⟨#[111, 117, 116]⟩) := z0
      have z1 := HW.out 1 (by omega)
      have hsl := fun W => run_from g L.length c 2 (by omega) W
      have HWF := Lib.hid (words_at (n := L.length - (3)) (k := 3) HCAP.out HW.out (by omega))
      have HWM := Lib.hid (words_at (n := 1) (k := 1) HCAP.out HW.out (by omega))
      have hsm := fun W => run_mid g L.length c 2 (by omega) (by omega) HCAP.out W
      have hln : (L.drop (3)).take (L.length - (3)) = L.drop (3) := List.take_of_length_le (by simp)
      rw [hln] at HWF
      have hl1 : (L.drop (3)).length = L.length - (3) := List.length_drop ..
      have hl2 : ((L.drop 1).take 1).length = 1 := by simp; omega
      have hcv := fun W (hw : Words W (fromAd g c (3)) (L.drop (3))) => rwords_any (L.drop (3)) (by omega) (fun x hx => HPT.out x (List.mem_of_mem_drop hx)) (fromAd g c (3)) (c - (3)) W hw
      have hcm := fun W (hw : Words W (fromAd g c 1) ((L.drop 1).take 1)) => rwords_any ((L.drop 1).take 1) (by omega) (fun x hx => HPT.out x (List.mem_of_mem_drop (List.mem_of_mem_take hx))) (fromAd g c 1) (c - 1) W hw
      rw [hl1, hv1] at hcv
      rw [hl2, hv2] at hcm
      unfold NumsPost at hcv hcm
      simp only at hcv
      simp only at hcm
      have HCV := Lib.hid hcv; clear hcv
      have HCM := Lib.hid hcm; clear hcm
      have hb58 : ¬ ((2 : Int) < 2) := by omega
      have hbn : ((2 : Int) == (L.length : Int)) = false := by rw [beq_eq_false_iff_ne]; omega
      have e1 : ((2 : Nat) : Int) = 2 := rfl
      have e3 : 2 - 1 = 1 := by omega
      rw [e3] at hsm
      simp only [e1] at hsl hsm
      simp only [show ((2 : Int) + 1) = 3 from rfl] at hsl
      generalize fromAd g c (3) = ad1 at *
      generalize fromAd g c 1 = ad2 at *
      generalize hn1 : L.length - (3) = n1 at *
      generalize hc1 : c - (3) = c1 at *
      generalize hc2 : c - 1 = c2 at *
      clear hn1 hc1 hc2 hl1 hl2 hln e1 e3
      have hne1 : (L[1] == [97, 108, 108]) = false := by
        rw [beq_eq_false_iff_ne]
        exact fun e => hall fun _ => e
      generalize L[1] = l1 at z1 hne1
      go_wp2_with (first | (go_at_call 95; have hX := HCM.out w2 (HWM.out.below hb12); refine hX.mono ?_; clear hX; rintro e w3 ⟨hb3, rfl⟩; have r0 := (hb3.cell (p := ⟨w.heap.size, 0, none⟩) hN2).trans r0; have r1 := (hb3.cell (p := ⟨w.heap.size, 1, none⟩) hN2).trans r1; have f0 := (hb3.frozen (p := ⟨w.heap.size, 0, none⟩) hN2).trans f0; have f1 := (hb3.frozen (p := ⟨w.heap.size, 1, none⟩) hN2).trans f1; have HB3 := Lib.hid (HB2.out.trans (hb3.mono (Nat.le_of_lt hN2))); have HO3 := Lib.hid (own_below HO.out hb3); clear hb3) | (go_at_call 95; have hX := HCV.out w1 HWF.out; refine hX.mono ?_; clear hX; rintro e w2 ⟨hb2, v, rfl, hown⟩; have r0 := (hb2.cell (p := ⟨w.heap.size, 0, none⟩) hN).trans Q.out.1; have r1 := (hb2.cell (p := ⟨w.heap.size, 1, none⟩) hN).trans Q.out.2.1; have f0 := (hb2.frozen (p := ⟨w.heap.size, 0, none⟩) hN).trans Q.out.2.2.1; have f1 := (hb2.frozen (p := ⟨w.heap.size, 1, none⟩) hN).trans Q.out.2.2.2; have HB2 := Lib.hid (HB1.out.trans (hb2.mono (by omega))); obtain ⟨VA, vc, rfl, _⟩ := own_reads hown; have HO := Lib.hid hown; clear hown; have hn2 := hb2.size; have hb12 := hb2; have hN2 : w.heap.size < w2.heap.size := Nat.lt_of_lt_of_le hN hn2; replace z1 := (hb2.cell (World.block_lt_of_cell? _ _ z1)).trans z1; clear hb2))
      (try simp only [Exit.inBlock, Exit.then])
      refine bodyPost_ret (v := .tuple #[.agg #[.slice none 0 0, .slice VA ns.length vc], .bool false]) ?_ rfl ⟨?_, none, 0, 0, VA, _, vc, rfl⟩
      · rw [results_cell_tmp rfl]
        go_simp
      · have hw := HB3.out; repeat (first | exact hw | refine Below.drew ?_ | refine below_drewN ?_ _ | refine Below.alloc ?_ (by first | omega | (simp; omega)) _ | refine Below.setCell ?_ (by simp) _)
set_option maxHeartbeats 1000000 in
set_option maxRecDepth 100000 in
theorem rexit_tn2 (s : Bs) (hs : s.length ≤ 4194304) (w : World) (L : List Bs) (hc : cut 32 s = L) (u : Nat) (hu0 : 0 < u) (hul : u + 1 < L.length) (HH : Hid (∀ h, L[0]'h = kwOut)) (HEQ : Hid (L[u + 1]'hul = [58])) (HNE : Hid (∀ k (h : k < u + 1), (L[k]'(by omega) == [58]) = false)) (ns : List Nat) (hv1 : allOf valOf (L.drop (u + 1 + 1)) = some ns) (hu1 : ¬ u = 1) (hv2 : allOf valOf ((L.drop 1).take u) = none) :
    Calls Tryz.prog 69 #[.string ⟨s.toArray⟩] w (ExitPostR none w) := by
  have hlen : L.length ≤ 4194305 ∧ 0 < L.length := by
    have := cut_len 32 s
    rw [hc] at this
    have : s.count 32 ≤ s.length := List.count_le_length
    omega
  have HPT : Hid (∀ x ∈ L, x.length ≤ 281474976710656) := Lib.hid fun x hx => by
    have h1 := cut_part 32 s x (by rw [hc]; exact hx)
    omega
  obtain ⟨hlen, hl0⟩ := hlen
  have HL0 := Lib.hid hl0
  have hsp := parts_any s hs (w.alloc (.cells #[.slice none 0 0, .slice none 0 0] 72))
  rw [hc] at hsp
  have HSP : Hid (Calls Tryz.prog 93 #[.string ⟨s.toArray⟩] (w.alloc (.cells #[.slice none 0 0, .slice none 0 0] 72)) (AllPost L (w.alloc (.cells #[.slice none 0 0, .slice none 0 0] 72)))) := Lib.hid (hsp.mono (by rintro e w' ⟨v, rfl, k⟩; exact all_of hl0 k))
  have HSZ0 := Lib.hid (show (w.alloc (.cells #[.slice none 0 0, .slice none 0 0] 72)).heap.size = w.heap.size + 1 by simp)
  have HW0 : Hid (Below w.heap.size w (w.alloc (.cells #[.slice none 0 0, .slice none 0 0] 72))) := Lib.hid ((Below.refl _ _).alloc (Nat.le_refl _) _)
  have HBOX : Hid ((w.alloc (.cells #[.slice none 0 0, .slice none 0 0] 72)).heap[w.heap.size]? = some (.cells #[.slice none 0 0, .slice none 0 0] 72 (0, 0))) := Lib.hid (by have h5 := heap_alloc_new w (.cells #[.slice none 0 0, .slice none 0 0] 72); simpa using h5)
  clear hsp hc hs
  go_enter Tryz.func69, Tryz.ntmps69
  go_wp2_with (first | (go_at_call 93; refine HSP.out.mono ?_; rintro e w1 ⟨g, c, rfl, hcap, hw1, hb1⟩; have hN : w.heap.size < w1.heap.size := (by have h5 := hb1.size; have h6 := HSZ0.out; omega); have hno : ¬ w.heap.size = w1.heap.size := Nat.ne_of_lt hN; have HB1 := Lib.hid (HW0.out.trans (hb1.mono (by have h6 := HSZ0.out; omega))); have HW := Lib.hid hw1; have HCAP := Lib.hid hcap; have h7 := box2_facts ((hb1.block _ (by have h6 := HSZ0.out; omega)).trans HBOX.out); have Q := Lib.hid h7; have r0 := h7.1; have r1 := h7.2.1; have f0 := h7.2.2.1; have f1 := h7.2.2.2; have z0 : w1.cell? ⟨g, 0, none⟩ = some (.string ⟨kwOut.toArray⟩) := (hw1 0 HL0.out).trans (congrArg (fun (x : Bs) => some (Value.string ⟨x.toArray⟩)) (HH.out _)); clear hb1 hw1 hcap h7 HSZ0 HW0 HBOX))
  go_loopg [5] (u + 1) (fun g v wr => ∃ k : Nat, k ≤ u + 1 ∧ g = u + 1 - k ∧ v = .int .i64 (k : Int) ∧ w1 = wr)
  case atStart => exact ⟨0, Nat.zero_le _, rfl, rfl, rfl⟩
  case round =>
    obtain ⟨k, hk, rfl, rfl, rfl⟩ := hrel
    by_cases hlt : k < u + 1
    · have hkl : k < L.length := by omega
      have q0 := HW.out k hkl
      have hne : (L[k] == [58]) = false := HNE.out k hlt
      generalize L[k] = ln at q0 hne
      go_wp2
      go_roundg (u + 1 - (k + 1))
      case measure => omega
      case rel => exact ⟨k + 1, by omega, rfl, by go_num, rfl⟩
    · obtain rfl : k = u + 1 := by omega
      have q0 := HW.out (u + 1) hul
      replace q0 : w1.cell? ⟨g, u + 1, none⟩ = some (.string ⟨#[58]⟩) := q0.trans (congrArg (fun (x : Bs) => some (Value.string ⟨x.toArray⟩)) HEQ.out)
      replace z0 : w1.cell? ⟨g, 0, none⟩ = some (.string ⟨#[111, 117, 116]⟩) := z0
      have z1 := HW.out 1 (by omega)
      have hsl := fun W => run_from g L.length c (u + 1) (by omega) W
      have HWF := Lib.hid (words_at (n := L.length - (u + 1 + 1)) (k := u + 1 + 1) HCAP.out HW.out (by omega))
      have HWM := Lib.hid (words_at (n := u) (k := 1) HCAP.out HW.out (by omega))
      have hsm := fun W => run_mid g L.length c (u + 1) (by omega) (by omega) HCAP.out W
      have hln : (L.drop (u + 1 + 1)).take (L.length - (u + 1 + 1)) = L.drop (u + 1 + 1) := List.take_of_length_le (by simp)
      rw [hln] at HWF
      have hl1 : (L.drop (u + 1 + 1)).length = L.length - (u + 1 + 1) := List.length_drop ..
      have hl2 : ((L.drop 1).take u).length = u := by simp; omega
      have hcv := fun W (hw : Words W (fromAd g c (u + 1 + 1)) (L.drop (u + 1 + 1))) => rwords_any (L.drop (u + 1 + 1)) (by omega) (fun x hx => HPT.out x (List.mem_of_mem_drop hx)) (fromAd g c (u + 1 + 1)) (c - (u + 1 + 1)) W hw
      have hcm := fun W (hw : Words W (fromAd g c 1) ((L.drop 1).take u)) => rwords_any ((L.drop 1).take u) (by omega) (fun x hx => HPT.out x (List.mem_of_mem_drop (List.mem_of_mem_take hx))) (fromAd g c 1) (c - 1) W hw
      rw [hl1, hv1] at hcv
      rw [hl2, hv2] at hcm
      unfold NumsPost at hcv hcm
      simp only at hcv
      simp only at hcm
      have HCV := Lib.hid hcv; clear hcv
      have HCM := Lib.hid hcm; clear hcm
      have hb58 : ¬ ((u : Int) + 1 < 2) := by omega
      have hbn : (((u : Int) + 1) == (L.length : Int)) = false := by rw [beq_eq_false_iff_ne]; omega
      have e1 : (((u + 1 : Nat) : Int)) = (u : Int) + 1 := by omega
      have e3 : u + 1 - 1 = u := by omega
      rw [e3] at hsm
      simp only [e1] at hsl hsm
      generalize fromAd g c (u + 1 + 1) = ad1 at *
      generalize fromAd g c 1 = ad2 at *
      generalize hn1 : L.length - (u + 1 + 1) = n1 at *
      generalize hc1 : c - (u + 1 + 1) = c1 at *
      generalize hc2 : c - 1 = c2 at *
      clear hn1 hc1 hc2 hl1 hl2 hln e1 e3
      have hul2 : ((u : Int) + 1 == 2) = false := by rw [beq_eq_false_iff_ne]; omega
      go_wp2_with (first | (go_at_call 95; have hX := HCM.out w2 (HWM.out.below hb12); refine hX.mono ?_; clear hX; rintro e w3 ⟨hb3, rfl⟩; have r0 := (hb3.cell (p := ⟨w.heap.size, 0, none⟩) hN2).trans r0; have r1 := (hb3.cell (p := ⟨w.heap.size, 1, none⟩) hN2).trans r1; have f0 := (hb3.frozen (p := ⟨w.heap.size, 0, none⟩) hN2).trans f0; have f1 := (hb3.frozen (p := ⟨w.heap.size, 1, none⟩) hN2).trans f1; have HB3 := Lib.hid (HB2.out.trans (hb3.mono (Nat.le_of_lt hN2))); have HO3 := Lib.hid (own_below HO.out hb3); clear hb3) | (go_at_call 95; have hX := HCV.out w1 HWF.out; refine hX.mono ?_; clear hX; rintro e w2 ⟨hb2, v, rfl, hown⟩; have r0 := (hb2.cell (p := ⟨w.heap.size, 0, none⟩) hN).trans Q.out.1; have r1 := (hb2.cell (p := ⟨w.heap.size, 1, none⟩) hN).trans Q.out.2.1; have f0 := (hb2.frozen (p := ⟨w.heap.size, 0, none⟩) hN).trans Q.out.2.2.1; have f1 := (hb2.frozen (p := ⟨w.heap.size, 1, none⟩) hN).trans Q.out.2.2.2; have HB2 := Lib.hid (HB1.out.trans (hb2.mono (by omega))); obtain ⟨VA, vc, rfl, _⟩ := own_reads hown; have HO := Lib.hid hown; clear hown; have hn2 := hb2.size; have hb12 := hb2; have hN2 : w.heap.size < w2.heap.size := Nat.lt_of_lt_of_le hN hn2; replace z1 := (hb2.cell (World.block_lt_of_cell? _ _ z1)).trans z1; clear hb2))
      (try simp only [Exit.inBlock, Exit.then])
      refine bodyPost_ret (v := .tuple #[.agg #[.slice none 0 0, .slice VA ns.length vc], .bool false]) ?_ rfl ⟨?_, none, 0, 0, VA, _, vc, rfl⟩
      · rw [results_cell_tmp rfl]
        go_simp
      · have hw := HB3.out; repeat (first | exact hw | refine Below.drew ?_ | refine below_drewN ?_ _ | refine Below.alloc ?_ (by first | omega | (simp; omega)) _ | refine Below.setCell ?_ (by simp) _)
set_option maxHeartbeats 1000000 in
set_option maxRecDepth 100000 in
theorem rexit_ts1 (s : Bs) (hs : s.length ≤ 4194304) (w : World) (L : List Bs) (hc : cut 32 s = L) (hul : 2 < L.length) (HH : Hid (∀ h, L[0]'h = kwOut)) (HEQ : Hid (L[2]'hul = [58])) (HNE : Hid (∀ k (h : k < 2), (L[k]'(by omega) == [58]) = false)) (ns : List Nat) (hv1 : allOf valOf (L.drop 3) = some ns) (hall : ¬ ∀ h, L[1]'h = kwAll) (ts : List Nat) (hv2 : allOf valOf ((L.drop 1).take 1) = some ts) :
    Calls Tryz.prog 69 #[.string ⟨s.toArray⟩] w (ExitPostR (some (ts.map Int.ofNat, ns.map Int.ofNat)) w) := by
  have hlen : L.length ≤ 4194305 ∧ 0 < L.length := by
    have := cut_len 32 s
    rw [hc] at this
    have : s.count 32 ≤ s.length := List.count_le_length
    omega
  have HPT : Hid (∀ x ∈ L, x.length ≤ 281474976710656) := Lib.hid fun x hx => by
    have h1 := cut_part 32 s x (by rw [hc]; exact hx)
    omega
  obtain ⟨hlen, hl0⟩ := hlen
  have HL0 := Lib.hid hl0
  have hsp := parts_any s hs (w.alloc (.cells #[.slice none 0 0, .slice none 0 0] 72))
  rw [hc] at hsp
  have HSP : Hid (Calls Tryz.prog 93 #[.string ⟨s.toArray⟩] (w.alloc (.cells #[.slice none 0 0, .slice none 0 0] 72)) (AllPost L (w.alloc (.cells #[.slice none 0 0, .slice none 0 0] 72)))) := Lib.hid (hsp.mono (by rintro e w' ⟨v, rfl, k⟩; exact all_of hl0 k))
  have HSZ0 := Lib.hid (show (w.alloc (.cells #[.slice none 0 0, .slice none 0 0] 72)).heap.size = w.heap.size + 1 by simp)
  have HW0 : Hid (Below w.heap.size w (w.alloc (.cells #[.slice none 0 0, .slice none 0 0] 72))) := Lib.hid ((Below.refl _ _).alloc (Nat.le_refl _) _)
  have HBOX : Hid ((w.alloc (.cells #[.slice none 0 0, .slice none 0 0] 72)).heap[w.heap.size]? = some (.cells #[.slice none 0 0, .slice none 0 0] 72 (0, 0))) := Lib.hid (by have h5 := heap_alloc_new w (.cells #[.slice none 0 0, .slice none 0 0] 72); simpa using h5)
  clear hsp hc hs
  go_enter Tryz.func69, Tryz.ntmps69
  go_wp2_with (first | (go_at_call 93; refine HSP.out.mono ?_; rintro e w1 ⟨g, c, rfl, hcap, hw1, hb1⟩; have hN : w.heap.size < w1.heap.size := (by have h5 := hb1.size; have h6 := HSZ0.out; omega); have hno : ¬ w.heap.size = w1.heap.size := Nat.ne_of_lt hN; have HB1 := Lib.hid (HW0.out.trans (hb1.mono (by have h6 := HSZ0.out; omega))); have HW := Lib.hid hw1; have HCAP := Lib.hid hcap; have h7 := box2_facts ((hb1.block _ (by have h6 := HSZ0.out; omega)).trans HBOX.out); have Q := Lib.hid h7; have r0 := h7.1; have r1 := h7.2.1; have f0 := h7.2.2.1; have f1 := h7.2.2.2; have z0 : w1.cell? ⟨g, 0, none⟩ = some (.string ⟨kwOut.toArray⟩) := (hw1 0 HL0.out).trans (congrArg (fun (x : Bs) => some (Value.string ⟨x.toArray⟩)) (HH.out _)); clear hb1 hw1 hcap h7 HSZ0 HW0 HBOX))
  go_loopg [5] 2 (fun g v wr => ∃ k : Nat, k ≤ 2 ∧ g = 2 - k ∧ v = .int .i64 (k : Int) ∧ w1 = wr)
  case atStart => exact ⟨0, Nat.zero_le _, rfl, rfl, rfl⟩
  case round =>
    obtain ⟨k, hk, rfl, rfl, rfl⟩ := hrel
    by_cases hlt : k < 2
    · have hkl : k < L.length := by omega
      have q0 := HW.out k hkl
      have hne : (L[k] == [58]) = false := HNE.out k hlt
      generalize L[k] = ln at q0 hne
      go_wp2
      go_roundg (2 - (k + 1))
      case measure => omega
      case rel => exact ⟨k + 1, by omega, rfl, by go_num, rfl⟩
    · obtain rfl : k = 2 := by omega
      have q0 := HW.out 2 hul
      replace q0 : w1.cell? ⟨g, 2, none⟩ = some (.string ⟨#[58]⟩) := q0.trans (congrArg (fun (x : Bs) => some (Value.string ⟨x.toArray⟩)) HEQ.out)
      replace z0 : w1.cell? ⟨g, 0, none⟩ = some (.string ⟨#[111, 117, 116]⟩) := z0
      have z1 := HW.out 1 (by omega)
      have hsl := fun W => run_from g L.length c 2 (by omega) W
      have HWF := Lib.hid (words_at (n := L.length - (3)) (k := 3) HCAP.out HW.out (by omega))
      have HWM := Lib.hid (words_at (n := 1) (k := 1) HCAP.out HW.out (by omega))
      have hsm := fun W => run_mid g L.length c 2 (by omega) (by omega) HCAP.out W
      have hln : (L.drop (3)).take (L.length - (3)) = L.drop (3) := List.take_of_length_le (by simp)
      rw [hln] at HWF
      have hl1 : (L.drop (3)).length = L.length - (3) := List.length_drop ..
      have hl2 : ((L.drop 1).take 1).length = 1 := by simp; omega
      have hcv := fun W (hw : Words W (fromAd g c (3)) (L.drop (3))) => rwords_any (L.drop (3)) (by omega) (fun x hx => HPT.out x (List.mem_of_mem_drop hx)) (fromAd g c (3)) (c - (3)) W hw
      have hcm := fun W (hw : Words W (fromAd g c 1) ((L.drop 1).take 1)) => rwords_any ((L.drop 1).take 1) (by omega) (fun x hx => HPT.out x (List.mem_of_mem_drop (List.mem_of_mem_take hx))) (fromAd g c 1) (c - 1) W hw
      rw [hl1, hv1] at hcv
      rw [hl2, hv2] at hcm
      unfold NumsPost at hcv hcm
      simp only at hcv
      simp only at hcm
      have HCV := Lib.hid hcv; clear hcv
      have HCM := Lib.hid hcm; clear hcm
      have hb58 : ¬ ((2 : Int) < 2) := by omega
      have hbn : ((2 : Int) == (L.length : Int)) = false := by rw [beq_eq_false_iff_ne]; omega
      have e1 : ((2 : Nat) : Int) = 2 := rfl
      have e3 : 2 - 1 = 1 := by omega
      rw [e3] at hsm
      simp only [e1] at hsl hsm
      simp only [show ((2 : Int) + 1) = 3 from rfl] at hsl
      generalize fromAd g c (3) = ad1 at *
      generalize fromAd g c 1 = ad2 at *
      generalize hn1 : L.length - (3) = n1 at *
      generalize hc1 : c - (3) = c1 at *
      generalize hc2 : c - 1 = c2 at *
      clear hn1 hc1 hc2 hl1 hl2 hln e1 e3
      have hne1 : (L[1] == [97, 108, 108]) = false := by
        rw [beq_eq_false_iff_ne]
        exact fun e => hall fun _ => e
      generalize L[1] = l1 at z1 hne1
      go_wp2_with (first | (go_at_call 95; have hX := HCM.out w2 (HWM.out.below hb12); refine hX.mono ?_; clear hX; rintro e w3 ⟨hb3, v3, rfl, hown3⟩; have r0 := (hb3.cell (p := ⟨w.heap.size, 0, none⟩) hN2).trans r0; have r1 := (hb3.cell (p := ⟨w.heap.size, 1, none⟩) hN2).trans r1; have f0 := (hb3.frozen (p := ⟨w.heap.size, 0, none⟩) hN2).trans f0; have f1 := (hb3.frozen (p := ⟨w.heap.size, 1, none⟩) hN2).trans f1; have HB3 := Lib.hid (HB2.out.trans (hb3.mono (Nat.le_of_lt hN2))); have HO3 := Lib.hid (own_below HO.out hb3); obtain ⟨VB, vd, rfl, _⟩ := own_reads hown3; have HM := Lib.hid hown3; clear hown3; clear hb3) | (go_at_call 95; have hX := HCV.out w1 HWF.out; refine hX.mono ?_; clear hX; rintro e w2 ⟨hb2, v, rfl, hown⟩; have r0 := (hb2.cell (p := ⟨w.heap.size, 0, none⟩) hN).trans Q.out.1; have r1 := (hb2.cell (p := ⟨w.heap.size, 1, none⟩) hN).trans Q.out.2.1; have f0 := (hb2.frozen (p := ⟨w.heap.size, 0, none⟩) hN).trans Q.out.2.2.1; have f1 := (hb2.frozen (p := ⟨w.heap.size, 1, none⟩) hN).trans Q.out.2.2.2; have HB2 := Lib.hid (HB1.out.trans (hb2.mono (by omega))); obtain ⟨VA, vc, rfl, _⟩ := own_reads hown; have HO := Lib.hid hown; clear hown; have hn2 := hb2.size; have hb12 := hb2; have hN2 : w.heap.size < w2.heap.size := Nat.lt_of_lt_of_le hN hn2; replace z1 := (hb2.cell (World.block_lt_of_cell? _ _ z1)).trans z1; clear hb2))
      (try simp only [Exit.inBlock, Exit.then])
      refine bodyPost_ret (v := .tuple #[.agg #[.slice VB ts.length vd, .slice VA ns.length vc], .bool true]) ?_ rfl ⟨?_, VB, vd, VA, vc, by simp, ?_, ?_⟩
      · rw [results_cell_tmp rfl]
        go_simp
      · have hw := HB3.out; repeat (first | exact hw | refine Below.drew ?_ | refine below_drewN ?_ _ | refine Below.setCell ?_ (by simp) _)
      · rw [List.length_map]
        refine own_lower ?_ (Nat.le_of_lt hN2)
        repeat (first | exact HM.out | refine own_set ?_ hN2 _)
      · rw [List.length_map]
        refine own_lower ?_ (Nat.le_of_lt hN)
        repeat (first | exact HO3.out | refine own_set ?_ hN _)
set_option maxHeartbeats 1000000 in
set_option maxRecDepth 100000 in
theorem rexit_ts2 (s : Bs) (hs : s.length ≤ 4194304) (w : World) (L : List Bs) (hc : cut 32 s = L) (u : Nat) (hu0 : 0 < u) (hul : u + 1 < L.length) (HH : Hid (∀ h, L[0]'h = kwOut)) (HEQ : Hid (L[u + 1]'hul = [58])) (HNE : Hid (∀ k (h : k < u + 1), (L[k]'(by omega) == [58]) = false)) (ns : List Nat) (hv1 : allOf valOf (L.drop (u + 1 + 1)) = some ns) (hu1 : ¬ u = 1) (ts : List Nat) (hv2 : allOf valOf ((L.drop 1).take u) = some ts) :
    Calls Tryz.prog 69 #[.string ⟨s.toArray⟩] w (ExitPostR (some (ts.map Int.ofNat, ns.map Int.ofNat)) w) := by
  have hlen : L.length ≤ 4194305 ∧ 0 < L.length := by
    have := cut_len 32 s
    rw [hc] at this
    have : s.count 32 ≤ s.length := List.count_le_length
    omega
  have HPT : Hid (∀ x ∈ L, x.length ≤ 281474976710656) := Lib.hid fun x hx => by
    have h1 := cut_part 32 s x (by rw [hc]; exact hx)
    omega
  obtain ⟨hlen, hl0⟩ := hlen
  have HL0 := Lib.hid hl0
  have hsp := parts_any s hs (w.alloc (.cells #[.slice none 0 0, .slice none 0 0] 72))
  rw [hc] at hsp
  have HSP : Hid (Calls Tryz.prog 93 #[.string ⟨s.toArray⟩] (w.alloc (.cells #[.slice none 0 0, .slice none 0 0] 72)) (AllPost L (w.alloc (.cells #[.slice none 0 0, .slice none 0 0] 72)))) := Lib.hid (hsp.mono (by rintro e w' ⟨v, rfl, k⟩; exact all_of hl0 k))
  have HSZ0 := Lib.hid (show (w.alloc (.cells #[.slice none 0 0, .slice none 0 0] 72)).heap.size = w.heap.size + 1 by simp)
  have HW0 : Hid (Below w.heap.size w (w.alloc (.cells #[.slice none 0 0, .slice none 0 0] 72))) := Lib.hid ((Below.refl _ _).alloc (Nat.le_refl _) _)
  have HBOX : Hid ((w.alloc (.cells #[.slice none 0 0, .slice none 0 0] 72)).heap[w.heap.size]? = some (.cells #[.slice none 0 0, .slice none 0 0] 72 (0, 0))) := Lib.hid (by have h5 := heap_alloc_new w (.cells #[.slice none 0 0, .slice none 0 0] 72); simpa using h5)
  clear hsp hc hs
  go_enter Tryz.func69, Tryz.ntmps69
  go_wp2_with (first | (go_at_call 93; refine HSP.out.mono ?_; rintro e w1 ⟨g, c, rfl, hcap, hw1, hb1⟩; have hN : w.heap.size < w1.heap.size := (by have h5 := hb1.size; have h6 := HSZ0.out; omega); have hno : ¬ w.heap.size = w1.heap.size := Nat.ne_of_lt hN; have HB1 := Lib.hid (HW0.out.trans (hb1.mono (by have h6 := HSZ0.out; omega))); have HW := Lib.hid hw1; have HCAP := Lib.hid hcap; have h7 := box2_facts ((hb1.block _ (by have h6 := HSZ0.out; omega)).trans HBOX.out); have Q := Lib.hid h7; have r0 := h7.1; have r1 := h7.2.1; have f0 := h7.2.2.1; have f1 := h7.2.2.2; have z0 : w1.cell? ⟨g, 0, none⟩ = some (.string ⟨kwOut.toArray⟩) := (hw1 0 HL0.out).trans (congrArg (fun (x : Bs) => some (Value.string ⟨x.toArray⟩)) (HH.out _)); clear hb1 hw1 hcap h7 HSZ0 HW0 HBOX))
  go_loopg [5] (u + 1) (fun g v wr => ∃ k : Nat, k ≤ u + 1 ∧ g = u + 1 - k ∧ v = .int .i64 (k : Int) ∧ w1 = wr)
  case atStart => exact ⟨0, Nat.zero_le _, rfl, rfl, rfl⟩
  case round =>
    obtain ⟨k, hk, rfl, rfl, rfl⟩ := hrel
    by_cases hlt : k < u + 1
    · have hkl : k < L.length := by omega
      have q0 := HW.out k hkl
      have hne : (L[k] == [58]) = false := HNE.out k hlt
      generalize L[k] = ln at q0 hne
      go_wp2
      go_roundg (u + 1 - (k + 1))
      case measure => omega
      case rel => exact ⟨k + 1, by omega, rfl, by go_num, rfl⟩
    · obtain rfl : k = u + 1 := by omega
      have q0 := HW.out (u + 1) hul
      replace q0 : w1.cell? ⟨g, u + 1, none⟩ = some (.string ⟨#[58]⟩) := q0.trans (congrArg (fun (x : Bs) => some (Value.string ⟨x.toArray⟩)) HEQ.out)
      replace z0 : w1.cell? ⟨g, 0, none⟩ = some (.string ⟨#[111, 117, 116]⟩) := z0
      have z1 := HW.out 1 (by omega)
      have hsl := fun W => run_from g L.length c (u + 1) (by omega) W
      have HWF := Lib.hid (words_at (n := L.length - (u + 1 + 1)) (k := u + 1 + 1) HCAP.out HW.out (by omega))
      have HWM := Lib.hid (words_at (n := u) (k := 1) HCAP.out HW.out (by omega))
      have hsm := fun W => run_mid g L.length c (u + 1) (by omega) (by omega) HCAP.out W
      have hln : (L.drop (u + 1 + 1)).take (L.length - (u + 1 + 1)) = L.drop (u + 1 + 1) := List.take_of_length_le (by simp)
      rw [hln] at HWF
      have hl1 : (L.drop (u + 1 + 1)).length = L.length - (u + 1 + 1) := List.length_drop ..
      have hl2 : ((L.drop 1).take u).length = u := by simp; omega
      have hcv := fun W (hw : Words W (fromAd g c (u + 1 + 1)) (L.drop (u + 1 + 1))) => rwords_any (L.drop (u + 1 + 1)) (by omega) (fun x hx => HPT.out x (List.mem_of_mem_drop hx)) (fromAd g c (u + 1 + 1)) (c - (u + 1 + 1)) W hw
      have hcm := fun W (hw : Words W (fromAd g c 1) ((L.drop 1).take u)) => rwords_any ((L.drop 1).take u) (by omega) (fun x hx => HPT.out x (List.mem_of_mem_drop (List.mem_of_mem_take hx))) (fromAd g c 1) (c - 1) W hw
      rw [hl1, hv1] at hcv
      rw [hl2, hv2] at hcm
      unfold NumsPost at hcv hcm
      simp only at hcv
      simp only at hcm
      have HCV := Lib.hid hcv; clear hcv
      have HCM := Lib.hid hcm; clear hcm
      have hb58 : ¬ ((u : Int) + 1 < 2) := by omega
      have hbn : (((u : Int) + 1) == (L.length : Int)) = false := by rw [beq_eq_false_iff_ne]; omega
      have e1 : (((u + 1 : Nat) : Int)) = (u : Int) + 1 := by omega
      have e3 : u + 1 - 1 = u := by omega
      rw [e3] at hsm
      simp only [e1] at hsl hsm
      generalize fromAd g c (u + 1 + 1) = ad1 at *
      generalize fromAd g c 1 = ad2 at *
      generalize hn1 : L.length - (u + 1 + 1) = n1 at *
      generalize hc1 : c - (u + 1 + 1) = c1 at *
      generalize hc2 : c - 1 = c2 at *
      clear hn1 hc1 hc2 hl1 hl2 hln e1 e3
      have hul2 : ((u : Int) + 1 == 2) = false := by rw [beq_eq_false_iff_ne]; omega
      go_wp2_with (first | (go_at_call 95; have hX := HCM.out w2 (HWM.out.below hb12); refine hX.mono ?_; clear hX; rintro e w3 ⟨hb3, v3, rfl, hown3⟩; have r0 := (hb3.cell (p := ⟨w.heap.size, 0, none⟩) hN2).trans r0; have r1 := (hb3.cell (p := ⟨w.heap.size, 1, none⟩) hN2).trans r1; have f0 := (hb3.frozen (p := ⟨w.heap.size, 0, none⟩) hN2).trans f0; have f1 := (hb3.frozen (p := ⟨w.heap.size, 1, none⟩) hN2).trans f1; have HB3 := Lib.hid (HB2.out.trans (hb3.mono (Nat.le_of_lt hN2))); have HO3 := Lib.hid (own_below HO.out hb3); obtain ⟨VB, vd, rfl, _⟩ := own_reads hown3; have HM := Lib.hid hown3; clear hown3; clear hb3) | (go_at_call 95; have hX := HCV.out w1 HWF.out; refine hX.mono ?_; clear hX; rintro e w2 ⟨hb2, v, rfl, hown⟩; have r0 := (hb2.cell (p := ⟨w.heap.size, 0, none⟩) hN).trans Q.out.1; have r1 := (hb2.cell (p := ⟨w.heap.size, 1, none⟩) hN).trans Q.out.2.1; have f0 := (hb2.frozen (p := ⟨w.heap.size, 0, none⟩) hN).trans Q.out.2.2.1; have f1 := (hb2.frozen (p := ⟨w.heap.size, 1, none⟩) hN).trans Q.out.2.2.2; have HB2 := Lib.hid (HB1.out.trans (hb2.mono (by omega))); obtain ⟨VA, vc, rfl, _⟩ := own_reads hown; have HO := Lib.hid hown; clear hown; have hn2 := hb2.size; have hb12 := hb2; have hN2 : w.heap.size < w2.heap.size := Nat.lt_of_lt_of_le hN hn2; replace z1 := (hb2.cell (World.block_lt_of_cell? _ _ z1)).trans z1; clear hb2))
      (try simp only [Exit.inBlock, Exit.then])
      refine bodyPost_ret (v := .tuple #[.agg #[.slice VB ts.length vd, .slice VA ns.length vc], .bool true]) ?_ rfl ⟨?_, VB, vd, VA, vc, by simp, ?_, ?_⟩
      · rw [results_cell_tmp rfl]
        go_simp
      · have hw := HB3.out; repeat (first | exact hw | refine Below.drew ?_ | refine below_drewN ?_ _ | refine Below.setCell ?_ (by simp) _)
      · rw [List.length_map]
        refine own_lower ?_ (Nat.le_of_lt hN2)
        repeat (first | exact HM.out | refine own_set ?_ hN2 _)
      · rw [List.length_map]
        refine own_lower ?_ (Nat.le_of_lt hN)
        repeat (first | exact HO3.out | refine own_set ?_ hN _)
theorem rexitOf_any (s : Bs) (hs : s.length ≤ 4194304) (w : World) : Calls Tryz.prog 69 #[.string ⟨s.toArray⟩] w (ExitPostR (exitOf s) w) := by
  cases hc : cut 32 s with
  | nil => exact absurd hc (cut_ne 32 s)
  | cons h t =>
    rw [exitOf_cut hc]
    by_cases hg : h = kwOut ∧ upTo t ≠ 0 ∧ upTo t < t.length
    · rw [if_pos hg]
      obtain ⟨rfl, h0, hlt⟩ := hg
      have hul : upTo t + 1 < (kwOut :: t).length := by simpa using hlt
      have HH : Hid (∀ h, (kwOut :: t)[0]'h = kwOut) := Lib.hid fun _ => rfl
      have HEQ : Hid ((kwOut :: t)[upTo t + 1]'hul = [58]) := Lib.hid (upTo_here hlt)
      have HNE : Hid (∀ k (h : k < upTo t + 1), ((kwOut :: t)[k]'(by omega) == [58]) = false) := Lib.hid fun k hk => by
        cases k with
        | zero => rfl
        | succ j =>
          obtain ⟨h1, h2⟩ := upTo_at (show j < upTo t by omega)
          rw [beq_eq_false_iff_ne]
          exact h2
      have e1 : (kwOut :: t).drop (upTo t + 1 + 1) = t.drop (upTo t + 1) := rfl
      have e2 : ((kwOut :: t).drop 1).take (upTo t) = t.take (upTo t) := rfl
      cases hv1 : allOf valOf (t.drop (upTo t + 1)) with
      | none =>
        have hr := rexit_n s hs w _ hc (upTo t) (by omega) hul HH HEQ HNE (by rw [e1]; exact hv1)
        split <;> first | exact hr | simp_all
      | some ns =>
        by_cases h1 : upTo t = 1
        · have hul1 : 2 < (kwOut :: t).length := by rw [h1] at hul; exact hul
          have HEQ1 : Hid ((kwOut :: t)[2]'hul1 = [58]) := Lib.hid (by have h5 := upTo_here hlt; simp only [h1] at h5; exact h5)
          have HNE1 : Hid (∀ k (h : k < 2), ((kwOut :: t)[k]'(by omega) == [58]) = false) := Lib.hid fun k hk => HNE.out k (by omega)
          have hall : t.take 1 = [kwAll] ↔ ∀ h, (kwOut :: t)[1]'h = kwAll := by
            cases t with
            | nil => simp at hlt
            | cons a r => simp
          have hv3 : allOf valOf ((kwOut :: t).drop 3) = some ns := by rw [h1] at hv1; exact hv1
          by_cases ha : t.take 1 = [kwAll]
          · rw [h1, if_pos ha]
            exact rexit_all s hs w _ hc hul1 HH HEQ1 HNE1 ns hv3 (Lib.hid (hall.1 ha))
          · rw [h1, if_neg ha]
            cases hv2 : allOf valOf (t.take 1) with
            | none => exact rexit_tn1 s hs w _ hc hul1 HH HEQ1 HNE1 ns hv3 (fun h => ha (hall.2 h)) hv2
            | some ts => exact rexit_ts1 s hs w _ hc hul1 HH HEQ1 HNE1 ns hv3 (fun h => ha (hall.2 h)) ts hv2
        · have ha : ¬ t.take (upTo t) = [kwAll] := fun e => h1 (by
            have h5 := congrArg List.length e
            rw [List.length_take] at h5
            simp at h5
            omega)
          rw [if_neg ha]
          cases hv2 : allOf valOf (t.take (upTo t)) with
          | none => exact rexit_tn2 s hs w _ hc (upTo t) (by omega) hul HH HEQ HNE ns (by rw [e1]; exact hv1) h1 (by rw [e2]; exact hv2)
          | some ts => exact rexit_ts2 s hs w _ hc (upTo t) (by omega) hul HH HEQ HNE ns (by rw [e1]; exact hv1) h1 ts (by rw [e2]; exact hv2)
    · rw [if_neg hg]
      refine rexit_bad s hs w _ hc h (Lib.hid fun _ => rfl) (fun hb => hg ?_)
      obtain ⟨rfl, h2, h3⟩ := hb
      rw [upTo_cons (by decide)] at h2 h3
      simp only [List.length_cons] at h3
      exact ⟨rfl, by omega, by omega⟩
end Go.Proofs.YtmnbgamnbgdnnaaGreatDoor
