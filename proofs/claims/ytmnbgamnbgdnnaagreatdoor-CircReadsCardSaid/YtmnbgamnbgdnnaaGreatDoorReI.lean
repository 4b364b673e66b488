/- Contract of the reference's Read. (Printed by wip/tools/gen_rread3.py.) -/
import Derived.Test.YtmnbgamnbgdnnaaGreatDoorReH
import Derived.Test.YtmnbgamnbgdnnaaGreatDoorReE
namespace Go.Proofs.YtmnbgamnbgdnnaaGreatDoor
open Go.RowKit

set_option maxRecDepth 100000 in
theorem rread_p (p : Nat) (hp : p < 18446744073709551616) (hP : isP p = false) (t : Bs) (w : World) : Calls Tryz.prog 25 #[.int .u64 p, .string ⟨t.toArray⟩] w (ErrPost 0 2 w) := by
  have h := fun W => rIs_any p hp W
  rw [hP] at h
  have H := Lib.hid h; clear h hP
  go_enter Tryz.func25, Tryz.ntmps25
  go_wp2_with (go_at_call 39; refine (H.out _).mono ?_; rintro e w1 ⟨rfl, rfl⟩)
  (try simp only [Exit.inBlock, Exit.then])
  refine bodyPost_ret (v := .tuple #[.agg #[.slice none 0 0, .slice none 0 0, .slice none 0 0], .int .i64 0, .int .i64 2]) ?_ rfl ⟨rfl, ?_⟩
  · rw [results_cell_tmp2 rfl]
    go_simp
  · repeat (first | exact Below.refl _ _ | refine Below.alloc ?_ (by simp) _ | refine Below.setCell ?_ (by first | (simp; done) | (show w.heap.size ≤ w.heap.size + 1 + 1; omega)) _)
set_option maxRecDepth 100000 in
theorem rread_big (p : Nat) (hp : p < 18446744073709551616) (hP : isP p = true) (t : Bs) (ht : 4194304 < t.length) (w : World) : Calls Tryz.prog 25 #[.int .u64 p, .string ⟨t.toArray⟩] w (ErrPost 0 3 w) := by
  have h := fun W => rIs_any p hp W
  rw [hP] at h
  have H := Lib.hid h; clear h hP
  have hsz : (4194304 : Int) < ((⟨t.toArray⟩ : ByteArray).size : Int) := by show (4194304 : Int) < ((t.length : Nat) : Int); omega
  clear ht
  generalize (⟨t.toArray⟩ : ByteArray) = S at *
  go_enter Tryz.func25, Tryz.ntmps25
  go_wp2_with (go_at_call 39; refine (H.out _).mono ?_; rintro e w1 ⟨rfl, rfl⟩)
  (try simp only [Exit.inBlock, Exit.then])
  refine bodyPost_ret (v := .tuple #[.agg #[.slice none 0 0, .slice none 0 0, .slice none 0 0], .int .i64 0, .int .i64 3]) ?_ rfl ⟨rfl, ?_⟩
  · rw [results_cell_tmp2 rfl]
    go_simp
  · repeat (first | exact Below.refl _ _ | refine Below.alloc ?_ (by simp) _ | refine Below.setCell ?_ (by first | (simp; done) | (show w.heap.size ≤ w.heap.size + 1 + 1; omega)) _)
set_option maxHeartbeats 8000000 in
set_option maxRecDepth 100000 in
theorem rread_go (GA : ∀ (s : Bs), s.length ≤ 4194304 → ∀ w : World, Calls Tryz.prog 68 #[.string ⟨s.toArray⟩] w (GatePostR (gateOf s) w)) (p : Nat) (hp : p < 18446744073709551616) (hP : isP p = true) (t : Bs) (ht : t.length ≤ 4194304) (w : World) : Calls Tryz.prog 25 #[.int .u64 p, .string ⟨t.toArray⟩] w (ReadPost p t w) := by
  have h := fun W => rIs_any p hp W
  rw [hP] at h
  have H := Lib.hid h; clear h
  obtain ⟨m, hm⟩ : ∃ m, (cut 10 t).length = m + 1 := ⟨t.count 10, cut_len 10 t⟩
  have hmt : m ≤ 4194304 := by
    have := cut_len 10 t
    have : t.count 10 ≤ t.length := List.count_le_length
    omega
  have hls : (cut 10 t).dropLast.length = m := by rw [List.length_dropLast, hm]; rfl
  have hsp := lines_any t ht (w.alloc (.cells #[.slice none 0 0, .slice none 0 0, .slice none 0 0] 27))
  have hsz0 : (w.alloc (.cells #[.slice none 0 0, .slice none 0 0, .slice none 0 0] 27)).heap.size = w.heap.size + 1 := by simp
  have hW0 : Below w.heap.size w (w.alloc (.cells #[.slice none 0 0, .slice none 0 0, .slice none 0 0] 27)) := (Below.refl _ _).alloc (Nat.le_refl _) _
  have hbox : (w.alloc (.cells #[.slice none 0 0, .slice none 0 0, .slice none 0 0] 27)).heap[w.heap.size]? = some (.cells #[.slice none 0 0, .slice none 0 0, .slice none 0 0] 27 (0, 0)) := by have h5 := heap_alloc_new w (.cells #[.slice none 0 0, .slice none 0 0, .slice none 0 0] 27); simpa using h5
  have HBOX := Lib.hid hbox; clear hbox
  have HW0 := Lib.hid hW0; clear hW0
  have HSZ0 := Lib.hid hsz0; clear hsz0
  have hsz : ((⟨t.toArray⟩ : ByteArray).size : Int) ≤ 4194304 := by show ((t.length : Nat) : Int) ≤ 4194304; omega
  have HPT : Hid (∀ x ∈ (cut 10 t).dropLast, x.length ≤ 4194304) := Lib.hid fun x hx => by have := cut_part 10 t x (List.dropLast_subset _ hx); omega
  have HRD : Hid (readOf p t = match runL 0 ([], [], []) (cut 10 t).dropLast with
      | .inl i => (([], [], []), i, 4)
      | .inr L => if (cut 10 t).dropLast = [] ∨ (cut 10 t).getLastD [] ≠ [] then (([], [], []), (cut 10 t).dropLast.length, 4) else if checkL p L ≠ 0 then (([], [], []), 0, checkL p L) else (L, 0, 0)) := by
    unfold readOf
    rw [if_neg (by rw [hP]; simp), if_neg (by omega)]
    rfl
  generalize (cut 10 t).getLastD [] = rest at hsp HRD
  generalize (cut 10 t).dropLast = ls at *
  obtain rfl : ls.length = m := hls
  have hrunN : ∀ k (h : k < ls.length) (st : Lis), stepL k st (ls[k]'h) = none → runL k st (ls.drop k) = .inl k := fun k h st e => by
    rw [runL_at h st]
    simp only [e]
  have hrunS : ∀ k (h : k < ls.length) (st st' : Lis), stepL k st (ls[k]'h) = some st' → runL k st (ls.drop k) = runL (k + 1) st' (ls.drop (k + 1)) := fun k h st st' e => by
    rw [runL_at h st]
    simp only [e]
  have HRN := Lib.hid hrunN; clear hrunN
  have HRS := Lib.hid hrunS; clear hrunS
  have HSP := Lib.hid hsp; clear hsp
  clear ht hP hm
  generalize hS : (⟨t.toArray⟩ : ByteArray) = S at HSP hsz
  clear hS
  go_enter Tryz.func25, Tryz.ntmps25
  go_wp2_with (first | (go_at_call 39; refine (H.out _).mono ?_; rintro e w1 ⟨rfl, rfl⟩) | (go_at_call 66; refine HSP.out.mono ?_; rintro e w1 ⟨v, rfl, hb1, A, lc, rfl, hlc, hw1⟩; have hN : w.heap.size < w1.heap.size := (by have h5 := hb1.size; have h6 := HSZ0.out; omega); have HW2 := Lib.hid (HW0.out.trans (hb1.mono (by have h6 := HSZ0.out; omega))); have HWC := Lib.hid hw1; have h7 := box_facts ((hb1.block _ (by have h6 := HSZ0.out; omega)).trans HBOX.out); have R0 := Lib.hid h7.1; have R1 := Lib.hid h7.2.1; have R2 := Lib.hid h7.2.2.1; have F0 := Lib.hid h7.2.2.2.1; have F1 := Lib.hid h7.2.2.2.2.1; have F2 := Lib.hid h7.2.2.2.2.2; have hno : ¬ w.heap.size = w1.heap.size := Nat.ne_of_lt hN; clear hb1 hw1 h7 hlc HSZ0 HW0 HBOX))
  go_loopg [34] ls.length (fun g v wr => ∃ (k : Nat) (st : Lis) (xs : List Exi) (v1 v2 v3 : Value), k ≤ ls.length ∧ g = ls.length - k ∧ v = .int .i64 k ∧ Hid (runL 0 ([], [], []) ls = runL k st (ls.drop k)) ∧ st.2.1.length + xs.length ≤ k ∧ InvR w1.heap.size st xs v1 v2 v3 wr ∧ Below w1.heap.size w1 wr)
  case atStart => exact ⟨0, ([], [], []), [], .slice none 0 0, .slice none 0 0, .slice none 0 0, Nat.zero_le _, rfl, rfl, rfl, Nat.zero_le _, ⟨World.ownsRow_nil _ _ _ _, World.ownsRow_nil _ _ _ _, World.ownsRow_nil _ _ _ _, by simp, by have h5 := heap_alloc_new w1 (.cells #[.slice none 0 0, .slice none 0 0, .slice none 0 0] 27); simpa using h5, rfl, by simp⟩, (Below.refl _ _).alloc (by simp) _⟩
  case round =>
    obtain ⟨k, st, xs, v1, v2, v3, hk, rfl, rfl, hru, hcnt, hinv, hbel⟩ := hrel
    have HI := Lib.hid hinv; clear hinv
    have HB := Lib.hid hbel; clear hbel
    have hszr := HI.out.lt
    obtain ⟨SA0, sc0, rfl, _⟩ := own_reads HI.out.h1
    obtain ⟨GA0, gc0, rfl, _⟩ := own_reads HI.out.h2
    obtain ⟨EA0, ec0, rfl, _⟩ := own_reads HI.out.h3
    by_cases hlt : k < ls.length
    · obtain ⟨gA, rfl, q00⟩ := HWC.out k hlt
      have q0 := (HB.out.cell (World.block_lt_of_cell? _ _ q00)).trans q00
      have hln := HPT.out _ (List.getElem_mem hlt)
      have hstN := HRN.out k hlt st
      have hstS := HRS.out k hlt st
      clear q00
      generalize ls[k]'hlt = ln at q0 hln hstN hstS
      by_cases hk0 : k = 0
      · subst hk0
        have hcall := rslots_any ln hln wr
        cases hso : slotsOf ln with
        | none =>
          rw [hso] at hcall
          have HCL := Lib.hid hcall; clear hcall
          have HF : Hid (readOf p t = (([], [], []), 0, 4)) := Lib.hid (by rw [HRD.out, hru.out, hstN (by unfold stepL; rw [if_pos rfl, hso]; rfl)])
          clear hstN hstS hso hru hln
          go_wp2_with (first | (go_at_call 67; refine HCL.out.mono ?_; rintro e w2 ⟨hb2, A, n, c, rfl⟩; have hbx := box_facts (HI.out.below hb2).hb; have q1 : w2.cell? ⟨w1.heap.size, 0, none⟩ = _ := hbx.1; have q2 : w2.cell? ⟨w1.heap.size, 1, none⟩ = _ := hbx.2.1; have q3 : w2.cell? ⟨w1.heap.size, 2, none⟩ = _ := hbx.2.2.1; have q4 : w2.frozen? ⟨w1.heap.size, 0, none⟩ = _ := hbx.2.2.2.1; have q5 : w2.frozen? ⟨w1.heap.size, 1, none⟩ = _ := hbx.2.2.2.2.1; have q6 : w2.frozen? ⟨w1.heap.size, 2, none⟩ = _ := hbx.2.2.2.2.2; clear hbx; have HB2 := Lib.hid (HB.out.trans ((hb2).mono (Nat.le_of_lt hszr))); have r0 := (HB2.out.cell (p := ⟨w.heap.size, 0, none⟩) hN).trans R0.out; have r1 := (HB2.out.cell (p := ⟨w.heap.size, 1, none⟩) hN).trans R1.out; have r2 := (HB2.out.cell (p := ⟨w.heap.size, 2, none⟩) hN).trans R2.out; have f0 := (HB2.out.frozen (p := ⟨w.heap.size, 0, none⟩) hN).trans F0.out; have f1 := (HB2.out.frozen (p := ⟨w.heap.size, 1, none⟩) hN).trans F1.out; have f2 := (HB2.out.frozen (p := ⟨w.heap.size, 2, none⟩) hN).trans F2.out; clear hb2))
          (try simp only [Exit.inBlock, Exit.then])
          refine bodyPost_ret (v := .tuple #[.agg #[.slice none 0 0, .slice none 0 0, .slice none 0 0], .int .i64 ((0 : Nat) : Int), .int .i64 4]) ?_ rfl (err_read HF.out ⟨rfl, ?_⟩)
          · rw [results_cell_tmp2 rfl]
            go_simp
          · have hw := HW2.out.trans (HB2.out.mono (by omega)); repeat (first | exact hw | refine Below.drew ?_ | refine Below.alloc ?_ (by simp; omega) _ | refine Below.setCell ?_ (by first | (simp; done) | (simp only; omega)) _)
        | some l =>
          rw [hso] at hcall
          have HCL := Lib.hid hcall; clear hcall
          have HR := Lib.hid (hru.out.trans (hstS (l, st.2.1, st.2.2) (by unfold stepL; rw [if_pos rfl, hso]; rfl)))
          clear hstN hstS hso hru hln
          go_wp2_with (first | (go_at_call 67; refine HCL.out.mono ?_; rintro e w2 ⟨hb2, v, rfl, hown⟩; obtain ⟨SA1, sc1, rfl, _⟩ := own_reads hown; have hbx := box_facts (HI.out.below hb2).hb; have q1 : w2.cell? ⟨w1.heap.size, 0, none⟩ = _ := hbx.1; have q2 : w2.cell? ⟨w1.heap.size, 1, none⟩ = _ := hbx.2.1; have q3 : w2.cell? ⟨w1.heap.size, 2, none⟩ = _ := hbx.2.2.1; have q4 : w2.frozen? ⟨w1.heap.size, 0, none⟩ = _ := hbx.2.2.2.1; have q5 : w2.frozen? ⟨w1.heap.size, 1, none⟩ = _ := hbx.2.2.2.2.1; have q6 : w2.frozen? ⟨w1.heap.size, 2, none⟩ = _ := hbx.2.2.2.2.2; clear hbx; have HB2 := Lib.hid (HB.out.trans ((hb2).mono (Nat.le_of_lt hszr))); have r0 := (HB2.out.cell (p := ⟨w.heap.size, 0, none⟩) hN).trans R0.out; have r1 := (HB2.out.cell (p := ⟨w.heap.size, 1, none⟩) hN).trans R1.out; have r2 := (HB2.out.cell (p := ⟨w.heap.size, 2, none⟩) hN).trans R2.out; have f0 := (HB2.out.frozen (p := ⟨w.heap.size, 0, none⟩) hN).trans F0.out; have f1 := (HB2.out.frozen (p := ⟨w.heap.size, 1, none⟩) hN).trans F1.out; have f2 := (HB2.out.frozen (p := ⟨w.heap.size, 2, none⟩) hN).trans F2.out; have HI2 := Lib.hid ((HI.out.below hb2).slots (own_lower hown (by omega))); clear hb2 hown))
          go_roundg (ls.length - (0 + 1))
          case measure => omega
          case rel => exact ⟨0 + 1, _, xs, _, _, _, by omega, rfl, by go_num, HR.out, by simp only; omega, HI2.out, HB2.out.setCell (by simp) _⟩
      · have hk1 : ((k : Int) == 0) = false := by simp; omega
        have hgc := GA ln hln wr
        have hxc := fun W (_ : Below wr.heap.size wr W) => rexitOf_any ln hln W
        cases hgo : gateOf ln with
        | none =>
          rw [hgo] at hgc
          have HGC := Lib.hid hgc; clear hgc
          have hstep : stepL k st ln = (exitOf ln).map fun x => (st.1, st.2.1, st.2.2 ++ [x]) := by unfold stepL; rw [if_neg hk0, hgo, if_neg (by simp)]
          clear hgo
          cases hxo : exitOf ln with
          | none =>
            have HX : Hid (∀ W, Below wr.heap.size wr W → Calls Tryz.prog 69 #[.string ⟨ln.toArray⟩] W (ExitPostR none W)) := Lib.hid (fun W h => by have h5 := hxc W h; rw [hxo] at h5; exact h5)
            have HF : Hid (readOf p t = (([], [], []), k, 4)) := Lib.hid (by rw [HRD.out, hru.out, hstN (by rw [hstep, hxo]; rfl)])
            clear hstN hstS hxo hru hln hxc hstep
            go_wp2_with (first | (go_at_call 68; refine HGC.out.mono ?_; rintro e w2 ⟨hb2, ga, gb, gc, gd, rfl⟩; have hbx := box_facts (HI.out.below hb2).hb; have q1 : w2.cell? ⟨w1.heap.size, 0, none⟩ = _ := hbx.1; have q2 : w2.cell? ⟨w1.heap.size, 1, none⟩ = _ := hbx.2.1; have q3 : w2.cell? ⟨w1.heap.size, 2, none⟩ = _ := hbx.2.2.1; have q4 : w2.frozen? ⟨w1.heap.size, 0, none⟩ = _ := hbx.2.2.2.1; have q5 : w2.frozen? ⟨w1.heap.size, 1, none⟩ = _ := hbx.2.2.2.2.1; have q6 : w2.frozen? ⟨w1.heap.size, 2, none⟩ = _ := hbx.2.2.2.2.2; clear hbx; have HB2 := Lib.hid (HB.out.trans ((hb2).mono (Nat.le_of_lt hszr))); have r0 := (HB2.out.cell (p := ⟨w.heap.size, 0, none⟩) hN).trans R0.out; have f0 := (HB2.out.frozen (p := ⟨w.heap.size, 0, none⟩) hN).trans F0.out; have r1 := (HB2.out.cell (p := ⟨w.heap.size, 1, none⟩) hN).trans R1.out; have f1 := (HB2.out.frozen (p := ⟨w.heap.size, 1, none⟩) hN).trans F1.out; have r2 := (HB2.out.cell (p := ⟨w.heap.size, 2, none⟩) hN).trans R2.out; have f2 := (HB2.out.frozen (p := ⟨w.heap.size, 2, none⟩) hN).trans F2.out; have sz2 : w1.heap.size < w2.heap.size := (by have h5 := (HI.out.below hb2).lt; omega); have n0 : ¬ w.heap.size = w2.heap.size := (by omega); have n1 : ¬ w1.heap.size = w2.heap.size := (by omega); have n2 : w.heap.size < w2.heap.size := (by omega); have HGB2 := Lib.hid (hb2.alloc hb2.size (.cells #[.int .i64 ga, .int .i64 gb, .int .i64 gc, .int .u64 gd] 69)); clear hb2) | (go_at_call 69; refine (HX.out _ (HGB2.out)).mono ?_; rintro e w4 ⟨hb4, A, n, xc, D, m2, xd, rfl⟩; have hb24 := HGB2.out.trans (hb4.mono HGB2.out.size); clear q1 q2 q3 q4 q5 q6 r0 r1 r2 f0 f1 f2 sz2 n0 n1 n2 HB2; have hbx := box_facts (HI.out.below hb24).hb; have q1 : w4.cell? ⟨w1.heap.size, 0, none⟩ = _ := hbx.1; have q2 : w4.cell? ⟨w1.heap.size, 1, none⟩ = _ := hbx.2.1; have q3 : w4.cell? ⟨w1.heap.size, 2, none⟩ = _ := hbx.2.2.1; have q4 : w4.frozen? ⟨w1.heap.size, 0, none⟩ = _ := hbx.2.2.2.1; have q5 : w4.frozen? ⟨w1.heap.size, 1, none⟩ = _ := hbx.2.2.2.2.1; have q6 : w4.frozen? ⟨w1.heap.size, 2, none⟩ = _ := hbx.2.2.2.2.2; clear hbx; have HB2 := Lib.hid (HB.out.trans ((hb24).mono (Nat.le_of_lt hszr))); have r0 := (HB2.out.cell (p := ⟨w.heap.size, 0, none⟩) hN).trans R0.out; have f0 := (HB2.out.frozen (p := ⟨w.heap.size, 0, none⟩) hN).trans F0.out; have r1 := (HB2.out.cell (p := ⟨w.heap.size, 1, none⟩) hN).trans R1.out; have f1 := (HB2.out.frozen (p := ⟨w.heap.size, 1, none⟩) hN).trans F1.out; have r2 := (HB2.out.cell (p := ⟨w.heap.size, 2, none⟩) hN).trans R2.out; have f2 := (HB2.out.frozen (p := ⟨w.heap.size, 2, none⟩) hN).trans F2.out; have sz2 : w1.heap.size < w4.heap.size := (by have h5 := (HI.out.below hb24).lt; omega); have n0 : ¬ w.heap.size = w4.heap.size := (by omega); have n1 : ¬ w1.heap.size = w4.heap.size := (by omega); have n2 : w.heap.size < w4.heap.size := (by omega); clear hb4 hb24))
            (try simp only [Exit.inBlock, Exit.then])
            refine bodyPost_ret (v := .tuple #[.agg #[.slice none 0 0, .slice none 0 0, .slice none 0 0], .int .i64 (k : Int), .int .i64 4]) ?_ rfl (err_read HF.out ⟨rfl, ?_⟩)
            · rw [results_cell_tmp2 rfl]
              go_simp
            · have hw := HW2.out.trans (HB2.out.mono (by omega)); repeat (first | exact hw | refine Below.drew ?_ | refine Below.alloc ?_ (by first | (simp; done) | omega | (simp; omega)) _ | refine Below.setCell ?_ (by first | (simp; done) | (simp only; omega)) _)
          | some x =>
            have HX : Hid (∀ W, Below wr.heap.size wr W → Calls Tryz.prog 69 #[.string ⟨ln.toArray⟩] W (ExitPostR (some x) W)) := Lib.hid (fun W h => by have h5 := hxc W h; rw [hxo] at h5; exact h5)
            have HR := Lib.hid (hru.out.trans (hstS (st.1, st.2.1, st.2.2 ++ [x]) (by rw [hstep, hxo]; rfl)))
            clear hstN hstS hxo hru hln hxc hstep
            go_wp2_with (first | (go_at_call 68; refine HGC.out.mono ?_; rintro e w2 ⟨hb2, ga, gb, gc, gd, rfl⟩; have hbx := box_facts (HI.out.below hb2).hb; have q1 : w2.cell? ⟨w1.heap.size, 0, none⟩ = _ := hbx.1; have q2 : w2.cell? ⟨w1.heap.size, 1, none⟩ = _ := hbx.2.1; have q3 : w2.cell? ⟨w1.heap.size, 2, none⟩ = _ := hbx.2.2.1; have q4 : w2.frozen? ⟨w1.heap.size, 0, none⟩ = _ := hbx.2.2.2.1; have q5 : w2.frozen? ⟨w1.heap.size, 1, none⟩ = _ := hbx.2.2.2.2.1; have q6 : w2.frozen? ⟨w1.heap.size, 2, none⟩ = _ := hbx.2.2.2.2.2; clear hbx; have HB2 := Lib.hid (HB.out.trans ((hb2).mono (Nat.le_of_lt hszr))); have r0 := (HB2.out.cell (p := ⟨w.heap.size, 0, none⟩) hN).trans R0.out; have f0 := (HB2.out.frozen (p := ⟨w.heap.size, 0, none⟩) hN).trans F0.out; have r1 := (HB2.out.cell (p := ⟨w.heap.size, 1, none⟩) hN).trans R1.out; have f1 := (HB2.out.frozen (p := ⟨w.heap.size, 1, none⟩) hN).trans F1.out; have r2 := (HB2.out.cell (p := ⟨w.heap.size, 2, none⟩) hN).trans R2.out; have f2 := (HB2.out.frozen (p := ⟨w.heap.size, 2, none⟩) hN).trans F2.out; have sz2 : w1.heap.size < w2.heap.size := (by have h5 := (HI.out.below hb2).lt; omega); have n0 : ¬ w.heap.size = w2.heap.size := (by omega); have n1 : ¬ w1.heap.size = w2.heap.size := (by omega); have n2 : w.heap.size < w2.heap.size := (by omega); have HGB2 := Lib.hid (hb2.alloc hb2.size (.cells #[.int .i64 ga, .int .i64 gb, .int .i64 gc, .int .u64 gd] 69)); clear hb2) | (go_at_call 69; refine (HX.out _ (HGB2.out)).mono ?_; rintro e w4 ⟨hb4, A, xc, D, xd, rfl, hA, hD⟩; have hb24 := HGB2.out.trans (hb4.mono HGB2.out.size); clear q1 q2 q3 q4 q5 q6 r0 r1 r2 f0 f1 f2 sz2 n0 n1 n2 HB2; have hbx := box_facts (HI.out.below hb24).hb; have q1 : w4.cell? ⟨w1.heap.size, 0, none⟩ = _ := hbx.1; have q2 : w4.cell? ⟨w1.heap.size, 1, none⟩ = _ := hbx.2.1; have q3 : w4.cell? ⟨w1.heap.size, 2, none⟩ = _ := hbx.2.2.1; have q4 : w4.frozen? ⟨w1.heap.size, 0, none⟩ = _ := hbx.2.2.2.1; have q5 : w4.frozen? ⟨w1.heap.size, 1, none⟩ = _ := hbx.2.2.2.2.1; have q6 : w4.frozen? ⟨w1.heap.size, 2, none⟩ = _ := hbx.2.2.2.2.2; clear hbx; have HB2 := Lib.hid (HB.out.trans ((hb24).mono (Nat.le_of_lt hszr))); have r0 := (HB2.out.cell (p := ⟨w.heap.size, 0, none⟩) hN).trans R0.out; have f0 := (HB2.out.frozen (p := ⟨w.heap.size, 0, none⟩) hN).trans F0.out; have r1 := (HB2.out.cell (p := ⟨w.heap.size, 1, none⟩) hN).trans R1.out; have f1 := (HB2.out.frozen (p := ⟨w.heap.size, 1, none⟩) hN).trans F1.out; have r2 := (HB2.out.cell (p := ⟨w.heap.size, 2, none⟩) hN).trans R2.out; have f2 := (HB2.out.frozen (p := ⟨w.heap.size, 2, none⟩) hN).trans F2.out; have sz2 : w1.heap.size < w4.heap.size := (by have h5 := (HI.out.below hb24).lt; omega); have n0 : ¬ w.heap.size = w4.heap.size := (by omega); have n1 : ¬ w1.heap.size = w4.heap.size := (by omega); have n2 : w.heap.size < w4.heap.size := (by omega); have szg := HGB2.out.size; have HIX := Lib.hid ((HI.out.below hb24).below ((Below.refl _ _).alloc (Nat.le_refl _) (.cells #[.slice A x.1.length xc, .slice D x.2.length xd] 72))); have HXA := Lib.hid ((own_lower hA (show w1.heap.size + 1 ≤ _ by omega)).alloc (.cells #[.slice A x.1.length xc, .slice D x.2.length xd] 72)); have HXB := Lib.hid ((own_lower hD (show w1.heap.size + 1 ≤ _ by omega)).alloc (.cells #[.slice A x.1.length xc, .slice D x.2.length xd] 72)); clear hb4 hb24 hA hD) | (at_builtin; refine app_cells (w1.heap.size + 1) rfl _ _ 25 72 _ 2 48 rfl Tryz.underlying25 infoExi rfl (by decide) (by decide) (.slice EA0 xs.length ec0) xs.length _ [.slice A x.1.length xc, .slice D x.2.length xd] rfl _ rfl (by simp) rfl (by intro u hu; simp at hu; rcases hu with rfl | rfl <;> rfl) HIX.out.h3 (by have h5 := HIX.out.lt; omega) (by omega) ?_; intro v3 w3 hown3 hg3; obtain ⟨EA3, ec3, rfl, _⟩ := own_reads hown3; have hbx := box_facts ((hg3.block _ HIX.out.lt (own_past HIX.out.h3 (Nat.lt_succ_self _))).trans HIX.out.hb); have p1 : w3.cell? ⟨w1.heap.size, 2, none⟩ = _ := hbx.2.2.1; have p2 : w3.frozen? ⟨w1.heap.size, 2, none⟩ = _ := hbx.2.2.2.2.2; clear hbx; have HI3 := Lib.hid (HIX.out.exit (x := ⟨x.1, x.2, A, D, xc, xd⟩) HXA.out HXB.out hown3 hg3); have HB3 := Lib.hid ((HB2.out.alloc (by omega) (.cells #[.slice A x.1.length xc, .slice D x.2.length xd] 72)).grown hg3 (by have h5 := HIX.out.lt; omega) (fun q hq => by have h5 := (HIX.out.h3.lt q hq).1; omega)); clear hown3 hg3))
            go_roundg (ls.length - (k + 1))
            case measure => omega
            case rel => exact ⟨k + 1, _, xs ++ [(⟨x.1, x.2, A, D, xc, xd⟩ : Exi)], _, _, _, by omega, rfl, by go_num, HR.out, by simp; omega, HI3.out, HB3.out.setCell (by simp) _⟩
        | some g =>
          rw [hgo] at hgc
          have HGC := Lib.hid hgc; clear hgc
          by_cases hxs : xs = []
          · have HK := Lib.hid (gateOf_k hgo)
            have hst2 : st.2.2 = [] := by rw [← HI.out.hl, hxs]; rfl
            have HR := Lib.hid (hru.out.trans (hstS (st.1, st.2.1 ++ [g], st.2.2) (by unfold stepL; rw [if_neg hk0, hgo, if_pos ⟨rfl, hst2⟩]; rfl)))
            have hx0 : xs.length = 0 := by rw [hxs]; rfl
            clear hstN hstS hgo hru hln hxc hxs hst2
            go_wp2_with (first | (go_at_call 68; refine HGC.out.mono ?_; rintro e w2 ⟨hb2, rfl⟩; have hbx := box_facts (HI.out.below hb2).hb; have q1 : w2.cell? ⟨w1.heap.size, 0, none⟩ = _ := hbx.1; have q2 : w2.cell? ⟨w1.heap.size, 1, none⟩ = _ := hbx.2.1; have q3 : w2.cell? ⟨w1.heap.size, 2, none⟩ = _ := hbx.2.2.1; have q4 : w2.frozen? ⟨w1.heap.size, 0, none⟩ = _ := hbx.2.2.2.1; have q5 : w2.frozen? ⟨w1.heap.size, 1, none⟩ = _ := hbx.2.2.2.2.1; have q6 : w2.frozen? ⟨w1.heap.size, 2, none⟩ = _ := hbx.2.2.2.2.2; clear hbx; have HB2 := Lib.hid (HB.out.trans ((hb2).mono (Nat.le_of_lt hszr))); have r0 := (HB2.out.cell (p := ⟨w.heap.size, 0, none⟩) hN).trans R0.out; have f0 := (HB2.out.frozen (p := ⟨w.heap.size, 0, none⟩) hN).trans F0.out; have r1 := (HB2.out.cell (p := ⟨w.heap.size, 1, none⟩) hN).trans R1.out; have f1 := (HB2.out.frozen (p := ⟨w.heap.size, 1, none⟩) hN).trans F1.out; have r2 := (HB2.out.cell (p := ⟨w.heap.size, 2, none⟩) hN).trans R2.out; have f2 := (HB2.out.frozen (p := ⟨w.heap.size, 2, none⟩) hN).trans F2.out; have sz2 : w1.heap.size < w2.heap.size := (by have h5 := (HI.out.below hb2).lt; omega); have n0 : ¬ w.heap.size = w2.heap.size := (by omega); have n1 : ¬ w1.heap.size = w2.heap.size := (by omega); have n2 : w.heap.size < w2.heap.size := (by omega); rw [hx0] at q3; have HIG := Lib.hid ((HI.out.below hb2).below ((Below.refl _ _).alloc (Nat.le_refl _) (.cells #[.int .i64 g.1, .int .i64 g.2.1, .int .i64 g.2.2.1, .int .u64 g.2.2.2] 69))); clear hb2) | (at_builtin; refine app_cells (w1.heap.size + 1) rfl _ _ 24 69 _ 4 32 rfl Tryz.underlying24 infoGat rfl (by decide) (by decide) (.slice GA0 st.2.1.length gc0) st.2.1.length _ [.int .i64 g.1, .int .i64 g.2.1, .int .i64 g.2.2.1, .int .u64 g.2.2.2] rfl _ rfl (by simp) rfl (by intro u hu; simp at hu; rcases hu with rfl | rfl | rfl | rfl <;> rfl) HIG.out.h2 (by have h5 := HIG.out.lt; omega) (by omega) ?_; intro v3 w3 hown3 hg3; obtain ⟨GA3, gc3, rfl, _⟩ := own_reads hown3; have hbx := box_facts ((hg3.block _ HIG.out.lt (own_past HIG.out.h2 (Nat.lt_succ_self _))).trans HIG.out.hb); have p1 : w3.cell? ⟨w1.heap.size, 1, none⟩ = _ := hbx.2.1; have p2 : w3.frozen? ⟨w1.heap.size, 1, none⟩ = _ := hbx.2.2.2.2.1; clear hbx; have HI3 := Lib.hid (HIG.out.gate HK.out hown3 hg3); have HB3 := Lib.hid ((HB2.out.alloc (by omega) (.cells #[.int .i64 g.1, .int .i64 g.2.1, .int .i64 g.2.2.1, .int .u64 g.2.2.2] 69)).grown hg3 (by have h5 := HIG.out.lt; omega) (fun q hq => by have h5 := (HIG.out.h2.lt q hq).1; omega)); clear hown3 hg3))
            go_roundg (ls.length - (k + 1))
            case measure => omega
            case rel => exact ⟨k + 1, _, xs, _, _, _, by omega, rfl, by go_num, HR.out, by simp; omega, HI3.out, HB3.out.setCell (by simp) _⟩
          · have hst2 : ¬ st.2.2 = [] := fun e => hxs (by have h5 := HI.out.hl; rw [e] at h5; simpa using h5)
            have hx0 : ((xs.length : Int) == 0) = false := by
              rw [beq_eq_false_iff_ne]
              intro e
              exact hxs (List.eq_nil_of_length_eq_zero (by omega))
            have hstep : stepL k st ln = (exitOf ln).map fun x => (st.1, st.2.1, st.2.2 ++ [x]) := by unfold stepL; rw [if_neg hk0, if_neg (fun e => hst2 e.2)]
            clear hgo hxs hst2
            obtain ⟨ga, gb, gc, gd⟩ := g
            cases hxo : exitOf ln with
            | none =>
              have HX : Hid (∀ W, Below wr.heap.size wr W → Calls Tryz.prog 69 #[.string ⟨ln.toArray⟩] W (ExitPostR none W)) := Lib.hid (fun W h => by have h5 := hxc W h; rw [hxo] at h5; exact h5)
              have HF : Hid (readOf p t = (([], [], []), k, 4)) := Lib.hid (by rw [HRD.out, hru.out, hstN (by rw [hstep, hxo]; rfl)])
              clear hstN hstS hxo hru hln hxc hstep
              go_wp2_with (first | (go_at_call 68; refine HGC.out.mono ?_; rintro e w2 ⟨hb2, rfl⟩; have hbx := box_facts (HI.out.below hb2).hb; have q1 : w2.cell? ⟨w1.heap.size, 0, none⟩ = _ := hbx.1; have q2 : w2.cell? ⟨w1.heap.size, 1, none⟩ = _ := hbx.2.1; have q3 : w2.cell? ⟨w1.heap.size, 2, none⟩ = _ := hbx.2.2.1; have q4 : w2.frozen? ⟨w1.heap.size, 0, none⟩ = _ := hbx.2.2.2.1; have q5 : w2.frozen? ⟨w1.heap.size, 1, none⟩ = _ := hbx.2.2.2.2.1; have q6 : w2.frozen? ⟨w1.heap.size, 2, none⟩ = _ := hbx.2.2.2.2.2; clear hbx; have HB2 := Lib.hid (HB.out.trans ((hb2).mono (Nat.le_of_lt hszr))); have r0 := (HB2.out.cell (p := ⟨w.heap.size, 0, none⟩) hN).trans R0.out; have f0 := (HB2.out.frozen (p := ⟨w.heap.size, 0, none⟩) hN).trans F0.out; have r1 := (HB2.out.cell (p := ⟨w.heap.size, 1, none⟩) hN).trans R1.out; have f1 := (HB2.out.frozen (p := ⟨w.heap.size, 1, none⟩) hN).trans F1.out; have r2 := (HB2.out.cell (p := ⟨w.heap.size, 2, none⟩) hN).trans R2.out; have f2 := (HB2.out.frozen (p := ⟨w.heap.size, 2, none⟩) hN).trans F2.out; have sz2 : w1.heap.size < w2.heap.size := (by have h5 := (HI.out.below hb2).lt; omega); have n0 : ¬ w.heap.size = w2.heap.size := (by omega); have n1 : ¬ w1.heap.size = w2.heap.size := (by omega); have n2 : w.heap.size < w2.heap.size := (by omega); have HGB2 := Lib.hid (hb2.alloc hb2.size (.cells #[.int .i64 ga, .int .i64 gb, .int .i64 gc, .int .u64 gd] 69)); clear hb2) | (go_at_call 69; refine (HX.out _ (HGB2.out)).mono ?_; rintro e w4 ⟨hb4, A, n, xc, D, m2, xd, rfl⟩; have hb24 := HGB2.out.trans (hb4.mono HGB2.out.size); clear q1 q2 q3 q4 q5 q6 r0 r1 r2 f0 f1 f2 sz2 n0 n1 n2 HB2; have hbx := box_facts (HI.out.below hb24).hb; have q1 : w4.cell? ⟨w1.heap.size, 0, none⟩ = _ := hbx.1; have q2 : w4.cell? ⟨w1.heap.size, 1, none⟩ = _ := hbx.2.1; have q3 : w4.cell? ⟨w1.heap.size, 2, none⟩ = _ := hbx.2.2.1; have q4 : w4.frozen? ⟨w1.heap.size, 0, none⟩ = _ := hbx.2.2.2.1; have q5 : w4.frozen? ⟨w1.heap.size, 1, none⟩ = _ := hbx.2.2.2.2.1; have q6 : w4.frozen? ⟨w1.heap.size, 2, none⟩ = _ := hbx.2.2.2.2.2; clear hbx; have HB2 := Lib.hid (HB.out.trans ((hb24).mono (Nat.le_of_lt hszr))); have r0 := (HB2.out.cell (p := ⟨w.heap.size, 0, none⟩) hN).trans R0.out; have f0 := (HB2.out.frozen (p := ⟨w.heap.size, 0, none⟩) hN).trans F0.out; have r1 := (HB2.out.cell (p := ⟨w.heap.size, 1, none⟩) hN).trans R1.out; have f1 := (HB2.out.frozen (p := ⟨w.heap.size, 1, none⟩) hN).trans F1.out; have r2 := (HB2.out.cell (p := ⟨w.heap.size, 2, none⟩) hN).trans R2.out; have f2 := (HB2.out.frozen (p := ⟨w.heap.size, 2, none⟩) hN).trans F2.out; have sz2 : w1.heap.size < w4.heap.size := (by have h5 := (HI.out.below hb24).lt; omega); have n0 : ¬ w.heap.size = w4.heap.size := (by omega); have n1 : ¬ w1.heap.size = w4.heap.size := (by omega); have n2 : w.heap.size < w4.heap.size := (by omega); clear hb4 hb24))
              (try simp only [Exit.inBlock, Exit.then])
              refine bodyPost_ret (v := .tuple #[.agg #[.slice none 0 0, .slice none 0 0, .slice none 0 0], .int .i64 (k : Int), .int .i64 4]) ?_ rfl (err_read HF.out ⟨rfl, ?_⟩)
              · rw [results_cell_tmp2 rfl]
                go_simp
              · have hw := HW2.out.trans (HB2.out.mono (by omega)); repeat (first | exact hw | refine Below.drew ?_ | refine Below.alloc ?_ (by first | (simp; done) | omega | (simp; omega)) _ | refine Below.setCell ?_ (by first | (simp; done) | (simp only; omega)) _)
            | some x =>
              have HX : Hid (∀ W, Below wr.heap.size wr W → Calls Tryz.prog 69 #[.string ⟨ln.toArray⟩] W (ExitPostR (some x) W)) := Lib.hid (fun W h => by have h5 := hxc W h; rw [hxo] at h5; exact h5)
              have HR := Lib.hid (hru.out.trans (hstS (st.1, st.2.1, st.2.2 ++ [x]) (by rw [hstep, hxo]; rfl)))
              clear hstN hstS hxo hru hln hxc hstep
              go_wp2_with (first | (go_at_call 68; refine HGC.out.mono ?_; rintro e w2 ⟨hb2, rfl⟩; have hbx := box_facts (HI.out.below hb2).hb; have q1 : w2.cell? ⟨w1.heap.size, 0, none⟩ = _ := hbx.1; have q2 : w2.cell? ⟨w1.heap.size, 1, none⟩ = _ := hbx.2.1; have q3 : w2.cell? ⟨w1.heap.size, 2, none⟩ = _ := hbx.2.2.1; have q4 : w2.frozen? ⟨w1.heap.size, 0, none⟩ = _ := hbx.2.2.2.1; have q5 : w2.frozen? ⟨w1.heap.size, 1, none⟩ = _ := hbx.2.2.2.2.1; have q6 : w2.frozen? ⟨w1.heap.size, 2, none⟩ = _ := hbx.2.2.2.2.2; clear hbx; have HB2 := Lib.hid (HB.out.trans ((hb2).mono (Nat.le_of_lt hszr))); have r0 := (HB2.out.cell (p := ⟨w.heap.size, 0, none⟩) hN).trans R0.out; have f0 := (HB2.out.frozen (p := ⟨w.heap.size, 0, none⟩) hN).trans F0.out; have r1 := (HB2.out.cell (p := ⟨w.heap.size, 1, none⟩) hN).trans R1.out; have f1 := (HB2.out.frozen (p := ⟨w.heap.size, 1, none⟩) hN).trans F1.out; have r2 := (HB2.out.cell (p := ⟨w.heap.size, 2, none⟩) hN).trans R2.out; have f2 := (HB2.out.frozen (p := ⟨w.heap.size, 2, none⟩) hN).trans F2.out; have sz2 : w1.heap.size < w2.heap.size := (by have h5 := (HI.out.below hb2).lt; omega); have n0 : ¬ w.heap.size = w2.heap.size := (by omega); have n1 : ¬ w1.heap.size = w2.heap.size := (by omega); have n2 : w.heap.size < w2.heap.size := (by omega); have HGB2 := Lib.hid (hb2.alloc hb2.size (.cells #[.int .i64 ga, .int .i64 gb, .int .i64 gc, .int .u64 gd] 69)); clear hb2) | (go_at_call 69; refine (HX.out _ (HGB2.out)).mono ?_; rintro e w4 ⟨hb4, A, xc, D, xd, rfl, hA, hD⟩; have hb24 := HGB2.out.trans (hb4.mono HGB2.out.size); clear q1 q2 q3 q4 q5 q6 r0 r1 r2 f0 f1 f2 sz2 n0 n1 n2 HB2; have hbx := box_facts (HI.out.below hb24).hb; have q1 : w4.cell? ⟨w1.heap.size, 0, none⟩ = _ := hbx.1; have q2 : w4.cell? ⟨w1.heap.size, 1, none⟩ = _ := hbx.2.1; have q3 : w4.cell? ⟨w1.heap.size, 2, none⟩ = _ := hbx.2.2.1; have q4 : w4.frozen? ⟨w1.heap.size, 0, none⟩ = _ := hbx.2.2.2.1; have q5 : w4.frozen? ⟨w1.heap.size, 1, none⟩ = _ := hbx.2.2.2.2.1; have q6 : w4.frozen? ⟨w1.heap.size, 2, none⟩ = _ := hbx.2.2.2.2.2; clear hbx; have HB2 := Lib.hid (HB.out.trans ((hb24).mono (Nat.le_of_lt hszr))); have r0 := (HB2.out.cell (p := ⟨w.heap.size, 0, none⟩) hN).trans R0.out; have f0 := (HB2.out.frozen (p := ⟨w.heap.size, 0, none⟩) hN).trans F0.out; have r1 := (HB2.out.cell (p := ⟨w.heap.size, 1, none⟩) hN).trans R1.out; have f1 := (HB2.out.frozen (p := ⟨w.heap.size, 1, none⟩) hN).trans F1.out; have r2 := (HB2.out.cell (p := ⟨w.heap.size, 2, none⟩) hN).trans R2.out; have f2 := (HB2.out.frozen (p := ⟨w.heap.size, 2, none⟩) hN).trans F2.out; have sz2 : w1.heap.size < w4.heap.size := (by have h5 := (HI.out.below hb24).lt; omega); have n0 : ¬ w.heap.size = w4.heap.size := (by omega); have n1 : ¬ w1.heap.size = w4.heap.size := (by omega); have n2 : w.heap.size < w4.heap.size := (by omega); have szg := HGB2.out.size; have HIX := Lib.hid ((HI.out.below hb24).below ((Below.refl _ _).alloc (Nat.le_refl _) (.cells #[.slice A x.1.length xc, .slice D x.2.length xd] 72))); have HXA := Lib.hid ((own_lower hA (show w1.heap.size + 1 ≤ _ by omega)).alloc (.cells #[.slice A x.1.length xc, .slice D x.2.length xd] 72)); have HXB := Lib.hid ((own_lower hD (show w1.heap.size + 1 ≤ _ by omega)).alloc (.cells #[.slice A x.1.length xc, .slice D x.2.length xd] 72)); clear hb4 hb24 hA hD) | (at_builtin; refine app_cells (w1.heap.size + 1) rfl _ _ 25 72 _ 2 48 rfl Tryz.underlying25 infoExi rfl (by decide) (by decide) (.slice EA0 xs.length ec0) xs.length _ [.slice A x.1.length xc, .slice D x.2.length xd] rfl _ rfl (by simp) rfl (by intro u hu; simp at hu; rcases hu with rfl | rfl <;> rfl) HIX.out.h3 (by have h5 := HIX.out.lt; omega) (by omega) ?_; intro v3 w3 hown3 hg3; obtain ⟨EA3, ec3, rfl, _⟩ := own_reads hown3; have hbx := box_facts ((hg3.block _ HIX.out.lt (own_past HIX.out.h3 (Nat.lt_succ_self _))).trans HIX.out.hb); have p1 : w3.cell? ⟨w1.heap.size, 2, none⟩ = _ := hbx.2.2.1; have p2 : w3.frozen? ⟨w1.heap.size, 2, none⟩ = _ := hbx.2.2.2.2.2; clear hbx; have HI3 := Lib.hid (HIX.out.exit (x := ⟨x.1, x.2, A, D, xc, xd⟩) HXA.out HXB.out hown3 hg3); have HB3 := Lib.hid ((HB2.out.alloc (by omega) (.cells #[.slice A x.1.length xc, .slice D x.2.length xd] 72)).grown hg3 (by have h5 := HIX.out.lt; omega) (fun q hq => by have h5 := (HIX.out.h3.lt q hq).1; omega)); clear hown3 hg3))
              go_roundg (ls.length - (k + 1))
              case measure => omega
              case rel => exact ⟨k + 1, _, xs ++ [(⟨x.1, x.2, A, D, xc, xd⟩ : Exi)], _, _, _, by omega, rfl, by go_num, HR.out, by simp; omega, HI3.out, HB3.out.setCell (by simp) _⟩
    · obtain rfl : k = ls.length := by omega
      have hres : readOf p t = if ls = [] ∨ rest ≠ [] then (([], [], []), ls.length, 4) else if checkL p st ≠ 0 then (([], [], []), 0, checkL p st) else (st, 0, 0) := by
        rw [HRD.out, hru.out, runL_end]
      have hnil : ls = [] ↔ ls.length = 0 := List.length_eq_zero_iff.symm
      have HB2 := HB
      clear HB
      have r0 := (HB2.out.cell (p := ⟨w.heap.size, 0, none⟩) hN).trans R0.out
      have f0 := (HB2.out.frozen (p := ⟨w.heap.size, 0, none⟩) hN).trans F0.out
      have r1 := (HB2.out.cell (p := ⟨w.heap.size, 1, none⟩) hN).trans R1.out
      have f1 := (HB2.out.frozen (p := ⟨w.heap.size, 1, none⟩) hN).trans F1.out
      have r2 := (HB2.out.cell (p := ⟨w.heap.size, 2, none⟩) hN).trans R2.out
      have f2 := (HB2.out.frozen (p := ⟨w.heap.size, 2, none⟩) hN).trans F2.out
      by_cases hbad : ls.length = 0 ∨ rest ≠ []
      · have HF : Hid (readOf p t = (([], [], []), ls.length, 4)) := Lib.hid (by rw [hres, if_pos (hbad.imp hnil.2 id)])
        clear hres hru hnil HRD HRN HRS HPT HWC
        by_cases hk0 : ls.length = 0
        · have hk1 : ((ls.length : Int) == 0) = true := by rw [hk0]; rfl
          go_wp2
          (try simp only [Exit.inBlock, Exit.then])
          refine bodyPost_ret (v := .tuple #[.agg #[.slice none 0 0, .slice none 0 0, .slice none 0 0], .int .i64 (ls.length : Int), .int .i64 4]) ?_ rfl (err_read HF.out ⟨rfl, ?_⟩)
          · rw [results_cell_tmp2 rfl]
            go_simp
          · have hw := HW2.out.trans (HB2.out.mono (by omega)); repeat (first | exact hw | refine Below.drew ?_ | refine Below.alloc ?_ (by first | (simp; done) | omega | (simp; omega)) _ | refine Below.setCell ?_ (by first | (simp; done) | (simp only; omega)) _)
        · have hk1 : ((ls.length : Int) == 0) = false := by rw [beq_eq_false_iff_ne]; omega
          have hne : (rest == []) = false := by
            rw [beq_eq_false_iff_ne]
            exact hbad.resolve_left hk0
          clear hbad
          go_wp2
          (try simp only [Exit.inBlock, Exit.then])
          refine bodyPost_ret (v := .tuple #[.agg #[.slice none 0 0, .slice none 0 0, .slice none 0 0], .int .i64 (ls.length : Int), .int .i64 4]) ?_ rfl (err_read HF.out ⟨rfl, ?_⟩)
          · rw [results_cell_tmp2 rfl]
            go_simp
          · have hw := HW2.out.trans (HB2.out.mono (by omega)); repeat (first | exact hw | refine Below.drew ?_ | refine Below.alloc ?_ (by first | (simp; done) | omega | (simp; omega)) _ | refine Below.setCell ?_ (by first | (simp; done) | (simp only; omega)) _)
      · have hk0 : ¬ ls.length = 0 := fun e => hbad (.inl e)
        have hln : rest = [] := Classical.byContradiction fun e => hbad (.inr e)
        have hk1 : ((ls.length : Int) == 0) = false := by rw [beq_eq_false_iff_ne]; omega
        rw [if_neg (fun e => hbad (e.imp hnil.1 id))] at hres
        subst hln
        have hbx := box_facts HI.out.hb
        have q1 : wr.cell? ⟨w1.heap.size, 0, none⟩ = _ := hbx.1
        have q2 : wr.cell? ⟨w1.heap.size, 1, none⟩ = _ := hbx.2.1
        have q3 : wr.cell? ⟨w1.heap.size, 2, none⟩ = _ := hbx.2.2.1
        obtain ⟨C, e1, e2, e3, hCl, hCW⟩ := HI.out.holds
        have hC := hCW wr HI.out
        have HCW := Lib.hid hCW
        clear hCW
        rw [e1] at q1
        rw [e2] at q2
        rw [e3] at q3
        have hck := rcheck_any p hp C wr hC
        rw [← hCl, check_cl] at hres
        have HCL := Lib.hid hCl
        clear hbx hbad hnil hru hC e1 e2 e3 HRD HRN HRS HPT HWC hCl
        by_cases hz : checkErr p C = 0
        · rw [hz] at hck hres
          have HRES : Hid (readOf p t = (C.l, 0, 0)) := Lib.hid (by rw [hres]; rfl)
          have HCK := Lib.hid hck
          clear hck hres hz
          go_wp2_with (first | (go_at_call 11; refine HCK.out.mono ?_; rintro e w5 ⟨rfl, hb5⟩; have HB3 := Lib.hid (HB2.out.trans (hb5.mono (Nat.le_of_lt hszr))); clear HB2; have HB2 := HB3; clear HB3; have q1 := (hb5.cell (p := ⟨w1.heap.size, 0, none⟩) (by omega)).trans q1; have q2 := (hb5.cell (p := ⟨w1.heap.size, 1, none⟩) (by omega)).trans q2; have q3 := (hb5.cell (p := ⟨w1.heap.size, 2, none⟩) (by omega)).trans q3; have HB5 := Lib.hid hb5; clear hb5; clear r0 r1 r2 f0 f1 f2; have r0 := (HB2.out.cell (p := ⟨w.heap.size, 0, none⟩) hN).trans R0.out; have f0 := (HB2.out.frozen (p := ⟨w.heap.size, 0, none⟩) hN).trans F0.out; have r1 := (HB2.out.cell (p := ⟨w.heap.size, 1, none⟩) hN).trans R1.out; have f1 := (HB2.out.frozen (p := ⟨w.heap.size, 1, none⟩) hN).trans F1.out; have r2 := (HB2.out.cell (p := ⟨w.heap.size, 2, none⟩) hN).trans R2.out; have f2 := (HB2.out.frozen (p := ⟨w.heap.size, 2, none⟩) hN).trans F2.out))
          (try simp only [Exit.inBlock, Exit.then])
          refine bodyPost_ret (v := .tuple #[.agg #[.slice C.SA C.slots.length C.sc, .slice C.GA C.gates.length C.gc, .slice C.EA C.exits.length C.ec], .int .i64 0, .int .i64 0]) ?_ rfl ⟨?_, C, ?_, ?_, HCW.out _ ((((HI.out.below HB5.out).res hN 0 _).res hN 1 _).res hN 2 _)⟩
          · rw [results_cell_tmp2 rfl]
            go_simp
          · have hw := HW2.out.trans (HB2.out.mono (by omega)); repeat (first | exact hw | refine Below.drew ?_ | refine Below.alloc ?_ (by first | (simp; done) | omega | (simp; omega)) _ | refine Below.setCell ?_ (by first | (simp; done) | (simp only; omega)) _)
          · rw [HRES.out]; rfl
          · rw [HRES.out]
        · have hres2 : readOf p t = (([], [], []), 0, checkErr p C) := by rw [hres, if_pos hz]
          have hz1 : (checkErr p C == 0) = false := by simpa using hz
          generalize checkErr p C = er at hck hres2 hz1
          have HF := Lib.hid hres2
          have HCK := Lib.hid hck
          clear hck hres hres2 hz
          go_wp2_with (first | (go_at_call 11; refine HCK.out.mono ?_; rintro e w5 ⟨rfl, hb5⟩; have HB3 := Lib.hid (HB2.out.trans (hb5.mono (Nat.le_of_lt hszr))); clear HB2; have HB2 := HB3; clear HB3; have q1 := (hb5.cell (p := ⟨w1.heap.size, 0, none⟩) (by omega)).trans q1; have q2 := (hb5.cell (p := ⟨w1.heap.size, 1, none⟩) (by omega)).trans q2; have q3 := (hb5.cell (p := ⟨w1.heap.size, 2, none⟩) (by omega)).trans q3; have HB5 := Lib.hid hb5; clear hb5; clear r0 r1 r2 f0 f1 f2; have r0 := (HB2.out.cell (p := ⟨w.heap.size, 0, none⟩) hN).trans R0.out; have f0 := (HB2.out.frozen (p := ⟨w.heap.size, 0, none⟩) hN).trans F0.out; have r1 := (HB2.out.cell (p := ⟨w.heap.size, 1, none⟩) hN).trans R1.out; have f1 := (HB2.out.frozen (p := ⟨w.heap.size, 1, none⟩) hN).trans F1.out; have r2 := (HB2.out.cell (p := ⟨w.heap.size, 2, none⟩) hN).trans R2.out; have f2 := (HB2.out.frozen (p := ⟨w.heap.size, 2, none⟩) hN).trans F2.out))
          (try simp only [Exit.inBlock, Exit.then])
          refine bodyPost_ret (v := .tuple #[.agg #[.slice none 0 0, .slice none 0 0, .slice none 0 0], .int .i64 ((0 : Nat) : Int), .int .i64 er]) ?_ rfl (err_read HF.out ⟨rfl, ?_⟩)
          · rw [results_cell_tmp2 rfl]
            go_simp
          · have hw := HW2.out.trans (HB2.out.mono (by omega)); repeat (first | exact hw | refine Below.drew ?_ | refine Below.alloc ?_ (by first | (simp; done) | omega | (simp; omega)) _ | refine Below.setCell ?_ (by first | (simp; done) | (simp only; omega)) _)
end Go.Proofs.YtmnbgamnbgdnnaaGreatDoor
