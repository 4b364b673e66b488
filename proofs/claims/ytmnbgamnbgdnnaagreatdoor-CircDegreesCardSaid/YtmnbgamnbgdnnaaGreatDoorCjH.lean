/- Contract of circ.Read. (Printed by wip/tools/gen_read.py.) -/
import Derived.Test.YtmnbgamnbgdnnaaGreatDoorCjG
namespace Go.Proofs.YtmnbgamnbgdnnaaGreatDoor
open Go.RowKit

/-- What was read: the circuit in memory, the line, the error. -/
def ReadPost (p : Nat) (t : Bs) (w : World) (e : Ending) (w' : World) : Prop :=
  Below w.heap.size w w' ∧ ∃ C : Cir, e = .returned (.tuple #[.agg #[.slice C.SA C.slots.length C.sc, .slice C.GA C.gates.length C.gc, .slice C.EA C.exits.length C.ec], .int .i64 (readOf p t).2.1, .int .i64 (readOf p t).2.2]) ∧ C.l = (readOf p t).1 ∧ HoldsC w' C
theorem holds_nil (w : World) : HoldsC w ⟨[], [], [], none, none, none, 0, 0, 0⟩ :=
  ⟨.inl rfl, .inl rfl, .inl rfl, fun x hx => by simp at hx, by simp, fun x hx => by simp at hx, fun x hx => by simp at hx⟩
/-- An error: the empty circuit. -/
def ErrPost (i er : Int) (w : World) (e : Ending) (w' : World) : Prop := e = .returned (.tuple #[.agg #[.slice none 0 0, .slice none 0 0, .slice none 0 0], .int .i64 i, .int .i64 er]) ∧ Below w.heap.size w w'
theorem err_read {p : Nat} {t : Bs} {i : Nat} {er : Int} (h : readOf p t = (([], [], []), i, er)) {w : World} {e : Ending} {w' : World} (k : ErrPost i er w e w') : ReadPost p t w e w' := by
  unfold ReadPost
  rw [h]
  exact ⟨k.2, ⟨[], [], [], none, none, none, 0, 0, 0⟩, k.1, rfl, holds_nil _⟩
set_option maxRecDepth 100000 in
theorem read_p (p : Nat) (hp : p < 18446744073709551616) (hP : isP p = false) (t : Bs) (w : World) : Calls Tryz.prog 23 #[.int .u64 p, .string ⟨t.toArray⟩] w (ErrPost 0 2 w) := by
  have h := fun W => is_any p hp W
  rw [hP] at h
  have H := Lib.hid h; clear h hP
  go_enter Tryz.func23, Tryz.ntmps23
  go_wp2_with (go_at_call 34; refine (H.out _).mono ?_; rintro e w1 ⟨rfl, rfl⟩)
  (try simp only [Exit.inBlock, Exit.then])
  refine bodyPost_ret (v := .tuple #[.agg #[.slice none 0 0, .slice none 0 0, .slice none 0 0], .int .i64 0, .int .i64 2]) ?_ rfl ⟨rfl, ?_⟩
  · rw [results_cell_tmp2 rfl]
    go_simp
  · repeat (first | exact Below.refl _ _ | refine Below.alloc ?_ (by simp) _ | refine Below.setCell ?_ (by first | (simp; done) | (show w.heap.size ≤ w.heap.size + 1 + 1; omega)) _)
set_option maxRecDepth 100000 in
theorem read_big (p : Nat) (hp : p < 18446744073709551616) (hP : isP p = true) (t : Bs) (ht : 4194304 < t.length) (w : World) : Calls Tryz.prog 23 #[.int .u64 p, .string ⟨t.toArray⟩] w (ErrPost 0 3 w) := by
  have h := fun W => is_any p hp W
  rw [hP] at h
  have H := Lib.hid h; clear h hP
  have hsz : (4194304 : Int) < ((⟨t.toArray⟩ : ByteArray).size : Int) := by show (4194304 : Int) < ((t.length : Nat) : Int); omega
  clear ht
  generalize (⟨t.toArray⟩ : ByteArray) = S at *
  go_enter Tryz.func23, Tryz.ntmps23
  go_wp2_with (go_at_call 34; refine (H.out _).mono ?_; rintro e w1 ⟨rfl, rfl⟩)
  (try simp only [Exit.inBlock, Exit.then])
  refine bodyPost_ret (v := .tuple #[.agg #[.slice none 0 0, .slice none 0 0, .slice none 0 0], .int .i64 0, .int .i64 3]) ?_ rfl ⟨rfl, ?_⟩
  · rw [results_cell_tmp2 rfl]
    go_simp
  · repeat (first | exact Below.refl _ _ | refine Below.alloc ?_ (by simp) _ | refine Below.setCell ?_ (by first | (simp; done) | (show w.heap.size ≤ w.heap.size + 1 + 1; omega)) _)
theorem run_init (g m : Nat) (W : World) : (Instr.sliceAt 94 (.slice (some ⟨g, 0, none⟩) (m + 1) (m + 1)) none (some (.int .i64 (m : Int))) none).run Tryz.prog W = .ok (.slice (some ⟨g, 0, none⟩) m (m + 1)) W := by
  rw [run_sliceAt_slice (h := under94), run_slice_h (ht := under94) (h0 := by omega) (h2 := by omega), size94]
  simp only [Result.andThen, sliced, Option.map]
  rw [if_neg (by omega)]
  simp [Addr.add]
set_option maxHeartbeats 8000000 in
set_option maxRecDepth 100000 in
theorem read_go (p : Nat) (hp : p < 18446744073709551616) (hP : isP p = true) (t : Bs) (ht : t.length ≤ 4194304) (w : World) (hE : Env w) : Calls Tryz.prog 23 #[.int .u64 p, .string ⟨t.toArray⟩] w (ReadPost p t w) := by
  have h := fun W => is_any p hp W
  rw [hP] at h
  have H := Lib.hid h; clear h
  obtain ⟨m, hm⟩ : ∃ m, (cut 10 t).length = m + 1 := ⟨t.count 10, cut_len 10 t⟩
  have hmt : m ≤ 4194304 := by
    have := cut_len 10 t
    have : t.count 10 ≤ t.length := List.count_le_length
    omega
  have hsp := split_any t 10 (w.alloc (.cells #[.slice none 0 0, .slice none 0 0, .slice none 0 0] 27)) (by omega)
  have hwc := word_cell (w.alloc (.cells #[.slice none 0 0, .slice none 0 0, .slice none 0 0] 27)) (cut 10 t)
  have hW0 : Below w.heap.size w (w.alloc (.cells #[.slice none 0 0, .slice none 0 0, .slice none 0 0] 27)) := (Below.refl _ _).alloc (Nat.le_refl _) _
  have hW2 : Below w.heap.size w ((w.alloc (.cells #[.slice none 0 0, .slice none 0 0, .slice none 0 0] 27)).alloc (.cells (sCells (cut 10 t)).toArray 9)) := hW0.alloc (by simp) _
  have HE := Lib.hid (hE.below hW2)
  have HW2 := Lib.hid hW2
  rw [show (w.alloc (.cells #[.slice none 0 0, .slice none 0 0, .slice none 0 0] 27)).heap.size = w.heap.size + 1 by simp, hm] at hsp
  rw [show (w.alloc (.cells #[.slice none 0 0, .slice none 0 0, .slice none 0 0] 27)).heap.size = w.heap.size + 1 by simp] at hwc
  have HSP := Lib.hid hsp; clear hsp
  have HWC := Lib.hid hwc; clear hwc
  have hsz : ((⟨t.toArray⟩ : ByteArray).size : Int) ≤ 4194304 := by show ((t.length : Nat) : Int) ≤ 4194304; omega
  have hs3 := fun W => run_init (w.heap.size + 1) m W
  have hls : (cut 10 t).dropLast.length = m := by rw [List.length_dropLast, hm]; rfl
  have HPT : Hid (∀ x ∈ cut 10 t, x.length ≤ 4194304) := Lib.hid fun x hx => by have := cut_part 10 t x hx; omega
  have HRD : Hid (readOf p t = match runL 0 ([], [], []) (cut 10 t).dropLast with
      | .inl i => (([], [], []), i, 4)
      | .inr L => if (cut 10 t).dropLast = [] ∨ (cut 10 t).getLastD [] ≠ [] then (([], [], []), (cut 10 t).dropLast.length, 4) else if checkL p L ≠ 0 then (([], [], []), 0, checkL p L) else (L, 0, 0)) := by
    unfold readOf
    rw [if_neg (by rw [hP]; simp), if_neg (by omega)]
    rfl
  have hrunN : ∀ k (h : k < m) (st : Lis), stepL k st ((cut 10 t)[k]'(by omega)) = none → runL k st ((cut 10 t).dropLast.drop k) = .inl k := fun k h st e => by
    rw [runL_at (by omega) st]
    simp only [List.getElem_dropLast, e]
  have hrunS : ∀ k (h : k < m) (st st' : Lis), stepL k st ((cut 10 t)[k]'(by omega)) = some st' → runL k st ((cut 10 t).dropLast.drop k) = runL (k + 1) st' ((cut 10 t).dropLast.drop (k + 1)) := fun k h st st' e => by
    rw [runL_at (by omega) st]
    simp only [List.getElem_dropLast, e]
  have HRN := Lib.hid hrunN; clear hrunN
  have HRS := Lib.hid hrunS; clear hrunS
  clear hE hW0 hW2 ht hP
  generalize hS : (⟨t.toArray⟩ : ByteArray) = S at HSP hsz
  clear hS
  go_enter Tryz.func23, Tryz.ntmps23
  go_wp2_with (first | (go_at_call 34; refine (H.out _).mono ?_; rintro e w1 ⟨rfl, rfl⟩) | (go_at_call 61; refine HSP.out.mono ?_; rintro e w1 ⟨rfl, rfl⟩))
  go_loopg [37] m (fun g v wr => ∃ (k : Nat) (st : Lis) (xs : List Exi) (v1 v2 v3 : Value), k ≤ m ∧ g = m - k ∧ v = .int .i64 k ∧ Hid (runL 0 ([], [], []) (cut 10 t).dropLast = runL k st ((cut 10 t).dropLast.drop k)) ∧ st.2.1.length + xs.length ≤ k ∧ Inv w.heap.size st xs v1 v2 v3 wr ∧ Below (w.heap.size + 2) ((w.alloc (.cells #[.slice none 0 0, .slice none 0 0, .slice none 0 0] 27)).alloc (.cells (sCells (cut 10 t)).toArray 9)) wr)
  case atStart => exact ⟨0, ([], [], []), [], .slice none 0 0, .slice none 0 0, .slice none 0 0, Nat.zero_le _, rfl, rfl, rfl, Nat.zero_le _, ⟨World.ownsRow_nil _ _ _ _, World.ownsRow_nil _ _ _ _, World.ownsRow_nil _ _ _ _, by simp, by have h5 := heap_alloc_new ((w.alloc (.cells #[.slice none 0 0, .slice none 0 0, .slice none 0 0] 27)).alloc (.cells (sCells (cut 10 t)).toArray 9)) (.cells #[.slice none 0 0, .slice none 0 0, .slice none 0 0] 27); simpa using h5, rfl, by simp⟩, (Below.refl _ _).alloc (by simp) _⟩
  case round =>
    obtain ⟨k, st, xs, v1, v2, v3, hk, rfl, rfl, hru, hcnt, hinv, hbel⟩ := hrel
    have HI := Lib.hid hinv; clear hinv
    have HB := Lib.hid hbel; clear hbel
    have hszr := HI.out.lt
    obtain ⟨SA0, sc0, rfl, _⟩ := own_reads HI.out.h1
    obtain ⟨GA0, gc0, rfl, _⟩ := own_reads HI.out.h2
    obtain ⟨EA0, ec0, rfl, _⟩ := own_reads HI.out.h3
    by_cases hlt : k < m
    · have q0 := (HB.out.cell (p := ⟨w.heap.size + 1, k, none⟩) (by simp)).trans (HWC.out k (by omega))
      have hln := HPT.out _ (List.getElem_mem (show k < (cut 10 t).length by omega))
      have hstN := HRN.out k hlt st
      have hstS := HRS.out k hlt st
      have hEr : Env wr := HE.out.below (HB.out.mono (by simp))
      generalize (cut 10 t)[k]'(by omega) = ln at q0 hln hstN hstS
      have hno : ¬ w.heap.size = w.heap.size + 1 + 1 := by omega
      by_cases hk0 : k = 0
      · subst hk0
        have hcall := readSlots_any ln hln wr hEr
        cases hso : slotsOf ln with
        | none =>
          rw [hso] at hcall
          have HCL := Lib.hid hcall; clear hcall
          have HF : Hid (readOf p t = (([], [], []), 0, 4)) := Lib.hid (by rw [HRD.out, hru.out, hstN (by unfold stepL; rw [if_pos rfl, hso]; rfl)])
          clear hstN hstS hso hru hln hEr
          go_wp2_with (first | (go_at_call 62; refine HCL.out.mono ?_; rintro e w2 ⟨hb2, A, n, c, rfl⟩; have hbx := box_facts (HI.out.below hb2).hb; have q1 : w2.cell? ⟨w.heap.size + 1 + 1, 0, none⟩ = _ := hbx.1; have q2 : w2.cell? ⟨w.heap.size + 1 + 1, 1, none⟩ = _ := hbx.2.1; have q3 : w2.cell? ⟨w.heap.size + 1 + 1, 2, none⟩ = _ := hbx.2.2.1; have q4 : w2.frozen? ⟨w.heap.size + 1 + 1, 0, none⟩ = _ := hbx.2.2.2.1; have q5 : w2.frozen? ⟨w.heap.size + 1 + 1, 1, none⟩ = _ := hbx.2.2.2.2.1; have q6 : w2.frozen? ⟨w.heap.size + 1 + 1, 2, none⟩ = _ := hbx.2.2.2.2.2; clear hbx; have HB2 := Lib.hid (HB.out.trans ((hb2).mono (Nat.le_of_lt hszr))); have r0 := HB2.out.cell (p := ⟨w.heap.size, 0, none⟩) (by simp); have r1 := HB2.out.cell (p := ⟨w.heap.size, 1, none⟩) (by simp); have r2 := HB2.out.cell (p := ⟨w.heap.size, 2, none⟩) (by simp); simp at r0 r1 r2; have f0 := HB2.out.frozen (p := ⟨w.heap.size, 0, none⟩) (by simp); have f1 := HB2.out.frozen (p := ⟨w.heap.size, 1, none⟩) (by simp); have f2 := HB2.out.frozen (p := ⟨w.heap.size, 2, none⟩) (by simp); simp at f0 f1 f2; clear hb2))
          (try simp only [Exit.inBlock, Exit.then])
          refine bodyPost_ret (v := .tuple #[.agg #[.slice none 0 0, .slice none 0 0, .slice none 0 0], .int .i64 ((0 : Nat) : Int), .int .i64 4]) ?_ rfl (err_read HF.out ⟨rfl, ?_⟩)
          · rw [results_cell_tmp2 rfl]
            go_simp
          · have hw := HW2.out.trans (HB2.out.mono (by simp)); repeat (first | exact hw | refine Below.drew ?_ | refine Below.alloc ?_ (by simp; omega) _ | refine Below.setCell ?_ (by first | (simp; done) | (show w.heap.size ≤ w.heap.size + 1 + 1; omega)) _)
        | some l =>
          rw [hso] at hcall
          have HCL := Lib.hid hcall; clear hcall
          have HR := Lib.hid (hru.out.trans (hstS (l, st.2.1, st.2.2) (by unfold stepL; rw [if_pos rfl, hso]; rfl)))
          clear hstN hstS hso hru hln hEr
          go_wp2_with (first | (go_at_call 62; refine HCL.out.mono ?_; rintro e w2 ⟨hb2, v, rfl, hown⟩; obtain ⟨SA1, sc1, rfl, _⟩ := own_reads hown; have hbx := box_facts (HI.out.below hb2).hb; have q1 : w2.cell? ⟨w.heap.size + 1 + 1, 0, none⟩ = _ := hbx.1; have q2 : w2.cell? ⟨w.heap.size + 1 + 1, 1, none⟩ = _ := hbx.2.1; have q3 : w2.cell? ⟨w.heap.size + 1 + 1, 2, none⟩ = _ := hbx.2.2.1; have q4 : w2.frozen? ⟨w.heap.size + 1 + 1, 0, none⟩ = _ := hbx.2.2.2.1; have q5 : w2.frozen? ⟨w.heap.size + 1 + 1, 1, none⟩ = _ := hbx.2.2.2.2.1; have q6 : w2.frozen? ⟨w.heap.size + 1 + 1, 2, none⟩ = _ := hbx.2.2.2.2.2; clear hbx; have HB2 := Lib.hid (HB.out.trans ((hb2).mono (Nat.le_of_lt hszr))); have r0 := HB2.out.cell (p := ⟨w.heap.size, 0, none⟩) (by simp); have r1 := HB2.out.cell (p := ⟨w.heap.size, 1, none⟩) (by simp); have r2 := HB2.out.cell (p := ⟨w.heap.size, 2, none⟩) (by simp); simp at r0 r1 r2; have f0 := HB2.out.frozen (p := ⟨w.heap.size, 0, none⟩) (by simp); have f1 := HB2.out.frozen (p := ⟨w.heap.size, 1, none⟩) (by simp); have f2 := HB2.out.frozen (p := ⟨w.heap.size, 2, none⟩) (by simp); simp at f0 f1 f2; have HI2 := Lib.hid ((HI.out.below hb2).slots (own_lower hown (by omega))); clear hb2 hown))
          go_roundg (m - (0 + 1))
          case measure => omega
          case rel => exact ⟨0 + 1, _, xs, _, _, _, by omega, rfl, by go_num, HR.out, by simp only; omega, HI2.out, HB2.out.setCell (by simp) _⟩
      · have hk1 : ((k : Int) == 0) = false := by simp; omega
        have hgc := readGate_any ln hln wr hEr
        have hxc := fun W (h : Below wr.heap.size wr W) => readExit_any ln hln W (hEr.below h)
        cases hgo : gateOf ln with
        | none =>
          rw [hgo] at hgc
          have HGC := Lib.hid hgc; clear hgc
          have hstep : stepL k st ln = (exitOf ln).map fun x => (st.1, st.2.1, st.2.2 ++ [x]) := by unfold stepL; rw [if_neg hk0, hgo, if_neg (by simp)]
          clear hgo
          cases hxo : exitOf ln with
          | none =>
            have HX : Hid (∀ W, Below wr.heap.size wr W → Calls Tryz.prog 64 #[.string ⟨ln.toArray⟩] W (ExitPostR none W)) := Lib.hid (fun W h => by have h5 := hxc W h; rw [hxo] at h5; exact h5)
            have HF : Hid (readOf p t = (([], [], []), k, 4)) := Lib.hid (by rw [HRD.out, hru.out, hstN (by rw [hstep, hxo]; rfl)])
            clear hstN hstS hxo hru hln hEr hxc hstep
            go_wp2_with (first | (go_at_call 63; refine HGC.out.mono ?_; rintro e w2 ⟨hb2, ga, gb, gc, gd, rfl⟩; have hbx := box_facts (HI.out.below hb2).hb; have q1 : w2.cell? ⟨w.heap.size + 1 + 1, 0, none⟩ = _ := hbx.1; have q2 : w2.cell? ⟨w.heap.size + 1 + 1, 1, none⟩ = _ := hbx.2.1; have q3 : w2.cell? ⟨w.heap.size + 1 + 1, 2, none⟩ = _ := hbx.2.2.1; have q4 : w2.frozen? ⟨w.heap.size + 1 + 1, 0, none⟩ = _ := hbx.2.2.2.1; have q5 : w2.frozen? ⟨w.heap.size + 1 + 1, 1, none⟩ = _ := hbx.2.2.2.2.1; have q6 : w2.frozen? ⟨w.heap.size + 1 + 1, 2, none⟩ = _ := hbx.2.2.2.2.2; clear hbx; have HB2 := Lib.hid (HB.out.trans ((hb2).mono (Nat.le_of_lt hszr))); have r0 := HB2.out.cell (p := ⟨w.heap.size, 0, none⟩) (by simp); have f0 := HB2.out.frozen (p := ⟨w.heap.size, 0, none⟩) (by simp); have r1 := HB2.out.cell (p := ⟨w.heap.size, 1, none⟩) (by simp); have f1 := HB2.out.frozen (p := ⟨w.heap.size, 1, none⟩) (by simp); have r2 := HB2.out.cell (p := ⟨w.heap.size, 2, none⟩) (by simp); have f2 := HB2.out.frozen (p := ⟨w.heap.size, 2, none⟩) (by simp); simp at r0 r1 r2 f0 f1 f2; have sz2 : w.heap.size + 1 + 1 < w2.heap.size := (by have h5 := (HI.out.below hb2).lt; omega); have n0 : ¬ w.heap.size = w2.heap.size := (by omega); have n1 : ¬ w.heap.size + 1 + 1 = w2.heap.size := (by omega); have n2 : w.heap.size < w2.heap.size := (by omega); have HGB2 := Lib.hid (hb2.alloc hb2.size (.cells #[.int .i64 ga, .int .i64 gb, .int .i64 gc, .int .u64 gd] 69)); clear hb2) | (go_at_call 64; refine (HX.out _ (HGB2.out)).mono ?_; rintro e w4 ⟨hb4, A, n, xc, D, m2, xd, rfl⟩; have hb24 := HGB2.out.trans (hb4.mono HGB2.out.size); clear q1 q2 q3 q4 q5 q6 r0 r1 r2 f0 f1 f2 sz2 n0 n1 n2 HB2; have hbx := box_facts (HI.out.below hb24).hb; have q1 : w4.cell? ⟨w.heap.size + 1 + 1, 0, none⟩ = _ := hbx.1; have q2 : w4.cell? ⟨w.heap.size + 1 + 1, 1, none⟩ = _ := hbx.2.1; have q3 : w4.cell? ⟨w.heap.size + 1 + 1, 2, none⟩ = _ := hbx.2.2.1; have q4 : w4.frozen? ⟨w.heap.size + 1 + 1, 0, none⟩ = _ := hbx.2.2.2.1; have q5 : w4.frozen? ⟨w.heap.size + 1 + 1, 1, none⟩ = _ := hbx.2.2.2.2.1; have q6 : w4.frozen? ⟨w.heap.size + 1 + 1, 2, none⟩ = _ := hbx.2.2.2.2.2; clear hbx; have HB2 := Lib.hid (HB.out.trans ((hb24).mono (Nat.le_of_lt hszr))); have r0 := HB2.out.cell (p := ⟨w.heap.size, 0, none⟩) (by simp); have f0 := HB2.out.frozen (p := ⟨w.heap.size, 0, none⟩) (by simp); have r1 := HB2.out.cell (p := ⟨w.heap.size, 1, none⟩) (by simp); have f1 := HB2.out.frozen (p := ⟨w.heap.size, 1, none⟩) (by simp); have r2 := HB2.out.cell (p := ⟨w.heap.size, 2, none⟩) (by simp); have f2 := HB2.out.frozen (p := ⟨w.heap.size, 2, none⟩) (by simp); simp at r0 r1 r2 f0 f1 f2; have sz2 : w.heap.size + 1 + 1 < w4.heap.size := (by have h5 := (HI.out.below hb24).lt; omega); have n0 : ¬ w.heap.size = w4.heap.size := (by omega); have n1 : ¬ w.heap.size + 1 + 1 = w4.heap.size := (by omega); have n2 : w.heap.size < w4.heap.size := (by omega); clear hb4 hb24))
            (try simp only [Exit.inBlock, Exit.then])
            refine bodyPost_ret (v := .tuple #[.agg #[.slice none 0 0, .slice none 0 0, .slice none 0 0], .int .i64 (k : Int), .int .i64 4]) ?_ rfl (err_read HF.out ⟨rfl, ?_⟩)
            · rw [results_cell_tmp2 rfl]
              go_simp
            · have hw := HW2.out.trans (HB2.out.mono (by simp)); repeat (first | exact hw | refine Below.drew ?_ | refine Below.alloc ?_ (by first | (simp; done) | omega | (simp; omega)) _ | refine Below.setCell ?_ (by first | (simp; done) | (show w.heap.size ≤ w.heap.size + 1 + 1; omega)) _)
          | some x =>
            have HX : Hid (∀ W, Below wr.heap.size wr W → Calls Tryz.prog 64 #[.string ⟨ln.toArray⟩] W (ExitPostR (some x) W)) := Lib.hid (fun W h => by have h5 := hxc W h; rw [hxo] at h5; exact h5)
            have HR := Lib.hid (hru.out.trans (hstS (st.1, st.2.1, st.2.2 ++ [x]) (by rw [hstep, hxo]; rfl)))
            clear hstN hstS hxo hru hln hEr hxc hstep
            go_wp2_with (first | (go_at_call 63; refine HGC.out.mono ?_; rintro e w2 ⟨hb2, ga, gb, gc, gd, rfl⟩; have hbx := box_facts (HI.out.below hb2).hb; have q1 : w2.cell? ⟨w.heap.size + 1 + 1, 0, none⟩ = _ := hbx.1; have q2 : w2.cell? ⟨w.heap.size + 1 + 1, 1, none⟩ = _ := hbx.2.1; have q3 : w2.cell? ⟨w.heap.size + 1 + 1, 2, none⟩ = _ := hbx.2.2.1; have q4 : w2.frozen? ⟨w.heap.size + 1 + 1, 0, none⟩ = _ := hbx.2.2.2.1; have q5 : w2.frozen? ⟨w.heap.size + 1 + 1, 1, none⟩ = _ := hbx.2.2.2.2.1; have q6 : w2.frozen? ⟨w.heap.size + 1 + 1, 2, none⟩ = _ := hbx.2.2.2.2.2; clear hbx; have HB2 := Lib.hid (HB.out.trans ((hb2).mono (Nat.le_of_lt hszr))); have r0 := HB2.out.cell (p := ⟨w.heap.size, 0, none⟩) (by simp); have f0 := HB2.out.frozen (p := ⟨w.heap.size, 0, none⟩) (by simp); have r1 := HB2.out.cell (p := ⟨w.heap.size, 1, none⟩) (by simp); have f1 := HB2.out.frozen (p := ⟨w.heap.size, 1, none⟩) (by simp); have r2 := HB2.out.cell (p := ⟨w.heap.size, 2, none⟩) (by simp); have f2 := HB2.out.frozen (p := ⟨w.heap.size, 2, none⟩) (by simp); simp at r0 r1 r2 f0 f1 f2; have sz2 : w.heap.size + 1 + 1 < w2.heap.size := (by have h5 := (HI.out.below hb2).lt; omega); have n0 : ¬ w.heap.size = w2.heap.size := (by omega); have n1 : ¬ w.heap.size + 1 + 1 = w2.heap.size := (by omega); have n2 : w.heap.size < w2.heap.size := (by omega); have HGB2 := Lib.hid (hb2.alloc hb2.size (.cells #[.int .i64 ga, .int .i64 gb, .int .i64 gc, .int .u64 gd] 69)); clear hb2) | (go_at_call 64; refine (HX.out _ (HGB2.out)).mono ?_; rintro e w4 ⟨hb4, A, xc, D, xd, rfl, hA, hD⟩; have hb24 := HGB2.out.trans (hb4.mono HGB2.out.size); clear q1 q2 q3 q4 q5 q6 r0 r1 r2 f0 f1 f2 sz2 n0 n1 n2 HB2; have hbx := box_facts (HI.out.below hb24).hb; have q1 : w4.cell? ⟨w.heap.size + 1 + 1, 0, none⟩ = _ := hbx.1; have q2 : w4.cell? ⟨w.heap.size + 1 + 1, 1, none⟩ = _ := hbx.2.1; have q3 : w4.cell? ⟨w.heap.size + 1 + 1, 2, none⟩ = _ := hbx.2.2.1; have q4 : w4.frozen? ⟨w.heap.size + 1 + 1, 0, none⟩ = _ := hbx.2.2.2.1; have q5 : w4.frozen? ⟨w.heap.size + 1 + 1, 1, none⟩ = _ := hbx.2.2.2.2.1; have q6 : w4.frozen? ⟨w.heap.size + 1 + 1, 2, none⟩ = _ := hbx.2.2.2.2.2; clear hbx; have HB2 := Lib.hid (HB.out.trans ((hb24).mono (Nat.le_of_lt hszr))); have r0 := HB2.out.cell (p := ⟨w.heap.size, 0, none⟩) (by simp); have f0 := HB2.out.frozen (p := ⟨w.heap.size, 0, none⟩) (by simp); have r1 := HB2.out.cell (p := ⟨w.heap.size, 1, none⟩) (by simp); have f1 := HB2.out.frozen (p := ⟨w.heap.size, 1, none⟩) (by simp); have r2 := HB2.out.cell (p := ⟨w.heap.size, 2, none⟩) (by simp); have f2 := HB2.out.frozen (p := ⟨w.heap.size, 2, none⟩) (by simp); simp at r0 r1 r2 f0 f1 f2; have sz2 : w.heap.size + 1 + 1 < w4.heap.size := (by have h5 := (HI.out.below hb24).lt; omega); have n0 : ¬ w.heap.size = w4.heap.size := (by omega); have n1 : ¬ w.heap.size + 1 + 1 = w4.heap.size := (by omega); have n2 : w.heap.size < w4.heap.size := (by omega); have szg := HGB2.out.size; have HIX := Lib.hid ((HI.out.below hb24).below ((Below.refl _ _).alloc (Nat.le_refl _) (.cells #[.slice A x.1.length xc, .slice D x.2.length xd] 72))); have HXA := Lib.hid ((own_lower hA (show w.heap.size + 3 ≤ _ by omega)).alloc (.cells #[.slice A x.1.length xc, .slice D x.2.length xd] 72)); have HXB := Lib.hid ((own_lower hD (show w.heap.size + 3 ≤ _ by omega)).alloc (.cells #[.slice A x.1.length xc, .slice D x.2.length xd] 72)); clear hb4 hb24 hA hD) | (at_builtin; refine app_cells (w.heap.size + 3) rfl _ _ 25 72 _ 2 48 rfl Tryz.underlying25 infoExi rfl (by decide) (by decide) (.slice EA0 xs.length ec0) xs.length _ [.slice A x.1.length xc, .slice D x.2.length xd] rfl _ rfl (by simp) rfl (by intro u hu; simp at hu; rcases hu with rfl | rfl <;> rfl) HIX.out.h3 (by have h5 := HIX.out.lt; omega) (by omega) ?_; intro v3 w3 hown3 hg3; obtain ⟨EA3, ec3, rfl, _⟩ := own_reads hown3; have hbx := box_facts ((hg3.block _ HIX.out.lt (own_past HIX.out.h3 (Nat.lt_succ_self _))).trans HIX.out.hb); have p1 : w3.cell? ⟨w.heap.size + 1 + 1, 2, none⟩ = _ := hbx.2.2.1; have p2 : w3.frozen? ⟨w.heap.size + 1 + 1, 2, none⟩ = _ := hbx.2.2.2.2.2; clear hbx; have HI3 := Lib.hid (HIX.out.exit (x := ⟨x.1, x.2, A, D, xc, xd⟩) HXA.out HXB.out hown3 hg3); have HB3 := Lib.hid ((HB2.out.alloc (by omega) (.cells #[.slice A x.1.length xc, .slice D x.2.length xd] 72)).grown hg3 (by have h5 := HIX.out.lt; omega) (fun q hq => by have h5 := (HIX.out.h3.lt q hq).1; omega)); clear hown3 hg3))
            go_roundg (m - (k + 1))
            case measure => omega
            case rel => exact ⟨k + 1, _, xs ++ [(⟨x.1, x.2, A, D, xc, xd⟩ : Exi)], _, _, _, by omega, rfl, by go_num, HR.out, by simp; omega, HI3.out, HB3.out.setCell (by simp) _⟩
        | some g =>
          rw [hgo] at hgc
          have HGC := Lib.hid hgc; clear hgc
          by_cases hxs : xs = []
          · have HK := Lib.hid (gateOf_k hgo)
            have hst2 : st.2.2 = [] := by rw [← HI.out.hl, hxs]; rfl
            have HR := Lib.hid (hru.out.trans (hstS (st.1, st.2.1 ++ [g], st.2.2) (by unfold stepL; rw [if_neg hk0, hgo, if_pos ⟨rfl, hst2⟩]; rfl)))
            have hx0 : xs.length = 0 := by rw [hxs]; rfl
            clear hstN hstS hgo hru hln hEr hxc hxs hst2
            go_wp2_with (first | (go_at_call 63; refine HGC.out.mono ?_; rintro e w2 ⟨hb2, rfl⟩; have hbx := box_facts (HI.out.below hb2).hb; have q1 : w2.cell? ⟨w.heap.size + 1 + 1, 0, none⟩ = _ := hbx.1; have q2 : w2.cell? ⟨w.heap.size + 1 + 1, 1, none⟩ = _ := hbx.2.1; have q3 : w2.cell? ⟨w.heap.size + 1 + 1, 2, none⟩ = _ := hbx.2.2.1; have q4 : w2.frozen? ⟨w.heap.size + 1 + 1, 0, none⟩ = _ := hbx.2.2.2.1; have q5 : w2.frozen? ⟨w.heap.size + 1 + 1, 1, none⟩ = _ := hbx.2.2.2.2.1; have q6 : w2.frozen? ⟨w.heap.size + 1 + 1, 2, none⟩ = _ := hbx.2.2.2.2.2; clear hbx; have HB2 := Lib.hid (HB.out.trans ((hb2).mono (Nat.le_of_lt hszr))); have r0 := HB2.out.cell (p := ⟨w.heap.size, 0, none⟩) (by simp); have f0 := HB2.out.frozen (p := ⟨w.heap.size, 0, none⟩) (by simp); have r1 := HB2.out.cell (p := ⟨w.heap.size, 1, none⟩) (by simp); have f1 := HB2.out.frozen (p := ⟨w.heap.size, 1, none⟩) (by simp); have r2 := HB2.out.cell (p := ⟨w.heap.size, 2, none⟩) (by simp); have f2 := HB2.out.frozen (p := ⟨w.heap.size, 2, none⟩) (by simp); simp at r0 r1 r2 f0 f1 f2; have sz2 : w.heap.size + 1 + 1 < w2.heap.size := (by have h5 := (HI.out.below hb2).lt; omega); have n0 : ¬ w.heap.size = w2.heap.size := (by omega); have n1 : ¬ w.heap.size + 1 + 1 = w2.heap.size := (by omega); have n2 : w.heap.size < w2.heap.size := (by omega); rw [hx0] at q3; have HIG := Lib.hid ((HI.out.below hb2).below ((Below.refl _ _).alloc (Nat.le_refl _) (.cells #[.int .i64 g.1, .int .i64 g.2.1, .int .i64 g.2.2.1, .int .u64 g.2.2.2] 69))); clear hb2) | (at_builtin; refine app_cells (w.heap.size + 3) rfl _ _ 24 69 _ 4 32 rfl Tryz.underlying24 infoGat rfl (by decide) (by decide) (.slice GA0 st.2.1.length gc0) st.2.1.length _ [.int .i64 g.1, .int .i64 g.2.1, .int .i64 g.2.2.1, .int .u64 g.2.2.2] rfl _ rfl (by simp) rfl (by intro u hu; simp at hu; rcases hu with rfl | rfl | rfl | rfl <;> rfl) HIG.out.h2 (by have h5 := HIG.out.lt; omega) (by omega) ?_; intro v3 w3 hown3 hg3; obtain ⟨GA3, gc3, rfl, _⟩ := own_reads hown3; have hbx := box_facts ((hg3.block _ HIG.out.lt (own_past HIG.out.h2 (Nat.lt_succ_self _))).trans HIG.out.hb); have p1 : w3.cell? ⟨w.heap.size + 1 + 1, 1, none⟩ = _ := hbx.2.1; have p2 : w3.frozen? ⟨w.heap.size + 1 + 1, 1, none⟩ = _ := hbx.2.2.2.2.1; clear hbx; have HI3 := Lib.hid (HIG.out.gate HK.out hown3 hg3); have HB3 := Lib.hid ((HB2.out.alloc (by omega) (.cells #[.int .i64 g.1, .int .i64 g.2.1, .int .i64 g.2.2.1, .int .u64 g.2.2.2] 69)).grown hg3 (by have h5 := HIG.out.lt; omega) (fun q hq => by have h5 := (HIG.out.h2.lt q hq).1; omega)); clear hown3 hg3))
            go_roundg (m - (k + 1))
            case measure => omega
            case rel => exact ⟨k + 1, _, xs, _, _, _, by omega, rfl, by go_num, HR.out, by simp; omega, HI3.out, HB3.out.setCell (by simp) _⟩
          · have hst2 : ¬ st.2.2 = [] := fun e => hxs (by have h5 := HI.out.hl; rw [e] at h5; simpa using h5)
            have hx0 : ((xs.length : Int) == 0) = false := by
              rw [beq_eq_false_iff_ne]
              intro e
              exact hxs (List.eq_nil_of_length_eq_zero (by omega))
            have hstep : stepL k st ln = (exitOf ln).map fun x => (st.1, st.2.1, st.2.2 ++ [x]) := by unfold stepL; rw [if_neg hk0, if_neg (fun e => hst2 e.2)]
            clear hgo hxs hst2
            obtain ⟨ga, gb, gc, gd⟩ := g
            cases hxo : exitOf ln with
            | none =>
              have HX : Hid (∀ W, Below wr.heap.size wr W → Calls Tryz.prog 64 #[.string ⟨ln.toArray⟩] W (ExitPostR none W)) := Lib.hid (fun W h => by have h5 := hxc W h; rw [hxo] at h5; exact h5)
              have HF : Hid (readOf p t = (([], [], []), k, 4)) := Lib.hid (by rw [HRD.out, hru.out, hstN (by rw [hstep, hxo]; rfl)])
              clear hstN hstS hxo hru hln hEr hxc hstep
              go_wp2_with (first | (go_at_call 63; refine HGC.out.mono ?_; rintro e w2 ⟨hb2, rfl⟩; have hbx := box_facts (HI.out.below hb2).hb; have q1 : w2.cell? ⟨w.heap.size + 1 + 1, 0, none⟩ = _ := hbx.1; have q2 : w2.cell? ⟨w.heap.size + 1 + 1, 1, none⟩ = _ := hbx.2.1; have q3 : w2.cell? ⟨w.heap.size + 1 + 1, 2, none⟩ = _ := hbx.2.2.1; have q4 : w2.frozen? ⟨w.heap.size + 1 + 1, 0, none⟩ = _ := hbx.2.2.2.1; have q5 : w2.frozen? ⟨w.heap.size + 1 + 1, 1, none⟩ = _ := hbx.2.2.2.2.1; have q6 : w2.frozen? ⟨w.heap.size + 1 + 1, 2, none⟩ = _ := hbx.2.2.2.2.2; clear hbx; have HB2 := Lib.hid (HB.out.trans ((hb2).mono (Nat.le_of_lt hszr))); have r0 := HB2.out.cell (p := ⟨w.heap.size, 0, none⟩) (by simp); have f0 := HB2.out.frozen (p := ⟨w.heap.size, 0, none⟩) (by simp); have r1 := HB2.out.cell (p := ⟨w.heap.size, 1, none⟩) (by simp); have f1 := HB2.out.frozen (p := ⟨w.heap.size, 1, none⟩) (by simp); have r2 := HB2.out.cell (p := ⟨w.heap.size, 2, none⟩) (by simp); have f2 := HB2.out.frozen (p := ⟨w.heap.size, 2, none⟩) (by simp); simp at r0 r1 r2 f0 f1 f2; have sz2 : w.heap.size + 1 + 1 < w2.heap.size := (by have h5 := (HI.out.below hb2).lt; omega); have n0 : ¬ w.heap.size = w2.heap.size := (by omega); have n1 : ¬ w.heap.size + 1 + 1 = w2.heap.size := (by omega); have n2 : w.heap.size < w2.heap.size := (by omega); have HGB2 := Lib.hid (hb2.alloc hb2.size (.cells #[.int .i64 ga, .int .i64 gb, .int .i64 gc, .int .u64 gd] 69)); clear hb2) | (go_at_call 64; refine (HX.out _ (HGB2.out)).mono ?_; rintro e w4 ⟨hb4, A, n, xc, D, m2, xd, rfl⟩; have hb24 := HGB2.out.trans (hb4.mono HGB2.out.size); clear q1 q2 q3 q4 q5 q6 r0 r1 r2 f0 f1 f2 sz2 n0 n1 n2 HB2; have hbx := box_facts (HI.out.below hb24).hb; have q1 : w4.cell? ⟨w.heap.size + 1 + 1, 0, none⟩ = _ := hbx.1; have q2 : w4.cell? ⟨w.heap.size + 1 + 1, 1, none⟩ = _ := hbx.2.1; have q3 : w4.cell? ⟨w.heap.size + 1 + 1, 2, none⟩ = _ := hbx.2.2.1; have q4 : w4.frozen? ⟨w.heap.size + 1 + 1, 0, none⟩ = _ := hbx.2.2.2.1; have q5 : w4.frozen? ⟨w.heap.size + 1 + 1, 1, none⟩ = _ := hbx.2.2.2.2.1; have q6 : w4.frozen? ⟨w.heap.size + 1 + 1, 2, none⟩ = _ := hbx.2.2.2.2.2; clear hbx; have HB2 := Lib.hid (HB.out.trans ((hb24).mono (Nat.le_of_lt hszr))); have r0 := HB2.out.cell (p := ⟨w.heap.size, 0, none⟩) (by simp); have f0 := HB2.out.frozen (p := ⟨w.heap.size, 0, none⟩) (by simp); have r1 := HB2.out.cell (p := ⟨w.heap.size, 1, none⟩) (by simp); have f1 := HB2.out.frozen (p := ⟨w.heap.size, 1, none⟩) (by simp); have r2 := HB2.out.cell (p := ⟨w.heap.size, 2, none⟩) (by simp); have f2 := HB2.out.frozen (p := ⟨w.heap.size, 2, none⟩) (by simp); simp at r0 r1 r2 f0 f1 f2; have sz2 : w.heap.size + 1 + 1 < w4.heap.size := (by have h5 := (HI.out.below hb24).lt; omega); have n0 : ¬ w.heap.size = w4.heap.size := (by omega); have n1 : ¬ w.heap.size + 1 + 1 = w4.heap.size := (by omega); have n2 : w.heap.size < w4.heap.size := (by omega); clear hb4 hb24))
              (try simp only [Exit.inBlock, Exit.then])
              refine bodyPost_ret (v := .tuple #[.agg #[.slice none 0 0, .slice none 0 0, .slice none 0 0], .int .i64 (k : Int), .int .i64 4]) ?_ rfl (err_read HF.out ⟨rfl, ?_⟩)
              · rw [results_cell_tmp2 rfl]
                go_simp
              · have hw := HW2.out.trans (HB2.out.mono (by simp)); repeat (first | exact hw | refine Below.drew ?_ | refine Below.alloc ?_ (by first | (simp; done) | omega | (simp; omega)) _ | refine Below.setCell ?_ (by first | (simp; done) | (show w.heap.size ≤ w.heap.size + 1 + 1; omega)) _)
            | some x =>
              have HX : Hid (∀ W, Below wr.heap.size wr W → Calls Tryz.prog 64 #[.string ⟨ln.toArray⟩] W (ExitPostR (some x) W)) := Lib.hid (fun W h => by have h5 := hxc W h; rw [hxo] at h5; exact h5)
              have HR := Lib.hid (hru.out.trans (hstS (st.1, st.2.1, st.2.2 ++ [x]) (by rw [hstep, hxo]; rfl)))
              clear hstN hstS hxo hru hln hEr hxc hstep
              go_wp2_with (first | (go_at_call 63; refine HGC.out.mono ?_; rintro e w2 ⟨hb2, rfl⟩; have hbx := box_facts (HI.out.below hb2).hb; have q1 : w2.cell? ⟨w.heap.size + 1 + 1, 0, none⟩ = _ := hbx.1; have q2 : w2.cell? ⟨w.heap.size + 1 + 1, 1, none⟩ = _ := hbx.2.1; have q3 : w2.cell? ⟨w.heap.size + 1 + 1, 2, none⟩ = _ := hbx.2.2.1; have q4 : w2.frozen? ⟨w.heap.size + 1 + 1, 0, none⟩ = _ := hbx.2.2.2.1; have q5 : w2.frozen? ⟨w.heap.size + 1 + 1, 1, none⟩ = _ := hbx.2.2.2.2.1; have q6 : w2.frozen? ⟨w.heap.size + 1 + 1, 2, none⟩ = _ := hbx.2.2.2.2.2; clear hbx; have HB2 := Lib.hid (HB.out.trans ((hb2).mono (Nat.le_of_lt hszr))); have r0 := HB2.out.cell (p := ⟨w.heap.size, 0, none⟩) (by simp); have f0 := HB2.out.frozen (p := ⟨w.heap.size, 0, none⟩) (by simp); have r1 := HB2.out.cell (p := ⟨w.heap.size, 1, none⟩) (by simp); have f1 := HB2.out.frozen (p := ⟨w.heap.size, 1, none⟩) (by simp); have r2 := HB2.out.cell (p := ⟨w.heap.size, 2, none⟩) (by simp); have f2 := HB2.out.frozen (p := ⟨w.heap.size, 2, none⟩) (by simp); simp at r0 r1 r2 f0 f1 f2; have sz2 : w.heap.size + 1 + 1 < w2.heap.size := (by have h5 := (HI.out.below hb2).lt; omega); have n0 : ¬ w.heap.size = w2.heap.size := (by omega); have n1 : ¬ w.heap.size + 1 + 1 = w2.heap.size := (by omega); have n2 : w.heap.size < w2.heap.size := (by omega); have HGB2 := Lib.hid (hb2.alloc hb2.size (.cells #[.int .i64 ga, .int .i64 gb, .int .i64 gc, .int .u64 gd] 69)); clear hb2) | (go_at_call 64; refine (HX.out _ (HGB2.out)).mono ?_; rintro e w4 ⟨hb4, A, xc, D, xd, rfl, hA, hD⟩; have hb24 := HGB2.out.trans (hb4.mono HGB2.out.size); clear q1 q2 q3 q4 q5 q6 r0 r1 r2 f0 f1 f2 sz2 n0 n1 n2 HB2; have hbx := box_facts (HI.out.below hb24).hb; have q1 : w4.cell? ⟨w.heap.size + 1 + 1, 0, none⟩ = _ := hbx.1; have q2 : w4.cell? ⟨w.heap.size + 1 + 1, 1, none⟩ = _ := hbx.2.1; have q3 : w4.cell? ⟨w.heap.size + 1 + 1, 2, none⟩ = _ := hbx.2.2.1; have q4 : w4.frozen? ⟨w.heap.size + 1 + 1, 0, none⟩ = _ := hbx.2.2.2.1; have q5 : w4.frozen? ⟨w.heap.size + 1 + 1, 1, none⟩ = _ := hbx.2.2.2.2.1; have q6 : w4.frozen? ⟨w.heap.size + 1 + 1, 2, none⟩ = _ := hbx.2.2.2.2.2; clear hbx; have HB2 := Lib.hid (HB.out.trans ((hb24).mono (Nat.le_of_lt hszr))); have r0 := HB2.out.cell (p := ⟨w.heap.size, 0, none⟩) (by simp); have f0 := HB2.out.frozen (p := ⟨w.heap.size, 0, none⟩) (by simp); have r1 := HB2.out.cell (p := ⟨w.heap.size, 1, none⟩) (by simp); have f1 := HB2.out.frozen (p := ⟨w.heap.size, 1, none⟩) (by simp); have r2 := HB2.out.cell (p := ⟨w.heap.size, 2, none⟩) (by simp); have f2 := HB2.out.frozen (p := ⟨w.heap.size, 2, none⟩) (by simp); simp at r0 r1 r2 f0 f1 f2; have sz2 : w.heap.size + 1 + 1 < w4.heap.size := (by have h5 := (HI.out.below hb24).lt; omega); have n0 : ¬ w.heap.size = w4.heap.size := (by omega); have n1 : ¬ w.heap.size + 1 + 1 = w4.heap.size := (by omega); have n2 : w.heap.size < w4.heap.size := (by omega); have szg := HGB2.out.size; have HIX := Lib.hid ((HI.out.below hb24).below ((Below.refl _ _).alloc (Nat.le_refl _) (.cells #[.slice A x.1.length xc, .slice D x.2.length xd] 72))); have HXA := Lib.hid ((own_lower hA (show w.heap.size + 3 ≤ _ by omega)).alloc (.cells #[.slice A x.1.length xc, .slice D x.2.length xd] 72)); have HXB := Lib.hid ((own_lower hD (show w.heap.size + 3 ≤ _ by omega)).alloc (.cells #[.slice A x.1.length xc, .slice D x.2.length xd] 72)); clear hb4 hb24 hA hD) | (at_builtin; refine app_cells (w.heap.size + 3) rfl _ _ 25 72 _ 2 48 rfl Tryz.underlying25 infoExi rfl (by decide) (by decide) (.slice EA0 xs.length ec0) xs.length _ [.slice A x.1.length xc, .slice D x.2.length xd] rfl _ rfl (by simp) rfl (by intro u hu; simp at hu; rcases hu with rfl | rfl <;> rfl) HIX.out.h3 (by have h5 := HIX.out.lt; omega) (by omega) ?_; intro v3 w3 hown3 hg3; obtain ⟨EA3, ec3, rfl, _⟩ := own_reads hown3; have hbx := box_facts ((hg3.block _ HIX.out.lt (own_past HIX.out.h3 (Nat.lt_succ_self _))).trans HIX.out.hb); have p1 : w3.cell? ⟨w.heap.size + 1 + 1, 2, none⟩ = _ := hbx.2.2.1; have p2 : w3.frozen? ⟨w.heap.size + 1 + 1, 2, none⟩ = _ := hbx.2.2.2.2.2; clear hbx; have HI3 := Lib.hid (HIX.out.exit (x := ⟨x.1, x.2, A, D, xc, xd⟩) HXA.out HXB.out hown3 hg3); have HB3 := Lib.hid ((HB2.out.alloc (by omega) (.cells #[.slice A x.1.length xc, .slice D x.2.length xd] 72)).grown hg3 (by have h5 := HIX.out.lt; omega) (fun q hq => by have h5 := (HIX.out.h3.lt q hq).1; omega)); clear hown3 hg3))
              go_roundg (m - (k + 1))
              case measure => omega
              case rel => exact ⟨k + 1, _, xs ++ [(⟨x.1, x.2, A, D, xc, xd⟩ : Exi)], _, _, _, by omega, rfl, by go_num, HR.out, by simp; omega, HI3.out, HB3.out.setCell (by simp) _⟩
    · obtain rfl : k = m := by omega
      have hend := runL_end (ls := (cut 10 t).dropLast) k st
      rw [hls] at hend
      have hres : readOf p t = if (cut 10 t).dropLast = [] ∨ (cut 10 t).getLastD [] ≠ [] then (([], [], []), k, 4) else if checkL p st ≠ 0 then (([], [], []), 0, checkL p st) else (st, 0, 0) := by
        rw [HRD.out, hru.out, hend, hls]
      have q0 := (HB.out.cell (p := ⟨w.heap.size + 1, k, none⟩) (by simp)).trans (HWC.out k (by omega))
      have hlast := last_at (cut 10 t) k hm
      rw [hlast] at hres
      have hnil : (cut 10 t).dropLast = [] ↔ k = 0 := by rw [← hls]; exact List.length_eq_zero_iff.symm
      have HB2 := HB
      clear HB
      have r0 := HB2.out.cell (p := ⟨w.heap.size, 0, none⟩) (by simp)
      have f0 := HB2.out.frozen (p := ⟨w.heap.size, 0, none⟩) (by simp)
      have r1 := HB2.out.cell (p := ⟨w.heap.size, 1, none⟩) (by simp)
      have f1 := HB2.out.frozen (p := ⟨w.heap.size, 1, none⟩) (by simp)
      have r2 := HB2.out.cell (p := ⟨w.heap.size, 2, none⟩) (by simp)
      have f2 := HB2.out.frozen (p := ⟨w.heap.size, 2, none⟩) (by simp)
      simp at r0 r1 r2 f0 f1 f2
      have hno : ¬ w.heap.size = w.heap.size + 1 + 1 := by omega
      generalize (cut 10 t)[k]'(by omega) = ln at q0 hres
      by_cases hbad : k = 0 ∨ ln ≠ []
      · have HF : Hid (readOf p t = (([], [], []), k, 4)) := Lib.hid (by rw [hres, if_pos (hbad.imp hnil.2 id)])
        clear hres hend hru hlast hnil HRD HRN HRS HPT HWC
        by_cases hk0 : k = 0
        · subst hk0
          go_wp2
          (try simp only [Exit.inBlock, Exit.then])
          refine bodyPost_ret (v := .tuple #[.agg #[.slice none 0 0, .slice none 0 0, .slice none 0 0], .int .i64 ((0 : Nat) : Int), .int .i64 4]) ?_ rfl (err_read HF.out ⟨rfl, ?_⟩)
          · rw [results_cell_tmp2 rfl]
            go_simp
          · have hw := HW2.out.trans (HB2.out.mono (by simp)); repeat (first | exact hw | refine Below.drew ?_ | refine Below.alloc ?_ (by first | (simp; done) | omega | (simp; omega)) _ | refine Below.setCell ?_ (by first | (simp; done) | (show w.heap.size ≤ w.heap.size + 1 + 1; omega)) _)
        · have hk1 : ((k : Int) == 0) = false := by simp; omega
          have hne : (ln == []) = false := by
            rw [beq_eq_false_iff_ne]
            exact hbad.resolve_left hk0
          clear hbad
          go_wp2
          (try simp only [Exit.inBlock, Exit.then])
          refine bodyPost_ret (v := .tuple #[.agg #[.slice none 0 0, .slice none 0 0, .slice none 0 0], .int .i64 (k : Int), .int .i64 4]) ?_ rfl (err_read HF.out ⟨rfl, ?_⟩)
          · rw [results_cell_tmp2 rfl]
            go_simp
          · have hw := HW2.out.trans (HB2.out.mono (by simp)); repeat (first | exact hw | refine Below.drew ?_ | refine Below.alloc ?_ (by first | (simp; done) | omega | (simp; omega)) _ | refine Below.setCell ?_ (by first | (simp; done) | (show w.heap.size ≤ w.heap.size + 1 + 1; omega)) _)
      · have hk0 : ¬ k = 0 := fun e => hbad (.inl e)
        have hln : ln = [] := Classical.byContradiction fun e => hbad (.inr e)
        have hk1 : ((k : Int) == 0) = false := by simp; omega
        rw [if_neg (fun e => hbad (e.imp hnil.1 id))] at hres
        subst hln
        have hbx := box_facts HI.out.hb
        have q1 : wr.cell? ⟨w.heap.size + 1 + 1, 0, none⟩ = _ := hbx.1
        have q2 : wr.cell? ⟨w.heap.size + 1 + 1, 1, none⟩ = _ := hbx.2.1
        have q3 : wr.cell? ⟨w.heap.size + 1 + 1, 2, none⟩ = _ := hbx.2.2.1
        obtain ⟨C, e1, e2, e3, hCl, hCW⟩ := HI.out.holds
        have hC := hCW wr HI.out
        have HCW := Lib.hid hCW
        clear hCW
        rw [e1] at q1
        rw [e2] at q2
        rw [e3] at q3
        have hck := check_any p hp C wr hC
        rw [← hCl, check_cl] at hres
        have HCL := Lib.hid hCl
        clear hbx hbad hnil hlast hend hru hC e1 e2 e3 HRD HRN HRS HPT HWC hCl
        by_cases hz : checkErr p C = 0
        · rw [hz] at hck hres
          have HRES : Hid (readOf p t = (C.l, 0, 0)) := Lib.hid (by rw [hres]; rfl)
          have HCK := Lib.hid hck
          clear hck hres hz
          go_wp2_with (first | (go_at_call 10; refine HCK.out.mono ?_; rintro e w5 ⟨rfl, hb5⟩; have HB3 := Lib.hid (HB2.out.trans (hb5.mono (Nat.le_of_lt hszr))); clear HB2; have HB2 := HB3; clear HB3; have q1 := (hb5.cell (p := ⟨w.heap.size + 1 + 1, 0, none⟩) (by omega)).trans q1; have q2 := (hb5.cell (p := ⟨w.heap.size + 1 + 1, 1, none⟩) (by omega)).trans q2; have q3 := (hb5.cell (p := ⟨w.heap.size + 1 + 1, 2, none⟩) (by omega)).trans q3; have HB5 := Lib.hid hb5; clear hb5; clear r0 r1 r2 f0 f1 f2; have r0 := HB2.out.cell (p := ⟨w.heap.size, 0, none⟩) (by simp); have f0 := HB2.out.frozen (p := ⟨w.heap.size, 0, none⟩) (by simp); have r1 := HB2.out.cell (p := ⟨w.heap.size, 1, none⟩) (by simp); have f1 := HB2.out.frozen (p := ⟨w.heap.size, 1, none⟩) (by simp); have r2 := HB2.out.cell (p := ⟨w.heap.size, 2, none⟩) (by simp); have f2 := HB2.out.frozen (p := ⟨w.heap.size, 2, none⟩) (by simp); simp at r0 r1 r2 f0 f1 f2))
          (try simp only [Exit.inBlock, Exit.then])
          refine bodyPost_ret (v := .tuple #[.agg #[.slice C.SA C.slots.length C.sc, .slice C.GA C.gates.length C.gc, .slice C.EA C.exits.length C.ec], .int .i64 0, .int .i64 0]) ?_ rfl ⟨?_, C, ?_, ?_, HCW.out _ ((((HI.out.below HB5.out).res 0 _).res 1 _).res 2 _)⟩
          · rw [results_cell_tmp2 rfl]
            go_simp
          · have hw := HW2.out.trans (HB2.out.mono (by simp)); repeat (first | exact hw | refine Below.drew ?_ | refine Below.alloc ?_ (by first | (simp; done) | omega | (simp; omega)) _ | refine Below.setCell ?_ (by first | (simp; done) | (show w.heap.size ≤ w.heap.size + 1 + 1; omega)) _)
          · rw [HRES.out]; rfl
          · rw [HRES.out]
        · have hres2 : readOf p t = (([], [], []), 0, checkErr p C) := by rw [hres, if_pos hz]
          have hz1 : (checkErr p C == 0) = false := by simpa using hz
          generalize checkErr p C = er at hck hres2 hz1
          have HF := Lib.hid hres2
          have HCK := Lib.hid hck
          clear hck hres hres2 hz
          go_wp2_with (first | (go_at_call 10; refine HCK.out.mono ?_; rintro e w5 ⟨rfl, hb5⟩; have HB3 := Lib.hid (HB2.out.trans (hb5.mono (Nat.le_of_lt hszr))); clear HB2; have HB2 := HB3; clear HB3; have q1 := (hb5.cell (p := ⟨w.heap.size + 1 + 1, 0, none⟩) (by omega)).trans q1; have q2 := (hb5.cell (p := ⟨w.heap.size + 1 + 1, 1, none⟩) (by omega)).trans q2; have q3 := (hb5.cell (p := ⟨w.heap.size + 1 + 1, 2, none⟩) (by omega)).trans q3; have HB5 := Lib.hid hb5; clear hb5; clear r0 r1 r2 f0 f1 f2; have r0 := HB2.out.cell (p := ⟨w.heap.size, 0, none⟩) (by simp); have f0 := HB2.out.frozen (p := ⟨w.heap.size, 0, none⟩) (by simp); have r1 := HB2.out.cell (p := ⟨w.heap.size, 1, none⟩) (by simp); have f1 := HB2.out.frozen (p := ⟨w.heap.size, 1, none⟩) (by simp); have r2 := HB2.out.cell (p := ⟨w.heap.size, 2, none⟩) (by simp); have f2 := HB2.out.frozen (p := ⟨w.heap.size, 2, none⟩) (by simp); simp at r0 r1 r2 f0 f1 f2))
          (try simp only [Exit.inBlock, Exit.then])
          refine bodyPost_ret (v := .tuple #[.agg #[.slice none 0 0, .slice none 0 0, .slice none 0 0], .int .i64 ((0 : Nat) : Int), .int .i64 er]) ?_ rfl (err_read HF.out ⟨rfl, ?_⟩)
          · rw [results_cell_tmp2 rfl]
            go_simp
          · have hw := HW2.out.trans (HB2.out.mono (by simp)); repeat (first | exact hw | refine Below.drew ?_ | refine Below.alloc ?_ (by first | (simp; done) | omega | (simp; omega)) _ | refine Below.setCell ?_ (by first | (simp; done) | (show w.heap.size ≤ w.heap.size + 1 + 1; omega)) _)
theorem read_any (p : Nat) (hp : p < 18446744073709551616) (t : Bs) (w : World) (hE : Env w) : Calls Tryz.prog 23 #[.int .u64 p, .string ⟨t.toArray⟩] w (ReadPost p t w) := by
  cases hP : isP p with
  | false => exact (read_p p hp hP t w).mono fun e w' h => err_read (i := 0) (er := 2) (by unfold readOf; rw [if_pos hP]) h
  | true =>
    by_cases ht : 4194304 < t.length
    · exact (read_big p hp hP t ht w).mono fun e w' h => err_read (i := 0) (er := 3) (by unfold readOf; rw [if_neg (by rw [hP]; simp), if_pos ht]) h
    · exact read_go p hp hP t (by omega) w hE
end Go.Proofs.YtmnbgamnbgdnnaaGreatDoor
