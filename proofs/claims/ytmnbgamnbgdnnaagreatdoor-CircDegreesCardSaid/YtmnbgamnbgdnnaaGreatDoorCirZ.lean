/- Contract of circ.readSlots. -/
import Derived.Test.YtmnbgamnbgdnnaaGreatDoorCirY
namespace Go.Proofs.YtmnbgamnbgdnnaaGreatDoor
open Go.RowKit

theorem infoSlo : (Tryz.prog.info? 54).map (fun i => (i.zero, i.size, i.bytes)) = some (some (.agg #[.int .i64 0, .bool false]), 2, 16) := by kernel_rfl
def SlotsPost (o : Option (List Slo)) (w : World) (e : Ending) (w' : World) : Prop :=
  Below w.heap.size w w' ∧ match o with
    | none => ∃ A n c, e = .returned (.tuple #[.slice A n c, .bool false])
    | some l => ∃ v, e = .returned (.tuple #[v, .bool true]) ∧ w'.ownsRow w.heap.size 54 2 v l.length (sloCells l)
/-- Where the words behind the first one lie. -/
def tailAd (g n : Nat) : Addr := if n = 0 then ⟨g, 0, none⟩ else ⟨g, 1, none⟩
theorem words_new (w : World) (l : List Bs) (h : Bs) : Words (w.alloc (.cells (sCells (h :: l)).toArray 9)) (tailAd w.heap.size l.length) l := by
  intro k hk
  have e : (tailAd w.heap.size l.length).add k = ⟨w.heap.size, 1 + k, none⟩ := by
    unfold tailAd
    rw [if_neg (by omega)]
    unfold Addr.add; split <;> simp_all
  rw [e, World.cell?_alloc_new]
  simp [sCells, List.getElem?_eq_getElem hk, show 1 + k = k + 1 by omega]
theorem word_zero (w : World) (l : List Bs) (h : Bs) : (w.alloc (.cells (sCells (h :: l)).toArray 9)).cell? ⟨w.heap.size, 0, none⟩ = some (.string ⟨h.toArray⟩) := by
  rw [World.cell?_alloc_new]
  simp [sCells]
theorem run_tail (g n : Nat) (W : World) : (Instr.sliceAt 94 (.slice (some ⟨g, 0, none⟩) (n + 1) (n + 1)) (some (.int .i64 1)) none none).run Tryz.prog W = .ok (.slice (some (tailAd g n)) n n) W := by
  have hu : Tryz.prog.underlying 94 = some (.slice (Tryz.prog.elem 94)) := by kernel_rfl
  have hz : ∀ W, (sizeOf (Tryz.prog.elem 94)).run Tryz.prog W = .ok 1 W := fun W => by
    have : Tryz.prog.elem 94 = 9 := by kernel_rfl
    rw [this]
    exact Tryz.sizeOf9 W
  rw [run_sliceAt_slice (h := hu), run_slice_l (ht := hu) (h0 := by omega) (h1 := by omega), hz]
  simp only [Result.andThen, sliced, tailAd, Option.map]
  by_cases h : n = 0
  · subst h; rfl
  · rw [if_neg (by omega), if_neg h]
    rfl
theorem slotsOf_cut {s h : Bs} {t : List Bs} (hc : cut 32 s = h :: t) : slotsOf s = if h = kwSlots then allOf slotOfW t else none := by unfold slotsOf; rw [hc]; rfl
theorem slotOfW_cons (c : UInt8) (r : Bs) : slotOfW (c :: r) = if c = 110 ∨ c = 98 then (valOf r).map fun (n : Nat) => (Int.ofNat n, decide (c = 98)) else none := rfl
theorem cut_part (c : UInt8) (s : Bs) : ∀ x ∈ cut c s, x.length ≤ s.length := by
  induction s with
  | nil => intro x hx; have := List.mem_singleton.1 hx; subst this; simp
  | cons a r ih =>
    intro x hx
    unfold cut at hx
    split at hx
    · rcases List.mem_cons.1 hx with e | e
      · subst e; simp
      · have := ih x e
        simp only [List.length_cons]; omega
    · cases e : cut c r with
      | nil => exact absurd e (cut_ne c r)
      | cons y ys =>
        rw [e] at hx ih
        rcases List.mem_cons.1 hx with e | e
        · subst e
          have := ih y (List.mem_cons_self ..)
          simp only [List.length_cons]; omega
        · have := ih x (List.mem_cons_of_mem _ e)
          simp only [List.length_cons]; omega
set_option maxHeartbeats 2000000 in
set_option maxRecDepth 100000 in
theorem readSlots_any (s : Bs) (hs : s.length ≤ 4194304) (w : World) (hE : Env w) :
    Calls Tryz.prog 62 #[.string ⟨s.toArray⟩] w (SlotsPost (slotsOf s) w) := by
  have hsp := split_any s 32 w (by omega)
  cases hc : cut 32 s with
  | nil => exact absurd hc (cut_ne 32 s)
  | cons h t =>
    have hlen : t.length ≤ 4194304 := by
      have := cut_len 32 s
      rw [hc, List.length_cons] at this
      have : s.count 32 ≤ s.length := List.count_le_length
      omega
    rw [hc, List.length_cons] at hsp
    have HSP := Lib.hid hsp; clear hsp
    have HW := Lib.hid (words_new w t h)
    have HZ := Lib.hid (word_zero w t h)
    have HBA := Lib.hid ((Below.refl w.heap.size w).alloc (Nat.le_refl _) (.cells (sCells (h :: t)).toArray 9))
    have HE := Lib.hid hE; clear hE
    have hsl := fun W => run_tail w.heap.size t.length W
    generalize tailAd w.heap.size t.length = ad at HW hsl
    have HS : Hid (∀ x ∈ t, x.length ≤ 281474976710656) := Lib.hid fun x hx => by
      have h1 := cut_part 32 s x (by rw [hc]; exact List.mem_cons_of_mem _ hx)
      omega
    go_enter Tryz.func62, Tryz.ntmps62
    go_wp2_with (first | (go_at_call 61; refine HSP.out.mono ?_; rintro e w1 ⟨rfl, rfl⟩))
    go_loopg [5, 15] t.length (fun g v i wr => ∃ (k : Nat) (ys : List Slo), k ≤ t.length ∧ g = t.length - k ∧ i = .int .i64 k ∧ Hid (allOf slotOfW (t.take k) = some ys) ∧ wr.ownsRow (w.heap.size + 1) 54 2 v k (sloCells ys) ∧ Below (w.heap.size + 1) (w.alloc (.cells (sCells (h :: t)).toArray 9)) wr)
    case atStart => exact ⟨0, [], Nat.zero_le _, rfl, rfl, rfl, World.ownsRow_nil _ _ _ _, Below.refl _ _⟩
    case round =>
      obtain ⟨k, ys, hk, rfl, rfl, hns, hown, hbel⟩ := hrel
      have HO := Lib.hid hown; clear hown
      have HB := Lib.hid hbel; clear hbel
      have hszr := HB.out.size
      simp at hszr
      by_cases hlt : k < t.length
      · have q0 := (HW.out.below (by simpa using HB.out)) k hlt
        have hrl0 : t[k].length ≤ 281474976710656 := HS.out _ (List.getElem_mem hlt)
        cases hw : t[k] with
        | nil =>
          have hv : slotOfW t[k] = none := by rw [hw]; rfl
          have HN := Lib.hid (allOf_none hlt hv)
          rw [hw] at q0
          clear hv hw hns HO
          go_wp2
          go_ret2
          unfold SlotsPost
          rw [show slotsOf s = none from by unfold slotsOf; rw [hc]; simp only [List.tail_cons, HN.out]; split <;> rfl]
          exact ⟨below_box (HB.out.mono (by simp)), none, 0, 0, rfl⟩
        | cons c r =>
          rw [hw] at q0
          have hrl : r.length ≤ 281474976710656 := by rw [hw] at hrl0; simp only [List.length_cons] at hrl0; omega
          have hx : (⟨(c :: r).toArray⟩ : ByteArray).extract 1 (r.length + 1) = ⟨r.toArray⟩ := by
            have h1 := Lib.extract_to_end (⟨(c :: r).toArray⟩ : ByteArray) 1
            rw [show (⟨(c :: r).toArray⟩ : ByteArray).size = r.length + 1 from rfl] at h1
            have := ba_eq h1
            simpa using this
          clear hrl0
          have hix : ∀ h, ((⟨(c :: r).toArray⟩ : ByteArray)[0]'h) = c := fun _ => rfl
          by_cases h1 : c = 110
          · subst h1
            cases hn : valOf r with
            | none =>
              have hv : slotOfW t[k] = none := by rw [hw, slotOfW_cons, if_pos (by simp), hn]; rfl
              have HN := Lib.hid (allOf_none hlt hv)
              have hnum := number_none r hn hrl wr (HE.out.below (HBA.out.trans (HB.out.mono (by simp))))
              rw [← hx] at hnum
              have HC := Lib.hid hnum
              clear hv hns HO hnum hn hw hx hrl
              go_wp2_with (first | (go_at_call 91; refine HC.out.mono ?_; rintro e w1 ⟨n, rfl, hb1⟩; have HB1 := Lib.hid hb1; clear hb1))
              go_ret2
              unfold SlotsPost
              rw [show slotsOf s = none from by unfold slotsOf; rw [hc]; simp only [List.tail_cons, HN.out]; split <;> rfl]
              exact ⟨below_box ((HB.out.trans (HB1.out.mono (by omega))).mono (by simp)), none, 0, 0, rfl⟩
            | some x =>
              have hv : slotOfW t[k] = some (Int.ofNat x, false) := by rw [hw, slotOfW_cons, if_pos (by simp), hn]; rfl
              have HN := Lib.hid (allOf_step hlt hns.out hv)
              have hnum := number_some r x hn wr (HE.out.below (HBA.out.trans (HB.out.mono (by simp))))
              rw [← hx] at hnum
              have HC := Lib.hid hnum
              clear hv hns hnum hn hw hx hrl
              go_wp2_with (first | (go_at_call 91; refine HC.out.mono ?_; rintro e w1 ⟨rfl, hb1⟩; have hsz1 := hb1.size; have HO1 := Lib.hid (own_below HO.out hb1); have HB1 := Lib.hid (HB.out.trans (hb1.mono (by omega))); clear hb1) | (at_builtin; refine app_cells (w.heap.size + 1) rfl _ _ 23 54 _ 2 16 rfl Tryz.underlying23 infoSlo rfl (by decide) (by decide) u5 k _ [.int .i64 x, .bool false] rfl _ rfl rfl rfl (by intro u hu; simp at hu; rcases hu with rfl | rfl <;> rfl) HO1.out (by omega) (by omega) ?_; intro v3 w3 hown3 hg3; have HO3 := Lib.hid hown3; clear hown3; have HG3 := Lib.hid hg3; clear hg3))
              go_roundg (t.length - (k + 1))
              case measure => omega
              case rel => exact ⟨k + 1, ys ++ [(Int.ofNat x, false)], by omega, rfl, by go_num, HN.out, by rw [show sloCells (ys ++ [(Int.ofNat x, false)]) = sloCells ys ++ [.int .i64 x, .bool false] by simp [sloCells]]; exact HO3.out, HB1.out.grown HG3.out (by omega) (fun q hq => (HO1.out.lt q hq).1)⟩
          · by_cases h2 : c = 98
            · subst h2
              cases hn : valOf r with
              | none =>
                have hv : slotOfW t[k] = none := by rw [hw, slotOfW_cons, if_pos (by simp), hn]; rfl
                have HN := Lib.hid (allOf_none hlt hv)
                have hnum := number_none r hn hrl wr (HE.out.below (HBA.out.trans (HB.out.mono (by simp))))
                rw [← hx] at hnum
                have HC := Lib.hid hnum
                clear hv hns HO hnum hn hw hx hrl
                go_wp2_with (first | (go_at_call 91; refine HC.out.mono ?_; rintro e w1 ⟨n, rfl, hb1⟩; have HB1 := Lib.hid hb1; clear hb1))
                go_ret2
                unfold SlotsPost
                rw [show slotsOf s = none from by unfold slotsOf; rw [hc]; simp only [List.tail_cons, HN.out]; split <;> rfl]
                exact ⟨below_box ((HB.out.trans (HB1.out.mono (by omega))).mono (by simp)), none, 0, 0, rfl⟩
              | some x =>
                have hv : slotOfW t[k] = some (Int.ofNat x, true) := by rw [hw, slotOfW_cons, if_pos (by simp), hn]; rfl
                have HN := Lib.hid (allOf_step hlt hns.out hv)
                have hnum := number_some r x hn wr (HE.out.below (HBA.out.trans (HB.out.mono (by simp))))
                rw [← hx] at hnum
                have HC := Lib.hid hnum
                clear hv hns hnum hn hw hx hrl
                go_wp2_with (first | (go_at_call 91; refine HC.out.mono ?_; rintro e w1 ⟨rfl, hb1⟩; have hsz1 := hb1.size; have HO1 := Lib.hid (own_below HO.out hb1); have HB1 := Lib.hid (HB.out.trans (hb1.mono (by omega))); clear hb1) | (at_builtin; refine app_cells (w.heap.size + 1) rfl _ _ 23 54 _ 2 16 rfl Tryz.underlying23 infoSlo rfl (by decide) (by decide) u5 k _ [.int .i64 x, .bool true] rfl _ rfl rfl rfl (by intro u hu; simp at hu; rcases hu with rfl | rfl <;> rfl) HO1.out (by omega) (by omega) ?_; intro v3 w3 hown3 hg3; have HO3 := Lib.hid hown3; clear hown3; have HG3 := Lib.hid hg3; clear hg3))
                go_roundg (t.length - (k + 1))
                case measure => omega
                case rel => exact ⟨k + 1, ys ++ [(Int.ofNat x, true)], by omega, rfl, by go_num, HN.out, by rw [show sloCells (ys ++ [(Int.ofNat x, true)]) = sloCells ys ++ [.int .i64 x, .bool true] by simp [sloCells]]; exact HO3.out, HB1.out.grown HG3.out (by omega) (fun q hq => (HO1.out.lt q hq).1)⟩
            · have hv : slotOfW t[k] = none := by rw [hw, slotOfW_cons, if_neg (by simp [h1, h2])]
              have HN := Lib.hid (allOf_none hlt hv)
              have d1 : ¬ (c.toNat : Int) = 110 := fun e => h1 (UInt8.toNat_inj.1 (by simp; omega))
              have d2 : ¬ (c.toNat : Int) = 98 := fun e => h2 (UInt8.toNat_inj.1 (by simp; omega))
              have b1 : ((c.toNat : Int) != 110) = true := by simp [d1]
              have b2 : ((c.toNat : Int) != 98) = true := by simp [d2]
              clear hv hw hns HO h1 h2 hx
              go_wp2
              go_ret2
              unfold SlotsPost
              rw [show slotsOf s = none from by unfold slotsOf; rw [hc]; simp only [List.tail_cons, HN.out]; split <;> rfl]
              exact ⟨below_box (HB.out.mono (by simp)), none, 0, 0, rfl⟩
      · obtain rfl : k = t.length := by omega
        have hall := hns.out
        rw [List.take_length] at hall
        have z0 := (HB.out.cell (p := ⟨w.heap.size, 0, none⟩) (by simp)).trans HZ.out
        obtain ⟨A, c2, rfl, _⟩ := own_reads HO.out
        by_cases hk : h = kwSlots
        · have HF := Lib.hid (show slotsOf s = some ys from by rw [slotsOf_cut hc, if_pos hk, hall])
          have HL := Lib.hid (allOf_len hall)
          subst hk
          have z1 : wr.cell? ⟨w.heap.size, 0, none⟩ = some (.string ⟨#[115, 108, 111, 116, 115]⟩) := z0
          clear z0 hall hns
          go_wp2
          go_quiet (fail)
          all_goals (try go_wp2)
          all_goals go_ret2
          all_goals (unfold SlotsPost; rw [HF.out]; exact ⟨below_drewN (below_box (HB.out.mono (by simp))) _, _, rfl, by rw [HL.out]; exact own_lower HO.out (Nat.le_succ _)⟩)
        · have HF := Lib.hid (show slotsOf s = none from by rw [slotsOf_cut hc, if_neg hk])
          have hne : (h == [115, 108, 111, 116, 115]) = false := by
            rw [beq_eq_false_iff_ne]
            exact fun e => hk e
          clear hall hns hk
          go_wp2
          go_quiet (fail)
          all_goals (try go_wp2)
          all_goals go_ret2
          all_goals (unfold SlotsPost; rw [HF.out]; exact ⟨below_drewN (below_box (HB.out.mono (by simp))) _, _, _, _, rfl⟩)
end Go.Proofs.YtmnbgamnbgdnnaaGreatDoor
