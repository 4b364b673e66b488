/- Contract of the reference's slotsOf; what its Read keeps in memory. (Printed by wip/tools/gen_red.py.) -/
import Derived.Test.YtmnbgamnbgdnnaaGreatDoorReC
import Derived.Test.YtmnbgamnbgdnnaaGreatDoorMg
namespace Go.Proofs.YtmnbgamnbgdnnaaGreatDoor
open Go.RowKit

set_option maxHeartbeats 4000000 in
set_option maxRecDepth 100000 in
theorem rslots_go (s h : Bs) (t : List Bs) (hs : s.length ≤ 4194304) (hlen : t.length ≤ 4194304) (hc : cut 32 s = h :: t) (w : World) (HSP : Hid (Calls Tryz.prog 93 #[.string ⟨s.toArray⟩] w (HeadPost h t w))) :
    Calls Tryz.prog 67 #[.string ⟨s.toArray⟩] w (SlotsPost (slotsOf s) w) := by
  by_cases hk0 : h = kwSlots
  · subst hk0
    have HS : Hid (∀ x ∈ t, x.length ≤ 281474976710656) := Lib.hid fun x hx => by
      have h1 := cut_part 32 s x (by rw [hc]; exact List.mem_cons_of_mem _ hx)
      omega
    go_enter Tryz.func67, Tryz.ntmps67
    go_wp2_with (first | (go_at_call 93; refine HSP.out.mono ?_; rintro e w1 ⟨g, c, rfl, hcap, z1, hw1, hb1⟩; have HSZ := Lib.hid hb1.size; have HBA := Lib.hid hb1; clear hb1; have HW := Lib.hid hw1; rw [show (⟨kwSlots.toArray⟩ : ByteArray) = ⟨#[115, 108, 111, 116, 115]⟩ from rfl] at z1; have hsl := (fun W => run_behind g t.length c hcap W); clear hw1 hcap; generalize behind g c = ad at HW hsl))
    go_loopg [5, 19] t.length (fun g v i wr => ∃ (k : Nat) (ys : List Slo), k ≤ t.length ∧ g = t.length - k ∧ i = .int .i64 k ∧ Hid (allOf slotOfW (t.take k) = some ys) ∧ wr.ownsRow w1.heap.size 54 2 v k (sloCells ys) ∧ Below w1.heap.size w1 wr)
    case atStart => exact ⟨0, [], Nat.zero_le _, rfl, rfl, rfl, World.ownsRow_nil _ _ _ _, Below.refl _ _⟩
    case round =>
      obtain ⟨k, ys, hk, rfl, rfl, hns, hown, hbel⟩ := hrel
      have HO := Lib.hid hown; clear hown
      have HB := Lib.hid hbel; clear hbel
      have hszr := HB.out.size
      by_cases hlt : k < t.length
      · have q0 := (HW.out.below HB.out) k hlt
        have hrl0 : t[k].length ≤ 281474976710656 := HS.out _ (List.getElem_mem hlt)
        cases hw : t[k] with
        | nil =>
          have hv : slotOfW t[k] = none := by rw [hw]; rfl
          have HN := Lib.hid (allOf_none hlt hv)
          rw [hw] at q0
          clear hv hw hns HO
          go_wp2
          go_ret2
          unfold SlotsPost
          rw [show slotsOf s = none from by rw [slotsOf_cut hc, HN.out]; split <;> rfl]
          exact ⟨HBA.out.trans (HB.out.mono HSZ.out), none, 0, 0, rfl⟩
        | cons c r =>
          rw [hw] at q0
          have hrl : r.length ≤ 281474976710656 := by rw [hw] at hrl0; simp only [List.length_cons] at hrl0; omega
          have hx : (⟨(c :: r).toArray⟩ : ByteArray).extract 1 (r.length + 1) = ⟨r.toArray⟩ := by
            have h1 := Lib.extract_to_end (⟨(c :: r).toArray⟩ : ByteArray) 1
            rw [show (⟨(c :: r).toArray⟩ : ByteArray).size = r.length + 1 from rfl] at h1
            have := ba_eq h1
            simpa using this
          clear hrl0
          have hix : ∀ h, ((⟨(c :: r).toArray⟩ : ByteArray)[0]'h) = c := fun _ => rfl
          by_cases h1 : c = 110
          · subst h1
            cases hn : valOf r with
            | none =>
              have hv : slotOfW t[k] = none := by rw [hw, slotOfW_cons, if_pos (by simp), hn]; rfl
              have HN := Lib.hid (allOf_none hlt hv)
              have hnum := rval_none r hn hrl wr
              rw [← hx] at hnum
              have HC := Lib.hid hnum
              clear hv hns HO hnum hn hw hx hrl
              go_wp2_with (first | (go_at_call 94; refine HC.out.mono ?_; rintro e w5 ⟨rfl, hb1⟩; have HB1 := Lib.hid hb1; clear hb1))
              go_ret2
              unfold SlotsPost
              rw [show slotsOf s = none from by rw [slotsOf_cut hc, HN.out]; split <;> rfl]
              exact ⟨HBA.out.trans ((HB.out.trans (HB1.out.mono (by omega))).mono HSZ.out), none, 0, 0, rfl⟩
            | some x =>
              have hv : slotOfW t[k] = some (Int.ofNat x, false) := by rw [hw, slotOfW_cons, if_pos (by simp), hn]; rfl
              have HN := Lib.hid (allOf_step hlt hns.out hv)
              have hnum := rval_some r x hn wr
              rw [← hx] at hnum
              have HC := Lib.hid hnum
              clear hv hns hnum hn hw hx hrl
              go_wp2_with (first | (go_at_call 94; refine HC.out.mono ?_; rintro e w5 ⟨rfl, hb1⟩; have hsz1 := hb1.size; have HO1 := Lib.hid (own_below HO.out hb1); have HB1 := Lib.hid (HB.out.trans (hb1.mono (by omega))); clear hb1) | (at_builtin; refine app_cells w1.heap.size rfl _ _ 23 54 _ 2 16 rfl Tryz.underlying23 infoSlo rfl (by decide) (by decide) u5 k _ [.int .i64 x, .bool false] rfl _ rfl rfl rfl (by intro u hu; simp at hu; rcases hu with rfl | rfl <;> rfl) HO1.out (by omega) (by omega) ?_; intro v3 w3 hown3 hg3; have HO3 := Lib.hid hown3; clear hown3; have HG3 := Lib.hid hg3; clear hg3))
              go_roundg (t.length - (k + 1))
              case measure => omega
              case rel => exact ⟨k + 1, ys ++ [(Int.ofNat x, false)], by omega, rfl, by go_num, HN.out, by rw [show sloCells (ys ++ [(Int.ofNat x, false)]) = sloCells ys ++ [.int .i64 x, .bool false] by simp [sloCells]]; exact HO3.out, HB1.out.grown HG3.out (by omega) (fun q hq => (HO1.out.lt q hq).1)⟩
          · by_cases h2 : c = 98
            · subst h2
              cases hn : valOf r with
              | none =>
                have hv : slotOfW t[k] = none := by rw [hw, slotOfW_cons, if_pos (by simp), hn]; rfl
                have HN := Lib.hid (allOf_none hlt hv)
                have hnum := rval_none r hn hrl wr
                rw [← hx] at hnum
                have HC := Lib.hid hnum
                clear hv hns HO hnum hn hw hx hrl
                go_wp2_with (first | (go_at_call 94; refine HC.out.mono ?_; rintro e w5 ⟨rfl, hb1⟩; have HB1 := Lib.hid hb1; clear hb1))
                go_ret2
                unfold SlotsPost
                rw [show slotsOf s = none from by rw [slotsOf_cut hc, HN.out]; split <;> rfl]
                exact ⟨HBA.out.trans ((HB.out.trans (HB1.out.mono (by omega))).mono HSZ.out), none, 0, 0, rfl⟩
              | some x =>
                have hv : slotOfW t[k] = some (Int.ofNat x, true) := by rw [hw, slotOfW_cons, if_pos (by simp), hn]; rfl
                have HN := Lib.hid (allOf_step hlt hns.out hv)
                have hnum := rval_some r x hn wr
                rw [← hx] at hnum
                have HC := Lib.hid hnum
                clear hv hns hnum hn hw hx hrl
                go_wp2_with (first | (go_at_call 94; refine HC.out.mono ?_; rintro e w5 ⟨rfl, hb1⟩; have hsz1 := hb1.size; have HO1 := Lib.hid (own_below HO.out hb1); have HB1 := Lib.hid (HB.out.trans (hb1.mono (by omega))); clear hb1) | (at_builtin; refine app_cells w1.heap.size rfl _ _ 23 54 _ 2 16 rfl Tryz.underlying23 infoSlo rfl (by decide) (by decide) u5 k _ [.int .i64 x, .bool true] rfl _ rfl rfl rfl (by intro u hu; simp at hu; rcases hu with rfl | rfl <;> rfl) HO1.out (by omega) (by omega) ?_; intro v3 w3 hown3 hg3; have HO3 := Lib.hid hown3; clear hown3; have HG3 := Lib.hid hg3; clear hg3))
                go_roundg (t.length - (k + 1))
                case measure => omega
                case rel => exact ⟨k + 1, ys ++ [(Int.ofNat x, true)], by omega, rfl, by go_num, HN.out, by rw [show sloCells (ys ++ [(Int.ofNat x, true)]) = sloCells ys ++ [.int .i64 x, .bool true] by simp [sloCells]]; exact HO3.out, HB1.out.grown HG3.out (by omega) (fun q hq => (HO1.out.lt q hq).1)⟩
            · have hv : slotOfW t[k] = none := by rw [hw, slotOfW_cons, if_neg (by simp [h1, h2])]
              have HN := Lib.hid (allOf_none hlt hv)
              have d1 : ¬ (c.toNat : Int) = 110 := fun e => h1 (UInt8.toNat_inj.1 (by simp; omega))
              have d2 : ¬ (c.toNat : Int) = 98 := fun e => h2 (UInt8.toNat_inj.1 (by simp; omega))
              have b1 : ((c.toNat : Int) != 110) = true := by simp [d1]
              have b2 : ((c.toNat : Int) != 98) = true := by simp [d2]
              clear hv hw hns HO h1 h2 hx
              go_wp2
              go_ret2
              unfold SlotsPost
              rw [show slotsOf s = none from by rw [slotsOf_cut hc, HN.out]; split <;> rfl]
              exact ⟨HBA.out.trans (HB.out.mono HSZ.out), none, 0, 0, rfl⟩
      · obtain rfl : k = t.length := by omega
        have hall := hns.out
        rw [List.take_length] at hall
        obtain ⟨A, c2, rfl, _⟩ := own_reads HO.out
        have HF := Lib.hid (show slotsOf s = some ys from by rw [slotsOf_cut hc, if_pos rfl, hall])
        have HL := Lib.hid (allOf_len hall)
        clear hall hns
        go_wp2
        go_ret2
        unfold SlotsPost; rw [HF.out]; exact ⟨HBA.out.trans (HB.out.mono HSZ.out), _, rfl, by rw [HL.out]; exact own_lower HO.out HSZ.out⟩
  · have HF := Lib.hid (show slotsOf s = none from by rw [slotsOf_cut hc, if_neg hk0])
    have hne : (h == [115, 108, 111, 116, 115]) = false := by
      rw [beq_eq_false_iff_ne]
      exact fun e => hk0 e
    go_enter Tryz.func67, Tryz.ntmps67
    go_wp2_with (first | (go_at_call 93; refine HSP.out.mono ?_; rintro e w1 ⟨g, c, rfl, hcap, z1, hw1, hb1⟩; have HBA := Lib.hid hb1; clear hb1 hw1 hcap))
    go_ret2
    unfold SlotsPost
    rw [HF.out]
    exact ⟨HBA.out, none, 0, 0, rfl⟩
theorem rslots_any (s : Bs) (hs : s.length ≤ 4194304) (w : World) :
    Calls Tryz.prog 67 #[.string ⟨s.toArray⟩] w (SlotsPost (slotsOf s) w) := by
  have hsp := parts_any s hs w
  cases hc : cut 32 s with
  | nil => exact absurd hc (cut_ne 32 s)
  | cons h t =>
    have hlen : t.length ≤ 4194304 := by
      have := cut_len 32 s
      rw [hc, List.length_cons] at this
      have : s.count 32 ≤ s.length := List.count_le_length
      omega
    rw [hc] at hsp
    exact rslots_go s h t hs hlen hc w (Lib.hid (hsp.mono (by rintro e w' ⟨v, rfl, k⟩; exact head_of k)))
/-- What holds while the lines are read: c lies in block B. -/
structure InvR (B : Nat) (st : Lis) (xs : List Exi) (v1 v2 v3 : Value) (W : World) : Prop where
  h1 : W.ownsRow (B + 1) 54 2 v1 st.1.length (sloCells st.1)
  h2 : W.ownsRow (B + 1) 69 4 v2 st.2.1.length (gatCells st.2.1)
  h3 : W.ownsRow (B + 1) 72 2 v3 xs.length (exiCells xs)
  hx : ∀ x ∈ xs, W.ownsRow (B + 1) 3 1 (.slice x.A x.tl.length x.c) x.tl.length (iCells x.tl) ∧ W.ownsRow (B + 1) 3 1 (.slice x.B x.gl.length x.d) x.gl.length (iCells x.gl)
  hb : W.heap[B]? = some (.cells #[v1, v2, v3] 27 (0, 0))
  hl : xs.map Exi.l = st.2.2
  hk : ∀ g ∈ st.2.1, 0 ≤ g.2.2.2
theorem InvR.lt {B : Nat} {st : Lis} {xs : List Exi} {v1 v2 v3 : Value} {W : World} (h : InvR B st xs v1 v2 v3 W) : B < W.heap.size := (Array.getElem?_eq_some_iff.1 h.hb).1
theorem InvR.below {B : Nat} {st : Lis} {xs : List Exi} {v1 v2 v3 : Value} {W W' : World} (h : InvR B st xs v1 v2 v3 W) (hb : Below W.heap.size W W') : InvR B st xs v1 v2 v3 W' :=
  ⟨own_below h.h1 hb, own_below h.h2 hb, own_below h.h3 hb, fun x hx => ⟨own_below (h.hx x hx).1 hb, own_below (h.hx x hx).2 hb⟩, (hb.block _ h.lt).trans h.hb, h.hl, h.hk⟩
theorem InvR.slots {B : Nat} {st : Lis} {xs : List Exi} {v1 v2 v3 v : Value} {W : World} (h : InvR B st xs v1 v2 v3 W) {l : List Slo} (ho : W.ownsRow (B + 1) 54 2 v l.length (sloCells l)) : InvR B (l, st.2.1, st.2.2) xs v v2 v3 (W.setCell ⟨B, 0, none⟩ v) :=
  ⟨own_set ho (Nat.lt_succ_self _) _, own_set h.h2 (Nat.lt_succ_self _) _, own_set h.h3 (Nat.lt_succ_self _) _, fun x hx => ⟨own_set (h.hx x hx).1 (Nat.lt_succ_self _) _, own_set (h.hx x hx).2 (Nat.lt_succ_self _) _⟩, box_set h.hb _, h.hl, h.hk⟩
theorem InvR.gate {B : Nat} {st : Lis} {xs : List Exi} {v1 v2 v3 v : Value} {W W3 : World} (h : InvR B st xs v1 v2 v3 W) {g : Gat} (hg0 : 0 ≤ g.2.2.2) (ho : W3.ownsRow (B + 1) 69 4 v (st.2.1.length + 1) (gatCells st.2.1 ++ [.int .i64 g.1, .int .i64 g.2.1, .int .i64 g.2.2.1, .int .u64 g.2.2.2])) (hg : W.grownBy W3 v2.ownBlock) :
    InvR B (st.1, st.2.1 ++ [g], st.2.2) xs v1 v v3 (W3.setCell ⟨B, 1, none⟩ v) := by
  refine ⟨own_set (h.h1.kept hg (own_ne h.h1 h.h2 (by decide))) (Nat.lt_succ_self _) _, ?_, own_set (h.h3.kept hg (own_ne h.h3 h.h2 (by decide))) (Nat.lt_succ_self _) _, fun x hx => ⟨own_set ((h.hx x hx).1.kept hg (own_ne (h.hx x hx).1 h.h2 (by decide))) (Nat.lt_succ_self _) _, own_set ((h.hx x hx).2.kept hg (own_ne (h.hx x hx).2 h.h2 (by decide))) (Nat.lt_succ_self _) _⟩, ?_, h.hl, ?_⟩
  · have := own_set ho (p := ⟨B, 1, none⟩) (Nat.lt_succ_self _) v
    rw [← gatCells_snoc] at this
    simpa using this
  · exact box_set ((hg.block _ h.lt (own_past h.h2 (Nat.lt_succ_self _))).trans h.hb) v
  · intro y hy
    rcases List.mem_append.1 hy with e | e
    · exact h.hk y e
    · rw [List.mem_singleton.1 e]; exact hg0
theorem InvR.exit {B : Nat} {st : Lis} {xs : List Exi} {v1 v2 v3 v : Value} {W W3 : World} (h : InvR B st xs v1 v2 v3 W) {x : Exi}
    (hA : W.ownsRow (B + 1) 3 1 (.slice x.A x.tl.length x.c) x.tl.length (iCells x.tl)) (hB : W.ownsRow (B + 1) 3 1 (.slice x.B x.gl.length x.d) x.gl.length (iCells x.gl))
    (ho : W3.ownsRow (B + 1) 72 2 v (xs.length + 1) (exiCells xs ++ [.slice x.A x.tl.length x.c, .slice x.B x.gl.length x.d])) (hg : W.grownBy W3 v3.ownBlock) :
    InvR B (st.1, st.2.1, st.2.2 ++ [x.l]) (xs ++ [x]) v1 v2 v (W3.setCell ⟨B, 2, none⟩ v) := by
  refine ⟨own_set (h.h1.kept hg (own_ne h.h1 h.h3 (by decide))) (Nat.lt_succ_self _) _, own_set (h.h2.kept hg (own_ne h.h2 h.h3 (by decide))) (Nat.lt_succ_self _) _, ?_, fun y hy => ?_, ?_, ?_, h.hk⟩
  · have := own_set ho (p := ⟨B, 2, none⟩) (Nat.lt_succ_self _) v
    rw [← exiCells_snoc] at this
    simpa using this
  · rcases List.mem_append.1 hy with e | e
    · exact ⟨own_set ((h.hx y e).1.kept hg (own_ne (h.hx y e).1 h.h3 (by decide))) (Nat.lt_succ_self _) _, own_set ((h.hx y e).2.kept hg (own_ne (h.hx y e).2 h.h3 (by decide))) (Nat.lt_succ_self _) _⟩
    · rw [List.mem_singleton.1 e]
      exact ⟨own_set (hA.kept hg (own_ne hA h.h3 (by decide))) (Nat.lt_succ_self _) _, own_set (hB.kept hg (own_ne hB h.h3 (by decide))) (Nat.lt_succ_self _) _⟩
  · exact box_set ((hg.block _ h.lt (own_past h.h3 (Nat.lt_succ_self _))).trans h.hb) v
  · rw [List.map_append, h.hl]; rfl
/-- The circuit that lies in memory once the lines are read. -/
theorem InvR.holds {B : Nat} {st : Lis} {xs : List Exi} {v1 v2 v3 : Value} {W : World} (h : InvR B st xs v1 v2 v3 W) :
    ∃ C : Cir, v1 = .slice C.SA C.slots.length C.sc ∧ v2 = .slice C.GA C.gates.length C.gc ∧ v3 = .slice C.EA C.exits.length C.ec ∧ C.l = st ∧ ∀ W', InvR B st xs v1 v2 v3 W' → HoldsC W' C := by
  obtain ⟨S, sc, rfl, _⟩ := own_reads h.h1
  obtain ⟨G, gc, rfl, _⟩ := own_reads h.h2
  obtain ⟨E, ec, rfl, _⟩ := own_reads h.h3
  have hm : maxLen ≤ 9223372036854775807 := by unfold maxLen; omega
  refine ⟨⟨st.1, st.2.1, xs, S, G, E, sc, gc, ec⟩, rfl, rfl, rfl, by unfold Cir.l; simp only; rw [h.hl], fun W' h' => ⟨own_reads_at h'.h1, own_reads_at h'.h2, own_reads_at h'.h3, fun x hx => ⟨own_reads_at (h'.hx x hx).1, own_reads_at (h'.hx x hx).2⟩, ⟨Nat.le_trans (own_len h.h1) hm, Nat.le_trans (own_len h.h2) hm, Nat.le_trans (own_len h.h3) hm⟩, fun x hx => ⟨Nat.le_trans (own_len (h.hx x hx).1) hm, Nat.le_trans (own_len (h.hx x hx).2) hm⟩, h.hk⟩⟩
theorem InvR.res {B b : Nat} {st : Lis} {xs : List Exi} {v1 v2 v3 : Value} {W : World} (h : InvR B st xs v1 v2 v3 W) (hb : b < B) (i : Nat) (u : Value) : InvR B st xs v1 v2 v3 (W.setCell ⟨b, i, none⟩ u) :=
  ⟨own_set h.h1 (by simp only; omega) _, own_set h.h2 (by simp only; omega) _, own_set h.h3 (by simp only; omega) _, fun x hx => ⟨own_set (h.hx x hx).1 (by simp only; omega) _, own_set (h.hx x hx).2 (by simp only; omega) _⟩, (Below.heap_setCell _ _ _ _ (by simp only; omega)).trans h.hb, h.hl, h.hk⟩

end Go.Proofs.YtmnbgamnbgdnnaaGreatDoor
