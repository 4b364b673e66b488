/- Contract of circ.readExit where the line has a colon. (Printed by wip/tools/gen_rexit2.py.) -/
import Derived.Test.YtmnbgamnbgdnnaaGreatDoorCjD
namespace Go.Proofs.YtmnbgamnbgdnnaaGreatDoor
open Go.RowKit

def restAd (g n u : Nat) : Addr := if n = u + 1 then ⟨g, 0, none⟩ else ⟨g, u + 2, none⟩
theorem under94 : Tryz.prog.underlying 94 = some (.slice (Tryz.prog.elem 94)) := by kernel_rfl
theorem size94 (W : World) : (sizeOf (Tryz.prog.elem 94)).run Tryz.prog W = .ok 1 W := by
  have : Tryz.prog.elem 94 = 9 := by kernel_rfl
  rw [this]
  exact Tryz.sizeOf9 W
theorem run_who (g n u : Nat) (h1 : 1 ≤ u) (h2 : u < n) (W : World) : (Instr.sliceAt 94 (.slice (some ⟨g, 0, none⟩) (n + 1) (n + 1)) (some (.int .i64 1)) (some (.int .i64 ((u : Int) + 1))) none).run Tryz.prog W = .ok (.slice (some ⟨g, 1, none⟩) u n) W := by
  rw [run_sliceAt_slice (h := under94), run_slice_lh (ht := under94) (h0 := by omega) (h1 := by omega) (h2 := by omega), size94]
  simp only [Result.andThen, sliced, Option.map]
  rw [if_neg (by omega)]
  have e1 : ((u : Int) + 1).toNat - Int.toNat 1 = u := by omega
  have e2 : n + 1 - Int.toNat 1 = n := by omega
  rw [e1, e2]
  rfl
theorem run_rest (g n u : Nat) (h2 : u < n) (W : World) : (Instr.sliceAt 94 (.slice (some ⟨g, 0, none⟩) (n + 1) (n + 1)) (some (.int .i64 ((u : Int) + 1 + 1))) none none).run Tryz.prog W = .ok (.slice (some (restAd g n u)) (n - (u + 1)) (n - (u + 1))) W := by
  rw [run_sliceAt_slice (h := under94), run_slice_l (ht := under94) (h0 := by omega) (h1 := by omega), size94]
  have e1 : ((u : Int) + 1 + 1).toNat = u + 2 := by omega
  simp only [Result.andThen, sliced, Option.map, e1]
  rw [show n + 1 - (u + 2) = n - (u + 1) by omega]
  unfold restAd
  by_cases h : n = u + 1
  · rw [if_pos (by omega), if_pos h]
  · rw [if_neg (by omega), if_neg h]
    simp [Addr.add]
theorem add_row (g a k : Nat) (h : 0 < a) : (⟨g, a, none⟩ : Addr).add k = ⟨g, a + k, none⟩ := by unfold Addr.add; split <;> simp_all
theorem words_who (w : World) (h : Bs) (t : List Bs) (u : Nat) : Words (w.alloc (.cells (sCells (h :: t)).toArray 9)) ⟨w.heap.size, 1, none⟩ (t.take u) := by
  intro k hk
  have hk2 : k < t.length := by rw [List.length_take] at hk; omega
  have h1 := word_cell w (h :: t) (k + 1) (by simp; omega)
  rw [add_row _ _ _ (by omega), Nat.add_comm 1 k, h1]
  simp
theorem words_rest (w : World) (h : Bs) (t : List Bs) (u : Nat) : Words (w.alloc (.cells (sCells (h :: t)).toArray 9)) (restAd w.heap.size t.length u) (t.drop (u + 1)) := by
  intro k hk
  have hk2 : u + 1 + k < t.length := by rw [List.length_drop] at hk; omega
  have h1 := word_cell w (h :: t) (u + 2 + k) (by simp; omega)
  unfold restAd
  rw [if_neg (by omega), add_row _ _ _ (by omega), h1]
  simp [show u + 2 + k = u + 1 + k + 1 by omega]
theorem List.take_one_eq {α : Type} {l : List α} (h : 0 < l.length) : l.take 1 = [l[0]'h] := by
  cases l with
  | nil => simp at h
  | cons x r => rfl
def XPost (o1 o2 : Option (List Nat)) (b1 b2 : Bool) (w : World) (e : Ending) (w' : World) : Prop :=
  Below w.heap.size w w' ∧ ∃ A n c B m d, e = .returned (.tuple #[.agg #[.slice A n c, .slice B m d], .bool (b1 && b2)]) ∧ (∀ ns, o1 = some ns → w'.ownsRow w.heap.size 3 1 (.slice A n c) ns.length (iCells (ns.map Int.ofNat))) ∧ (∀ ns, o2 = some ns → w'.ownsRow w.heap.size 3 1 (.slice B m d) ns.length (iCells (ns.map Int.ofNat)))
theorem xpost_end {o1 o2 : Option (List Nat)} {b1 b2 : Bool} {w w3 w4 : World} {A B : Option Addr} {n m c d x y : Nat} {u1 u2 : Value} (h0 : Below w.heap.size w w4) (h3 : Below w3.heap.size w3 w4)
    (h1 : ∀ ns, o1 = some ns → w3.ownsRow x 3 1 (.slice A n c) ns.length (iCells (ns.map Int.ofNat))) (h2 : ∀ ns, o2 = some ns → w4.ownsRow y 3 1 (.slice B m d) ns.length (iCells (ns.map Int.ofNat))) (hx : w.heap.size < x) (hy : w.heap.size < y) :
    XPost o1 o2 b1 b2 w (.returned (.tuple #[.agg #[.slice A n c, .slice B m d], .bool (b1 && b2)])) ((w4.setCell ⟨w.heap.size, 0, none⟩ u1).setCell ⟨w.heap.size, 1, none⟩ u2) :=
  ⟨(h0.setCell (Nat.le_refl _) _).setCell (Nat.le_refl _) _, A, n, c, B, m, d, rfl,
    fun ns h => own_lower (own_set (own_set (own_below (h1 ns h) h3) hx _) hx _) (Nat.le_of_lt hx),
    fun ns h => own_lower (own_set (own_set (h2 ns h) hy _) hy _) (Nat.le_of_lt hy)⟩
set_option maxHeartbeats 4000000 in
set_option maxRecDepth 100000 in
theorem readExit_many (s : Bs) (hs : s.length ≤ 4194304) (w : World) (hE : Env w) (t : List Bs) (hc : cut 32 s = kwOut :: t) (u : Nat) (hu : upTo t = u) (h1 : 1 ≤ u) (h2 : u < t.length) (o1 o2 : Option (List Nat)) (b1 b2 : Bool) (hb1 : o1.isSome = b1) (hb2 : o2.isSome = b2) (ho2 : allOf valOf (t.drop (u + 1)) = o2) (hne : ¬ u = 1) (ho1 : allOf valOf (t.take u) = o1) :
    Calls Tryz.prog 64 #[.string ⟨s.toArray⟩] w (XPost o1 o2 b1 b2 w) := by
  have hlen : t.length ≤ 4194304 := by
    have := cut_len 32 s
    rw [hc, List.length_cons] at this
    have : s.count 32 ≤ s.length := List.count_le_length
    omega
  have hW0 : Below w.heap.size w (w.alloc (.cells #[.slice none 0 0, .slice none 0 0] 72)) := (Below.refl _ _).alloc (Nat.le_refl _) _
  have hsp := split_any s 32 (w.alloc (.cells #[.slice none 0 0, .slice none 0 0] 72)) (by omega)
  rw [hc, List.length_cons] at hsp
  have hwc := word_cell (w.alloc (.cells #[.slice none 0 0, .slice none 0 0] 72)) (kwOut :: t)
  have hw1 := words_who (w.alloc (.cells #[.slice none 0 0, .slice none 0 0] 72)) kwOut t u
  have hw2 := words_rest (w.alloc (.cells #[.slice none 0 0, .slice none 0 0] 72)) kwOut t u
  have hbb := (Below.refl (w.alloc (.cells #[.slice none 0 0, .slice none 0 0] 72)).heap.size _).alloc (Nat.le_refl _) (.cells (sCells (kwOut :: t)).toArray 9)
  have hE2 := (hE.below hW0).below hbb
  have hS : ∀ x ∈ t, x.length ≤ 281474976710656 := fun x hx => by
    have h1 := cut_part 32 s x (by rw [hc]; exact List.mem_cons_of_mem _ hx)
    omega
  have HB2 : Hid (Below w.heap.size w ((w.alloc (.cells #[.slice none 0 0, .slice none 0 0] 72)).alloc (.cells (sCells (kwOut :: t)).toArray 9))) := Lib.hid (hW0.alloc (by simp) _)
  have hn1 := numbers_any (t.take u) (by rw [List.length_take]; omega) (fun x hx => hS x (List.mem_of_mem_take hx)) _ t.length _ hE2 hw1
  have hn2 := fun (W : World) (hb : Below ((w.alloc (.cells #[.slice none 0 0, .slice none 0 0] 72)).alloc (.cells (sCells (kwOut :: t)).toArray 9)).heap.size ((w.alloc (.cells #[.slice none 0 0, .slice none 0 0] 72)).alloc (.cells (sCells (kwOut :: t)).toArray 9)) W) => numbers_any (t.drop (u + 1)) (by rw [List.length_drop]; omega) (fun x hx => hS x (List.mem_of_mem_drop hx)) _ (t.length - (u + 1)) W (hE2.below hb) (hw2.below hb)
  rw [show (w.alloc (.cells #[.slice none 0 0, .slice none 0 0] 72)).heap.size = w.heap.size + 1 by simp] at hsp hwc hn1 hn2
  rw [List.length_take, Nat.min_eq_left (by omega)] at hn1
  rw [List.length_drop, ho2] at hn2
  have hs1 := fun W => run_who (w.heap.size + 1) t.length u h1 h2 W
  have hs2 := fun W => run_rest (w.heap.size + 1) t.length u h2 W
  generalize restAd (w.heap.size + 1) t.length u = ad2 at hn2 hs2
  have HSP := Lib.hid hsp; clear hsp
  have HWC := Lib.hid hwc; clear hwc
  have HN1 := Lib.hid hn1; clear hn1
  have HN2 := Lib.hid hn2; clear hn2
  have HU2 := Lib.hid (fun (w : World) (e : Ending) (w' : World) (h : NumsPost o2 w e w') => nums_u hb2 h)
  clear hs hE hE2 hS hw1 hw2 hbb hW0 ho2
  rw [ho1] at HN1
  have HU1 := Lib.hid (fun (w : World) (e : Ending) (w' : World) (h : NumsPost o1 w e w') => nums_u hb1 h)
  clear ho1
  go_enter Tryz.func64, Tryz.ntmps64
  go_wp2_with (first | (go_at_call 61; refine HSP.out.mono ?_; rintro e w1 ⟨rfl, rfl⟩))
  go_loopg [5] t.length (fun g v wr => ∃ k : Nat, k ≤ t.length ∧ g = t.length - k ∧ v = .int .i64 ((k + 1 : Nat) : Int) ∧ Hid (k ≤ upTo t) ∧ (w.alloc (.cells #[.slice none 0 0, .slice none 0 0] 72)).alloc (.cells (sCells (kwOut :: t)).toArray 9) = wr)
  case atStart => exact ⟨0, Nat.zero_le _, rfl, rfl, Nat.zero_le _, rfl⟩
  case round =>
    obtain ⟨k, hk, rfl, rfl, hku, rfl⟩ := hrel
    by_cases hlt : k < t.length
    · have q0 := HWC.out (k + 1) (by simp; omega)
      have e1 : (kwOut :: t)[k + 1]'(by simp; omega) = t[k] := rfl
      rw [e1] at q0
      by_cases hx : t[k] = [58]
      · have hk2 := upTo_is hlt hku.out hx
        rw [hu] at hk2
        subst hk2
        have hxe : (t[u] == [58]) = true := by simpa using hx
        have z0 := HWC.out 0 (by simp)
        have e2 : (⟨((kwOut :: t)[0]'(by simp)).toArray⟩ : ByteArray) = ⟨#[111, 117, 116]⟩ := rfl
        rw [e2] at z0
        have y1 : ((u : Int) + 1 == (t.length : Int) + 1) = false := by simp; omega
        have y2 : ((u : Int) + 1 == 1) = false := by simp; omega
        have y3 : ((u : Int) + 1 < (t.length : Int) + 1) := by omega
        have y4 : ((u : Int) + 1 == 2) = false := by simp; omega
        clear hx hu e1 e2 hk
        generalize t[u] = x at q0 hxe
        cases b1 <;> cases b2
        all_goals go_wp2_with (first | (go_at_call 92; refine (HN2.out _ HB3.out).mono ?_; intro e w4 hp4; obtain ⟨B, m, d, rfl, hb4, hm⟩ := HU2.out _ _ _ hp4; have HM := Lib.hid hm; clear hm; clear hp4; have hbz := HB3.out.trans (hb4.mono HB3.out.size); have r0 := hbz.cell (p := ⟨w.heap.size, 0, none⟩) (by simp; omega); have r1 := hbz.cell (p := ⟨w.heap.size, 1, none⟩) (by simp; omega); have f0 := hbz.frozen (p := ⟨w.heap.size, 0, none⟩) (by simp; omega); have f1 := hbz.frozen (p := ⟨w.heap.size, 1, none⟩) (by simp; omega); simp at r0 r1 f0 f1; have HBZ := Lib.hid hbz; clear hbz; have HB4 := Lib.hid hb4; clear hb4) | (go_at_call 92; refine HN1.out.mono ?_; intro e w3 hp3; obtain ⟨A, n, c, rfl, hb3, hn⟩ := HU1.out _ _ _ hp3; have HNN := Lib.hid hn; clear hn; clear hp3; have sz3 : w.heap.size + 1 < w3.heap.size := (by have h5 := hb3.size; simp at h5; omega); have HB3 := Lib.hid hb3; clear hb3))
        all_goals (try simp only [Exit.inBlock, Exit.then])
        all_goals refine bodyPost_ret (v := .tuple #[.agg #[.slice A n c, .slice B m d], .bool (_ && _)]) ?_ rfl (xpost_end (HB2.out.trans (HBZ.out.mono (by simp; omega))) HB4.out HNN.out HM.out (by simp; omega) (by omega))
        all_goals (rw [results_cell_tmp rfl]; go_simp)
      · have hk2 := upTo_more hlt hku.out hx
        have HK := Lib.hid hk2
        have hxe : (t[k] == [58]) = false := by simpa using hx
        clear hx hk2 hku e1
        generalize t[k] = x at q0 hxe
        go_wp2
        go_roundg (t.length - (k + 1))
        case measure => omega
        case rel => exact ⟨k + 1, by omega, rfl, by go_num, HK.out, rfl⟩
    · exact absurd (hu ▸ hku.out : k ≤ u) (by omega)
set_option maxHeartbeats 4000000 in
set_option maxRecDepth 100000 in
theorem readExit_one (s : Bs) (hs : s.length ≤ 4194304) (w : World) (hE : Env w) (t : List Bs) (hc : cut 32 s = kwOut :: t) (u : Nat) (hu : upTo t = u) (h1 : 1 ≤ u) (h2 : u < t.length) (o1 o2 : Option (List Nat)) (b1 b2 : Bool) (hb1 : o1.isSome = b1) (hb2 : o2.isSome = b2) (ho2 : allOf valOf (t.drop (u + 1)) = o2) (hu1 : u = 1) (hw : ¬ t.take u = [kwAll]) (ho1 : allOf valOf (t.take u) = o1) :
    Calls Tryz.prog 64 #[.string ⟨s.toArray⟩] w (XPost o1 o2 b1 b2 w) := by
  have hlen : t.length ≤ 4194304 := by
    have := cut_len 32 s
    rw [hc, List.length_cons] at this
    have : s.count 32 ≤ s.length := List.count_le_length
    omega
  have hW0 : Below w.heap.size w (w.alloc (.cells #[.slice none 0 0, .slice none 0 0] 72)) := (Below.refl _ _).alloc (Nat.le_refl _) _
  have hsp := split_any s 32 (w.alloc (.cells #[.slice none 0 0, .slice none 0 0] 72)) (by omega)
  rw [hc, List.length_cons] at hsp
  have hwc := word_cell (w.alloc (.cells #[.slice none 0 0, .slice none 0 0] 72)) (kwOut :: t)
  have hw1 := words_who (w.alloc (.cells #[.slice none 0 0, .slice none 0 0] 72)) kwOut t u
  have hw2 := words_rest (w.alloc (.cells #[.slice none 0 0, .slice none 0 0] 72)) kwOut t u
  have hbb := (Below.refl (w.alloc (.cells #[.slice none 0 0, .slice none 0 0] 72)).heap.size _).alloc (Nat.le_refl _) (.cells (sCells (kwOut :: t)).toArray 9)
  have hE2 := (hE.below hW0).below hbb
  have hS : ∀ x ∈ t, x.length ≤ 281474976710656 := fun x hx => by
    have h1 := cut_part 32 s x (by rw [hc]; exact List.mem_cons_of_mem _ hx)
    omega
  have HB2 : Hid (Below w.heap.size w ((w.alloc (.cells #[.slice none 0 0, .slice none 0 0] 72)).alloc (.cells (sCells (kwOut :: t)).toArray 9))) := Lib.hid (hW0.alloc (by simp) _)
  have hn1 := numbers_any (t.take u) (by rw [List.length_take]; omega) (fun x hx => hS x (List.mem_of_mem_take hx)) _ t.length _ hE2 hw1
  have hn2 := fun (W : World) (hb : Below ((w.alloc (.cells #[.slice none 0 0, .slice none 0 0] 72)).alloc (.cells (sCells (kwOut :: t)).toArray 9)).heap.size ((w.alloc (.cells #[.slice none 0 0, .slice none 0 0] 72)).alloc (.cells (sCells (kwOut :: t)).toArray 9)) W) => numbers_any (t.drop (u + 1)) (by rw [List.length_drop]; omega) (fun x hx => hS x (List.mem_of_mem_drop hx)) _ (t.length - (u + 1)) W (hE2.below hb) (hw2.below hb)
  rw [show (w.alloc (.cells #[.slice none 0 0, .slice none 0 0] 72)).heap.size = w.heap.size + 1 by simp] at hsp hwc hn1 hn2
  rw [List.length_take, Nat.min_eq_left (by omega)] at hn1
  rw [List.length_drop, ho2] at hn2
  have hs1 := fun W => run_who (w.heap.size + 1) t.length u h1 h2 W
  have hs2 := fun W => run_rest (w.heap.size + 1) t.length u h2 W
  generalize restAd (w.heap.size + 1) t.length u = ad2 at hn2 hs2
  have HSP := Lib.hid hsp; clear hsp
  have HWC := Lib.hid hwc; clear hwc
  have HN1 := Lib.hid hn1; clear hn1
  have HN2 := Lib.hid hn2; clear hn2
  have HU2 := Lib.hid (fun (w : World) (e : Ending) (w' : World) (h : NumsPost o2 w e w') => nums_u hb2 h)
  clear hs hE hE2 hS hw1 hw2 hbb hW0 ho2
  rw [ho1] at HN1
  have HU1 := Lib.hid (fun (w : World) (e : Ending) (w' : World) (h : NumsPost o1 w e w') => nums_u hb1 h)
  clear ho1
  go_enter Tryz.func64, Tryz.ntmps64
  go_wp2_with (first | (go_at_call 61; refine HSP.out.mono ?_; rintro e w1 ⟨rfl, rfl⟩))
  go_loopg [5] t.length (fun g v wr => ∃ k : Nat, k ≤ t.length ∧ g = t.length - k ∧ v = .int .i64 ((k + 1 : Nat) : Int) ∧ Hid (k ≤ upTo t) ∧ (w.alloc (.cells #[.slice none 0 0, .slice none 0 0] 72)).alloc (.cells (sCells (kwOut :: t)).toArray 9) = wr)
  case atStart => exact ⟨0, Nat.zero_le _, rfl, rfl, Nat.zero_le _, rfl⟩
  case round =>
    obtain ⟨k, hk, rfl, rfl, hku, rfl⟩ := hrel
    by_cases hlt : k < t.length
    · have q0 := HWC.out (k + 1) (by simp; omega)
      have e1 : (kwOut :: t)[k + 1]'(by simp; omega) = t[k] := rfl
      rw [e1] at q0
      by_cases hx : t[k] = [58]
      · have hk2 := upTo_is hlt hku.out hx
        rw [hu] at hk2
        subst hk2
        have hxe : (t[u] == [58]) = true := by simpa using hx
        have z0 := HWC.out 0 (by simp)
        have e2 : (⟨((kwOut :: t)[0]'(by simp)).toArray⟩ : ByteArray) = ⟨#[111, 117, 116]⟩ := rfl
        rw [e2] at z0
        have y1 : ((u : Int) + 1 == (t.length : Int) + 1) = false := by simp; omega
        have y2 : ((u : Int) + 1 == 1) = false := by simp; omega
        have y3 : ((u : Int) + 1 < (t.length : Int) + 1) := by omega
        have z1 := HWC.out 1 (by simp; omega)
        have h3 : 0 < t.length := by omega
        have e3 : (kwOut :: t)[1]'(by simp; omega) = t[0]'h3 := rfl
        rw [e3] at z1
        have y5 : (t[0]'h3 == [97, 108, 108]) = false := by
          rw [beq_eq_false_iff_ne]
          intro e
          apply hw
          rw [hu1]
          clear HN1 HN2 HSP HWC HU1 HU2
          rw [show t.take 1 = [t[0]'h3] from List.take_one_eq h3, e]
          rfl
        have y4 : ((u : Int) + 1 == 2) = true := by rw [hu1]; rfl
        clear e3 hw hu1
        generalize t[0]'h3 = y at z1 y5
        clear hx hu e1 e2 hk
        generalize t[u] = x at q0 hxe
        cases b1 <;> cases b2
        all_goals go_wp2_with (first | (go_at_call 92; refine (HN2.out _ HB3.out).mono ?_; intro e w4 hp4; obtain ⟨B, m, d, rfl, hb4, hm⟩ := HU2.out _ _ _ hp4; have HM := Lib.hid hm; clear hm; clear hp4; have hbz := HB3.out.trans (hb4.mono HB3.out.size); have r0 := hbz.cell (p := ⟨w.heap.size, 0, none⟩) (by simp; omega); have r1 := hbz.cell (p := ⟨w.heap.size, 1, none⟩) (by simp; omega); have f0 := hbz.frozen (p := ⟨w.heap.size, 0, none⟩) (by simp; omega); have f1 := hbz.frozen (p := ⟨w.heap.size, 1, none⟩) (by simp; omega); simp at r0 r1 f0 f1; have HBZ := Lib.hid hbz; clear hbz; have HB4 := Lib.hid hb4; clear hb4) | (go_at_call 92; refine HN1.out.mono ?_; intro e w3 hp3; obtain ⟨A, n, c, rfl, hb3, hn⟩ := HU1.out _ _ _ hp3; have HNN := Lib.hid hn; clear hn; clear hp3; have sz3 : w.heap.size + 1 < w3.heap.size := (by have h5 := hb3.size; simp at h5; omega); have HB3 := Lib.hid hb3; clear hb3))
        all_goals (try simp only [Exit.inBlock, Exit.then])
        all_goals refine bodyPost_ret (v := .tuple #[.agg #[.slice A n c, .slice B m d], .bool (_ && _)]) ?_ rfl (xpost_end (HB2.out.trans (HBZ.out.mono (by simp; omega))) HB4.out HNN.out HM.out (by simp; omega) (by omega))
        all_goals (rw [results_cell_tmp rfl]; go_simp)
      · have hk2 := upTo_more hlt hku.out hx
        have HK := Lib.hid hk2
        have hxe : (t[k] == [58]) = false := by simpa using hx
        clear hx hk2 hku e1
        generalize t[k] = x at q0 hxe
        go_wp2
        go_roundg (t.length - (k + 1))
        case measure => omega
        case rel => exact ⟨k + 1, by omega, rfl, by go_num, HK.out, rfl⟩
    · exact absurd (hu ▸ hku.out : k ≤ u) (by omega)
set_option maxHeartbeats 4000000 in
set_option maxRecDepth 100000 in
theorem readExit_all (s : Bs) (hs : s.length ≤ 4194304) (w : World) (hE : Env w) (t : List Bs) (hc : cut 32 s = kwOut :: t) (u : Nat) (hu : upTo t = u) (h1 : 1 ≤ u) (h2 : u < t.length) (o1 o2 : Option (List Nat)) (b1 b2 : Bool) (hb1 : o1.isSome = b1) (hb2 : o2.isSome = b2) (ho2 : allOf valOf (t.drop (u + 1)) = o2) (hu1 : u = 1) (hw : t.take u = [kwAll]) (ho1 : some [] = o1) :
    Calls Tryz.prog 64 #[.string ⟨s.toArray⟩] w (XPost o1 o2 b1 b2 w) := by
  have hlen : t.length ≤ 4194304 := by
    have := cut_len 32 s
    rw [hc, List.length_cons] at this
    have : s.count 32 ≤ s.length := List.count_le_length
    omega
  have hW0 : Below w.heap.size w (w.alloc (.cells #[.slice none 0 0, .slice none 0 0] 72)) := (Below.refl _ _).alloc (Nat.le_refl _) _
  have hsp := split_any s 32 (w.alloc (.cells #[.slice none 0 0, .slice none 0 0] 72)) (by omega)
  rw [hc, List.length_cons] at hsp
  have hwc := word_cell (w.alloc (.cells #[.slice none 0 0, .slice none 0 0] 72)) (kwOut :: t)
  have hw1 := words_who (w.alloc (.cells #[.slice none 0 0, .slice none 0 0] 72)) kwOut t u
  have hw2 := words_rest (w.alloc (.cells #[.slice none 0 0, .slice none 0 0] 72)) kwOut t u
  have hbb := (Below.refl (w.alloc (.cells #[.slice none 0 0, .slice none 0 0] 72)).heap.size _).alloc (Nat.le_refl _) (.cells (sCells (kwOut :: t)).toArray 9)
  have hE2 := (hE.below hW0).below hbb
  have hS : ∀ x ∈ t, x.length ≤ 281474976710656 := fun x hx => by
    have h1 := cut_part 32 s x (by rw [hc]; exact List.mem_cons_of_mem _ hx)
    omega
  have HB2 : Hid (Below w.heap.size w ((w.alloc (.cells #[.slice none 0 0, .slice none 0 0] 72)).alloc (.cells (sCells (kwOut :: t)).toArray 9))) := Lib.hid (hW0.alloc (by simp) _)
  have hn1 := numbers_any (t.take u) (by rw [List.length_take]; omega) (fun x hx => hS x (List.mem_of_mem_take hx)) _ t.length _ hE2 hw1
  have hn2 := fun (W : World) (hb : Below ((w.alloc (.cells #[.slice none 0 0, .slice none 0 0] 72)).alloc (.cells (sCells (kwOut :: t)).toArray 9)).heap.size ((w.alloc (.cells #[.slice none 0 0, .slice none 0 0] 72)).alloc (.cells (sCells (kwOut :: t)).toArray 9)) W) => numbers_any (t.drop (u + 1)) (by rw [List.length_drop]; omega) (fun x hx => hS x (List.mem_of_mem_drop hx)) _ (t.length - (u + 1)) W (hE2.below hb) (hw2.below hb)
  rw [show (w.alloc (.cells #[.slice none 0 0, .slice none 0 0] 72)).heap.size = w.heap.size + 1 by simp] at hsp hwc hn1 hn2
  rw [List.length_take, Nat.min_eq_left (by omega)] at hn1
  rw [List.length_drop, ho2] at hn2
  have hs1 := fun W => run_who (w.heap.size + 1) t.length u h1 h2 W
  have hs2 := fun W => run_rest (w.heap.size + 1) t.length u h2 W
  generalize restAd (w.heap.size + 1) t.length u = ad2 at hn2 hs2
  have HSP := Lib.hid hsp; clear hsp
  have HWC := Lib.hid hwc; clear hwc
  have HN1 := Lib.hid hn1; clear hn1
  have HN2 := Lib.hid hn2; clear hn2
  have HU2 := Lib.hid (fun (w : World) (e : Ending) (w' : World) (h : NumsPost o2 w e w') => nums_u hb2 h)
  clear hs hE hE2 hS hw1 hw2 hbb hW0 ho2
  clear HN1
  have HN1 : Hid (∀ (A : Option Addr) (c : Nat) (W : World), Calls Tryz.prog 92 #[.slice A 0 c] W (NumsPost o1 W)) := Lib.hid (by subst ho1; exact numbers_nil)
  have HU1 := Lib.hid (fun (w : World) (e : Ending) (w' : World) (h : NumsPost o1 w e w') => nums_u hb1 h)
  clear ho1
  go_enter Tryz.func64, Tryz.ntmps64
  go_wp2_with (first | (go_at_call 61; refine HSP.out.mono ?_; rintro e w1 ⟨rfl, rfl⟩))
  go_loopg [5] t.length (fun g v wr => ∃ k : Nat, k ≤ t.length ∧ g = t.length - k ∧ v = .int .i64 ((k + 1 : Nat) : Int) ∧ Hid (k ≤ upTo t) ∧ (w.alloc (.cells #[.slice none 0 0, .slice none 0 0] 72)).alloc (.cells (sCells (kwOut :: t)).toArray 9) = wr)
  case atStart => exact ⟨0, Nat.zero_le _, rfl, rfl, Nat.zero_le _, rfl⟩
  case round =>
    obtain ⟨k, hk, rfl, rfl, hku, rfl⟩ := hrel
    by_cases hlt : k < t.length
    · have q0 := HWC.out (k + 1) (by simp; omega)
      have e1 : (kwOut :: t)[k + 1]'(by simp; omega) = t[k] := rfl
      rw [e1] at q0
      by_cases hx : t[k] = [58]
      · have hk2 := upTo_is hlt hku.out hx
        rw [hu] at hk2
        subst hk2
        have hxe : (t[u] == [58]) = true := by simpa using hx
        have z0 := HWC.out 0 (by simp)
        have e2 : (⟨((kwOut :: t)[0]'(by simp)).toArray⟩ : ByteArray) = ⟨#[111, 117, 116]⟩ := rfl
        rw [e2] at z0
        have y1 : ((u : Int) + 1 == (t.length : Int) + 1) = false := by simp; omega
        have y2 : ((u : Int) + 1 == 1) = false := by simp; omega
        have y3 : ((u : Int) + 1 < (t.length : Int) + 1) := by omega
        have z1 := HWC.out 1 (by simp; omega)
        have e3 : (⟨((kwOut :: t)[1]'(by simp; omega)).toArray⟩ : ByteArray) = ⟨#[97, 108, 108]⟩ := by
          have h3 : 0 < t.length := by omega
          rw [hu1, List.take_one_eq h3] at hw
          injection hw with hw _
          show (⟨(t[0]'h3).toArray⟩ : ByteArray) = _
          rw [hw]
          rfl
        rw [e3] at z1
        have y4 : ((u : Int) + 1 == 2) = true := by rw [hu1]; rfl
        clear e3 hw hu1
        clear hx hu e1 e2 hk
        generalize t[u] = x at q0 hxe
        cases b1 <;> cases b2
        all_goals go_wp2_with (first | (go_at_call 92; refine (HN2.out _ HB3.out).mono ?_; intro e w4 hp4; obtain ⟨B, m, d, rfl, hb4, hm⟩ := HU2.out _ _ _ hp4; have HM := Lib.hid hm; clear hm; clear hp4; have hbz := HB3.out.trans (hb4.mono HB3.out.size); have r0 := hbz.cell (p := ⟨w.heap.size, 0, none⟩) (by simp; omega); have r1 := hbz.cell (p := ⟨w.heap.size, 1, none⟩) (by simp; omega); have f0 := hbz.frozen (p := ⟨w.heap.size, 0, none⟩) (by simp; omega); have f1 := hbz.frozen (p := ⟨w.heap.size, 1, none⟩) (by simp; omega); simp at r0 r1 f0 f1; have HBZ := Lib.hid hbz; clear hbz; have HB4 := Lib.hid hb4; clear hb4) | (go_at_call 92; refine (HN1.out _ _ _).mono ?_; intro e w3 hp3; obtain ⟨A, n, c, rfl, hb3, hn⟩ := HU1.out _ _ _ hp3; have HNN := Lib.hid hn; clear hn; clear hp3; have sz3 : w.heap.size + 1 < w3.heap.size := (by have h5 := hb3.size; simp at h5; omega); have HB3 := Lib.hid hb3; clear hb3))
        all_goals (try simp only [Exit.inBlock, Exit.then])
        all_goals refine bodyPost_ret (v := .tuple #[.agg #[.slice A n c, .slice B m d], .bool (_ && _)]) ?_ rfl (xpost_end (HB2.out.trans (HBZ.out.mono (by simp; omega))) HB4.out HNN.out HM.out (by simp; omega) (by omega))
        all_goals (rw [results_cell_tmp rfl]; go_simp)
      · have hk2 := upTo_more hlt hku.out hx
        have HK := Lib.hid hk2
        have hxe : (t[k] == [58]) = false := by simpa using hx
        clear hx hk2 hku e1
        generalize t[k] = x at q0 hxe
        go_wp2
        go_roundg (t.length - (k + 1))
        case measure => omega
        case rel => exact ⟨k + 1, by omega, rfl, by go_num, HK.out, rfl⟩
    · exact absurd (hu ▸ hku.out : k ≤ u) (by omega)
end Go.Proofs.YtmnbgamnbgdnnaaGreatDoor
