/- Contract of circ.readGate, joined. -/
import Derived.Test.YtmnbgamnbgdnnaaGreatDoorCjB
namespace Go.Proofs.YtmnbgamnbgdnnaaGreatDoor
open Go.RowKit Go.Maps

theorem gateOf_cut {s h : Bs} {t : List Bs} (hc : cut 32 s = h :: t) : gateOf s = match allOf valOf t with
    | some [a] => if h = kwIn then some (1, (a : Int), 0, 0) else if h = kwConst then some (2, 0, 0, (a : Int)) else none
    | some [a, b] => if h = kwAdd then some (3, (a : Int), (b : Int), 0) else if h = kwSub then some (4, (a : Int), (b : Int), 0) else if h = kwMul then some (5, (a : Int), (b : Int), 0) else
        if h = kwScale then some (6, (a : Int), 0, (b : Int)) else none
    | _ => none := by
  unfold gateOf
  rw [hc]
  rfl
set_option maxHeartbeats 2000000 in
set_option maxRecDepth 100000 in
theorem readGate_n (s : Bs) (hs : s.length ≤ 4194304) (w : World) (hE : Env w) (h : Bs) (t : List Bs) (hc : cut 32 s = h :: t) (hns : allOf valOf t = none) :
    Calls Tryz.prog 63 #[.string ⟨s.toArray⟩] w (GatePostR none w) := by
  have hlen : t.length ≤ 4194304 := by
    have := cut_len 32 s
    rw [hc, List.length_cons] at this
    have : s.count 32 ≤ s.length := List.count_le_length
    omega
  have hW0 : Below w.heap.size w (w.alloc (.cells #[.int .i64 0, .int .i64 0, .int .i64 0, .int .u64 0] 69)) := (Below.refl _ _).alloc (Nat.le_refl _) _
  have hsp := split_any s 32 (w.alloc (.cells #[.int .i64 0, .int .i64 0, .int .i64 0, .int .u64 0] 69)) (by omega)
  rw [hc, List.length_cons] at hsp
  have HSP := Lib.hid hsp; clear hsp
  have hS : ∀ x ∈ t, x.length ≤ 281474976710656 := fun x hx => by
    have h1 := cut_part 32 s x (by rw [hc]; exact List.mem_cons_of_mem _ hx)
    omega
  have hb2 := (Below.refl (w.alloc (.cells #[.int .i64 0, .int .i64 0, .int .i64 0, .int .u64 0] 69)).heap.size _).alloc (Nat.le_refl _) (.cells (sCells (h :: t)).toArray 9)
  have hnum := numbers_any t (by omega) hS _ t.length _ ((hE.below hW0).below hb2) (words_new _ t h)
  rw [hns] at hnum
  have HN := Lib.hid hnum
  have hsl := fun W => run_tail (w.alloc (.cells #[.int .i64 0, .int .i64 0, .int .i64 0, .int .u64 0] 69)).heap.size t.length W
  have HB1 : Hid (Below w.heap.size w ((w.alloc (.cells #[.int .i64 0, .int .i64 0, .int .i64 0, .int .u64 0] 69)).alloc (.cells (sCells (h :: t)).toArray 9))) := Lib.hid (hW0.alloc (by simp) _)
  clear hnum hS hb2 hW0 hE hns hs
  rw [show (w.alloc (.cells #[.int .i64 0, .int .i64 0, .int .i64 0, .int .u64 0] 69)).heap.size = w.heap.size + 1 by simp] at HSP HN hsl
  generalize tailAd (w.heap.size + 1) t.length = ad at HN hsl
  go_enter Tryz.func63, Tryz.ntmps63
  go_wp2_with (first | (go_at_call 61; refine HSP.out.mono ?_; rintro e w1 ⟨rfl, rfl⟩) | (go_at_call 92; refine HN.out.mono ?_; rintro e w2 ⟨hb2, rfl⟩; have r0 := hb2.cell (p := ⟨w.heap.size, 0, none⟩) (by simp; omega); have r1 := hb2.cell (p := ⟨w.heap.size, 1, none⟩) (by simp; omega); have r2 := hb2.cell (p := ⟨w.heap.size, 2, none⟩) (by simp; omega); have r3 := hb2.cell (p := ⟨w.heap.size, 3, none⟩) (by simp; omega); simp at r0 r1 r2 r3; have f0 := hb2.frozen (p := ⟨w.heap.size, 0, none⟩) (by simp; omega); have f1 := hb2.frozen (p := ⟨w.heap.size, 1, none⟩) (by simp; omega); have f2 := hb2.frozen (p := ⟨w.heap.size, 2, none⟩) (by simp; omega); have f3 := hb2.frozen (p := ⟨w.heap.size, 3, none⟩) (by simp; omega); simp at f0 f1 f2 f3; have HB2 := Lib.hid hb2; clear hb2))
  (try simp only [Exit.inBlock, Exit.then])
  refine bodyPost_ret (v := .tuple #[.agg #[.int .i64 0, .int .i64 0, .int .i64 0, .int .u64 0], .bool false]) ?_ rfl ⟨?_, 0, 0, 0, 0, rfl⟩
  · rw [results_cell_tmp rfl]
    go_simp
  · have hw := HB1.out.trans (HB2.out.mono (by simp; omega)); repeat (first | exact hw | refine Below.alloc ?_ (by simp; omega) _ | refine Below.setCell ?_ (by simp) _)
theorem allOf_lt {l : List Bs} {ns : List Nat} (h : allOf valOf l = some ns) : ∀ x ∈ ns, x < 1000000000 := by
  induction l generalizing ns with
  | nil => injection h with h; subst h; simp
  | cons x r ih =>
    rw [allOf] at h
    cases e1 : valOf x with
    | none => rw [e1] at h; cases h
    | some a =>
      cases e2 : allOf valOf r with
      | none => rw [e1, e2] at h; cases h
      | some b =>
        rw [e1, e2] at h
        injection h with h
        subst h
        intro y hy
        rcases List.mem_cons.1 hy with e | e
        · subst e; exact (valOf_some e1).2
        · exact ih e2 y e
theorem readGate_any (s : Bs) (hs : s.length ≤ 4194304) (w : World) (hE : Env w) : Calls Tryz.prog 63 #[.string ⟨s.toArray⟩] w (GatePostR (gateOf s) w) := by
  cases hc : cut 32 s with
  | nil => exact absurd hc (cut_ne 32 s)
  | cons h t =>
    rw [gateOf_cut hc]
    cases hns : allOf valOf t with
    | none => exact readGate_n s hs w hE h t hc hns
    | some ns =>
      have hlt := allOf_lt hns
      have bad : ∀ k m, kindOf h = (k, m) → k ≠ 0 → ¬ m = (ns.length : Int) → Calls Tryz.prog 63 #[.string ⟨s.toArray⟩] w (GatePostR none w) := fun k m h1 h2 h3 =>
        readGate_bm s hs w hE h t hc ns hns k m h1 (by simpa using h2) h3
      have one : ∀ k, kindOf h = (k, 1) → (k = 1 ∧ h = kwIn ∨ k = 2 ∧ h = kwConst) → Calls Tryz.prog 63 #[.string ⟨s.toArray⟩] w (GatePostR (match some ns with
          | some [a] => if h = kwIn then some (1, (a : Int), 0, 0) else if h = kwConst then some (2, 0, 0, (a : Int)) else none
          | some [a, b] => if h = kwAdd then some (3, (a : Int), (b : Int), 0) else if h = kwSub then some (4, (a : Int), (b : Int), 0) else if h = kwMul then some (5, (a : Int), (b : Int), 0) else
              if h = kwScale then some (6, (a : Int), 0, (b : Int)) else none
          | _ => none) w) := by
        intro k hk hor
        match ns, hns, hlt, bad with
        | [], _, _, bad => exact bad k 1 hk (by omega) (by simp)
        | [a], hns, hlt, _ =>
          have ha := hlt a (by simp)
          rcases hor with ⟨rfl, rfl⟩ | ⟨rfl, rfl⟩
          · exact readGate_p s hs w hE kwIn t hc [a] hns 1 hk rfl rfl rfl a 0 rfl rfl (by simp)
          · exact readGate_c s hs w hE kwConst t hc [a] hns hk a 0 (IntWalk.u64_in _ (by omega)) rfl rfl (by simp)
        | [a, b], _, _, bad =>
          have := bad k 1 hk (by omega) (by simp)
          rcases hor with ⟨rfl, rfl⟩ | ⟨rfl, rfl⟩ <;> exact this
        | a :: b :: c :: r, _, _, bad => exact bad k 1 hk (by omega) (by simp; omega)
      have two : ∀ k, kindOf h = (k, 2) → (k = 3 ∧ h = kwAdd ∨ k = 4 ∧ h = kwSub ∨ k = 5 ∧ h = kwMul ∨ k = 6 ∧ h = kwScale) → Calls Tryz.prog 63 #[.string ⟨s.toArray⟩] w (GatePostR (match some ns with
          | some [a] => if h = kwIn then some (1, (a : Int), 0, 0) else if h = kwConst then some (2, 0, 0, (a : Int)) else none
          | some [a, b] => if h = kwAdd then some (3, (a : Int), (b : Int), 0) else if h = kwSub then some (4, (a : Int), (b : Int), 0) else if h = kwMul then some (5, (a : Int), (b : Int), 0) else
              if h = kwScale then some (6, (a : Int), 0, (b : Int)) else none
          | _ => none) w) := by
        intro k hk hor
        match ns, hns, hlt, bad with
        | [], _, _, bad => exact bad k 2 hk (by omega) (by simp)
        | [a], _, _, bad =>
          have := bad k 2 hk (by omega) (by simp)
          rcases hor with ⟨rfl, rfl⟩ | ⟨rfl, rfl⟩ | ⟨rfl, rfl⟩ | ⟨rfl, rfl⟩ <;> exact this
        | [a, b], hns, hlt, _ =>
          have hb := hlt b (by simp)
          rcases hor with ⟨rfl, rfl⟩ | ⟨rfl, rfl⟩ | ⟨rfl, rfl⟩ | ⟨rfl, rfl⟩
          · exact readGate_p s hs w hE kwAdd t hc [a, b] hns 3 hk rfl rfl rfl a b rfl rfl (by simp)
          · exact readGate_p s hs w hE kwSub t hc [a, b] hns 4 hk rfl rfl rfl a b rfl rfl (by simp)
          · exact readGate_p s hs w hE kwMul t hc [a, b] hns 5 hk rfl rfl rfl a b rfl rfl (by simp)
          · exact readGate_s s hs w hE kwScale t hc [a, b] hns hk a b (IntWalk.u64_in _ (by omega)) rfl rfl (by simp)
        | a :: b :: c :: r, _, _, bad => exact bad k 2 hk (by omega) (by simp; omega)
      by_cases g0 : h = kwIn
      · exact one 1 (by rw [g0]; rfl) (.inl ⟨rfl, g0⟩)
      by_cases g1 : h = kwConst
      · exact one 2 (by rw [g1]; rfl) (.inr ⟨rfl, g1⟩)
      by_cases g2 : h = kwAdd
      · exact two 3 (by rw [g2]; rfl) (.inl ⟨rfl, g2⟩)
      by_cases g3 : h = kwSub
      · exact two 4 (by rw [g3]; rfl) (.inr (.inl ⟨rfl, g3⟩))
      by_cases g4 : h = kwMul
      · exact two 5 (by rw [g4]; rfl) (.inr (.inr (.inl ⟨rfl, g4⟩)))
      by_cases g5 : h = kwScale
      · exact two 6 (by rw [g5]; rfl) (.inr (.inr (.inr ⟨rfl, g5⟩)))
      have hk : kindOf h = (0, 0) := by unfold kindOf; rw [if_neg g0, if_neg g1, if_neg g2, if_neg g3, if_neg g4, if_neg g5]
      have h0 := readGate_b0 s hs w hE h t hc ns hns hk
      match ns, h0 with
      | [], h0 => exact h0
      | [a], h0 => simp only [g0, g1, if_false]; exact h0
      | [a, b], h0 => simp only [g2, g3, g4, g5, if_false]; exact h0
      | a :: b :: c :: r, h0 => exact h0
end Go.Proofs.YtmnbgamnbgdnnaaGreatDoor
