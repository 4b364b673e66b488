/- Contracts and plain laws of chapter 12, merged: CjD CjE CjF CjG CjH. -/
import Derived.Test.YtmnbgamnbgdnnaaGreatDoorMf
/- Contract of circ.readExit. -/
namespace Go.Proofs.YtmnbgamnbgdnnaaGreatDoor
open Go.RowKit

/-- Numbers that were read, in one form. -/
def NumsU (o : Option (List Nat)) (b : Bool) (w : World) (e : Ending) (w' : World) : Prop :=
  ∃ A n c, e = .returned (.tuple #[.slice A n c, .bool b]) ∧ Below w.heap.size w w' ∧ ∀ ns, o = some ns → w'.ownsRow w.heap.size 3 1 (.slice A n c) ns.length (iCells (ns.map Int.ofNat))
theorem nums_u {o : Option (List Nat)} {b : Bool} (hb : o.isSome = b) {w : World} {e : Ending} {w' : World} (h : NumsPost o w e w') : NumsU o b w e w' := by
  subst hb
  cases o with
  | none => obtain ⟨h1, rfl⟩ := h; exact ⟨none, 0, 0, rfl, h1, fun _ h => by cases h⟩
  | some ns =>
    obtain ⟨h1, v, rfl, hown⟩ := h
    obtain ⟨A, c, rfl, _⟩ := own_reads hown
    exact ⟨A, _, c, rfl, h1, fun ms h => by injection h with h; subst h; exact hown⟩
theorem own_n {w : World} {base : Nat} {e : TypeId} {size n k c : Nat} {A : Option Addr} {xs : List Value} (h : w.ownsRow base e size (.slice A n c) k xs) : n = k := by
  rcases h.2 with ⟨h0, h1⟩ | ⟨g, cap, cur, h0, _⟩
  · injection h0 with _ h2 _; omega
  · injection h0 with _ h2 _
theorem grown_set (w : World) (p : Addr) (u : Value) : w.grownBy (w.setCell p u) (some p.block) :=
  ⟨rfl, rfl, rfl, by simp [World.setCell], fun k _ hk => Below.heap_setCell _ _ _ _ fun e => hk (by rw [e])⟩
theorem own_set {w : World} {base : Nat} {e : TypeId} {size n : Nat} {v : Value} {xs : List Value} (h : w.ownsRow base e size v n xs) {p : Addr} (hp : p.block < base) (u : Value) : (w.setCell p u).ownsRow base e size v n xs :=
  h.kept (grown_set w p u) (by
    cases hv : v.ownBlock with
    | none => exact .inl rfl
    | some q =>
      refine .inr fun e => ?_
      injection e with e
      have := (h.lt q hv).1
      omega)
set_option maxRecDepth 100000 in
theorem numbers_nil (A : Option Addr) (c : Nat) (w : World) : Calls Tryz.prog 92 #[.slice A 0 c] w (NumsPost (some []) w) := by
  go_enter Tryz.func92, Tryz.ntmps92
  go_wp2
  go_loopg [4, 11] 0 (fun g v i wr => i = .int .i64 0 ∧ v = .slice none 0 0 ∧ w = wr)
  case atStart => exact ⟨rfl, rfl, rfl⟩
  case round =>
    obtain ⟨rfl, rfl, rfl⟩ := hrel
    go_wp2
    go_ret2
    exact ⟨Below.refl _ _, _, rfl, World.ownsRow_nil _ _ _ _⟩
theorem upTo_le (l : List Bs) : upTo l ≤ l.length := by
  unfold upTo
  exact (List.takeWhile_sublist _).length_le
theorem upTo_is {l : List Bs} {k : Nat} (h : k < l.length) (h1 : k ≤ upTo l) (h2 : l[k] = [58]) : upTo l = k := by
  induction l generalizing k with
  | nil => simp at h
  | cons x r ih =>
    unfold upTo at *
    rw [List.takeWhile_cons] at h1 ⊢
    cases k with
    | zero =>
      have : x = [58] := h2
      rw [if_neg (by simpa using this)]
      rfl
    | succ k =>
      by_cases hx : x = [58]
      · rw [if_neg (by simpa using hx)] at h1
        simp at h1
      · rw [if_pos (by simpa using hx)] at h1 ⊢
        simp only [List.length_cons] at h1 ⊢
        rw [ih (by simpa using h) (by omega) (by simpa using h2)]
theorem upTo_more {l : List Bs} {k : Nat} (h : k < l.length) (h1 : k ≤ upTo l) (h2 : l[k] ≠ [58]) : k + 1 ≤ upTo l := by
  induction l generalizing k with
  | nil => simp at h
  | cons x r ih =>
    unfold upTo at *
    rw [List.takeWhile_cons] at h1 ⊢
    cases k with
    | zero =>
      have : x ≠ [58] := h2
      rw [if_pos (by simpa using this)]
      simp
    | succ k =>
      by_cases hx : x = [58]
      · rw [if_neg (by simpa using hx)] at h1
        simp at h1
      · rw [if_pos (by simpa using hx)] at h1 ⊢
        simp only [List.length_cons] at h1 ⊢
        have := ih (by simpa using h) (by omega) (by simpa using h2)
        omega
def ExitPostR (o : Option ExL) (w : World) (e : Ending) (w' : World) : Prop :=
  Below w.heap.size w w' ∧ match o with
    | none => ∃ A n c B m d, e = .returned (.tuple #[.agg #[.slice A n c, .slice B m d], .bool false])
    | some x => ∃ A c B d, e = .returned (.tuple #[.agg #[.slice A x.1.length c, .slice B x.2.length d], .bool true]) ∧ w'.ownsRow w.heap.size 3 1 (.slice A x.1.length c) x.1.length (iCells x.1) ∧ w'.ownsRow w.heap.size 3 1 (.slice B x.2.length d) x.2.length (iCells x.2)
theorem exitOf_cut {s h : Bs} {t : List Bs} (hc : cut 32 s = h :: t) : exitOf s = if h = kwOut ∧ upTo t ≠ 0 ∧ upTo t < t.length then
    match allOf valOf (if t.take (upTo t) = [kwAll] then [] else t.take (upTo t)), allOf valOf (t.drop (upTo t + 1)) with
    | some a, some b => some (a.map Int.ofNat, b.map Int.ofNat)
    | _, _ => none
  else none := by
  unfold exitOf
  rw [hc]
  rfl
theorem word_cell (w : World) (l : List Bs) (k : Nat) (h : k < l.length) : (w.alloc (.cells (sCells l).toArray 9)).cell? ⟨w.heap.size, k, none⟩ = some (.string ⟨l[k].toArray⟩) := by
  rw [World.cell?_alloc_new]
  simp [sCells, List.getElem?_eq_getElem h]
set_option maxHeartbeats 2000000 in
set_option maxRecDepth 100000 in
theorem readExit_bad (s : Bs) (hs : s.length ≤ 4194304) (w : World) (h : Bs) (t : List Bs) (hc : cut 32 s = h :: t) (hbad : ¬ (h = kwOut ∧ upTo t ≠ 0 ∧ upTo t < t.length)) :
    Calls Tryz.prog 64 #[.string ⟨s.toArray⟩] w (ExitPostR none w) := by
  have hlen : t.length ≤ 4194304 := by
    have := cut_len 32 s
    rw [hc, List.length_cons] at this
    have : s.count 32 ≤ s.length := List.count_le_length
    omega
  have hsp := split_any s 32 (w.alloc (.cells #[.slice none 0 0, .slice none 0 0] 72)) (by omega)
  rw [hc, List.length_cons] at hsp
  have hwc := word_cell (w.alloc (.cells #[.slice none 0 0, .slice none 0 0] 72)) (h :: t)
  rw [show (w.alloc (.cells #[.slice none 0 0, .slice none 0 0] 72)).heap.size = w.heap.size + 1 by simp] at hsp hwc
  have HSP := Lib.hid hsp; clear hsp
  have HWC := Lib.hid hwc; clear hwc
  clear hs
  go_enter Tryz.func64, Tryz.ntmps64
  go_wp2_with (first | (go_at_call 61; refine HSP.out.mono ?_; rintro e w1 ⟨rfl, rfl⟩))
  go_loopg [5] t.length (fun g v wr => ∃ k : Nat, k ≤ t.length ∧ g = t.length - k ∧ v = .int .i64 ((k + 1 : Nat) : Int) ∧ Hid (k ≤ upTo t) ∧ (w.alloc (.cells #[.slice none 0 0, .slice none 0 0] 72)).alloc (.cells (sCells (h :: t)).toArray 9) = wr)
  case atStart => exact ⟨0, Nat.zero_le _, rfl, rfl, Nat.zero_le _, rfl⟩
  case round =>
    obtain ⟨k, hk, rfl, rfl, hu, rfl⟩ := hrel
    by_cases hlt : k < t.length
    · have q0 := HWC.out (k + 1) (by simp; omega)
      have e1 : (h :: t)[k + 1]'(by simp; omega) = t[k] := rfl
      rw [e1] at q0
      by_cases hx : t[k] = [58]
      · have hk2 := upTo_is hlt hu.out hx
        have hxe : (t[k] == [58]) = true := by simpa using hx
        have z0 := HWC.out 0 (by simp)
        have e2 : (h :: t)[0]'(by simp) = h := rfl
        rw [e2] at z0
        by_cases ho : h = kwOut
        · have hk0 : k = 0 := Classical.byContradiction fun e => hbad ⟨ho, by omega, by omega⟩
          have hoe : (h == [111, 117, 116]) = true := by rw [ho]; rfl
          subst hk0
          have hne : ((0 : Int) + 1 == (t.length : Int) + 1) = false := by simp; omega
          clear hx hk2 ho hbad hu e1 e2
          generalize t[0] = x at q0 hxe
          go_wp2
          (try simp only [Exit.inBlock, Exit.then])
          refine bodyPost_ret (v := .tuple #[.agg #[.slice none 0 0, .slice none 0 0], .bool false]) ?_ rfl ⟨?_, none, 0, 0, none, 0, 0, rfl⟩
          · rw [results_cell_tmp rfl]
            go_simp
          · repeat (first | exact Below.refl _ _ | refine Below.alloc ?_ (by simp) _ | refine Below.setCell ?_ (by simp) _)
        · have hoe : (h == [111, 117, 116]) = false := by rw [beq_eq_false_iff_ne]; exact ho
          clear hx hk2 ho hbad hu e1 e2
          generalize t[k] = x at q0 hxe
          go_wp2
          (try simp only [Exit.inBlock, Exit.then])
          refine bodyPost_ret (v := .tuple #[.agg #[.slice none 0 0, .slice none 0 0], .bool false]) ?_ rfl ⟨?_, none, 0, 0, none, 0, 0, rfl⟩
          · rw [results_cell_tmp rfl]
            go_simp
          · repeat (first | exact Below.refl _ _ | refine Below.alloc ?_ (by simp) _ | refine Below.setCell ?_ (by simp) _)
      · have hk2 := upTo_more hlt hu.out hx
        have HK := Lib.hid hk2
        have hxe : (t[k] == [58]) = false := by simpa using hx
        clear hx hk2 hbad hu e1
        generalize t[k] = x at q0 hxe
        go_wp2
        go_roundg (t.length - (k + 1))
        case measure => omega
        case rel => exact ⟨k + 1, by omega, rfl, by go_num, HK.out, rfl⟩
    · obtain rfl : k = t.length := by omega
      have z0 := HWC.out 0 (by simp)
      have e2 : (h :: t)[0]'(by simp) = h := rfl
      rw [e2] at z0
      by_cases ho : h = kwOut
      · have hoe : (h == [111, 117, 116]) = true := by rw [ho]; rfl
        clear ho hbad hu e2
        go_wp2
        (try simp only [Exit.inBlock, Exit.then])
        refine bodyPost_ret (v := .tuple #[.agg #[.slice none 0 0, .slice none 0 0], .bool false]) ?_ rfl ⟨?_, none, 0, 0, none, 0, 0, rfl⟩
        · rw [results_cell_tmp rfl]
          go_simp
        · repeat (first | exact Below.refl _ _ | refine Below.alloc ?_ (by simp) _ | refine Below.setCell ?_ (by simp) _)
      · have hoe : (h == [111, 117, 116]) = false := by rw [beq_eq_false_iff_ne]; exact ho
        clear ho hbad hu e2
        go_wp2
        (try simp only [Exit.inBlock, Exit.then])
        refine bodyPost_ret (v := .tuple #[.agg #[.slice none 0 0, .slice none 0 0], .bool false]) ?_ rfl ⟨?_, none, 0, 0, none, 0, 0, rfl⟩
        · rw [results_cell_tmp rfl]
          go_simp
        · repeat (first | exact Below.refl _ _ | refine Below.alloc ?_ (by simp) _ | refine Below.setCell ?_ (by simp) _)
end Go.Proofs.YtmnbgamnbgdnnaaGreatDoor

/- Contract of circ.readExit where the line has a colon. (Printed by wip/tools/gen_rexit2.py.) -/
namespace Go.Proofs.YtmnbgamnbgdnnaaGreatDoor
open Go.RowKit

def restAd (g n u : Nat) : Addr := if n = u + 1 then ⟨g, 0, none⟩ else ⟨g, u + 2, none⟩
theorem under94 : Tryz.prog.underlying 94 = some (.slice (Tryz.prog.elem 94)) := by kernel_rfl
theorem size94 (W : World) : (sizeOf (Tryz.prog.elem 94)).run Tryz.prog W = .ok 1 W := by
  have : Tryz.prog.elem 94 = 9 := by kernel_rfl
  rw [this]
  exact Tryz.sizeOf9 W
theorem run_who (g n u : Nat) (h1 : 1 ≤ u) (h2 : u < n) (W : World) : (Instr.sliceAt 94 (.slice (some ⟨g, 0, none⟩) (n + 1) (n + 1)) (some (.int .i64 1)) (some (.int .i64 ((u : Int) + 1))) none).run Tryz.prog W = .ok (.slice (some ⟨g, 1, none⟩) u n) W := by
  rw [run_sliceAt_slice (h := under94), run_slice_lh (ht := under94) (h0 := by omega) (h1 := by omega) (h2 := by omega), size94]
  simp only [Result.andThen, sliced, Option.map]
  rw [if_neg (by omega)]
  have e1 : ((u : Int) + 1).toNat - Int.toNat 1 = u := by omega
  have e2 : n + 1 - Int.toNat 1 = n := by omega
  rw [e1, e2]
  rfl
theorem run_rest (g n u : Nat) (h2 : u < n) (W : World) : (Instr.sliceAt 94 (.slice (some ⟨g, 0, none⟩) (n + 1) (n + 1)) (some (.int .i64 ((u : Int) + 1 + 1))) none none).run Tryz.prog W = .ok (.slice (some (restAd g n u)) (n - (u + 1)) (n - (u + 1))) W := by
  rw [run_sliceAt_slice (h := under94), run_slice_l (ht := under94) (h0 := by omega) (h1 := by omega), size94]
  have e1 : ((u : Int) + 1 + 1).toNat = u + 2 := by omega
  simp only [Result.andThen, sliced, Option.map, e1]
  rw [show n + 1 - (u + 2) = n - (u + 1) by omega]
  unfold restAd
  by_cases h : n = u + 1
  · rw [if_pos (by omega), if_pos h]
  · rw [if_neg (by omega), if_neg h]
    simp [Addr.add]
theorem add_row (g a k : Nat) (_h : 0 < a) : (⟨g, a, none⟩ : Addr).add k = ⟨g, a + k, none⟩ := by unfold Addr.add; split <;> simp_all
theorem words_who (w : World) (h : Bs) (t : List Bs) (u : Nat) : Words (w.alloc (.cells (sCells (h :: t)).toArray 9)) ⟨w.heap.size, 1, none⟩ (t.take u) := by
  intro k hk
  have hk2 : k < t.length := by rw [List.length_take] at hk; omega
  have h1 := word_cell w (h :: t) (k + 1) (by simp; omega)
  rw [add_row _ _ _ (by omega), Nat.add_comm 1 k, h1]
  simp
theorem words_rest (w : World) (h : Bs) (t : List Bs) (u : Nat) : Words (w.alloc (.cells (sCells (h :: t)).toArray 9)) (restAd w.heap.size t.length u) (t.drop (u + 1)) := by
  intro k hk
  have hk2 : u + 1 + k < t.length := by rw [List.length_drop] at hk; omega
  have h1 := word_cell w (h :: t) (u + 2 + k) (by simp; omega)
  unfold restAd
  rw [if_neg (by omega), add_row _ _ _ (by omega), h1]
  simp [show u + 2 + k = u + 1 + k + 1 by omega]
theorem List.take_one_eq {α : Type} {l : List α} (h : 0 < l.length) : l.take 1 = [l[0]'h] := by
  cases l with
  | nil => simp at h
  | cons x r => rfl
def XPost (o1 o2 : Option (List Nat)) (b1 b2 : Bool) (w : World) (e : Ending) (w' : World) : Prop :=
  Below w.heap.size w w' ∧ ∃ A n c B m d, e = .returned (.tuple #[.agg #[.slice A n c, .slice B m d], .bool (b1 && b2)]) ∧ (∀ ns, o1 = some ns → w'.ownsRow w.heap.size 3 1 (.slice A n c) ns.length (iCells (ns.map Int.ofNat))) ∧ (∀ ns, o2 = some ns → w'.ownsRow w.heap.size 3 1 (.slice B m d) ns.length (iCells (ns.map Int.ofNat)))
theorem xpost_end {o1 o2 : Option (List Nat)} {b1 b2 : Bool} {w w3 w4 : World} {A B : Option Addr} {n m c d x y : Nat} {u1 u2 : Value} (h0 : Below w.heap.size w w4) (h3 : Below w3.heap.size w3 w4)
    (h1 : ∀ ns, o1 = some ns → w3.ownsRow x 3 1 (.slice A n c) ns.length (iCells (ns.map Int.ofNat))) (h2 : ∀ ns, o2 = some ns → w4.ownsRow y 3 1 (.slice B m d) ns.length (iCells (ns.map Int.ofNat))) (hx : w.heap.size < x) (hy : w.heap.size < y) :
    XPost o1 o2 b1 b2 w (.returned (.tuple #[.agg #[.slice A n c, .slice B m d], .bool (b1 && b2)])) ((w4.setCell ⟨w.heap.size, 0, none⟩ u1).setCell ⟨w.heap.size, 1, none⟩ u2) :=
  ⟨(h0.setCell (Nat.le_refl _) _).setCell (Nat.le_refl _) _, A, n, c, B, m, d, rfl,
    fun ns h => own_lower (own_set (own_set (own_below (h1 ns h) h3) hx _) hx _) (Nat.le_of_lt hx),
    fun ns h => own_lower (own_set (own_set (h2 ns h) hy _) hy _) (Nat.le_of_lt hy)⟩
set_option maxHeartbeats 4000000 in
set_option maxRecDepth 100000 in
theorem readExit_many (s : Bs) (hs : s.length ≤ 4194304) (w : World) (hE : Env w) (t : List Bs) (hc : cut 32 s = kwOut :: t) (u : Nat) (hu : upTo t = u) (h1 : 1 ≤ u) (h2 : u < t.length) (o1 o2 : Option (List Nat)) (b1 b2 : Bool) (hb1 : o1.isSome = b1) (hb2 : o2.isSome = b2) (ho2 : allOf valOf (t.drop (u + 1)) = o2) (hne : ¬ u = 1) (ho1 : allOf valOf (t.take u) = o1) :
    Calls Tryz.prog 64 #[.string ⟨s.toArray⟩] w (XPost o1 o2 b1 b2 w) := by
  have hlen : t.length ≤ 4194304 := by
    have := cut_len 32 s
    rw [hc, List.length_cons] at this
    have : s.count 32 ≤ s.length := List.count_le_length
    omega
  have hW0 : Below w.heap.size w (w.alloc (.cells #[.slice none 0 0, .slice none 0 0] 72)) := (Below.refl _ _).alloc (Nat.le_refl _) _
  have hsp := split_any s 32 (w.alloc (.cells #[.slice none 0 0, .slice none 0 0] 72)) (by omega)
  rw [hc, List.length_cons] at hsp
  have hwc := word_cell (w.alloc (.cells #[.slice none 0 0, .slice none 0 0] 72)) (kwOut :: t)
  have hw1 := words_who (w.alloc (.cells #[.slice none 0 0, .slice none 0 0] 72)) kwOut t u
  have hw2 := words_rest (w.alloc (.cells #[.slice none 0 0, .slice none 0 0] 72)) kwOut t u
  have hbb := (Below.refl (w.alloc (.cells #[.slice none 0 0, .slice none 0 0] 72)).heap.size _).alloc (Nat.le_refl _) (.cells (sCells (kwOut :: t)).toArray 9)
  have hE2 := (hE.below hW0).below hbb
  have hS : ∀ x ∈ t, x.length ≤ 281474976710656 := fun x hx => by
    have h1 := cut_part 32 s x (by rw [hc]; exact List.mem_cons_of_mem _ hx)
    omega
  have HB2 : Hid (Below w.heap.size w ((w.alloc (.cells #[.slice none 0 0, .slice none 0 0] 72)).alloc (.cells (sCells (kwOut :: t)).toArray 9))) := Lib.hid (hW0.alloc (by simp) _)
  have hn1 := numbers_any (t.take u) (by rw [List.length_take]; omega) (fun x hx => hS x (List.mem_of_mem_take hx)) _ t.length _ hE2 hw1
  have hn2 := fun (W : World) (hb : Below ((w.alloc (.cells #[.slice none 0 0, .slice none 0 0] 72)).alloc (.cells (sCells (kwOut :: t)).toArray 9)).heap.size ((w.alloc (.cells #[.slice none 0 0, .slice none 0 0] 72)).alloc (.cells (sCells (kwOut :: t)).toArray 9)) W) => numbers_any (t.drop (u + 1)) (by rw [List.length_drop]; omega) (fun x hx => hS x (List.mem_of_mem_drop hx)) _ (t.length - (u + 1)) W (hE2.below hb) (hw2.below hb)
  rw [show (w.alloc (.cells #[.slice none 0 0, .slice none 0 0] 72)).heap.size = w.heap.size + 1 by simp] at hsp hwc hn1 hn2
  rw [List.length_take, Nat.min_eq_left (by omega)] at hn1
  rw [List.length_drop, ho2] at hn2
  have hs1 := fun W => run_who (w.heap.size + 1) t.length u h1 h2 W
  have hs2 := fun W => run_rest (w.heap.size + 1) t.length u h2 W
  generalize restAd (w.heap.size + 1) t.length u = ad2 at hn2 hs2
  have HSP := Lib.hid hsp; clear hsp
  have HWC := Lib.hid hwc; clear hwc
  have HN1 := Lib.hid hn1; clear hn1
  have HN2 := Lib.hid hn2; clear hn2
  have HU2 := Lib.hid (fun (w : World) (e : Ending) (w' : World) (h : NumsPost o2 w e w') => nums_u hb2 h)
  clear hs hE hE2 hS hw1 hw2 hbb hW0 ho2
  rw [ho1] at HN1
  have HU1 := Lib.hid (fun (w : World) (e : Ending) (w' : World) (h : NumsPost o1 w e w') => nums_u hb1 h)
  clear ho1
  go_enter Tryz.func64, Tryz.ntmps64
  go_wp2_with (first | (go_at_call 61; refine HSP.out.mono ?_; rintro e w1 ⟨rfl, rfl⟩))
  go_loopg [5] t.length (fun g v wr => ∃ k : Nat, k ≤ t.length ∧ g = t.length - k ∧ v = .int .i64 ((k + 1 : Nat) : Int) ∧ Hid (k ≤ upTo t) ∧ (w.alloc (.cells #[.slice none 0 0, .slice none 0 0] 72)).alloc (.cells (sCells (kwOut :: t)).toArray 9) = wr)
  case atStart => exact ⟨0, Nat.zero_le _, rfl, rfl, Nat.zero_le _, rfl⟩
  case round =>
    obtain ⟨k, hk, rfl, rfl, hku, rfl⟩ := hrel
    by_cases hlt : k < t.length
    · have q0 := HWC.out (k + 1) (by simp; omega)
      have e1 : (kwOut :: t)[k + 1]'(by simp; omega) = t[k] := rfl
      rw [e1] at q0
      by_cases hx : t[k] = [58]
      · have hk2 := upTo_is hlt hku.out hx
        rw [hu] at hk2
        subst hk2
        have hxe : (t[u] == [58]) = true := by simpa using hx
        have z0 := HWC.out 0 (by simp)
        have e2 : (⟨((kwOut :: t)[0]'(by simp)).toArray⟩ : ByteArray) = ⟨#[111, 117, 116]⟩ := rfl
        rw [e2] at z0
        have y1 : ((u : Int) + 1 == (t.length : Int) + 1) = false := by simp; omega
        have y2 : ((u : Int) + 1 == 1) = false := by simp; omega
        have y3 : ((u : Int) + 1 < (t.length : Int) + 1) := by omega
        have y4 : ((u : Int) + 1 == 2) = false := by simp; omega
        clear hx hu e1 e2 hk
        generalize t[u] = x at q0 hxe
        cases b1 <;> cases b2
        all_goals go_wp2_with (first | (go_at_call 92; refine (HN2.out _ HB3.out).mono ?_; intro e w4 hp4; obtain ⟨B, m, d, rfl, hb4, hm⟩ := HU2.out _ _ _ hp4; have HM := Lib.hid hm; clear hm; clear hp4; have hbz := HB3.out.trans (hb4.mono HB3.out.size); have r0 := hbz.cell (p := ⟨w.heap.size, 0, none⟩) (by simp; omega); have r1 := hbz.cell (p := ⟨w.heap.size, 1, none⟩) (by simp; omega); have f0 := hbz.frozen (p := ⟨w.heap.size, 0, none⟩) (by simp; omega); have f1 := hbz.frozen (p := ⟨w.heap.size, 1, none⟩) (by simp; omega); simp at r0 r1 f0 f1; have HBZ := Lib.hid hbz; clear hbz; have HB4 := Lib.hid hb4; clear hb4) | (go_at_call 92; refine HN1.out.mono ?_; intro e w3 hp3; obtain ⟨A, n, c, rfl, hb3, hn⟩ := HU1.out _ _ _ hp3; have HNN := Lib.hid hn; clear hn; clear hp3; have sz3 : w.heap.size + 1 < w3.heap.size := (by have h5 := hb3.size; simp at h5; omega); have HB3 := Lib.hid hb3; clear hb3))
        all_goals (try simp only [Exit.inBlock, Exit.then])
        all_goals refine bodyPost_ret (v := .tuple #[.agg #[.slice A n c, .slice B m d], .bool (_ && _)]) ?_ rfl (xpost_end (HB2.out.trans (HBZ.out.mono (by simp; omega))) HB4.out HNN.out HM.out (by simp; omega) (by omega))
        all_goals (rw [results_cell_tmp rfl]; go_simp)
      · have hk2 := upTo_more hlt hku.out hx
        have HK := Lib.hid hk2
        have hxe : (t[k] == [58]) = false := by simpa using hx
        clear hx hk2 hku e1
        generalize t[k] = x at q0 hxe
        go_wp2
        go_roundg (t.length - (k + 1))
        case measure => omega
        case rel => exact ⟨k + 1, by omega, rfl, by go_num, HK.out, rfl⟩
    · exact absurd (hu ▸ hku.out : k ≤ u) (by omega)
set_option maxHeartbeats 4000000 in
set_option maxRecDepth 100000 in
theorem readExit_one (s : Bs) (hs : s.length ≤ 4194304) (w : World) (hE : Env w) (t : List Bs) (hc : cut 32 s = kwOut :: t) (u : Nat) (hu : upTo t = u) (h1 : 1 ≤ u) (h2 : u < t.length) (o1 o2 : Option (List Nat)) (b1 b2 : Bool) (hb1 : o1.isSome = b1) (hb2 : o2.isSome = b2) (ho2 : allOf valOf (t.drop (u + 1)) = o2) (hu1 : u = 1) (hw : ¬ t.take u = [kwAll]) (ho1 : allOf valOf (t.take u) = o1) :
    Calls Tryz.prog 64 #[.string ⟨s.toArray⟩] w (XPost o1 o2 b1 b2 w) := by
  have hlen : t.length ≤ 4194304 := by
    have := cut_len 32 s
    rw [hc, List.length_cons] at this
    have : s.count 32 ≤ s.length := List.count_le_length
    omega
  have hW0 : Below w.heap.size w (w.alloc (.cells #[.slice none 0 0, .slice none 0 0] 72)) := (Below.refl _ _).alloc (Nat.le_refl _) _
  have hsp := split_any s 32 (w.alloc (.cells #[.slice none 0 0, .slice none 0 0] 72)) (by omega)
  rw [hc, List.length_cons] at hsp
  have hwc := word_cell (w.alloc (.cells #[.slice none 0 0, .slice none 0 0] 72)) (kwOut :: t)
  have hw1 := words_who (w.alloc (.cells #[.slice none 0 0, .slice none 0 0] 72)) kwOut t u
  have hw2 := words_rest (w.alloc (.cells #[.slice none 0 0, .slice none 0 0] 72)) kwOut t u
  have hbb := (Below.refl (w.alloc (.cells #[.slice none 0 0, .slice none 0 0] 72)).heap.size _).alloc (Nat.le_refl _) (.cells (sCells (kwOut :: t)).toArray 9)
  have hE2 := (hE.below hW0).below hbb
  have hS : ∀ x ∈ t, x.length ≤ 281474976710656 := fun x hx => by
    have h1 := cut_part 32 s x (by rw [hc]; exact List.mem_cons_of_mem _ hx)
    omega
  have HB2 : Hid (Below w.heap.size w ((w.alloc (.cells #[.slice none 0 0, .slice none 0 0] 72)).alloc (.cells (sCells (kwOut :: t)).toArray 9))) := Lib.hid (hW0.alloc (by simp) _)
  have hn1 := numbers_any (t.take u) (by rw [List.length_take]; omega) (fun x hx => hS x (List.mem_of_mem_take hx)) _ t.length _ hE2 hw1
  have hn2 := fun (W : World) (hb : Below ((w.alloc (.cells #[.slice none 0 0, .slice none 0 0] 72)).alloc (.cells (sCells (kwOut :: t)).toArray 9)).heap.size ((w.alloc (.cells #[.slice none 0 0, .slice none 0 0] 72)).alloc (.cells (sCells (kwOut :: t)).toArray 9)) W) => numbers_any (t.drop (u + 1)) (by rw [List.length_drop]; omega) (fun x hx => hS x (List.mem_of_mem_drop hx)) _ (t.length - (u + 1)) W (hE2.below hb) (hw2.below hb)
  rw [show (w.alloc (.cells #[.slice none 0 0, .slice none 0 0] 72)).heap.size = w.heap.size + 1 by simp] at hsp hwc hn1 hn2
  rw [List.length_take, Nat.min_eq_left (by omega)] at hn1
  rw [List.length_drop, ho2] at hn2
  have hs1 := fun W => run_who (w.heap.size + 1) t.length u h1 h2 W
  have hs2 := fun W => run_rest (w.heap.size + 1) t.length u h2 W
  generalize restAd (w.heap.size + 1) t.length u = ad2 at hn2 hs2
  have HSP := Lib.hid hsp; clear hsp
  have HWC := Lib.hid hwc; clear hwc
  have HN1 := Lib.hid hn1; clear hn1
  have HN2 := Lib.hid hn2; clear hn2
  have HU2 := Lib.hid (fun (w : World) (e : Ending) (w' : World) (h : NumsPost o2 w e w') => nums_u hb2 h)
  clear hs hE hE2 hS hw1 hw2 hbb hW0 ho2
  rw [ho1] at HN1
  have HU1 := Lib.hid (fun (w : World) (e : Ending) (w' : World) (h : NumsPost o1 w e w') => nums_u hb1 h)
  clear ho1
  go_enter Tryz.func64, Tryz.ntmps64
  go_wp2_with (first | (go_at_call 61; refine HSP.out.mono ?_; rintro e w1 ⟨rfl, rfl⟩))
  go_loopg [5] t.length (fun g v wr => ∃ k : Nat, k ≤ t.length ∧ g = t.length - k ∧ v = .int .i64 ((k + 1 : Nat) : Int) ∧ Hid (k ≤ upTo t) ∧ (w.alloc (.cells #[.slice none 0 0, .slice none 0 0] 72)).alloc (.cells (sCells (kwOut :: t)).toArray 9) = wr)
  case atStart => exact ⟨0, Nat.zero_le _, rfl, rfl, Nat.zero_le _, rfl⟩
  case round =>
    obtain ⟨k, hk, rfl, rfl, hku, rfl⟩ := hrel
    by_cases hlt : k < t.length
    · have q0 := HWC.out (k + 1) (by simp; omega)
      have e1 : (kwOut :: t)[k + 1]'(by simp; omega) = t[k] := rfl
      rw [e1] at q0
      by_cases hx : t[k] = [58]
      · have hk2 := upTo_is hlt hku.out hx
        rw [hu] at hk2
        subst hk2
        have hxe : (t[u] == [58]) = true := by simpa using hx
        have z0 := HWC.out 0 (by simp)
        have e2 : (⟨((kwOut :: t)[0]'(by simp)).toArray⟩ : ByteArray) = ⟨#[111, 117, 116]⟩ := rfl
        rw [e2] at z0
        have y1 : ((u : Int) + 1 == (t.length : Int) + 1) = false := by simp; omega
        have y2 : ((u : Int) + 1 == 1) = false := by simp; omega
        have y3 : ((u : Int) + 1 < (t.length : Int) + 1) := by omega
        have z1 := HWC.out 1 (by simp; omega)
        have h3 : 0 < t.length := by omega
        have e3 : (kwOut :: t)[1]'(by simp; omega) = t[0]'h3 := rfl
        rw [e3] at z1
        have y5 : (t[0]'h3 == [97, 108, 108]) = false := by
          rw [beq_eq_false_iff_ne]
          intro e
          apply hw
          rw [hu1]
          clear HN1 HN2 HSP HWC HU1 HU2
          rw [show t.take 1 = [t[0]'h3] from List.take_one_eq h3, e]
          rfl
        have y4 : ((u : Int) + 1 == 2) = true := by rw [hu1]; rfl
        clear e3 hw hu1
        generalize t[0]'h3 = y at z1 y5
        clear hx hu e1 e2 hk
        generalize t[u] = x at q0 hxe
        cases b1 <;> cases b2
        all_goals go_wp2_with (first | (go_at_call 92; refine (HN2.out _ HB3.out).mono ?_; intro e w4 hp4; obtain ⟨B, m, d, rfl, hb4, hm⟩ := HU2.out _ _ _ hp4; have HM := Lib.hid hm; clear hm; clear hp4; have hbz := HB3.out.trans (hb4.mono HB3.out.size); have r0 := hbz.cell (p := ⟨w.heap.size, 0, none⟩) (by simp; omega); have r1 := hbz.cell (p := ⟨w.heap.size, 1, none⟩) (by simp; omega); have f0 := hbz.frozen (p := ⟨w.heap.size, 0, none⟩) (by simp; omega); have f1 := hbz.frozen (p := ⟨w.heap.size, 1, none⟩) (by simp; omega); simp at r0 r1 f0 f1; have HBZ := Lib.hid hbz; clear hbz; have HB4 := Lib.hid hb4; clear hb4) | (go_at_call 92; refine HN1.out.mono ?_; intro e w3 hp3; obtain ⟨A, n, c, rfl, hb3, hn⟩ := HU1.out _ _ _ hp3; have HNN := Lib.hid hn; clear hn; clear hp3; have sz3 : w.heap.size + 1 < w3.heap.size := (by have h5 := hb3.size; simp at h5; omega); have HB3 := Lib.hid hb3; clear hb3))
        all_goals (try simp only [Exit.inBlock, Exit.then])
        all_goals refine bodyPost_ret (v := .tuple #[.agg #[.slice A n c, .slice B m d], .bool (_ && _)]) ?_ rfl (xpost_end (HB2.out.trans (HBZ.out.mono (by simp; omega))) HB4.out HNN.out HM.out (by simp; omega) (by omega))
        all_goals (rw [results_cell_tmp rfl]; go_simp)
      · have hk2 := upTo_more hlt hku.out hx
        have HK := Lib.hid hk2
        have hxe : (t[k] == [58]) = false := by simpa using hx
        clear hx hk2 hku e1
        generalize t[k] = x at q0 hxe
        go_wp2
        go_roundg (t.length - (k + 1))
        case measure => omega
        case rel => exact ⟨k + 1, by omega, rfl, by go_num, HK.out, rfl⟩
    · exact absurd (hu ▸ hku.out : k ≤ u) (by omega)
set_option maxHeartbeats 4000000 in
set_option maxRecDepth 100000 in
theorem readExit_all (s : Bs) (hs : s.length ≤ 4194304) (w : World) (hE : Env w) (t : List Bs) (hc : cut 32 s = kwOut :: t) (u : Nat) (hu : upTo t = u) (h1 : 1 ≤ u) (h2 : u < t.length) (o1 o2 : Option (List Nat)) (b1 b2 : Bool) (hb1 : o1.isSome = b1) (hb2 : o2.isSome = b2) (ho2 : allOf valOf (t.drop (u + 1)) = o2) (hu1 : u = 1) (hw : t.take u = [kwAll]) (ho1 : some [] = o1) :
    Calls Tryz.prog 64 #[.string ⟨s.toArray⟩] w (XPost o1 o2 b1 b2 w) := by
  have hlen : t.length ≤ 4194304 := by
    have := cut_len 32 s
    rw [hc, List.length_cons] at this
    have : s.count 32 ≤ s.length := List.count_le_length
    omega
  have hW0 : Below w.heap.size w (w.alloc (.cells #[.slice none 0 0, .slice none 0 0] 72)) := (Below.refl _ _).alloc (Nat.le_refl _) _
  have hsp := split_any s 32 (w.alloc (.cells #[.slice none 0 0, .slice none 0 0] 72)) (by omega)
  rw [hc, List.length_cons] at hsp
  have hwc := word_cell (w.alloc (.cells #[.slice none 0 0, .slice none 0 0] 72)) (kwOut :: t)
  have hw1 := words_who (w.alloc (.cells #[.slice none 0 0, .slice none 0 0] 72)) kwOut t u
  have hw2 := words_rest (w.alloc (.cells #[.slice none 0 0, .slice none 0 0] 72)) kwOut t u
  have hbb := (Below.refl (w.alloc (.cells #[.slice none 0 0, .slice none 0 0] 72)).heap.size _).alloc (Nat.le_refl _) (.cells (sCells (kwOut :: t)).toArray 9)
  have hE2 := (hE.below hW0).below hbb
  have hS : ∀ x ∈ t, x.length ≤ 281474976710656 := fun x hx => by
    have h1 := cut_part 32 s x (by rw [hc]; exact List.mem_cons_of_mem _ hx)
    omega
  have HB2 : Hid (Below w.heap.size w ((w.alloc (.cells #[.slice none 0 0, .slice none 0 0] 72)).alloc (.cells (sCells (kwOut :: t)).toArray 9))) := Lib.hid (hW0.alloc (by simp) _)
  have hn1 := numbers_any (t.take u) (by rw [List.length_take]; omega) (fun x hx => hS x (List.mem_of_mem_take hx)) _ t.length _ hE2 hw1
  have hn2 := fun (W : World) (hb : Below ((w.alloc (.cells #[.slice none 0 0, .slice none 0 0] 72)).alloc (.cells (sCells (kwOut :: t)).toArray 9)).heap.size ((w.alloc (.cells #[.slice none 0 0, .slice none 0 0] 72)).alloc (.cells (sCells (kwOut :: t)).toArray 9)) W) => numbers_any (t.drop (u + 1)) (by rw [List.length_drop]; omega) (fun x hx => hS x (List.mem_of_mem_drop hx)) _ (t.length - (u + 1)) W (hE2.below hb) (hw2.below hb)
  rw [show (w.alloc (.cells #[.slice none 0 0, .slice none 0 0] 72)).heap.size = w.heap.size + 1 by simp] at hsp hwc hn1 hn2
  rw [List.length_take, Nat.min_eq_left (by omega)] at hn1
  rw [List.length_drop, ho2] at hn2
  have hs1 := fun W => run_who (w.heap.size + 1) t.length u h1 h2 W
  have hs2 := fun W => run_rest (w.heap.size + 1) t.length u h2 W
  generalize restAd (w.heap.size + 1) t.length u = ad2 at hn2 hs2
  have HSP := Lib.hid hsp; clear hsp
  have HWC := Lib.hid hwc; clear hwc
  have HN1 := Lib.hid hn1; clear hn1
  have HN2 := Lib.hid hn2; clear hn2
  have HU2 := Lib.hid (fun (w : World) (e : Ending) (w' : World) (h : NumsPost o2 w e w') => nums_u hb2 h)
  clear hs hE hE2 hS hw1 hw2 hbb hW0 ho2
  clear HN1
  have HN1 : Hid (∀ (A : Option Addr) (c : Nat) (W : World), Calls Tryz.prog 92 #[.slice A 0 c] W (NumsPost o1 W)) := Lib.hid (by subst ho1; exact numbers_nil)
  have HU1 := Lib.hid (fun (w : World) (e : Ending) (w' : World) (h : NumsPost o1 w e w') => nums_u hb1 h)
  clear ho1
  go_enter Tryz.func64, Tryz.ntmps64
  go_wp2_with (first | (go_at_call 61; refine HSP.out.mono ?_; rintro e w1 ⟨rfl, rfl⟩))
  go_loopg [5] t.length (fun g v wr => ∃ k : Nat, k ≤ t.length ∧ g = t.length - k ∧ v = .int .i64 ((k + 1 : Nat) : Int) ∧ Hid (k ≤ upTo t) ∧ (w.alloc (.cells #[.slice none 0 0, .slice none 0 0] 72)).alloc (.cells (sCells (kwOut :: t)).toArray 9) = wr)
  case atStart => exact ⟨0, Nat.zero_le _, rfl, rfl, Nat.zero_le _, rfl⟩
  case round =>
    obtain ⟨k, hk, rfl, rfl, hku, rfl⟩ := hrel
    by_cases hlt : k < t.length
    · have q0 := HWC.out (k + 1) (by simp; omega)
      have e1 : (kwOut :: t)[k + 1]'(by simp; omega) = t[k] := rfl
      rw [e1] at q0
      by_cases hx : t[k] = [58]
      · have hk2 := upTo_is hlt hku.out hx
        rw [hu] at hk2
        subst hk2
        have hxe : (t[u] == [58]) = true := by simpa using hx
        have z0 := HWC.out 0 (by simp)
        have e2 : (⟨((kwOut :: t)[0]'(by simp)).toArray⟩ : ByteArray) = ⟨#[111, 117, 116]⟩ := rfl
        rw [e2] at z0
        have y1 : ((u : Int) + 1 == (t.length : Int) + 1) = false := by simp; omega
        have y2 : ((u : Int) + 1 == 1) = false := by simp; omega
        have y3 : ((u : Int) + 1 < (t.length : Int) + 1) := by omega
        have z1 := HWC.out 1 (by simp; omega)
        have e3 : (⟨((kwOut :: t)[1]'(by simp; omega)).toArray⟩ : ByteArray) = ⟨#[97, 108, 108]⟩ := by
          have h3 : 0 < t.length := by omega
          rw [hu1, List.take_one_eq h3] at hw
          injection hw with hw _
          show (⟨(t[0]'h3).toArray⟩ : ByteArray) = _
          rw [hw]
          rfl
        rw [e3] at z1
        have y4 : ((u : Int) + 1 == 2) = true := by rw [hu1]; rfl
        clear e3 hw hu1
        clear hx hu e1 e2 hk
        generalize t[u] = x at q0 hxe
        cases b1 <;> cases b2
        all_goals go_wp2_with (first | (go_at_call 92; refine (HN2.out _ HB3.out).mono ?_; intro e w4 hp4; obtain ⟨B, m, d, rfl, hb4, hm⟩ := HU2.out _ _ _ hp4; have HM := Lib.hid hm; clear hm; clear hp4; have hbz := HB3.out.trans (hb4.mono HB3.out.size); have r0 := hbz.cell (p := ⟨w.heap.size, 0, none⟩) (by simp; omega); have r1 := hbz.cell (p := ⟨w.heap.size, 1, none⟩) (by simp; omega); have f0 := hbz.frozen (p := ⟨w.heap.size, 0, none⟩) (by simp; omega); have f1 := hbz.frozen (p := ⟨w.heap.size, 1, none⟩) (by simp; omega); simp at r0 r1 f0 f1; have HBZ := Lib.hid hbz; clear hbz; have HB4 := Lib.hid hb4; clear hb4) | (go_at_call 92; refine (HN1.out _ _ _).mono ?_; intro e w3 hp3; obtain ⟨A, n, c, rfl, hb3, hn⟩ := HU1.out _ _ _ hp3; have HNN := Lib.hid hn; clear hn; clear hp3; have sz3 : w.heap.size + 1 < w3.heap.size := (by have h5 := hb3.size; simp at h5; omega); have HB3 := Lib.hid hb3; clear hb3))
        all_goals (try simp only [Exit.inBlock, Exit.then])
        all_goals refine bodyPost_ret (v := .tuple #[.agg #[.slice A n c, .slice B m d], .bool (_ && _)]) ?_ rfl (xpost_end (HB2.out.trans (HBZ.out.mono (by simp; omega))) HB4.out HNN.out HM.out (by simp; omega) (by omega))
        all_goals (rw [results_cell_tmp rfl]; go_simp)
      · have hk2 := upTo_more hlt hku.out hx
        have HK := Lib.hid hk2
        have hxe : (t[k] == [58]) = false := by simpa using hx
        clear hx hk2 hku e1
        generalize t[k] = x at q0 hxe
        go_wp2
        go_roundg (t.length - (k + 1))
        case measure => omega
        case rel => exact ⟨k + 1, by omega, rfl, by go_num, HK.out, rfl⟩
    · exact absurd (hu ▸ hku.out : k ≤ u) (by omega)
end Go.Proofs.YtmnbgamnbgdnnaaGreatDoor

/- Contract of circ.readExit, joined. -/
namespace Go.Proofs.YtmnbgamnbgdnnaaGreatDoor
open Go.RowKit

def exJoin (o1 o2 : Option (List Nat)) : Option ExL := o1.bind fun a => o2.map fun b => (a.map Int.ofNat, b.map Int.ofNat)
theorem exitOf_join {s h : Bs} {t : List Bs} (hc : cut 32 s = h :: t) : exitOf s = if h = kwOut ∧ upTo t ≠ 0 ∧ upTo t < t.length then
    exJoin (allOf valOf (if t.take (upTo t) = [kwAll] then [] else t.take (upTo t))) (allOf valOf (t.drop (upTo t + 1))) else none := by
  rw [exitOf_cut hc]
  split
  · cases allOf valOf (if t.take (upTo t) = [kwAll] then [] else t.take (upTo t)) with
    | none => rfl
    | some a => cases allOf valOf (t.drop (upTo t + 1)) <;> rfl
  · rfl
theorem xpost_exit {o1 o2 : Option (List Nat)} {w : World} {e : Ending} {w' : World} (h : XPost o1 o2 o1.isSome o2.isSome w e w') :
    ExitPostR (exJoin o1 o2) w e w' := by
  obtain ⟨h0, A, n, c, B, m, d, rfl, h1, h2⟩ := h
  refine ⟨h0, ?_⟩
  cases o1 with
  | none => exact ⟨A, n, c, B, m, d, rfl⟩
  | some a =>
    cases o2 with
    | none => exact ⟨A, n, c, B, m, d, rfl⟩
    | some b =>
      have r1 := h1 a rfl
      have r2 := h2 b rfl
      obtain rfl := own_n r1
      obtain rfl := own_n r2
      exact ⟨A, c, B, d, by simp, by simpa using r1, by simpa using r2⟩
theorem readExit_any (s : Bs) (hs : s.length ≤ 4194304) (w : World) (hE : Env w) : Calls Tryz.prog 64 #[.string ⟨s.toArray⟩] w (ExitPostR (exitOf s) w) := by
  cases hc : cut 32 s with
  | nil => exact absurd hc (cut_ne 32 s)
  | cons h t =>
    rw [exitOf_join hc]
    by_cases hg : h = kwOut ∧ upTo t ≠ 0 ∧ upTo t < t.length
    · rw [if_pos hg]
      obtain ⟨rfl, h1, h2⟩ := hg
      have fin : ∀ o1 o2, Calls Tryz.prog 64 #[.string ⟨s.toArray⟩] w (XPost o1 o2 o1.isSome o2.isSome w) → Calls Tryz.prog 64 #[.string ⟨s.toArray⟩] w (ExitPostR (exJoin o1 o2) w) := fun o1 o2 h => h.mono fun e w' h => xpost_exit h
      refine fin _ _ ?_
      by_cases hall : t.take (upTo t) = [kwAll]
      · rw [if_pos hall]
        have hu1 : upTo t = 1 := by
          have := congrArg List.length hall
          rw [List.length_take] at this
          simp at this
          omega
        exact readExit_all s hs w hE t hc (upTo t) rfl (by omega) h2 _ _ _ _ rfl rfl rfl hu1 hall rfl
      · rw [if_neg hall]
        by_cases hu1 : upTo t = 1
        · exact readExit_one s hs w hE t hc (upTo t) rfl (by omega) h2 _ _ _ _ rfl rfl rfl hu1 hall rfl
        · exact readExit_many s hs w hE t hc (upTo t) rfl (by omega) h2 _ _ _ _ rfl rfl rfl hu1 rfl
    · rw [if_neg hg]
      exact readExit_bad s hs w h t hc hg
end Go.Proofs.YtmnbgamnbgdnnaaGreatDoor

/- What circ.Read keeps in memory while it reads. -/
namespace Go.Proofs.YtmnbgamnbgdnnaaGreatDoor
open Go.RowKit

theorem infoGat : (Tryz.prog.info? 69).map (fun i => (i.zero, i.size, i.bytes)) = some (some (.agg #[.int .i64 0, .int .i64 0, .int .i64 0, .int .u64 0]), 4, 32) := by kernel_rfl
theorem infoExi : (Tryz.prog.info? 72).map (fun i => (i.zero, i.size, i.bytes)) = some (some (.agg #[.slice none 0 0, .slice none 0 0]), 2, 48) := by kernel_rfl
theorem own_ne {w : World} {base base' : Nat} {e e' : TypeId} {size size' n n' : Nat} {v v' : Value} {xs xs' : List Value} (h : w.ownsRow base e size v n xs) (h' : w.ownsRow base' e' size' v' n' xs') (hne : e ≠ e') : v.ownBlock = none ∨ v.ownBlock ≠ v'.ownBlock := by
  rcases h.2 with ⟨rfl, _⟩ | ⟨g, cap, cur, rfl, _, hg, _⟩
  · exact .inl rfl
  · rcases h'.2 with ⟨rfl, _⟩ | ⟨g', cap', cur', rfl, _, hg', _⟩
    · exact .inr (by simp [Value.ownBlock])
    · refine .inr fun e2 => ?_
      have e3 : g = g' := by simpa [Value.ownBlock] using e2
      subst e3
      rw [hg] at hg'
      injection hg' with hg'
      injection hg' with _ hg' _
      exact hne hg'
theorem own_past {w : World} {base k : Nat} {e : TypeId} {size n : Nat} {v : Value} {xs : List Value} (h : w.ownsRow base e size v n xs) (hk : k < base) : some k ≠ v.ownBlock := fun e => by
  have := (h.lt k e.symm).1
  omega
theorem own_len {w : World} {base : Nat} {e : TypeId} {size n : Nat} {v : Value} {xs : List Value} (h : w.ownsRow base e size v n xs) : n ≤ maxLen := by
  rcases h.2 with ⟨_, rfl⟩ | ⟨g, cap, cur, rfl, _, _, h1, h2, _⟩
  · exact Nat.zero_le _
  · omega
/-- What holds while the lines are read: c lies in block B + 2. -/
structure Inv (B : Nat) (st : Lis) (xs : List Exi) (v1 v2 v3 : Value) (W : World) : Prop where
  h1 : W.ownsRow (B + 3) 54 2 v1 st.1.length (sloCells st.1)
  h2 : W.ownsRow (B + 3) 69 4 v2 st.2.1.length (gatCells st.2.1)
  h3 : W.ownsRow (B + 3) 72 2 v3 xs.length (exiCells xs)
  hx : ∀ x ∈ xs, W.ownsRow (B + 3) 3 1 (.slice x.A x.tl.length x.c) x.tl.length (iCells x.tl) ∧ W.ownsRow (B + 3) 3 1 (.slice x.B x.gl.length x.d) x.gl.length (iCells x.gl)
  hb : W.heap[B + 2]? = some (.cells #[v1, v2, v3] 27 (0, 0))
  hl : xs.map Exi.l = st.2.2
  hk : ∀ g ∈ st.2.1, 0 ≤ g.2.2.2
theorem Inv.lt {B : Nat} {st : Lis} {xs : List Exi} {v1 v2 v3 : Value} {W : World} (h : Inv B st xs v1 v2 v3 W) : B + 2 < W.heap.size := (Array.getElem?_eq_some_iff.1 h.hb).1
theorem Inv.below {B : Nat} {st : Lis} {xs : List Exi} {v1 v2 v3 : Value} {W W' : World} (h : Inv B st xs v1 v2 v3 W) (hb : Below W.heap.size W W') : Inv B st xs v1 v2 v3 W' :=
  ⟨own_below h.h1 hb, own_below h.h2 hb, own_below h.h3 hb, fun x hx => ⟨own_below (h.hx x hx).1 hb, own_below (h.hx x hx).2 hb⟩, (hb.block _ h.lt).trans h.hb, h.hl, h.hk⟩
theorem box_facts {W : World} {b : Nat} {v1 v2 v3 : Value} {t : TypeId} (h : W.heap[b]? = some (.cells #[v1, v2, v3] t (0, 0))) :
    W.cell? ⟨b, 0, none⟩ = some v1 ∧ W.cell? ⟨b, 1, none⟩ = some v2 ∧ W.cell? ⟨b, 2, none⟩ = some v3 ∧ W.frozen? ⟨b, 0, none⟩ = false ∧ W.frozen? ⟨b, 1, none⟩ = false ∧ W.frozen? ⟨b, 2, none⟩ = false := by
  simp [World.cell?, World.frozen?, h]
theorem box_set {W : World} {b i : Nat} {cs : Array Value} {t : TypeId} {fr : Nat × Nat} (h : W.heap[b]? = some (.cells cs t fr)) (u : Value) : (W.setCell ⟨b, i, none⟩ u).heap[b]? = some (.cells (cs.setIfInBounds i u) t fr) := by
  simp only [World.setCell, Array.getElem?_modify, if_true, h, Option.map_some]
  rfl
theorem Inv.slots {B : Nat} {st : Lis} {xs : List Exi} {v1 v2 v3 v : Value} {W : World} (h : Inv B st xs v1 v2 v3 W) {l : List Slo} (ho : W.ownsRow (B + 3) 54 2 v l.length (sloCells l)) : Inv B (l, st.2.1, st.2.2) xs v v2 v3 (W.setCell ⟨B + 2, 0, none⟩ v) :=
  ⟨own_set ho (Nat.lt_succ_self _) _, own_set h.h2 (Nat.lt_succ_self _) _, own_set h.h3 (Nat.lt_succ_self _) _, fun x hx => ⟨own_set (h.hx x hx).1 (Nat.lt_succ_self _) _, own_set (h.hx x hx).2 (Nat.lt_succ_self _) _⟩, box_set h.hb _, h.hl, h.hk⟩
theorem gatCells_snoc (l : List Gat) (g : Gat) : gatCells (l ++ [g]) = gatCells l ++ [.int .i64 g.1, .int .i64 g.2.1, .int .i64 g.2.2.1, .int .u64 g.2.2.2] := by simp [gatCells]
theorem exiCells_snoc (l : List Exi) (x : Exi) : exiCells (l ++ [x]) = exiCells l ++ [.slice x.A x.tl.length x.c, .slice x.B x.gl.length x.d] := by simp [exiCells]
theorem Inv.gate {B : Nat} {st : Lis} {xs : List Exi} {v1 v2 v3 v : Value} {W W3 : World} (h : Inv B st xs v1 v2 v3 W) {g : Gat} (hg0 : 0 ≤ g.2.2.2) (ho : W3.ownsRow (B + 3) 69 4 v (st.2.1.length + 1) (gatCells st.2.1 ++ [.int .i64 g.1, .int .i64 g.2.1, .int .i64 g.2.2.1, .int .u64 g.2.2.2])) (hg : W.grownBy W3 v2.ownBlock) :
    Inv B (st.1, st.2.1 ++ [g], st.2.2) xs v1 v v3 (W3.setCell ⟨B + 2, 1, none⟩ v) := by
  refine ⟨own_set (h.h1.kept hg (own_ne h.h1 h.h2 (by decide))) (Nat.lt_succ_self _) _, ?_, own_set (h.h3.kept hg (own_ne h.h3 h.h2 (by decide))) (Nat.lt_succ_self _) _, fun x hx => ⟨own_set ((h.hx x hx).1.kept hg (own_ne (h.hx x hx).1 h.h2 (by decide))) (Nat.lt_succ_self _) _, own_set ((h.hx x hx).2.kept hg (own_ne (h.hx x hx).2 h.h2 (by decide))) (Nat.lt_succ_self _) _⟩, ?_, h.hl, ?_⟩
  · have := own_set ho (p := ⟨B + 2, 1, none⟩) (Nat.lt_succ_self _) v
    rw [← gatCells_snoc] at this
    simpa using this
  · exact box_set ((hg.block _ h.lt (own_past h.h2 (Nat.lt_succ_self _))).trans h.hb) v
  · intro y hy
    rcases List.mem_append.1 hy with e | e
    · exact h.hk y e
    · rw [List.mem_singleton.1 e]; exact hg0
theorem Inv.exit {B : Nat} {st : Lis} {xs : List Exi} {v1 v2 v3 v : Value} {W W3 : World} (h : Inv B st xs v1 v2 v3 W) {x : Exi}
    (hA : W.ownsRow (B + 3) 3 1 (.slice x.A x.tl.length x.c) x.tl.length (iCells x.tl)) (hB : W.ownsRow (B + 3) 3 1 (.slice x.B x.gl.length x.d) x.gl.length (iCells x.gl))
    (ho : W3.ownsRow (B + 3) 72 2 v (xs.length + 1) (exiCells xs ++ [.slice x.A x.tl.length x.c, .slice x.B x.gl.length x.d])) (hg : W.grownBy W3 v3.ownBlock) :
    Inv B (st.1, st.2.1, st.2.2 ++ [x.l]) (xs ++ [x]) v1 v2 v (W3.setCell ⟨B + 2, 2, none⟩ v) := by
  refine ⟨own_set (h.h1.kept hg (own_ne h.h1 h.h3 (by decide))) (Nat.lt_succ_self _) _, own_set (h.h2.kept hg (own_ne h.h2 h.h3 (by decide))) (Nat.lt_succ_self _) _, ?_, fun y hy => ?_, ?_, ?_, h.hk⟩
  · have := own_set ho (p := ⟨B + 2, 2, none⟩) (Nat.lt_succ_self _) v
    rw [← exiCells_snoc] at this
    simpa using this
  · rcases List.mem_append.1 hy with e | e
    · exact ⟨own_set ((h.hx y e).1.kept hg (own_ne (h.hx y e).1 h.h3 (by decide))) (Nat.lt_succ_self _) _, own_set ((h.hx y e).2.kept hg (own_ne (h.hx y e).2 h.h3 (by decide))) (Nat.lt_succ_self _) _⟩
    · rw [List.mem_singleton.1 e]
      exact ⟨own_set (hA.kept hg (own_ne hA h.h3 (by decide))) (Nat.lt_succ_self _) _, own_set (hB.kept hg (own_ne hB h.h3 (by decide))) (Nat.lt_succ_self _) _⟩
  · exact box_set ((hg.block _ h.lt (own_past h.h3 (Nat.lt_succ_self _))).trans h.hb) v
  · rw [List.map_append, h.hl]; rfl
theorem gateOf_k {s : Bs} {g : Gat} (h : gateOf s = some g) : 0 ≤ g.2.2.2 := by
  unfold gateOf at h
  split at h
  · split at h
    · injection h with h; subst h; exact Int.le_refl _
    · split at h
      · injection h with h; subst h; exact Int.natCast_nonneg _
      · cases h
  · split at h
    · injection h with h; subst h; exact Int.le_refl _
    · split at h
      · injection h with h; subst h; exact Int.le_refl _
      · split at h
        · injection h with h; subst h; exact Int.le_refl _
        · split at h
          · injection h with h; subst h; exact Int.natCast_nonneg _
          · cases h
  · cases h
theorem own_reads_at {w : World} {base n c : Nat} {e : TypeId} {size m : Nat} {A : Option Addr} {xs : List Value} (h : w.ownsRow base e size (.slice A n c) m xs) : Reads w A xs := by
  obtain ⟨A', c', e1, r⟩ := own_reads h
  injection e1 with e1 _ _
  rw [e1]
  exact r
/-- The circuit that lies in memory once the lines are read. -/
theorem Inv.holds {B : Nat} {st : Lis} {xs : List Exi} {v1 v2 v3 : Value} {W : World} (h : Inv B st xs v1 v2 v3 W) :
    ∃ C : Cir, v1 = .slice C.SA C.slots.length C.sc ∧ v2 = .slice C.GA C.gates.length C.gc ∧ v3 = .slice C.EA C.exits.length C.ec ∧ C.l = st ∧ ∀ W', Inv B st xs v1 v2 v3 W' → HoldsC W' C := by
  obtain ⟨S, sc, rfl, _⟩ := own_reads h.h1
  obtain ⟨G, gc, rfl, _⟩ := own_reads h.h2
  obtain ⟨E, ec, rfl, _⟩ := own_reads h.h3
  have hm : maxLen ≤ 9223372036854775807 := by unfold maxLen; omega
  refine ⟨⟨st.1, st.2.1, xs, S, G, E, sc, gc, ec⟩, rfl, rfl, rfl, by unfold Cir.l; simp only; rw [h.hl], fun W' h' => ⟨own_reads_at h'.h1, own_reads_at h'.h2, own_reads_at h'.h3, fun x hx => ⟨own_reads_at (h'.hx x hx).1, own_reads_at (h'.hx x hx).2⟩, ⟨Nat.le_trans (own_len h.h1) hm, Nat.le_trans (own_len h.h2) hm, Nat.le_trans (own_len h.h3) hm⟩, fun x hx => ⟨Nat.le_trans (own_len (h.hx x hx).1) hm, Nat.le_trans (own_len (h.hx x hx).2) hm⟩, h.hk⟩⟩
theorem Inv.res {B : Nat} {st : Lis} {xs : List Exi} {v1 v2 v3 : Value} {W : World} (h : Inv B st xs v1 v2 v3 W) (i : Nat) (u : Value) : Inv B st xs v1 v2 v3 (W.setCell ⟨B, i, none⟩ u) :=
  ⟨own_set h.h1 (by simp only; omega) _, own_set h.h2 (by simp only; omega) _, own_set h.h3 (by simp only; omega) _, fun x hx => ⟨own_set (h.hx x hx).1 (by simp only; omega) _, own_set (h.hx x hx).2 (by simp only; omega) _⟩, (Below.heap_setCell _ _ _ _ (by simp only; omega)).trans h.hb, h.hl, h.hk⟩
theorem last_at (l : List Bs) (m : Nat) (h : l.length = m + 1) : l.getLastD [] = l[m]'(by omega) := by
  rw [List.getLastD_eq_getLast?, List.getLast?_eq_getElem?]
  have : l.length - 1 = m := by omega
  simp only [this]
  rw [List.getElem?_eq_getElem (by omega)]
  rfl
theorem results_cell_tmp2 {fn : Func} {p u v : Tmp} {ty : TypeId} (h : fn.results = #[.cell p ty, .tmp u, .tmp v]) (tmps : Array Value) (P : Program) (w : World) :
    (results fn tmps).run P w =
      ((asAddr (tmps.getD p undef)).run P w).andThen fun a w₁ => ((loadVar ty a).run P w₁).andThen fun x w₂ => .ok (.tuple #[x, tmps.getD u undef, tmps.getD v undef]) w₂ := by
  simp only [results, h]
  simp [Sem.run_bind, Result.andThen]
theorem runL_at {ls : List Bs} {k : Nat} (h : k < ls.length) (st : Lis) : runL k st (ls.drop k) = match stepL k st ls[k] with
    | none => .inl k
    | some st' => runL (k + 1) st' (ls.drop (k + 1)) := by
  rw [List.drop_eq_getElem_cons h]
  rfl
theorem runL_end {ls : List Bs} (k : Nat) (st : Lis) : runL k st (ls.drop ls.length) = .inr st := by rw [List.drop_length]; rfl
end Go.Proofs.YtmnbgamnbgdnnaaGreatDoor

/- Contract of circ.Read. (Printed by wip/tools/gen_read.py.) -/
namespace Go.Proofs.YtmnbgamnbgdnnaaGreatDoor
open Go.RowKit

/-- What was read: the circuit in memory, the line, the error. -/
def ReadPost (p : Nat) (t : Bs) (w : World) (e : Ending) (w' : World) : Prop :=
  Below w.heap.size w w' ∧ ∃ C : Cir, e = .returned (.tuple #[.agg #[.slice C.SA C.slots.length C.sc, .slice C.GA C.gates.length C.gc, .slice C.EA C.exits.length C.ec], .int .i64 (readOf p t).2.1, .int .i64 (readOf p t).2.2]) ∧ C.l = (readOf p t).1 ∧ HoldsC w' C
theorem holds_nil (w : World) : HoldsC w ⟨[], [], [], none, none, none, 0, 0, 0⟩ :=
  ⟨.inl rfl, .inl rfl, .inl rfl, fun x hx => by simp at hx, by simp, fun x hx => by simp at hx, fun x hx => by simp at hx⟩
/-- An error: the empty circuit. -/
def ErrPost (i er : Int) (w : World) (e : Ending) (w' : World) : Prop := e = .returned (.tuple #[.agg #[.slice none 0 0, .slice none 0 0, .slice none 0 0], .int .i64 i, .int .i64 er]) ∧ Below w.heap.size w w'
theorem err_read {p : Nat} {t : Bs} {i : Nat} {er : Int} (h : readOf p t = (([], [], []), i, er)) {w : World} {e : Ending} {w' : World} (k : ErrPost i er w e w') : ReadPost p t w e w' := by
  unfold ReadPost
  rw [h]
  exact ⟨k.2, ⟨[], [], [], none, none, none, 0, 0, 0⟩, k.1, rfl, holds_nil _⟩
set_option maxRecDepth 100000 in
theorem read_p (p : Nat) (hp : p < 18446744073709551616) (hP : isP p = false) (t : Bs) (w : World) : Calls Tryz.prog 23 #[.int .u64 p, .string ⟨t.toArray⟩] w (ErrPost 0 2 w) := by
  have h := fun W => is_any p hp W
  rw [hP] at h
  have H := Lib.hid h; clear h hP
  go_enter Tryz.func23, Tryz.ntmps23
  go_wp2_with (go_at_call 34; refine (H.out _).mono ?_; rintro e w1 ⟨rfl, rfl⟩)
  (try simp only [Exit.inBlock, Exit.then])
  refine bodyPost_ret (v := .tuple #[.agg #[.slice none 0 0, .slice none 0 0, .slice none 0 0], .int .i64 0, .int .i64 2]) ?_ rfl ⟨rfl, ?_⟩
  · rw [results_cell_tmp2 rfl]
    go_simp
  · repeat (first | exact Below.refl _ _ | refine Below.alloc ?_ (by simp) _ | refine Below.setCell ?_ (by first | (simp; done) | (show w.heap.size ≤ w.heap.size + 1 + 1; omega)) _)
set_option maxRecDepth 100000 in
theorem read_big (p : Nat) (hp : p < 18446744073709551616) (hP : isP p = true) (t : Bs) (ht : 4194304 < t.length) (w : World) : Calls Tryz.prog 23 #[.int .u64 p, .string ⟨t.toArray⟩] w (ErrPost 0 3 w) := by
  have h := fun W => is_any p hp W
  rw [hP] at h
  have H := Lib.hid h; clear h hP
  have hsz : (4194304 : Int) < ((⟨t.toArray⟩ : ByteArray).size : Int) := by show (4194304 : Int) < ((t.length : Nat) : Int); omega
  clear ht
  generalize (⟨t.toArray⟩ : ByteArray) = S at *
  go_enter Tryz.func23, Tryz.ntmps23
  go_wp2_with (go_at_call 34; refine (H.out _).mono ?_; rintro e w1 ⟨rfl, rfl⟩)
  (try simp only [Exit.inBlock, Exit.then])
  refine bodyPost_ret (v := .tuple #[.agg #[.slice none 0 0, .slice none 0 0, .slice none 0 0], .int .i64 0, .int .i64 3]) ?_ rfl ⟨rfl, ?_⟩
  · rw [results_cell_tmp2 rfl]
    go_simp
  · repeat (first | exact Below.refl _ _ | refine Below.alloc ?_ (by simp) _ | refine Below.setCell ?_ (by first | (simp; done) | (show w.heap.size ≤ w.heap.size + 1 + 1; omega)) _)
theorem run_init (g m : Nat) (W : World) : (Instr.sliceAt 94 (.slice (some ⟨g, 0, none⟩) (m + 1) (m + 1)) none (some (.int .i64 (m : Int))) none).run Tryz.prog W = .ok (.slice (some ⟨g, 0, none⟩) m (m + 1)) W := by
  rw [run_sliceAt_slice (h := under94), run_slice_h (ht := under94) (h0 := by omega) (h2 := by omega), size94]
  simp only [Result.andThen, sliced, Option.map]
  rw [if_neg (by omega)]
  simp [Addr.add]
set_option maxHeartbeats 8000000 in
set_option maxRecDepth 100000 in
theorem read_go (p : Nat) (hp : p < 18446744073709551616) (hP : isP p = true) (t : Bs) (ht : t.length ≤ 4194304) (w : World) (hE : Env w) : Calls Tryz.prog 23 #[.int .u64 p, .string ⟨t.toArray⟩] w (ReadPost p t w) := by
  have h := fun W => is_any p hp W
  rw [hP] at h
  have H := Lib.hid h; clear h
  obtain ⟨m, hm⟩ : ∃ m, (cut 10 t).length = m + 1 := ⟨t.count 10, cut_len 10 t⟩
  have hmt : m ≤ 4194304 := by
    have := cut_len 10 t
    have : t.count 10 ≤ t.length := List.count_le_length
    omega
  have hsp := split_any t 10 (w.alloc (.cells #[.slice none 0 0, .slice none 0 0, .slice none 0 0] 27)) (by omega)
  have hwc := word_cell (w.alloc (.cells #[.slice none 0 0, .slice none 0 0, .slice none 0 0] 27)) (cut 10 t)
  have hW0 : Below w.heap.size w (w.alloc (.cells #[.slice none 0 0, .slice none 0 0, .slice none 0 0] 27)) := (Below.refl _ _).alloc (Nat.le_refl _) _
  have hW2 : Below w.heap.size w ((w.alloc (.cells #[.slice none 0 0, .slice none 0 0, .slice none 0 0] 27)).alloc (.cells (sCells (cut 10 t)).toArray 9)) := hW0.alloc (by simp) _
  have HE := Lib.hid (hE.below hW2)
  have HW2 := Lib.hid hW2
  rw [show (w.alloc (.cells #[.slice none 0 0, .slice none 0 0, .slice none 0 0] 27)).heap.size = w.heap.size + 1 by simp, hm] at hsp
  rw [show (w.alloc (.cells #[.slice none 0 0, .slice none 0 0, .slice none 0 0] 27)).heap.size = w.heap.size + 1 by simp] at hwc
  have HSP := Lib.hid hsp; clear hsp
  have HWC := Lib.hid hwc; clear hwc
  have hsz : ((⟨t.toArray⟩ : ByteArray).size : Int) ≤ 4194304 := by show ((t.length : Nat) : Int) ≤ 4194304; omega
  have hs3 := fun W => run_init (w.heap.size + 1) m W
  have hls : (cut 10 t).dropLast.length = m := by rw [List.length_dropLast, hm]; rfl
  have HPT : Hid (∀ x ∈ cut 10 t, x.length ≤ 4194304) := Lib.hid fun x hx => by have := cut_part 10 t x hx; omega
  have HRD : Hid (readOf p t = match runL 0 ([], [], []) (cut 10 t).dropLast with
      | .inl i => (([], [], []), i, 4)
      | .inr L => if (cut 10 t).dropLast = [] ∨ (cut 10 t).getLastD [] ≠ [] then (([], [], []), (cut 10 t).dropLast.length, 4) else if checkL p L ≠ 0 then (([], [], []), 0, checkL p L) else (L, 0, 0)) := by
    unfold readOf
    rw [if_neg (by rw [hP]; simp), if_neg (by omega)]
    rfl
  have hrunN : ∀ k (h : k < m) (st : Lis), stepL k st ((cut 10 t)[k]'(by omega)) = none → runL k st ((cut 10 t).dropLast.drop k) = .inl k := fun k h st e => by
    rw [runL_at (by omega) st]
    simp only [List.getElem_dropLast, e]
  have hrunS : ∀ k (h : k < m) (st st' : Lis), stepL k st ((cut 10 t)[k]'(by omega)) = some st' → runL k st ((cut 10 t).dropLast.drop k) = runL (k + 1) st' ((cut 10 t).dropLast.drop (k + 1)) := fun k h st st' e => by
    rw [runL_at (by omega) st]
    simp only [List.getElem_dropLast, e]
  have HRN := Lib.hid hrunN; clear hrunN
  have HRS := Lib.hid hrunS; clear hrunS
  clear hE hW0 hW2 ht hP
  generalize hS : (⟨t.toArray⟩ : ByteArray) = S at HSP hsz
  clear hS
  go_enter Tryz.func23, Tryz.ntmps23
  go_wp2_with (first | (go_at_call 34; refine (H.out _).mono ?_; rintro e w1 ⟨rfl, rfl⟩) | (go_at_call 61; refine HSP.out.mono ?_; rintro e w1 ⟨rfl, rfl⟩))
  go_loopg [37] m (fun g v wr => ∃ (k : Nat) (st : Lis) (xs : List Exi) (v1 v2 v3 : Value), k ≤ m ∧ g = m - k ∧ v = .int .i64 k ∧ Hid (runL 0 ([], [], []) (cut 10 t).dropLast = runL k st ((cut 10 t).dropLast.drop k)) ∧ st.2.1.length + xs.length ≤ k ∧ Inv w.heap.size st xs v1 v2 v3 wr ∧ Below (w.heap.size + 2) ((w.alloc (.cells #[.slice none 0 0, .slice none 0 0, .slice none 0 0] 27)).alloc (.cells (sCells (cut 10 t)).toArray 9)) wr)
  case atStart => exact ⟨0, ([], [], []), [], .slice none 0 0, .slice none 0 0, .slice none 0 0, Nat.zero_le _, rfl, rfl, rfl, Nat.zero_le _, ⟨World.ownsRow_nil _ _ _ _, World.ownsRow_nil _ _ _ _, World.ownsRow_nil _ _ _ _, by simp, by have h5 := heap_alloc_new ((w.alloc (.cells #[.slice none 0 0, .slice none 0 0, .slice none 0 0] 27)).alloc (.cells (sCells (cut 10 t)).toArray 9)) (.cells #[.slice none 0 0, .slice none 0 0, .slice none 0 0] 27); simpa using h5, rfl, by simp⟩, (Below.refl _ _).alloc (by simp) _⟩
  case round =>
    obtain ⟨k, st, xs, v1, v2, v3, hk, rfl, rfl, hru, hcnt, hinv, hbel⟩ := hrel
    have HI := Lib.hid hinv; clear hinv
    have HB := Lib.hid hbel; clear hbel
    have hszr := HI.out.lt
    obtain ⟨SA0, sc0, rfl, _⟩ := own_reads HI.out.h1
    obtain ⟨GA0, gc0, rfl, _⟩ := own_reads HI.out.h2
    obtain ⟨EA0, ec0, rfl, _⟩ := own_reads HI.out.h3
    by_cases hlt : k < m
    · have q0 := (HB.out.cell (p := ⟨w.heap.size + 1, k, none⟩) (by simp)).trans (HWC.out k (by omega))
      have hln := HPT.out _ (List.getElem_mem (show k < (cut 10 t).length by omega))
      have hstN := HRN.out k hlt st
      have hstS := HRS.out k hlt st
      have hEr : Env wr := HE.out.below (HB.out.mono (by simp))
      generalize (cut 10 t)[k]'(by omega) = ln at q0 hln hstN hstS
      have hno : ¬ w.heap.size = w.heap.size + 1 + 1 := by omega
      by_cases hk0 : k = 0
      · subst hk0
        have hcall := readSlots_any ln hln wr hEr
        cases hso : slotsOf ln with
        | none =>
          rw [hso] at hcall
          have HCL := Lib.hid hcall; clear hcall
          have HF : Hid (readOf p t = (([], [], []), 0, 4)) := Lib.hid (by rw [HRD.out, hru.out, hstN (by unfold stepL; rw [if_pos rfl, hso]; rfl)])
          clear hstN hstS hso hru hln hEr
          go_wp2_with (first | (go_at_call 62; refine HCL.out.mono ?_; rintro e w2 ⟨hb2, A, n, c, rfl⟩; have hbx := box_facts (HI.out.below hb2).hb; have q1 : w2.cell? ⟨w.heap.size + 1 + 1, 0, none⟩ = _ := hbx.1; have q2 : w2.cell? ⟨w.heap.size + 1 + 1, 1, none⟩ = _ := hbx.2.1; have q3 : w2.cell? ⟨w.heap.size + 1 + 1, 2, none⟩ = _ := hbx.2.2.1; have q4 : w2.frozen? ⟨w.heap.size + 1 + 1, 0, none⟩ = _ := hbx.2.2.2.1; have q5 : w2.frozen? ⟨w.heap.size + 1 + 1, 1, none⟩ = _ := hbx.2.2.2.2.1; have q6 : w2.frozen? ⟨w.heap.size + 1 + 1, 2, none⟩ = _ := hbx.2.2.2.2.2; clear hbx; have HB2 := Lib.hid (HB.out.trans ((hb2).mono (Nat.le_of_lt hszr))); have r0 := HB2.out.cell (p := ⟨w.heap.size, 0, none⟩) (by simp); have r1 := HB2.out.cell (p := ⟨w.heap.size, 1, none⟩) (by simp); have r2 := HB2.out.cell (p := ⟨w.heap.size, 2, none⟩) (by simp); simp at r0 r1 r2; have f0 := HB2.out.frozen (p := ⟨w.heap.size, 0, none⟩) (by simp); have f1 := HB2.out.frozen (p := ⟨w.heap.size, 1, none⟩) (by simp); have f2 := HB2.out.frozen (p := ⟨w.heap.size, 2, none⟩) (by simp); simp at f0 f1 f2; clear hb2))
          (try simp only [Exit.inBlock, Exit.then])
          refine bodyPost_ret (v := .tuple #[.agg #[.slice none 0 0, .slice none 0 0, .slice none 0 0], .int .i64 ((0 : Nat) : Int), .int .i64 4]) ?_ rfl (err_read HF.out ⟨rfl, ?_⟩)
          · rw [results_cell_tmp2 rfl]
            go_simp
          · have hw := HW2.out.trans (HB2.out.mono (by simp)); repeat (first | exact hw | refine Below.drew ?_ | refine Below.alloc ?_ (by simp; omega) _ | refine Below.setCell ?_ (by first | (simp; done) | (show w.heap.size ≤ w.heap.size + 1 + 1; omega)) _)
        | some l =>
          rw [hso] at hcall
          have HCL := Lib.hid hcall; clear hcall
          have HR := Lib.hid (hru.out.trans (hstS (l, st.2.1, st.2.2) (by unfold stepL; rw [if_pos rfl, hso]; rfl)))
          clear hstN hstS hso hru hln hEr
          go_wp2_with (first | (go_at_call 62; refine HCL.out.mono ?_; rintro e w2 ⟨hb2, v, rfl, hown⟩; obtain ⟨SA1, sc1, rfl, _⟩ := own_reads hown; have hbx := box_facts (HI.out.below hb2).hb; have q1 : w2.cell? ⟨w.heap.size + 1 + 1, 0, none⟩ = _ := hbx.1; have q2 : w2.cell? ⟨w.heap.size + 1 + 1, 1, none⟩ = _ := hbx.2.1; have q3 : w2.cell? ⟨w.heap.size + 1 + 1, 2, none⟩ = _ := hbx.2.2.1; have q4 : w2.frozen? ⟨w.heap.size + 1 + 1, 0, none⟩ = _ := hbx.2.2.2.1; have q5 : w2.frozen? ⟨w.heap.size + 1 + 1, 1, none⟩ = _ := hbx.2.2.2.2.1; have q6 : w2.frozen? ⟨w.heap.size + 1 + 1, 2, none⟩ = _ := hbx.2.2.2.2.2; clear hbx; have HB2 := Lib.hid (HB.out.trans ((hb2).mono (Nat.le_of_lt hszr))); have r0 := HB2.out.cell (p := ⟨w.heap.size, 0, none⟩) (by simp); have r1 := HB2.out.cell (p := ⟨w.heap.size, 1, none⟩) (by simp); have r2 := HB2.out.cell (p := ⟨w.heap.size, 2, none⟩) (by simp); simp at r0 r1 r2; have f0 := HB2.out.frozen (p := ⟨w.heap.size, 0, none⟩) (by simp); have f1 := HB2.out.frozen (p := ⟨w.heap.size, 1, none⟩) (by simp); have f2 := HB2.out.frozen (p := ⟨w.heap.size, 2, none⟩) (by simp); simp at f0 f1 f2; have HI2 := Lib.hid ((HI.out.below hb2).slots (own_lower hown (by omega))); clear hb2 hown))
          go_roundg (m - (0 + 1))
          case measure => omega
          case rel => exact ⟨0 + 1, _, xs, _, _, _, by omega, rfl, by go_num, HR.out, by simp only; omega, HI2.out, HB2.out.setCell (by simp) _⟩
      · have hk1 : ((k : Int) == 0) = false := by simp; omega
        have hgc := readGate_any ln hln wr hEr
        have hxc := fun W (h : Below wr.heap.size wr W) => readExit_any ln hln W (hEr.below h)
        cases hgo : gateOf ln with
        | none =>
          rw [hgo] at hgc
          have HGC := Lib.hid hgc; clear hgc
          have hstep : stepL k st ln = (exitOf ln).map fun x => (st.1, st.2.1, st.2.2 ++ [x]) := by unfold stepL; rw [if_neg hk0, hgo, if_neg (by simp)]
          clear hgo
          cases hxo : exitOf ln with
          | none =>
            have HX : Hid (∀ W, Below wr.heap.size wr W → Calls Tryz.prog 64 #[.string ⟨ln.toArray⟩] W (ExitPostR none W)) := Lib.hid (fun W h => by have h5 := hxc W h; rw [hxo] at h5; exact h5)
            have HF : Hid (readOf p t = (([], [], []), k, 4)) := Lib.hid (by rw [HRD.out, hru.out, hstN (by rw [hstep, hxo]; rfl)])
            clear hstN hstS hxo hru hln hEr hxc hstep
            go_wp2_with (first | (go_at_call 63; refine HGC.out.mono ?_; rintro e w2 ⟨hb2, ga, gb, gc, gd, rfl⟩; have hbx := box_facts (HI.out.below hb2).hb; have q1 : w2.cell? ⟨w.heap.size + 1 + 1, 0, none⟩ = _ := hbx.1; have q2 : w2.cell? ⟨w.heap.size + 1 + 1, 1, none⟩ = _ := hbx.2.1; have q3 : w2.cell? ⟨w.heap.size + 1 + 1, 2, none⟩ = _ := hbx.2.2.1; have q4 : w2.frozen? ⟨w.heap.size + 1 + 1, 0, none⟩ = _ := hbx.2.2.2.1; have q5 : w2.frozen? ⟨w.heap.size + 1 + 1, 1, none⟩ = _ := hbx.2.2.2.2.1; have q6 : w2.frozen? ⟨w.heap.size + 1 + 1, 2, none⟩ = _ := hbx.2.2.2.2.2; clear hbx; have HB2 := Lib.hid (HB.out.trans ((hb2).mono (Nat.le_of_lt hszr))); have r0 := HB2.out.cell (p := ⟨w.heap.size, 0, none⟩) (by simp); have f0 := HB2.out.frozen (p := ⟨w.heap.size, 0, none⟩) (by simp); have r1 := HB2.out.cell (p := ⟨w.heap.size, 1, none⟩) (by simp); have f1 := HB2.out.frozen (p := ⟨w.heap.size, 1, none⟩) (by simp); have r2 := HB2.out.cell (p := ⟨w.heap.size, 2, none⟩) (by simp); have f2 := HB2.out.frozen (p := ⟨w.heap.size, 2, none⟩) (by simp); simp at r0 r1 r2 f0 f1 f2; have sz2 : w.heap.size + 1 + 1 < w2.heap.size := (by have h5 := (HI.out.below hb2).lt; omega); have n0 : ¬ w.heap.size = w2.heap.size := (by omega); have n1 : ¬ w.heap.size + 1 + 1 = w2.heap.size := (by omega); have n2 : w.heap.size < w2.heap.size := (by omega); have HGB2 := Lib.hid (hb2.alloc hb2.size (.cells #[.int .i64 ga, .int .i64 gb, .int .i64 gc, .int .u64 gd] 69)); clear hb2) | (go_at_call 64; refine (HX.out _ (HGB2.out)).mono ?_; rintro e w4 ⟨hb4, A, n, xc, D, m2, xd, rfl⟩; have hb24 := HGB2.out.trans (hb4.mono HGB2.out.size); clear q1 q2 q3 q4 q5 q6 r0 r1 r2 f0 f1 f2 sz2 n0 n1 n2 HB2; have hbx := box_facts (HI.out.below hb24).hb; have q1 : w4.cell? ⟨w.heap.size + 1 + 1, 0, none⟩ = _ := hbx.1; have q2 : w4.cell? ⟨w.heap.size + 1 + 1, 1, none⟩ = _ := hbx.2.1; have q3 : w4.cell? ⟨w.heap.size + 1 + 1, 2, none⟩ = _ := hbx.2.2.1; have q4 : w4.frozen? ⟨w.heap.size + 1 + 1, 0, none⟩ = _ := hbx.2.2.2.1; have q5 : w4.frozen? ⟨w.heap.size + 1 + 1, 1, none⟩ = _ := hbx.2.2.2.2.1; have q6 : w4.frozen? ⟨w.heap.size + 1 + 1, 2, none⟩ = _ := hbx.2.2.2.2.2; clear hbx; have HB2 := Lib.hid (HB.out.trans ((hb24).mono (Nat.le_of_lt hszr))); have r0 := HB2.out.cell (p := ⟨w.heap.size, 0, none⟩) (by simp); have f0 := HB2.out.frozen (p := ⟨w.heap.size, 0, none⟩) (by simp); have r1 := HB2.out.cell (p := ⟨w.heap.size, 1, none⟩) (by simp); have f1 := HB2.out.frozen (p := ⟨w.heap.size, 1, none⟩) (by simp); have r2 := HB2.out.cell (p := ⟨w.heap.size, 2, none⟩) (by simp); have f2 := HB2.out.frozen (p := ⟨w.heap.size, 2, none⟩) (by simp); simp at r0 r1 r2 f0 f1 f2; have sz2 : w.heap.size + 1 + 1 < w4.heap.size := (by have h5 := (HI.out.below hb24).lt; omega); have n0 : ¬ w.heap.size = w4.heap.size := (by omega); have n1 : ¬ w.heap.size + 1 + 1 = w4.heap.size := (by omega); have n2 : w.heap.size < w4.heap.size := (by omega); clear hb4 hb24))
            (try simp only [Exit.inBlock, Exit.then])
            refine bodyPost_ret (v := .tuple #[.agg #[.slice none 0 0, .slice none 0 0, .slice none 0 0], .int .i64 (k : Int), .int .i64 4]) ?_ rfl (err_read HF.out ⟨rfl, ?_⟩)
            · rw [results_cell_tmp2 rfl]
              go_simp
            · have hw := HW2.out.trans (HB2.out.mono (by simp)); repeat (first | exact hw | refine Below.drew ?_ | refine Below.alloc ?_ (by first | (simp; done) | omega | (simp; omega)) _ | refine Below.setCell ?_ (by first | (simp; done) | (show w.heap.size ≤ w.heap.size + 1 + 1; omega)) _)
          | some x =>
            have HX : Hid (∀ W, Below wr.heap.size wr W → Calls Tryz.prog 64 #[.string ⟨ln.toArray⟩] W (ExitPostR (some x) W)) := Lib.hid (fun W h => by have h5 := hxc W h; rw [hxo] at h5; exact h5)
            have HR := Lib.hid (hru.out.trans (hstS (st.1, st.2.1, st.2.2 ++ [x]) (by rw [hstep, hxo]; rfl)))
            clear hstN hstS hxo hru hln hEr hxc hstep
            go_wp2_with (first | (go_at_call 63; refine HGC.out.mono ?_; rintro e w2 ⟨hb2, ga, gb, gc, gd, rfl⟩; have hbx := box_facts (HI.out.below hb2).hb; have q1 : w2.cell? ⟨w.heap.size + 1 + 1, 0, none⟩ = _ := hbx.1; have q2 : w2.cell? ⟨w.heap.size + 1 + 1, 1, none⟩ = _ := hbx.2.1; have q3 : w2.cell? ⟨w.heap.size + 1 + 1, 2, none⟩ = _ := hbx.2.2.1; have q4 : w2.frozen? ⟨w.heap.size + 1 + 1, 0, none⟩ = _ := hbx.2.2.2.1; have q5 : w2.frozen? ⟨w.heap.size + 1 + 1, 1, none⟩ = _ := hbx.2.2.2.2.1; have q6 : w2.frozen? ⟨w.heap.size + 1 + 1, 2, none⟩ = _ := hbx.2.2.2.2.2; clear hbx; have HB2 := Lib.hid (HB.out.trans ((hb2).mono (Nat.le_of_lt hszr))); have r0 := HB2.out.cell (p := ⟨w.heap.size, 0, none⟩) (by simp); have f0 := HB2.out.frozen (p := ⟨w.heap.size, 0, none⟩) (by simp); have r1 := HB2.out.cell (p := ⟨w.heap.size, 1, none⟩) (by simp); have f1 := HB2.out.frozen (p := ⟨w.heap.size, 1, none⟩) (by simp); have r2 := HB2.out.cell (p := ⟨w.heap.size, 2, none⟩) (by simp); have f2 := HB2.out.frozen (p := ⟨w.heap.size, 2, none⟩) (by simp); simp at r0 r1 r2 f0 f1 f2; have sz2 : w.heap.size + 1 + 1 < w2.heap.size := (by have h5 := (HI.out.below hb2).lt; omega); have n0 : ¬ w.heap.size = w2.heap.size := (by omega); have n1 : ¬ w.heap.size + 1 + 1 = w2.heap.size := (by omega); have n2 : w.heap.size < w2.heap.size := (by omega); have HGB2 := Lib.hid (hb2.alloc hb2.size (.cells #[.int .i64 ga, .int .i64 gb, .int .i64 gc, .int .u64 gd] 69)); clear hb2) | (go_at_call 64; refine (HX.out _ (HGB2.out)).mono ?_; rintro e w4 ⟨hb4, A, xc, D, xd, rfl, hA, hD⟩; have hb24 := HGB2.out.trans (hb4.mono HGB2.out.size); clear q1 q2 q3 q4 q5 q6 r0 r1 r2 f0 f1 f2 sz2 n0 n1 n2 HB2; have hbx := box_facts (HI.out.below hb24).hb; have q1 : w4.cell? ⟨w.heap.size + 1 + 1, 0, none⟩ = _ := hbx.1; have q2 : w4.cell? ⟨w.heap.size + 1 + 1, 1, none⟩ = _ := hbx.2.1; have q3 : w4.cell? ⟨w.heap.size + 1 + 1, 2, none⟩ = _ := hbx.2.2.1; have q4 : w4.frozen? ⟨w.heap.size + 1 + 1, 0, none⟩ = _ := hbx.2.2.2.1; have q5 : w4.frozen? ⟨w.heap.size + 1 + 1, 1, none⟩ = _ := hbx.2.2.2.2.1; have q6 : w4.frozen? ⟨w.heap.size + 1 + 1, 2, none⟩ = _ := hbx.2.2.2.2.2; clear hbx; have HB2 := Lib.hid (HB.out.trans ((hb24).mono (Nat.le_of_lt hszr))); have r0 := HB2.out.cell (p := ⟨w.heap.size, 0, none⟩) (by simp); have f0 := HB2.out.frozen (p := ⟨w.heap.size, 0, none⟩) (by simp); have r1 := HB2.out.cell (p := ⟨w.heap.size, 1, none⟩) (by simp); have f1 := HB2.out.frozen (p := ⟨w.heap.size, 1, none⟩) (by simp); have r2 := HB2.out.cell (p := ⟨w.heap.size, 2, none⟩) (by simp); have f2 := HB2.out.frozen (p := ⟨w.heap.size, 2, none⟩) (by simp); simp at r0 r1 r2 f0 f1 f2; have sz2 : w.heap.size + 1 + 1 < w4.heap.size := (by have h5 := (HI.out.below hb24).lt; omega); have n0 : ¬ w.heap.size = w4.heap.size := (by omega); have n1 : ¬ w.heap.size + 1 + 1 = w4.heap.size := (by omega); have n2 : w.heap.size < w4.heap.size := (by omega); have szg := HGB2.out.size; have HIX := Lib.hid ((HI.out.below hb24).below ((Below.refl _ _).alloc (Nat.le_refl _) (.cells #[.slice A x.1.length xc, .slice D x.2.length xd] 72))); have HXA := Lib.hid ((own_lower hA (show w.heap.size + 3 ≤ _ by omega)).alloc (.cells #[.slice A x.1.length xc, .slice D x.2.length xd] 72)); have HXB := Lib.hid ((own_lower hD (show w.heap.size + 3 ≤ _ by omega)).alloc (.cells #[.slice A x.1.length xc, .slice D x.2.length xd] 72)); clear hb4 hb24 hA hD) | (at_builtin; refine app_cells (w.heap.size + 3) rfl _ _ 25 72 _ 2 48 rfl Tryz.underlying25 infoExi rfl (by decide) (by decide) (.slice EA0 xs.length ec0) xs.length _ [.slice A x.1.length xc, .slice D x.2.length xd] rfl _ rfl (by simp) rfl (by intro u hu; simp at hu; rcases hu with rfl | rfl <;> rfl) HIX.out.h3 (by have h5 := HIX.out.lt; omega) (by omega) ?_; intro v3 w3 hown3 hg3; obtain ⟨EA3, ec3, rfl, _⟩ := own_reads hown3; have hbx := box_facts ((hg3.block _ HIX.out.lt (own_past HIX.out.h3 (Nat.lt_succ_self _))).trans HIX.out.hb); have p1 : w3.cell? ⟨w.heap.size + 1 + 1, 2, none⟩ = _ := hbx.2.2.1; have p2 : w3.frozen? ⟨w.heap.size + 1 + 1, 2, none⟩ = _ := hbx.2.2.2.2.2; clear hbx; have HI3 := Lib.hid (HIX.out.exit (x := ⟨x.1, x.2, A, D, xc, xd⟩) HXA.out HXB.out hown3 hg3); have HB3 := Lib.hid ((HB2.out.alloc (by omega) (.cells #[.slice A x.1.length xc, .slice D x.2.length xd] 72)).grown hg3 (by have h5 := HIX.out.lt; omega) (fun q hq => by have h5 := (HIX.out.h3.lt q hq).1; omega)); clear hown3 hg3))
            go_roundg (m - (k + 1))
            case measure => omega
            case rel => exact ⟨k + 1, _, xs ++ [(⟨x.1, x.2, A, D, xc, xd⟩ : Exi)], _, _, _, by omega, rfl, by go_num, HR.out, by simp; omega, HI3.out, HB3.out.setCell (by simp) _⟩
        | some g =>
          rw [hgo] at hgc
          have HGC := Lib.hid hgc; clear hgc
          by_cases hxs : xs = []
          · have HK := Lib.hid (gateOf_k hgo)
            have hst2 : st.2.2 = [] := by rw [← HI.out.hl, hxs]; rfl
            have HR := Lib.hid (hru.out.trans (hstS (st.1, st.2.1 ++ [g], st.2.2) (by unfold stepL; rw [if_neg hk0, hgo, if_pos ⟨rfl, hst2⟩]; rfl)))
            have hx0 : xs.length = 0 := by rw [hxs]; rfl
            clear hstN hstS hgo hru hln hEr hxc hxs hst2
            go_wp2_with (first | (go_at_call 63; refine HGC.out.mono ?_; rintro e w2 ⟨hb2, rfl⟩; have hbx := box_facts (HI.out.below hb2).hb; have q1 : w2.cell? ⟨w.heap.size + 1 + 1, 0, none⟩ = _ := hbx.1; have q2 : w2.cell? ⟨w.heap.size + 1 + 1, 1, none⟩ = _ := hbx.2.1; have q3 : w2.cell? ⟨w.heap.size + 1 + 1, 2, none⟩ = _ := hbx.2.2.1; have q4 : w2.frozen? ⟨w.heap.size + 1 + 1, 0, none⟩ = _ := hbx.2.2.2.1; have q5 : w2.frozen? ⟨w.heap.size + 1 + 1, 1, none⟩ = _ := hbx.2.2.2.2.1; have q6 : w2.frozen? ⟨w.heap.size + 1 + 1, 2, none⟩ = _ := hbx.2.2.2.2.2; clear hbx; have HB2 := Lib.hid (HB.out.trans ((hb2).mono (Nat.le_of_lt hszr))); have r0 := HB2.out.cell (p := ⟨w.heap.size, 0, none⟩) (by simp); have f0 := HB2.out.frozen (p := ⟨w.heap.size, 0, none⟩) (by simp); have r1 := HB2.out.cell (p := ⟨w.heap.size, 1, none⟩) (by simp); have f1 := HB2.out.frozen (p := ⟨w.heap.size, 1, none⟩) (by simp); have r2 := HB2.out.cell (p := ⟨w.heap.size, 2, none⟩) (by simp); have f2 := HB2.out.frozen (p := ⟨w.heap.size, 2, none⟩) (by simp); simp at r0 r1 r2 f0 f1 f2; have sz2 : w.heap.size + 1 + 1 < w2.heap.size := (by have h5 := (HI.out.below hb2).lt; omega); have n0 : ¬ w.heap.size = w2.heap.size := (by omega); have n1 : ¬ w.heap.size + 1 + 1 = w2.heap.size := (by omega); have n2 : w.heap.size < w2.heap.size := (by omega); rw [hx0] at q3; have HIG := Lib.hid ((HI.out.below hb2).below ((Below.refl _ _).alloc (Nat.le_refl _) (.cells #[.int .i64 g.1, .int .i64 g.2.1, .int .i64 g.2.2.1, .int .u64 g.2.2.2] 69))); clear hb2) | (at_builtin; refine app_cells (w.heap.size + 3) rfl _ _ 24 69 _ 4 32 rfl Tryz.underlying24 infoGat rfl (by decide) (by decide) (.slice GA0 st.2.1.length gc0) st.2.1.length _ [.int .i64 g.1, .int .i64 g.2.1, .int .i64 g.2.2.1, .int .u64 g.2.2.2] rfl _ rfl (by simp) rfl (by intro u hu; simp at hu; rcases hu with rfl | rfl | rfl | rfl <;> rfl) HIG.out.h2 (by have h5 := HIG.out.lt; omega) (by omega) ?_; intro v3 w3 hown3 hg3; obtain ⟨GA3, gc3, rfl, _⟩ := own_reads hown3; have hbx := box_facts ((hg3.block _ HIG.out.lt (own_past HIG.out.h2 (Nat.lt_succ_self _))).trans HIG.out.hb); have p1 : w3.cell? ⟨w.heap.size + 1 + 1, 1, none⟩ = _ := hbx.2.1; have p2 : w3.frozen? ⟨w.heap.size + 1 + 1, 1, none⟩ = _ := hbx.2.2.2.2.1; clear hbx; have HI3 := Lib.hid (HIG.out.gate HK.out hown3 hg3); have HB3 := Lib.hid ((HB2.out.alloc (by omega) (.cells #[.int .i64 g.1, .int .i64 g.2.1, .int .i64 g.2.2.1, .int .u64 g.2.2.2] 69)).grown hg3 (by have h5 := HIG.out.lt; omega) (fun q hq => by have h5 := (HIG.out.h2.lt q hq).1; omega)); clear hown3 hg3))
            go_roundg (m - (k + 1))
            case measure => omega
            case rel => exact ⟨k + 1, _, xs, _, _, _, by omega, rfl, by go_num, HR.out, by simp; omega, HI3.out, HB3.out.setCell (by simp) _⟩
          · have hst2 : ¬ st.2.2 = [] := fun e => hxs (by have h5 := HI.out.hl; rw [e] at h5; simpa using h5)
            have hx0 : ((xs.length : Int) == 0) = false := by
              rw [beq_eq_false_iff_ne]
              intro e
              exact hxs (List.eq_nil_of_length_eq_zero (by omega))
            have hstep : stepL k st ln = (exitOf ln).map fun x => (st.1, st.2.1, st.2.2 ++ [x]) := by unfold stepL; rw [if_neg hk0, if_neg (fun e => hst2 e.2)]
            clear hgo hxs hst2
            obtain ⟨ga, gb, gc, gd⟩ := g
            cases hxo : exitOf ln with
            | none =>
              have HX : Hid (∀ W, Below wr.heap.size wr W → Calls Tryz.prog 64 #[.string ⟨ln.toArray⟩] W (ExitPostR none W)) := Lib.hid (fun W h => by have h5 := hxc W h; rw [hxo] at h5; exact h5)
              have HF : Hid (readOf p t = (([], [], []), k, 4)) := Lib.hid (by rw [HRD.out, hru.out, hstN (by rw [hstep, hxo]; rfl)])
              clear hstN hstS hxo hru hln hEr hxc hstep
              go_wp2_with (first | (go_at_call 63; refine HGC.out.mono ?_; rintro e w2 ⟨hb2, rfl⟩; have hbx := box_facts (HI.out.below hb2).hb; have q1 : w2.cell? ⟨w.heap.size + 1 + 1, 0, none⟩ = _ := hbx.1; have q2 : w2.cell? ⟨w.heap.size + 1 + 1, 1, none⟩ = _ := hbx.2.1; have q3 : w2.cell? ⟨w.heap.size + 1 + 1, 2, none⟩ = _ := hbx.2.2.1; have q4 : w2.frozen? ⟨w.heap.size + 1 + 1, 0, none⟩ = _ := hbx.2.2.2.1; have q5 : w2.frozen? ⟨w.heap.size + 1 + 1, 1, none⟩ = _ := hbx.2.2.2.2.1; have q6 : w2.frozen? ⟨w.heap.size + 1 + 1, 2, none⟩ = _ := hbx.2.2.2.2.2; clear hbx; have HB2 := Lib.hid (HB.out.trans ((hb2).mono (Nat.le_of_lt hszr))); have r0 := HB2.out.cell (p := ⟨w.heap.size, 0, none⟩) (by simp); have f0 := HB2.out.frozen (p := ⟨w.heap.size, 0, none⟩) (by simp); have r1 := HB2.out.cell (p := ⟨w.heap.size, 1, none⟩) (by simp); have f1 := HB2.out.frozen (p := ⟨w.heap.size, 1, none⟩) (by simp); have r2 := HB2.out.cell (p := ⟨w.heap.size, 2, none⟩) (by simp); have f2 := HB2.out.frozen (p := ⟨w.heap.size, 2, none⟩) (by simp); simp at r0 r1 r2 f0 f1 f2; have sz2 : w.heap.size + 1 + 1 < w2.heap.size := (by have h5 := (HI.out.below hb2).lt; omega); have n0 : ¬ w.heap.size = w2.heap.size := (by omega); have n1 : ¬ w.heap.size + 1 + 1 = w2.heap.size := (by omega); have n2 : w.heap.size < w2.heap.size := (by omega); have HGB2 := Lib.hid (hb2.alloc hb2.size (.cells #[.int .i64 ga, .int .i64 gb, .int .i64 gc, .int .u64 gd] 69)); clear hb2) | (go_at_call 64; refine (HX.out _ (HGB2.out)).mono ?_; rintro e w4 ⟨hb4, A, n, xc, D, m2, xd, rfl⟩; have hb24 := HGB2.out.trans (hb4.mono HGB2.out.size); clear q1 q2 q3 q4 q5 q6 r0 r1 r2 f0 f1 f2 sz2 n0 n1 n2 HB2; have hbx := box_facts (HI.out.below hb24).hb; have q1 : w4.cell? ⟨w.heap.size + 1 + 1, 0, none⟩ = _ := hbx.1; have q2 : w4.cell? ⟨w.heap.size + 1 + 1, 1, none⟩ = _ := hbx.2.1; have q3 : w4.cell? ⟨w.heap.size + 1 + 1, 2, none⟩ = _ := hbx.2.2.1; have q4 : w4.frozen? ⟨w.heap.size + 1 + 1, 0, none⟩ = _ := hbx.2.2.2.1; have q5 : w4.frozen? ⟨w.heap.size + 1 + 1, 1, none⟩ = _ := hbx.2.2.2.2.1; have q6 : w4.frozen? ⟨w.heap.size + 1 + 1, 2, none⟩ = _ := hbx.2.2.2.2.2; clear hbx; have HB2 := Lib.hid (HB.out.trans ((hb24).mono (Nat.le_of_lt hszr))); have r0 := HB2.out.cell (p := ⟨w.heap.size, 0, none⟩) (by simp); have f0 := HB2.out.frozen (p := ⟨w.heap.size, 0, none⟩) (by simp); have r1 := HB2.out.cell (p := ⟨w.heap.size, 1, none⟩) (by simp); have f1 := HB2.out.frozen (p := ⟨w.heap.size, 1, none⟩) (by simp); have r2 := HB2.out.cell (p := ⟨w.heap.size, 2, none⟩) (by simp); have f2 := HB2.out.frozen (p := ⟨w.heap.size, 2, none⟩) (by simp); simp at r0 r1 r2 f0 f1 f2; have sz2 : w.heap.size + 1 + 1 < w4.heap.size := (by have h5 := (HI.out.below hb24).lt; omega); have n0 : ¬ w.heap.size = w4.heap.size := (by omega); have n1 : ¬ w.heap.size + 1 + 1 = w4.heap.size := (by omega); have n2 : w.heap.size < w4.heap.size := (by omega); clear hb4 hb24))
              (try simp only [Exit.inBlock, Exit.then])
              refine bodyPost_ret (v := .tuple #[.agg #[.slice none 0 0, .slice none 0 0, .slice none 0 0], .int .i64 (k : Int), .int .i64 4]) ?_ rfl (err_read HF.out ⟨rfl, ?_⟩)
              · rw [results_cell_tmp2 rfl]
                go_simp
              · have hw := HW2.out.trans (HB2.out.mono (by simp)); repeat (first | exact hw | refine Below.drew ?_ | refine Below.alloc ?_ (by first | (simp; done) | omega | (simp; omega)) _ | refine Below.setCell ?_ (by first | (simp; done) | (show w.heap.size ≤ w.heap.size + 1 + 1; omega)) _)
            | some x =>
              have HX : Hid (∀ W, Below wr.heap.size wr W → Calls Tryz.prog 64 #[.string ⟨ln.toArray⟩] W (ExitPostR (some x) W)) := Lib.hid (fun W h => by have h5 := hxc W h; rw [hxo] at h5; exact h5)
              have HR := Lib.hid (hru.out.trans (hstS (st.1, st.2.1, st.2.2 ++ [x]) (by rw [hstep, hxo]; rfl)))
              clear hstN hstS hxo hru hln hEr hxc hstep
              go_wp2_with (first | (go_at_call 63; refine HGC.out.mono ?_; rintro e w2 ⟨hb2, rfl⟩; have hbx := box_facts (HI.out.below hb2).hb; have q1 : w2.cell? ⟨w.heap.size + 1 + 1, 0, none⟩ = _ := hbx.1; have q2 : w2.cell? ⟨w.heap.size + 1 + 1, 1, none⟩ = _ := hbx.2.1; have q3 : w2.cell? ⟨w.heap.size + 1 + 1, 2, none⟩ = _ := hbx.2.2.1; have q4 : w2.frozen? ⟨w.heap.size + 1 + 1, 0, none⟩ = _ := hbx.2.2.2.1; have q5 : w2.frozen? ⟨w.heap.size + 1 + 1, 1, none⟩ = _ := hbx.2.2.2.2.1; have q6 : w2.frozen? ⟨w.heap.size + 1 + 1, 2, none⟩ = _ := hbx.2.2.2.2.2; clear hbx; have HB2 := Lib.hid (HB.out.trans ((hb2).mono (Nat.le_of_lt hszr))); have r0 := HB2.out.cell (p := ⟨w.heap.size, 0, none⟩) (by simp); have f0 := HB2.out.frozen (p := ⟨w.heap.size, 0, none⟩) (by simp); have r1 := HB2.out.cell (p := ⟨w.heap.size, 1, none⟩) (by simp); have f1 := HB2.out.frozen (p := ⟨w.heap.size, 1, none⟩) (by simp); have r2 := HB2.out.cell (p := ⟨w.heap.size, 2, none⟩) (by simp); have f2 := HB2.out.frozen (p := ⟨w.heap.size, 2, none⟩) (by simp); simp at r0 r1 r2 f0 f1 f2; have sz2 : w.heap.size + 1 + 1 < w2.heap.size := (by have h5 := (HI.out.below hb2).lt; omega); have n0 : ¬ w.heap.size = w2.heap.size := (by omega); have n1 : ¬ w.heap.size + 1 + 1 = w2.heap.size := (by omega); have n2 : w.heap.size < w2.heap.size := (by omega); have HGB2 := Lib.hid (hb2.alloc hb2.size (.cells #[.int .i64 ga, .int .i64 gb, .int .i64 gc, .int .u64 gd] 69)); clear hb2) | (go_at_call 64; refine (HX.out _ (HGB2.out)).mono ?_; rintro e w4 ⟨hb4, A, xc, D, xd, rfl, hA, hD⟩; have hb24 := HGB2.out.trans (hb4.mono HGB2.out.size); clear q1 q2 q3 q4 q5 q6 r0 r1 r2 f0 f1 f2 sz2 n0 n1 n2 HB2; have hbx := box_facts (HI.out.below hb24).hb; have q1 : w4.cell? ⟨w.heap.size + 1 + 1, 0, none⟩ = _ := hbx.1; have q2 : w4.cell? ⟨w.heap.size + 1 + 1, 1, none⟩ = _ := hbx.2.1; have q3 : w4.cell? ⟨w.heap.size + 1 + 1, 2, none⟩ = _ := hbx.2.2.1; have q4 : w4.frozen? ⟨w.heap.size + 1 + 1, 0, none⟩ = _ := hbx.2.2.2.1; have q5 : w4.frozen? ⟨w.heap.size + 1 + 1, 1, none⟩ = _ := hbx.2.2.2.2.1; have q6 : w4.frozen? ⟨w.heap.size + 1 + 1, 2, none⟩ = _ := hbx.2.2.2.2.2; clear hbx; have HB2 := Lib.hid (HB.out.trans ((hb24).mono (Nat.le_of_lt hszr))); have r0 := HB2.out.cell (p := ⟨w.heap.size, 0, none⟩) (by simp); have f0 := HB2.out.frozen (p := ⟨w.heap.size, 0, none⟩) (by simp); have r1 := HB2.out.cell (p := ⟨w.heap.size, 1, none⟩) (by simp); have f1 := HB2.out.frozen (p := ⟨w.heap.size, 1, none⟩) (by simp); have r2 := HB2.out.cell (p := ⟨w.heap.size, 2, none⟩) (by simp); have f2 := HB2.out.frozen (p := ⟨w.heap.size, 2, none⟩) (by simp); simp at r0 r1 r2 f0 f1 f2; have sz2 : w.heap.size + 1 + 1 < w4.heap.size := (by have h5 := (HI.out.below hb24).lt; omega); have n0 : ¬ w.heap.size = w4.heap.size := (by omega); have n1 : ¬ w.heap.size + 1 + 1 = w4.heap.size := (by omega); have n2 : w.heap.size < w4.heap.size := (by omega); have szg := HGB2.out.size; have HIX := Lib.hid ((HI.out.below hb24).below ((Below.refl _ _).alloc (Nat.le_refl _) (.cells #[.slice A x.1.length xc, .slice D x.2.length xd] 72))); have HXA := Lib.hid ((own_lower hA (show w.heap.size + 3 ≤ _ by omega)).alloc (.cells #[.slice A x.1.length xc, .slice D x.2.length xd] 72)); have HXB := Lib.hid ((own_lower hD (show w.heap.size + 3 ≤ _ by omega)).alloc (.cells #[.slice A x.1.length xc, .slice D x.2.length xd] 72)); clear hb4 hb24 hA hD) | (at_builtin; refine app_cells (w.heap.size + 3) rfl _ _ 25 72 _ 2 48 rfl Tryz.underlying25 infoExi rfl (by decide) (by decide) (.slice EA0 xs.length ec0) xs.length _ [.slice A x.1.length xc, .slice D x.2.length xd] rfl _ rfl (by simp) rfl (by intro u hu; simp at hu; rcases hu with rfl | rfl <;> rfl) HIX.out.h3 (by have h5 := HIX.out.lt; omega) (by omega) ?_; intro v3 w3 hown3 hg3; obtain ⟨EA3, ec3, rfl, _⟩ := own_reads hown3; have hbx := box_facts ((hg3.block _ HIX.out.lt (own_past HIX.out.h3 (Nat.lt_succ_self _))).trans HIX.out.hb); have p1 : w3.cell? ⟨w.heap.size + 1 + 1, 2, none⟩ = _ := hbx.2.2.1; have p2 : w3.frozen? ⟨w.heap.size + 1 + 1, 2, none⟩ = _ := hbx.2.2.2.2.2; clear hbx; have HI3 := Lib.hid (HIX.out.exit (x := ⟨x.1, x.2, A, D, xc, xd⟩) HXA.out HXB.out hown3 hg3); have HB3 := Lib.hid ((HB2.out.alloc (by omega) (.cells #[.slice A x.1.length xc, .slice D x.2.length xd] 72)).grown hg3 (by have h5 := HIX.out.lt; omega) (fun q hq => by have h5 := (HIX.out.h3.lt q hq).1; omega)); clear hown3 hg3))
              go_roundg (m - (k + 1))
              case measure => omega
              case rel => exact ⟨k + 1, _, xs ++ [(⟨x.1, x.2, A, D, xc, xd⟩ : Exi)], _, _, _, by omega, rfl, by go_num, HR.out, by simp; omega, HI3.out, HB3.out.setCell (by simp) _⟩
    · obtain rfl : k = m := by omega
      have hend := runL_end (ls := (cut 10 t).dropLast) k st
      rw [hls] at hend
      have hres : readOf p t = if (cut 10 t).dropLast = [] ∨ (cut 10 t).getLastD [] ≠ [] then (([], [], []), k, 4) else if checkL p st ≠ 0 then (([], [], []), 0, checkL p st) else (st, 0, 0) := by
        rw [HRD.out, hru.out, hend, hls]
      have q0 := (HB.out.cell (p := ⟨w.heap.size + 1, k, none⟩) (by simp)).trans (HWC.out k (by omega))
      have hlast := last_at (cut 10 t) k hm
      rw [hlast] at hres
      have hnil : (cut 10 t).dropLast = [] ↔ k = 0 := by rw [← hls]; exact List.length_eq_zero_iff.symm
      have HB2 := HB
      clear HB
      have r0 := HB2.out.cell (p := ⟨w.heap.size, 0, none⟩) (by simp)
      have f0 := HB2.out.frozen (p := ⟨w.heap.size, 0, none⟩) (by simp)
      have r1 := HB2.out.cell (p := ⟨w.heap.size, 1, none⟩) (by simp)
      have f1 := HB2.out.frozen (p := ⟨w.heap.size, 1, none⟩) (by simp)
      have r2 := HB2.out.cell (p := ⟨w.heap.size, 2, none⟩) (by simp)
      have f2 := HB2.out.frozen (p := ⟨w.heap.size, 2, none⟩) (by simp)
      simp at r0 r1 r2 f0 f1 f2
      have hno : ¬ w.heap.size = w.heap.size + 1 + 1 := by omega
      generalize (cut 10 t)[k]'(by omega) = ln at q0 hres
      by_cases hbad : k = 0 ∨ ln ≠ []
      · have HF : Hid (readOf p t = (([], [], []), k, 4)) := Lib.hid (by rw [hres, if_pos (hbad.imp hnil.2 id)])
        clear hres hend hru hlast hnil HRD HRN HRS HPT HWC
        by_cases hk0 : k = 0
        · subst hk0
          go_wp2
          (try simp only [Exit.inBlock, Exit.then])
          refine bodyPost_ret (v := .tuple #[.agg #[.slice none 0 0, .slice none 0 0, .slice none 0 0], .int .i64 ((0 : Nat) : Int), .int .i64 4]) ?_ rfl (err_read HF.out ⟨rfl, ?_⟩)
          · rw [results_cell_tmp2 rfl]
            go_simp
          · have hw := HW2.out.trans (HB2.out.mono (by simp)); repeat (first | exact hw | refine Below.drew ?_ | refine Below.alloc ?_ (by first | (simp; done) | omega | (simp; omega)) _ | refine Below.setCell ?_ (by first | (simp; done) | (show w.heap.size ≤ w.heap.size + 1 + 1; omega)) _)
        · have hk1 : ((k : Int) == 0) = false := by simp; omega
          have hne : (ln == []) = false := by
            rw [beq_eq_false_iff_ne]
            exact hbad.resolve_left hk0
          clear hbad
          go_wp2
          (try simp only [Exit.inBlock, Exit.then])
          refine bodyPost_ret (v := .tuple #[.agg #[.slice none 0 0, .slice none 0 0, .slice none 0 0], .int .i64 (k : Int), .int .i64 4]) ?_ rfl (err_read HF.out ⟨rfl, ?_⟩)
          · rw [results_cell_tmp2 rfl]
            go_simp
          · have hw := HW2.out.trans (HB2.out.mono (by simp)); repeat (first | exact hw | refine Below.drew ?_ | refine Below.alloc ?_ (by first | (simp; done) | omega | (simp; omega)) _ | refine Below.setCell ?_ (by first | (simp; done) | (show w.heap.size ≤ w.heap.size + 1 + 1; omega)) _)
      · have hk0 : ¬ k = 0 := fun e => hbad (.inl e)
        have hln : ln = [] := Classical.byContradiction fun e => hbad (.inr e)
        have hk1 : ((k : Int) == 0) = false := by simp; omega
        rw [if_neg (fun e => hbad (e.imp hnil.1 id))] at hres
        subst hln
        have hbx := box_facts HI.out.hb
        have q1 : wr.cell? ⟨w.heap.size + 1 + 1, 0, none⟩ = _ := hbx.1
        have q2 : wr.cell? ⟨w.heap.size + 1 + 1, 1, none⟩ = _ := hbx.2.1
        have q3 : wr.cell? ⟨w.heap.size + 1 + 1, 2, none⟩ = _ := hbx.2.2.1
        obtain ⟨C, e1, e2, e3, hCl, hCW⟩ := HI.out.holds
        have hC := hCW wr HI.out
        have HCW := Lib.hid hCW
        clear hCW
        rw [e1] at q1
        rw [e2] at q2
        rw [e3] at q3
        have hck := check_any p hp C wr hC
        rw [← hCl, check_cl] at hres
        have HCL := Lib.hid hCl
        clear hbx hbad hnil hlast hend hru hC e1 e2 e3 HRD HRN HRS HPT HWC hCl
        by_cases hz : checkErr p C = 0
        · rw [hz] at hck hres
          have HRES : Hid (readOf p t = (C.l, 0, 0)) := Lib.hid (by rw [hres]; rfl)
          have HCK := Lib.hid hck
          clear hck hres hz
          go_wp2_with (first | (go_at_call 10; refine HCK.out.mono ?_; rintro e w5 ⟨rfl, hb5⟩; have HB3 := Lib.hid (HB2.out.trans (hb5.mono (Nat.le_of_lt hszr))); clear HB2; have HB2 := HB3; clear HB3; have q1 := (hb5.cell (p := ⟨w.heap.size + 1 + 1, 0, none⟩) (by omega)).trans q1; have q2 := (hb5.cell (p := ⟨w.heap.size + 1 + 1, 1, none⟩) (by omega)).trans q2; have q3 := (hb5.cell (p := ⟨w.heap.size + 1 + 1, 2, none⟩) (by omega)).trans q3; have HB5 := Lib.hid hb5; clear hb5; clear r0 r1 r2 f0 f1 f2; have r0 := HB2.out.cell (p := ⟨w.heap.size, 0, none⟩) (by simp); have f0 := HB2.out.frozen (p := ⟨w.heap.size, 0, none⟩) (by simp); have r1 := HB2.out.cell (p := ⟨w.heap.size, 1, none⟩) (by simp); have f1 := HB2.out.frozen (p := ⟨w.heap.size, 1, none⟩) (by simp); have r2 := HB2.out.cell (p := ⟨w.heap.size, 2, none⟩) (by simp); have f2 := HB2.out.frozen (p := ⟨w.heap.size, 2, none⟩) (by simp); simp at r0 r1 r2 f0 f1 f2))
          (try simp only [Exit.inBlock, Exit.then])
          refine bodyPost_ret (v := .tuple #[.agg #[.slice C.SA C.slots.length C.sc, .slice C.GA C.gates.length C.gc, .slice C.EA C.exits.length C.ec], .int .i64 0, .int .i64 0]) ?_ rfl ⟨?_, C, ?_, ?_, HCW.out _ ((((HI.out.below HB5.out).res 0 _).res 1 _).res 2 _)⟩
          · rw [results_cell_tmp2 rfl]
            go_simp
          · have hw := HW2.out.trans (HB2.out.mono (by simp)); repeat (first | exact hw | refine Below.drew ?_ | refine Below.alloc ?_ (by first | (simp; done) | omega | (simp; omega)) _ | refine Below.setCell ?_ (by first | (simp; done) | (show w.heap.size ≤ w.heap.size + 1 + 1; omega)) _)
          · rw [HRES.out]; rfl
          · rw [HRES.out]
        · have hres2 : readOf p t = (([], [], []), 0, checkErr p C) := by rw [hres, if_pos hz]
          have hz1 : (checkErr p C == 0) = false := by simpa using hz
          generalize checkErr p C = er at hck hres2 hz1
          have HF := Lib.hid hres2
          have HCK := Lib.hid hck
          clear hck hres hres2 hz
          go_wp2_with (first | (go_at_call 10; refine HCK.out.mono ?_; rintro e w5 ⟨rfl, hb5⟩; have HB3 := Lib.hid (HB2.out.trans (hb5.mono (Nat.le_of_lt hszr))); clear HB2; have HB2 := HB3; clear HB3; have q1 := (hb5.cell (p := ⟨w.heap.size + 1 + 1, 0, none⟩) (by omega)).trans q1; have q2 := (hb5.cell (p := ⟨w.heap.size + 1 + 1, 1, none⟩) (by omega)).trans q2; have q3 := (hb5.cell (p := ⟨w.heap.size + 1 + 1, 2, none⟩) (by omega)).trans q3; have HB5 := Lib.hid hb5; clear hb5; clear r0 r1 r2 f0 f1 f2; have r0 := HB2.out.cell (p := ⟨w.heap.size, 0, none⟩) (by simp); have f0 := HB2.out.frozen (p := ⟨w.heap.size, 0, none⟩) (by simp); have r1 := HB2.out.cell (p := ⟨w.heap.size, 1, none⟩) (by simp); have f1 := HB2.out.frozen (p := ⟨w.heap.size, 1, none⟩) (by simp); have r2 := HB2.out.cell (p := ⟨w.heap.size, 2, none⟩) (by simp); have f2 := HB2.out.frozen (p := ⟨w.heap.size, 2, none⟩) (by simp); simp at r0 r1 r2 f0 f1 f2))
          (try simp only [Exit.inBlock, Exit.then])
          refine bodyPost_ret (v := .tuple #[.agg #[.slice none 0 0, .slice none 0 0, .slice none 0 0], .int .i64 ((0 : Nat) : Int), .int .i64 er]) ?_ rfl (err_read HF.out ⟨rfl, ?_⟩)
          · rw [results_cell_tmp2 rfl]
            go_simp
          · have hw := HW2.out.trans (HB2.out.mono (by simp)); repeat (first | exact hw | refine Below.drew ?_ | refine Below.alloc ?_ (by first | (simp; done) | omega | (simp; omega)) _ | refine Below.setCell ?_ (by first | (simp; done) | (show w.heap.size ≤ w.heap.size + 1 + 1; omega)) _)
theorem read_any (p : Nat) (hp : p < 18446744073709551616) (t : Bs) (w : World) (hE : Env w) : Calls Tryz.prog 23 #[.int .u64 p, .string ⟨t.toArray⟩] w (ReadPost p t w) := by
  cases hP : isP p with
  | false => exact (read_p p hp hP t w).mono fun e w' h => err_read (i := 0) (er := 2) (by unfold readOf; rw [if_pos hP]) h
  | true =>
    by_cases ht : 4194304 < t.length
    · exact (read_big p hp hP t ht w).mono fun e w' h => err_read (i := 0) (er := 3) (by unfold readOf; rw [if_neg (by rw [hP]; simp), if_pos ht]) h
    · exact read_go p hp hP t (by omega) w hE
end Go.Proofs.YtmnbgamnbgdnnaaGreatDoor
