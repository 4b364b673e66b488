/- Contract of circ.readExit. -/
import Derived.Test.YtmnbgamnbgdnnaaGreatDoorCjC
namespace Go.Proofs.YtmnbgamnbgdnnaaGreatDoor
open Go.RowKit

/-- Numbers that were read, in one form. -/
def NumsU (o : Option (List Nat)) (b : Bool) (w : World) (e : Ending) (w' : World) : Prop :=
  ∃ A n c, e = .returned (.tuple #[.slice A n c, .bool b]) ∧ Below w.heap.size w w' ∧ ∀ ns, o = some ns → w'.ownsRow w.heap.size 3 1 (.slice A n c) ns.length (iCells (ns.map Int.ofNat))
theorem nums_u {o : Option (List Nat)} {b : Bool} (hb : o.isSome = b) {w : World} {e : Ending} {w' : World} (h : NumsPost o w e w') : NumsU o b w e w' := by
  subst hb
  cases o with
  | none => obtain ⟨h1, rfl⟩ := h; exact ⟨none, 0, 0, rfl, h1, fun _ h => by cases h⟩
  | some ns =>
    obtain ⟨h1, v, rfl, hown⟩ := h
    obtain ⟨A, c, rfl, _⟩ := own_reads hown
    exact ⟨A, _, c, rfl, h1, fun ms h => by injection h with h; subst h; exact hown⟩
theorem own_n {w : World} {base : Nat} {e : TypeId} {size n k c : Nat} {A : Option Addr} {xs : List Value} (h : w.ownsRow base e size (.slice A n c) k xs) : n = k := by
  rcases h.2 with ⟨h0, h1⟩ | ⟨g, cap, cur, h0, _⟩
  · injection h0 with _ h2 _; omega
  · injection h0 with _ h2 _
theorem grown_set (w : World) (p : Addr) (u : Value) : w.grownBy (w.setCell p u) (some p.block) :=
  ⟨rfl, rfl, rfl, by simp [World.setCell], fun k _ hk => Below.heap_setCell _ _ _ _ fun e => hk (by rw [e])⟩
theorem own_set {w : World} {base : Nat} {e : TypeId} {size n : Nat} {v : Value} {xs : List Value} (h : w.ownsRow base e size v n xs) {p : Addr} (hp : p.block < base) (u : Value) : (w.setCell p u).ownsRow base e size v n xs :=
  h.kept (grown_set w p u) (by
    cases hv : v.ownBlock with
    | none => exact .inl rfl
    | some q =>
      refine .inr fun e => ?_
      injection e with e
      have := (h.lt q hv).1
      omega)
set_option maxRecDepth 100000 in
theorem numbers_nil (A : Option Addr) (c : Nat) (w : World) : Calls Tryz.prog 92 #[.slice A 0 c] w (NumsPost (some []) w) := by
  go_enter Tryz.func92, Tryz.ntmps92
  go_wp2
  go_loopg [4, 11] 0 (fun g v i wr => i = .int .i64 0 ∧ v = .slice none 0 0 ∧ w = wr)
  case atStart => exact ⟨rfl, rfl, rfl⟩
  case round =>
    obtain ⟨rfl, rfl, rfl⟩ := hrel
    go_wp2
    go_ret2
    exact ⟨Below.refl _ _, _, rfl, World.ownsRow_nil _ _ _ _⟩
theorem upTo_le (l : List Bs) : upTo l ≤ l.length := by
  unfold upTo
  exact (List.takeWhile_sublist _).length_le
theorem upTo_is {l : List Bs} {k : Nat} (h : k < l.length) (h1 : k ≤ upTo l) (h2 : l[k] = [58]) : upTo l = k := by
  induction l generalizing k with
  | nil => simp at h
  | cons x r ih =>
    unfold upTo at *
    rw [List.takeWhile_cons] at h1 ⊢
    cases k with
    | zero =>
      have : x = [58] := h2
      rw [if_neg (by simpa using this)]
      rfl
    | succ k =>
      by_cases hx : x = [58]
      · rw [if_neg (by simpa using hx)] at h1
        simp at h1
      · rw [if_pos (by simpa using hx)] at h1 ⊢
        simp only [List.length_cons] at h1 ⊢
        rw [ih (by simpa using h) (by omega) (by simpa using h2)]
theorem upTo_more {l : List Bs} {k : Nat} (h : k < l.length) (h1 : k ≤ upTo l) (h2 : l[k] ≠ [58]) : k + 1 ≤ upTo l := by
  induction l generalizing k with
  | nil => simp at h
  | cons x r ih =>
    unfold upTo at *
    rw [List.takeWhile_cons] at h1 ⊢
    cases k with
    | zero =>
      have : x ≠ [58] := h2
      rw [if_pos (by simpa using this)]
      simp
    | succ k =>
      by_cases hx : x = [58]
      · rw [if_neg (by simpa using hx)] at h1
        simp at h1
      · rw [if_pos (by simpa using hx)] at h1 ⊢
        simp only [List.length_cons] at h1 ⊢
        have := ih (by simpa using h) (by omega) (by simpa using h2)
        omega
def ExitPostR (o : Option ExL) (w : World) (e : Ending) (w' : World) : Prop :=
  Below w.heap.size w w' ∧ match o with
    | none => ∃ A n c B m d, e = .returned (.tuple #[.agg #[.slice A n c, .slice B m d], .bool false])
    | some x => ∃ A c B d, e = .returned (.tuple #[.agg #[.slice A x.1.length c, .slice B x.2.length d], .bool true]) ∧ w'.ownsRow w.heap.size 3 1 (.slice A x.1.length c) x.1.length (iCells x.1) ∧ w'.ownsRow w.heap.size 3 1 (.slice B x.2.length d) x.2.length (iCells x.2)
theorem exitOf_cut {s h : Bs} {t : List Bs} (hc : cut 32 s = h :: t) : exitOf s = if h = kwOut ∧ upTo t ≠ 0 ∧ upTo t < t.length then
    match allOf valOf (if t.take (upTo t) = [kwAll] then [] else t.take (upTo t)), allOf valOf (t.drop (upTo t + 1)) with
    | some a, some b => some (a.map Int.ofNat, b.map Int.ofNat)
    | _, _ => none
  else none := by
  unfold exitOf
  rw [hc]
  rfl
theorem word_cell (w : World) (l : List Bs) (k : Nat) (h : k < l.length) : (w.alloc (.cells (sCells l).toArray 9)).cell? ⟨w.heap.size, k, none⟩ = some (.string ⟨l[k].toArray⟩) := by
  rw [World.cell?_alloc_new]
  simp [sCells, List.getElem?_eq_getElem h]
set_option maxHeartbeats 2000000 in
set_option maxRecDepth 100000 in
theorem readExit_bad (s : Bs) (hs : s.length ≤ 4194304) (w : World) (h : Bs) (t : List Bs) (hc : cut 32 s = h :: t) (hbad : ¬ (h = kwOut ∧ upTo t ≠ 0 ∧ upTo t < t.length)) :
    Calls Tryz.prog 64 #[.string ⟨s.toArray⟩] w (ExitPostR none w) := by
  have hlen : t.length ≤ 4194304 := by
    have := cut_len 32 s
    rw [hc, List.length_cons] at this
    have : s.count 32 ≤ s.length := List.count_le_length
    omega
  have hsp := split_any s 32 (w.alloc (.cells #[.slice none 0 0, .slice none 0 0] 72)) (by omega)
  rw [hc, List.length_cons] at hsp
  have hwc := word_cell (w.alloc (.cells #[.slice none 0 0, .slice none 0 0] 72)) (h :: t)
  rw [show (w.alloc (.cells #[.slice none 0 0, .slice none 0 0] 72)).heap.size = w.heap.size + 1 by simp] at hsp hwc
  have HSP := Lib.hid hsp; clear hsp
  have HWC := Lib.hid hwc; clear hwc
  clear hs
  go_enter Tryz.func64, Tryz.ntmps64
  go_wp2_with (first | (go_at_call 61; refine HSP.out.mono ?_; rintro e w1 ⟨rfl, rfl⟩))
  go_loopg [5] t.length (fun g v wr => ∃ k : Nat, k ≤ t.length ∧ g = t.length - k ∧ v = .int .i64 ((k + 1 : Nat) : Int) ∧ Hid (k ≤ upTo t) ∧ (w.alloc (.cells #[.slice none 0 0, .slice none 0 0] 72)).alloc (.cells (sCells (h :: t)).toArray 9) = wr)
  case atStart => exact ⟨0, Nat.zero_le _, rfl, rfl, Nat.zero_le _, rfl⟩
  case round =>
    obtain ⟨k, hk, rfl, rfl, hu, rfl⟩ := hrel
    by_cases hlt : k < t.length
    · have q0 := HWC.out (k + 1) (by simp; omega)
      have e1 : (h :: t)[k + 1]'(by simp; omega) = t[k] := rfl
      rw [e1] at q0
      by_cases hx : t[k] = [58]
      · have hk2 := upTo_is hlt hu.out hx
        have hxe : (t[k] == [58]) = true := by simpa using hx
        have z0 := HWC.out 0 (by simp)
        have e2 : (h :: t)[0]'(by simp) = h := rfl
        rw [e2] at z0
        by_cases ho : h = kwOut
        · have hk0 : k = 0 := Classical.byContradiction fun e => hbad ⟨ho, by omega, by omega⟩
          have hoe : (h == [111, 117, 116]) = true := by rw [ho]; rfl
          subst hk0
          have hne : ((0 : Int) + 1 == (t.length : Int) + 1) = false := by simp; omega
          clear hx hk2 ho hbad hu e1 e2
          generalize t[0] = x at q0 hxe
          go_wp2
          (try simp only [Exit.inBlock, Exit.then])
          refine bodyPost_ret (v := .tuple #[.agg #[.slice none 0 0, .slice none 0 0], .bool false]) ?_ rfl ⟨?_, none, 0, 0, none, 0, 0, rfl⟩
          · rw [results_cell_tmp rfl]
            go_simp
          · repeat (first | exact Below.refl _ _ | refine Below.alloc ?_ (by simp) _ | refine Below.setCell ?_ (by simp) _)
        · have hoe : (h == [111, 117, 116]) = false := by rw [beq_eq_false_iff_ne]; exact ho
          clear hx hk2 ho hbad hu e1 e2
          generalize t[k] = x at q0 hxe
          go_wp2
          (try simp only [Exit.inBlock, Exit.then])
          refine bodyPost_ret (v := .tuple #[.agg #[.slice none 0 0, .slice none 0 0], .bool false]) ?_ rfl ⟨?_, none, 0, 0, none, 0, 0, rfl⟩
          · rw [results_cell_tmp rfl]
            go_simp
          · repeat (first | exact Below.refl _ _ | refine Below.alloc ?_ (by simp) _ | refine Below.setCell ?_ (by simp) _)
      · have hk2 := upTo_more hlt hu.out hx
        have HK := Lib.hid hk2
        have hxe : (t[k] == [58]) = false := by simpa using hx
        clear hx hk2 hbad hu e1
        generalize t[k] = x at q0 hxe
        go_wp2
        go_roundg (t.length - (k + 1))
        case measure => omega
        case rel => exact ⟨k + 1, by omega, rfl, by go_num, HK.out, rfl⟩
    · obtain rfl : k = t.length := by omega
      have z0 := HWC.out 0 (by simp)
      have e2 : (h :: t)[0]'(by simp) = h := rfl
      rw [e2] at z0
      by_cases ho : h = kwOut
      · have hoe : (h == [111, 117, 116]) = true := by rw [ho]; rfl
        clear ho hbad hu e2
        go_wp2
        (try simp only [Exit.inBlock, Exit.then])
        refine bodyPost_ret (v := .tuple #[.agg #[.slice none 0 0, .slice none 0 0], .bool false]) ?_ rfl ⟨?_, none, 0, 0, none, 0, 0, rfl⟩
        · rw [results_cell_tmp rfl]
          go_simp
        · repeat (first | exact Below.refl _ _ | refine Below.alloc ?_ (by simp) _ | refine Below.setCell ?_ (by simp) _)
      · have hoe : (h == [111, 117, 116]) = false := by rw [beq_eq_false_iff_ne]; exact ho
        clear ho hbad hu e2
        go_wp2
        (try simp only [Exit.inBlock, Exit.then])
        refine bodyPost_ret (v := .tuple #[.agg #[.slice none 0 0, .slice none 0 0], .bool false]) ?_ rfl ⟨?_, none, 0, 0, none, 0, 0, rfl⟩
        · rw [results_cell_tmp rfl]
          go_simp
        · repeat (first | exact Below.refl _ _ | refine Below.alloc ?_ (by simp) _ | refine Below.setCell ?_ (by simp) _)
end Go.Proofs.YtmnbgamnbgdnnaaGreatDoor
