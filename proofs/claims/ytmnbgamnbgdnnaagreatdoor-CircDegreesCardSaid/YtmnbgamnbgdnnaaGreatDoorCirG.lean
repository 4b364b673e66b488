/- Contracts of slices.Clone over numbers. -/
import Derived.Test.YtmnbgamnbgdnnaaGreatDoorCirF
import Derived.Laws.AppendOwn
import Derived.Laws.OwnMore
namespace Go.Proofs.YtmnbgamnbgdnnaaGreatDoor
open Go.RowKit

def OwnPost (e : TypeId) (n : Nat) (cs : List Value) (w : World) (en : Ending) (w' : World) : Prop := ∃ v, en = .returned v ∧ w'.ownsRow w.heap.size e 1 v n cs ∧ Below w.heap.size w w'
theorem infoU : (Tryz.prog.info? 22).map (fun i => (i.zero, i.size, i.bytes)) = some (some (.int .u64 0), 1, 8) := by kernel_rfl
theorem infoI : (Tryz.prog.info? 3).map (fun i => (i.zero, i.size, i.bytes)) = some (some (.int .i64 0), 1, 8) := by kernel_rfl
section
variable {P : Program} {ops : Array Oper} {rest : List Oper} {o : Oper} {a : Act} {Q : Exit → Act → World → Prop}
/-- A slice's one-cell elements are appended to a row of the call's own. -/
theorem app_slice {W : World} (base : Nat) (hgd : o.guard = none) (s x : Operand) (t e : TypeId) (z : Value) (bytes : Nat)
    (ho : o.op = .call { callee := .builtin .append, args := #[s, x], argTypes := #[t, t] })
    (ht : P.underlying t = some (.slice e)) (hinfo : (P.info? e).map (fun i => (i.zero, i.size, i.bytes)) = some (some z, 1, bytes)) (hz : z.cells.size = 1) (hb0 : 0 < bytes)
    (v : Value) (n : Nat) (xs ys : List Value) (hs : a.eval s = v) (ad : Addr) (m c : Nat) (hx : a.eval x = .slice (some ad) m c) (hys : ys.length = m) (hr : ∀ j u, ys[j]? = some u → W.cell? (ad.add j) = some u) (h1 : ∀ u ∈ ys, u.oneCell' = true)
    (HO : W.ownsRow base e 1 v n xs) (hbase : base ≤ W.heap.size) (hl : (n + m) * bytes ≤ 140737488355328)
    (h : ∀ v1 w1, w1.ownsRow base e 1 v1 (n + m) (xs ++ ys) → W.grownBy w1 v.ownBlock → wpList P ops Q rest (a.put o.dst v1) w1) : wpList P ops Q (o :: rest) a W := by
  obtain ⟨i0, hi, hzz⟩ := Option.map_eq_some_iff.1 hinfo
  simp only [Prod.mk.injEq] at hzz
  obtain ⟨hz0, hz1, hz2⟩ := hzz
  have hlen : n + m ≤ 140737488355328 := Nat.le_trans (Nat.le_mul_of_pos_right _ hb0) hl
  exact wpList_append_own W hgd s x t ho base e i0 z 1 bytes ht hi hz0 hz1 hz2 hz (by omega) v n xs hs HO ad m c ys hx (by rw [hys]; omega) hr h1 (by simp only [maxLen]; omega) hl hbase fun v1 w1 hown hg _ => h v1 w1 hown hg
end
theorem own_empty (w : World) (e : TypeId) : (w.alloc (.cells #[] e)).ownsRow w.heap.size e 1 (.slice (some ⟨w.heap.size, 0, none⟩) 0 0) 0 [] :=
  ⟨rfl, .inr ⟨w.heap.size, 0, #[], rfl, Nat.le_refl _, heap_alloc_new w _, Nat.le_refl _, Nat.zero_le _, rfl, rfl⟩⟩
set_option maxRecDepth 100000 in
theorem cloneU_none (c : Nat) (w : World) : Calls Tryz.prog 43 #[.slice none 0 c] w (OwnPost 22 0 [] w) := by
  have hq2 : ∀ W, (binOp .eql 32 (.slice none 0 c) (.slice none 0 0)).run Tryz.prog W = .ok (.bool true) W := fun _ => by kernel_rfl
  go_enter Tryz.func43, Tryz.ntmps43
  go_wp2
  go_ret
  exact ⟨_, rfl, World.ownsRow_nil _ _ _ _, Below.refl _ _⟩
set_option maxRecDepth 100000 in
theorem cloneU_some (l : List Nat) (hl : l.length ≤ 17592186044416) (ad : Addr) (c : Nat) (w : World) (hR : Reads w (some ad) (uCells l)) : Calls Tryz.prog 43 #[.slice (some ad) l.length c] w (OwnPost 22 l.length (uCells l) w) := by
  have hb0 : Below w.heap.size w (w.alloc (.cells #[] 22)) := (Below.refl _ _).alloc (Nat.le_refl _) _
  have hr : ∀ j u, (uCells l)[j]? = some u → (w.alloc (.cells #[] 22)).cell? (ad.add j) = some u := by
    rcases hR.below hb0 with h | ⟨ad', e, h⟩
    · intro j u hj; rw [h] at hj; simp at hj
    · injection e with e; subst e; exact h
  have HR := Lib.hid hr
  clear hr hR hb0
  have hq1 : ∀ W, (binOp .eql 32 (.slice (some ad) l.length c) (.slice none 0 0)).run Tryz.prog W = .ok (.bool false) W := fun _ => by kernel_rfl
  go_enter Tryz.func43, Tryz.ntmps43
  go_wp2_with (at_builtin; refine app_slice w.heap.size rfl _ _ 32 22 _ 8 rfl Tryz.underlying32 infoU rfl (by decide) _ 0 [] (uCells l) rfl ad l.length c rfl (by simp [uCells]) HR.out (by intro u hu; simp [uCells] at hu; obtain ⟨x, _, rfl⟩ := hu; rfl) (own_empty w _) (by simp) (by omega) ?_; intro v3 w3 hown3 hg3; have HO3 := Lib.hid hown3; clear hown3; have HG3 := Lib.hid hg3; clear hg3)
  go_ret
  exact ⟨_, rfl, by have h := HO3.out; rw [Nat.zero_add, List.nil_append] at h; exact h, ((Below.refl _ _).alloc (Nat.le_refl _) _).grown HG3.out (by simp) (fun q hq => by cases hq; exact Nat.le_refl _)⟩
set_option maxRecDepth 100000 in
theorem cloneI_none (c : Nat) (w : World) : Calls Tryz.prog 45 #[.slice none 0 c] w (OwnPost 3 0 [] w) := by
  have hq2 : ∀ W, (binOp .eql 61 (.slice none 0 c) (.slice none 0 0)).run Tryz.prog W = .ok (.bool true) W := fun _ => by kernel_rfl
  go_enter Tryz.func45, Tryz.ntmps45
  go_wp2
  go_ret
  exact ⟨_, rfl, World.ownsRow_nil _ _ _ _, Below.refl _ _⟩
set_option maxRecDepth 100000 in
theorem cloneI_some (l : List Int) (hl : l.length ≤ 17592186044416) (ad : Addr) (c : Nat) (w : World) (hR : Reads w (some ad) (iCells l)) : Calls Tryz.prog 45 #[.slice (some ad) l.length c] w (OwnPost 3 l.length (iCells l) w) := by
  have hb0 : Below w.heap.size w (w.alloc (.cells #[] 3)) := (Below.refl _ _).alloc (Nat.le_refl _) _
  have hr : ∀ j u, (iCells l)[j]? = some u → (w.alloc (.cells #[] 3)).cell? (ad.add j) = some u := by
    rcases hR.below hb0 with h | ⟨ad', e, h⟩
    · intro j u hj; rw [h] at hj; simp at hj
    · injection e with e; subst e; exact h
  have HR := Lib.hid hr
  clear hr hR hb0
  have hq1 : ∀ W, (binOp .eql 61 (.slice (some ad) l.length c) (.slice none 0 0)).run Tryz.prog W = .ok (.bool false) W := fun _ => by kernel_rfl
  go_enter Tryz.func45, Tryz.ntmps45
  go_wp2_with (at_builtin; refine app_slice w.heap.size rfl _ _ 61 3 _ 8 rfl Tryz.underlying61 infoI rfl (by decide) _ 0 [] (iCells l) rfl ad l.length c rfl (by simp [iCells]) HR.out (by intro u hu; simp [iCells] at hu; obtain ⟨x, _, rfl⟩ := hu; rfl) (own_empty w _) (by simp) (by omega) ?_; intro v3 w3 hown3 hg3; have HO3 := Lib.hid hown3; clear hown3; have HG3 := Lib.hid hg3; clear hg3)
  go_ret
  exact ⟨_, rfl, by have h := HO3.out; rw [Nat.zero_add, List.nil_append] at h; exact h, ((Below.refl _ _).alloc (Nat.le_refl _) _).grown HG3.out (by simp) (fun q hq => by cases hq; exact Nat.le_refl _)⟩
end Go.Proofs.YtmnbgamnbgdnnaaGreatDoor
