/- Contract of circ.Run. -/
import Derived.Test.YtmnbgamnbgdnnaaGreatDoorCjH
import Derived.Deep.RegionLaw
namespace Go.Proofs.YtmnbgamnbgdnnaaGreatDoor
open Go.RowKit

structure Tel where
  tl : List Int
  vl : List Nat
  A : Option Addr
  B : Option Addr
  c : Nat
  d : Nat
def Tel.l (t : Tel) : List Int × List Nat := (t.tl, t.vl)
def telCells (l : List Tel) : List Value := l.flatMap fun t => [.slice t.A t.tl.length t.c, .slice t.B t.vl.length t.d]
theorem telCells_snoc (l : List Tel) (t : Tel) : telCells (l ++ [t]) = telCells l ++ [.slice t.A t.tl.length t.c, .slice t.B t.vl.length t.d] := by simp [telCells]
theorem infoTol : (Tryz.prog.info? 75).map (fun i => (i.zero, i.size, i.bytes)) = some (some (.agg #[.slice none 0 0, .slice none 0 0]), 2, 48) := by kernel_rfl
/-- What circ.Run returns of a valid circuit. -/
def toldOf (V : List Nat) (x : Exi) : List Int × List Nat := (x.tl, x.gl.map fun g => V.getD g.toNat 0)
def runOf (p : Nat) (C : Cir) (x : List Nat) : List (List Int × List Nat) := C.exits.map (toldOf (valsL p (effL C.slots x) C.gates))
/-- The outputs in memory. -/
def InvT (B : Nat) (ts : List Tel) (v : Value) (W : World) : Prop :=
  W.ownsRow B 75 2 v ts.length (telCells ts) ∧ ∀ t ∈ ts, W.ownsRow B 3 1 (.slice t.A t.tl.length t.c) t.tl.length (iCells t.tl) ∧ W.ownsRow B 22 1 (.slice t.B t.vl.length t.d) t.vl.length (uCells t.vl)
theorem InvT.below {B : Nat} {ts : List Tel} {v : Value} {W W' : World} (h : InvT B ts v W) (hb : Below W.heap.size W W') : InvT B ts v W' :=
  ⟨own_below h.1 hb, fun t ht => ⟨own_below (h.2 t ht).1 hb, own_below (h.2 t ht).2 hb⟩⟩
theorem InvT.add {B : Nat} {ts : List Tel} {v v' : Value} {W W3 : World} (h : InvT B ts v W) {t : Tel}
    (hA : W.ownsRow B 3 1 (.slice t.A t.tl.length t.c) t.tl.length (iCells t.tl)) (hB : W.ownsRow B 22 1 (.slice t.B t.vl.length t.d) t.vl.length (uCells t.vl))
    (ho : W3.ownsRow B 75 2 v' (ts.length + 1) (telCells ts ++ [.slice t.A t.tl.length t.c, .slice t.B t.vl.length t.d])) (hg : W.grownBy W3 v.ownBlock) : InvT B (ts ++ [t]) v' W3 := by
  refine ⟨by rw [telCells_snoc]; simpa using ho, fun y hy => ?_⟩
  rcases List.mem_append.1 hy with e | e
  · exact ⟨(h.2 y e).1.kept hg (own_ne (h.2 y e).1 h.1 (by decide)), (h.2 y e).2.kept hg (own_ne (h.2 y e).2 h.1 (by decide))⟩
  · rw [List.mem_singleton.1 e]
    exact ⟨hA.kept hg (own_ne hA h.1 (by decide)), hB.kept hg (own_ne hB h.1 (by decide))⟩
def RunPost (p : Nat) (C : Cir) (x : List Nat) (w : World) (e : Ending) (w' : World) : Prop :=
  ((inErr p C x ≠ 0 ∧ e = .returned (.tuple #[.slice none 0 0, .int .i64 (inErr p C x)])) ∨
   (inErr p C x = 0 ∧ ∃ ts v, e = .returned (.tuple #[v, .int .i64 0]) ∧ ts.map Tel.l = runOf p C x ∧ InvT w.heap.size ts v w')) ∧ Below w.heap.size w w'
theorem cloneI_any (l : List Int) (hl : l.length ≤ 17592186044416) (A : Option Addr) (c : Nat) (w : World) (hR : Reads w A (iCells l)) : Calls Tryz.prog 45 #[.slice A l.length c] w (OwnPost 3 l.length (iCells l) w) := by
  cases A with
  | none =>
    rcases hR with h | ⟨ad, e, _⟩
    · have := congrArg List.length h
      simp [iCells] at this
      subst this
      exact cloneI_none c w
    · cases e
  | some ad => exact cloneI_some l hl ad c w hR
section
variable {P : Program} {ops : Array Oper} {o : Oper} {a : Act} {K : Act → World → Prop} {Q : Exit → Act → World → Prop} {E : Prop}
/-- One element is appended to a row of the call's own, as a step of a region that draws its order. -/
theorem step_append_own {W0 W : World} (hW : Below W0.heap.size W0 W) (base : Nat) (hgd : o.guard = none) (s x : Operand) (t e : TypeId) (z : Value) (bytes : Nat)
    (ho : o.op = .call { callee := .builtin .append, args := #[s, x], argTypes := #[t, t] })
    (ht : P.underlying t = some (.slice e)) (hinfo : (P.info? e).map (fun i => (i.zero, i.size, i.bytes)) = some (some z, 1, bytes)) (hz : z.cells.size = 1) (hb0 : 0 < bytes)
    (v : Value) (n : Nat) (xs : List Value) (y : Value) (hs : a.eval s = v) (g : Nat) (hx : a.eval x = .slice (some ⟨g, 0, none⟩) 1 1) (hc : W.cell? ⟨g, 0, none⟩ = some y) (h1 : y.oneCell' = true)
    (HO : W0.ownsRow base e 1 v n xs) (hbase : base ≤ W0.heap.size) (hl : (n + 1) * bytes ≤ 140737488355328)
    (h : ∀ v1 w1, w1.ownsRow base e 1 v1 (n + 1) (xs ++ [y]) → W0.grownBy w1 v.ownBlock → K (a.put o.dst v1) w1) :
    if Region.wanted o (yielded ops a.tmps) = true then Oper.wp P o a W K Q else E := by
  have hw : Region.wanted o (yielded ops a.tmps) = true := by simp [Region.wanted, hgd]
  rw [if_pos hw]
  obtain ⟨i0, hi, hzz⟩ := Option.map_eq_some_iff.1 hinfo
  simp only [Prod.mk.injEq] at hzz
  obtain ⟨hz0, hz1, hz2⟩ := hzz
  have hlen : n + 1 ≤ 140737488355328 := Nat.le_trans (Nat.le_mul_of_pos_right _ hb0) hl
  have hg0 : W0.grownBy W v.ownBlock := ⟨hW.os, hW.tape, hW.output, hW.size, fun k hk _ => hW.block k hk⟩
  exact wp_append_own W s x t ho base e i0 z 1 bytes ht hi hz0 hz1 hz2 hz (by omega) v n xs hs (own_below HO hW) ⟨g, 0, none⟩ 1 1 [y] hx rfl
    (by intro j u hj; cases j with
      | zero => simp at hj; subst hj; simpa [Addr.add] using hc
      | succ j => simp at hj) (by intro u hu; simp at hu; subst hu; exact h1) (by simp only [maxLen]; omega) hl (Nat.le_trans hbase hW.size)
    fun v1 w1 hown hg _ => h v1 w1 hown (World.grownBy.trans hg0 hg)
end
theorem gl_lt {p : Nat} {C : Cir} (h : checkErr p C = 0) (x : Exi) (hx : x ∈ C.exits) : ∀ i ∈ x.gl, 0 ≤ i ∧ i < C.gates.length := by
  have hz := exitsErr_zero (check_exits h).1 x hx
  unfold xErr exitErr at hz
  split at hz
  · cases hz
  split at hz
  · cases hz
  split at hz
  · cases hz
  rename_i h3
  intro i hi
  have h4 : x.gl.any (outside C.gates.length) = false := by simpa using h3
  have := List.any_eq_false.1 h4 i hi
  simp [outside] at this
  omega
set_option maxRecDepth 100000 in
theorem run_bad (p : Nat) (hp : p < 18446744073709551616) (C : Cir) (x : List Nat) (hx : x.length ≤ 17592186044416) (A : Option Addr) (c : Nat) (w : World) (hC : HoldsC w C) (hA : Reads w A (uCells x)) (hbad : inErr p C x ≠ 0) :
    Calls Tryz.prog 15 #[.int .u64 p, .agg #[.slice C.SA C.slots.length C.sc, .slice C.GA C.gates.length C.gc, .slice C.EA C.exits.length C.ec], .slice A x.length c] w (RunPost p C x w) := by
  have hb0 : Below w.heap.size w (w.alloc (.cells #[.slice C.SA C.slots.length C.sc, .slice C.GA C.gates.length C.gc, .slice C.EA C.exits.length C.ec] 27)) := (Below.refl _ _).alloc (Nat.le_refl _) _
  have hv := values_any p hp C x hx A c _ (hC.below hb0) (hA.below hb0)
  have hz : (inErr p C x == 0) = false := by simpa using hbad
  unfold ValPost at hv
  have HV := Lib.hid hv
  have HB := Lib.hid hbad
  obtain ⟨er, her⟩ : ∃ er, inErr p C x = er := ⟨_, rfl⟩
  have HER := Lib.hid her
  rw [her] at hz
  clear hb0 hC hA hv hbad her
  go_enter Tryz.func15, Tryz.ntmps15
  go_wp2_with (first | (go_at_call 14; refine HV.out.mono ?_; rintro e w1 ⟨hor, hb1⟩; rcases hor with ⟨_, rfl⟩ | ⟨h, _⟩; rotate_left; exact absurd h HB.out; have HB1 := Lib.hid hb1; clear hb1; rw [HER.out]))
  go_ret2
  exact ⟨.inl ⟨HB.out, by rw [HER.out]; rfl⟩, below_box HB1.out⟩
end Go.Proofs.YtmnbgamnbgdnnaaGreatDoor
