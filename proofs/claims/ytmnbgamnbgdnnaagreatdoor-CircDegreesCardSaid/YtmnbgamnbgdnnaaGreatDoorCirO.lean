/- Plain: the text of a circuit, and what a text spells. -/
import Derived.Test.YtmnbgamnbgdnnaaGreatDoorCirN
import Derived.Lib.Join
namespace Go.Proofs.YtmnbgamnbgdnnaaGreatDoor
open Go.RowKit

abbrev Bs := List UInt8
abbrev ExL := List Int × List Int
def Exi.l (x : Exi) : ExL := (x.tl, x.gl)
/-- A circuit without its places in memory. -/
abbrev Lis := List Slo × List Gat × List ExL
def Cir.l (C : Cir) : Lis := (C.slots, C.gates, C.exits.map Exi.l)
def numI (n : Int) : Bs := Lib.decDigits n.toNat
def spaced (l : List Bs) : Bs := l.flatMap fun x => 32 :: x
def kwSlots : Bs := [115, 108, 111, 116, 115]
def kwOut : Bs := [111, 117, 116]
def kwAll : Bs := [97, 108, 108]
def kwIn : Bs := [105, 110]
def kwConst : Bs := [99, 111, 110, 115, 116]
def kwAdd : Bs := [97, 100, 100]
def kwSub : Bs := [115, 117, 98]
def kwMul : Bs := [109, 117, 108]
def kwScale : Bs := [115, 99, 97, 108, 101]
/-- The words of a gate's line. -/
def gateWords (g : Gat) : List Bs :=
  if g.1 = 1 then [kwIn, numI g.2.1] else if g.1 = 2 then [kwConst, numI g.2.2.2] else if g.1 = 3 then [kwAdd, numI g.2.1, numI g.2.2.1] else
  if g.1 = 4 then [kwSub, numI g.2.1, numI g.2.2.1] else if g.1 = 5 then [kwMul, numI g.2.1, numI g.2.2.1] else [kwScale, numI g.2.1, numI g.2.2.2]
def slotText (x : Slo) : Bs := 32 :: (if x.2 then 98 else 110) :: numI x.1
def slotLine (l : List Slo) : Bs := kwSlots ++ l.flatMap slotText
def gateLine (g : Gat) : Bs := Lib.join (gateWords g) [32]
/-- The words of an exit's line. -/
def exitWords (x : ExL) : List Bs := kwOut :: ((if x.1 = [] then [kwAll] else x.1.map numI) ++ [58] :: x.2.map numI)
def exitLine (x : ExL) : Bs := Lib.join (exitWords x) [32]
/-- The lines of a circuit's text. -/
def lineList (L : Lis) : List Bs := slotLine L.1 :: (L.2.1.map gateLine ++ L.2.2.map exitLine)
def ended (l : List Bs) : Bs := l.flatMap fun x => x ++ [10]
def textOf (L : Lis) : Bs := ended (lineList L)

theorem join_spaced (x : Bs) (l : List Bs) : Lib.join (x :: l) [32] = x ++ spaced l := by
  rw [Lib.join_cons]
  rfl
theorem ended_snoc (l : List Bs) (x : Bs) : ended (l ++ [x]) = ended l ++ (x ++ [10]) := by simp [ended]
theorem ended_app (l k : List Bs) : ended (l ++ k) = ended l ++ ended k := by simp [ended]
theorem spaced_snoc (l : List Bs) (x : Bs) : spaced (l ++ [x]) = spaced l ++ 32 :: x := by simp [spaced]
theorem spaced_app (l k : List Bs) : spaced (l ++ k) = spaced l ++ spaced k := by simp [spaced]

/-- What f says of each word; nothing if it says nothing of one. -/
def allOf {α : Type} (f : Bs → Option α) : List Bs → Option (List α)
  | [] => some []
  | x :: r => match f x, allOf f r with
    | some a, some l => some (a :: l)
    | _, _ => none
def slotOfW : Bs → Option Slo
  | [] => none
  | c :: r => if c = 110 ∨ c = 98 then (valOf r).map fun (n : Nat) => (Int.ofNat n, decide (c = 98)) else none
def slotsOf (s : Bs) : Option (List Slo) := if (cut 32 s).headD [] = kwSlots then allOf slotOfW (cut 32 s).tail else none
def gateOf (s : Bs) : Option Gat := match allOf valOf (cut 32 s).tail with
  | some [a] => if (cut 32 s).headD [] = kwIn then some (1, a, 0, 0) else if (cut 32 s).headD [] = kwConst then some (2, 0, 0, a) else none
  | some [a, b] => if (cut 32 s).headD [] = kwAdd then some (3, a, b, 0) else if (cut 32 s).headD [] = kwSub then some (4, a, b, 0) else if (cut 32 s).headD [] = kwMul then some (5, a, b, 0) else
      if (cut 32 s).headD [] = kwScale then some (6, a, 0, b) else none
  | _ => none
/-- The number of words ahead of the colon, behind the first word. -/
def upTo (l : List Bs) : Nat := (l.takeWhile fun x => decide (x ≠ [58])).length
def exitOf (s : Bs) : Option ExL :=
  if (cut 32 s).headD [] = kwOut ∧ upTo (cut 32 s).tail ≠ 0 ∧ upTo (cut 32 s).tail < (cut 32 s).tail.length then
    match allOf valOf (if (cut 32 s).tail.take (upTo (cut 32 s).tail) = [kwAll] then [] else (cut 32 s).tail.take (upTo (cut 32 s).tail)), allOf valOf ((cut 32 s).tail.drop (upTo (cut 32 s).tail + 1)) with
    | some a, some b => some (a.map Int.ofNat, b.map Int.ofNat)
    | _, _ => none
  else none
/-- One more line. -/
def stepL (i : Nat) (st : Lis) (s : Bs) : Option Lis :=
  if i = 0 then (slotsOf s).map fun l => (l, st.2.1, st.2.2) else
  if (gateOf s).isSome ∧ st.2.2 = [] then (gateOf s).map fun g => (st.1, st.2.1 ++ [g], st.2.2) else (exitOf s).map fun x => (st.1, st.2.1, st.2.2 ++ [x])
def runL (i : Nat) (st : Lis) : List Bs → Nat ⊕ Lis
  | [] => .inr st
  | s :: r => match stepL i st s with
    | none => .inl i
    | some st' => runL (i + 1) st' r
def lisCir (L : Lis) : Cir := ⟨L.1, L.2.1, L.2.2.map (fun x => ⟨x.1, x.2, none, none, 0, 0⟩), none, none, none, 0, 0, 0⟩
def checkL (p : Nat) (L : Lis) : Int := checkErr p (lisCir L)
theorem exitsErr_l (m : Int) (l k : List Exi) (h : l.map Exi.l = k.map Exi.l) : exitsErr m l = exitsErr m k := by
  induction l generalizing k with
  | nil => cases k with
    | nil => rfl
    | cons y r => simp at h
  | cons x t ih => cases k with
    | nil => simp at h
    | cons y r =>
      simp only [List.map_cons, List.cons.injEq] at h
      have h1 : xErr m x = xErr m y := by
        unfold xErr
        have h2 : x.tl = y.tl ∧ x.gl = y.gl := by simpa [Exi.l] using h.1
        rw [h2.1, h2.2]
      unfold exitsErr
      rw [h1, ih r h.2]
theorem check_l (p : Nat) (C D : Cir) (h : C.l = D.l) : checkErr p C = checkErr p D := by
  have h1 : C.slots = D.slots := congrArg (fun x : Lis => x.1) h
  have h2 : C.gates = D.gates := congrArg (fun x : Lis => x.2.1) h
  have h3 : C.exits.map Exi.l = D.exits.map Exi.l := congrArg (fun x : Lis => x.2.2) h
  have h4 : C.exits.length = D.exits.length := by simpa using congrArg List.length h3
  have ht : tooBig C ↔ tooBig D := by unfold tooBig; rw [h1, h2, h4]
  unfold checkErr
  by_cases hp : isP p = false
  · rw [if_pos hp, if_pos hp]
  rw [if_neg hp, if_neg hp]
  by_cases hb : tooBig C
  · rw [if_pos hb, if_pos (ht.1 hb)]
  rw [if_neg hb, if_neg (fun h => hb (ht.2 h)), h1, h2, exitsErr_l _ _ _ h3]
theorem lis_l (L : Lis) : (lisCir L).l = L := by
  unfold lisCir Cir.l
  simp [Exi.l, Function.comp_def]
theorem check_cl (p : Nat) (C : Cir) : checkL p C.l = checkErr p C := check_l p _ _ (lis_l _)
/-- What circ.Read says of a text: the circuit, the line, the error. -/
def readOf (p : Nat) (t : Bs) : Lis × Nat × Int :=
  if isP p = false then (([], [], []), 0, 2) else if 4194304 < t.length then (([], [], []), 0, 3) else
  match runL 0 ([], [], []) (cut 10 t).dropLast with
  | .inl i => (([], [], []), i, 4)
  | .inr L => if (cut 10 t).dropLast = [] ∨ (cut 10 t).getLastD [] ≠ [] then (([], [], []), (cut 10 t).dropLast.length, 4) else if checkL p L ≠ 0 then (([], [], []), 0, checkL p L) else (L, 0, 0)
end Go.Proofs.YtmnbgamnbgdnnaaGreatDoor
