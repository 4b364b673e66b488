/- Contract of circ.readExit, joined. -/
import Derived.Test.YtmnbgamnbgdnnaaGreatDoorCjE
namespace Go.Proofs.YtmnbgamnbgdnnaaGreatDoor
open Go.RowKit

def exJoin (o1 o2 : Option (List Nat)) : Option ExL := o1.bind fun a => o2.map fun b => (a.map Int.ofNat, b.map Int.ofNat)
theorem exitOf_join {s h : Bs} {t : List Bs} (hc : cut 32 s = h :: t) : exitOf s = if h = kwOut ∧ upTo t ≠ 0 ∧ upTo t < t.length then
    exJoin (allOf valOf (if t.take (upTo t) = [kwAll] then [] else t.take (upTo t))) (allOf valOf (t.drop (upTo t + 1))) else none := by
  rw [exitOf_cut hc]
  split
  · cases allOf valOf (if t.take (upTo t) = [kwAll] then [] else t.take (upTo t)) with
    | none => rfl
    | some a => cases allOf valOf (t.drop (upTo t + 1)) <;> rfl
  · rfl
theorem xpost_exit {o1 o2 : Option (List Nat)} {w : World} {e : Ending} {w' : World} (h : XPost o1 o2 o1.isSome o2.isSome w e w') :
    ExitPostR (exJoin o1 o2) w e w' := by
  obtain ⟨h0, A, n, c, B, m, d, rfl, h1, h2⟩ := h
  refine ⟨h0, ?_⟩
  cases o1 with
  | none => exact ⟨A, n, c, B, m, d, rfl⟩
  | some a =>
    cases o2 with
    | none => exact ⟨A, n, c, B, m, d, rfl⟩
    | some b =>
      have r1 := h1 a rfl
      have r2 := h2 b rfl
      obtain rfl := own_n r1
      obtain rfl := own_n r2
      exact ⟨A, c, B, d, by simp, by simpa using r1, by simpa using r2⟩
theorem readExit_any (s : Bs) (hs : s.length ≤ 4194304) (w : World) (hE : Env w) : Calls Tryz.prog 64 #[.string ⟨s.toArray⟩] w (ExitPostR (exitOf s) w) := by
  cases hc : cut 32 s with
  | nil => exact absurd hc (cut_ne 32 s)
  | cons h t =>
    rw [exitOf_join hc]
    by_cases hg : h = kwOut ∧ upTo t ≠ 0 ∧ upTo t < t.length
    · rw [if_pos hg]
      obtain ⟨rfl, h1, h2⟩ := hg
      have fin : ∀ o1 o2, Calls Tryz.prog 64 #[.string ⟨s.toArray⟩] w (XPost o1 o2 o1.isSome o2.isSome w) → Calls Tryz.prog 64 #[.string ⟨s.toArray⟩] w (ExitPostR (exJoin o1 o2) w) := fun o1 o2 h => h.mono fun e w' h => xpost_exit h
      refine fin _ _ ?_
      by_cases hall : t.take (upTo t) = [kwAll]
      · rw [if_pos hall]
        have hu1 : upTo t = 1 := by
          have := congrArg List.length hall
          rw [List.length_take] at this
          simp at this
          omega
        exact readExit_all s hs w hE t hc (upTo t) rfl (by omega) h2 _ _ _ _ rfl rfl rfl hu1 hall rfl
      · rw [if_neg hall]
        by_cases hu1 : upTo t = 1
        · exact readExit_one s hs w hE t hc (upTo t) rfl (by omega) h2 _ _ _ _ rfl rfl rfl hu1 hall rfl
        · exact readExit_many s hs w hE t hc (upTo t) rfl (by omega) h2 _ _ _ _ rfl rfl rfl hu1 rfl
    · rw [if_neg hg]
      exact readExit_bad s hs w h t hc hg
end Go.Proofs.YtmnbgamnbgdnnaaGreatDoor
