/- Contracts of IndexFunc and ContainsFunc over ints, of circ.Exit and the reference's Exit and Rising. -/
import Derived.Test.YtmnbgamnbgdnnaaGreatDoorFldC
namespace Go.Proofs.YtmnbgamnbgdnnaaGreatDoor
open Go.RowKit

/-- A function value with one captured variable that says q of a number, in one world. -/
structure SaysI (j : FuncId) (x : Value) (W : World) (q : Int → Bool) : Prop where
  run : ∀ (args : Array Value) (W : World), (callFunc j args).run Tryz.prog W = .ok (.enter j args) W
  says : ∀ (c : Int), Calls Tryz.prog j #[.int .i64 c, x] W fun e w' => e = .returned (.bool (q c)) ∧ W = w'
def SomeIdx (b : Bool) (W : World) (e : Ending) (w' : World) : Prop := ∃ n : Int, e = .returned (.int .i64 n) ∧ decide (0 ≤ n) = b ∧ W = w'
theorem any_succ {α : Type} {l : List α} {q : α → Bool} {k : Nat} (h : k < l.length) (h0 : (l.take k).any q = false) (h1 : q l[k] = false) : (l.take (k + 1)).any q = false := by
  rw [List.take_succ_eq_append_getElem h, List.any_append, h0]
  simp [h1]
theorem any_at {α : Type} {l : List α} {q : α → Bool} {k : Nat} (h : k < l.length) (h1 : q l[k] = true) : l.any q = true := List.any_eq_true.2 ⟨_, List.getElem_mem h, h1⟩
set_option maxRecDepth 100000 in
theorem indexI_any (j : FuncId) (x : Value) (q : Int → Bool) (W : World) (hk : SaysI j x W q) (l : List Int) (A : Option Addr) (cap : Nat) (hl : l.length ≤ 9223372036854775807) (hR : Reads W A (iCells l)) :
    Calls Tryz.prog 97 #[.slice A l.length cap, .func (.func j) #[] #[x]] W (SomeIdx (l.any q) W) := by
  have hrun := hk.run
  have HK := Lib.hid hk.says; clear hk
  have HR := Lib.hid hR; clear hR
  go_enter Tryz.func97, Tryz.ntmps97
  go_wp2
  go_loopg [8] l.length (fun g v wr => ∃ k : Nat, k ≤ l.length ∧ g = l.length - k ∧ v = .int .i64 k ∧ Hid ((l.take k).any q = false) ∧ W = wr)
  case atStart => exact ⟨0, Nat.zero_le _, rfl, rfl, rfl, rfl⟩
  case round =>
    obtain ⟨k, hk, rfl, rfl, H0, rfl⟩ := hrel
    by_cases hlt : k < l.length
    · obtain ⟨ad, rfl, q0⟩ := HR.out.i k hlt
      have hs := HK.out l[k]
      rcases Bool.eq_false_or_eq_true (q l[k]) with hq | hq
      · rw [hq] at hs
        have HS := Lib.hid hs; clear hs
        have HQ := Lib.hid hq; clear hq
        go_wp2_with ((with_reducible refine HS.out.mono ?_); rintro e w' ⟨rfl, rfl⟩)
        go_ret
        exact ⟨k, rfl, by rw [any_at hlt HQ.out]; simp, rfl⟩
      · rw [hq] at hs
        have HS := Lib.hid hs; clear hs
        have HN := Lib.hid (any_succ hlt H0.out hq); clear hq
        go_wp2_with ((with_reducible refine HS.out.mono ?_); rintro e w' ⟨rfl, rfl⟩)
        go_roundg (l.length - (k + 1))
        case measure => omega
        case rel => exact ⟨k + 1, by omega, rfl, by go_num, HN.out, rfl⟩
    · obtain rfl : k = l.length := by omega
      have h := H0.out
      rw [List.take_length] at h
      have HN := Lib.hid h; clear h
      go_wp2
      go_ret
      exact ⟨(-1 : Int), rfl, by rw [HN.out]; rfl, rfl⟩
set_option maxRecDepth 100000 in
theorem containsI_any (j : FuncId) (x : Value) (q : Int → Bool) (W : World) (hk : SaysI j x W q) (l : List Int) (A : Option Addr) (cap : Nat) (hl : l.length ≤ 9223372036854775807) (hR : Reads W A (iCells l)) :
    Calls Tryz.prog 74 #[.slice A l.length cap, .func (.func j) #[] #[x]] W (BRet (l.any q) W) := by
  have HI := Lib.hid (indexI_any j x q W hk l A cap hl hR)
  clear hk hR
  go_enter Tryz.func74, Tryz.ntmps74
  go_wp2_with (go_at_call 97; refine HI.out.mono ?_; rintro e w' ⟨n, rfl, hn, rfl⟩; have HN := Lib.hid hn; clear hn)
  go_ret
  exact ⟨ret_bl HN.out, rfl⟩

def outside (gates g : Int) : Bool := decide (g < 0) || decide (gates ≤ g)
set_option maxRecDepth 100000 in
theorem exit1_at (gates : Int) (a : Nat) (W : World) (ha : W.cell? ⟨a, 0, none⟩ = some (.int .i64 gates)) : SaysI 79 (.pointer (some ⟨a, 0, none⟩)) W (outside gates) := by
  refine ⟨fun _ _ => by kernel_rfl, fun c => ?_⟩
  by_cases h : c < 0
  · go_enter Tryz.func79, Tryz.ntmps79
    go_wp2
    go_ret
    exact ⟨ret_bl (by simp [outside, h]), rfl⟩
  · have h' : 0 ≤ c := by omega
    go_enter Tryz.func79, Tryz.ntmps79
    go_wp2
    go_ret
    exact ⟨ret_bl (by simp [outside]; omega), rfl⟩
/-- Strictly ascending numbers of parties, from above last. -/
def risingFrom : Int → List Int → Bool
  | _, [] => true
  | last, x :: r => decide (last < x) && decide (x ≤ 13) && risingFrom x r
def exitErr (gates : Int) (tl gs : List Int) : Int := if risingFrom 0 tl = false then 2 else if 1024 < gs.length then 3 else if gs.any (outside gates) then 13 else 0
theorem rising_drop {l : List Int} {k : Nat} (hk : k < l.length) (last : Int) : risingFrom last (l.drop k) = (decide (last < l[k]) && decide (l[k] ≤ 13) && risingFrom l[k] (l.drop (k + 1))) := by
  rw [List.drop_eq_getElem_cons hk]; rfl
theorem rising_end {l : List Int} (last : Int) : risingFrom last (l.drop l.length) = true := by rw [List.drop_length]; rfl
set_option maxHeartbeats 1000000 in
set_option maxRecDepth 100000 in
theorem exit_any (gates : Int) (tl gs : List Int) (A B : Option Addr) (c d : Nat) (h1 : tl.length ≤ 9223372036854775807) (h2 : gs.length ≤ 9223372036854775807) (w : World) (hA : Reads w A (iCells tl)) (hB : Reads w B (iCells gs)) :
    Calls Tryz.prog 38 #[.int .i64 gates, .agg #[.slice A tl.length c, .slice B gs.length d]] w (GatePost (exitErr gates tl gs) w) := by
  have hb0 : Below w.heap.size w ((w.alloc (.cells #[.int .i64 gates] 3)).alloc (.cells #[.slice A tl.length c, .slice B gs.length d] 72)) := ((Below.refl _ _).alloc (Nat.le_refl _) _).alloc (by simp) _
  have hsay := exit1_at gates w.heap.size ((w.alloc (.cells #[.int .i64 gates] 3)).alloc (.cells #[.slice A tl.length c, .slice B gs.length d] 72)) (by simp)
  have hcon := containsI_any _ _ _ _ hsay gs B d h2 (hB.below hb0)
  have HA := Lib.hid (hA.below hb0)
  have HB0 := Lib.hid hb0
  clear hA hB hsay hb0
  go_enter Tryz.func38, Tryz.ntmps38
  go_wp2
  go_loopg [5, 11] tl.length (fun g a v wr => ∃ (k : Nat) (last : Int), k ≤ tl.length ∧ g = tl.length - k ∧ a = .int .i64 last ∧ v = .int .i64 k ∧ Hid (risingFrom last (tl.drop k) = risingFrom 0 tl) ∧ ((w.alloc (.cells #[.int .i64 gates] 3)).alloc (.cells #[.slice A tl.length c, .slice B gs.length d] 72)) = wr)
  case atStart => exact ⟨0, 0, by omega, rfl, rfl, rfl, rfl, rfl⟩
  case round =>
    obtain ⟨k, last, hk, rfl, rfl, rfl, hd, rfl⟩ := hrel
    by_cases hlt : k < tl.length
    · obtain ⟨ad, rfl, q0⟩ := HA.out.i k hlt
      have hst := rising_drop hlt last
      have HST := Lib.hid (hst.symm.trans hd.out); clear hst hd
      by_cases g1 : last < tl[k]
      · by_cases g2 : tl[k] ≤ 13
        · have HN : Hid (risingFrom tl[k] (tl.drop (k + 1)) = risingFrom 0 tl) := Lib.hid (by have h := HST.out; simpa [g1, g2] using h)
          go_wp2
          go_roundg (tl.length - (k + 1))
          case measure => omega
          case rel => exact ⟨k + 1, tl[k], by omega, rfl, rfl, by go_num, HN.out, rfl⟩
        · have g2' : 13 < tl[k] := by omega
          have HN : Hid (risingFrom 0 tl = false) := Lib.hid (by rw [← HST.out]; simp [g2])
          go_wp2
          go_ret
          exact ⟨ret_e (by unfold exitErr; rw [if_pos HN.out]), HB0.out⟩
      · have g1' : tl[k] ≤ last := by omega
        have HN : Hid (risingFrom 0 tl = false) := Lib.hid (by rw [← HST.out]; simp [g1])
        go_wp2
        go_ret
        exact ⟨ret_e (by unfold exitErr; rw [if_pos HN.out]), HB0.out⟩
    · obtain rfl : k = tl.length := by omega
      have HN := Lib.hid ((rising_end last).symm.trans hd.out).symm; clear hd
      by_cases g3 : 1024 < gs.length
      · go_wp2
        go_ret
        exact ⟨ret_e (by unfold exitErr; rw [if_neg (by rw [HN.out]; simp), if_pos g3]), HB0.out⟩
      · rcases Bool.eq_false_or_eq_true (gs.any (outside gates)) with hq | hq
        all_goals
          rw [hq] at hcon
          have HC := Lib.hid hcon; clear hcon
          have HQ := Lib.hid hq; clear hq
          go_wp2_with (go_at_call 74; refine HC.out.mono ?_; rintro e w' ⟨rfl, rfl⟩)
          go_ret
          exact ⟨ret_e (by unfold exitErr; rw [if_neg (by rw [HN.out]; simp), if_neg g3, HQ.out]; rfl), HB0.out⟩
end Go.Proofs.YtmnbgamnbgdnnaaGreatDoor
