/- Contracts of the reader's run. -/
import Derived.Test.YtaccooeodimdaaaDoorTokB
import Derived.Deep.LoopGhost
import Derived.Deep.CutBlock
namespace Go.Proofs.YtaccooeodimdaaaDoor
open Go.RowKit

/-- Where the run of bytes of a kind that begins at i ends. -/
def spanEnd (p : Int → Bool) (l : List UInt8) (i : Nat) : Nat := i + ((l.drop i).takeWhile fun c => p (c.toNat : Int)).length
theorem spanEnd_yes (p : Int → Bool) (l : List UInt8) (i : Nat) (h : i < l.length) (hp : p (l[i].toNat : Int) = true) : spanEnd p l i = spanEnd p l (i + 1) := by
  unfold spanEnd
  rw [List.drop_eq_getElem_cons h, List.takeWhile_cons, if_pos (by simpa using hp), List.length_cons]
  omega
theorem spanEnd_no (p : Int → Bool) (l : List UInt8) (i : Nat) (h : i < l.length) (hp : p (l[i].toNat : Int) = false) : spanEnd p l i = i := by
  unfold spanEnd
  rw [List.drop_eq_getElem_cons h, List.takeWhile_cons, if_neg (by simpa using hp)]
  rfl
theorem spanEnd_out (p : Int → Bool) (l : List UInt8) (i : Nat) (h : l.length ≤ i) : spanEnd p l i = i := by
  unfold spanEnd
  rw [List.drop_eq_nil_of_le h]
  rfl
theorem spanEnd_le (p : Int → Bool) (l : List UInt8) (i : Nat) (h : i ≤ l.length) : i ≤ spanEnd p l i ∧ spanEnd p l i ≤ l.length := by
  unfold spanEnd
  have := (List.takeWhile_sublist (fun c : UInt8 => p (c.toNat : Int)) (l := l.drop i)).length_le
  rw [List.length_drop] at this
  omega

/-- Block b is a reader of s that stands at i. -/
def IsR (w : World) (b : Nat) (s : ByteArray) (i : Nat) : Prop := w.heap[b]? = some (.cells #[.string s, .int .i64 i] 45 (0, 0))
theorem IsR.c0 {w : World} {b : Nat} {s : ByteArray} {i : Nat} (h : IsR w b s i) : w.cell? ⟨b, 0, none⟩ = some (.string s) := by rw [cell_of_row w b 0 _ _ _ h]; rfl
theorem IsR.c1 {w : World} {b : Nat} {s : ByteArray} {i : Nat} (h : IsR w b s i) : w.cell? ⟨b, 1, none⟩ = some (.int .i64 i) := by rw [cell_of_row w b 1 _ _ _ h]; rfl
theorem IsR.f1 {w : World} {b : Nat} {s : ByteArray} {i : Nat} (h : IsR w b s i) : w.frozen? ⟨b, 1, none⟩ = false := by
  have h' : w.heap[b]? = some (.cells #[.string s, .int .i64 i] 45 (0, 0)) := h
  simp [World.frozen?, h']

theorem str_get (s : ByteArray) (k : Nat) (h : k < s.size) : s.data.toList[k]'(by rw [data_len]; exact h) = s[k] := rfl
theorem ext_eq {s : ByteArray} {i a b : Nat} (h : a = b) : Ending.returned (.string (s.extract i a)) = .returned (.string (s.extract i b)) := by rw [h]
theorem IsR.of {w w' : World} {b : Nat} {s : ByteArray} {i : Nat} (h : IsR w b s i) (k : Nat) (hw : w' = w.setCell ⟨b, 1, none⟩ (.int .i64 k)) : IsR w' b s k := by
  subst hw
  have : w.heap[b]? = some (.cells #[.string s, .int .i64 i] 45 (0, 0)) := h
  simp [IsR, World.setCell, Array.getElem?_modify, this]
theorem grown_set {w w' : World} {b : Nat} (h : w.grownBy w' (some b)) (j : Nat) (u : Value) : w.grownBy (w'.setCell ⟨b, j, none⟩ u) (some b) :=
  ⟨h.os, h.tape, h.output, by simpa [World.setCell] using h.size, fun k hk hne => by rw [Below.heap_setCell _ _ _ _ (by rintro rfl; exact hne rfl)]; exact h.block k hk hne⟩
theorem grown_drewN {w w' : World} {r : Option Nat} (h : w.grownBy w' r) (n : Nat) : w.grownBy (w'.drewN n) r := ⟨h.os, h.tape, h.output, h.size, h.block⟩
theorem IsR.drewN {w : World} {b : Nat} {s : ByteArray} {i : Nat} (h : IsR w b s i) (n : Nat) : IsR (w.drewN n) b s i := h

set_option maxRecDepth 100000 in
theorem run_any (k : FuncId) (p : Int → Bool) (hk : Says k p) (b : Nat) (s : ByteArray) (hs : s.size ≤ 9223372036854775807) (i : Nat) (hi : i ≤ s.size) (w : World) (hR : IsR w b s i) :
    Calls Tryd.prog 45 #[.pointer (some ⟨b, 0, none⟩), .func (.func k) #[] #[]] w fun e w' => e = .returned (.string (s.extract i (spanEnd p s.data.toList i))) ∧ IsR w' b s (spanEnd p s.data.toList i) ∧ w.grownBy w' (some b) := by
  have hrun := hk.run
  have HK := Lib.hid hk.says; clear hk
  have hc0 := hR.c0
  have hc1 := hR.c1
  have HR := Lib.hid hR; clear hR
  have hle := spanEnd_le p s.data.toList i (by rw [data_len]; exact hi)
  rw [data_len] at hle
  obtain ⟨hle1, hle2⟩ := hle
  go_enter Tryd.func45, Tryd.ntmps45
  go_wp2
  go_loopg [] (s.size - i) (fun g wr => ∃ k : Nat, k ≤ s.size ∧ i ≤ k ∧ g = s.size - k ∧ Hid (spanEnd p s.data.toList k = spanEnd p s.data.toList i) ∧ IsR wr b s k ∧ w.grownBy wr (some b))
  case atStart => exact ⟨i, hi, Nat.le_refl _, rfl, rfl, HR.out, World.grownBy.refl w _⟩
  case round =>
    obtain ⟨k, hk, hik, rfl, hsp, hRk, hg⟩ := hrel
    clear hc0 hc1
    have hc0 := hRk.c0
    have hc1 := hRk.c1
    have hf1 := hRk.f1
    have HRk := Lib.hid hRk; clear hRk
    have HG := Lib.hid hg; clear hg
    by_cases hlt : k < s.size
    · have hlt' : k < s.data.toList.length := by rw [data_len]; exact hlt
      rcases Bool.eq_false_or_eq_true (p (s[k].toNat : Int)) with hq | hq
      · have hsy := spanEnd_yes p s.data.toList k hlt' hq
        have HSY := Lib.hid hsy; clear hsy
        go_wp2
        go_quiet ((exact Calls.quiet_of_same ((HK.out _ _).mono fun _ _ h => ⟨h.1, h.2.symm⟩)))
        go_wp2
        go_roundg (s.size - (k + 1))
        case measure => omega
        case rel => exact ⟨k + 1, by omega, by omega, rfl, (HSY.out.symm.trans hsp.out : _), (HRk.out.drewN _).of (k + 1) rfl, grown_set (grown_drewN HG.out _) _ _⟩
      · have hsy := spanEnd_no p s.data.toList k hlt' hq
        have HSY := Lib.hid hsy; clear hsy
        have he : spanEnd p s.data.toList i = k := hsp.out.symm.trans HSY.out
        have HE := Lib.hid he; clear he
        go_wp2
        go_quiet ((exact Calls.quiet_of_same ((HK.out _ _).mono fun _ _ h => ⟨h.1, h.2.symm⟩)))
        go_wp2
        go_quiet (fail)
        go_wp2
        go_ret
        refine ⟨ext_eq HE.out.symm, ?_, grown_drewN (grown_drewN HG.out _) _⟩
        rw [HE.out]; exact HRk.out
    · have he : spanEnd p s.data.toList i = k := hsp.out.symm.trans (spanEnd_out p s.data.toList k (by rw [data_len]; omega))
      have HE := Lib.hid he; clear he
      have hge : decide ((k : Int) < (s.size : Int)) = false := by simp; omega
      go_wp2
      go_quiet (fail)
      go_wp2
      go_quiet (fail)
      go_wp2
      go_ret
      refine ⟨ext_eq HE.out.symm, ?_, grown_drewN (grown_drewN HG.out _) _⟩
      rw [HE.out]; exact HRk.out
end Go.Proofs.YtaccooeodimdaaaDoor
