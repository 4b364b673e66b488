/- Contracts of the reader's skip. -/
import Derived.Test.YtaccooeodimdaaaDoorTokC
import Derived.Test.YtaccooeodimdaaaDoorTokD
import Derived.Lib.IndexBytes
namespace Go.Proofs.YtaccooeodimdaaaDoor
open Go.RowKit

def notNL (c : Int) : Bool := c != 10
set_option maxRecDepth 100000 in
theorem notNL_any (c : Int) (w : World) : Calls Tryd.prog 48 #[.int .u8 c] w fun e w' => e = .returned (.bool (notNL c)) ∧ w = w' := by
  go_enter Tryd.func48, Tryd.ntmps48
  go_wp2
  go_ret
  exact ⟨rfl, rfl⟩
theorem saysNL : Says 48 notNL := ⟨fun _ _ => by kernel_rfl, notNL_any⟩

theorem spanEnd_ge (p : Int → Bool) (l : List UInt8) (i : Nat) : i ≤ spanEnd p l i := by unfold spanEnd; omega
theorem slash_lt {l : List UInt8} {j : Nat} (h : Lib.hasPrefix (l.drop j) [47, 47] = true) : j < l.length ∧ spanEnd notNL l j ≥ j + 1 := by
  have h1 : j < l.length := by
    rcases Nat.lt_or_ge j l.length with h1 | h1
    · exact h1
    · rw [List.drop_eq_nil_of_le h1] at h; simp [Lib.hasPrefix] at h
  refine ⟨h1, ?_⟩
  rw [List.drop_eq_getElem_cons h1] at h
  have h2 : l[j] = 47 := by
    rw [Lib.hasPrefix, List.isPrefixOf_cons_cons, Bool.and_eq_true] at h
    exact (beq_iff_eq.1 h.1).symm
  rw [spanEnd_yes notNL l j h1 (by rw [h2]; rfl)]
  exact spanEnd_ge _ _ _

/-- Where the blanks and remarks end that begin at i. -/
def skipTo (l : List UInt8) (i : Nat) : Nat :=
  if _h : Lib.hasPrefix (l.drop (spanEnd isBlank l i)) [47, 47] = true then skipTo l (spanEnd notNL l (spanEnd isBlank l i)) else spanEnd isBlank l i
termination_by l.length - i
decreasing_by
  have h1 := slash_lt _h
  have h2 := spanEnd_ge isBlank l i
  omega
theorem skipTo_yes (l : List UInt8) (i : Nat) (h : Lib.hasPrefix (l.drop (spanEnd isBlank l i)) [47, 47] = true) : skipTo l i = skipTo l (spanEnd notNL l (spanEnd isBlank l i)) := by
  rw [skipTo, dif_pos h]
theorem skipTo_no (l : List UInt8) (i : Nat) (h : Lib.hasPrefix (l.drop (spanEnd isBlank l i)) [47, 47] = false) : skipTo l i = spanEnd isBlank l i := by
  rw [skipTo, dif_neg (by simp [h])]
theorem skipTo_le (l : List UInt8) (i : Nat) (h : i ≤ l.length) : i ≤ skipTo l i ∧ skipTo l i ≤ l.length := by
  have h1 := spanEnd_le isBlank l i h
  rcases Bool.eq_false_or_eq_true (Lib.hasPrefix (l.drop (spanEnd isBlank l i)) [47, 47]) with hq | hq
  · have h2 := slash_lt hq
    have h3 := spanEnd_le notNL l _ h1.2
    rw [skipTo_yes l i hq]
    have := skipTo_le l _ h3.2
    omega
  · rw [skipTo_no l i hq]; exact h1
termination_by l.length - i
decreasing_by omega

def SkipPost (b : Nat) (s : ByteArray) (i : Nat) (w : World) (e : Ending) (w' : World) : Prop := e = .returned (.tuple #[]) ∧ IsR w' b s (skipTo s.data.toList i) ∧ w.grownBy w' (some b)
theorem grown_trans {w w1 w2 : World} {r : Option Nat} (h : w.grownBy w1 r) (k : w1.grownBy w2 r) : w.grownBy w2 r := World.grownBy.trans h k

theorem drop_ext (s : ByteArray) (j : Nat) : (s.extract j s.size).data.toList = s.data.toList.drop j := by
  exact Lib.extract_to_end s j

set_option maxRecDepth 100000 in
theorem skip_any (b : Nat) (s : ByteArray) (hs : s.size ≤ 9223372036854775807) (i : Nat) (hi : i ≤ s.size) (w : World) (hR : IsR w b s i) :
    Calls Tryd.prog 27 #[.pointer (some ⟨b, 0, none⟩)] w (SkipPost b s i w) := by
  have HS := Lib.hid hs; clear hs
  have HR := Lib.hid hR; clear hR
  go_enter Tryd.func27, Tryd.ntmps27
  go_wp2
  go_loopg [] (s.size - i) (fun g wr => ∃ k : Nat, k ≤ s.size ∧ g = s.size - k ∧ Hid (skipTo s.data.toList k = skipTo s.data.toList i) ∧ IsR wr b s k ∧ w.grownBy wr (some b))
  case atStart => exact ⟨i, hi, rfl, rfl, HR.out, World.grownBy.refl w _⟩
  case round =>
    obtain ⟨k, hk, rfl, hsp, hRk, hg⟩ := hrel
    have HRk := Lib.hid hRk; clear hRk
    have HG := Lib.hid hg; clear hg
    have hj := spanEnd_le isBlank s.data.toList k (by rw [data_len]; exact hk)
    rw [data_len] at hj
    obtain ⟨hj1, hj2⟩ := hj
    go_wp2_with fail
    refine (run_any _ _ saysBlank b s HS.out k hk _ HRk.out).mono ?_
    rintro e w1 ⟨rfl, hR1, hg1⟩
    have hc0 := hR1.c0
    have hc1 := hR1.c1
    have HR1 := Lib.hid hR1; clear hR1
    have HG1 := Lib.hid hg1; clear hg1
    have hp := Tryd.strings_HasPrefix (s.extract (spanEnd isBlank s.data.toList k) s.size) ⟨#[47, 47]⟩
    rcases Bool.eq_false_or_eq_true (Lib.hasPrefix (s.data.toList.drop (spanEnd isBlank s.data.toList k)) [47, 47]) with hq | hq
    · rw [drop_ext, show (⟨#[47, 47]⟩ : ByteArray).data.toList = [47, 47] from rfl, hq] at hp
      have HP := Lib.hid hp; clear hp
      have HQ := Lib.hid hq; clear hq
      go_wp2
      go_quiet ((exact Calls.quiet_of_same (HP.out _)))
      go_wp2_with fail
      refine (run_any _ _ saysNL b s HS.out _ hj2 _ (HR1.out.drewN _)).mono ?_
      rintro e w2 ⟨rfl, hR2, hg2⟩
      have HR2 := Lib.hid hR2; clear hR2
      have HG2 := Lib.hid hg2; clear hg2
      have hs1 := slash_lt HQ.out
      rw [data_len] at hs1
      obtain ⟨hs1, hs2⟩ := hs1
      have hs3 := spanEnd_le notNL s.data.toList _ (by rw [data_len]; exact hj2)
      rw [data_len] at hs3
      obtain ⟨hs3, hs4⟩ := hs3
      go_wp2
      go_roundg (s.size - spanEnd notNL s.data.toList (spanEnd isBlank s.data.toList k))
      case measure => omega
      case rel => exact ⟨_, hs4, rfl, ((skipTo_yes _ _ HQ.out).symm.trans hsp.out : _), HR2.out, (HG.out.trans HG1.out).trans ((World.grownBy.trans (grown_drewN (World.grownBy.refl _ _) _) HG2.out))⟩
    · rw [drop_ext, show (⟨#[47, 47]⟩ : ByteArray).data.toList = [47, 47] from rfl, hq] at hp
      have HP := Lib.hid hp; clear hp
      have HQ := Lib.hid hq; clear hq
      have he : skipTo s.data.toList i = spanEnd isBlank s.data.toList k := hsp.out.symm.trans (skipTo_no _ _ HQ.out)
      have HE := Lib.hid he; clear he
      go_wp2
      go_quiet ((exact Calls.quiet_of_same (HP.out _)))
      go_wp2
      go_end0
      refine ⟨rfl, ?_, grown_drewN (HG.out.trans HG1.out) _⟩
      rw [HE.out]; exact HR1.out
end Go.Proofs.YtaccooeodimdaaaDoor
