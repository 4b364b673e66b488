/- Contract of the reference's Same over outputs that are the same. -/
import Derived.Test.YtmnbgamnbgdnnaaGreatDoorCjJ
import Derived.BigQuiet
import Derived.Deep.QuietTactic
namespace Go.Proofs.YtmnbgamnbgdnnaaGreatDoor
open Go.RowKit

def DPost (w : World) (e : Ending) (w' : World) : Prop := e = .returned (.bool true) ∧ ∃ n, w' = w.drewN n
set_option maxRecDepth 100000 in
theorem told_ints_none (A B : Option Addr) (c d : Nat) (w : World) : Calls Tryz.prog 49 #[.slice A 0 c, .slice B 0 d] w (DPost w) := by
  go_enter Tryz.func49, Tryz.ntmps49
  go_wp2
  go_loopg [13] 0 (fun g v wr => v = .int .i64 0 ∧ w = wr)
  case atStart => exact ⟨rfl, rfl⟩
  case round =>
    obtain ⟨rfl, rfl⟩ := hrel
    go_wp2
    go_ret
    exact ⟨rfl, 0, rfl⟩
set_option maxRecDepth 100000 in
theorem same_none (A B : Option Addr) (c d : Nat) (w : World) : Calls Tryz.prog 46 #[.slice A 0 c, .slice B 0 d] w (DPost w) := by
  go_enter Tryz.func46, Tryz.ntmps46
  go_wp2
  go_loopg [13] 0 (fun g v wr => v = .int .i64 0 ∧ w = wr)
  case atStart => exact ⟨rfl, rfl⟩
  case round =>
    obtain ⟨rfl, rfl⟩ := hrel
    go_wp2
    go_ret
    exact ⟨rfl, 0, rfl⟩
theorem told_ints_any (l : List Int) (hl : l.length ≤ 9223372036854775807) (A B : Option Addr) (c d : Nat) (w : World) (hA : Reads w A (iCells l)) (hB : Reads w B (iCells l)) : Calls Tryz.prog 49 #[.slice A l.length c, .slice B l.length d] w (DPost w) := by
  rcases Nat.eq_zero_or_pos l.length with h0 | h0
  · obtain rfl := List.eq_nil_of_length_eq_zero h0
    exact told_ints_none A B c d w
  · obtain ⟨a, rfl, _⟩ := hA.i 0 h0
    obtain ⟨b, rfl, _⟩ := hB.i 0 h0
    exact told_ints_some l hl a b c d w hA hB
theorem same_any (l : List Nat) (hl : l.length ≤ 9223372036854775807) (A B : Option Addr) (c d : Nat) (w : World) (hA : Reads w A (uCells l)) (hB : Reads w B (uCells l)) : Calls Tryz.prog 46 #[.slice A l.length c, .slice B l.length d] w (DPost w) := by
  rcases Nat.eq_zero_or_pos l.length with h0 | h0
  · obtain rfl := List.eq_nil_of_length_eq_zero h0
    exact same_none A B c d w
  · obtain ⟨a, rfl, _⟩ := hA.u 0 h0
    obtain ⟨b, rfl, _⟩ := hB.u 0 h0
    exact same_some l hl a b c d w hA hB
structure HoldsT (w : World) (A : Option Addr) (ts : List Tel) : Prop where
  r : Reads w A (telCells ts)
  x : ∀ t ∈ ts, Reads w t.A (iCells t.tl) ∧ Reads w t.B (uCells t.vl)
  n : ∀ t ∈ ts, t.tl.length ≤ 9223372036854775807 ∧ t.vl.length ≤ 9223372036854775807
theorem HoldsT.below {w w' : World} {A : Option Addr} {ts : List Tel} (h : HoldsT w A ts) (hb : Below w.heap.size w w') : HoldsT w' A ts := ⟨h.r.below hb, fun t ht => ⟨(h.x t ht).1.below hb, (h.x t ht).2.below hb⟩, h.n⟩
theorem InvT.holds {B : Nat} {ts : List Tel} {v : Value} {W : World} (h : InvT B ts v W) : ∃ A c, v = .slice A ts.length c ∧ HoldsT W A ts := by
  obtain ⟨A, c, rfl, r⟩ := own_reads h.1
  have hm : maxLen ≤ 9223372036854775807 := by unfold maxLen; omega
  exact ⟨A, c, rfl, r, fun t ht => ⟨own_reads_at (h.2 t ht).1, own_reads_at (h.2 t ht).2⟩, fun t ht => ⟨Nat.le_trans (own_len (h.2 t ht).1) hm, Nat.le_trans (own_len (h.2 t ht).2) hm⟩⟩
theorem Reads.tel {w : World} {A : Option Addr} {l : List Tel} (h : Reads w A (telCells l)) (k : Nat) (hk : k < l.length) :
    ∃ ad, A = some ad ∧ w.cell? (ad.add (k * 2)) = some (.slice l[k].A l[k].tl.length l[k].c) ∧ w.cell? ⟨(ad.add (k * 2)).block, (ad.add (k * 2)).off + 1, none⟩ = some (.slice l[k].B l[k].vl.length l[k].d) := by
  have e := flat_at (fun x : Tel => [.slice x.A x.tl.length x.c, .slice x.B x.vl.length x.d]) 2 (fun _ => rfl) l k hk
  rcases h with h | ⟨ad, h1, h2⟩
  · have := e 0 (by omega); unfold telCells at h; rw [h] at this; simp at this
  · refine ⟨ad, h1, h2 (k * 2) _ (e 0 (by omega)), ?_⟩
    rw [← add_part _ _ 1 (by omega)]
    exact h2 _ _ (e 1 (by omega))
theorem quiet_moreD {P : Program} {f : FuncId} {args : Array Value} {v : Value} {w : World} (h : ∀ m, Calls P f args (w.drewN m) fun e w' => e = .returned v ∧ ∃ k, w' = (w.drewN m).drewN k) {a n : Nat} :
    Calls P f args (w.drewN (a + n)) fun e w'' => e = .returned v ∧ ∃ m, w'' = w.drewN (a + m) := (h _).mono fun _ _ ⟨he, k, hk⟩ => ⟨he, n + k, by rw [hk, World.drewN_drewN, Nat.add_assoc]⟩
set_option maxHeartbeats 1000000 in
set_option maxRecDepth 100000 in
theorem told_same (ts us : List Tel) (hl : ts.map Tel.l = us.map Tel.l) (hn : ts.length ≤ 9223372036854775807) (A B : Option Addr) (c d : Nat) (w : World) (hA : HoldsT w A ts) (hB : HoldsT w B us) :
    Calls Tryz.prog 19 #[.slice A ts.length c, .slice B ts.length d] w (DPost w) := by
  have HA := Lib.hid hA
  have HB := Lib.hid hB
  have hlen : ts.length = us.length := by simpa using congrArg List.length hl
  have HL := Lib.hid hl
  have HLN := Lib.hid hlen
  clear hA hB hl hlen
  go_enter Tryz.func19, Tryz.ntmps19
  go_wp2
  go_loopg [13] ts.length (fun g v wr => ∃ k n : Nat, k ≤ ts.length ∧ g = ts.length - k ∧ v = .int .i64 k ∧ wr = w.drewN n)
  case atStart => exact ⟨0, 0, by omega, rfl, rfl, by simp [World.drewN_zero]⟩
  case round =>
    obtain ⟨k, n, hk, rfl, rfl, rfl⟩ := hrel
    by_cases hlt : k < ts.length
    · obtain ⟨aa, rfl, q0, q1⟩ := HA.out.r.tel k hlt
      obtain ⟨bb, rfl, r0, r1⟩ := HB.out.r.tel k (by rw [← HLN.out]; exact hlt)
      obtain ⟨x1, x2⟩ := HA.out.x _ (List.getElem_mem hlt)
      obtain ⟨m1, m2⟩ := HA.out.n _ (List.getElem_mem hlt)
      obtain ⟨y1, y2⟩ := HB.out.x _ (List.getElem_mem (show k < us.length by rw [← HLN.out]; exact hlt))
      have he : ts[k].l = (us[k]'(by rw [← HLN.out]; exact hlt)).l := by
        have := congrArg (fun l => l[k]?) HL.out
        simpa [List.getElem?_map, List.getElem?_eq_getElem hlt, List.getElem?_eq_getElem (show k < us.length by rw [← HLN.out]; exact hlt)] using this
      generalize ts[k] = t at *
      generalize (us[k]'(by rw [← HLN.out]; exact hlt)) = u at *
      obtain ⟨tl, vl, tA, tB, tc, td⟩ := t
      obtain ⟨tl', vl', uA, uB, uc, ud⟩ := u
      have e1 : tl = tl' := congrArg (fun x : List Int × List Nat => x.1) he
      have e2 : vl = vl' := congrArg (fun x : List Int × List Nat => x.2) he
      subst e1
      subst e2
      simp only at q0 q1 r0 r1 x1 x2 y1 y2 m1 m2
      have HI := Lib.hid (fun m => told_ints_any tl m1 tA uA tc uc (w.drewN m) x1 y1)
      have HS := Lib.hid (fun m => same_any vl m2 tB uB td ud (w.drewN m) x2 y2)
      clear x1 x2 y1 y2 he m1 m2
      go_wp2
      go_quiet (first | (exact quiet_moreD HI.out) | (exact quiet_moreD HS.out))
      try go_wp2
      go_roundg (ts.length - (k + 1))
      case measure => omega
      case rel => exact ⟨k + 1, _, by omega, rfl, by go_num, by first | rfl | (rw [World.drewN_drewN]) | (rw [World.drewN_add])⟩
    · obtain rfl : k = ts.length := by omega
      go_wp2
      go_ret
      exact ⟨rfl, _, rfl⟩
end Go.Proofs.YtmnbgamnbgdnnaaGreatDoor
