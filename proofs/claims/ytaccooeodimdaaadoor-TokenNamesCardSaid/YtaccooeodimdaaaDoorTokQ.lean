/- The chapter's example: what is read of its text and written. -/
import Derived.Test.YtaccooeodimdaaaDoorTokP
namespace Go.Proofs.YtaccooeodimdaaaDoor
open Go.RowKit

def exText : ByteArray := ⟨#[108, 101, 116, 32, 97, 61, 98, 61, 61, 51, 59, 47, 47, 32, 120]⟩
def exToks : List Tok := [(1, ⟨#[108, 101, 116]⟩, 0), (1, ⟨#[97]⟩, 4), (3, ⟨#[61]⟩, 5), (1, ⟨#[98]⟩, 6), (3, ⟨#[61, 61]⟩, 7), (2, ⟨#[51]⟩, 9), (3, ⟨#[59]⟩, 10)]
def exOut : List UInt8 := [108, 101, 116, 32, 97, 32, 61, 32, 98, 32, 61, 61, 32, 51, 32, 59]
theorem ex_end : readFrom exText 11 = ([], 0, 0) := by
  apply readFrom_end
  rw [skipTo_yes _ _ (by decide), show spanEnd notNL exText.data.toList (spanEnd isBlank exText.data.toList 11) = 15 by decide, skipTo_no _ _ (by decide)]
  decide
theorem ex_step (i p j : Nat) (k : Int) (t : ByteArray) (ts : List Tok) (h1 : Lib.hasPrefix (exText.data.toList.drop (spanEnd isBlank exText.data.toList i)) [47, 47] = false) (h2 : spanEnd isBlank exText.data.toList i = p) (h3 : p < 15)
    (h4 : rawTok exText p = some (k, t, j)) (h5 : nextErr k t.data.toList p = 0) (h6 : readFrom exText j = (ts, 0, 0)) : readFrom exText i = ((k, t, p) :: ts, 0, 0) := by
  have e : skipTo exText.data.toList i = p := by rw [skipTo_no _ _ h1, h2]
  rw [readFrom_next exText i (by rw [e]; show ¬ 15 ≤ p; omega) (by rw [e]; exact h4) (by rw [e]; exact h5), h6, e]
  rfl
theorem ex_from : readFrom exText 0 = (exToks, 0, 0) := by
  refine ex_step 0 0 3 1 ⟨#[108, 101, 116]⟩ _ (by decide) (by decide) (by decide) rfl (by decide) ?_
  refine ex_step 3 4 5 1 ⟨#[97]⟩ _ (by decide) (by decide) (by decide) rfl (by decide) ?_
  refine ex_step 5 5 6 3 ⟨#[61]⟩ _ (by decide) (by decide) (by decide) rfl (by decide) ?_
  refine ex_step 6 6 7 1 ⟨#[98]⟩ _ (by decide) (by decide) (by decide) rfl (by decide) ?_
  refine ex_step 7 7 9 3 ⟨#[61, 61]⟩ _ (by decide) (by decide) (by decide) rfl (by decide) ?_
  refine ex_step 9 9 10 2 ⟨#[51]⟩ _ (by decide) (by decide) (by decide) rfl (by decide) ?_
  refine ex_step 10 10 11 3 ⟨#[59]⟩ _ (by decide) (by decide) (by decide) rfl (by decide) ?_
  exact ex_end
theorem ex_read : readAll exText = (exToks, 0, 0) := by
  unfold readAll
  rw [if_neg (by decide), ex_from]
  rfl
def intTok (t : Tok) : ITok := (t.1, t.2.1, (t.2.2 : Int))
theorem iCells_int (ts : List Tok) : iCells (ts.map intTok) = tokCells ts := by
  simp [iCells, tokCells, intTok, List.flatMap_map]
theorem ex_write : writeOf (exToks.map intTok) = (exOut, 0) := by
  have h1 : okAll (exToks.map intTok) = true := by decide
  have h2 : joined (exToks.map intTok) = exOut := by rfl
  unfold writeOf
  rw [if_neg (by decide), if_neg (by rw [h1]; decide), if_neg (by rw [h2]; decide), h2]
/-- A slice of the call's own reads as its cells. -/
theorem own_reads {w : World} {base : Nat} {e : TypeId} {size n : Nat} {v : Value} {xs : List Value} (h : w.ownsRow base e size v n xs) : ∃ A c, v = .slice A n c ∧ Reads w A xs := by
  rcases h.2 with ⟨hv, h0⟩ | ⟨g, cap, cur, hv, hb, r⟩
  · subst h0
    exact ⟨none, 0, hv, .inl (List.eq_nil_of_length_eq_zero (by rw [h.1]; omega))⟩
  · exact ⟨some ⟨g, 0, none⟩, cap, hv, .inr ⟨_, rfl, fun j u hu => h.cells (g := g) (by rw [hv]; rfl) j u hu⟩⟩
def exAts : List Int := [0, 4, 5, 6, 7, 9, 10]
theorem ex_at : ∀ k, (h : k < 7) → ((exToks.map intTok)[k]'h).2.2 = exAts[k]'h := by decide

def exWant : Obj := .cells #[.int .i64 0, .int .i64 4, .int .i64 5, .int .i64 6, .int .i64 7, .int .i64 9, .int .i64 10] 3 (0, 0)
theorem ex_cell (w1 wr : World) (hb : Below (w1.heap.size + 1) (w1.alloc exWant) wr) (k : Nat) (h : k < 7) : wr.cell? ⟨w1.heap.size, k, none⟩ = some (.int .i64 ((exToks.map intTok)[k]'h).2.2) := by
  have h1 := (hb.block w1.heap.size (by omega)).trans (heap_alloc_new w1 _)
  rw [cell_of_row wr _ k _ _ _ h1, ex_at k h]
  match k, h with
  | 0, _ => rfl
  | 1, _ => rfl
  | 2, _ => rfl
  | 3, _ => rfl
  | 4, _ => rfl
  | 5, _ => rfl
  | 6, _ => rfl
theorem ex_kinds {w : World} {ad : Addr} (h : Reads w (some ad) (iCells (exToks.map intTok))) : w.cell? ad = some (.int .i64 1) ∧ w.cell? ⟨ad.block, ad.off + 15, none⟩ = some (.int .i64 2) ∧ w.cell? ⟨ad.block, ad.off + 12, none⟩ = some (.int .i64 3) :=
  ⟨by have := (h.tok 0 (by decide)).1; rwa [show ad.add (0 * 3) = ad by simp [Addr.add]] at this, by have := (h.tok 5 (by decide)).1; rwa [show ad.add (5 * 3) = ⟨ad.block, ad.off + 15, none⟩ by simp [Addr.add]] at this, by have := (h.tok 4 (by decide)).1; rwa [show ad.add (4 * 3) = ⟨ad.block, ad.off + 12, none⟩ by simp [Addr.add]] at this⟩
theorem own_some {w : World} {base : Nat} {e : TypeId} {size n : Nat} {v : Value} {xs : List Value} (h : w.ownsRow base e size v n xs) (h0 : 0 < n) : ∃ ad c, v = .slice (some ad) n c ∧ n ≤ c ∧ Reads w (some ad) xs := by
  rcases h.2 with ⟨hv, h0⟩ | ⟨g, cap, cur, hv, hb, r⟩
  · omega
  · exact ⟨⟨g, 0, none⟩, cap, hv, r.2.1, .inr ⟨_, rfl, fun j u hu => h.cells (g := g) (by rw [hv]; rfl) j u hu⟩⟩
theorem ex_reads {w1 wr : World} {A : Option Addr} {cs : List Value} (h : Reads w1 A cs) {o : Obj} (hb : Below (w1.heap.size + 1) (w1.alloc o) wr) : Reads wr A cs :=
  (h.below ((Below.refl _ _).alloc (Nat.le_refl _) o)).below (by simpa using hb)
set_option maxHeartbeats 1000000 in
set_option maxRecDepth 100000 in
theorem alive_any (w : World) : Calls Tryd.prog 13 #[] w fun e w' => e = .returned (.bool true) ∧ Below w.heap.size w w' := by
  have hr := read_any exText (by decide) w
  unfold ReadPost at hr
  rw [ex_read] at hr
  have HR := Lib.hid hr; clear hr
  have hw := fun (A : Option Addr) (c : Nat) (W : World) (hR : Reads W A (iCells (exToks.map intTok))) => write_any (exToks.map intTok) (by decide) A c W hR (by decide)
  unfold WritePost at hw
  rw [ex_write] at hw
  have HW := Lib.hid hw; clear hw
  go_enter Tryd.func13, Tryd.ntmps13
  go_wp2_with fail
  refine HR.out.mono ?_
  rintro e w1 ⟨v, rfl, hown, hb1⟩
  obtain ⟨ad, cap, rfl, hcap, hrd⟩ := own_some hown (by decide)
  rw [← iCells_int] at hrd
  clear hown
  have HRD := Lib.hid hrd; clear hrd
  have HB1 := Lib.hid hb1; clear hb1
  rw [show exToks.length = 7 from rfl] at hcap ⊢
  go_wp2
  go_loopg [30] 7 (fun g v wr => ∃ k : Nat, k ≤ 7 ∧ g = 7 - k ∧ v = .int .i64 k ∧ Below (w1.heap.size + 1) (w1.alloc exWant) wr)
  case atStart => exact ⟨0, by omega, rfl, rfl, Below.refl _ _⟩
  case round =>
    obtain ⟨k, hk, rfl, rfl, hbel⟩ := hrel
    by_cases hlt : k < 7
    · obtain ⟨q0, q1, q2⟩ := (ex_reads HRD.out hbel).tok k hlt
      have qw := ex_cell w1 wr hbel k hlt
      have HBL := Lib.hid hbel; clear hbel
      generalize ((exToks.map intTok)[k]'hlt).1 = ta at q0
      generalize ((exToks.map intTok)[k]'hlt).2.1 = tb at q1
      generalize ((exToks.map intTok)[k]'hlt).2.2 = tc at q2 qw
      have hkw : w1.heap.size < wr.heap.size := by have := HBL.out.size; simp at this; omega
      have qn := heap_alloc_new wr (.cells #[.int .i64 ta, .string tb, .int .i64 tc] 32)
      have qn2 := cell_of_row _ _ 2 _ _ _ qn
      have qw2 : (wr.alloc (.cells #[.int .i64 ta, .string tb, .int .i64 tc] 32)).cell? ⟨w1.heap.size, k, none⟩ = some (.int .i64 tc) := (((Below.refl wr.heap.size wr).alloc (Nat.le_refl _) _).cell hkw).trans qw
      clear qn
      go_wp2
      go_quiet (fail)
      try go_wp2
      go_roundg (7 - (k + 1))
      case measure => omega
      case rel => exact ⟨k + 1, by omega, rfl, by go_num, by first | exact HBL.out | exact HBL.out.alloc (by have := HBL.out.size; simpa using this) _ | exact below_drewN (HBL.out.alloc (by have := HBL.out.size; simpa using this) _) _⟩
    · obtain rfl : k = 7 := by omega
      have hrd := ex_reads HRD.out hbel
      have HBL := Lib.hid hbel; clear hbel
      have hw := HW.out _ cap wr hrd
      have HW1 := Lib.hid hw; clear hw
      have HRD1 := Lib.hid hrd; clear hrd HW
      go_wp2_with fail
      refine HW1.out.mono ?_
      rintro e w2 ⟨rfl, hb2⟩
      have hrd := HRD1.out.below hb2
      obtain ⟨q0, q5, q4⟩ := ex_kinds hrd
      clear hrd
      have HB2 := Lib.hid hb2; clear hb2
      go_wp2
      go_ret
      refine ⟨rfl, ?_⟩
      have h1 := HB1.out.size
      have h2 := HBL.out.size
      simp at h2
      exact (HB1.out.trans (((Below.refl w1.heap.size w1).alloc (Nat.le_refl _) exWant).mono h1)).trans ((HBL.out.mono (by omega)).trans (HB2.out.mono (by omega)))
end Go.Proofs.YtaccooeodimdaaaDoor
