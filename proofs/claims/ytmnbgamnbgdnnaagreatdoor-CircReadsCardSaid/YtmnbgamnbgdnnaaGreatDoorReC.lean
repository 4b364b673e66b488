/- Contracts of the reference's parts and values. -/
import Derived.Test.YtmnbgamnbgdnnaaGreatDoorReB
namespace Go.Proofs.YtmnbgamnbgdnnaaGreatDoor
open Go.RowKit

/-- The pieces so far, and past the end all of them. -/
def Cut1 (s : Bs) (k f : Nat) (P : List Bs) : Prop := (k ≤ s.length ∧ Cutting 32 s k f P) ∨ (k = s.length + 1 ∧ f ≤ k ∧ P.length ≤ k ∧ cut 32 s = P)
set_option maxHeartbeats 2000000 in
set_option maxRecDepth 100000 in
theorem parts_any (s : Bs) (hs : s.length ≤ 4194304) (w : World) : Calls Tryz.prog 93 #[.string ⟨s.toArray⟩] w fun e w' => ∃ v, e = .returned v ∧ WordsPost (cut 32 s) w v w' := by
  obtain ⟨x, rfl⟩ : ∃ x : ByteArray, s = x.data.toList := ⟨⟨s.toArray⟩, rfl⟩
  have hl := data_len x
  rw [str_eta]
  rw [hl] at hs
  have HL := Lib.hid hl; clear hl
  go_enter Tryz.func93, Tryz.ntmps93
  go_wp2
  go_loopg [3, 4, 5] (x.size + 1) (fun g v fr i wr => ∃ (k f : Nat) (P : List Bs), k ≤ x.size + 1 ∧ f ≤ k ∧ P.length ≤ k ∧ g = x.size + 1 - k ∧ i = .int .i64 k ∧ fr = .int .i64 f ∧ Hid (Cut1 x.data.toList k f P) ∧ wr.ownsRow w.heap.size 9 1 v P.length (sCells P) ∧ Below w.heap.size w wr)
  case atStart => exact ⟨0, 0, [], Nat.zero_le _, Nat.zero_le _, Nat.zero_le _, rfl, rfl, rfl, Lib.hid (.inl ⟨Nat.zero_le _, Cutting.start _ _⟩), World.ownsRow_nil _ _ _ _, Below.refl _ _⟩
  case round =>
    obtain ⟨k, f, P, hk, hf, hP, rfl, rfl, rfl, hcut, hown, hbel⟩ := hrel
    have HO := Lib.hid hown; clear hown
    have HB := Lib.hid hbel; clear hbel
    have hszr := HB.out.size
    by_cases hlt : k < x.size
    · have hlt' : k < x.data.toList.length := by rw [HL.out]; exact hlt
      have hle : k ≤ x.size := Nat.le_of_lt hlt
      have hbk : ((k : Int) == (x.size : Int)) = false := by rw [beq_eq_false_iff_ne]; omega
      have hcut' : Cutting 32 x.data.toList k f P := by
        rcases hcut.out with h | h
        · exact h.2
        · have := h.1; have h6 := HL.out; omega
      by_cases hc : x[k] = 32
      · have HC : Hid (Cut1 x.data.toList (k + 1) (k + 1) (P ++ [(x.data.toList.take k).drop f])) := Lib.hid (.inl ⟨by omega, hcut'.piece hlt' hc⟩)
        have hb : ((x[k].toNat : Int) == 32) = true := by rw [hc]; rfl
        clear hcut hcut' hc
        go_wp2_with (at_builtin; refine app_cells w.heap.size rfl _ _ 94 9 _ 1 16 rfl Tryz.underlying94 infoStr rfl (by decide) (by decide) u3 P.length _ [.string (x.extract f k)] rfl _ rfl rfl rfl (by intro u hu; simp at hu; subst hu; rfl) HO.out (by omega) (by omega) ?_; intro v3 w3 hown3 hg3; have HO3 := Lib.hid hown3; clear hown3; have HG3 := Lib.hid hg3; clear hg3)
        go_roundg (x.size + 1 - (k + 1))
        case measure => omega
        case rel => exact ⟨k + 1, k + 1, P ++ [(x.data.toList.take k).drop f], by omega, Nat.le_refl _, by simp; omega, rfl, by go_num, by go_num, HC, by rw [sCells_snoc, List.length_append, ← cut_eq]; exact HO3.out, HB.out.grown HG3.out HB.out.size (fun q hq => (HO.out.lt q hq).1)⟩
      · have HC : Hid (Cut1 x.data.toList (k + 1) f P) := Lib.hid (.inl ⟨by omega, hcut'.go hlt' hc⟩)
        have hb : ((x[k].toNat : Int) == 32) = false := by
          rw [beq_eq_false_iff_ne]
          exact fun e => hc (UInt8.toNat_inj.1 (by simp; omega))
        have hb2 : ¬ (x[k].toNat : Int) = 32 := by simpa using hb
        clear hcut hcut' hc
        go_wp2
        go_roundg (x.size + 1 - (k + 1))
        case measure => omega
        case rel => exact ⟨k + 1, f, P, by omega, by omega, by omega, rfl, by go_num, rfl, HC, HO.out, HB.out⟩
    · by_cases hke : k = x.size
      · subst hke
        have hcut' : cut 32 x.data.toList = P ++ [x.data.toList.drop f] := by
          rcases hcut.out with h | h
          · have h2 := h.2
            rw [← HL.out] at h2
            exact h2.last
          · have := h.1; have h6 := HL.out; omega
        have HC : Hid (Cut1 x.data.toList (x.size + 1) (x.size + 1) (P ++ [(x.data.toList.take x.size).drop f])) := Lib.hid (.inr ⟨by have h6 := HL.out; omega, Nat.le_refl _, by simp; omega, by rw [hcut', ← HL.out, List.take_length]⟩)
        clear hcut hcut'
        go_wp2_with (at_builtin; refine app_cells w.heap.size rfl _ _ 94 9 _ 1 16 rfl Tryz.underlying94 infoStr rfl (by decide) (by decide) u3 P.length _ [.string (x.extract f x.size)] rfl _ rfl rfl rfl (by intro u hu; simp at hu; subst hu; rfl) HO.out (by omega) (by omega) ?_; intro v3 w3 hown3 hg3; have HO3 := Lib.hid hown3; clear hown3; have HG3 := Lib.hid hg3; clear hg3)
        go_roundg (x.size + 1 - (x.size + 1))
        case measure => omega
        case rel => exact ⟨x.size + 1, x.size + 1, P ++ [(x.data.toList.take x.size).drop f], by omega, Nat.le_refl _, by simp; omega, rfl, by go_num, by go_num, HC, by rw [sCells_snoc, List.length_append, ← cut_eq]; exact HO3.out, HB.out.grown HG3.out HB.out.size (fun q hq => (HO.out.lt q hq).1)⟩
      · obtain rfl : k = x.size + 1 := by omega
        have hcut' : cut 32 x.data.toList = P := by
          rcases hcut.out with h | h
          · have := h.1; have h6 := HL.out; omega
          · exact h.2.2.2
        have HC := Lib.hid hcut'
        have hlt2 : ¬ ((x.size : Int) + 1 ≤ (x.size : Int)) := by omega
        clear hcut hcut' hke
        go_wp2
        go_ret
        refine ⟨u3, rfl, ?_⟩
        rw [HC.out]
        exact words_own HO.out HB.out
/-- Where the words behind the first one lie, by the room that is left. -/
def behind (g c : Nat) : Addr := if c = 1 then ⟨g, 0, none⟩ else ⟨g, 1, none⟩
theorem run_behind (g n c : Nat) (h : n + 1 ≤ c) (W : World) : (Instr.sliceAt 94 (.slice (some ⟨g, 0, none⟩) (n + 1) c) (some (.int .i64 1)) none none).run Tryz.prog W = .ok (.slice (some (behind g c)) n (c - 1)) W := by
  have hu : Tryz.prog.underlying 94 = some (.slice (Tryz.prog.elem 94)) := by kernel_rfl
  have hz : ∀ W, (sizeOf (Tryz.prog.elem 94)).run Tryz.prog W = .ok 1 W := fun W => by
    have : Tryz.prog.elem 94 = 9 := by kernel_rfl
    rw [this]
    exact Tryz.sizeOf9 W
  rw [run_sliceAt_slice (h := hu), run_slice_l (ht := hu) (h0 := by omega) (h1 := by omega), hz]
  simp only [Result.andThen, sliced, behind, Option.map]
  by_cases hc : c = 1
  · subst hc
    obtain rfl : n = 0 := by omega
    rfl
  · rw [if_neg (by omega), if_neg hc]
    rfl
theorem words_behind {w : World} {g c : Nat} {L : List Bs} {h : Bs} {t : List Bs} (hL : L = h :: t) (hc : L.length ≤ c) (hw : ∀ k (h : k < L.length), w.cell? ⟨g, k, none⟩ = some (.string ⟨L[k].toArray⟩)) : Words w (behind g c) t := by
  subst hL
  intro k hk
  simp only [List.length_cons] at hc
  have e : (behind g c).add k = ⟨g, k + 1, none⟩ := by
    unfold behind
    rw [if_neg (by omega)]
    unfold Addr.add; split <;> simp_all <;> omega
  rw [e, hw (k + 1) (by simpa using hk)]
  rfl
/-- A row of words, new in memory, with its first word and the others. -/
def HeadPost (h : Bs) (t : List Bs) (w : World) (e : Ending) (w' : World) : Prop :=
  ∃ g c, e = .returned (.slice (some ⟨g, 0, none⟩) (t.length + 1) c) ∧ t.length + 1 ≤ c ∧ w'.cell? ⟨g, 0, none⟩ = some (.string ⟨h.toArray⟩) ∧ Words w' (behind g c) t ∧ Below w.heap.size w w'
theorem head_of {h : Bs} {t : List Bs} {w : World} {v : Value} {w' : World} (k : WordsPost (h :: t) w v w') : HeadPost h t w (.returned v) w' := by
  obtain ⟨hb, A, c, rfl, hc, hw⟩ := k
  obtain ⟨g, rfl, h0⟩ := hw 0 (by simp)
  exact ⟨g, c, rfl, hc, h0, words_behind rfl hc (fun k hk => by obtain ⟨g2, e2, h2⟩ := hw k hk; cases e2; exact h2), hb⟩
set_option maxHeartbeats 2000000 in
set_option maxRecDepth 100000 in
theorem rwords_any (l : List Bs) (hl : l.length ≤ 17592186044416) (hs : ∀ x ∈ l, x.length ≤ 281474976710656) (ad : Addr) (c : Nat) (w : World) (hW : Words w ad l) :
    Calls Tryz.prog 95 #[.slice (some ad) l.length c] w (NumsPost (allOf valOf l) w) := by
  have HW := Lib.hid hW; clear hW
  have HS := Lib.hid hs; clear hs
  go_enter Tryz.func95, Tryz.ntmps95
  go_wp2
  go_loopg [4, 11] l.length (fun g v i wr => ∃ (k : Nat) (ns : List Nat), k ≤ l.length ∧ g = l.length - k ∧ i = .int .i64 k ∧ Hid (allOf valOf (l.take k) = some ns) ∧ wr.ownsRow w.heap.size 3 1 v k (iCells (ns.map Int.ofNat)) ∧ Below w.heap.size w wr)
  case atStart => exact ⟨0, [], Nat.zero_le _, rfl, rfl, rfl, World.ownsRow_nil _ _ _ _, Below.refl _ _⟩
  case round =>
    obtain ⟨k, ns, hk, rfl, rfl, hns, hown, hbel⟩ := hrel
    have HO := Lib.hid hown; clear hown
    have HB := Lib.hid hbel; clear hbel
    have hszr := HB.out.size
    by_cases hlt : k < l.length
    · have q0 := (HW.out.below HB.out) k hlt
      have hx := HS.out _ (List.getElem_mem hlt)
      cases hv : valOf l[k] with
      | none =>
        have HN := Lib.hid (allOf_none hlt hv)
        have HC := Lib.hid (rval_none _ hv hx wr)
        clear hv hx hns HO
        generalize (⟨l[k].toArray⟩ : ByteArray) = S at *
        go_wp2_with (first | (go_at_call 94; refine HC.out.mono ?_; rintro e w1 ⟨rfl, hb1⟩; have HB1 := Lib.hid hb1; clear hb1))
        go_ret2
        unfold NumsPost
        rw [HN.out]
        exact ⟨below_alive HB.out HB1.out, rfl⟩
      | some x =>
        have HN := Lib.hid (allOf_step hlt hns.out hv)
        have HC := Lib.hid (rval_some _ x hv wr)
        clear hv hx
        generalize (⟨l[k].toArray⟩ : ByteArray) = S at *
        go_wp2_with (first | (go_at_call 94; refine HC.out.mono ?_; rintro e w1 ⟨rfl, hb1⟩; have hsz1 := hb1.size; have HO1 := Lib.hid (own_below HO.out hb1); have HB1 := Lib.hid (below_alive HB.out hb1); clear hb1) | (at_builtin; refine app_cells w.heap.size rfl _ _ 61 3 _ 1 8 rfl Tryz.underlying61 infoI rfl (by decide) (by decide) u4 k _ [.int .i64 x] rfl _ rfl rfl rfl (by intro u hu; simp at hu; subst hu; rfl) HO1.out (by omega) (by omega) ?_; intro v3 w3 hown3 hg3; have HO3 := Lib.hid hown3; clear hown3; have HG3 := Lib.hid hg3; clear hg3))
        go_roundg (l.length - (k + 1))
        case measure => omega
        case rel => exact ⟨k + 1, ns ++ [x], by omega, rfl, by go_num, HN.out, by rw [iCells_snoc]; exact HO3.out, HB1.out.grown HG3.out HB1.out.size (fun q hq => (HO1.out.lt q hq).1)⟩
    · obtain rfl : k = l.length := by omega
      have h := hns.out
      rw [List.take_length] at h
      have HN := Lib.hid h; clear h hns
      go_wp2
      go_ret2
      unfold NumsPost
      rw [HN.out]
      exact ⟨HB.out, _, rfl, by rw [allOf_len HN.out]; exact HO.out⟩
end Go.Proofs.YtmnbgamnbgdnnaaGreatDoor
