/- Contracts of the reference's lines and parts. -/
import Derived.Test.YtmnbgamnbgdnnaaGreatDoorReA
namespace Go.Proofs.YtmnbgamnbgdnnaaGreatDoor
open Go.RowKit

theorem cut_eq (x : ByteArray) (a b : Nat) : x.extract a b = ⟨((x.data.toList.take b).drop a).toArray⟩ := by
  apply ba_eq
  simp [List.drop_take]
theorem mid_succ (s : Bs) (i f : Nat) (h : i < s.length) (hf : f ≤ i) : (s.take (i + 1)).drop f = (s.take i).drop f ++ [s[i]] := by
  rw [List.take_succ_eq_append_getElem h, List.drop_append_of_le_length (by simp; omega)]
theorem drop_split (s : Bs) (i f : Nat) (h : i < s.length) (hf : f ≤ i) : s.drop f = (s.take i).drop f ++ s[i] :: s.drop (i + 1) := by
  conv => lhs; rw [← List.take_append_drop i s]
  rw [List.drop_append_of_le_length (by simp; omega), List.drop_eq_getElem_cons h]
/-- So far the pieces P, the next one begun at f. -/
def Cutting (b : UInt8) (s : Bs) (k f : Nat) (P : List Bs) : Prop := f ≤ k ∧ P.length ≤ k ∧ (∀ c ∈ (s.take k).drop f, c ≠ b) ∧ cut b s = P ++ cut b (s.drop f)
theorem Cutting.start (b : UInt8) (s : Bs) : Cutting b s 0 0 [] := ⟨Nat.le_refl _, Nat.le_refl _, by simp, by simp⟩
theorem Cutting.go {b : UInt8} {s : Bs} {k f : Nat} {P : List Bs} (h : Cutting b s k f P) (hk : k < s.length) (hb : s[k] ≠ b) : Cutting b s (k + 1) f P := by
  obtain ⟨h1, h2, h3, h4⟩ := h
  refine ⟨by omega, by omega, ?_, h4⟩
  rw [mid_succ s k f hk h1]
  intro c hc
  rcases List.mem_append.1 hc with e | e
  · exact h3 c e
  · rw [List.mem_singleton.1 e]; exact hb
theorem Cutting.piece {b : UInt8} {s : Bs} {k f : Nat} {P : List Bs} (h : Cutting b s k f P) (hk : k < s.length) (hb : s[k] = b) : Cutting b s (k + 1) (k + 1) (P ++ [(s.take k).drop f]) := by
  obtain ⟨h1, h2, h3, h4⟩ := h
  refine ⟨Nat.le_refl _, by simp; omega, ?_, ?_⟩
  · intro c hc
    rw [List.drop_eq_nil_of_le (by simp; omega)] at hc
    cases hc
  · rw [h4, drop_split s k f hk h1, hb, cut_piece b _ _ h3, List.append_assoc]
    rfl
theorem Cutting.last {b : UInt8} {s : Bs} {f : Nat} {P : List Bs} (h : Cutting b s s.length f P) : cut b s = P ++ [s.drop f] := by
  obtain ⟨h1, h2, h3, h4⟩ := h
  rw [List.take_length] at h3
  rw [h4, cut_last b _ h3]
theorem sCells_len (P : List Bs) : (sCells P).length = P.length := by simp [sCells]
/-- A row of words, new in memory. -/
def WordsPost (L : List Bs) (w : World) (v : Value) (w' : World) : Prop :=
  Below w.heap.size w w' ∧ ∃ A c, v = .slice A L.length c ∧ L.length ≤ c ∧ (∀ k (h : k < L.length), ∃ g, A = some ⟨g, 0, none⟩ ∧ w'.cell? ⟨g, k, none⟩ = some (.string ⟨L[k].toArray⟩))
theorem words_own {w w' : World} {v : Value} {L : List Bs} (h : w'.ownsRow w.heap.size 9 1 v L.length (sCells L)) (hb : Below w.heap.size w w') : WordsPost L w v w' := by
  obtain ⟨_, h2⟩ := h
  rcases h2 with ⟨rfl, h3⟩ | ⟨g, cap, cur, rfl, _, hg, h3, _, _, ht⟩
  · refine ⟨hb, none, 0, by rw [h3], by omega, fun k hk => by omega⟩
  · refine ⟨hb, some ⟨g, 0, none⟩, cap, rfl, h3, fun k hk => ⟨g, rfl, ?_⟩⟩
    have h5 : cur[k]? = some (.string ⟨L[k].toArray⟩) := by
      have h6 : (sCells L)[k]? = some (.string ⟨L[k].toArray⟩) := by simp [sCells, List.getElem?_eq_getElem hk]
      rw [← ht, List.getElem?_take] at h6
      split at h6
      · rw [← Array.getElem?_toList]; exact h6
      · cases h6
    simp [World.cell?, hg, h5]
theorem last_snoc (P : List Bs) (x : Bs) : (P ++ [x]).getLastD [] = x := by
  rw [List.getLastD_eq_getLast?, List.getLast?_append]
  rfl
set_option maxHeartbeats 2000000 in
set_option maxRecDepth 100000 in
theorem lines_any (s : Bs) (hs : s.length ≤ 4194304) (w : World) : Calls Tryz.prog 66 #[.string ⟨s.toArray⟩] w fun e w' => ∃ v, e = .returned (.tuple #[v, .string ⟨((cut 10 s).getLastD []).toArray⟩]) ∧ WordsPost (cut 10 s).dropLast w v w' := by
  obtain ⟨x, rfl⟩ : ∃ x : ByteArray, s = x.data.toList := ⟨⟨s.toArray⟩, rfl⟩
  have hl := data_len x
  rw [str_eta]
  rw [hl] at hs
  have HL := Lib.hid hl; clear hl
  go_enter Tryz.func66, Tryz.ntmps66
  go_wp2
  go_loopg [4, 5, 9] x.size (fun g v fr i wr => ∃ (k f : Nat) (P : List Bs), k ≤ x.size ∧ f ≤ k ∧ P.length ≤ k ∧ g = x.size - k ∧ i = .int .i64 k ∧ fr = .int .i64 f ∧ Hid (Cutting 10 x.data.toList k f P) ∧ wr.ownsRow w.heap.size 9 1 v P.length (sCells P) ∧ Below w.heap.size w wr)
  case atStart => exact ⟨0, 0, [], Nat.zero_le _, Nat.zero_le _, Nat.zero_le _, rfl, rfl, rfl, Lib.hid (Cutting.start _ _), World.ownsRow_nil _ _ _ _, Below.refl _ _⟩
  case round =>
    obtain ⟨k, f, P, hk, hf, hP, rfl, rfl, rfl, hcut, hown, hbel⟩ := hrel
    have HO := Lib.hid hown; clear hown
    have HB := Lib.hid hbel; clear hbel
    have hszr := HB.out.size
    by_cases hlt : k < x.size
    · have hlt' : k < x.data.toList.length := by rw [HL.out]; exact hlt
      by_cases hc : x[k] = 10
      · have HC := Lib.hid (hcut.out.piece hlt' hc)
        have hb : ((x[k].toNat : Int) == 10) = true := by rw [hc]; rfl
        clear hcut hc
        go_wp2_with (at_builtin; go_loud (refine app_cells w.heap.size rfl _ _ 94 9 _ 1 16 rfl Tryz.underlying94 infoStr rfl (by decide) (by decide) u4 P.length _ [.string (x.extract f k)] rfl _ rfl rfl rfl (by intro u hu; simp at hu; subst hu; rfl) HO.out (by omega) (by omega) ?_; intro v3 w3 hown3 hg3; have HO3 := Lib.hid hown3; clear hown3; have HG3 := Lib.hid hg3; clear hg3))
        go_roundg (x.size - (k + 1))
        case measure => omega
        case rel => exact ⟨k + 1, k + 1, P ++ [(x.data.toList.take k).drop f], by omega, Nat.le_refl _, by simp; omega, rfl, by go_num, by go_num, HC, by rw [sCells_snoc, List.length_append, ← cut_eq]; exact HO3.out, HB.out.grown HG3.out HB.out.size (fun q hq => (HO.out.lt q hq).1)⟩
      · have HC := Lib.hid (hcut.out.go hlt' hc)
        have hb : ((x[k].toNat : Int) == 10) = false := by
          rw [beq_eq_false_iff_ne]
          exact fun e => hc (UInt8.toNat_inj.1 (by simp; omega))
        have hb2 : ¬ (x[k].toNat : Int) = 10 := by simpa using hb
        clear hcut hc
        go_wp2
        go_roundg (x.size - (k + 1))
        case measure => omega
        case rel => exact ⟨k + 1, f, P, by omega, by omega, by omega, rfl, by go_num, rfl, HC, HO.out, HB.out⟩
    · obtain rfl : k = x.size := by omega
      have hcut' := hcut.out
      rw [← HL.out] at hcut'
      have HC := Lib.hid hcut'.last
      have hE : x.extract f x.size = ⟨((cut 10 x.data.toList).getLastD []).toArray⟩ := by
        rw [HC.out, cut_eq, ← HL.out, List.take_length, last_snoc]
      have HE := Lib.hid hE; clear hE
      clear hcut hcut'
      go_wp2
      go_quiet (fail)
      all_goals (try go_wp2)
      all_goals go_ret2
      all_goals refine ⟨u4, ?_, ?_⟩
      all_goals first
        | exact congrArg (fun z => Ending.returned (.tuple #[u4, .string z])) HE.out
        | (rw [HC.out, List.dropLast_concat]; exact words_own (own_below HO.out (below_drewN (Below.refl _ _) _)) (below_drewN HB.out _))
end Go.Proofs.YtmnbgamnbgdnnaaGreatDoor
