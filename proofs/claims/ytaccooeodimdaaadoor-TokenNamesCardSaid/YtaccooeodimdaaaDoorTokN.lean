/- Contracts of the reference's word: signs; and the whole. -/
import Derived.Test.YtaccooeodimdaaaDoorTokM
namespace Go.Proofs.YtaccooeodimdaaaDoor
open Go.RowKit

theorem index_mem (l : List UInt8) (c : UInt8) : (Lib.indexByte l c = -1 ∧ c ∉ l) ∨ (0 ≤ Lib.indexByte l c ∧ c ∈ l) := by
  induction l with
  | nil => exact .inl ⟨rfl, by simp⟩
  | cons b r ih =>
    unfold Lib.indexByte
    by_cases h : b = c
    · right; subst h; simp
    · rw [if_neg (by simpa using h)]
      rcases ih with ⟨h1, h2⟩ | ⟨h1, h2⟩
      · left; rw [h1]; simp; exact ⟨fun h3 => h h3.symm, h2⟩
      · right
        rw [if_neg (by simp; omega)]
        exact ⟨by omega, by simp [h2]⟩
theorem isSign_mem (b : UInt8) : isSign (b.toNat : Int) = true ↔ b ∈ signs1 := by
  have hb : ((b.toNat : Int)).toNat.toUInt8 = b := by simp
  unfold isSign
  rw [hb]
  rcases index_mem signs1 b with ⟨h1, h2⟩ | ⟨h1, h2⟩
  · rw [h1]; simp [h2]
  · simp [h1, h2]
theorem rsigns_len : rsigns.length = 19 := rfl
theorem rsigns_at (k : Nat) (h : k < 19) (h1 : 1 ≤ k) : ∃ b : UInt8, rsigns[k]'(by rw [rsigns_len]; exact h) = ⟨#[b]⟩ ∧ b ∈ signs1 := by
  have h3 : k = 1 ∨ k = 2 ∨ k = 3 ∨ k = 4 ∨ k = 5 ∨ k = 6 ∨ k = 7 ∨ k = 8 ∨ k = 9 ∨ k = 10 ∨ k = 11 ∨ k = 12 ∨ k = 13 ∨ k = 14 ∨ k = 15 ∨ k = 16 ∨ k = 17 ∨ k = 18 := by omega
  rcases h3 with rfl | rfl | rfl | rfl | rfl | rfl | rfl | rfl | rfl | rfl | rfl | rfl | rfl | rfl | rfl | rfl | rfl | rfl
  · exact ⟨_, rfl, by decide⟩
  · exact ⟨_, rfl, by decide⟩
  · exact ⟨_, rfl, by decide⟩
  · exact ⟨_, rfl, by decide⟩
  · exact ⟨_, rfl, by decide⟩
  · exact ⟨_, rfl, by decide⟩
  · exact ⟨_, rfl, by decide⟩
  · exact ⟨_, rfl, by decide⟩
  · exact ⟨_, rfl, by decide⟩
  · exact ⟨_, rfl, by decide⟩
  · exact ⟨_, rfl, by decide⟩
  · exact ⟨_, rfl, by decide⟩
  · exact ⟨_, rfl, by decide⟩
  · exact ⟨_, rfl, by decide⟩
  · exact ⟨_, rfl, by decide⟩
  · exact ⟨_, rfl, by decide⟩
  · exact ⟨_, rfl, by decide⟩
  · exact ⟨_, rfl, by decide⟩
theorem signs_in (b : UInt8) (h : b ∈ signs1) : ∃ k, ∃ h2 : k < 19, 1 ≤ k ∧ rsigns[k]'(by rw [rsigns_len]; exact h2) = ⟨#[b]⟩ := by
  simp only [signs1, List.mem_cons, List.not_mem_nil, or_false] at h
  rcases h with rfl | rfl | rfl | rfl | rfl | rfl | rfl | rfl | rfl | rfl | rfl | rfl | rfl | rfl | rfl | rfl | rfl | rfl
  · exact ⟨1, by decide, by decide, rfl⟩
  · exact ⟨2, by decide, by decide, rfl⟩
  · exact ⟨3, by decide, by decide, rfl⟩
  · exact ⟨4, by decide, by decide, rfl⟩
  · exact ⟨5, by decide, by decide, rfl⟩
  · exact ⟨6, by decide, by decide, rfl⟩
  · exact ⟨7, by decide, by decide, rfl⟩
  · exact ⟨8, by decide, by decide, rfl⟩
  · exact ⟨9, by decide, by decide, rfl⟩
  · exact ⟨10, by decide, by decide, rfl⟩
  · exact ⟨11, by decide, by decide, rfl⟩
  · exact ⟨12, by decide, by decide, rfl⟩
  · exact ⟨13, by decide, by decide, rfl⟩
  · exact ⟨14, by decide, by decide, rfl⟩
  · exact ⟨15, by decide, by decide, rfl⟩
  · exact ⟨16, by decide, by decide, rfl⟩
  · exact ⟨17, by decide, by decide, rfl⟩
  · exact ⟨18, by decide, by decide, rfl⟩
theorem rsigns_small (k : Nat) (h : k < 19) : (rsigns[k]'(by rw [rsigns_len]; exact h)).size ≤ 2 := by
  rcases Nat.eq_zero_or_pos k with rfl | h1
  · show 2 ≤ 2; omega
  · obtain ⟨b, hb, _⟩ := rsigns_at k h h1
    rw [hb]; show 1 ≤ 2; omega

theorem match_iff (s x : ByteArray) (i : Nat) (_h : i + x.size ≤ s.size) : ((s.extract i (i + x.size)).toList == x.toList) = Lib.hasPrefix (s.data.toList.drop i) x.data.toList := by
  rw [ByteArray.toList_eq, ByteArray.toList_eq, Lib.extract_data, show i + x.size - i = x.data.toList.length by rw [data_len]; omega, Lib.hasPrefix, Bool.eq_iff_iff, beq_iff_eq, List.isPrefixOf_iff_prefix, List.prefix_iff_eq_take]
  exact ⟨fun h => h.symm, fun h => h.symm⟩
theorem match_no (s x : ByteArray) (i : Nat) (h : ¬ i + x.size ≤ s.size) (hi : i ≤ s.size) : Lib.hasPrefix (s.data.toList.drop i) x.data.toList = false := by
  rw [Bool.eq_false_iff]
  intro h2
  have h3 : x.data.toList <+: s.data.toList.drop i := by simpa [Lib.hasPrefix] using h2
  have := h3.length_le
  rw [List.length_drop, data_len, data_len] at this
  omega
def NoMatch (s : ByteArray) (i k : Nat) : Prop := ∀ j (_ : j < k) (h2 : j < 19), Lib.hasPrefix (s.data.toList.drop i) (rsigns[j]'(by rw [rsigns_len]; exact h2)).data.toList = false
theorem raw_eq (s : ByteArray) (i : Nat) (hi : i < s.size) (hL : isLetter (s[i].toNat : Int) = false) (hD : isDigit (s[i].toNat : Int) = false) (hE : Lib.hasPrefix (s.data.toList.drop i) [61, 61] = true) : rawTok s i = some (3, ⟨#[61, 61]⟩, i + 2) := by
  unfold rawTok; rw [getD_i hi]; simp only [*, if_true, if_false, Bool.false_eq_true]
theorem raw_sign (s : ByteArray) (i : Nat) (hi : i < s.size) (hL : isLetter (s[i].toNat : Int) = false) (hD : isDigit (s[i].toNat : Int) = false) (hE : Lib.hasPrefix (s.data.toList.drop i) [61, 61] = false) (hS : isSign (s[i].toNat : Int) = true) : rawTok s i = some (3, s.extract i (i + 1), i + 1) := by
  unfold rawTok; rw [getD_i hi]; simp only [*, if_true, if_false, Bool.false_eq_true]
theorem raw_none (s : ByteArray) (i : Nat) (hi : i < s.size) (hL : isLetter (s[i].toNat : Int) = false) (hD : isDigit (s[i].toNat : Int) = false) (hE : Lib.hasPrefix (s.data.toList.drop i) [61, 61] = false) (hS : isSign (s[i].toNat : Int) = false) : rawTok s i = none := by
  unfold rawTok; rw [getD_i hi]; simp only [*, if_false, Bool.false_eq_true]
theorem chk_next {k : Int} {l : List UInt8} {i : Nat} (h : chkTok k l i = 0) : nextErr k l i = 0 := (err_good h).symm
theorem bytes_ext {a b : ByteArray} (h : a.data.toList = b.data.toList) : a = b := by
  cases a; cases b; simp at h; rw [h]

theorem post_sign_ok {s : ByteArray} {i : Nat} {w w' : World} (hi : i < s.size) (hL : isLetter (s[i].toNat : Int) = false) (hD : isDigit (s[i].toNat : Int) = false) {k : Nat} (hk : k < 19) (hno : NoMatch s i k) (x : ByteArray) (hx : rsigns[k]'(by rw [rsigns_len]; exact hk) = x) (hm : Lib.hasPrefix (s.data.toList.drop i) x.data.toList = true) (hb : Below w.heap.size w w') :
    WordPost s i w (.returned (.tuple #[.agg #[.int .i64 3, .string x, .int .i64 i], .int .i64 0])) w' := by
  rcases Nat.eq_zero_or_pos k with rfl | h1
  · subst hx
    exact ⟨3, _, i, 0, rfl, hb, .inr (.inl ⟨_, raw_eq s i hi hL hD hm, chk_next (chk_eq i), rfl, rfl, rfl⟩)⟩
  · obtain ⟨b, hbx, hbs⟩ := rsigns_at k hk h1
    rw [hbx] at hx
    subst hx
    have hE : Lib.hasPrefix (s.data.toList.drop i) [61, 61] = false := hno 0 h1 (by decide)
    have hlt : i < s.data.toList.length := by rw [data_len]; exact hi
    have hsb : s[i] = b := by
      rw [List.drop_eq_getElem_cons hlt] at hm
      rw [Lib.hasPrefix, show (⟨#[b]⟩ : ByteArray).data.toList = [b] from rfl, List.isPrefixOf_cons_cons, Bool.and_eq_true] at hm
      exact (beq_iff_eq.1 hm.1).symm
    have hS : isSign (s[i].toNat : Int) = true := by rw [hsb]; exact (isSign_mem b).2 hbs
    have ht : s.extract i (i + 1) = ⟨#[b]⟩ := by
      apply bytes_ext
      rw [Lib.extract_data, List.drop_eq_getElem_cons hlt, show i + 1 - i = 1 by omega, str_get s i hi, hsb]
      rfl
    have hr := raw_sign s i hi hL hD hE hS
    have hc := chk_sign1 s i hi hS
    rw [ht] at hr hc
    exact ⟨3, _, i, 0, rfl, hb, .inr (.inl ⟨_, hr, chk_next hc, rfl, rfl, rfl⟩)⟩
theorem post_sign_none {s : ByteArray} {i : Nat} {w w' : World} (hi : i < s.size) (hL : isLetter (s[i].toNat : Int) = false) (hD : isDigit (s[i].toNat : Int) = false) (hno : NoMatch s i 19) (hb : Below w.heap.size w w') :
    WordPost s i w (.returned (.tuple #[.agg #[.int .i64 0, .string ⟨#[]⟩, .int .i64 0], .int .i64 4])) w' := by
  have hE : Lib.hasPrefix (s.data.toList.drop i) [61, 61] = false := hno 0 (by decide) (by decide)
  have hlt : i < s.data.toList.length := by rw [data_len]; exact hi
  have hS : isSign (s[i].toNat : Int) = false := by
    rw [Bool.eq_false_iff]
    intro hS
    obtain ⟨k, hk, _, hx⟩ := signs_in _ ((isSign_mem _).1 hS)
    have h := hno k hk hk
    rw [hx, List.drop_eq_getElem_cons hlt, Lib.hasPrefix, show (⟨#[s[i]]⟩ : ByteArray).data.toList = [s[i]] from rfl, List.isPrefixOf_cons_cons, str_get s i hi] at h
    simp at h
  exact ⟨0, _, 0, 4, rfl, hb, .inl ⟨raw_none s i hi hL hD hE hS, rfl⟩⟩

theorem no_succ {s : ByteArray} {i k : Nat} (h : NoMatch s i k) (hk : k < 19) {x : ByteArray} (hx : rsigns[k]'(by rw [rsigns_len]; exact hk) = x) (hm : Lib.hasPrefix (s.data.toList.drop i) x.data.toList = false) : NoMatch s i (k + 1) := by
  intro j hj h2
  rcases Nat.lt_or_ge j k with h3 | h3
  · exact h j h3 h2
  · obtain rfl : j = k := by omega
    rw [hx]; exact hm
theorem below2 {w : World} {o1 o2 : Obj} : Below w.heap.size w ((w.alloc o1).alloc o2) := ((Below.refl _ _).alloc (Nat.le_refl _) _).alloc (by simp) _
theorem sign_cell (w : World) (o : Obj) (k : Nat) (hk : k < 19) : ((w.alloc o).alloc (.cells signCells 9)).cell? ⟨w.heap.size + 1, k, none⟩ = some (.string (rsigns[k]'(by rw [rsigns_len]; exact hk))) := by
  have h := heap_alloc_new (w.alloc o) (.cells signCells 9)
  rw [show (w.alloc o).heap.size = w.heap.size + 1 by simp] at h
  rw [cell_of_row _ _ _ _ _ _ h]
  simp [signCells, List.getElem?_eq_getElem (show k < rsigns.length by rw [rsigns_len]; exact hk)]

set_option maxHeartbeats 1000000 in
set_option maxRecDepth 100000 in
theorem rword_sign (s : ByteArray) (hs : s.size ≤ 9223372036854775800) (i : Nat) (hi : i < s.size) (w : World) (hL : isLetter (s[i].toNat : Int) = false) (hD : isDigit (s[i].toNat : Int) = false) : Calls Tryd.prog 29 #[.string s, .int .i64 i] w (WordPost s i w) := by
  have hlet := fun W => rletter_any (s[i].toNat : Int) W
  rw [hL] at hlet
  have HT := Lib.hid hlet; clear hlet
  have hdig := fun W => rdigit_any (s[i].toNat : Int) W
  rw [hD] at hdig
  have HG := Lib.hid hdig; clear hdig
  have HLET := Lib.hid hL; clear hL
  have HDIG := Lib.hid hD; clear hD
  go_enter Tryd.func29, Tryd.ntmps29
  go_wp2_with (first | (go_at_call 42; refine (HT.out _).mono ?_; rintro e w1 ⟨rfl, rfl⟩) | (go_at_call 38; refine (HG.out _).mono ?_; rintro e w1 ⟨rfl, rfl⟩) | (go_at_call 33; refine (rsigns_any _).mono ?_; rintro e w1 ⟨rfl, rfl⟩))
  go_loopg [89] 19 (fun g a wr => ∃ k : Nat, k ≤ 19 ∧ g = 19 - k ∧ a = .int .i64 k ∧ Hid (NoMatch s i k) ∧ (w.alloc (.cells #[.int .i64 0, .string ⟨#[]⟩, .int .i64 0] 32)).alloc (.cells signCells 9) = wr)
  case atStart => exact ⟨0, by omega, rfl, rfl, fun j h => by omega, rfl⟩
  case round =>
    obtain ⟨k, hk, rfl, rfl, hno, rfl⟩ := hrel
    by_cases hlt : k < 19
    · have hcell := sign_cell w (.cells #[.int .i64 0, .string ⟨#[]⟩, .int .i64 0] 32) k hlt
      have hsm := rsigns_small k hlt
      obtain ⟨x, hx⟩ : ∃ x, rsigns[k]'(by rw [rsigns_len]; exact hlt) = x := ⟨_, rfl⟩
      rw [hx] at hcell hsm
      have HX := Lib.hid hx; clear hx
      by_cases hroom : i + x.size ≤ s.size
      · have hr1 : (x.size : Int) ≤ (s.size : Int) - (i : Int) := by omega
        have hmi := match_iff s x i hroom
        rcases Bool.eq_false_or_eq_true (Lib.hasPrefix (s.data.toList.drop i) x.data.toList) with hm | hm
        · have heq : ((s.extract i (i + x.size)).toList == x.toList) = true := by rw [hmi, hm]
          have HM := Lib.hid hm; clear hm hmi
          go_wp2
          exact bodyPost_ret (v := .tuple #[.agg #[.int .i64 3, .string x, .int .i64 i], .int .i64 0]) (by simp [results, Tryd.results29, go_sem]) rfl (post_sign_ok hi HLET.out HDIG.out hlt hno.out x HX.out HM.out below2)
        · have heq : ((s.extract i (i + x.size)).toList == x.toList) = false := by rw [hmi, hm]
          have hn := no_succ hno.out hlt HX.out hm
          have HN := Lib.hid hn; clear hn hm hmi hno
          go_wp2
          go_roundg (19 - (k + 1))
          case measure => omega
          case rel => exact ⟨k + 1, by omega, rfl, by go_num, HN.out, rfl⟩
      · have hr1 : (s.size : Int) - (i : Int) < (x.size : Int) := by omega
        have hn := no_succ hno.out hlt HX.out (match_no s x i hroom (by omega))
        have HN := Lib.hid hn; clear hn hno
        go_wp2
        go_roundg (19 - (k + 1))
        case measure => omega
        case rel => exact ⟨k + 1, by omega, rfl, by go_num, HN.out, rfl⟩
    · obtain rfl : k = 19 := by omega
      go_wp2
      exact bodyPost_ret (v := .tuple #[.agg #[.int .i64 0, .string ⟨#[]⟩, .int .i64 0], .int .i64 4]) (by simp [results, Tryd.results29, go_sem]) rfl (post_sign_none hi HLET.out HDIG.out hno.out below2)
theorem rword_any (s : ByteArray) (hs : s.size ≤ 9223372036854775800) (i : Nat) (hi : i < s.size) (w : World) : Calls Tryd.prog 29 #[.string s, .int .i64 i] w (WordPost s i w) := by
  rcases Bool.eq_false_or_eq_true (isLetter (s[i].toNat : Int)) with hL | hL
  · exact rword_letter s (by omega) i hi w hL
  rcases Bool.eq_false_or_eq_true (isDigit (s[i].toNat : Int)) with hD | hD
  · exact rword_digit s (by omega) i hi w hL hD
  exact rword_sign s hs i hi w hL hD
end Go.Proofs.YtaccooeodimdaaaDoor
