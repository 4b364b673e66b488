/- Contracts and plain laws of chapter 12, merged: CirR CirS CirT. -/
import Derived.Test.YtmnbgamnbgdnnaaGreatDoorMc
import Derived.Test.YtmnbgamnbgdnnaaGreatDoorShelf
import Derived.Lib.AppendIntMem
import Derived.Lib.ItoaMem
import Derived.Lib.Slices
import Derived.Laws.IdiomStrings
import Derived.Deep.RegionHeld3
/- Contracts of strconv.FormatUint at base 10, strconv.Itoa and the reference's Digits and number. (The walk of FormatUint follows the kit's worked contracts of FormatInt and AppendUint, turned to this function.) -/
namespace Go.Proofs.YtmnbgamnbgdnnaaGreatDoor
open Go.RowKit Go.Sort

theorem data_len (s : ByteArray) : s.data.toList.length = s.size := by rw [Array.length_toList]; rfl
def PowTab (w : World) : Prop := Lib.TabIs Tryz.prog w "internal/strconv.uint64pow10" .u64 Lib.pow10Tab
theorem below_grow0 (w : World) (k : Nat) (os : Array Obj) : Below w.heap.size w (grow (w.drewN k) os) := Lib.below_grow w.heap.size w (Nat.le_refl _) k os
set_option maxHeartbeats 6400000 in
set_option maxRecDepth 100000 in
theorem fmtU_big (u : Nat) (hu : 100 ≤ u) (hu64 : u < 18446744073709551616) (w : World) (htab : PowTab w) :
    Calls Tryz.prog 102 #[.int .u64 u, .int .i64 10] w fun e w' => e = .returned (.string ⟨(Lib.decDigits u).toArray⟩) ∧ Below w.heap.size w w' := by
  have hu1 : 1 ≤ u := by omega
  have hnd20 : Lib.nDigits u ≤ 20 := by have := Lib.numDigits_eq u hu1 hu64; split at this <;> omega
  have hal : Tryz.prog.arrayLen 144 = 24 := by kernel_rfl
  have hsl : ∀ W, (Instr.sliceAt 144 (.pointer (some ⟨w.heap.size, 0, none⟩)) none (some (.int .i64 (Lib.nDigits u : Int))) none).run Tryz.prog W = .ok (.slice (some ⟨w.heap.size, 0, none⟩) (Lib.nDigits u) 24) W := fun W => by
    rw [run_sliceAt_array_h W 144 ⟨w.heap.size, 0, none⟩ (by kernel_rfl) .i64 (Lib.nDigits u : Int) (by omega) (by rw [hal]; omega)]
    go_simp
  have hH0 := Lib.holds_zero0 w 144 (Lib.nDigits u) (by omega)
  have hfmt := Tryz.internal_strconv_formatBase10 w.heap.size 0 24 u (Array.replicate (Lib.nDigits u) 0) (w.alloc (.cells Lib.zeros24 144)) hH0 (by rw [Array.size_replicate]; exact Lib.lt_pow_nDigits u) hu64 (by rw [Array.size_replicate]; omega)
  rw [Array.size_replicate] at hfmt
  have HH0 := Lib.hid hH0
  have HF := Lib.hid hfmt
  have iu : (100 : Int) ≤ (u : Int) := by omega
  have HT := Lib.hid htab
  clear hH0 hal hfmt htab
  go_enter Tryz.func102, Tryz.ntmps102
  go_wp2_with (go_at_call 111; refine (Tryz.internal_strconv_numDigits u hu1 hu64 _ (Lib.tabIs_alloc HT.out _)).mono ?_; rintro e w' ⟨rfl, rfl⟩)
  refine HF.out.mono ?_
  rintro e w' ⟨rfl, k, v', dk, rfl, hF⟩
  have hcv : (convert 83 9 (.slice (some ⟨w.heap.size, 0, none⟩) (Lib.nDigits u) 24)).run Tryz.prog ((putRow (fun (b : UInt8) => Value.int .u8 (b.toNat : Int)) (w.alloc (.cells Lib.zeros24 144)) w.heap.size 0 dk).drewN k) = .ok (.string ⟨(Lib.decDigits u).toArray⟩) ((putRow (fun (b : UInt8) => Value.int .u8 (b.toNat : Int)) (w.alloc (.cells Lib.zeros24 144)) w.heap.size 0 dk).drewN k) := by
    have h := run_convert_bytes_back (P := Tryz.prog) ((putRow (fun (b : UInt8) => Value.int .u8 (b.toNat : Int)) (w.alloc (.cells Lib.zeros24 144)) w.heap.size 0 dk).drewN k) 83 9 5 ⟨w.heap.size, 0, none⟩ 24 (Lib.decDigits u) Tryz.underlying83 Tryz.underlying5 Tryz.underlying9 (fun j hj => by
      rw [Lib.row_is_numeral hF j hj, Lib.add_plain, World.cell?_drewN]
      exact cell?_putRow (fun (b : UInt8) => Value.int .u8 (b.toNat : Int)) _ w.heap.size 0 _ dk HH0.out (by rw [hF.size, Array.size_replicate]) j (by rw [hF.size]; rw [Lib.decDigits_length] at hj; exact hj))
    rw [Lib.decDigits_length] at h
    exact h
  obtain ⟨os, eo⟩ := Lib.fin_at w (.cells Lib.zeros24 144) dk k 0
  have hb : Below w.heap.size w ((putRow (fun (b : UInt8) => Value.int .u8 (b.toNat : Int)) (w.alloc (.cells Lib.zeros24 144)) w.heap.size 0 dk).drewN k) := by rw [eo]; exact below_grow0 w k os
  generalize (putRow (fun (b : UInt8) => Value.int .u8 (b.toNat : Int)) (w.alloc (.cells Lib.zeros24 144)) w.heap.size 0 dk).drewN k = W2 at hcv hb ⊢
  clear eo HH0 HF
  go_wp2
  go_ret
  exact ⟨rfl, hb⟩
set_option maxRecDepth 100000 in
theorem fmtU_small (u : Nat) (hu : u < 100) (w : World) : Calls Tryz.prog 102 #[.int .u64 u, .int .i64 10] w fun e w' => e = .returned (.string ⟨(Lib.decDigits u).toArray⟩) ∧ Below w.heap.size w w' := by
  have iu : (u : Int) < 100 := by omega
  go_enter Tryz.func102, Tryz.ntmps102
  go_wp2_with (go_at_call 110; refine (Tryz.internal_strconv_small u hu _).mono ?_; rintro e w' ⟨rfl, rfl⟩)
  go_ret
  exact ⟨rfl, Below.refl _ _⟩
theorem fmtU_any (u : Nat) (hu64 : u < 18446744073709551616) (w : World) (htab : PowTab w) : Calls Tryz.prog 102 #[.int .u64 u, .int .i64 10] w fun e w' => e = .returned (.string ⟨(Lib.decDigits u).toArray⟩) ∧ Below w.heap.size w w' := by
  rcases Nat.lt_or_ge u 100 with h | h
  · exact fmtU_small u h w
  · exact fmtU_big u h hu64 w htab
set_option maxRecDepth 100000 in
theorem fmtPub_any (u : Nat) (hu64 : u < 18446744073709551616) (w : World) (htab : PowTab w) : Calls Tryz.prog 88 #[.int .u64 u, .int .i64 10] w fun e w' => e = .returned (.string ⟨(Lib.decDigits u).toArray⟩) ∧ Below w.heap.size w w' := by
  have HF := Lib.hid (fmtU_any u hu64 w htab)
  clear htab hu64
  go_enter Tryz.func88, Tryz.ntmps88
  go_wp2_with (go_at_call 102; refine HF.out.mono ?_; rintro e w' ⟨rfl, hb⟩)
  go_ret
  exact ⟨rfl, ‹_›⟩
/-- The digits of m, put ahead of t. -/
def fullD (m : Nat) (t : List UInt8) : List UInt8 := if m = 0 then t else Lib.decDigits m ++ t
def dgt (m : Nat) : UInt8 := UInt8.ofNat (48 + m % 10)
theorem fullD_step (m : Nat) (t : List UInt8) (h : 0 < m) : fullD (m / 10) (dgt m :: t) = fullD m t := by
  have h0 : ¬ m = 0 := by omega
  unfold dgt
  by_cases h10 : m < 10
  · have e : m / 10 = 0 := by omega
    rw [fullD, fullD, if_pos e, if_neg h0, Lib.decDigits_one h10, Nat.mod_eq_of_lt h10]; rfl
  · have e : ¬ m / 10 = 0 := by omega
    rw [fullD, fullD, if_neg e, if_neg h0, Lib.decDigits.eq_1 m, dif_neg h10]; simp
theorem fullD_first (u : Nat) : fullD (u / 10) [dgt u] = Lib.decDigits u := by
  by_cases h : u = 0
  · subst h
    rw [Lib.decDigits_one (by omega)]
    rfl
  · rw [fullD_step u [] (by omega), fullD, if_neg h]; simp
theorem str_eta (t : ByteArray) : (⟨t.data.toList.toArray⟩ : ByteArray) = t := by cases t; simp
theorem ret_s {a b : ByteArray} (h : a = b) : Ending.returned (.string a) = .returned (.string b) := by rw [h]
theorem dec_len (u : Nat) (hu64 : u < 18446744073709551616) : (Lib.decDigits u).length ≤ 20 := by
  by_cases h : u = 0
  · subst h; rw [Lib.decDigits_one (by omega)]; simp
  · rw [Lib.decDigits_length]
    have := Lib.numDigits_eq u (by omega) hu64
    split at this <;> omega
theorem dgt_nat (m : Nat) : ((dgt m).toNat : Int) = 48 + (m : Int) % 10 := by
  have h : (dgt m).toNat = 48 + m % 10 := by simp [dgt]; omega
  omega
theorem conv_dgt (m : Nat) (W : World) : (convert 83 9 (.slice (some ⟨W.heap.size, 0, none⟩) 1 1)).run Tryz.prog (W.alloc (.cells #[.int .u8 (48 + (m : Int) % 10)] 5)) = .ok (.string ⟨#[dgt m]⟩) (W.alloc (.cells #[.int .u8 (48 + (m : Int) % 10)] 5)) := by
  exact run_convert_bytes_back (P := Tryz.prog) (W.alloc (.cells #[.int .u8 (48 + (m : Int) % 10)] 5)) 83 9 5 ⟨W.heap.size, 0, none⟩ 1 [dgt m] Tryz.underlying83 Tryz.underlying5 Tryz.underlying9 (fun j hj => by
    obtain rfl : j = 0 := by simpa using hj
    rw [Lib.add_plain, World.cell?_alloc_new, List.getElem_cons_zero, dgt_nat]
    rfl)
set_option maxHeartbeats 1000000 in
set_option maxRecDepth 100000 in
theorem rdigits_any (u : Nat) (hu64 : u < 18446744073709551616) (w : World) : Calls Tryz.prog 89 #[.int .u64 u] w fun e w' => e = .returned (.string ⟨(Lib.decDigits u).toArray⟩) ∧ Below w.heap.size w w' := by
  have hcv := conv_dgt u w
  have iu : (u : Int) ≤ 18446744073709551615 := by omega
  go_enter Tryz.func89, Tryz.ntmps89
  go_wp2
  clear hcv
  go_loopg [0, 3] (u / 10 + 1) (fun g n s wr => ∃ (m : Nat) (t : ByteArray), m ≤ u ∧ g = m + 1 ∧ n = .int .u64 m ∧ s = .string t ∧ Hid (fullD m t.data.toList = Lib.decDigits u) ∧ Below w.heap.size w wr)
  case atStart => exact ⟨u / 10, ⟨#[dgt u]⟩, by omega, rfl, by go_num, rfl, fullD_first u, (Below.refl _ _).alloc (Nat.le_refl _) _⟩
  case round =>
    obtain ⟨m, t, hm, rfl, rfl, rfl, hf, hbel⟩ := hrel
    have HB := Lib.hid hbel; clear hbel
    by_cases h0 : 0 < m
    · have hcv := conv_dgt m wr
      have ht : t.size ≤ 20 := by
        have h1 := congrArg List.length hf.out
        have h2 := dec_len u hu64
        rw [fullD, if_neg (by omega), List.length_append, data_len] at h1
        omega
      have HN := Lib.hid ((fullD_step m t.data.toList h0).trans hf.out); clear hf
      go_wp2
      go_roundg (m / 10 + 1)
      case measure => omega
      case rel => exact ⟨m / 10, ⟨#[dgt m]⟩ ++ t, by omega, rfl, by go_num, rfl, by show fullD (m / 10) (⟨#[dgt m]⟩ ++ t).data.toList = _; simpa [ByteArray.data_append] using HN.out, HB.out.alloc HB.out.size _⟩
    · obtain rfl : m = 0 := by omega
      have HN := Lib.hid (show t.data.toList = Lib.decDigits u from hf.out); clear hf
      go_wp2
      go_ret
      exact ⟨ret_s (by rw [← HN.out, str_eta]), HB.out⟩
end Go.Proofs.YtmnbgamnbgdnnaaGreatDoor

/- Contracts of strconv.Itoa where the number is not negative, of circ.words and of the reference's number and gateLine. -/
namespace Go.Proofs.YtmnbgamnbgdnnaaGreatDoor
open Go.RowKit

theorem PowTab.below {W W' : World} (h : PowTab W) (hb : Below W.heap.size W W') : PowTab W' := Lib.tabBelow_of_tabIs h W' hb
def SPost (s : Bs) (w : World) (e : Ending) (w' : World) : Prop := e = .returned (.string ⟨s.toArray⟩) ∧ Below w.heap.size w w'
theorem itoa_any (n : Int) (h0 : 0 ≤ n) (h1 : n ≤ 9223372036854775807) (w : World) (htab : PowTab w) : Calls Tryz.prog 85 #[.int .i64 n] w (SPost (numI n) w) := by
  refine (Tryz.strconv_Itoa n (by omega) h1 w htab).mono ?_
  rintro e w' ⟨rfl, k, os, rfl⟩
  obtain ⟨u, rfl⟩ : ∃ u : Nat, n = u := ⟨n.toNat, by omega⟩
  refine ⟨?_, below_grow0 w k os⟩
  rw [Lib.itoa_nonneg]
  rfl
set_option maxRecDepth 100000 in
theorem words1_any (n : Int) (h0 : 0 ≤ n) (h1 : n ≤ 9223372036854775807) (w : World) (htab : PowTab w) : Calls Tryz.prog 87 #[.int .i64 n] w (SPost (numI n) w) := by
  have H := Lib.hid (itoa_any n h0 h1 w htab)
  clear htab h0 h1
  go_enter Tryz.func87, Tryz.ntmps87
  go_wp2_with (go_at_call 85; refine H.out.mono ?_; rintro e w' ⟨rfl, hb⟩)
  go_ret
  exact ⟨rfl, ‹_›⟩
set_option maxRecDepth 100000 in
theorem rnumber_any (n : Int) (h0 : 0 ≤ n) (h1 : n ≤ 9223372036854775807) (w : World) : Calls Tryz.prog 59 #[.int .i64 n] w (SPost (numI n) w) := by
  obtain ⟨u, rfl⟩ : ∃ u : Nat, n = u := ⟨n.toNat, by omega⟩
  have H := Lib.hid (rdigits_any u (by omega) w)
  have e1 : IntKind.u64.wrap (u : Int) = (u : Int) := IntWalk.u64_in _ (by omega)
  go_enter Tryz.func59, Tryz.ntmps59
  go_wp2_with (go_at_call 89; refine H.out.mono ?_; rintro e w' ⟨rfl, hb⟩)
  go_ret
  exact ⟨rfl, ‹_›⟩
end Go.Proofs.YtmnbgamnbgdnnaaGreatDoor

/- Contract of circ.words, one theorem a kind of gate. (Printed by wip/tools/gen_words.py.) -/
namespace Go.Proofs.YtmnbgamnbgdnnaaGreatDoor
open Go.RowKit

/-- A block that holds these words. -/
def Strs (w : World) (N : Nat) (l : List Bs) : Prop := w.heap[N]? = some (.cells (l.map fun x => Value.string ⟨x.toArray⟩).toArray 9 (0, 0))
def WPost (l : List Bs) (w : World) (e : Ending) (w' : World) : Prop := ∃ N, e = .returned (.slice (some ⟨N, 0, none⟩) l.length l.length) ∧ Strs w' N l ∧ Below w.heap.size w w'
theorem startS {w w1 : World} {a b : Int} (h1 : w1.cell? ⟨w.heap.size, 1, none⟩ = some (.int .i64 a)) (h2 : w1.cell? ⟨w.heap.size, 2, none⟩ = some (.int .i64 b)) (h3 : w.heap.size < w1.heap.size) (h4 : PowTab w1) (h5 : Below w.heap.size w w1) :
    w1.drew.cell? ⟨w.heap.size, 1, none⟩ = some (.int .i64 a) ∧ w1.drew.cell? ⟨w.heap.size, 2, none⟩ = some (.int .i64 b) ∧ w.heap.size < w1.drew.heap.size ∧ Hid (PowTab w1.drew) ∧ Hid (Below w.heap.size w w1.drew) :=
  ⟨h1, h2, h3, PowTab.below h4 (below_drewN (Below.refl _ _) 1), below_drewN h5 1⟩
theorem stepS {w W W' : World} {a b : Int} (h : W.cell? ⟨w.heap.size, 1, none⟩ = some (.int .i64 a) ∧ W.cell? ⟨w.heap.size, 2, none⟩ = some (.int .i64 b) ∧ w.heap.size < W.heap.size ∧ Hid (PowTab W) ∧ Hid (Below w.heap.size w W)) (hb : Below W.heap.size W W') :
    W'.cell? ⟨w.heap.size, 1, none⟩ = some (.int .i64 a) ∧ W'.cell? ⟨w.heap.size, 2, none⟩ = some (.int .i64 b) ∧ w.heap.size < W'.heap.size ∧ Hid (PowTab W') ∧ Hid (Below w.heap.size w W') :=
  ⟨(hb.cell (p := ⟨w.heap.size, 1, none⟩) h.2.2.1).trans h.1, (hb.cell (p := ⟨w.heap.size, 2, none⟩) h.2.2.1).trans h.2.1, Nat.lt_of_lt_of_le h.2.2.1 hb.size, h.2.2.2.1.out.below hb, h.2.2.2.2.out.trans (hb.mono (Nat.le_of_lt h.2.2.1))⟩
theorem pow_S {A B C D : Prop} {W : World} (h : A ∧ B ∧ C ∧ Hid (PowTab W) ∧ D) : PowTab W := h.2.2.2.1.out
theorem below_S {A B C D : Prop} {w W : World} (h : A ∧ B ∧ C ∧ D ∧ Hid (Below w.heap.size w W)) : Below w.heap.size w W := h.2.2.2.2.out
theorem fmtB (K : Nat) (hK : K < 18446744073709551616) (w : World) (htab : PowTab w) : Calls Tryz.prog 88 #[.int .u64 K, .int .i64 10] w (SPost (numI K) w) := fmtPub_any K hK w htab

set_option maxHeartbeats 1000000 in
set_option maxRecDepth 100000 in
theorem words_1 (a b : Int) (K : Nat) (ha : 0 ≤ a ∧ a ≤ 9223372036854775807) (hb : 0 ≤ b ∧ b ≤ 9223372036854775807) (hK : K < 18446744073709551616) (w : World) (htab : PowTab w) :
    Calls Tryz.prog 55 #[.agg #[.int .i64 1, .int .i64 a, .int .i64 b, .int .u64 K]] w (WPost [kwIn, numI a] w) := by
  have HT := Lib.hid htab; clear htab
  have HA := Lib.hid (fun W h => words1_any a ha.1 ha.2 W h); clear ha
  have HC := Lib.hid (fun W h => words1_any b hb.1 hb.2 W h); clear hb
  have HF := Lib.hid (fmtB K hK); clear hK
  go_enter Tryz.func55, Tryz.ntmps55
  go_wp2_with (first | (go_at_call 88; refine (HF.out _ (Lib.tabIs_alloc HT.out _)).mono ?_; rintro e w1 ⟨rfl, hb1⟩; have hc1 := hb1.cell (p := ⟨w.heap.size, 1, none⟩) (by simp); have hc2 := hb1.cell (p := ⟨w.heap.size, 2, none⟩) (by simp); have hc0 := hb1.cell (p := ⟨w.heap.size, 0, none⟩) (by simp); simp at hc0 hc1 hc2; have hsz1 := hb1.size; simp at hsz1; have HT1 := Lib.hid (PowTab.below (Lib.tabIs_alloc HT.out _) hb1); have HB1 := Lib.hid (below_box hb1); clear hb1) | (go_at_call 87; refine (HA.out _ HT1.out).mono ?_; rintro e w2 ⟨rfl, hb2⟩; have HB2 := Lib.hid hb2; clear hb2))
  go_ret
  exact ⟨_, rfl, heap_alloc_new _ _, ((HB1.out.trans (HB2.out.mono HB1.out.size)).alloc (HB1.out.trans (HB2.out.mono HB1.out.size)).size _)⟩

set_option maxHeartbeats 1000000 in
set_option maxRecDepth 100000 in
theorem words_2 (a b : Int) (K : Nat) (ha : 0 ≤ a ∧ a ≤ 9223372036854775807) (hb : 0 ≤ b ∧ b ≤ 9223372036854775807) (hK : K < 18446744073709551616) (w : World) (htab : PowTab w) :
    Calls Tryz.prog 55 #[.agg #[.int .i64 2, .int .i64 a, .int .i64 b, .int .u64 K]] w (WPost [kwConst, numI K] w) := by
  have HT := Lib.hid htab; clear htab
  have HA := Lib.hid (fun W h => words1_any a ha.1 ha.2 W h); clear ha
  have HC := Lib.hid (fun W h => words1_any b hb.1 hb.2 W h); clear hb
  have HF := Lib.hid (fmtB K hK); clear hK
  go_enter Tryz.func55, Tryz.ntmps55
  go_wp2_with (first | (go_at_call 88; refine (HF.out _ (Lib.tabIs_alloc HT.out _)).mono ?_; rintro e w1 ⟨rfl, hb1⟩; have hc1 := hb1.cell (p := ⟨w.heap.size, 1, none⟩) (by simp); have hc2 := hb1.cell (p := ⟨w.heap.size, 2, none⟩) (by simp); have hc0 := hb1.cell (p := ⟨w.heap.size, 0, none⟩) (by simp); simp at hc0 hc1 hc2; have hsz1 := hb1.size; simp at hsz1; have HT1 := Lib.hid (PowTab.below (Lib.tabIs_alloc HT.out _) hb1); have HB1 := Lib.hid (below_box hb1); clear hb1))
  go_ret
  exact ⟨_, rfl, heap_alloc_new _ _, (HB1.out.alloc (Below.size HB1.out) _)⟩

set_option maxHeartbeats 1000000 in
set_option maxRecDepth 100000 in
theorem words_6 (a b : Int) (K : Nat) (ha : 0 ≤ a ∧ a ≤ 9223372036854775807) (hb : 0 ≤ b ∧ b ≤ 9223372036854775807) (hK : K < 18446744073709551616) (w : World) (htab : PowTab w) :
    Calls Tryz.prog 55 #[.agg #[.int .i64 6, .int .i64 a, .int .i64 b, .int .u64 K]] w (WPost [kwScale, numI a, numI K] w) := by
  have HT := Lib.hid htab; clear htab
  have HA := Lib.hid (fun W h => words1_any a ha.1 ha.2 W h); clear ha
  have HC := Lib.hid (fun W h => words1_any b hb.1 hb.2 W h); clear hb
  have HF := Lib.hid (fmtB K hK); clear hK
  go_enter Tryz.func55, Tryz.ntmps55
  go_wp2_with (first | (go_at_call 88; refine (HF.out _ (Lib.tabIs_alloc HT.out _)).mono ?_; rintro e w1 ⟨rfl, hb1⟩; have hc1 := hb1.cell (p := ⟨w.heap.size, 1, none⟩) (by simp); have hc2 := hb1.cell (p := ⟨w.heap.size, 2, none⟩) (by simp); have hc0 := hb1.cell (p := ⟨w.heap.size, 0, none⟩) (by simp); simp at hc0 hc1 hc2; have hsz1 := hb1.size; simp at hsz1; have HT1 := Lib.hid (PowTab.below (Lib.tabIs_alloc HT.out _) hb1); have HB1 := Lib.hid (below_box hb1); clear hb1) | (go_at_call 87; refine (HA.out _ HT1.out).mono ?_; rintro e w2 ⟨rfl, hb2⟩; have HB2 := Lib.hid hb2; clear hb2))
  go_ret
  exact ⟨_, rfl, heap_alloc_new _ _, ((HB1.out.trans (HB2.out.mono HB1.out.size)).alloc (HB1.out.trans (HB2.out.mono HB1.out.size)).size _)⟩

set_option maxHeartbeats 1000000 in
set_option maxRecDepth 100000 in
theorem words_3 (a b : Int) (K : Nat) (ha : 0 ≤ a ∧ a ≤ 9223372036854775807) (hb : 0 ≤ b ∧ b ≤ 9223372036854775807) (hK : K < 18446744073709551616) (w : World) (htab : PowTab w) :
    Calls Tryz.prog 55 #[.agg #[.int .i64 3, .int .i64 a, .int .i64 b, .int .u64 K]] w (WPost [kwAdd, numI a, numI b] w) := by
  have HT := Lib.hid htab; clear htab
  have HA := Lib.hid (fun W h => words1_any a ha.1 ha.2 W h); clear ha
  have HC := Lib.hid (fun W h => words1_any b hb.1 hb.2 W h); clear hb
  have HF := Lib.hid (fmtB K hK); clear hK
  go_enter Tryz.func55, Tryz.ntmps55
  go_wp2_with (first | (go_at_call 88; refine (HF.out _ (Lib.tabIs_alloc HT.out _)).mono ?_; rintro e w1 ⟨rfl, hb1⟩; have hc1 := hb1.cell (p := ⟨w.heap.size, 1, none⟩) (by simp); have hc2 := hb1.cell (p := ⟨w.heap.size, 2, none⟩) (by simp); have hc0 := hb1.cell (p := ⟨w.heap.size, 0, none⟩) (by simp); simp at hc0 hc1 hc2; have hsz1 := hb1.size; simp at hsz1; have HT1 := Lib.hid (PowTab.below (Lib.tabIs_alloc HT.out _) hb1); have HB1 := Lib.hid (below_box hb1); clear hb1))
  have hS0 := startS hc1 hc2 hsz1 HT1.out HB1.out
  go_region_held3 (fun W => W.cell? ⟨w.heap.size, 1, none⟩ = some (.int .i64 a) ∧ W.cell? ⟨w.heap.size, 2, none⟩ = some (.int .i64 b) ∧ w.heap.size < W.heap.size ∧ Hid (PowTab W) ∧ Hid (Below w.heap.size w W)) (first | assumption | exact stepS (by assumption) ((Below.refl _ _).alloc (Nat.le_refl _) _)) (first | (go_at_call 87; refine (HA.out _ (pow_S (by assumption))).mono ?_; rintro e w2 ⟨rfl, hb2⟩; have hS2 := stepS (by assumption) hb2; clear hb2) | (go_at_call 87; refine (HC.out _ (pow_S (by assumption))).mono ?_; rintro e w2 ⟨rfl, hb2⟩; have hS2 := stepS (by assumption) hb2; clear hb2))
  all_goals (try go_wp2)
  all_goals go_ret
  all_goals exact ⟨_, rfl, heap_alloc_new _ _, below_S (by assumption)⟩

set_option maxHeartbeats 1000000 in
set_option maxRecDepth 100000 in
theorem words_4 (a b : Int) (K : Nat) (ha : 0 ≤ a ∧ a ≤ 9223372036854775807) (hb : 0 ≤ b ∧ b ≤ 9223372036854775807) (hK : K < 18446744073709551616) (w : World) (htab : PowTab w) :
    Calls Tryz.prog 55 #[.agg #[.int .i64 4, .int .i64 a, .int .i64 b, .int .u64 K]] w (WPost [kwSub, numI a, numI b] w) := by
  have HT := Lib.hid htab; clear htab
  have HA := Lib.hid (fun W h => words1_any a ha.1 ha.2 W h); clear ha
  have HC := Lib.hid (fun W h => words1_any b hb.1 hb.2 W h); clear hb
  have HF := Lib.hid (fmtB K hK); clear hK
  go_enter Tryz.func55, Tryz.ntmps55
  go_wp2_with (first | (go_at_call 88; refine (HF.out _ (Lib.tabIs_alloc HT.out _)).mono ?_; rintro e w1 ⟨rfl, hb1⟩; have hc1 := hb1.cell (p := ⟨w.heap.size, 1, none⟩) (by simp); have hc2 := hb1.cell (p := ⟨w.heap.size, 2, none⟩) (by simp); have hc0 := hb1.cell (p := ⟨w.heap.size, 0, none⟩) (by simp); simp at hc0 hc1 hc2; have hsz1 := hb1.size; simp at hsz1; have HT1 := Lib.hid (PowTab.below (Lib.tabIs_alloc HT.out _) hb1); have HB1 := Lib.hid (below_box hb1); clear hb1))
  have hS0 := startS hc1 hc2 hsz1 HT1.out HB1.out
  go_region_held3 (fun W => W.cell? ⟨w.heap.size, 1, none⟩ = some (.int .i64 a) ∧ W.cell? ⟨w.heap.size, 2, none⟩ = some (.int .i64 b) ∧ w.heap.size < W.heap.size ∧ Hid (PowTab W) ∧ Hid (Below w.heap.size w W)) (first | assumption | exact stepS (by assumption) ((Below.refl _ _).alloc (Nat.le_refl _) _)) (first | (go_at_call 87; refine (HA.out _ (pow_S (by assumption))).mono ?_; rintro e w2 ⟨rfl, hb2⟩; have hS2 := stepS (by assumption) hb2; clear hb2) | (go_at_call 87; refine (HC.out _ (pow_S (by assumption))).mono ?_; rintro e w2 ⟨rfl, hb2⟩; have hS2 := stepS (by assumption) hb2; clear hb2))
  all_goals (try go_wp2)
  all_goals go_ret
  all_goals exact ⟨_, rfl, heap_alloc_new _ _, below_S (by assumption)⟩

set_option maxHeartbeats 1000000 in
set_option maxRecDepth 100000 in
theorem words_5 (a b : Int) (K : Nat) (ha : 0 ≤ a ∧ a ≤ 9223372036854775807) (hb : 0 ≤ b ∧ b ≤ 9223372036854775807) (hK : K < 18446744073709551616) (w : World) (htab : PowTab w) :
    Calls Tryz.prog 55 #[.agg #[.int .i64 5, .int .i64 a, .int .i64 b, .int .u64 K]] w (WPost [kwMul, numI a, numI b] w) := by
  have HT := Lib.hid htab; clear htab
  have HA := Lib.hid (fun W h => words1_any a ha.1 ha.2 W h); clear ha
  have HC := Lib.hid (fun W h => words1_any b hb.1 hb.2 W h); clear hb
  have HF := Lib.hid (fmtB K hK); clear hK
  go_enter Tryz.func55, Tryz.ntmps55
  go_wp2_with (first | (go_at_call 88; refine (HF.out _ (Lib.tabIs_alloc HT.out _)).mono ?_; rintro e w1 ⟨rfl, hb1⟩; have hc1 := hb1.cell (p := ⟨w.heap.size, 1, none⟩) (by simp); have hc2 := hb1.cell (p := ⟨w.heap.size, 2, none⟩) (by simp); have hc0 := hb1.cell (p := ⟨w.heap.size, 0, none⟩) (by simp); simp at hc0 hc1 hc2; have hsz1 := hb1.size; simp at hsz1; have HT1 := Lib.hid (PowTab.below (Lib.tabIs_alloc HT.out _) hb1); have HB1 := Lib.hid (below_box hb1); clear hb1))
  have hS0 := startS hc1 hc2 hsz1 HT1.out HB1.out
  go_region_held3 (fun W => W.cell? ⟨w.heap.size, 1, none⟩ = some (.int .i64 a) ∧ W.cell? ⟨w.heap.size, 2, none⟩ = some (.int .i64 b) ∧ w.heap.size < W.heap.size ∧ Hid (PowTab W) ∧ Hid (Below w.heap.size w W)) (first | assumption | exact stepS (by assumption) ((Below.refl _ _).alloc (Nat.le_refl _) _)) (first | (go_at_call 87; refine (HA.out _ (pow_S (by assumption))).mono ?_; rintro e w2 ⟨rfl, hb2⟩; have hS2 := stepS (by assumption) hb2; clear hb2) | (go_at_call 87; refine (HC.out _ (pow_S (by assumption))).mono ?_; rintro e w2 ⟨rfl, hb2⟩; have hS2 := stepS (by assumption) hb2; clear hb2))
  all_goals (try go_wp2)
  all_goals go_ret
  all_goals exact ⟨_, rfl, heap_alloc_new _ _, below_S (by assumption)⟩

theorem words_any (p : Nat) (L : Lis) (h : Fine p L) (g : Gat) (hg : g ∈ L.2.1) (w : World) (htab : PowTab w) :
    Calls Tryz.prog 55 #[.agg #[.int .i64 g.1, .int .i64 g.2.1, .int .i64 g.2.2.1, .int .u64 g.2.2.2]] w (WPost (gateWords g) w) := by
  obtain ⟨_, hk, ha, hb, hc⟩ := h.g g hg
  obtain ⟨k, a, b, K⟩ := g
  simp only at hk ha hb hc ⊢
  obtain ⟨K, rfl⟩ : ∃ n : Nat, K = n := ⟨K.toNat, by omega⟩
  rcases (show k = 1 ∨ k = 2 ∨ k = 3 ∨ k = 4 ∨ k = 5 ∨ k = 6 by omega) with rfl | rfl | rfl | rfl | rfl | rfl
  · exact words_1 a b K (by omega) (by omega) (by omega) w htab
  · exact words_2 a b K (by omega) (by omega) (by omega) w htab
  · exact words_3 a b K (by omega) (by omega) (by omega) w htab
  · exact words_4 a b K (by omega) (by omega) (by omega) w htab
  · exact words_5 a b K (by omega) (by omega) (by omega) w htab
  · exact words_6 a b K (by omega) (by omega) (by omega) w htab
end Go.Proofs.YtmnbgamnbgdnnaaGreatDoor
