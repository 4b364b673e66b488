/- Contracts of circ.number and circ.numbers. -/
import Derived.Test.YtmnbgamnbgdnnaaGreatDoorCirX
namespace Go.Proofs.YtmnbgamnbgdnnaaGreatDoor
open Go.RowKit

/-- What is asked of the library's variables. -/
structure Env (w : World) : Prop where
  pow : PowTab w
  syn : ∃ ev, w.cell? ⟨4, 0, none⟩ = some ev ∧ (ev = .nilIface ∨ ∃ te pe, ev = .iface te pe)
  ran : ∃ ev, w.cell? ⟨5, 0, none⟩ = some ev ∧ (ev = .nilIface ∨ ∃ te pe, ev = .iface te pe)
theorem Env.below {w w' : World} (h : Env w) (hb : Below w.heap.size w w') : Env w' := by
  refine ⟨h.pow.below hb, ?_, ?_⟩
  · obtain ⟨ev, h1, h2⟩ := h.syn
    exact ⟨ev, (hb.cell (World.block_lt_of_cell? w _ h1)).trans h1, h2⟩
  · obtain ⟨ev, h1, h2⟩ := h.ran
    exact ⟨ev, (hb.cell (World.block_lt_of_cell? w _ h1)).trans h1, h2⟩
theorem below_bytes (w : World) (e : TypeId) (w' : World) (h : w' = w ∨ ∃ t, w' = Lib.bytesWorld w e t) : Below w.heap.size w w' := by
  rcases h with rfl | ⟨t, rfl⟩
  · exact Below.refl _ _
  · exact Lib.bytesWorld_below _ _ _
set_option maxHeartbeats 1000000 in
set_option maxRecDepth 100000 in
theorem number_some (s : Bs) (v : Nat) (h : valOf s = some v) (w : World) (hE : Env w) :
    Calls Tryz.prog 91 #[.string ⟨s.toArray⟩] w fun e w' => e = .returned (.tuple #[.int .i64 v, .bool true]) ∧ Below w.heap.size w w' := by
  have ha := Tryz.strconv_Atoi_ok ⟨s.toArray⟩ (by obtain ⟨rfl, hv⟩ := valOf_some h; have := dec_nine hv; show (Lib.decDigits v).length ≤ _; omega) v (atoi_val h) w
  have HA := Lib.hid ha; clear ha
  obtain ⟨rfl, hv⟩ := valOf_some h
  have h9 := dec_nine hv
  have hI : ∀ W, PowTab W → Calls Tryz.prog 85 #[.int .i64 v] W fun e w' => e = .returned (.string ⟨(Lib.decDigits v).toArray⟩) ∧ Below W.heap.size W w' := fun W h => itoa_any (v : Int) (by omega) (by omega) W h
  have HI := Lib.hid hI
  have HE := Lib.hid hE; clear hE hI h
  have hsz : ((⟨(Lib.decDigits v).toArray⟩ : ByteArray).size : Int) ≤ 9 := by show (((Lib.decDigits v).length : Nat) : Int) ≤ 9; omega
  generalize (⟨(Lib.decDigits v).toArray⟩ : ByteArray) = S at *
  go_enter Tryz.func91, Tryz.ntmps91
  go_wp2_with (first | (go_at_call 106; refine HA.out.mono ?_; rintro e w1 ⟨rfl, hw⟩; have HB1 := Lib.hid (below_bytes _ _ _ hw); clear hw) | (go_at_call 85; refine (HI.out _ (HE.out.below HB1.out).pow).mono ?_; rintro e w2 ⟨rfl, hb2⟩; have HB2 := Lib.hid hb2; clear hb2))
  go_ret2
  exact ⟨rfl, below_alive HB1.out HB2.out⟩
def NoNum (w : World) (e : Ending) (w' : World) : Prop := ∃ n : Int, e = .returned (.tuple #[.int .i64 n, .bool false]) ∧ Below w.heap.size w w'
set_option maxHeartbeats 1000000 in
set_option maxRecDepth 100000 in
theorem number_none (s : Bs) (h : valOf s = none) (hs : s.length ≤ 281474976710656) (w : World) (hE : Env w) :
    Calls Tryz.prog 91 #[.string ⟨s.toArray⟩] w (NoNum w) := by
  cases ha : Lib.atoiAll s with
  | ok n =>
    have hA := Tryz.strconv_Atoi_ok ⟨s.toArray⟩ (by show s.length ≤ _; omega) n ha w
    obtain ⟨b1, b2⟩ := Lib.atoiAll_bounds ha
    have HA := Lib.hid hA; clear hA
    have HE := Lib.hid hE; clear hE
    by_cases h0 : 0 ≤ n
    · by_cases h9 : s.length ≤ 9
      · have hI : ∀ W, PowTab W → Calls Tryz.prog 85 #[.int .i64 n] W fun e w' => e = .returned (.string ⟨(numI n).toArray⟩) ∧ Below W.heap.size W w' := fun W h => itoa_any n h0 b2 W h
        have hne : ((⟨(numI n).toArray⟩ : ByteArray).toList == (⟨s.toArray⟩ : ByteArray).toList) = false := by
          rw [beq_eq_false_iff_ne]
          intro e
          have e2 : numI n = s := by rw [Lib.toList_data, Lib.toList_data] at e; exact e
          have e3 : Lib.itoa n = s := by
            obtain ⟨u, rfl⟩ : ∃ u : Nat, n = u := ⟨n.toNat, by omega⟩
            rw [Lib.itoa_nonneg]
            exact e2
          rw [val_atoi h0 h9 e3] at h
          cases h
        have HI := Lib.hid hI; clear hI
        have hsz : ((⟨s.toArray⟩ : ByteArray).size : Int) ≤ 9 := by show ((s.length : Nat) : Int) ≤ 9; omega
        clear h ha h9 hs
        generalize (⟨s.toArray⟩ : ByteArray) = S at *
        generalize (⟨(numI n).toArray⟩ : ByteArray) = T at *
        go_enter Tryz.func91, Tryz.ntmps91
        go_wp2_with (first | (go_at_call 106; refine HA.out.mono ?_; rintro e w1 ⟨rfl, hw⟩; have HB1 := Lib.hid (below_bytes _ _ _ hw); clear hw) | (go_at_call 85; refine (HI.out _ (HE.out.below HB1.out).pow).mono ?_; rintro e w2 ⟨rfl, hb2⟩; have HB2 := Lib.hid hb2; clear hb2))
        go_ret2
        exact ⟨n, rfl, below_alive HB1.out HB2.out⟩
      · have hsz : 9 < ((⟨s.toArray⟩ : ByteArray).size : Int) := by show 9 < ((s.length : Nat) : Int); omega
        clear h ha h9 hs
        generalize (⟨s.toArray⟩ : ByteArray) = S at *
        go_enter Tryz.func91, Tryz.ntmps91
        go_wp2_with (first | (go_at_call 106; refine HA.out.mono ?_; rintro e w1 ⟨rfl, hw⟩; have HB1 := Lib.hid (below_bytes _ _ _ hw); clear hw))
        go_ret2
        exact ⟨n, rfl, HB1.out⟩
    · have h1 : n < 0 := by omega
      clear h ha hs
      generalize (⟨s.toArray⟩ : ByteArray) = S at *
      go_enter Tryz.func91, Tryz.ntmps91
      go_wp2_with (first | (go_at_call 106; refine HA.out.mono ?_; rintro e w1 ⟨rfl, hw⟩; have HB1 := Lib.hid (below_bytes _ _ _ hw); clear hw))
      go_ret2
      exact ⟨n, rfl, HB1.out⟩
  | range =>
    obtain ⟨ev, e1, e2⟩ := hE.ran
    have HA := Lib.hid (Tryz.strconv_Atoi_range ⟨s.toArray⟩ hs ha ev w e1 e2)
    clear h ha hs e1 e2 hE
    generalize Lib.atoiSat (⟨s.toArray⟩ : ByteArray).data.toList = sat at *
    generalize (⟨s.toArray⟩ : ByteArray) = S at *
    go_enter Tryz.func91, Tryz.ntmps91
    go_wp2_with (first | (go_at_call 106; refine HA.out.mono ?_; rintro e w1 ⟨N, rfl, _, _, hb⟩; have HB1 := Lib.hid hb; clear hb))
    go_ret2
    exact ⟨sat, rfl, HB1.out⟩
  | _ =>
    obtain ⟨ev, e1, e2⟩ := hE.syn
    have HA := Lib.hid (Tryz.strconv_Atoi_syntax ⟨s.toArray⟩ hs (by show Tryz.noNumeral (Lib.atoiAll s) = true; rw [ha]; rfl) ev w e1 e2)
    clear h ha hs e1 e2 hE
    generalize (⟨s.toArray⟩ : ByteArray) = S at *
    go_enter Tryz.func91, Tryz.ntmps91
    go_wp2_with (first | (go_at_call 106; refine HA.out.mono ?_; rintro e w1 ⟨N, rfl, _, _, hb⟩; have HB1 := Lib.hid hb; clear hb))
    go_ret2
    exact ⟨0, rfl, HB1.out⟩

theorem allOf_step {α : Type} {f : Bs → Option α} {l : List Bs} {k : Nat} {ys : List α} {y : α} (hk : k < l.length) (h : allOf f (l.take k) = some ys) (h1 : f l[k] = some y) : allOf f (l.take (k + 1)) = some (ys ++ [y]) := by
  rw [List.take_succ_eq_append_getElem hk]
  generalize l.take k = t at h
  induction t generalizing ys with
  | nil => injection h with h; subst h; simp [allOf, h1]
  | cons x r ih =>
    rw [allOf] at h
    cases e1 : f x with
    | none => rw [e1] at h; cases h
    | some a =>
      cases e2 : allOf f r with
      | none => rw [e1, e2] at h; cases h
      | some b =>
        rw [e1, e2] at h
        injection h with h
        subst h
        rw [List.cons_append, allOf, e1, ih e2]
        rfl
theorem allOf_none {α : Type} {f : Bs → Option α} {l : List Bs} {k : Nat} (hk : k < l.length) (h1 : f l[k] = none) : allOf f l = none := by
  induction l generalizing k with
  | nil => simp at hk
  | cons x r ih =>
    rw [allOf]
    cases k with
    | zero =>
      have : f x = none := h1
      rw [this]
    | succ k =>
      rw [ih (k := k) (by simpa using hk) (by simpa using h1)]
      cases f x <;> rfl
/-- Numbers that were read, as ints. -/
def NumsPost (o : Option (List Nat)) (w : World) (e : Ending) (w' : World) : Prop :=
  Below w.heap.size w w' ∧ match o with
    | none => e = .returned (.tuple #[.slice none 0 0, .bool false])
    | some ns => ∃ v, e = .returned (.tuple #[v, .bool true]) ∧ w'.ownsRow w.heap.size 3 1 v ns.length (iCells (ns.map Int.ofNat))
theorem iCells_snoc (l : List Nat) (v : Nat) : iCells ((l ++ [v]).map Int.ofNat) = iCells (l.map Int.ofNat) ++ [.int .i64 v] := by simp [iCells]
theorem allOf_len {α : Type} {f : Bs → Option α} : ∀ {l : List Bs} {ys : List α}, allOf f l = some ys → ys.length = l.length
  | [], ys, h => by injection h with h; subst h; rfl
  | x :: r, ys, h => by
    rw [allOf] at h
    cases e1 : f x with
    | none => rw [e1] at h; cases h
    | some a =>
      cases e2 : allOf f r with
      | none => rw [e1, e2] at h; cases h
      | some b =>
        rw [e1, e2] at h
        injection h with h
        subst h
        simp [allOf_len e2]
/-- The words that lie from ad on. -/
def Words (w : World) (ad : Addr) (l : List Bs) : Prop := ∀ k (h : k < l.length), w.cell? (ad.add k) = some (.string ⟨l[k].toArray⟩)
theorem Words.below {w w' : World} {ad : Addr} {l : List Bs} (h : Words w ad l) (hb : Below w.heap.size w w') : Words w' ad l := fun k hk => (hb.cell (World.block_lt_of_cell? w _ (h k hk))).trans (h k hk)
set_option maxHeartbeats 2000000 in
set_option maxRecDepth 100000 in
theorem numbers_any (l : List Bs) (hl : l.length ≤ 17592186044416) (hs : ∀ x ∈ l, x.length ≤ 281474976710656) (ad : Addr) (c : Nat) (w : World) (hE : Env w) (hW : Words w ad l) :
    Calls Tryz.prog 92 #[.slice (some ad) l.length c] w (NumsPost (allOf valOf l) w) := by
  have HE := Lib.hid hE; clear hE
  have HW := Lib.hid hW; clear hW
  have HS := Lib.hid hs; clear hs
  go_enter Tryz.func92, Tryz.ntmps92
  go_wp2
  go_loopg [4, 11] l.length (fun g v i wr => ∃ (k : Nat) (ns : List Nat), k ≤ l.length ∧ g = l.length - k ∧ i = .int .i64 k ∧ Hid (allOf valOf (l.take k) = some ns) ∧ wr.ownsRow w.heap.size 3 1 v k (iCells (ns.map Int.ofNat)) ∧ Below w.heap.size w wr)
  case atStart => exact ⟨0, [], Nat.zero_le _, rfl, rfl, rfl, World.ownsRow_nil _ _ _ _, Below.refl _ _⟩
  case round =>
    obtain ⟨k, ns, hk, rfl, rfl, hns, hown, hbel⟩ := hrel
    have HO := Lib.hid hown; clear hown
    have HB := Lib.hid hbel; clear hbel
    have hszr := HB.out.size
    by_cases hlt : k < l.length
    · have q0 := (HW.out.below HB.out) k hlt
      have hx := HS.out _ (List.getElem_mem hlt)
      cases hv : valOf l[k] with
      | none =>
        have HN := Lib.hid (allOf_none hlt hv)
        have HC := Lib.hid (number_none _ hv hx wr (HE.out.below HB.out))
        clear hv hx hns HO
        generalize (⟨l[k].toArray⟩ : ByteArray) = S at *
        go_wp2_with (first | (go_at_call 91; refine HC.out.mono ?_; rintro e w1 ⟨n, rfl, hb1⟩; have HB1 := Lib.hid hb1; clear hb1))
        go_ret2
        unfold NumsPost
        rw [HN.out]
        exact ⟨below_alive HB.out HB1.out, rfl⟩
      | some x =>
        have HN := Lib.hid (allOf_step hlt hns.out hv)
        have HC := Lib.hid (number_some _ x hv wr (HE.out.below HB.out))
        clear hv hx
        generalize (⟨l[k].toArray⟩ : ByteArray) = S at *
        go_wp2_with (first | (go_at_call 91; refine HC.out.mono ?_; rintro e w1 ⟨rfl, hb1⟩; have hsz1 := hb1.size; have HO1 := Lib.hid (own_below HO.out hb1); have HB1 := Lib.hid (below_alive HB.out hb1); clear hb1) | (at_builtin; refine app_cells w.heap.size rfl _ _ 61 3 _ 1 8 rfl Tryz.underlying61 infoI rfl (by decide) (by decide) u4 k _ [.int .i64 x] rfl _ rfl rfl rfl (by intro u hu; simp at hu; subst hu; rfl) HO1.out (by omega) (by omega) ?_; intro v3 w3 hown3 hg3; have HO3 := Lib.hid hown3; clear hown3; have HG3 := Lib.hid hg3; clear hg3))
        go_roundg (l.length - (k + 1))
        case measure => omega
        case rel => exact ⟨k + 1, ns ++ [x], by omega, rfl, by go_num, HN.out, by rw [iCells_snoc]; exact HO3.out, HB1.out.grown HG3.out HB1.out.size (fun q hq => (HO1.out.lt q hq).1)⟩
    · obtain rfl : k = l.length := by omega
      have h := hns.out
      rw [List.take_length] at h
      have HN := Lib.hid h; clear h hns
      go_wp2
      go_ret2
      unfold NumsPost
      rw [HN.out]
      exact ⟨HB.out, _, rfl, by rw [allOf_len HN.out]; exact HO.out⟩
end Go.Proofs.YtmnbgamnbgdnnaaGreatDoor
