/- Contract of token.Read. -/
import Derived.Test.YtaccooeodimdaaaDoorTokH
import Derived.Laws.AppendOwn
import Derived.Laws.OwnMore
import Derived.Deep.AppendLies
namespace Go.Proofs.YtaccooeodimdaaaDoor
open Go.RowKit

section
variable {P : Program} {ops : Array Oper} {rest : List Oper} {o : Oper} {a : Act} {Q : Exit → Act → World → Prop}
/-- One element of several cells is appended to a row of the call's own: the element's box has just been laid. -/
theorem app_cells {W : World} (base : Nat) (hgd : o.guard = none) (s x : Operand) (t e : TypeId) (z : Value) (size bytes : Nat)
    (ho : o.op = .call { callee := .builtin .append, args := #[s, x], argTypes := #[t, t] })
    (ht : P.underlying t = some (.slice e)) (hinfo : (P.info? e).map (fun i => (i.zero, i.size, i.bytes)) = some (some z, size, bytes)) (hz : z.cells.size = size) (hs0 : 0 < size) (hb0 : 0 < bytes)
    (v : Value) (n : Nat) (xs ys : List Value) (hs : a.eval s = v) (g : Nat) (hx : a.eval x = .slice (some ⟨g, 0, none⟩) 1 1) (hg0 : W.heap.size = g) (hys : ys.length = size) (h1 : ∀ u ∈ ys, u.oneCell' = true)
    (HO : W.ownsRow base e size v n xs) (hbase : base ≤ W.heap.size) (hl : (n + 1) * bytes ≤ 140737488355328)
    (h : ∀ v1 w1, w1.ownsRow base e size v1 (n + 1) (xs ++ ys) → W.grownBy w1 v.ownBlock → wpList P ops Q rest (a.put o.dst v1) w1) :
    wpList P ops Q (o :: rest) a (W.alloc (.cells ys.toArray e)) := by
  obtain ⟨i0, hi, hzz⟩ := Option.map_eq_some_iff.1 hinfo
  simp only [Prod.mk.injEq] at hzz
  obtain ⟨hz0, hz1, hz2⟩ := hzz
  subst hg0
  have hlen : n + 1 ≤ 140737488355328 := Nat.le_trans (Nat.le_mul_of_pos_right _ hb0) hl
  exact wpList_append_own (W.alloc (.cells ys.toArray e)) hgd s x t ho base e i0 z size bytes ht hi hz0 hz1 hz2 hz hs0 v n xs hs (HO.alloc _) ⟨W.heap.size, 0, none⟩ 1 1 ys hx (by rw [hys]; simp)
    (by simpa using World.news_of_block (cs := ys.toArray) (t := e) (fr := (0, 0)) (heap_alloc_new W (.cells ys.toArray e))) h1 (by simp only [maxLen]; omega) hl (by simp; omega)
    fun v1 w1 hown hg _ => h v1 w1 hown (World.grownBy.trans (World.grownBy_alloc W _ _) hg)
end

abbrev Tok := Int × ByteArray × Nat
def tokCells (ts : List Tok) : List Value := ts.flatMap fun t => [.int .i64 t.1, .string t.2.1, .int .i64 t.2.2]
theorem tokCells_snoc (ts : List Tok) (t : Tok) : tokCells (ts ++ [t]) = tokCells ts ++ [.int .i64 t.1, .string t.2.1, .int .i64 t.2.2] := by simp [tokCells]
theorem rawTok_lt (s : ByteArray) (i : Nat) (hi : i < s.size) {k : Int} {t : ByteArray} {j : Nat} (h : rawTok s i = some (k, t, j)) : i < j ∧ j ≤ s.size := by
  have hlt : i < s.data.toList.length := by rw [data_len]; exact hi
  unfold rawTok at h
  rw [getD_i hi] at h
  by_cases hL : isLetter (s[i].toNat : Int) = true
  · simp only [hL, if_true] at h
    injection h with h
    injection h with _ h
    injection h with _ h
    have h1 := spanEnd_yes isWithin s.data.toList i hlt (by show isWithin (s[i].toNat : Int) = true; simp [isWithin, hL])
    have h2 := spanEnd_ge isWithin s.data.toList (i + 1)
    have h3 := spanEnd_le isWithin s.data.toList i (by omega)
    rw [data_len] at h3
    omega
  rw [if_neg hL] at h
  by_cases hD : isDigit (s[i].toNat : Int) = true
  · rw [if_pos hD] at h
    injection h with h
    injection h with _ h
    injection h with _ h
    have h1 := spanEnd_yes isDigit s.data.toList i hlt hD
    have h2 := spanEnd_ge isDigit s.data.toList (i + 1)
    have h3 := spanEnd_le isDigit s.data.toList i (by omega)
    rw [data_len] at h3
    omega
  rw [if_neg hD] at h
  by_cases hE : Lib.hasPrefix (s.data.toList.drop i) [61, 61] = true
  · rw [if_pos hE] at h
    injection h with h
    injection h with _ h
    injection h with _ h
    have := drop_lt s i hE
    omega
  rw [if_neg hE] at h
  by_cases hS : isSign (s[i].toNat : Int) = true
  · rw [if_pos hS] at h
    injection h with h
    injection h with _ h
    injection h with _ h
    omega
  rw [if_neg hS] at h
  cases h

theorem skipTo_ge (l : List UInt8) (i : Nat) : i ≤ skipTo l i := by
  have h1 := spanEnd_ge isBlank l i
  rcases Bool.eq_false_or_eq_true (Lib.hasPrefix (l.drop (spanEnd isBlank l i)) [47, 47]) with hq | hq
  · have h2 := slash_lt hq
    rw [skipTo_yes l i hq]
    have := skipTo_ge l (spanEnd notNL l (spanEnd isBlank l i))
    omega
  · rw [skipTo_no l i hq]; exact h1
termination_by l.length - i
decreasing_by omega
/-- What is read from i on: the words, or where it fails and the error. -/
def readFrom (s : ByteArray) (i : Nat) : List Tok × Nat × Int :=
  if _hp : s.size ≤ skipTo s.data.toList i then ([], 0, 0) else
    match _hr : rawTok s (skipTo s.data.toList i) with
    | none => ([], skipTo s.data.toList i, 4)
    | some (k, t, j) =>
      if nextErr k t.data.toList (skipTo s.data.toList i) = 0 then
        if (readFrom s j).2.2 = 0 then ((k, t, skipTo s.data.toList i) :: (readFrom s j).1, 0, 0) else ([], (readFrom s j).2)
      else ([], skipTo s.data.toList i, 3)
termination_by s.size - i
decreasing_by
  all_goals
    have h1 := rawTok_lt s _ (by omega) _hr
    have h2 := skipTo_ge s.data.toList i
    omega

theorem readFrom_end (s : ByteArray) (i : Nat) (h : s.size ≤ skipTo s.data.toList i) : readFrom s i = ([], 0, 0) := by
  rw [readFrom, dif_pos h]
theorem readFrom_none (s : ByteArray) (i : Nat) (h : ¬ s.size ≤ skipTo s.data.toList i) (hr : rawTok s (skipTo s.data.toList i) = none) : readFrom s i = ([], skipTo s.data.toList i, 4) := by
  rw [readFrom, dif_neg h]
  split
  · rfl
  · rename_i h2; rw [hr] at h2; cases h2
theorem readFrom_bad (s : ByteArray) (i : Nat) (h : ¬ s.size ≤ skipTo s.data.toList i) {k : Int} {t : ByteArray} {j : Nat} (hr : rawTok s (skipTo s.data.toList i) = some (k, t, j)) (hn : nextErr k t.data.toList (skipTo s.data.toList i) ≠ 0) : readFrom s i = ([], skipTo s.data.toList i, 3) := by
  rw [readFrom, dif_neg h]
  split
  · rename_i h2; rw [hr] at h2; cases h2
  · rename_i h2; rw [hr] at h2; injection h2 with h2; injection h2 with h2 h3; injection h3 with h3 h4; subst h2 h3 h4; rw [if_neg hn]
theorem readFrom_next (s : ByteArray) (i : Nat) (h : ¬ s.size ≤ skipTo s.data.toList i) {k : Int} {t : ByteArray} {j : Nat} (hr : rawTok s (skipTo s.data.toList i) = some (k, t, j)) (hn : nextErr k t.data.toList (skipTo s.data.toList i) = 0) :
    readFrom s i = if (readFrom s j).2.2 = 0 then ((k, t, skipTo s.data.toList i) :: (readFrom s j).1, 0, 0) else ([], (readFrom s j).2) := by
  rw [readFrom, dif_neg h]
  split
  · rename_i h2; rw [hr] at h2; cases h2
  · rename_i h2; rw [hr] at h2; injection h2 with h2; injection h2 with h2 h3; injection h3 with h3 h4; subst h2 h3 h4; rw [if_pos hn]
/-- What is read, if these words have been read already. -/
def after (ts : List Tok) (r : List Tok × Nat × Int) : List Tok × Nat × Int := if r.2.2 = 0 then (ts ++ r.1, 0, 0) else ([], r.2)
theorem after_next (s : ByteArray) (i : Nat) (ts : List Tok) (h : ¬ s.size ≤ skipTo s.data.toList i) {k : Int} {t : ByteArray} {j : Nat} (hr : rawTok s (skipTo s.data.toList i) = some (k, t, j)) (hn : nextErr k t.data.toList (skipTo s.data.toList i) = 0) :
    after ts (readFrom s i) = after (ts ++ [(k, t, skipTo s.data.toList i)]) (readFrom s j) := by
  rw [readFrom_next s i h hr hn]
  unfold after
  by_cases h0 : (readFrom s j).2.2 = 0
  · rw [if_pos h0, if_pos h0, if_pos rfl]; simp
  · rw [if_neg h0, if_neg h0, if_neg h0]
def readAll (s : ByteArray) : List Tok × Nat × Int := if 20000 < s.size then ([], 0, 3) else after [] (readFrom s 0)
def ReadPost (s : ByteArray) (w : World) (e : Ending) (w' : World) : Prop :=
  ∃ v, e = .returned (.tuple #[v, .int .i64 (readAll s).2.1, .int .i64 (readAll s).2.2]) ∧ w'.ownsRow (w.heap.size + 1) 32 3 v (readAll s).1.length (tokCells (readAll s).1) ∧ Below w.heap.size w w'
theorem infoTok : (Tryd.prog.info? 32).map (fun i => (i.zero, i.size, i.bytes)) = some (some (.agg #[.int .i64 0, .string ⟨#[]⟩, .int .i64 0]), 3, 32) := by kernel_rfl

theorem own_ne_reader {w : World} {base : Nat} {e : TypeId} {size n : Nat} {v : Value} {xs : List Value} (h : w.ownsRow (base + 1) e size v n xs) : v.ownBlock = none ∨ v.ownBlock ≠ some base := by
  cases hv : v.ownBlock with
  | none => exact .inl rfl
  | some k => exact .inr (by have := h.lt k hv; intro h2; injection h2; omega)
theorem below_grown_at {w w1 w2 : World} {r : Nat} (h : Below w.heap.size w w1) (hg : w1.grownBy w2 (some r)) (hr : w.heap.size ≤ r) : Below w.heap.size w w2 :=
  h.grown hg h.size (fun k hk => by injection hk; omega)
theorem below_drewN {B : Nat} {a w : World} (h : Below B a w) (n : Nat) : Below B a (w.drewN n) := ⟨h.os, h.tape, h.output, h.size, h.block⟩
theorem err_cases (k : Int) (l : List UInt8) (a : Int) : nextErr k l a = 0 ∨ nextErr k l a = 3 := by unfold nextErr; split <;> simp

theorem reader_grown {w w3 : World} {g : Nat} {s : ByteArray} {i : Nat} {v : Value} {e : TypeId} {size n : Nat} {xs : List Value} {o : Obj} (h : IsR w g s i) (hg : (w.alloc o).grownBy w3 v.ownBlock) (hown : w.ownsRow (g + 1) e size v n xs) : IsR w3 g s i := by
  have hb : g < w.heap.size := (Array.getElem?_eq_some_iff.1 h).1
  have h' : w.heap[g]? = _ := h
  unfold IsR
  rw [hg.block g (by simp; omega) (by intro he; have := hown.lt g he.symm; omega), Below.heap_alloc _ _ _ hb]
  exact h'

set_option maxRecDepth 100000 in
theorem read_any (s : ByteArray) (hs : s.size ≤ 9223372036854775807) (w : World) : Calls Tryd.prog 10 #[.string s] w (ReadPost s w) := by
  by_cases hbig : 20000 < s.size
  · go_enter Tryd.func10, Tryd.ntmps10
    go_wp2
    go_ret3
    have hr : readAll s = ([], 0, 3) := by unfold readAll; rw [if_pos hbig]
    unfold ReadPost
    rw [hr]
    exact ⟨_, rfl, World.ownsRow_nil _ _ _ _, Below.refl _ _⟩
  · have hsm : s.size ≤ 20000 := by omega
    clear hs hbig
    go_enter Tryd.func10, Tryd.ntmps10
    go_wp2
    go_loopg [5] (s.size - 0) (fun g v wr => ∃ (k : Nat) (ts : List Tok), k ≤ s.size ∧ ts.length ≤ k ∧ g = s.size - k ∧ Hid (after ts (readFrom s k) = after [] (readFrom s 0)) ∧ IsR wr w.heap.size s k ∧ wr.ownsRow (w.heap.size + 1) 32 3 v ts.length (tokCells ts) ∧ Below w.heap.size w wr)
    case atStart => exact ⟨0, [], by omega, by simp, rfl, rfl, heap_alloc_new w _, World.ownsRow_nil _ _ _ _, (Below.refl _ _).alloc (Nat.le_refl _) _⟩
    case round =>
      obtain ⟨k, ts, hk, hts, rfl, hsp, hR, hown, hbel⟩ := hrel
      have HR := Lib.hid hR; clear hR
      have HO := Lib.hid hown; clear hown
      have HB := Lib.hid hbel; clear hbel
      go_wp2_with fail
      refine (skip_any w.heap.size s (by omega) k hk _ HR.out).mono ?_
      rintro e w1 ⟨rfl, hR1, hg1⟩
      have hp1 := skipTo_le s.data.toList k (by rw [data_len]; exact hk)
      rw [data_len] at hp1
      have hx := HO.out.kept hg1 (own_ne_reader HO.out)
      have HO1 := Lib.hid hx; clear hx
      have HB1 := Lib.hid (below_grown_at HB.out hg1 (Nat.le_refl _)); clear hg1
      have hc1 := hR1.c1
      have HR1 := Lib.hid hR1; clear hR1
      rcases Nat.lt_or_ge (skipTo s.data.toList k) s.size with hlt | hge
      · have hne : ((skipTo s.data.toList k : Int) == (s.size : Int)) = false := by simp; omega
        have hne2 : (skipTo s.data.toList k == s.size) = false := by simp; omega
        go_wp2_with fail
        refine (next_any w.heap.size s (by omega) _ hlt _ HR1.out).mono ?_
        rintro e w2 ⟨kd, t, j, err, rfl, hR2, hg2, hor⟩
        have hx := HO1.out.kept hg2 (own_ne_reader HO1.out)
        have HO2 := Lib.hid hx; clear hx
        have HB2 := Lib.hid (below_grown_at HB1.out hg2 (Nat.le_refl _)); clear hg2
        have HR2 := Lib.hid hR2; clear hR2
        rcases hor with ⟨hraw, rfl, rfl⟩ | ⟨hraw, rfl⟩
        · have hfin : readAll s = ([], skipTo s.data.toList k, 4) := by
            unfold readAll
            rw [if_neg (by omega), ← hsp.out, readFrom_none s k (by omega) hraw]
            rfl
          have HF := Lib.hid hfin; clear hfin hraw
          go_wp2
          go_quiet (fail)
          go_wp2
          go_ret3
          unfold ReadPost
          rw [HF.out]
          exact ⟨_, rfl, World.ownsRow_nil _ _ _ _, below_drewN (HB2.out.alloc HB2.out.size _) _⟩
        · rcases err_cases kd t.data.toList (skipTo s.data.toList k) with h0 | h3
          · have hstep := after_next s k ts (by omega) hraw h0
            have HST := Lib.hid (hstep.symm.trans hsp.out); clear hstep
            have hj := rawTok_lt s _ hlt hraw
            obtain ⟨hj1, hj2⟩ := hj
            rw [h0]
            clear hraw h0
            go_wp2_with (at_builtin; refine app_cells (w.heap.size + 1) rfl _ _ 22 32 _ 3 32 rfl Tryd.underlying22 infoTok rfl (by decide) (by decide) _ ts.length (tokCells ts) [.int .i64 kd, .string t, .int .i64 (skipTo s.data.toList k)] rfl _ rfl (by simp) rfl (by intro u hu; simp at hu; rcases hu with rfl | rfl | rfl <;> rfl) (HO2.out.alloc _) (by simp; have := HB2.out.size; omega) (by omega) ?_; intro v3 w3 hown3 hg3; have HO3 := Lib.hid hown3; clear hown3; have HG3 := Lib.hid hg3; clear hg3)
            go_roundg (s.size - j)
            case measure => omega
            case rel => exact ⟨j, ts ++ [(kd, t, skipTo s.data.toList k)], hj2, by rw [List.length_append, List.length_singleton]; omega, rfl, HST.out, reader_grown (HR2.out) HG3.out HO2.out, by rw [List.length_append, List.length_singleton, tokCells_snoc]; exact HO3.out, (HB2.out.alloc HB2.out.size _).grown HG3.out (by simp; have := HB2.out.size; omega) (fun q hq => by have := HO2.out.lt q hq; omega)⟩
          · have hfin : readAll s = ([], skipTo s.data.toList k, 3) := by
              unfold readAll
              rw [if_neg (by omega), ← hsp.out, readFrom_bad s k (by omega) hraw (by omega)]
              rfl
            have HF := Lib.hid hfin; clear hfin hraw
            rw [h3]
            clear h3
            go_wp2
            go_quiet (fail)
            go_wp2
            go_ret3
            unfold ReadPost
            rw [HF.out]
            exact ⟨_, rfl, World.ownsRow_nil _ _ _ _, below_drewN (HB2.out.alloc HB2.out.size _) _⟩
      · have hpe : skipTo s.data.toList k = s.size := by omega
        have hfin : readAll s = (ts, 0, 0) := by
          unfold readAll
          rw [if_neg (by omega), ← hsp.out, readFrom_end s k hge]
          simp [after]
        have HF := Lib.hid hfin; clear hfin
        rw [hpe] at hc1
        clear hpe hge hp1
        go_wp2
        go_ret3
        unfold ReadPost
        rw [HF.out]
        exact ⟨_, rfl, HO1.out, HB1.out⟩
end Go.Proofs.YtaccooeodimdaaaDoor
