/- Contracts and plain laws of chapter 12, those that chapter 13 needs (kept by wip/tools/trim13.py). -/
import Derived.Test.YtkcdlbclodjjhaaGreatWa
namespace Go.Proofs.YtkcdlbclodjjhaaGreat
open Go.RowKit

/- Contracts of IndexFunc and ContainsFunc over ints, of circ.Exit and the reference's Exit and Rising. -/

/-- A function value with one captured variable that says q of a number, in one world. -/
structure SaysI (j : FuncId) (x : Value) (W : World) (q : Int → Bool) : Prop where
  run : ∀ (args : Array Value) (W : World), (callFunc j args).run Tryz.prog W = .ok (.enter j args) W
  says : ∀ (c : Int), Calls Tryz.prog j #[.int .i64 c, x] W fun e w' => e = .returned (.bool (q c)) ∧ W = w'
def SomeIdx (b : Bool) (W : World) (e : Ending) (w' : World) : Prop := ∃ n : Int, e = .returned (.int .i64 n) ∧ decide (0 ≤ n) = b ∧ W = w'
theorem any_succ {α : Type} {l : List α} {q : α → Bool} {k : Nat} (h : k < l.length) (h0 : (l.take k).any q = false) (h1 : q l[k] = false) : (l.take (k + 1)).any q = false := by
  rw [List.take_succ_eq_append_getElem h, List.any_append, h0]
  simp [h1]
theorem any_at {α : Type} {l : List α} {q : α → Bool} {k : Nat} (h : k < l.length) (h1 : q l[k] = true) : l.any q = true := List.any_eq_true.2 ⟨_, List.getElem_mem h, h1⟩
set_option maxRecDepth 100000 in
theorem indexI_any (j : FuncId) (x : Value) (q : Int → Bool) (W : World) (hk : SaysI j x W q) (l : List Int) (A : Option Addr) (cap : Nat) (hl : l.length ≤ 9223372036854775807) (hR : Reads W A (iCells l)) :
    Calls Tryz.prog 104 #[.slice A l.length cap, .func (.func j) #[] #[x]] W (SomeIdx (l.any q) W) := by
  have hrun := hk.run
  have HK := Lib.hid hk.says; clear hk
  have HR := Lib.hid hR; clear hR
  go_enter Tryz.func104, Tryz.ntmps104
  go_wp2
  go_loopg [8] l.length (fun g v wr => ∃ k : Nat, k ≤ l.length ∧ g = l.length - k ∧ v = .int .i64 k ∧ Hid ((l.take k).any q = false) ∧ W = wr)
  case atStart => exact ⟨0, Nat.zero_le _, rfl, rfl, rfl, rfl⟩
  case round =>
    obtain ⟨k, hk, rfl, rfl, H0, rfl⟩ := hrel
    by_cases hlt : k < l.length
    · obtain ⟨ad, rfl, q0⟩ := HR.out.i k hlt
      have hs := HK.out l[k]
      rcases Bool.eq_false_or_eq_true (q l[k]) with hq | hq
      · rw [hq] at hs
        have HS := Lib.hid hs; clear hs
        have HQ := Lib.hid hq; clear hq
        go_wp2_with ((with_reducible refine HS.out.mono ?_); rintro e w' ⟨rfl, rfl⟩)
        go_ret
        exact ⟨k, rfl, by rw [any_at hlt HQ.out]; simp, rfl⟩
      · rw [hq] at hs
        have HS := Lib.hid hs; clear hs
        have HN := Lib.hid (any_succ hlt H0.out hq); clear hq
        go_wp2_with ((with_reducible refine HS.out.mono ?_); rintro e w' ⟨rfl, rfl⟩)
        go_roundg (l.length - (k + 1))
        case measure => omega
        case rel => exact ⟨k + 1, by omega, rfl, by go_num, HN.out, rfl⟩
    · obtain rfl : k = l.length := by omega
      have h := H0.out
      rw [List.take_length] at h
      have HN := Lib.hid h; clear h
      go_wp2
      go_ret
      exact ⟨(-1 : Int), rfl, by rw [HN.out]; rfl, rfl⟩
set_option maxRecDepth 100000 in
theorem containsI_any (j : FuncId) (x : Value) (q : Int → Bool) (W : World) (hk : SaysI j x W q) (l : List Int) (A : Option Addr) (cap : Nat) (hl : l.length ≤ 9223372036854775807) (hR : Reads W A (iCells l)) :
    Calls Tryz.prog 97 #[.slice A l.length cap, .func (.func j) #[] #[x]] W (BRet (l.any q) W) := by
  have HI := Lib.hid (indexI_any j x q W hk l A cap hl hR)
  clear hk hR
  go_enter Tryz.func97, Tryz.ntmps97
  go_wp2_with (go_at_call 104; refine HI.out.mono ?_; rintro e w' ⟨n, rfl, hn, rfl⟩; have HN := Lib.hid hn; clear hn)
  go_ret
  exact ⟨ret_bl HN.out, rfl⟩
def outside (gates g : Int) : Bool := decide (g < 0) || decide (gates ≤ g)
set_option maxRecDepth 100000 in
theorem exit1_at (gates : Int) (a : Nat) (W : World) (ha : W.cell? ⟨a, 0, none⟩ = some (.int .i64 gates)) : SaysI 98 (.pointer (some ⟨a, 0, none⟩)) W (outside gates) := by
  refine ⟨fun _ _ => by kernel_rfl, fun c => ?_⟩
  by_cases h : c < 0
  · go_enter Tryz.func98, Tryz.ntmps98
    go_wp2
    go_ret
    exact ⟨ret_bl (by simp [outside, h]), rfl⟩
  · have h' : 0 ≤ c := by omega
    go_enter Tryz.func98, Tryz.ntmps98
    go_wp2
    go_ret
    exact ⟨ret_bl (by simp [outside]; omega), rfl⟩
/-- Strictly ascending numbers of parties, from above last. -/
def risingFrom : Int → List Int → Bool
  | _, [] => true
  | last, x :: r => decide (last < x) && decide (x ≤ 13) && risingFrom x r
def exitErr (gates : Int) (tl gs : List Int) : Int := if risingFrom 0 tl = false then 2 else if 1024 < gs.length then 3 else if gs.any (outside gates) then 13 else 0
theorem rising_drop {l : List Int} {k : Nat} (hk : k < l.length) (last : Int) : risingFrom last (l.drop k) = (decide (last < l[k]) && decide (l[k] ≤ 13) && risingFrom l[k] (l.drop (k + 1))) := by
  rw [List.drop_eq_getElem_cons hk]; rfl
theorem rising_end {l : List Int} (last : Int) : risingFrom last (l.drop l.length) = true := by rw [List.drop_length]; rfl
set_option maxHeartbeats 1000000 in
set_option maxRecDepth 100000 in
theorem exit_any (gates : Int) (tl gs : List Int) (A B : Option Addr) (c d : Nat) (h1 : tl.length ≤ 9223372036854775807) (h2 : gs.length ≤ 9223372036854775807) (w : World) (hA : Reads w A (iCells tl)) (hB : Reads w B (iCells gs)) :
    Calls Tryz.prog 62 #[.int .i64 gates, .agg #[.slice A tl.length c, .slice B gs.length d]] w (GatePost (exitErr gates tl gs) w) := by
  have hb0 : Below w.heap.size w ((w.alloc (.cells #[.int .i64 gates] 3)).alloc (.cells #[.slice A tl.length c, .slice B gs.length d] 44)) := ((Below.refl _ _).alloc (Nat.le_refl _) _).alloc (by simp) _
  have hsay := exit1_at gates w.heap.size ((w.alloc (.cells #[.int .i64 gates] 3)).alloc (.cells #[.slice A tl.length c, .slice B gs.length d] 44)) (by simp)
  have hcon := containsI_any _ _ _ _ hsay gs B d h2 (hB.below hb0)
  have HA := Lib.hid (hA.below hb0)
  have HB0 := Lib.hid hb0
  clear hA hB hsay hb0
  go_enter Tryz.func62, Tryz.ntmps62
  go_wp2
  go_loopg [5, 11] tl.length (fun g a v wr => ∃ (k : Nat) (last : Int), k ≤ tl.length ∧ g = tl.length - k ∧ a = .int .i64 last ∧ v = .int .i64 k ∧ Hid (risingFrom last (tl.drop k) = risingFrom 0 tl) ∧ ((w.alloc (.cells #[.int .i64 gates] 3)).alloc (.cells #[.slice A tl.length c, .slice B gs.length d] 44)) = wr)
  case atStart => exact ⟨0, 0, by omega, rfl, rfl, rfl, rfl, rfl⟩
  case round =>
    obtain ⟨k, last, hk, rfl, rfl, rfl, hd, rfl⟩ := hrel
    by_cases hlt : k < tl.length
    · obtain ⟨ad, rfl, q0⟩ := HA.out.i k hlt
      have hst := rising_drop hlt last
      have HST := Lib.hid (hst.symm.trans hd.out); clear hst hd
      by_cases g1 : last < tl[k]
      · by_cases g2 : tl[k] ≤ 13
        · have HN : Hid (risingFrom tl[k] (tl.drop (k + 1)) = risingFrom 0 tl) := Lib.hid (by have h := HST.out; simpa [g1, g2] using h)
          go_wp2
          go_roundg (tl.length - (k + 1))
          case measure => omega
          case rel => exact ⟨k + 1, tl[k], by omega, rfl, rfl, by go_num, HN.out, rfl⟩
        · have g2' : 13 < tl[k] := by omega
          have HN : Hid (risingFrom 0 tl = false) := Lib.hid (by rw [← HST.out]; simp [g2])
          go_wp2
          go_ret
          exact ⟨ret_e (by unfold exitErr; rw [if_pos HN.out]), HB0.out⟩
      · have g1' : tl[k] ≤ last := by omega
        have HN : Hid (risingFrom 0 tl = false) := Lib.hid (by rw [← HST.out]; simp [g1])
        go_wp2
        go_ret
        exact ⟨ret_e (by unfold exitErr; rw [if_pos HN.out]), HB0.out⟩
    · obtain rfl : k = tl.length := by omega
      have HN := Lib.hid ((rising_end last).symm.trans hd.out).symm; clear hd
      by_cases g3 : 1024 < gs.length
      · go_wp2
        go_ret
        exact ⟨ret_e (by unfold exitErr; rw [if_neg (by rw [HN.out]; simp), if_pos g3]), HB0.out⟩
      · rcases Bool.eq_false_or_eq_true (gs.any (outside gates)) with hq | hq
        all_goals
          rw [hq] at hcon
          have HC := Lib.hid hcon; clear hcon
          have HQ := Lib.hid hq; clear hq
          go_wp2_with (go_at_call 97; refine HC.out.mono ?_; rintro e w' ⟨rfl, rfl⟩)
          go_ret
          exact ⟨ret_e (by unfold exitErr; rw [if_neg (by rw [HN.out]; simp), if_neg g3, HQ.out]; rfl), HB0.out⟩
/- Contracts of the reference's Rising and Exit. -/

theorem add_pos (ad : Addr) (j : Nat) (h : 0 < j) : ad.add j = ⟨ad.block, ad.off + j, none⟩ := by
  unfold Addr.add
  rw [if_neg (by omega)]
theorem add_nil (ad : Addr) : ad.add 0 = ad := by simp [Addr.add]
set_option maxHeartbeats 1000000 in
set_option maxRecDepth 100000 in
theorem rising_any (l : List Int) (hl : l.length ≤ 9223372036854775807) (A : Option Addr) (c : Nat) (w : World) (hR : Reads w A (iCells l)) : Calls Tryz.prog 94 #[.int .i64 13, .slice A l.length c] w (BRet (risingFrom 0 l) w) := by
  have HR := Lib.hid hR; clear hR
  go_enter Tryz.func94, Tryz.ntmps94
  go_wp2
  go_loopg [9] l.length (fun g v wr => ∃ (k : Nat) (last : Int), k ≤ l.length ∧ g = l.length - k ∧ v = .int .i64 k ∧ ((k = 0 ∧ last = 0) ∨ ∃ m, ∃ hm : m < l.length, k = m + 1 ∧ last = l[m] ∧ 1 ≤ last) ∧ Hid (risingFrom last (l.drop k) = risingFrom 0 l) ∧ w = wr)
  case atStart => exact ⟨0, 0, by omega, rfl, rfl, .inl ⟨rfl, rfl⟩, rfl, rfl⟩
  case round =>
    obtain ⟨k, last, hk, rfl, rfl, hor, hd, rfl⟩ := hrel
    by_cases hlt : k < l.length
    · obtain ⟨ad, rfl, q0⟩ := HR.out.i k hlt
      have hst := rising_drop hlt last
      have HST := Lib.hid (hst.symm.trans hd.out); clear hst hd
      by_cases g0 : l[k] < 1
      · have HN : Hid (risingFrom 0 l = false) := Lib.hid (by rw [← HST.out]; rcases hor with ⟨_, rfl⟩ | ⟨m, hm, _, _, hl1⟩ <;> simp <;> omega)
        clear hor
        go_wp2
        go_ret
        exact ⟨ret_bl HN.out.symm, rfl⟩
      have g0' : 1 ≤ l[k] := by omega
      by_cases g2 : l[k] ≤ 13
      · rcases hor with ⟨rfl, rfl⟩ | ⟨m, hm, rfl, rfl, hl1⟩
        · have HN : Hid (risingFrom l[0] (l.drop (0 + 1)) = risingFrom 0 l) := Lib.hid (by have h := HST.out; rw [← h]; simp [g2]; omega)
          rw [add_nil] at q0
          go_wp2
          go_roundg (l.length - (0 + 1))
          case measure => omega
          case rel => exact ⟨0 + 1, l[0], by omega, rfl, by go_num, .inr ⟨0, hlt, rfl, rfl, g0'⟩, HN.out, rfl⟩
        · have r0 := HR.out.some_i m hm
          rw [add_pos _ _ (by omega)] at q0
          have hw : IntKind.i64.wrap ((m : Int) + 1 - 1) = (m : Int) := by rw [IntWalk.i64_in _ (by omega)]; omega
          by_cases g1 : l[m] < l[m + 1]
          · have HN : Hid (risingFrom l[m + 1] (l.drop (m + 1 + 1)) = risingFrom 0 l) := Lib.hid (by have h := HST.out; rw [← h]; simp [g2, g1])
            go_wp2
            go_roundg (l.length - (m + 1 + 1))
            case measure => omega
            case rel => exact ⟨m + 1 + 1, l[m + 1], by omega, rfl, by go_num, .inr ⟨m + 1, hlt, rfl, rfl, g0'⟩, HN.out, rfl⟩
          · have g1' : l[m + 1] ≤ l[m] := by omega
            have HN : Hid (risingFrom 0 l = false) := Lib.hid (by rw [← HST.out]; simp [g1])
            go_wp2
            go_ret
            exact ⟨ret_bl HN.out.symm, rfl⟩
      · have g2' : 13 < l[k] := by omega
        have HN : Hid (risingFrom 0 l = false) := Lib.hid (by rw [← HST.out]; simp [g2])
        clear hor
        go_wp2
        go_ret
        exact ⟨ret_bl HN.out.symm, rfl⟩
    · obtain rfl : k = l.length := by omega
      have HN := Lib.hid ((rising_end last).symm.trans hd.out).symm; clear hd hor
      go_wp2
      go_ret
      exact ⟨ret_bl HN.out.symm, rfl⟩
set_option maxHeartbeats 1000000 in
set_option maxRecDepth 100000 in
theorem rexit_any (gates : Int) (tl gs : List Int) (A B : Option Addr) (c d : Nat) (h1 : tl.length ≤ 9223372036854775807) (h2 : gs.length ≤ 9223372036854775807) (w : World) (hA : Reads w A (iCells tl)) (hB : Reads w B (iCells gs)) :
    Calls Tryz.prog 57 #[.int .i64 gates, .agg #[.slice A tl.length c, .slice B gs.length d]] w (GatePost (exitErr gates tl gs) w) := by
  have hb0 : Below w.heap.size w (w.alloc (.cells #[.slice A tl.length c, .slice B gs.length d] 44)) := (Below.refl _ _).alloc (Nat.le_refl _) _
  have hri := rising_any tl h1 A c _ (hA.below hb0)
  have HB := Lib.hid (hB.below hb0)
  have HB0 := Lib.hid hb0
  clear hA hB hb0
  rcases Bool.eq_false_or_eq_true (risingFrom 0 tl) with hq | hq
  · rw [hq] at hri
    have HRI := Lib.hid hri; clear hri
    have HQ := Lib.hid hq; clear hq
    by_cases g3 : 1024 < gs.length
    · go_enter Tryz.func57, Tryz.ntmps57
      go_wp2_with (go_at_call 94; refine HRI.out.mono ?_; rintro e w' ⟨rfl, rfl⟩)
      go_ret
      exact ⟨ret_e (by unfold exitErr; rw [if_neg (by rw [HQ.out]; simp), if_pos g3]), HB0.out⟩
    · go_enter Tryz.func57, Tryz.ntmps57
      go_wp2_with (go_at_call 94; refine HRI.out.mono ?_; rintro e w' ⟨rfl, rfl⟩)
      go_loopg [18] gs.length (fun g v wr => ∃ k : Nat, k ≤ gs.length ∧ g = gs.length - k ∧ v = .int .i64 k ∧ Hid ((gs.take k).any (outside gates) = false) ∧ (w.alloc (.cells #[.slice A tl.length c, .slice B gs.length d] 44)) = wr)
      case atStart => exact ⟨0, by omega, rfl, rfl, rfl, rfl⟩
      case round =>
        obtain ⟨k, hk, rfl, rfl, hd, rfl⟩ := hrel
        by_cases hlt : k < gs.length
        · obtain ⟨ad, rfl, q0⟩ := HB.out.i k hlt
          by_cases g1 : gs[k] < 0
          · have HN := Lib.hid (any_at (q := outside gates) hlt (by simp [outside, g1])); clear hd
            go_wp2
            go_ret
            exact ⟨ret_e (by unfold exitErr; rw [if_neg (by rw [HQ.out]; simp), if_neg g3, if_pos HN.out]), HB0.out⟩
          have g1' : 0 ≤ gs[k] := by omega
          by_cases g2 : gates ≤ gs[k]
          · have HN := Lib.hid (any_at (q := outside gates) hlt (by simp [outside, g2])); clear hd
            go_wp2
            go_ret
            exact ⟨ret_e (by unfold exitErr; rw [if_neg (by rw [HQ.out]; simp), if_neg g3, if_pos HN.out]), HB0.out⟩
          · have g2' : gs[k] < gates := by omega
            have HN := Lib.hid (any_succ (q := outside gates) hlt hd.out (by simp [outside]; omega)); clear hd
            go_wp2
            go_roundg (gs.length - (k + 1))
            case measure => omega
            case rel => exact ⟨k + 1, by omega, rfl, by go_num, HN.out, rfl⟩
        · obtain rfl : k = gs.length := by omega
          have h := hd.out
          rw [List.take_length] at h
          have HN := Lib.hid h; clear h hd
          go_wp2
          go_ret
          exact ⟨ret_e (by unfold exitErr; rw [if_neg (by rw [HQ.out]; simp), if_neg g3, if_neg (by rw [HN.out]; simp)]), HB0.out⟩
  · rw [hq] at hri
    have HRI := Lib.hid hri; clear hri
    have HQ := Lib.hid hq; clear hq
    go_enter Tryz.func57, Tryz.ntmps57
    go_wp2_with (go_at_call 94; refine HRI.out.mono ?_; rintro e w' ⟨rfl, rfl⟩)
    go_ret
    exact ⟨ret_e (by unfold exitErr; rw [if_pos HQ.out]), HB0.out⟩
/- A circuit in memory; the slots' test; contract of circ.Check. -/

abbrev Slo := Int × Bool
abbrev Gat := Int × Int × Int × Int
structure Exi where
  tl : List Int
  gl : List Int
  A : Option Addr
  B : Option Addr
  c : Nat
  d : Nat
structure Cir where
  slots : List Slo
  gates : List Gat
  exits : List Exi
  SA : Option Addr
  GA : Option Addr
  EA : Option Addr
  sc : Nat
  gc : Nat
  ec : Nat
def sloCells (l : List Slo) : List Value := l.flatMap fun x => [.int .i64 x.1, .bool x.2]
def gatCells (l : List Gat) : List Value := l.flatMap fun g => [.int .i64 g.1, .int .i64 g.2.1, .int .i64 g.2.2.1, .int .u64 g.2.2.2]
def exiCells (l : List Exi) : List Value := l.flatMap fun x => [.slice x.A x.tl.length x.c, .slice x.B x.gl.length x.d]
structure HoldsC (w : World) (C : Cir) : Prop where
  s : Reads w C.SA (sloCells C.slots)
  g : Reads w C.GA (gatCells C.gates)
  e : Reads w C.EA (exiCells C.exits)
  x : ∀ x ∈ C.exits, Reads w x.A (iCells x.tl) ∧ Reads w x.B (iCells x.gl)
  n : C.slots.length ≤ 9223372036854775807 ∧ C.gates.length ≤ 9223372036854775807 ∧ C.exits.length ≤ 9223372036854775807
  m : ∀ x ∈ C.exits, x.tl.length ≤ 9223372036854775807 ∧ x.gl.length ≤ 9223372036854775807
  k : ∀ g ∈ C.gates, 0 ≤ g.2.2.2
theorem HoldsC.below {w w' : World} {C : Cir} (h : HoldsC w C) (hb : Below w.heap.size w w') : HoldsC w' C :=
  ⟨h.s.below hb, h.g.below hb, h.e.below hb, fun x hx => ⟨(h.x x hx).1.below hb, (h.x x hx).2.below hb⟩, h.n, h.m, h.k⟩
theorem flat_at {α : Type} (f : α → List Value) (n : Nat) (hf : ∀ x, (f x).length = n) (l : List α) (k : Nat) (h : k < l.length) (j : Nat) (hj : j < n) : (l.flatMap f)[k * n + j]? = (f l[k])[j]? := by
  induction l generalizing k with
  | nil => simp at h
  | cons x r ih =>
    rw [List.flatMap_cons]
    cases k with
    | zero => rw [List.getElem?_append_left (by rw [hf]; omega)]; simp
    | succ k =>
      rw [List.getElem?_append_right (by rw [hf, Nat.succ_mul]; omega), hf, show (k + 1) * n + j - n = k * n + j by rw [Nat.succ_mul]; omega]
      simpa using ih k (by simpa using h)
theorem add_part (ad : Addr) (m j : Nat) (hj : 0 < j) : ad.add (m + j) = ⟨(ad.add m).block, (ad.add m).off + j, none⟩ := by
  unfold Addr.add
  rw [if_neg (by omega)]
  split
  · rename_i h; subst h; simp
  · simp [Nat.add_assoc]
theorem Reads.slo {w : World} {A : Option Addr} {l : List Slo} (h : Reads w A (sloCells l)) (k : Nat) (hk : k < l.length) :
    ∃ ad, A = some ad ∧ w.cell? (ad.add (k * 2)) = some (.int .i64 l[k].1) ∧ w.cell? ⟨(ad.add (k * 2)).block, (ad.add (k * 2)).off + 1, none⟩ = some (.bool l[k].2) := by
  have e := flat_at (fun x : Slo => [.int .i64 x.1, .bool x.2]) 2 (fun _ => rfl) l k hk
  rcases h with h | ⟨ad, h1, h2⟩
  · have := e 0 (by omega); unfold sloCells at h; rw [h] at this; simp at this
  · refine ⟨ad, h1, h2 (k * 2) _ (e 0 (by omega)), ?_⟩
    rw [← add_part _ _ 1 (by omega)]
    exact h2 _ _ (e 1 (by omega))
theorem Reads.gat {w : World} {A : Option Addr} {l : List Gat} (h : Reads w A (gatCells l)) (k : Nat) (hk : k < l.length) :
    ∃ ad, A = some ad ∧ w.cell? (ad.add (k * 4)) = some (.int .i64 l[k].1) ∧ w.cell? ⟨(ad.add (k * 4)).block, (ad.add (k * 4)).off + 1, none⟩ = some (.int .i64 l[k].2.1) ∧ w.cell? ⟨(ad.add (k * 4)).block, (ad.add (k * 4)).off + 2, none⟩ = some (.int .i64 l[k].2.2.1) ∧ w.cell? ⟨(ad.add (k * 4)).block, (ad.add (k * 4)).off + 3, none⟩ = some (.int .u64 l[k].2.2.2) := by
  have e := flat_at (fun g : Gat => [.int .i64 g.1, .int .i64 g.2.1, .int .i64 g.2.2.1, .int .u64 g.2.2.2]) 4 (fun _ => rfl) l k hk
  rcases h with h | ⟨ad, h1, h2⟩
  · have := e 0 (by omega); unfold gatCells at h; rw [h] at this; simp at this
  · refine ⟨ad, h1, h2 (k * 4) _ (e 0 (by omega)), ?_⟩
    rw [← add_part _ _ 1 (by omega), ← add_part _ _ 2 (by omega), ← add_part _ _ 3 (by omega)]
    exact ⟨h2 _ _ (e 1 (by omega)), h2 _ _ (e 2 (by omega)), h2 _ _ (e 3 (by omega))⟩
theorem Reads.exi {w : World} {A : Option Addr} {l : List Exi} (h : Reads w A (exiCells l)) (k : Nat) (hk : k < l.length) :
    ∃ ad, A = some ad ∧ w.cell? (ad.add (k * 2)) = some (.slice l[k].A l[k].tl.length l[k].c) ∧ w.cell? ⟨(ad.add (k * 2)).block, (ad.add (k * 2)).off + 1, none⟩ = some (.slice l[k].B l[k].gl.length l[k].d) := by
  have e := flat_at (fun x : Exi => [.slice x.A x.tl.length x.c, .slice x.B x.gl.length x.d]) 2 (fun _ => rfl) l k hk
  rcases h with h | ⟨ad, h1, h2⟩
  · have := e 0 (by omega); unfold exiCells at h; rw [h] at this; simp at this
  · refine ⟨ad, h1, h2 (k * 2) _ (e 0 (by omega)), ?_⟩
    rw [← add_part _ _ 1 (by omega)]
    exact h2 _ _ (e 1 (by omega))
def badSlot (x : Slo) : Bool := decide (x.1 < 1) || decide (13 < x.1)
end Go.Proofs.YtkcdlbclodjjhaaGreat
