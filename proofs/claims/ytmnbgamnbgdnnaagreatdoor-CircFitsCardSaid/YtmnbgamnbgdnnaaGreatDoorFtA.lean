/- Contracts of circ.Fits and its closures. -/
import Derived.Test.YtmnbgamnbgdnnaaGreatDoorMa
namespace Go.Proofs.YtmnbgamnbgdnnaaGreatDoor
open Go.RowKit

theorem below_twoF {W w1 w2 : World} (h1 : Below W.heap.size W w1) (h2 : Below w1.heap.size w1 w2) : Below W.heap.size W w2 := h1.trans (h2.mono h1.size)
/-- A function value with one captured variable that says q of a slot, wherever inv holds. -/
structure SaysSG (j : FuncId) (x : Value) (inv : World → Prop) (q : Slo → Bool) : Prop where
  run : ∀ (args : Array Value) (W : World), (callFunc j args).run Tryz.prog W = .ok (.enter j args) W
  says : ∀ (z : Slo) (W : World), inv W → Calls Tryz.prog j #[.agg #[.int .i64 z.1, .bool z.2], x] W fun e w' => e = .returned (.bool (q z)) ∧ Below W.heap.size W w'
set_option maxRecDepth 100000 in
theorem indexSG_any (j : FuncId) (x : Value) (inv : World → Prop) (q : Slo → Bool) (hk : SaysSG j x inv q) (hinv : ∀ W W', inv W → Below W.heap.size W W' → inv W') (W : World) (hi : inv W) (l : List Slo) (A : Option Addr) (cap : Nat) (hl : l.length ≤ 9223372036854775807) (hR : Reads W A (sloCells l)) :
    Calls Tryz.prog 76 #[.slice A l.length cap, .func (.func j) #[] #[x]] W (SomeIdxB (l.any q) W) := by
  have hrun := hk.run
  have HK := Lib.hid hk.says; clear hk
  have HR := Lib.hid hR; clear hR
  have HI := Lib.hid (fun W' => hinv W W' hi); clear hi hinv
  go_enter Tryz.func76, Tryz.ntmps76
  go_wp2
  go_loopg [8] l.length (fun g v wr => ∃ k : Nat, k ≤ l.length ∧ g = l.length - k ∧ v = .int .i64 k ∧ Hid ((l.take k).any q = false) ∧ Below W.heap.size W wr)
  case atStart => exact ⟨0, Nat.zero_le _, rfl, rfl, rfl, Below.refl _ _⟩
  case round =>
    obtain ⟨k, hk, rfl, rfl, H0, hbel⟩ := hrel
    have HB := Lib.hid hbel; clear hbel
    by_cases hlt : k < l.length
    · obtain ⟨ad, rfl, q0, q1⟩ := (HR.out.below HB.out).slo k hlt
      have hs := HK.out l[k] wr (HI.out wr HB.out)
      rcases Bool.eq_false_or_eq_true (q l[k]) with hq | hq
      · rw [hq] at hs
        have HS := Lib.hid hs; clear hs
        have HQ := Lib.hid hq; clear hq
        go_wp2_with ((with_reducible refine HS.out.mono ?_); rintro e w' ⟨rfl, hb2⟩; have HB2 := Lib.hid hb2; clear hb2)
        go_ret
        exact ⟨k, rfl, by rw [any_at hlt HQ.out]; simp, below_twoF HB.out HB2.out⟩
      · rw [hq] at hs
        have HS := Lib.hid hs; clear hs
        have HN := Lib.hid (any_succ hlt H0.out hq); clear hq
        go_wp2_with ((with_reducible refine HS.out.mono ?_); rintro e w' ⟨rfl, hb2⟩; have HB2 := Lib.hid hb2; clear hb2)
        go_roundg (l.length - (k + 1))
        case measure => omega
        case rel => exact ⟨k + 1, by omega, rfl, by go_num, HN.out, below_twoF HB.out HB2.out⟩
    · obtain rfl : k = l.length := by omega
      have h := H0.out
      rw [List.take_length] at h
      have HN := Lib.hid h; clear h
      go_wp2
      go_ret
      exact ⟨(-1 : Int), rfl, by rw [HN.out]; rfl, HB.out⟩
def BRetB (b : Bool) (w : World) (e : Ending) (w' : World) : Prop := e = .returned (.bool b) ∧ Below w.heap.size w w'
set_option maxRecDepth 100000 in
theorem containsSG_any (j : FuncId) (x : Value) (inv : World → Prop) (q : Slo → Bool) (hk : SaysSG j x inv q) (hinv : ∀ W W', inv W → Below W.heap.size W W' → inv W') (W : World) (hi : inv W) (l : List Slo) (A : Option Addr) (cap : Nat) (hl : l.length ≤ 9223372036854775807) (hR : Reads W A (sloCells l)) :
    Calls Tryz.prog 35 #[.slice A l.length cap, .func (.func j) #[] #[x]] W (BRetB (l.any q) W) := by
  have HI := Lib.hid (indexSG_any j x inv q hk hinv W hi l A cap hl hR)
  clear hk hR hi hinv
  go_enter Tryz.func35, Tryz.ntmps35
  go_wp2_with (go_at_call 76; refine HI.out.mono ?_; rintro e w' ⟨n, rfl, hn, hb⟩; have HN := Lib.hid hn; have HB := Lib.hid hb; clear hn hb)
  go_ret
  exact ⟨ret_bl HN.out, HB.out⟩
/-- A function value with one captured variable that says q of an exit, wherever inv holds. -/
structure SaysXG (j : FuncId) (x : Value) (inv : World → Prop) (q : Exi → Bool) : Prop where
  run : ∀ (args : Array Value) (W : World), (callFunc j args).run Tryz.prog W = .ok (.enter j args) W
  says : ∀ (z : Exi) (W : World), z.tl.length ≤ 9223372036854775807 → Reads W z.A (iCells z.tl) → inv W → Calls Tryz.prog j #[.agg #[.slice z.A z.tl.length z.c, .slice z.B z.gl.length z.d], x] W fun e w' => e = .returned (.bool (q z)) ∧ Below W.heap.size W w'
set_option maxRecDepth 100000 in
theorem indexXG_any (j : FuncId) (x : Value) (inv : World → Prop) (q : Exi → Bool) (hk : SaysXG j x inv q) (hinv : ∀ W W', inv W → Below W.heap.size W W' → inv W') (W : World) (hi : inv W) (l : List Exi) (A : Option Addr) (cap : Nat) (hl : l.length ≤ 9223372036854775807) (hR : Reads W A (exiCells l))
    (hx : ∀ z ∈ l, z.tl.length ≤ 9223372036854775807 ∧ Reads W z.A (iCells z.tl)) :
    Calls Tryz.prog 96 #[.slice A l.length cap, .func (.func j) #[] #[x]] W (SomeIdxB (l.any q) W) := by
  have hrun := hk.run
  have HK := Lib.hid hk.says; clear hk
  have HR := Lib.hid hR; clear hR
  have HX := Lib.hid hx; clear hx
  have HI := Lib.hid (fun W' => hinv W W' hi); clear hi hinv
  go_enter Tryz.func96, Tryz.ntmps96
  go_wp2
  go_loopg [8] l.length (fun g v wr => ∃ k : Nat, k ≤ l.length ∧ g = l.length - k ∧ v = .int .i64 k ∧ Hid ((l.take k).any q = false) ∧ Below W.heap.size W wr)
  case atStart => exact ⟨0, Nat.zero_le _, rfl, rfl, rfl, Below.refl _ _⟩
  case round =>
    obtain ⟨k, hk, rfl, rfl, H0, hbel⟩ := hrel
    have HB := Lib.hid hbel; clear hbel
    by_cases hlt : k < l.length
    · obtain ⟨ad, rfl, q0, q1⟩ := (HR.out.below HB.out).exi k hlt
      obtain ⟨m1, r1⟩ := HX.out _ (List.getElem_mem hlt)
      have hs := HK.out l[k] wr m1 (r1.below HB.out) (HI.out wr HB.out)
      clear m1 r1
      rcases Bool.eq_false_or_eq_true (q l[k]) with hq | hq
      · rw [hq] at hs
        have HS := Lib.hid hs; clear hs
        have HQ := Lib.hid hq; clear hq
        go_wp2_with ((with_reducible refine HS.out.mono ?_); rintro e w' ⟨rfl, hb2⟩; have HB2 := Lib.hid hb2; clear hb2)
        go_ret
        exact ⟨k, rfl, by rw [any_at hlt HQ.out]; simp, below_twoF HB.out HB2.out⟩
      · rw [hq] at hs
        have HS := Lib.hid hs; clear hs
        have HN := Lib.hid (any_succ hlt H0.out hq); clear hq
        go_wp2_with ((with_reducible refine HS.out.mono ?_); rintro e w' ⟨rfl, hb2⟩; have HB2 := Lib.hid hb2; clear hb2)
        go_roundg (l.length - (k + 1))
        case measure => omega
        case rel => exact ⟨k + 1, by omega, rfl, by go_num, HN.out, below_twoF HB.out HB2.out⟩
    · obtain rfl : k = l.length := by omega
      have h := H0.out
      rw [List.take_length] at h
      have HN := Lib.hid h; clear h
      go_wp2
      go_ret
      exact ⟨(-1 : Int), rfl, by rw [HN.out]; rfl, HB.out⟩
set_option maxRecDepth 100000 in
theorem containsXG_any (j : FuncId) (x : Value) (inv : World → Prop) (q : Exi → Bool) (hk : SaysXG j x inv q) (hinv : ∀ W W', inv W → Below W.heap.size W W' → inv W') (W : World) (hi : inv W) (l : List Exi) (A : Option Addr) (cap : Nat) (hl : l.length ≤ 9223372036854775807) (hR : Reads W A (exiCells l))
    (hx : ∀ z ∈ l, z.tl.length ≤ 9223372036854775807 ∧ Reads W z.A (iCells z.tl)) :
    Calls Tryz.prog 72 #[.slice A l.length cap, .func (.func j) #[] #[x]] W (BRetB (l.any q) W) := by
  have HI := Lib.hid (indexXG_any j x inv q hk hinv W hi l A cap hl hR hx)
  clear hk hR hi hinv hx
  go_enter Tryz.func72, Tryz.ntmps72
  go_wp2_with (go_at_call 96; refine HI.out.mono ?_; rintro e w' ⟨n, rfl, hn, hb⟩; have HN := Lib.hid hn; have HB := Lib.hid hb; clear hn hb)
  go_ret
  exact ⟨ret_bl HN.out, HB.out⟩
/-- Above the number of parties. -/
def aboveN (N c : Int) : Bool := decide (N < c)
set_option maxRecDepth 100000 in
theorem fits1_at (N : Int) (a : Nat) (W : World) (ha : W.cell? ⟨a, 1, none⟩ = some (.int .i64 N)) : SaysI 70 (.pointer (some ⟨a, 0, none⟩)) W (aboveN N) := by
  refine ⟨fun _ _ => by kernel_rfl, fun c => ?_⟩
  go_enter Tryz.func70, Tryz.ntmps70
  go_wp2
  go_ret
  exact ⟨ret_bl (by simp [aboveN]), rfl⟩
/-- The setup's box and the closure's cell. -/
def FInv (N : Int) (a b : Nat) (W : World) : Prop := W.cell? ⟨a, 1, none⟩ = some (.int .i64 N) ∧ W.cell? ⟨b, 0, none⟩ = some (.func (.func 70) #[] #[.pointer (some ⟨a, 0, none⟩)])
theorem FInv.below {N : Int} {a b : Nat} {W W' : World} (h : FInv N a b W) (hb : Below W.heap.size W W') : FInv N a b W' :=
  ⟨(hb.cell (World.block_lt_of_cell? W _ h.1)).trans h.1, (hb.cell (World.block_lt_of_cell? W _ h.2)).trans h.2⟩
set_option maxRecDepth 100000 in
theorem fits2_says (N : Int) (a b : Nat) : SaysSG 71 (.pointer (some ⟨b, 0, none⟩)) (FInv N a b) (fun z => aboveN N z.1) := by
  refine ⟨fun _ _ => by kernel_rfl, fun z W hi => ?_⟩
  have hb0 : Below W.heap.size W (W.alloc (.cells #[.int .i64 z.1, .bool z.2] 54)) := (Below.refl _ _).alloc (Nat.le_refl _) _
  have hi2 := hi.below hb0
  have hs := (fits1_at N a _ hi2.1).says z.1
  have c0 := hi2.2
  have hrun : ∀ (args : Array Value) (W : World), (callFunc 70 args).run Tryz.prog W = .ok (.enter 70 args) W := fun _ _ => by kernel_rfl
  have HS := Lib.hid hs
  have HB := Lib.hid hb0
  clear hi hi2 hs hb0
  go_enter Tryz.func71, Tryz.ntmps71
  go_wp2_with ((with_reducible refine HS.out.mono ?_); rintro e w' ⟨rfl, rfl⟩)
  go_ret
  exact ⟨rfl, HB.out⟩
set_option maxRecDepth 100000 in
theorem fits3_says (N : Int) (a b : Nat) : SaysXG 73 (.pointer (some ⟨b, 0, none⟩)) (FInv N a b) (fun z => z.tl.any (aboveN N)) := by
  refine ⟨fun _ _ => by kernel_rfl, fun z W hm hr hi => ?_⟩
  have hb0 : Below W.heap.size W (W.alloc (.cells #[.slice z.A z.tl.length z.c, .slice z.B z.gl.length z.d] 72)) := (Below.refl _ _).alloc (Nat.le_refl _) _
  have hi2 := hi.below hb0
  have hs := containsI_any _ _ _ _ (fits1_at N a _ hi2.1) z.tl z.A z.c hm (hr.below hb0)
  have c0 := hi2.2
  have HS := Lib.hid hs
  have HB := Lib.hid hb0
  clear hi hi2 hs hb0 hr
  go_enter Tryz.func73, Tryz.ntmps73
  go_wp2_with (go_at_call 74; refine HS.out.mono ?_; rintro e w' ⟨rfl, rfl⟩)
  go_ret
  exact ⟨rfl, HB.out⟩
def badSetup (p : Nat) (N T : Int) : Prop := isP p = false ∨ N < 1 ∨ 13 < N ∨ T < 0 ∨ N < 4 * T + 1 ∨ (p : Int) ≤ N
instance (p : Nat) (N T : Int) : Decidable (badSetup p N T) := by unfold badSetup; infer_instance
def anyAbove (N : Int) (C : Cir) : Bool := C.slots.any (fun z => aboveN N z.1) || C.exits.any (fun z => z.tl.any (aboveN N))
def fitErr (p : Nat) (N T : Int) (C : Cir) : Int := if badSetup p N T then 2 else if checkErr p C ≠ 0 then checkErr p C else if anyAbove N C then 2 else 0
section
variable (p : Nat) (hp : p < 18446744073709551616) (N T : Int) (C : Cir) (w : World)
include hp
set_option maxHeartbeats 2000000 in
set_option maxRecDepth 100000 in
theorem fits_set (hbad : badSetup p N T) : Calls Tryz.prog 29 #[.agg #[.int .u64 p, .int .i64 N, .int .i64 T], .agg #[.slice C.SA C.slots.length C.sc, .slice C.GA C.gates.length C.gc, .slice C.EA C.exits.length C.ec]] w (GatePost 2 w) := by
  have hb0 : Below w.heap.size w ((w.alloc (.cells #[.int .u64 p, .int .i64 N, .int .i64 T] 58)).alloc (.cells #[.slice C.SA C.slots.length C.sc, .slice C.GA C.gates.length C.gc, .slice C.EA C.exits.length C.ec] 27)) := ((Below.refl _ _).alloc (Nat.le_refl _) _).alloc (by simp) _
  have HB0 := Lib.hid hb0; clear hb0
  have his := is_any p hp
  by_cases h1 : isP p = false
  · rw [h1] at his
    have HIS := Lib.hid his; clear his hbad h1
    go_enter Tryz.func29, Tryz.ntmps29
    go_wp2_with (go_at_call 34; refine (HIS.out _).mono ?_; rintro e w1 ⟨rfl, rfl⟩)
    go_ret
    exact ⟨rfl, HB0.out⟩
  have h1' : isP p = true := by simpa using h1
  rw [h1'] at his
  have HIS := Lib.hid his
  obtain ⟨p3, pm, _⟩ := (isP_iff p).1 h1'
  clear his
  by_cases h2 : N < 1
  · clear hbad h1 h1'
    go_enter Tryz.func29, Tryz.ntmps29
    go_wp2_with (go_at_call 34; refine (HIS.out _).mono ?_; rintro e w1 ⟨rfl, rfl⟩)
    go_ret
    exact ⟨rfl, HB0.out⟩
  have i2 : 1 ≤ N := by omega
  by_cases h3 : 13 < N
  · clear hbad h1 h1' h2
    go_enter Tryz.func29, Tryz.ntmps29
    go_wp2_with (go_at_call 34; refine (HIS.out _).mono ?_; rintro e w1 ⟨rfl, rfl⟩)
    go_ret
    exact ⟨rfl, HB0.out⟩
  have i3 : N ≤ 13 := by omega
  by_cases h4 : T < 0
  · clear hbad h1 h1' h2 h3
    go_enter Tryz.func29, Tryz.ntmps29
    go_wp2_with (go_at_call 34; refine (HIS.out _).mono ?_; rintro e w1 ⟨rfl, rfl⟩)
    go_ret
    exact ⟨rfl, HB0.out⟩
  have i4 : 0 ≤ T := by omega
  by_cases h5 : N < T
  · clear hbad h1 h1' h2 h3 h4
    go_enter Tryz.func29, Tryz.ntmps29
    go_wp2_with (go_at_call 34; refine (HIS.out _).mono ?_; rintro e w1 ⟨rfl, rfl⟩)
    go_ret
    exact ⟨rfl, HB0.out⟩
  have i5 : T ≤ N := by omega
  by_cases h6 : N < 4 * T + 1
  · clear hbad h1 h1' h2 h3 h4 h5
    go_enter Tryz.func29, Tryz.ntmps29
    go_wp2_with (go_at_call 34; refine (HIS.out _).mono ?_; rintro e w1 ⟨rfl, rfl⟩)
    go_ret
    exact ⟨rfl, HB0.out⟩
  have i6 : 4 * T + 1 ≤ N := by omega
  have i7 : (p : Int) ≤ N := by
    rcases hbad with h | h | h | h | h | h
    · exact absurd h h1
    all_goals omega
  clear hbad h1 h1' h2 h3 h4 h5 h6
  go_enter Tryz.func29, Tryz.ntmps29
  go_wp2_with (go_at_call 34; refine (HIS.out _).mono ?_; rintro e w1 ⟨rfl, rfl⟩)
  go_ret
  exact ⟨rfl, HB0.out⟩
end
end Go.Proofs.YtmnbgamnbgdnnaaGreatDoor
