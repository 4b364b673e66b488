/- A circuit in memory; the slots' test; contract of circ.Check. -/
import Derived.Test.YtmnbgamnbgdnnaaGreatDoorCirC
namespace Go.Proofs.YtmnbgamnbgdnnaaGreatDoor
open Go.RowKit

abbrev Slo := Int × Bool
abbrev Gat := Int × Int × Int × Int
structure Exi where
  tl : List Int
  gl : List Int
  A : Option Addr
  B : Option Addr
  c : Nat
  d : Nat
structure Cir where
  slots : List Slo
  gates : List Gat
  exits : List Exi
  SA : Option Addr
  GA : Option Addr
  EA : Option Addr
  sc : Nat
  gc : Nat
  ec : Nat
def sloCells (l : List Slo) : List Value := l.flatMap fun x => [.int .i64 x.1, .bool x.2]
def gatCells (l : List Gat) : List Value := l.flatMap fun g => [.int .i64 g.1, .int .i64 g.2.1, .int .i64 g.2.2.1, .int .u64 g.2.2.2]
def exiCells (l : List Exi) : List Value := l.flatMap fun x => [.slice x.A x.tl.length x.c, .slice x.B x.gl.length x.d]
structure HoldsC (w : World) (C : Cir) : Prop where
  s : Reads w C.SA (sloCells C.slots)
  g : Reads w C.GA (gatCells C.gates)
  e : Reads w C.EA (exiCells C.exits)
  x : ∀ x ∈ C.exits, Reads w x.A (iCells x.tl) ∧ Reads w x.B (iCells x.gl)
  n : C.slots.length ≤ 9223372036854775807 ∧ C.gates.length ≤ 9223372036854775807 ∧ C.exits.length ≤ 9223372036854775807
  m : ∀ x ∈ C.exits, x.tl.length ≤ 9223372036854775807 ∧ x.gl.length ≤ 9223372036854775807
  k : ∀ g ∈ C.gates, 0 ≤ g.2.2.2
theorem HoldsC.below {w w' : World} {C : Cir} (h : HoldsC w C) (hb : Below w.heap.size w w') : HoldsC w' C :=
  ⟨h.s.below hb, h.g.below hb, h.e.below hb, fun x hx => ⟨(h.x x hx).1.below hb, (h.x x hx).2.below hb⟩, h.n, h.m, h.k⟩
theorem flat_at {α : Type} (f : α → List Value) (n : Nat) (hf : ∀ x, (f x).length = n) (l : List α) (k : Nat) (h : k < l.length) (j : Nat) (hj : j < n) : (l.flatMap f)[k * n + j]? = (f l[k])[j]? := by
  induction l generalizing k with
  | nil => simp at h
  | cons x r ih =>
    rw [List.flatMap_cons]
    cases k with
    | zero => rw [List.getElem?_append_left (by rw [hf]; omega)]; simp
    | succ k =>
      rw [List.getElem?_append_right (by rw [hf, Nat.succ_mul]; omega), hf, show (k + 1) * n + j - n = k * n + j by rw [Nat.succ_mul]; omega]
      simpa using ih k (by simpa using h)
theorem add_part (ad : Addr) (m j : Nat) (hj : 0 < j) : ad.add (m + j) = ⟨(ad.add m).block, (ad.add m).off + j, none⟩ := by
  unfold Addr.add
  rw [if_neg (by omega)]
  split
  · rename_i h; subst h; simp
  · simp [Nat.add_assoc]
theorem Reads.slo {w : World} {A : Option Addr} {l : List Slo} (h : Reads w A (sloCells l)) (k : Nat) (hk : k < l.length) :
    ∃ ad, A = some ad ∧ w.cell? (ad.add (k * 2)) = some (.int .i64 l[k].1) ∧ w.cell? ⟨(ad.add (k * 2)).block, (ad.add (k * 2)).off + 1, none⟩ = some (.bool l[k].2) := by
  have e := flat_at (fun x : Slo => [.int .i64 x.1, .bool x.2]) 2 (fun _ => rfl) l k hk
  rcases h with h | ⟨ad, h1, h2⟩
  · have := e 0 (by omega); unfold sloCells at h; rw [h] at this; simp at this
  · refine ⟨ad, h1, h2 (k * 2) _ (e 0 (by omega)), ?_⟩
    rw [← add_part _ _ 1 (by omega)]
    exact h2 _ _ (e 1 (by omega))
theorem Reads.gat {w : World} {A : Option Addr} {l : List Gat} (h : Reads w A (gatCells l)) (k : Nat) (hk : k < l.length) :
    ∃ ad, A = some ad ∧ w.cell? (ad.add (k * 4)) = some (.int .i64 l[k].1) ∧ w.cell? ⟨(ad.add (k * 4)).block, (ad.add (k * 4)).off + 1, none⟩ = some (.int .i64 l[k].2.1) ∧ w.cell? ⟨(ad.add (k * 4)).block, (ad.add (k * 4)).off + 2, none⟩ = some (.int .i64 l[k].2.2.1) ∧ w.cell? ⟨(ad.add (k * 4)).block, (ad.add (k * 4)).off + 3, none⟩ = some (.int .u64 l[k].2.2.2) := by
  have e := flat_at (fun g : Gat => [.int .i64 g.1, .int .i64 g.2.1, .int .i64 g.2.2.1, .int .u64 g.2.2.2]) 4 (fun _ => rfl) l k hk
  rcases h with h | ⟨ad, h1, h2⟩
  · have := e 0 (by omega); unfold gatCells at h; rw [h] at this; simp at this
  · refine ⟨ad, h1, h2 (k * 4) _ (e 0 (by omega)), ?_⟩
    rw [← add_part _ _ 1 (by omega), ← add_part _ _ 2 (by omega), ← add_part _ _ 3 (by omega)]
    exact ⟨h2 _ _ (e 1 (by omega)), h2 _ _ (e 2 (by omega)), h2 _ _ (e 3 (by omega))⟩
theorem Reads.exi {w : World} {A : Option Addr} {l : List Exi} (h : Reads w A (exiCells l)) (k : Nat) (hk : k < l.length) :
    ∃ ad, A = some ad ∧ w.cell? (ad.add (k * 2)) = some (.slice l[k].A l[k].tl.length l[k].c) ∧ w.cell? ⟨(ad.add (k * 2)).block, (ad.add (k * 2)).off + 1, none⟩ = some (.slice l[k].B l[k].gl.length l[k].d) := by
  have e := flat_at (fun x : Exi => [.slice x.A x.tl.length x.c, .slice x.B x.gl.length x.d]) 2 (fun _ => rfl) l k hk
  rcases h with h | ⟨ad, h1, h2⟩
  · have := e 0 (by omega); unfold exiCells at h; rw [h] at this; simp at this
  · refine ⟨ad, h1, h2 (k * 2) _ (e 0 (by omega)), ?_⟩
    rw [← add_part _ _ 1 (by omega)]
    exact h2 _ _ (e 1 (by omega))

def badSlot (x : Slo) : Bool := decide (x.1 < 1) || decide (13 < x.1)
/-- A function value that says q of a slot. -/
structure SaysS (j : FuncId) (q : Slo → Bool) : Prop where
  run : ∀ (args : Array Value) (W : World), (callFunc j args).run Tryz.prog W = .ok (.enter j args) W
  says : ∀ (x : Slo) (W : World), Calls Tryz.prog j #[.agg #[.int .i64 x.1, .bool x.2]] W fun e w' => e = .returned (.bool (q x)) ∧ Below W.heap.size W w'
set_option maxRecDepth 100000 in
theorem check1_says : SaysS 36 badSlot := by
  refine ⟨fun _ _ => by kernel_rfl, fun x W => ?_⟩
  by_cases h : x.1 < 1
  · go_enter Tryz.func36, Tryz.ntmps36
    go_wp2
    go_ret
    exact ⟨ret_bl (by simp [badSlot, h]), (Below.refl _ _).alloc (Nat.le_refl _) _⟩
  · have h' : 1 ≤ x.1 := by omega
    go_enter Tryz.func36, Tryz.ntmps36
    go_wp2
    go_ret
    exact ⟨ret_bl (by simp [badSlot]; omega), (Below.refl _ _).alloc (Nat.le_refl _) _⟩
def SomeIdxB (b : Bool) (W : World) (e : Ending) (w' : World) : Prop := ∃ n : Int, e = .returned (.int .i64 n) ∧ decide (0 ≤ n) = b ∧ Below W.heap.size W w'
set_option maxRecDepth 100000 in
theorem indexS_any (j : FuncId) (q : Slo → Bool) (hk : SaysS j q) (W : World) (l : List Slo) (A : Option Addr) (cap : Nat) (hl : l.length ≤ 9223372036854775807) (hR : Reads W A (sloCells l)) :
    Calls Tryz.prog 76 #[.slice A l.length cap, .func (.func j) #[] #[]] W (SomeIdxB (l.any q) W) := by
  have hrun := hk.run
  have HK := Lib.hid hk.says; clear hk
  have HR := Lib.hid hR; clear hR
  go_enter Tryz.func76, Tryz.ntmps76
  go_wp2
  go_loopg [8] l.length (fun g v wr => ∃ k : Nat, k ≤ l.length ∧ g = l.length - k ∧ v = .int .i64 k ∧ Hid ((l.take k).any q = false) ∧ Below W.heap.size W wr)
  case atStart => exact ⟨0, Nat.zero_le _, rfl, rfl, rfl, Below.refl _ _⟩
  case round =>
    obtain ⟨k, hk, rfl, rfl, H0, hbel⟩ := hrel
    have HB := Lib.hid hbel; clear hbel
    by_cases hlt : k < l.length
    · obtain ⟨ad, rfl, q0, q1⟩ := (HR.out.below HB.out).slo k hlt
      have hs := fun W => HK.out l[k] W
      rcases Bool.eq_false_or_eq_true (q l[k]) with hq | hq
      · rw [hq] at hs
        have HS := Lib.hid hs; clear hs
        have HQ := Lib.hid hq; clear hq
        go_wp2_with ((with_reducible refine (HS.out _).mono ?_); rintro e w' ⟨rfl, hb2⟩; have HB2 := Lib.hid hb2; clear hb2)
        go_ret
        exact ⟨k, rfl, by rw [any_at hlt HQ.out]; simp, HB.out.trans (HB2.out.mono HB.out.size)⟩
      · rw [hq] at hs
        have HS := Lib.hid hs; clear hs
        have HN := Lib.hid (any_succ hlt H0.out hq); clear hq
        go_wp2_with ((with_reducible refine (HS.out _).mono ?_); rintro e w' ⟨rfl, hb2⟩; have HB2 := Lib.hid hb2; clear hb2)
        go_roundg (l.length - (k + 1))
        case measure => omega
        case rel => exact ⟨k + 1, by omega, rfl, by go_num, HN.out, HB.out.trans (HB2.out.mono HB.out.size)⟩
    · obtain rfl : k = l.length := by omega
      have h := H0.out
      rw [List.take_length] at h
      have HN := Lib.hid h; clear h
      go_wp2
      go_ret
      exact ⟨(-1 : Int), rfl, by rw [HN.out]; rfl, HB.out⟩
set_option maxRecDepth 100000 in
theorem containsS_any (j : FuncId) (q : Slo → Bool) (hk : SaysS j q) (W : World) (l : List Slo) (A : Option Addr) (cap : Nat) (hl : l.length ≤ 9223372036854775807) (hR : Reads W A (sloCells l)) :
    Calls Tryz.prog 35 #[.slice A l.length cap, .func (.func j) #[] #[]] W fun e w' => e = .returned (.bool (l.any q)) ∧ Below W.heap.size W w' := by
  have HI := Lib.hid (indexS_any j q hk W l A cap hl hR)
  clear hk hR
  go_enter Tryz.func35, Tryz.ntmps35
  go_wp2_with (go_at_call 76; refine HI.out.mono ?_; rintro e w' ⟨n, rfl, hn, hb⟩; have HN := Lib.hid hn; clear hn)
  go_ret
  exact ⟨ret_bl HN.out, ‹_›⟩
end Go.Proofs.YtmnbgamnbgdnnaaGreatDoor
