/- Contracts of slices.IndexFunc, slices.ContainsFunc and token.all at a plain function of a byte. -/
import Derived.Test.YtaccooeodimdaaaDoorTokA
import Derived.Lib.ConvBytes
import Derived.Lib.AtoiErrMem
namespace Go.Proofs.YtaccooeodimdaaaDoor
open Go.RowKit

/-- A function value that says p of a byte and leaves the world alone. -/
structure Says (k : FuncId) (p : Int → Bool) : Prop where
  run : ∀ (args : Array Value) (W : World), (callFunc k args).run Tryd.prog W = .ok (.enter k args) W
  says : ∀ (c : Int) (w : World), Calls Tryd.prog k #[.int .u8 c] w fun e w' => e = .returned (.bool (p c)) ∧ w = w'
/-- A function value with one captured variable, in one world. -/
structure SaysAt (j : FuncId) (x : Value) (W : World) (q : Int → Bool) : Prop where
  run : ∀ (args : Array Value) (W : World), (callFunc j args).run Tryd.prog W = .ok (.enter j args) W
  says : ∀ (c : Int), Calls Tryd.prog j #[.int .u8 c, x] W fun e w' => e = .returned (.bool (q c)) ∧ W = w'
def SomeIdx (l : List UInt8) (q : Int → Bool) (W : World) (e : Ending) (w' : World) : Prop := ∃ n : Int, e = .returned (.int .i64 n) ∧ decide (0 ≤ n) = l.any (fun c => q (c.toNat : Int)) ∧ W = w'

theorem any_take_succ (l : List UInt8) (q : UInt8 → Bool) (k : Nat) (h : k < l.length) (h0 : (l.take k).any q = false) (h1 : q l[k] = false) : (l.take (k + 1)).any q = false := by
  rw [List.take_succ_eq_append_getElem h, List.any_append, h0]
  simp [h1]
theorem any_of_getD (l : List UInt8) (q : UInt8 → Bool) (k : Nat) (h : k < l.length) (h1 : q l[k] = true) : l.any q = true := by
  exact List.any_eq_true.2 ⟨_, List.getElem_mem h, h1⟩

set_option maxRecDepth 100000 in
theorem indexFunc_any (j : FuncId) (x : Value) (q : Int → Bool) (W : World) (hk : SaysAt j x W q) (l : List UInt8) (b cap : Nat) (hl : l.length ≤ 9223372036854775807)
    (hc : ∀ i (h : i < l.length), W.cell? ⟨b, i, none⟩ = some (.int .u8 l[i].toNat)) :
    Calls Tryd.prog 63 #[.slice (some ⟨b, 0, none⟩) l.length cap, .func (.func j) #[] #[x]] W (SomeIdx l q W) := by
  have hrun := hk.run
  have HK := Lib.hid hk.says; clear hk
  have HC := Lib.hid hc; clear hc
  go_enter Tryd.func63, Tryd.ntmps63
  go_wp2
  go_loop [8] (fun i => ∃ k : Nat, k ≤ l.length ∧ i = .int .i64 k ∧ (l.take k).any (fun c => q (c.toNat : Int)) = false) (fun i => l.length - (intOf i).toNat)
  case atStart => exact ⟨0, Nat.zero_le _, rfl, by simp⟩
  case round =>
    obtain ⟨k, hk, rfl, h0⟩ := hrel
    have H0 := Lib.hid h0; clear h0
    by_cases hlt : k < l.length
    · have hcell := HC.out k hlt
      rcases Bool.eq_false_or_eq_true (q (l[k].toNat : Int)) with hq | hq
      · have HQ := Lib.hid hq; clear hq
        go_wp2_with ((with_reducible refine (HK.out _).mono ?_); rintro e w' ⟨rfl, rfl⟩; rw [HQ.out])
        go_ret
        exact ⟨k, rfl, by rw [any_of_getD l (fun c => q (c.toNat : Int)) k hlt HQ.out]; simp, rfl⟩
      · have HQ := Lib.hid hq; clear hq
        go_wp2_with ((with_reducible refine (HK.out _).mono ?_); rintro e w' ⟨rfl, rfl⟩; rw [HQ.out])
        go_round
        case rel => exact ⟨k + 1, by omega, by go_num, any_take_succ l (fun c => q (c.toNat : Int)) k hlt H0.out HQ.out⟩
        case measure => simp [intOf]; omega
    · go_wp2
      go_ret
      exact ⟨(-1 : Int), rfl, by have h := H0.out; rw [List.take_of_length_le (by omega)] at h; rw [h]; rfl, rfl⟩

def SomeB (x : Bool) (W : World) (e : Ending) (w' : World) : Prop := e = .returned (.bool x) ∧ W = w'
set_option maxRecDepth 100000 in
theorem containsFunc_any (j : FuncId) (x : Value) (q : Int → Bool) (W : World) (hk : SaysAt j x W q) (l : List UInt8) (b cap : Nat) (hl : l.length ≤ 9223372036854775807)
    (hc : ∀ i (h : i < l.length), W.cell? ⟨b, i, none⟩ = some (.int .u8 l[i].toNat)) :
    Calls Tryd.prog 53 #[.slice (some ⟨b, 0, none⟩) l.length cap, .func (.func j) #[] #[x]] W (SomeB (l.any fun c => q (c.toNat : Int)) W) := by
  have HK := Lib.hid hk; clear hk
  have HC := Lib.hid hc; clear hc
  go_enter Tryd.func53, Tryd.ntmps53
  go_wp2_with (go_at_call 63; refine (indexFunc_any j x q W HK.out l b cap hl HC.out).mono ?_; rintro e w' ⟨n, rfl, hn, rfl⟩; have HN := Lib.hid hn; clear hn)
  go_ret
  exact ⟨ret_b HN.out, rfl⟩

set_option maxRecDepth 100000 in
theorem all1_at (k : FuncId) (p : Int → Bool) (hk : Says k p) (a : Nat) (W : World) (ha : W.cell? ⟨a, 0, none⟩ = some (.func (.func k) #[] #[])) :
    SaysAt 54 (.pointer (some ⟨a, 0, none⟩)) W (fun c => !p c) := by
  refine ⟨fun _ _ => by kernel_rfl, fun c => ?_⟩
  have hrun := hk.run
  have HK := Lib.hid hk.says; clear hk
  go_enter Tryd.func54, Tryd.ntmps54
  go_wp2_with ((with_reducible refine (HK.out _ _).mono ?_); rintro e w' ⟨rfl, rfl⟩)
  go_ret
  exact ⟨rfl, rfl⟩

theorem data_len (s : ByteArray) : s.data.toList.length = s.size := by rw [Array.length_toList]; rfl
theorem bytes_cell (w : World) (e : TypeId) (s : ByteArray) : ∀ i (h : i < s.data.toList.length), (Lib.bytesWorld w e s).cell? ⟨w.heap.size, i, none⟩ = some (.int .u8 s.data.toList[i].toNat) := by
  intro i h
  rw [Lib.bytesWorld_cell w e s i (by rwa [data_len] at h)]
  rw [List.getD_eq_getElem?_getD, List.getElem?_eq_getElem h]
  rfl
theorem containsFunc_str (j : FuncId) (x : Value) (q : Int → Bool) (W : World) (s : ByteArray) (hk : SaysAt j x (Lib.bytesWorld W 5 s) q) (n cap : Nat) (hn : n = W.heap.size) (hl : s.size ≤ 9223372036854775807) :
    Calls Tryd.prog 53 #[.slice (some ⟨n, 0, none⟩) s.size cap, .func (.func j) #[] #[x]] (Lib.bytesWorld W 5 s) (SomeB (s.data.toList.any fun c => q (c.toNat : Int)) (Lib.bytesWorld W 5 s)) := by
  have h := containsFunc_any j x q _ hk s.data.toList W.heap.size cap (by rw [data_len]; exact hl) (bytes_cell W _ s)
  rw [data_len] at h
  rw [hn]
  exact h
theorem all_not (l : List UInt8) (p : Int → Bool) : (!l.any fun c => !p (c.toNat : Int)) = l.all fun c => p (c.toNat : Int) := by
  simp [List.all_eq_not_any_not]

set_option maxRecDepth 100000 in
theorem all_any (k : FuncId) (p : Int → Bool) (hk : Says k p) (s : ByteArray) (hs : s.size ≤ 9223372036854775807) (w : World) :
    Calls Tryd.prog 35 #[.string s, .func (.func k) #[] #[]] w fun e w' => e = .returned (.bool (s.data.toList.all fun c => p (c.toNat : Int))) ∧ Below w.heap.size w w' := by
  have HS := Lib.hid hs; clear hs
  have h1 := all1_at k p hk w.heap.size (Lib.bytesWorld (w.alloc (.cells #[.func (.func k) #[] #[]] 53)) 5 s) (by rw [Lib.bytesWorld_old _ _ _ _ (by simp)]; simp)
  have H1 := Lib.hid h1; clear h1
  have HK := Lib.hid hk; clear hk
  have kb := fun W => Lib.run_convert_string_bytes (P := Tryd.prog) W 9 52 5 s Tryd.underlying9 Tryd.underlying52 Tryd.underlying5
  go_enter Tryd.func35, Tryd.ntmps35
  go_wp2_with (go_at_call 53; refine (containsFunc_str _ _ _ _ s H1.out _ _ (by simp) HS.out).mono ?_; rintro e w' ⟨rfl, rfl⟩)
  go_ret
  exact ⟨ret_b (by rw [← all_not]; simp), (Lib.bytesWorld_below _ _ _).mono (by simp) |> fun h => ((Below.refl _ _).alloc (Nat.le_refl _) _).trans h⟩
end Go.Proofs.YtaccooeodimdaaaDoor
