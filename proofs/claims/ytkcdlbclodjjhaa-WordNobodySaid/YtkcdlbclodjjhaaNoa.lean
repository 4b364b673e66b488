/- Contracts of the board's methods for nobody: a nil board, a zero board. (Printed by wip/tools/gen_nob.py.) -/
import Derived.Test.YtkcdlbclodjjhaaWu
import Derived.Defers
namespace Go.Proofs.Ytkcdlbclodjjhaa
open Go.RowKit

/-- A board that was not made by New, from the world w on. -/
def Nob (pb : Option Addr) (w : World) : Prop := ∀ W, Below w.heap.size w W → Calls Try.prog 24 #[.pointer pb] W fun e w' => e = .returned (.bool false) ∧ W = w'
theorem Nob.below {pb : Option Addr} {w W : World} (h : Nob pb w) (hb : Below w.heap.size w W) : Nob pb W := fun W' hb' => h W' (hb.trans (hb'.mono hb.size))
theorem nob_nil (w : World) : Nob none w := fun W _ => made_nil W
theorem nob_zero {B : Nat} {w : World} (q0 : w.cell? ⟨B, 0, none⟩ = some (.int .u64 0)) : Nob (some ⟨B, 0, none⟩) w := fun W hb => made_zero B W ((hb.cell (World.block_lt_of_cell? _ _ q0)).trans q0)
set_option maxHeartbeats 1000000 in
set_option maxRecDepth 100000 in
theorem nob_slot (pb : Option Addr) (a : Int) (b : Bool) (w : World) (h : Nob pb w) : Calls Try.prog 7 #[.pointer pb, .agg #[.int .i64 a, .bool b]] w fun e W' => e = .returned (.tuple #[.int .i64 0, .int .i64 1]) ∧ Below w.heap.size w W' := by
  have HN := Lib.hid h
  clear h
  go_enter Try.func7, Try.ntmps7
  go_wp2_with (first | (go_at_call 24; refine (HN.out _ (by repeat (first | exact Below.refl _ _ | refine Below.drew ?_ | refine Below.setCell ?_ (by simp <;> omega) _ | refine Below.alloc ?_ (by first | (simp; done) | (simp; omega)) _))).mono ?_; rintro e w1 ⟨rfl, rfl⟩))
  exact bodyPost_ret (v := .tuple #[.int .i64 0, .int .i64 1]) (by simp [results, Try.results7, go_sem]) rfl ⟨rfl, (by repeat (first | exact Below.refl _ _ | refine Below.drew ?_ | refine Below.setCell ?_ (by simp <;> omega) _ | refine Below.alloc ?_ (by first | (simp; done) | (simp; omega)) _))⟩
set_option maxHeartbeats 1000000 in
set_option maxRecDepth 100000 in
theorem nob_put (pb : Option Addr) (k a b c : Int) (w : World) (h : Nob pb w) : Calls Try.prog 8 #[.pointer pb, .agg #[.int .i64 k, .int .i64 a, .int .i64 b, .int .u64 c]] w fun e W' => e = .returned (.tuple #[.int .i64 0, .int .i64 1]) ∧ Below w.heap.size w W' := by
  have HN := Lib.hid h
  clear h
  go_enter Try.func8, Try.ntmps8
  go_wp2_with (first | (go_at_call 24; refine (HN.out _ (by repeat (first | exact Below.refl _ _ | refine Below.drew ?_ | refine Below.setCell ?_ (by simp <;> omega) _ | refine Below.alloc ?_ (by first | (simp; done) | (simp; omega)) _))).mono ?_; rintro e w1 ⟨rfl, rfl⟩))
  exact bodyPost_ret (v := .tuple #[.int .i64 0, .int .i64 1]) (by simp [results, Try.results8, go_sem]) rfl ⟨rfl, (by repeat (first | exact Below.refl _ _ | refine Below.drew ?_ | refine Below.setCell ?_ (by simp <;> omega) _ | refine Below.alloc ?_ (by first | (simp; done) | (simp; omega)) _))⟩
set_option maxHeartbeats 1000000 in
set_option maxRecDepth 100000 in
theorem nob_const (pb : Option Addr) (k : Int) (w : World) (h : Nob pb w) : Calls Try.prog 9 #[.pointer pb, .int .u64 k] w fun e W' => e = .returned (.tuple #[.int .i64 0, .int .i64 1]) ∧ Below w.heap.size w W' := by
  have HN := Lib.hid h
  clear h
  go_enter Try.func9, Try.ntmps9
  go_wp2_with (first | (go_at_call 8; refine (nob_put pb _ _ _ _ _ HN.out).mono ?_; rintro e w1 ⟨rfl, hb⟩; have HB := Lib.hid hb; clear hb))
  exact bodyPost_ret (v := .tuple #[.int .i64 0, .int .i64 1]) (by simp [results, Try.results9, go_sem]) rfl ⟨rfl, HB.out⟩
set_option maxHeartbeats 1000000 in
set_option maxRecDepth 100000 in
theorem nob_tell (pb : Option Addr) (T G : Value) (w : World) (h : Nob pb w) : Calls Try.prog 44 #[.pointer pb, .agg #[T, G]] w fun e W' => e = .returned (.int .i64 1) ∧ Below w.heap.size w W' := by
  have HN := Lib.hid h
  clear h
  go_enter Try.func44, Try.ntmps44
  go_wp2_with (first | (go_at_call 24; refine (HN.out _ (by repeat (first | exact Below.refl _ _ | refine Below.drew ?_ | refine Below.setCell ?_ (by simp <;> omega) _ | refine Below.alloc ?_ (by first | (simp; done) | (simp; omega)) _))).mono ?_; rintro e w1 ⟨rfl, rfl⟩))
  go_ret
  exact ⟨rfl, (by repeat (first | exact Below.refl _ _ | refine Below.drew ?_ | refine Below.setCell ?_ (by simp <;> omega) _ | refine Below.alloc ?_ (by first | (simp; done) | (simp; omega)) _))⟩
set_option maxHeartbeats 1000000 in
set_option maxRecDepth 100000 in
theorem nob_do (pb : Option Addr) (A : Option Addr) (n c : Nat) (F : FuncId) (caps : Array Value) (w : World) (h : Nob pb w) : Calls Try.prog 62 #[.pointer pb, .slice A n c, .func (.func F) #[] caps] w fun e W' => e = .returned (.tuple #[.int .i64 0, .int .i64 1]) ∧ Below w.heap.size w W' := by
  have hmf : ∀ (fn : Fn) (first cap : Array Value) (w : World), (Instr.makeFunc fn first cap).run Try.prog w = .ok (.func fn first cap) w := fun _ _ _ _ => rfl
  have HN := Lib.hid h
  clear h
  go_enter_defers Try.func62, Try.ntmps62
  go_wp2_with (first | (go_at_call 24; refine (HN.out _ (by repeat (first | exact Below.refl _ _ | refine Below.drew ?_ | refine Below.setCell ?_ (by simp <;> omega) _ | refine Below.alloc ?_ (by first | (simp; done) | (simp; omega)) _))).mono ?_; rintro e w1 ⟨rfl, rfl⟩))
  obtain ⟨k0, k1, k2, _, hb⟩ := three w (.cells #[.pointer pb] 22) (.cells #[.int .i64 0] 3) (.cells #[.int .i64 1] 23)
  have d1 := (box1 k1).1
  have d2 := (box1 k2).1
  refine ⟨.tuple #[.int .i64 0, .int .i64 1], ?_, rfl, hb⟩
  simp [results, Try.results62, go_sem, d1, d2]
set_option maxHeartbeats 1000000 in
set_option maxRecDepth 100000 in
theorem nob_wordsI (pb : Option Addr) (A : Option Addr) (n c : Nat) (A2 : Option Addr) (n2 c2 : Nat) (F : FuncId) (caps : Array Value) (w : World) (h : Nob pb w) : Calls Try.prog 33 #[.pointer pb, .slice A n c, .slice A2 n2 c2, .func (.func F) #[] caps] w fun e W' => e = .returned (.tuple #[.int .i64 0, .int .i64 1]) ∧ Below w.heap.size w W' := by
  have hmf : ∀ (fn : Fn) (first cap : Array Value) (w : World), (Instr.makeFunc fn first cap).run Try.prog w = .ok (.func fn first cap) w := fun _ _ _ _ => rfl
  have HN := Lib.hid h
  clear h
  go_enter Try.func33, Try.ntmps33
  go_wp2_with (first | (go_at_call 24; refine (HN.out _ (by repeat (first | exact Below.refl _ _ | refine Below.drew ?_ | refine Below.setCell ?_ (by simp <;> omega) _ | refine Below.alloc ?_ (by first | (simp; done) | (simp; omega)) _))).mono ?_; rintro e w1 ⟨rfl, rfl⟩))
  exact bodyPost_ret (v := .tuple #[.int .i64 0, .int .i64 1]) (by simp [results, Try.results33, go_sem]) rfl ⟨rfl, (by repeat (first | exact Below.refl _ _ | refine Below.drew ?_ | refine Below.setCell ?_ (by simp <;> omega) _ | refine Below.alloc ?_ (by first | (simp; done) | (simp; omega)) _))⟩
set_option maxHeartbeats 1000000 in
set_option maxRecDepth 100000 in
theorem nob_wordsW (pb : Option Addr) (A : Option Addr) (n c : Nat) (A2 : Option Addr) (n2 c2 : Nat) (F : FuncId) (caps : Array Value) (w : World) (h : Nob pb w) : Calls Try.prog 54 #[.pointer pb, .slice A n c, .slice A2 n2 c2, .func (.func F) #[] caps] w fun e W' => e = .returned (.tuple #[nilS, .int .i64 1]) ∧ Below w.heap.size w W' := by
  have hmf : ∀ (fn : Fn) (first cap : Array Value) (w : World), (Instr.makeFunc fn first cap).run Try.prog w = .ok (.func fn first cap) w := fun _ _ _ _ => rfl
  have HN := Lib.hid h
  clear h
  go_enter Try.func54, Try.ntmps54
  go_wp2_with (first | (go_at_call 24; refine (HN.out _ (by repeat (first | exact Below.refl _ _ | refine Below.drew ?_ | refine Below.setCell ?_ (by simp <;> omega) _ | refine Below.alloc ?_ (by first | (simp; done) | (simp; omega)) _))).mono ?_; rintro e w1 ⟨rfl, rfl⟩))
  exact bodyPost_ret (v := .tuple #[nilS, .int .i64 1]) (by simp [results, Try.results54, go_sem]) rfl ⟨rfl, (by repeat (first | exact Below.refl _ _ | refine Below.drew ?_ | refine Below.setCell ?_ (by simp <;> omega) _ | refine Below.alloc ?_ (by first | (simp; done) | (simp; omega)) _))⟩
set_option maxHeartbeats 1000000 in
set_option maxRecDepth 100000 in
theorem nob_not (pb : Option Addr) (a : Int) (w : World) (h : Nob pb w) : Calls Try.prog 45 #[.pointer pb, .int .i64 a] w fun e W' => e = .returned (.tuple #[.int .i64 0, .int .i64 1]) ∧ Below w.heap.size w W' := by
  have hmf : ∀ (fn : Fn) (first cap : Array Value) (w : World), (Instr.makeFunc fn first cap).run Try.prog w = .ok (.func fn first cap) w := fun _ _ _ _ => rfl
  have HN := Lib.hid h
  clear h
  go_enter Try.func45, Try.ntmps45
  go_wp2_with (first | (go_at_call 62; refine (nob_do pb _ _ _ _ _ _ (HN.out.below (by repeat (first | exact Below.refl _ _ | refine Below.drew ?_ | refine Below.setCell ?_ (by simp <;> omega) _ | refine Below.alloc ?_ (by first | (simp; done) | (simp; omega)) _)))).mono ?_; rintro e w1 ⟨rfl, hb⟩; have HB := Lib.hid ((show Below w.heap.size w _ from (by repeat (first | exact Below.refl _ _ | refine Below.drew ?_ | refine Below.setCell ?_ (by simp <;> omega) _ | refine Below.alloc ?_ (by first | (simp; done) | (simp; omega)) _))).trans (hb.mono (by simp <;> omega))); clear hb))
  exact bodyPost_ret (v := .tuple #[.int .i64 0, .int .i64 1]) (by simp [results, Try.results45, go_sem]) rfl ⟨rfl, HB.out⟩
set_option maxHeartbeats 1000000 in
set_option maxRecDepth 100000 in
theorem nob_and (pb : Option Addr) (a b : Int) (w : World) (h : Nob pb w) : Calls Try.prog 46 #[.pointer pb, .int .i64 a, .int .i64 b] w fun e W' => e = .returned (.tuple #[.int .i64 0, .int .i64 1]) ∧ Below w.heap.size w W' := by
  have hmf : ∀ (fn : Fn) (first cap : Array Value) (w : World), (Instr.makeFunc fn first cap).run Try.prog w = .ok (.func fn first cap) w := fun _ _ _ _ => rfl
  have HN := Lib.hid h
  clear h
  go_enter Try.func46, Try.ntmps46
  go_wp2_with (first | (go_at_call 62; refine (nob_do pb _ _ _ _ _ _ (HN.out.below (by repeat (first | exact Below.refl _ _ | refine Below.drew ?_ | refine Below.setCell ?_ (by simp <;> omega) _ | refine Below.alloc ?_ (by first | (simp; done) | (simp; omega)) _)))).mono ?_; rintro e w1 ⟨rfl, hb⟩; have HB := Lib.hid ((show Below w.heap.size w _ from (by repeat (first | exact Below.refl _ _ | refine Below.drew ?_ | refine Below.setCell ?_ (by simp <;> omega) _ | refine Below.alloc ?_ (by first | (simp; done) | (simp; omega)) _))).trans (hb.mono (by simp <;> omega))); clear hb))
  exact bodyPost_ret (v := .tuple #[.int .i64 0, .int .i64 1]) (by simp [results, Try.results46, go_sem]) rfl ⟨rfl, HB.out⟩
set_option maxHeartbeats 1000000 in
set_option maxRecDepth 100000 in
theorem nob_or (pb : Option Addr) (a b : Int) (w : World) (h : Nob pb w) : Calls Try.prog 47 #[.pointer pb, .int .i64 a, .int .i64 b] w fun e W' => e = .returned (.tuple #[.int .i64 0, .int .i64 1]) ∧ Below w.heap.size w W' := by
  have hmf : ∀ (fn : Fn) (first cap : Array Value) (w : World), (Instr.makeFunc fn first cap).run Try.prog w = .ok (.func fn first cap) w := fun _ _ _ _ => rfl
  have HN := Lib.hid h
  clear h
  go_enter Try.func47, Try.ntmps47
  go_wp2_with (first | (go_at_call 62; refine (nob_do pb _ _ _ _ _ _ (HN.out.below (by repeat (first | exact Below.refl _ _ | refine Below.drew ?_ | refine Below.setCell ?_ (by simp <;> omega) _ | refine Below.alloc ?_ (by first | (simp; done) | (simp; omega)) _)))).mono ?_; rintro e w1 ⟨rfl, hb⟩; have HB := Lib.hid ((show Below w.heap.size w _ from (by repeat (first | exact Below.refl _ _ | refine Below.drew ?_ | refine Below.setCell ?_ (by simp <;> omega) _ | refine Below.alloc ?_ (by first | (simp; done) | (simp; omega)) _))).trans (hb.mono (by simp <;> omega))); clear hb))
  exact bodyPost_ret (v := .tuple #[.int .i64 0, .int .i64 1]) (by simp [results, Try.results47, go_sem]) rfl ⟨rfl, HB.out⟩
set_option maxHeartbeats 1000000 in
set_option maxRecDepth 100000 in
theorem nob_xor (pb : Option Addr) (a b : Int) (w : World) (h : Nob pb w) : Calls Try.prog 48 #[.pointer pb, .int .i64 a, .int .i64 b] w fun e W' => e = .returned (.tuple #[.int .i64 0, .int .i64 1]) ∧ Below w.heap.size w W' := by
  have hmf : ∀ (fn : Fn) (first cap : Array Value) (w : World), (Instr.makeFunc fn first cap).run Try.prog w = .ok (.func fn first cap) w := fun _ _ _ _ => rfl
  have HN := Lib.hid h
  clear h
  go_enter Try.func48, Try.ntmps48
  go_wp2_with (first | (go_at_call 62; refine (nob_do pb _ _ _ _ _ _ (HN.out.below (by repeat (first | exact Below.refl _ _ | refine Below.drew ?_ | refine Below.setCell ?_ (by simp <;> omega) _ | refine Below.alloc ?_ (by first | (simp; done) | (simp; omega)) _)))).mono ?_; rintro e w1 ⟨rfl, hb⟩; have HB := Lib.hid ((show Below w.heap.size w _ from (by repeat (first | exact Below.refl _ _ | refine Below.drew ?_ | refine Below.setCell ?_ (by simp <;> omega) _ | refine Below.alloc ?_ (by first | (simp; done) | (simp; omega)) _))).trans (hb.mono (by simp <;> omega))); clear hb))
  exact bodyPost_ret (v := .tuple #[.int .i64 0, .int .i64 1]) (by simp [results, Try.results48, go_sem]) rfl ⟨rfl, HB.out⟩
set_option maxHeartbeats 1000000 in
set_option maxRecDepth 100000 in
theorem nob_pick (pb : Option Addr) (c a b : Int) (w : World) (h : Nob pb w) : Calls Try.prog 49 #[.pointer pb, .int .i64 c, .int .i64 a, .int .i64 b] w fun e W' => e = .returned (.tuple #[.int .i64 0, .int .i64 1]) ∧ Below w.heap.size w W' := by
  have hmf : ∀ (fn : Fn) (first cap : Array Value) (w : World), (Instr.makeFunc fn first cap).run Try.prog w = .ok (.func fn first cap) w := fun _ _ _ _ => rfl
  have HN := Lib.hid h
  clear h
  go_enter Try.func49, Try.ntmps49
  go_wp2_with (first | (go_at_call 62; refine (nob_do pb _ _ _ _ _ _ (HN.out.below (by repeat (first | exact Below.refl _ _ | refine Below.drew ?_ | refine Below.setCell ?_ (by simp <;> omega) _ | refine Below.alloc ?_ (by first | (simp; done) | (simp; omega)) _)))).mono ?_; rintro e w1 ⟨rfl, hb⟩; have HB := Lib.hid ((show Below w.heap.size w _ from (by repeat (first | exact Below.refl _ _ | refine Below.drew ?_ | refine Below.setCell ?_ (by simp <;> omega) _ | refine Below.alloc ?_ (by first | (simp; done) | (simp; omega)) _))).trans (hb.mono (by simp <;> omega))); clear hb))
  exact bodyPost_ret (v := .tuple #[.int .i64 0, .int .i64 1]) (by simp [results, Try.results49, go_sem]) rfl ⟨rfl, HB.out⟩
set_option maxHeartbeats 1000000 in
set_option maxRecDepth 100000 in
theorem nob_num (pb : Option Addr) (A : Option Addr) (n c : Nat) (w : World) (h : Nob pb w) : Calls Try.prog 50 #[.pointer pb, .slice A n c] w fun e W' => e = .returned (.tuple #[.int .i64 0, .int .i64 1]) ∧ Below w.heap.size w W' := by
  have hmf : ∀ (fn : Fn) (first cap : Array Value) (w : World), (Instr.makeFunc fn first cap).run Try.prog w = .ok (.func fn first cap) w := fun _ _ _ _ => rfl
  have HN := Lib.hid h
  clear h
  go_enter Try.func50, Try.ntmps50
  go_wp2_with (first | (go_at_call 33; refine (nob_wordsI pb _ _ _ _ _ _ _ _ _ (HN.out.below (by repeat (first | exact Below.refl _ _ | refine Below.drew ?_ | refine Below.setCell ?_ (by simp <;> omega) _ | refine Below.alloc ?_ (by first | (simp; done) | (simp; omega)) _)))).mono ?_; rintro e w1 ⟨rfl, hb⟩; have HB := Lib.hid ((show Below w.heap.size w _ from (by repeat (first | exact Below.refl _ _ | refine Below.drew ?_ | refine Below.setCell ?_ (by simp <;> omega) _ | refine Below.alloc ?_ (by first | (simp; done) | (simp; omega)) _))).trans (hb.mono (by simp <;> omega))); clear hb))
  exact bodyPost_ret (v := .tuple #[.int .i64 0, .int .i64 1]) (by simp [results, Try.results50, go_sem]) rfl ⟨rfl, HB.out⟩
set_option maxHeartbeats 1000000 in
set_option maxRecDepth 100000 in
theorem nob_same (pb : Option Addr) (A : Option Addr) (n c : Nat) (A2 : Option Addr) (n2 c2 : Nat) (w : World) (h : Nob pb w) : Calls Try.prog 16 #[.pointer pb, .slice A n c, .slice A2 n2 c2] w fun e W' => e = .returned (.tuple #[.int .i64 0, .int .i64 1]) ∧ Below w.heap.size w W' := by
  have hmf : ∀ (fn : Fn) (first cap : Array Value) (w : World), (Instr.makeFunc fn first cap).run Try.prog w = .ok (.func fn first cap) w := fun _ _ _ _ => rfl
  have HN := Lib.hid h
  clear h
  go_enter Try.func16, Try.ntmps16
  go_wp2_with (first | (go_at_call 33; refine (nob_wordsI pb _ _ _ _ _ _ _ _ _ (HN.out.below (by repeat (first | exact Below.refl _ _ | refine Below.drew ?_ | refine Below.setCell ?_ (by simp <;> omega) _ | refine Below.alloc ?_ (by first | (simp; done) | (simp; omega)) _)))).mono ?_; rintro e w1 ⟨rfl, hb⟩; have HB := Lib.hid ((show Below w.heap.size w _ from (by repeat (first | exact Below.refl _ _ | refine Below.drew ?_ | refine Below.setCell ?_ (by simp <;> omega) _ | refine Below.alloc ?_ (by first | (simp; done) | (simp; omega)) _))).trans (hb.mono (by simp <;> omega))); clear hb))
  exact bodyPost_ret (v := .tuple #[.int .i64 0, .int .i64 1]) (by simp [results, Try.results16, go_sem]) rfl ⟨rfl, HB.out⟩
set_option maxHeartbeats 1000000 in
set_option maxRecDepth 100000 in
theorem nob_less (pb : Option Addr) (A : Option Addr) (n c : Nat) (A2 : Option Addr) (n2 c2 : Nat) (w : World) (h : Nob pb w) : Calls Try.prog 17 #[.pointer pb, .slice A n c, .slice A2 n2 c2] w fun e W' => e = .returned (.tuple #[.int .i64 0, .int .i64 1]) ∧ Below w.heap.size w W' := by
  have hmf : ∀ (fn : Fn) (first cap : Array Value) (w : World), (Instr.makeFunc fn first cap).run Try.prog w = .ok (.func fn first cap) w := fun _ _ _ _ => rfl
  have HN := Lib.hid h
  clear h
  go_enter Try.func17, Try.ntmps17
  go_wp2_with (first | (go_at_call 33; refine (nob_wordsI pb _ _ _ _ _ _ _ _ _ (HN.out.below (by repeat (first | exact Below.refl _ _ | refine Below.drew ?_ | refine Below.setCell ?_ (by simp <;> omega) _ | refine Below.alloc ?_ (by first | (simp; done) | (simp; omega)) _)))).mono ?_; rintro e w1 ⟨rfl, hb⟩; have HB := Lib.hid ((show Below w.heap.size w _ from (by repeat (first | exact Below.refl _ _ | refine Below.drew ?_ | refine Below.setCell ?_ (by simp <;> omega) _ | refine Below.alloc ?_ (by first | (simp; done) | (simp; omega)) _))).trans (hb.mono (by simp <;> omega))); clear hb))
  exact bodyPost_ret (v := .tuple #[.int .i64 0, .int .i64 1]) (by simp [results, Try.results17, go_sem]) rfl ⟨rfl, HB.out⟩
set_option maxHeartbeats 1000000 in
set_option maxRecDepth 100000 in
theorem nob_plus (pb : Option Addr) (A : Option Addr) (n c : Nat) (A2 : Option Addr) (n2 c2 : Nat) (w : World) (h : Nob pb w) : Calls Try.prog 29 #[.pointer pb, .slice A n c, .slice A2 n2 c2] w fun e W' => e = .returned (.tuple #[nilS, .int .i64 1]) ∧ Below w.heap.size w W' := by
  have hmf : ∀ (fn : Fn) (first cap : Array Value) (w : World), (Instr.makeFunc fn first cap).run Try.prog w = .ok (.func fn first cap) w := fun _ _ _ _ => rfl
  have HN := Lib.hid h
  clear h
  go_enter Try.func29, Try.ntmps29
  go_wp2_with (first | (go_at_call 54; refine (nob_wordsW pb _ _ _ _ _ _ _ _ _ (HN.out.below (by repeat (first | exact Below.refl _ _ | refine Below.drew ?_ | refine Below.setCell ?_ (by simp <;> omega) _ | refine Below.alloc ?_ (by first | (simp; done) | (simp; omega)) _)))).mono ?_; rintro e w1 ⟨rfl, hb⟩; have HB := Lib.hid ((show Below w.heap.size w _ from (by repeat (first | exact Below.refl _ _ | refine Below.drew ?_ | refine Below.setCell ?_ (by simp <;> omega) _ | refine Below.alloc ?_ (by first | (simp; done) | (simp; omega)) _))).trans (hb.mono (by simp <;> omega))); clear hb))
  exact bodyPost_ret (v := .tuple #[nilS, .int .i64 1]) (by simp [results, Try.results29, go_sem]) rfl ⟨rfl, HB.out⟩
set_option maxHeartbeats 1000000 in
set_option maxRecDepth 100000 in
theorem nob_minus (pb : Option Addr) (A : Option Addr) (n c : Nat) (A2 : Option Addr) (n2 c2 : Nat) (w : World) (h : Nob pb w) : Calls Try.prog 30 #[.pointer pb, .slice A n c, .slice A2 n2 c2] w fun e W' => e = .returned (.tuple #[nilS, .int .i64 1]) ∧ Below w.heap.size w W' := by
  have hmf : ∀ (fn : Fn) (first cap : Array Value) (w : World), (Instr.makeFunc fn first cap).run Try.prog w = .ok (.func fn first cap) w := fun _ _ _ _ => rfl
  have HN := Lib.hid h
  clear h
  go_enter Try.func30, Try.ntmps30
  go_wp2_with (first | (go_at_call 54; refine (nob_wordsW pb _ _ _ _ _ _ _ _ _ (HN.out.below (by repeat (first | exact Below.refl _ _ | refine Below.drew ?_ | refine Below.setCell ?_ (by simp <;> omega) _ | refine Below.alloc ?_ (by first | (simp; done) | (simp; omega)) _)))).mono ?_; rintro e w1 ⟨rfl, hb⟩; have HB := Lib.hid ((show Below w.heap.size w _ from (by repeat (first | exact Below.refl _ _ | refine Below.drew ?_ | refine Below.setCell ?_ (by simp <;> omega) _ | refine Below.alloc ?_ (by first | (simp; done) | (simp; omega)) _))).trans (hb.mono (by simp <;> omega))); clear hb))
  exact bodyPost_ret (v := .tuple #[nilS, .int .i64 1]) (by simp [results, Try.results30, go_sem]) rfl ⟨rfl, HB.out⟩
set_option maxHeartbeats 1000000 in
set_option maxRecDepth 100000 in
theorem nob_times (pb : Option Addr) (A : Option Addr) (n c : Nat) (A2 : Option Addr) (n2 c2 : Nat) (w : World) (h : Nob pb w) : Calls Try.prog 31 #[.pointer pb, .slice A n c, .slice A2 n2 c2] w fun e W' => e = .returned (.tuple #[nilS, .int .i64 1]) ∧ Below w.heap.size w W' := by
  have hmf : ∀ (fn : Fn) (first cap : Array Value) (w : World), (Instr.makeFunc fn first cap).run Try.prog w = .ok (.func fn first cap) w := fun _ _ _ _ => rfl
  have HN := Lib.hid h
  clear h
  go_enter Try.func31, Try.ntmps31
  go_wp2_with (first | (go_at_call 54; refine (nob_wordsW pb _ _ _ _ _ _ _ _ _ (HN.out.below (by repeat (first | exact Below.refl _ _ | refine Below.drew ?_ | refine Below.setCell ?_ (by simp <;> omega) _ | refine Below.alloc ?_ (by first | (simp; done) | (simp; omega)) _)))).mono ?_; rintro e w1 ⟨rfl, hb⟩; have HB := Lib.hid ((show Below w.heap.size w _ from (by repeat (first | exact Below.refl _ _ | refine Below.drew ?_ | refine Below.setCell ?_ (by simp <;> omega) _ | refine Below.alloc ?_ (by first | (simp; done) | (simp; omega)) _))).trans (hb.mono (by simp <;> omega))); clear hb))
  exact bodyPost_ret (v := .tuple #[nilS, .int .i64 1]) (by simp [results, Try.results31, go_sem]) rfl ⟨rfl, HB.out⟩
set_option maxHeartbeats 1000000 in
set_option maxRecDepth 100000 in
theorem nob_circuit (pb : Option Addr) (w : World) (h : Nob pb w) : Calls Try.prog 10 #[.pointer pb] w fun e W' => e = .returned (.agg #[nilS, nilS, nilS]) ∧ Below w.heap.size w W' := by
  have HN := Lib.hid h
  clear h
  go_enter Try.func10, Try.ntmps10
  go_wp2_with (first | (go_at_call 24; refine (HN.out _ (by repeat (first | exact Below.refl _ _ | refine Below.drew ?_ | refine Below.setCell ?_ (by simp <;> omega) _ | refine Below.alloc ?_ (by first | (simp; done) | (simp; omega)) _))).mono ?_; rintro e w1 ⟨rfl, rfl⟩))
  refine bodyPost_ret (v := .agg #[nilS, nilS, nilS]) ?_ rfl ⟨rfl, (by repeat (first | exact Below.refl _ _ | refine Below.drew ?_ | refine Below.setCell ?_ (by simp <;> omega) _ | refine Below.alloc ?_ (by first | (simp; done) | (simp; omega)) _))⟩
  rw [results_cell_tmp1 rfl]
  go_simp
end Go.Proofs.Ytkcdlbclodjjhaa
