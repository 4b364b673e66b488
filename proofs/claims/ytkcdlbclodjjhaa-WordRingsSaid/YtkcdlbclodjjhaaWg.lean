/- Contracts of the board as a ring: put, Fixed, Sum, Less, Product, where there is room. -/
import Derived.Test.YtkcdlbclodjjhaaWf
import Derived.Deep.RegionHeld3
namespace Go.Proofs.Ytkcdlbclodjjhaa
open Go.RowKit

theorem put_any (B p : Nat) (hp : 0 < p) (sl : List Slo) (G : List Gat) (xs : List Exi) (v1 v2 v3 : Value) (g : Gat) (hK : 0 ≤ g.2.2.2) (w : World) (h : IsB B p sl G xs v1 v2 v3 w) :
    Calls Try.prog 8 #[.pointer (some ⟨B, 0, none⟩), .agg #[.int .i64 g.1, .int .i64 g.2.1, .int .i64 g.2.2.1, .int .u64 g.2.2.2]] w (PutPost B p sl G xs v1 v2 v3 g w) := by
  by_cases hg : gErr p sl.length G.length g = 0
  · by_cases hf : G.length < 65536
    · exact put_room B p hp sl G xs v1 v2 v3 g w h hg hf hK
    · exact put_full B p hp sl G xs v1 v2 v3 g w h hg (by omega)
  · exact put_bad B p hp sl G xs v1 v2 v3 g w h hg
/-- A board has got gates; what is answered. -/
def OkPost (B p : Nat) (sl : List Slo) (G' : List Gat) (xs : List Exi) (v1 v2 v3 : Value) (W : World) (r : Value) (e : Ending) (W' : World) : Prop :=
  e = .returned r ∧ ∃ v, IsB B p sl G' xs v1 v v3 W' ∧ Fr B v2 v W W'
theorem put_ok (B p : Nat) (hp : 0 < p) (sl : List Slo) (G : List Gat) (xs : List Exi) (v1 v2 v3 : Value) (g : Gat) (hK : 0 ≤ g.2.2.2) (hg : gErr p sl.length G.length g = 0) (hf : G.length < 65536) (w : World) (h : IsB B p sl G xs v1 v2 v3 w) :
    Calls Try.prog 8 #[.pointer (some ⟨B, 0, none⟩), .agg #[.int .i64 g.1, .int .i64 g.2.1, .int .i64 g.2.2.1, .int .u64 g.2.2.2]] w (OkPost B p sl (G ++ [g]) xs v1 v2 v3 w (.tuple #[.int .i64 (G.length : Nat), .int .i64 0])) :=
  (put_room B p hp sl G xs v1 v2 v3 g w h hg hf hK).mono fun e W' he => by
    rcases he with ⟨h1, _⟩ | ⟨_, h1, _⟩ | ⟨_, _, v, h1, h2, h3⟩
    · exact absurd hg h1
    · omega
    · exact ⟨h1, v, h2, h3⟩
theorem OkPost.from {B p : Nat} {sl : List Slo} {G' : List Gat} {xs : List Exi} {v1 v2 v3 : Value} {w W : World} {r : Value} {e : Ending} {W' : World} (h : OkPost B p sl G' xs v1 v2 v3 W r e W') (hb : Below w.heap.size w W) : ∃ v, IsB B p sl G' xs v1 v v3 W' ∧ Fr B v2 v w W' := by
  obtain ⟨_, v, h1, h2⟩ := h
  exact ⟨v, h1, (Fr.of_below hb).trans h2⟩
theorem put_det (B p : Nat) (hp : 0 < p) (sl : List Slo) (G : List Gat) (xs : List Exi) (v1 v2 v3 : Value) (g : Gat) (hK : 0 ≤ g.2.2.2) (w : World) (h : IsB B p sl G xs v1 v2 v3 w) :
    ∃ a b : Int, Calls Try.prog 8 #[.pointer (some ⟨B, 0, none⟩), .agg #[.int .i64 g.1, .int .i64 g.2.1, .int .i64 g.2.2.1, .int .u64 g.2.2.2]] w fun e W' => e = .returned (.tuple #[.int .i64 a, .int .i64 b]) ∧ PutPost B p sl G xs v1 v2 v3 g w e W' := by
  have hc := put_any B p hp sl G xs v1 v2 v3 g hK w h
  by_cases hg : gErr p sl.length G.length g = 0
  · by_cases hf : G.length < 65536
    · refine ⟨(G.length : Nat), 0, hc.mono fun e W' he => ⟨?_, he⟩⟩
      rcases he with ⟨h1, h2, _⟩ | ⟨_, h1, h2, _⟩ | ⟨_, _, v, h2, _⟩
      · exact absurd hg h1
      · omega
      · exact h2
    · refine ⟨0, 3, hc.mono fun e W' he => ⟨?_, he⟩⟩
      rcases he with ⟨h1, h2, _⟩ | ⟨_, h1, h2, _⟩ | ⟨_, h1, v, h2, _⟩
      · exact absurd hg h1
      · exact h2
      · exact absurd h1 hf
  · refine ⟨0, gErr p sl.length G.length g, hc.mono fun e W' he => ⟨?_, he⟩⟩
    rcases he with ⟨h1, h2, _⟩ | ⟨h0, h1, h2, _⟩ | ⟨h0, h1, v, h2, _⟩
    · exact h2
    · exact absurd h0 hg
    · exact absurd h0 hg
set_option maxRecDepth 100000 in
theorem const_any (B p : Nat) (hp : 0 < p) (sl : List Slo) (G : List Gat) (xs : List Exi) (v1 v2 v3 : Value) (k : Int) (hK : 0 ≤ k) (w : World) (h : IsB B p sl G xs v1 v2 v3 w) :
    Calls Try.prog 9 #[.pointer (some ⟨B, 0, none⟩), .int .u64 k] w (PutPost B p sl G xs v1 v2 v3 (2, 0, 0, k) w) := by
  obtain ⟨x, y, hc⟩ := put_det B p hp sl G xs v1 v2 v3 (2, 0, 0, k) hK w h
  have HC := Lib.hid hc; clear hc h
  generalize hQ : PutPost B p sl G xs v1 v2 v3 (2, 0, 0, k) w = Q at *
  clear hQ
  go_enter Try.func9, Try.ntmps9
  go_wp2_with (go_at_call 8; refine HC.out.mono ?_; rintro e w1 ⟨rfl, he⟩; have HE := Lib.hid he; clear he)
  exact HE.out
/-- The board as a ring. -/
def wireV (B : Nat) : Value := .agg #[.pointer (some ⟨B, 0, none⟩)]
set_option maxRecDepth 100000 in
theorem wput_ok (B p : Nat) (hp : 0 < p) (sl : List Slo) (G : List Gat) (xs : List Exi) (v1 v2 v3 : Value) (g : Gat) (hK : 0 ≤ g.2.2.2) (hg : gErr p sl.length G.length g = 0) (hf : G.length < 65536) (w : World) (h : IsB B p sl G xs v1 v2 v3 w) :
    Calls Try.prog 111 #[.agg #[.pointer (some ⟨B, 0, none⟩)], .agg #[.int .i64 g.1, .int .i64 g.2.1, .int .i64 g.2.2.1, .int .u64 g.2.2.2]] w (OkPost B p sl (G ++ [g]) xs v1 v2 v3 w (.int .i64 (G.length : Nat))) := by
  have HP : Hid (∀ W, Below w.heap.size w W → Calls Try.prog 8 #[.pointer (some ⟨B, 0, none⟩), .agg #[.int .i64 g.1, .int .i64 g.2.1, .int .i64 g.2.2.1, .int .u64 g.2.2.2]] W fun e W' => e = .returned (.tuple #[.int .i64 (G.length : Nat), .int .i64 0]) ∧ ∃ v, IsB B p sl (G ++ [g]) xs v1 v v3 W' ∧ Fr B v2 v w W') :=
    Lib.hid fun W hb => (put_ok B p hp sl G xs v1 v2 v3 g hK hg hf W (h.below hb)).mono fun _ _ he => ⟨he.1, he.from hb⟩
  obtain ⟨k, a, b, K⟩ := g
  simp only at *
  clear h hg hK hf
  go_enter Try.func111, Try.ntmps111
  go_wp2_with (go_at_call 8; refine (HP.out _ (by repeat (first | exact Below.refl _ _ | refine Below.alloc ?_ (by simp) _))).mono ?_; rintro e w1 ⟨rfl, he⟩; have HE := Lib.hid he; clear he)
  go_ret
  exact ⟨rfl, HE.out⟩
theorem wput_from (B p : Nat) (hp : 0 < p) (sl : List Slo) (G : List Gat) (xs : List Exi) (v1 v2 v3 : Value) (g : Gat) (hK : 0 ≤ g.2.2.2) (hg : gErr p sl.length G.length g = 0) (hf : G.length < 65536) (w : World) (h : IsB B p sl G xs v1 v2 v3 w) :
    Hid (∀ W, Below w.heap.size w W → Calls Try.prog 111 #[.agg #[.pointer (some ⟨B, 0, none⟩)], .agg #[.int .i64 g.1, .int .i64 g.2.1, .int .i64 g.2.2.1, .int .u64 g.2.2.2]] W fun e W' => e = .returned (.int .i64 (G.length : Nat)) ∧ ∃ v, IsB B p sl (G ++ [g]) xs v1 v v3 W' ∧ Fr B v2 v w W') :=
  Lib.hid fun W hb => (wput_ok B p hp sl G xs v1 v2 v3 g hK hg hf W (h.below hb)).mono fun _ _ he => ⟨he.1, he.from hb⟩
theorem gErr_bin {p : Nat} {s m : Nat} {k : Int} (hk : k = 3 ∨ k = 4 ∨ k = 5) {x y : Nat} (hx : x < m) (hy : y < m) : gErr p s m (k, (x : Int), (y : Int), 0) = 0 := by
  unfold gErr gateErr
  rcases hk with rfl | rfl | rfl <;> simp <;> omega
theorem gErr_con {p : Nat} {s m : Nat} {k : Nat} (hk : k < p) : gErr p s m (2, 0, 0, (k : Int)) = 0 := by
  unfold gErr gateErr
  simp; omega
set_option maxRecDepth 100000 in
theorem sum_ok (B p : Nat) (hp : 0 < p) (sl : List Slo) (G : List Gat) (xs : List Exi) (v1 v2 v3 : Value) (x y : Nat) (hx : x < G.length) (hy : y < G.length) (hf : G.length < 65536) (w : World) (h : IsB B p sl G xs v1 v2 v3 w) :
    Calls Try.prog 110 #[.agg #[.pointer (some ⟨B, 0, none⟩)], .int .i64 x, .int .i64 y] w (OkPost B p sl (G ++ [(3, (x : Int), (y : Int), 0)]) xs v1 v2 v3 w (.int .i64 (G.length : Nat))) := by
  have HP := wput_from B p hp sl G xs v1 v2 v3 (3, (x : Int), (y : Int), 0) (Int.le_refl 0) (gErr_bin (by decide) hx hy) hf w h
  simp only at HP
  clear h hx hy hf
  go_enter Try.func110, Try.ntmps110
  go_wp2_with (go_at_call 111; refine (HP.out _ (by repeat (first | exact Below.refl _ _ | refine Below.alloc ?_ (by simp) _))).mono ?_; rintro e w1 ⟨rfl, he⟩; have HE := Lib.hid he; clear he)
  go_ret
  exact ⟨rfl, HE.out⟩
set_option maxRecDepth 100000 in
theorem less_ok (B p : Nat) (hp : 0 < p) (sl : List Slo) (G : List Gat) (xs : List Exi) (v1 v2 v3 : Value) (x y : Nat) (hx : x < G.length) (hy : y < G.length) (hf : G.length < 65536) (w : World) (h : IsB B p sl G xs v1 v2 v3 w) :
    Calls Try.prog 108 #[.agg #[.pointer (some ⟨B, 0, none⟩)], .int .i64 x, .int .i64 y] w (OkPost B p sl (G ++ [(4, (x : Int), (y : Int), 0)]) xs v1 v2 v3 w (.int .i64 (G.length : Nat))) := by
  have HP := wput_from B p hp sl G xs v1 v2 v3 (4, (x : Int), (y : Int), 0) (Int.le_refl 0) (gErr_bin (by decide) hx hy) hf w h
  simp only at HP
  clear h hx hy hf
  go_enter Try.func108, Try.ntmps108
  go_wp2_with (go_at_call 111; refine (HP.out _ (by repeat (first | exact Below.refl _ _ | refine Below.alloc ?_ (by simp) _))).mono ?_; rintro e w1 ⟨rfl, he⟩; have HE := Lib.hid he; clear he)
  go_ret
  exact ⟨rfl, HE.out⟩
set_option maxRecDepth 100000 in
theorem product_ok (B p : Nat) (hp : 0 < p) (sl : List Slo) (G : List Gat) (xs : List Exi) (v1 v2 v3 : Value) (x y : Nat) (hx : x < G.length) (hy : y < G.length) (hf : G.length < 65536) (w : World) (h : IsB B p sl G xs v1 v2 v3 w) :
    Calls Try.prog 109 #[.agg #[.pointer (some ⟨B, 0, none⟩)], .int .i64 x, .int .i64 y] w (OkPost B p sl (G ++ [(5, (x : Int), (y : Int), 0)]) xs v1 v2 v3 w (.int .i64 (G.length : Nat))) := by
  have HP := wput_from B p hp sl G xs v1 v2 v3 (5, (x : Int), (y : Int), 0) (Int.le_refl 0) (gErr_bin (by decide) hx hy) hf w h
  simp only at HP
  clear h hx hy hf
  go_enter Try.func109, Try.ntmps109
  go_wp2_with (go_at_call 111; refine (HP.out _ (by repeat (first | exact Below.refl _ _ | refine Below.alloc ?_ (by simp) _))).mono ?_; rintro e w1 ⟨rfl, he⟩; have HE := Lib.hid he; clear he)
  go_ret
  exact ⟨rfl, HE.out⟩
set_option maxRecDepth 100000 in
theorem fixed_ok (B p : Nat) (hp : 0 < p) (sl : List Slo) (G : List Gat) (xs : List Exi) (v1 v2 v3 : Value) (k : Nat) (hk : k < p) (hf : G.length < 65536) (w : World) (h : IsB B p sl G xs v1 v2 v3 w) :
    Calls Try.prog 107 #[.agg #[.pointer (some ⟨B, 0, none⟩)], .int .u64 k] w (OkPost B p sl (G ++ [(2, 0, 0, (k : Int))]) xs v1 v2 v3 w (.int .i64 (G.length : Nat))) := by
  have HP := wput_from B p hp sl G xs v1 v2 v3 (2, 0, 0, (k : Int)) (by simp) (gErr_con hk) hf w h
  simp only at HP
  have q0 := (box4 h.hb).1
  have hlt := h.lt
  have nB : ¬ B = w.heap.size := by omega
  have hm : (k : Int).tmod (p : Int) = (k : Int) := by rw [Int.tmod_eq_emod_of_nonneg (by omega)]; exact Int.emod_eq_of_lt (by omega) (by omega)
  have hz : ¬ p = 0 := by omega
  clear h hk hf
  go_enter Try.func107, Try.ntmps107
  go_wp2
  have c0 : (w.alloc (.cells #[.pointer (some ⟨B, 0, none⟩)] 115)).cell? ⟨w.heap.size, 0, none⟩ = some (.pointer (some ⟨B, 0, none⟩)) := cell_in (heap_alloc_new w _)
  have q1 := cell_al (o := .cells #[.pointer (some ⟨B, 0, none⟩)] 115) q0
  have hb1 := Lib.hid ((Below.refl w.heap.size w).alloc (Nat.le_refl _) (.cells #[.pointer (some ⟨B, 0, none⟩)] 115))
  clear q0
  generalize (w.alloc (.cells #[.pointer (some ⟨B, 0, none⟩)] 115)) = w1 at *
  go_still_tail 9, (by kernel_rfl)
  change wpList _ _ _ _ _ _
  go_wp2_with (go_at_call 111; refine (HP.out _ hb1.out.drew).mono ?_; rintro e w2 ⟨rfl, he⟩; have HE := Lib.hid he; clear he)
  go_ret
  exact ⟨rfl, HE.out⟩
end Go.Proofs.Ytkcdlbclodjjhaa
