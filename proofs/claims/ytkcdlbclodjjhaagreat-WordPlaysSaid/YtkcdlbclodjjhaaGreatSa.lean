/- The law's worth, for the acts on words. (Printed by wip/tools/gen_sa.py.) -/
import Derived.Test.YtkcdlbclodjjhaaGreatRe
import Derived.Test.YtkcdlbclodjjhaaGreatQa
namespace Go.Proofs.YtkcdlbclodjjhaaGreat
open Go.RowKit

/-- The number of a word's places with values of the field. -/
def sumP (p : Nat) (V ws : List Nat) : Nat → Nat
  | 0 => 0
  | k + 1 => (sumP p V ws k + V.getD (ws.getD k 0) 0 * (2 ^ k % p) % p) % p
theorem sumP_lt {p : Nat} (hp : 0 < p) (V ws : List Nat) : ∀ k, sumP p V ws k < p
  | 0 => hp
  | _ + 1 => Nat.mod_lt _ hp

set_option maxHeartbeats 4000000 in
set_option maxRecDepth 100000 in
theorem worth_9 (p : Nat) (a b c k : Int) (VA WA A : Option Addr) (vl wl vc wc vn cc : Nat) (s : Slo) (g : Gat) (x : Exi) (w : World) (h3 : 3 ≤ p) (pm : p ≤ 65537) (V ws : List Nat) (hvn : V.length = vn) (hVl : ∀ k, (hk : k < V.length) → V[k] < p) (hwl : ws.length = vl) (hw16 : vl ≤ 16) (hws : ∀ y ∈ ws, y < vn) (hV : Reads w A (uCells V)) (hVA : Reads w VA (nCells ws)) :
    Calls Tryz.prog 44 #[.int .u64 ((p : Nat) : Int), .agg #[.int .i64 9, .int .i64 a, .int .i64 b, .int .i64 c, .int .u64 k, .slice VA vl vc, .slice WA wl wc, .int .i64 s.1, .bool s.2, .int .i64 g.1, .int .i64 g.2.1, .int .i64 g.2.2.1, .int .u64 g.2.2.2, .slice x.A x.tl.length x.c, .slice x.B x.gl.length x.d], .slice A vn cc] w (WRet (fun t n => t = ((sumP p V ws vl : Nat) : Int) ∧ n = 0) w) := by
  have kb : (w.alloc (.cells #[.int .i64 9, .int .i64 a, .int .i64 b, .int .i64 c, .int .u64 k, .slice VA vl vc, .slice WA wl wc, .int .i64 s.1, .bool s.2, .int .i64 g.1, .int .i64 g.2.1, .int .i64 g.2.2.1, .int .u64 g.2.2.2, .slice x.A x.tl.length x.c, .slice x.B x.gl.length x.d] 46)).heap[w.heap.size]? = some (.cells #[.int .i64 9, .int .i64 a, .int .i64 b, .int .i64 c, .int .u64 k, .slice VA vl vc, .slice WA wl wc, .int .i64 s.1, .bool s.2, .int .i64 g.1, .int .i64 g.2.1, .int .i64 g.2.2.1, .int .u64 g.2.2.2, .slice x.A x.tl.length x.c, .slice x.B x.gl.length x.d] 46 (0, 0)) := heap_alloc_new w _
  have HB0 : Hid (Below w.heap.size w (w.alloc (.cells #[.int .i64 9, .int .i64 a, .int .i64 b, .int .i64 c, .int .u64 k, .slice VA vl vc, .slice WA wl wc, .int .i64 s.1, .bool s.2, .int .i64 g.1, .int .i64 g.2.1, .int .i64 g.2.2.1, .int .u64 g.2.2.2, .slice x.A x.tl.length x.c, .slice x.B x.gl.length x.d] 46))) := Lib.hid ((Below.refl _ _).alloc (Nat.le_refl _) _)
  have q0 : World.cell? _ ⟨w.heap.size, 0, none⟩ = some (.int .i64 9) := cell_in kb
  have q5 : World.cell? _ ⟨w.heap.size, 5, none⟩ = some (.slice VA vl vc) := cell_in kb
  subst hwl hvn
  have HA := Lib.hid hVA; have HV := Lib.hid hV; have HR := Lib.hid hws; have HL := Lib.hid hVl
  clear kb hVA hV hws hVl
  generalize hw1 : (w.alloc (.cells #[.int .i64 9, .int .i64 a, .int .i64 b, .int .i64 c, .int .u64 k, .slice VA ws.length vc, .slice WA wl wc, .int .i64 s.1, .bool s.2, .int .i64 g.1, .int .i64 g.2.1, .int .i64 g.2.2.1, .int .u64 g.2.2.2, .slice x.A x.tl.length x.c, .slice x.B x.gl.length x.d] 46)) = w1 at *
  go_enter Tryz.func44, Tryz.ntmps44
  go_wp2_with fail
  go_loopg [10, 127] ws.length (fun g s' i' wr => ∃ k s : Nat, k ≤ ws.length ∧ g = ws.length - k ∧ s' = .int .u64 ((s : Nat) : Int) ∧ i' = .int .i64 k ∧ Hid (s = sumP p V ws k) ∧ Hid (Below w1.heap.size w1 wr))
  case atStart => exact ⟨0, 0, Nat.zero_le _, rfl, rfl, rfl, Lib.hid rfl, Lib.hid (Below.refl _ _)⟩
  case round =>
    obtain ⟨k, s, hk, rfl, rfl, rfl, hs, HB⟩ := hrel
    have sz := HB.out.size
    by_cases hlt : k < ws.length
    · obtain ⟨ad, hva, q0w⟩ := HA.out.nat k hlt
      have hx := HR.out _ (List.getElem_mem hlt)
      have hgx : ws.getD k 0 = ws[k] := getD_at hlt
      have hsu : sumP p V ws (k + 1) = (s + V.getD ws[k] 0 * (2 ^ k % p) % p) % p := by simp only [sumP]; rw [hgx, hs.out]
      generalize ws[k] = x at *
      obtain ⟨vad, hvv, q1w⟩ := HV.out.uat x hx
      have hvx : V.getD x 0 = V[x] := getD_at hx
      have hbl := HL.out x hx
      rw [hvx] at hsu
      have hsl : s < p := by rw [hs.out]; exact sumP_lt (by omega) V ws k
      generalize V[x] = bv at *
      subst hva
      subst hvv
      have hml : 2 ^ k % p < p := Nat.mod_lt _ (by omega)
      have HP := Lib.hid (show ∀ W, Calls Tryz.prog 84 #[.int .u64 ((p : Nat) : Int), .int .u64 2, .int .u64 ((k : Nat) : Int)] W (fun x w' => x = .returned (.int .u64 ((2 ^ k % p : Nat) : Int)) ∧ W = w') from fun W => pow_any p (by omega) pm 2 (by omega) k (by omega) W)
      generalize 2 ^ k % p = tk at *
      have hml2 : bv * tk % p < p := Nat.mod_lt _ (by omega)
      have HM := Lib.hid (fun W => rmul_any p bv tk (by omega) pm hbl hml W)
      generalize bv * tk % p = mk at *
      have HAD := Lib.hid (fun W => radd_any p s mk (by omega) pm hsl hml2 W)
      have HSU := Lib.hid hsu
      clear hsu
      generalize (s + mk) % p = nk at *
      have q0 : wr.cell? (ad.add k) = some (.int .i64 ((x : Nat) : Int)) := cell_blA (cell_blA q0w (by exact hw1 ▸ HB0.out)) HB.out
      have q1 : wr.cell? (vad.add x) = some (.int .u64 ((bv : Nat) : Int)) := cell_blA (cell_blA q1w (by exact hw1 ▸ HB0.out)) HB.out
      have i1 : (0 : Int) ≤ (k : Int) := by omega
      have i2 : (k : Int) < (ws.length : Int) := by omega
      have i3 : (0 : Int) ≤ (x : Int) := by omega
      have i4 : (x : Int) < (V.length : Int) := by omega
      have i5 : IntKind.u64.wrap (k : Int) = (k : Int) := IntWalk.u64_in _ (by omega)
      go_wp2_with fail
      have HCE : Hid (∀ W, Below wr.heap.size wr W → (fun W => W.cell? (Addr.add vad x) = some (.int .u64 ((bv : Nat) : Int))) W) := Lib.hid fun W hb => cell_blA q1 hb
      go_region_held3 (fun W => W.cell? (Addr.add vad x) = some (.int .u64 ((bv : Nat) : Int))) (first | exact HCE.out _ (Below.refl _ _) | exact HCE.out _ (Below.refl _ _).drew) (first | (go_at_call 84; (try rw [i5]); with_reducible refine (HP.out _).mono ?_; rintro e w5 ⟨rfl, rfl⟩) | (go_at_call 60; (try rw [i5]); with_reducible refine (HM.out _).mono ?_; rintro e w5 ⟨rfl, rfl⟩) | (go_at_call 58; (try rw [i5]); with_reducible refine (HAD.out _).mono ?_; rintro e w5 ⟨rfl, rfl⟩))
      all_goals (try go_wp2)
      go_roundg (ws.length - (k + 1))
      case measure => omega
      case rel => exact ⟨k + 1, nk, by omega, rfl, rfl, by go_num, Lib.hid HSU.out.symm, Lib.hid HB.out.drew⟩
    · obtain rfl : k = ws.length := by omega
      go_wp2
      go_ret3
      exact ⟨_, _, _, rfl, HB0.out.trans (HB.out.mono HB0.out.size), fun _ => ⟨by rw [hs.out], rfl⟩⟩
set_option maxHeartbeats 4000000 in
set_option maxRecDepth 100000 in
theorem worth_10 (p : Nat) (a b c k : Int) (VA WA A : Option Addr) (vl wl vc wc vn cc : Nat) (s : Slo) (g : Gat) (x : Exi) (w : World) (V vs ws : List Nat) (hvn : V.length = vn) (hvl : vs.length = vl) (hw16 : vl ≤ 16) (hwl : ws.length = vl) (hww : wl = vl) (hvs : ∀ y ∈ vs, y < vn) (hws : ∀ y ∈ ws, y < vn) (hV : Reads w A (uCells V)) (hVA : Reads w VA (nCells vs)) (hWA : Reads w WA (nCells ws)) :
    Calls Tryz.prog 44 #[.int .u64 ((p : Nat) : Int), .agg #[.int .i64 10, .int .i64 a, .int .i64 b, .int .i64 c, .int .u64 k, .slice VA vl vc, .slice WA wl wc, .int .i64 s.1, .bool s.2, .int .i64 g.1, .int .i64 g.2.1, .int .i64 g.2.2.1, .int .u64 g.2.2.2, .slice x.A x.tl.length x.c, .slice x.B x.gl.length x.d], .slice A vn cc] w (WRet (fun t n => (vs.all fun x => decide (V.getD x 0 ≤ 1)) = true ∧ (ws.all fun x => decide (V.getD x 0 ≤ 1)) = true ∧ t = (((numK V vs vl + numK V ws vl) % 2 ^ vl : Nat) : Int) ∧ n = ((vl : Nat) : Int)) w) := by
  subst hww
  have kb : (w.alloc (.cells #[.int .i64 10, .int .i64 a, .int .i64 b, .int .i64 c, .int .u64 k, .slice VA wl vc, .slice WA wl wc, .int .i64 s.1, .bool s.2, .int .i64 g.1, .int .i64 g.2.1, .int .i64 g.2.2.1, .int .u64 g.2.2.2, .slice x.A x.tl.length x.c, .slice x.B x.gl.length x.d] 46)).heap[w.heap.size]? = some (.cells #[.int .i64 10, .int .i64 a, .int .i64 b, .int .i64 c, .int .u64 k, .slice VA wl vc, .slice WA wl wc, .int .i64 s.1, .bool s.2, .int .i64 g.1, .int .i64 g.2.1, .int .i64 g.2.2.1, .int .u64 g.2.2.2, .slice x.A x.tl.length x.c, .slice x.B x.gl.length x.d] 46 (0, 0)) := heap_alloc_new w _
  have HB0 : Hid (Below w.heap.size w (w.alloc (.cells #[.int .i64 10, .int .i64 a, .int .i64 b, .int .i64 c, .int .u64 k, .slice VA wl vc, .slice WA wl wc, .int .i64 s.1, .bool s.2, .int .i64 g.1, .int .i64 g.2.1, .int .i64 g.2.2.1, .int .u64 g.2.2.2, .slice x.A x.tl.length x.c, .slice x.B x.gl.length x.d] 46))) := Lib.hid ((Below.refl _ _).alloc (Nat.le_refl _) _)
  have q0 : World.cell? _ ⟨w.heap.size, 0, none⟩ = some (.int .i64 10) := cell_in kb
  have q5 : World.cell? _ ⟨w.heap.size, 5, none⟩ = some (.slice VA wl vc) := cell_in kb
  have q6 : World.cell? _ ⟨w.heap.size, 6, none⟩ = some (.slice WA wl wc) := cell_in kb
  have HV := Lib.hid (hV.below ((Below.refl _ _).alloc (Nat.le_refl _) _) : Reads (w.alloc (.cells #[.int .i64 10, .int .i64 a, .int .i64 b, .int .i64 c, .int .u64 k, .slice VA wl vc, .slice WA wl wc, .int .i64 s.1, .bool s.2, .int .i64 g.1, .int .i64 g.2.1, .int .i64 g.2.2.1, .int .u64 g.2.2.2, .slice x.A x.tl.length x.c, .slice x.B x.gl.length x.d] 46)) A (uCells V))
  have HVA := Lib.hid (hVA.below ((Below.refl _ _).alloc (Nat.le_refl _) _) : Reads (w.alloc (.cells #[.int .i64 10, .int .i64 a, .int .i64 b, .int .i64 c, .int .u64 k, .slice VA wl vc, .slice WA wl wc, .int .i64 s.1, .bool s.2, .int .i64 g.1, .int .i64 g.2.1, .int .i64 g.2.2.1, .int .u64 g.2.2.2, .slice x.A x.tl.length x.c, .slice x.B x.gl.length x.d] 46)) VA (nCells vs))
  have HWA := Lib.hid (hWA.below ((Below.refl _ _).alloc (Nat.le_refl _) _) : Reads (w.alloc (.cells #[.int .i64 10, .int .i64 a, .int .i64 b, .int .i64 c, .int .u64 k, .slice VA wl vc, .slice WA wl wc, .int .i64 s.1, .bool s.2, .int .i64 g.1, .int .i64 g.2.1, .int .i64 g.2.2.1, .int .u64 g.2.2.2, .slice x.A x.tl.length x.c, .slice x.B x.gl.length x.d] 46)) WA (nCells ws))
  have HL := Lib.hid (And.intro hvl hwl); have HVS := Lib.hid hvs; have HWS := Lib.hid hws; have HVN := Lib.hid hvn
  clear kb hVA hWA hV hvl hwl hvs hws hvn
  generalize hw1 : (w.alloc (.cells #[.int .i64 10, .int .i64 a, .int .i64 b, .int .i64 c, .int .u64 k, .slice VA wl vc, .slice WA wl wc, .int .i64 s.1, .bool s.2, .int .i64 g.1, .int .i64 g.2.1, .int .i64 g.2.2.1, .int .u64 g.2.2.2, .slice x.A x.tl.length x.c, .slice x.B x.gl.length x.d] 46)) = w1 at *
  have HB1 := Lib.hid (bits_any V vs A VA cc vc vn wl HL.out.1 HVN.out (by omega) HVS.out w1 HV.out HVA.out)
  have HB2 := Lib.hid (bits_any V ws A WA cc wc vn wl HL.out.2 HVN.out (by omega) HWS.out w1 HV.out HWA.out)
  by_cases t1 : (vs.all fun x => decide (V.getD x 0 ≤ 1)) = true
  · by_cases t2 : (ws.all fun x => decide (V.getD x 0 ≤ 1)) = true
    · have hb1 : ∀ x ∈ vs, V.getD x 0 ≤ 1 := fun x hx => of_decide_eq_true (List.all_eq_true.1 t1 x hx)
      have hb2 : ∀ x ∈ ws, V.getD x 0 ≤ 1 := fun x hx => of_decide_eq_true (List.all_eq_true.1 t2 x hx)
      have HN1 := Lib.hid (fun (W : World) (hb : Below w1.heap.size w1 W) => number_ok V vs A VA cc vc wl vn HL.out.1 HVN.out (by omega) HVS.out hb1 W (HV.out.below hb) (HVA.out.below hb))
      have HN2 := Lib.hid (fun (W : World) (hb : Below w1.heap.size w1 W) => number_ok V ws A WA cc wc wl vn HL.out.2 HVN.out (by omega) HWS.out hb2 W (HV.out.below hb) (HWA.out.below hb))
      have hx := numK_lt V vs hb1 wl (by rw [HL.out.1]; exact Nat.le_refl _)
      have hy := numK_lt V ws hb2 wl (by rw [HL.out.2]; exact Nat.le_refl _)
      rw [t1] at HB1; rw [t2] at HB2
      have hp16 : 2 ^ wl ≤ 2 ^ 16 := Nat.pow_le_pow_right (by decide) hw16
      have hpos : 0 < 2 ^ wl := Nat.pow_pos (by decide)
      obtain ⟨N, hN⟩ : ∃ N, N = 2 ^ wl := ⟨_, rfl⟩
      have e9 : wrap64 ((2 : Int) ^ wl) = ((N : Nat) : Int) := by
        have e1 : ((2 : Int) ^ wl) = ((2 ^ wl : Nat) : Int) := by simp
        rw [e1, ← hN]; unfold wrap64; omega
      have e8 : wrap64 ((2 : Int) ^ min wl 64) = ((N : Nat) : Int) := by rw [Nat.min_eq_left (by omega)]; exact e9
      have e7 : ((N : Nat) : Int) % 18446744073709551616 = ((N : Nat) : Int) := Int.emod_eq_of_lt (by omega) (by omega)
      have e6 : IntKind.u64.wrap ((N : Nat) : Int) = ((N : Nat) : Int) := IntWalk.u64_in _ (by omega)
      rw [t1, t2]
      rw [← hN] at hx hy hp16 hpos
      rw [← hN]
      have HNN := Lib.hid hN
      clear hb1 hb2 t1 t2 hN
      generalize numK V vs wl = X at *
      generalize numK V ws wl = Y at *
      have i1 : ¬ N = 0 := by omega
      have i5 : IntKind.u64.wrap ((X : Int) + (Y : Int)) = (X : Int) + (Y : Int) := IntWalk.u64_in _ (by omega)
      go_enter Tryz.func44, Tryz.ntmps44
      go_upto_region 1 with fail
      try rw [hw1]
      have HCE : Hid (∀ W, Below w1.heap.size w1 W → (fun W => W.cell? ⟨w.heap.size, 5, none⟩ = some (.slice VA wl vc) ∧ W.cell? ⟨w.heap.size, 6, none⟩ = some (.slice WA wl wc) ∧ W.cell? ⟨w.heap.size, 0, none⟩ = some (.int .i64 10)) W) := Lib.hid fun W hb => ⟨cell_blA q5 hb, cell_blA q6 hb, cell_blA q0 hb⟩
      go_upto_region 27 with (first | (go_at_call 45; (with_reducible refine HB1.out.mono ?_); rintro e w5 ⟨rfl, rfl⟩) | (go_at_call 45; (with_reducible refine HB2.out.mono ?_); rintro e w5 ⟨rfl, rfl⟩))
      go_region_held3 (fun W => W.cell? ⟨w.heap.size, 5, none⟩ = some (.slice VA wl vc) ∧ W.cell? ⟨w.heap.size, 6, none⟩ = some (.slice WA wl wc) ∧ W.cell? ⟨w.heap.size, 0, none⟩ = some (.int .i64 10)) (first | exact HCE.out _ (Below.refl _ _) | exact HCE.out _ (Below.refl _ _).drew) (first | (go_at_call 20; with_reducible refine (HN1.out _ (by repeat (first | exact Below.refl _ _ | refine Below.drew ?_))).mono ?_; rintro e w5 ⟨rfl, rfl⟩) | (go_at_call 20; with_reducible refine (HN2.out _ (by repeat (first | exact Below.refl _ _ | refine Below.drew ?_))).mono ?_; rintro e w5 ⟨rfl, rfl⟩))
      all_goals (try go_wp2_with fail)
      go_region_held3 (fun W => W.cell? ⟨w.heap.size, 5, none⟩ = some (.slice VA wl vc) ∧ W.cell? ⟨w.heap.size, 6, none⟩ = some (.slice WA wl wc) ∧ W.cell? ⟨w.heap.size, 0, none⟩ = some (.int .i64 10)) (first | exact HCE.out _ (Below.refl _ _).drew | exact HCE.out _ (Below.refl _ _).drew.drew) (fail)
      all_goals (try go_wp2_with fail)
      all_goals go_ret3
      all_goals exact ⟨_, _, _, rfl, HB0.out.trans (((Below.refl w1.heap.size w1).drew.drew).mono HB0.out.size), fun _ => (by refine ⟨trivial, trivial, ?_, rfl⟩; rw [Int.natCast_emod, Int.natCast_add]; exact Int.tmod_eq_emod_of_nonneg (by omega))⟩
    · have t3 : (ws.all fun x => decide (V.getD x 0 ≤ 1)) = false := by simpa using t2
      rw [t1] at HB1; rw [t3] at HB2
      clear t1 t2 t3
      go_enter Tryz.func44, Tryz.ntmps44
      go_upto_region 1 with fail
      try rw [hw1]
      go_wp2_with (first | (go_at_call 45; (with_reducible refine HB1.out.mono ?_); rintro e w5 ⟨rfl, rfl⟩) | (go_at_call 45; (with_reducible refine HB2.out.mono ?_); rintro e w5 ⟨rfl, rfl⟩))
      all_goals go_ret3
      all_goals exact ⟨_, _, _, rfl, HB0.out, fun h => absurd h (by decide)⟩
  · have t3 : (vs.all fun x => decide (V.getD x 0 ≤ 1)) = false := by simpa using t1
    rw [t3] at HB1
    clear t1 t3
    go_enter Tryz.func44, Tryz.ntmps44
    go_upto_region 1 with fail
    try rw [hw1]
    go_wp2_with (first | (go_at_call 45; (with_reducible refine HB1.out.mono ?_); rintro e w5 ⟨rfl, rfl⟩))
    all_goals go_ret3
    all_goals exact ⟨_, _, _, rfl, HB0.out, fun h => absurd h (by decide)⟩
set_option maxHeartbeats 4000000 in
set_option maxRecDepth 100000 in
theorem worth_11 (p : Nat) (a b c k : Int) (VA WA A : Option Addr) (vl wl vc wc vn cc : Nat) (s : Slo) (g : Gat) (x : Exi) (w : World) (V vs ws : List Nat) (hvn : V.length = vn) (hvl : vs.length = vl) (hw16 : vl ≤ 16) (hwl : ws.length = vl) (hww : wl = vl) (hvs : ∀ y ∈ vs, y < vn) (hws : ∀ y ∈ ws, y < vn) (hV : Reads w A (uCells V)) (hVA : Reads w VA (nCells vs)) (hWA : Reads w WA (nCells ws)) :
    Calls Tryz.prog 44 #[.int .u64 ((p : Nat) : Int), .agg #[.int .i64 11, .int .i64 a, .int .i64 b, .int .i64 c, .int .u64 k, .slice VA vl vc, .slice WA wl wc, .int .i64 s.1, .bool s.2, .int .i64 g.1, .int .i64 g.2.1, .int .i64 g.2.2.1, .int .u64 g.2.2.2, .slice x.A x.tl.length x.c, .slice x.B x.gl.length x.d], .slice A vn cc] w (WRet (fun t n => (vs.all fun x => decide (V.getD x 0 ≤ 1)) = true ∧ (ws.all fun x => decide (V.getD x 0 ≤ 1)) = true ∧ t = (((numK V vs vl + 2 ^ vl - numK V ws vl) % 2 ^ vl : Nat) : Int) ∧ n = ((vl : Nat) : Int)) w) := by
  subst hww
  have kb : (w.alloc (.cells #[.int .i64 11, .int .i64 a, .int .i64 b, .int .i64 c, .int .u64 k, .slice VA wl vc, .slice WA wl wc, .int .i64 s.1, .bool s.2, .int .i64 g.1, .int .i64 g.2.1, .int .i64 g.2.2.1, .int .u64 g.2.2.2, .slice x.A x.tl.length x.c, .slice x.B x.gl.length x.d] 46)).heap[w.heap.size]? = some (.cells #[.int .i64 11, .int .i64 a, .int .i64 b, .int .i64 c, .int .u64 k, .slice VA wl vc, .slice WA wl wc, .int .i64 s.1, .bool s.2, .int .i64 g.1, .int .i64 g.2.1, .int .i64 g.2.2.1, .int .u64 g.2.2.2, .slice x.A x.tl.length x.c, .slice x.B x.gl.length x.d] 46 (0, 0)) := heap_alloc_new w _
  have HB0 : Hid (Below w.heap.size w (w.alloc (.cells #[.int .i64 11, .int .i64 a, .int .i64 b, .int .i64 c, .int .u64 k, .slice VA wl vc, .slice WA wl wc, .int .i64 s.1, .bool s.2, .int .i64 g.1, .int .i64 g.2.1, .int .i64 g.2.2.1, .int .u64 g.2.2.2, .slice x.A x.tl.length x.c, .slice x.B x.gl.length x.d] 46))) := Lib.hid ((Below.refl _ _).alloc (Nat.le_refl _) _)
  have q0 : World.cell? _ ⟨w.heap.size, 0, none⟩ = some (.int .i64 11) := cell_in kb
  have q5 : World.cell? _ ⟨w.heap.size, 5, none⟩ = some (.slice VA wl vc) := cell_in kb
  have q6 : World.cell? _ ⟨w.heap.size, 6, none⟩ = some (.slice WA wl wc) := cell_in kb
  have HV := Lib.hid (hV.below ((Below.refl _ _).alloc (Nat.le_refl _) _) : Reads (w.alloc (.cells #[.int .i64 11, .int .i64 a, .int .i64 b, .int .i64 c, .int .u64 k, .slice VA wl vc, .slice WA wl wc, .int .i64 s.1, .bool s.2, .int .i64 g.1, .int .i64 g.2.1, .int .i64 g.2.2.1, .int .u64 g.2.2.2, .slice x.A x.tl.length x.c, .slice x.B x.gl.length x.d] 46)) A (uCells V))
  have HVA := Lib.hid (hVA.below ((Below.refl _ _).alloc (Nat.le_refl _) _) : Reads (w.alloc (.cells #[.int .i64 11, .int .i64 a, .int .i64 b, .int .i64 c, .int .u64 k, .slice VA wl vc, .slice WA wl wc, .int .i64 s.1, .bool s.2, .int .i64 g.1, .int .i64 g.2.1, .int .i64 g.2.2.1, .int .u64 g.2.2.2, .slice x.A x.tl.length x.c, .slice x.B x.gl.length x.d] 46)) VA (nCells vs))
  have HWA := Lib.hid (hWA.below ((Below.refl _ _).alloc (Nat.le_refl _) _) : Reads (w.alloc (.cells #[.int .i64 11, .int .i64 a, .int .i64 b, .int .i64 c, .int .u64 k, .slice VA wl vc, .slice WA wl wc, .int .i64 s.1, .bool s.2, .int .i64 g.1, .int .i64 g.2.1, .int .i64 g.2.2.1, .int .u64 g.2.2.2, .slice x.A x.tl.length x.c, .slice x.B x.gl.length x.d] 46)) WA (nCells ws))
  have HL := Lib.hid (And.intro hvl hwl); have HVS := Lib.hid hvs; have HWS := Lib.hid hws; have HVN := Lib.hid hvn
  clear kb hVA hWA hV hvl hwl hvs hws hvn
  generalize hw1 : (w.alloc (.cells #[.int .i64 11, .int .i64 a, .int .i64 b, .int .i64 c, .int .u64 k, .slice VA wl vc, .slice WA wl wc, .int .i64 s.1, .bool s.2, .int .i64 g.1, .int .i64 g.2.1, .int .i64 g.2.2.1, .int .u64 g.2.2.2, .slice x.A x.tl.length x.c, .slice x.B x.gl.length x.d] 46)) = w1 at *
  have HB1 := Lib.hid (bits_any V vs A VA cc vc vn wl HL.out.1 HVN.out (by omega) HVS.out w1 HV.out HVA.out)
  have HB2 := Lib.hid (bits_any V ws A WA cc wc vn wl HL.out.2 HVN.out (by omega) HWS.out w1 HV.out HWA.out)
  by_cases t1 : (vs.all fun x => decide (V.getD x 0 ≤ 1)) = true
  · by_cases t2 : (ws.all fun x => decide (V.getD x 0 ≤ 1)) = true
    · have hb1 : ∀ x ∈ vs, V.getD x 0 ≤ 1 := fun x hx => of_decide_eq_true (List.all_eq_true.1 t1 x hx)
      have hb2 : ∀ x ∈ ws, V.getD x 0 ≤ 1 := fun x hx => of_decide_eq_true (List.all_eq_true.1 t2 x hx)
      have HN1 := Lib.hid (fun (W : World) (hb : Below w1.heap.size w1 W) => number_ok V vs A VA cc vc wl vn HL.out.1 HVN.out (by omega) HVS.out hb1 W (HV.out.below hb) (HVA.out.below hb))
      have HN2 := Lib.hid (fun (W : World) (hb : Below w1.heap.size w1 W) => number_ok V ws A WA cc wc wl vn HL.out.2 HVN.out (by omega) HWS.out hb2 W (HV.out.below hb) (HWA.out.below hb))
      have hx := numK_lt V vs hb1 wl (by rw [HL.out.1]; exact Nat.le_refl _)
      have hy := numK_lt V ws hb2 wl (by rw [HL.out.2]; exact Nat.le_refl _)
      rw [t1] at HB1; rw [t2] at HB2
      have hp16 : 2 ^ wl ≤ 2 ^ 16 := Nat.pow_le_pow_right (by decide) hw16
      have hpos : 0 < 2 ^ wl := Nat.pow_pos (by decide)
      obtain ⟨N, hN⟩ : ∃ N, N = 2 ^ wl := ⟨_, rfl⟩
      have e9 : wrap64 ((2 : Int) ^ wl) = ((N : Nat) : Int) := by
        have e1 : ((2 : Int) ^ wl) = ((2 ^ wl : Nat) : Int) := by simp
        rw [e1, ← hN]; unfold wrap64; omega
      have e8 : wrap64 ((2 : Int) ^ min wl 64) = ((N : Nat) : Int) := by rw [Nat.min_eq_left (by omega)]; exact e9
      have e7 : ((N : Nat) : Int) % 18446744073709551616 = ((N : Nat) : Int) := Int.emod_eq_of_lt (by omega) (by omega)
      have e6 : IntKind.u64.wrap ((N : Nat) : Int) = ((N : Nat) : Int) := IntWalk.u64_in _ (by omega)
      rw [t1, t2]
      rw [← hN] at hx hy hp16 hpos
      rw [← hN]
      have HNN := Lib.hid hN
      clear hb1 hb2 t1 t2 hN
      generalize numK V vs wl = X at *
      generalize numK V ws wl = Y at *
      have i1 : ¬ N = 0 := by omega
      have i5 : IntKind.u64.wrap ((X : Int) + (N : Int)) = (X : Int) + (N : Int) := IntWalk.u64_in _ (by omega)
      have i6 : IntKind.u64.wrap ((X : Int) + (N : Int) - (Y : Int)) = (X : Int) + (N : Int) - (Y : Int) := IntWalk.u64_in _ (by omega)
      have HMN := Lib.hid (show ((X + N - Y : Nat) : Int) = (X : Int) + (N : Int) - (Y : Int) by omega)
      go_enter Tryz.func44, Tryz.ntmps44
      go_upto_region 1 with fail
      try rw [hw1]
      have HCE : Hid (∀ W, Below w1.heap.size w1 W → (fun W => W.cell? ⟨w.heap.size, 5, none⟩ = some (.slice VA wl vc) ∧ W.cell? ⟨w.heap.size, 6, none⟩ = some (.slice WA wl wc) ∧ W.cell? ⟨w.heap.size, 0, none⟩ = some (.int .i64 11)) W) := Lib.hid fun W hb => ⟨cell_blA q5 hb, cell_blA q6 hb, cell_blA q0 hb⟩
      go_upto_region 27 with (first | (go_at_call 45; (with_reducible refine HB1.out.mono ?_); rintro e w5 ⟨rfl, rfl⟩) | (go_at_call 45; (with_reducible refine HB2.out.mono ?_); rintro e w5 ⟨rfl, rfl⟩))
      go_region_held3 (fun W => W.cell? ⟨w.heap.size, 5, none⟩ = some (.slice VA wl vc) ∧ W.cell? ⟨w.heap.size, 6, none⟩ = some (.slice WA wl wc) ∧ W.cell? ⟨w.heap.size, 0, none⟩ = some (.int .i64 11)) (first | exact HCE.out _ (Below.refl _ _) | exact HCE.out _ (Below.refl _ _).drew) (first | (go_at_call 20; with_reducible refine (HN1.out _ (by repeat (first | exact Below.refl _ _ | refine Below.drew ?_))).mono ?_; rintro e w5 ⟨rfl, rfl⟩) | (go_at_call 20; with_reducible refine (HN2.out _ (by repeat (first | exact Below.refl _ _ | refine Below.drew ?_))).mono ?_; rintro e w5 ⟨rfl, rfl⟩))
      all_goals (try go_wp2_with fail)
      go_region_held3 (fun W => W.cell? ⟨w.heap.size, 5, none⟩ = some (.slice VA wl vc) ∧ W.cell? ⟨w.heap.size, 6, none⟩ = some (.slice WA wl wc) ∧ W.cell? ⟨w.heap.size, 0, none⟩ = some (.int .i64 11)) (first | exact HCE.out _ (Below.refl _ _).drew | exact HCE.out _ (Below.refl _ _).drew.drew) (fail)
      all_goals (try go_wp2_with fail)
      all_goals go_ret3
      all_goals exact ⟨_, _, _, rfl, HB0.out.trans (((Below.refl w1.heap.size w1).drew.drew).mono HB0.out.size), fun _ => (by refine ⟨trivial, trivial, ?_, rfl⟩; rw [Int.natCast_emod, HMN.out]; exact Int.tmod_eq_emod_of_nonneg (by omega))⟩
    · have t3 : (ws.all fun x => decide (V.getD x 0 ≤ 1)) = false := by simpa using t2
      rw [t1] at HB1; rw [t3] at HB2
      clear t1 t2 t3
      go_enter Tryz.func44, Tryz.ntmps44
      go_upto_region 1 with fail
      try rw [hw1]
      go_wp2_with (first | (go_at_call 45; (with_reducible refine HB1.out.mono ?_); rintro e w5 ⟨rfl, rfl⟩) | (go_at_call 45; (with_reducible refine HB2.out.mono ?_); rintro e w5 ⟨rfl, rfl⟩))
      all_goals go_ret3
      all_goals exact ⟨_, _, _, rfl, HB0.out, fun h => absurd h (by decide)⟩
  · have t3 : (vs.all fun x => decide (V.getD x 0 ≤ 1)) = false := by simpa using t1
    rw [t3] at HB1
    clear t1 t3
    go_enter Tryz.func44, Tryz.ntmps44
    go_upto_region 1 with fail
    try rw [hw1]
    go_wp2_with (first | (go_at_call 45; (with_reducible refine HB1.out.mono ?_); rintro e w5 ⟨rfl, rfl⟩))
    all_goals go_ret3
    all_goals exact ⟨_, _, _, rfl, HB0.out, fun h => absurd h (by decide)⟩
set_option maxHeartbeats 4000000 in
set_option maxRecDepth 100000 in
theorem worth_12 (p : Nat) (a b c k : Int) (VA WA A : Option Addr) (vl wl vc wc vn cc : Nat) (s : Slo) (g : Gat) (x : Exi) (w : World) (V vs ws : List Nat) (hvn : V.length = vn) (hvl : vs.length = vl) (hw16 : vl ≤ 16) (hwl : ws.length = vl) (hww : wl = vl) (hvs : ∀ y ∈ vs, y < vn) (hws : ∀ y ∈ ws, y < vn) (hV : Reads w A (uCells V)) (hVA : Reads w VA (nCells vs)) (hWA : Reads w WA (nCells ws)) :
    Calls Tryz.prog 44 #[.int .u64 ((p : Nat) : Int), .agg #[.int .i64 12, .int .i64 a, .int .i64 b, .int .i64 c, .int .u64 k, .slice VA vl vc, .slice WA wl wc, .int .i64 s.1, .bool s.2, .int .i64 g.1, .int .i64 g.2.1, .int .i64 g.2.2.1, .int .u64 g.2.2.2, .slice x.A x.tl.length x.c, .slice x.B x.gl.length x.d], .slice A vn cc] w (WRet (fun t n => (vs.all fun x => decide (V.getD x 0 ≤ 1)) = true ∧ (ws.all fun x => decide (V.getD x 0 ≤ 1)) = true ∧ t = ((numK V vs vl * numK V ws vl % 2 ^ vl : Nat) : Int) ∧ n = ((vl : Nat) : Int)) w) := by
  subst hww
  have kb : (w.alloc (.cells #[.int .i64 12, .int .i64 a, .int .i64 b, .int .i64 c, .int .u64 k, .slice VA wl vc, .slice WA wl wc, .int .i64 s.1, .bool s.2, .int .i64 g.1, .int .i64 g.2.1, .int .i64 g.2.2.1, .int .u64 g.2.2.2, .slice x.A x.tl.length x.c, .slice x.B x.gl.length x.d] 46)).heap[w.heap.size]? = some (.cells #[.int .i64 12, .int .i64 a, .int .i64 b, .int .i64 c, .int .u64 k, .slice VA wl vc, .slice WA wl wc, .int .i64 s.1, .bool s.2, .int .i64 g.1, .int .i64 g.2.1, .int .i64 g.2.2.1, .int .u64 g.2.2.2, .slice x.A x.tl.length x.c, .slice x.B x.gl.length x.d] 46 (0, 0)) := heap_alloc_new w _
  have HB0 : Hid (Below w.heap.size w (w.alloc (.cells #[.int .i64 12, .int .i64 a, .int .i64 b, .int .i64 c, .int .u64 k, .slice VA wl vc, .slice WA wl wc, .int .i64 s.1, .bool s.2, .int .i64 g.1, .int .i64 g.2.1, .int .i64 g.2.2.1, .int .u64 g.2.2.2, .slice x.A x.tl.length x.c, .slice x.B x.gl.length x.d] 46))) := Lib.hid ((Below.refl _ _).alloc (Nat.le_refl _) _)
  have q0 : World.cell? _ ⟨w.heap.size, 0, none⟩ = some (.int .i64 12) := cell_in kb
  have q5 : World.cell? _ ⟨w.heap.size, 5, none⟩ = some (.slice VA wl vc) := cell_in kb
  have q6 : World.cell? _ ⟨w.heap.size, 6, none⟩ = some (.slice WA wl wc) := cell_in kb
  have HV := Lib.hid (hV.below ((Below.refl _ _).alloc (Nat.le_refl _) _) : Reads (w.alloc (.cells #[.int .i64 12, .int .i64 a, .int .i64 b, .int .i64 c, .int .u64 k, .slice VA wl vc, .slice WA wl wc, .int .i64 s.1, .bool s.2, .int .i64 g.1, .int .i64 g.2.1, .int .i64 g.2.2.1, .int .u64 g.2.2.2, .slice x.A x.tl.length x.c, .slice x.B x.gl.length x.d] 46)) A (uCells V))
  have HVA := Lib.hid (hVA.below ((Below.refl _ _).alloc (Nat.le_refl _) _) : Reads (w.alloc (.cells #[.int .i64 12, .int .i64 a, .int .i64 b, .int .i64 c, .int .u64 k, .slice VA wl vc, .slice WA wl wc, .int .i64 s.1, .bool s.2, .int .i64 g.1, .int .i64 g.2.1, .int .i64 g.2.2.1, .int .u64 g.2.2.2, .slice x.A x.tl.length x.c, .slice x.B x.gl.length x.d] 46)) VA (nCells vs))
  have HWA := Lib.hid (hWA.below ((Below.refl _ _).alloc (Nat.le_refl _) _) : Reads (w.alloc (.cells #[.int .i64 12, .int .i64 a, .int .i64 b, .int .i64 c, .int .u64 k, .slice VA wl vc, .slice WA wl wc, .int .i64 s.1, .bool s.2, .int .i64 g.1, .int .i64 g.2.1, .int .i64 g.2.2.1, .int .u64 g.2.2.2, .slice x.A x.tl.length x.c, .slice x.B x.gl.length x.d] 46)) WA (nCells ws))
  have HL := Lib.hid (And.intro hvl hwl); have HVS := Lib.hid hvs; have HWS := Lib.hid hws; have HVN := Lib.hid hvn
  clear kb hVA hWA hV hvl hwl hvs hws hvn
  generalize hw1 : (w.alloc (.cells #[.int .i64 12, .int .i64 a, .int .i64 b, .int .i64 c, .int .u64 k, .slice VA wl vc, .slice WA wl wc, .int .i64 s.1, .bool s.2, .int .i64 g.1, .int .i64 g.2.1, .int .i64 g.2.2.1, .int .u64 g.2.2.2, .slice x.A x.tl.length x.c, .slice x.B x.gl.length x.d] 46)) = w1 at *
  have HB1 := Lib.hid (bits_any V vs A VA cc vc vn wl HL.out.1 HVN.out (by omega) HVS.out w1 HV.out HVA.out)
  have HB2 := Lib.hid (bits_any V ws A WA cc wc vn wl HL.out.2 HVN.out (by omega) HWS.out w1 HV.out HWA.out)
  by_cases t1 : (vs.all fun x => decide (V.getD x 0 ≤ 1)) = true
  · by_cases t2 : (ws.all fun x => decide (V.getD x 0 ≤ 1)) = true
    · have hb1 : ∀ x ∈ vs, V.getD x 0 ≤ 1 := fun x hx => of_decide_eq_true (List.all_eq_true.1 t1 x hx)
      have hb2 : ∀ x ∈ ws, V.getD x 0 ≤ 1 := fun x hx => of_decide_eq_true (List.all_eq_true.1 t2 x hx)
      have HN1 := Lib.hid (fun (W : World) (hb : Below w1.heap.size w1 W) => number_ok V vs A VA cc vc wl vn HL.out.1 HVN.out (by omega) HVS.out hb1 W (HV.out.below hb) (HVA.out.below hb))
      have HN2 := Lib.hid (fun (W : World) (hb : Below w1.heap.size w1 W) => number_ok V ws A WA cc wc wl vn HL.out.2 HVN.out (by omega) HWS.out hb2 W (HV.out.below hb) (HWA.out.below hb))
      have hx := numK_lt V vs hb1 wl (by rw [HL.out.1]; exact Nat.le_refl _)
      have hy := numK_lt V ws hb2 wl (by rw [HL.out.2]; exact Nat.le_refl _)
      rw [t1] at HB1; rw [t2] at HB2
      have hp16 : 2 ^ wl ≤ 2 ^ 16 := Nat.pow_le_pow_right (by decide) hw16
      have hpos : 0 < 2 ^ wl := Nat.pow_pos (by decide)
      obtain ⟨N, hN⟩ : ∃ N, N = 2 ^ wl := ⟨_, rfl⟩
      have e9 : wrap64 ((2 : Int) ^ wl) = ((N : Nat) : Int) := by
        have e1 : ((2 : Int) ^ wl) = ((2 ^ wl : Nat) : Int) := by simp
        rw [e1, ← hN]; unfold wrap64; omega
      have e8 : wrap64 ((2 : Int) ^ min wl 64) = ((N : Nat) : Int) := by rw [Nat.min_eq_left (by omega)]; exact e9
      have e7 : ((N : Nat) : Int) % 18446744073709551616 = ((N : Nat) : Int) := Int.emod_eq_of_lt (by omega) (by omega)
      have e6 : IntKind.u64.wrap ((N : Nat) : Int) = ((N : Nat) : Int) := IntWalk.u64_in _ (by omega)
      rw [t1, t2]
      rw [← hN] at hx hy hp16 hpos
      rw [← hN]
      have HNN := Lib.hid hN
      clear hb1 hb2 t1 t2 hN
      generalize numK V vs wl = X at *
      generalize numK V ws wl = Y at *
      have i1 : ¬ N = 0 := by omega
      have i4 : X * Y ≤ 65536 * 65536 := Nat.mul_le_mul (by omega) (by omega)
      have i5 : IntKind.u64.wrap ((X : Int) * (Y : Int)) = (X : Int) * (Y : Int) := by rw [← Int.natCast_mul]; exact IntWalk.u64_in _ (by omega)
      clear i4
      go_enter Tryz.func44, Tryz.ntmps44
      go_upto_region 1 with fail
      try rw [hw1]
      have HCE : Hid (∀ W, Below w1.heap.size w1 W → (fun W => W.cell? ⟨w.heap.size, 5, none⟩ = some (.slice VA wl vc) ∧ W.cell? ⟨w.heap.size, 6, none⟩ = some (.slice WA wl wc) ∧ W.cell? ⟨w.heap.size, 0, none⟩ = some (.int .i64 12)) W) := Lib.hid fun W hb => ⟨cell_blA q5 hb, cell_blA q6 hb, cell_blA q0 hb⟩
      go_upto_region 27 with (first | (go_at_call 45; (with_reducible refine HB1.out.mono ?_); rintro e w5 ⟨rfl, rfl⟩) | (go_at_call 45; (with_reducible refine HB2.out.mono ?_); rintro e w5 ⟨rfl, rfl⟩))
      go_region_held3 (fun W => W.cell? ⟨w.heap.size, 5, none⟩ = some (.slice VA wl vc) ∧ W.cell? ⟨w.heap.size, 6, none⟩ = some (.slice WA wl wc) ∧ W.cell? ⟨w.heap.size, 0, none⟩ = some (.int .i64 12)) (first | exact HCE.out _ (Below.refl _ _) | exact HCE.out _ (Below.refl _ _).drew) (first | (go_at_call 20; with_reducible refine (HN1.out _ (by repeat (first | exact Below.refl _ _ | refine Below.drew ?_))).mono ?_; rintro e w5 ⟨rfl, rfl⟩) | (go_at_call 20; with_reducible refine (HN2.out _ (by repeat (first | exact Below.refl _ _ | refine Below.drew ?_))).mono ?_; rintro e w5 ⟨rfl, rfl⟩))
      all_goals (try go_wp2_with fail)
      go_region_held3 (fun W => W.cell? ⟨w.heap.size, 5, none⟩ = some (.slice VA wl vc) ∧ W.cell? ⟨w.heap.size, 6, none⟩ = some (.slice WA wl wc) ∧ W.cell? ⟨w.heap.size, 0, none⟩ = some (.int .i64 12)) (first | exact HCE.out _ (Below.refl _ _).drew | exact HCE.out _ (Below.refl _ _).drew.drew) (fail)
      all_goals (try go_wp2_with fail)
      all_goals go_ret3
      all_goals exact ⟨_, _, _, rfl, HB0.out.trans (((Below.refl w1.heap.size w1).drew.drew).mono HB0.out.size), fun _ => (by refine ⟨trivial, trivial, ?_, rfl⟩; rw [Int.natCast_emod, Int.natCast_mul]; exact Int.tmod_eq_emod_of_nonneg (Int.mul_nonneg (by omega) (by omega)))⟩
    · have t3 : (ws.all fun x => decide (V.getD x 0 ≤ 1)) = false := by simpa using t2
      rw [t1] at HB1; rw [t3] at HB2
      clear t1 t2 t3
      go_enter Tryz.func44, Tryz.ntmps44
      go_upto_region 1 with fail
      try rw [hw1]
      go_wp2_with (first | (go_at_call 45; (with_reducible refine HB1.out.mono ?_); rintro e w5 ⟨rfl, rfl⟩) | (go_at_call 45; (with_reducible refine HB2.out.mono ?_); rintro e w5 ⟨rfl, rfl⟩))
      all_goals go_ret3
      all_goals exact ⟨_, _, _, rfl, HB0.out, fun h => absurd h (by decide)⟩
  · have t3 : (vs.all fun x => decide (V.getD x 0 ≤ 1)) = false := by simpa using t1
    rw [t3] at HB1
    clear t1 t3
    go_enter Tryz.func44, Tryz.ntmps44
    go_upto_region 1 with fail
    try rw [hw1]
    go_wp2_with (first | (go_at_call 45; (with_reducible refine HB1.out.mono ?_); rintro e w5 ⟨rfl, rfl⟩))
    all_goals go_ret3
    all_goals exact ⟨_, _, _, rfl, HB0.out, fun h => absurd h (by decide)⟩
set_option maxHeartbeats 4000000 in
set_option maxRecDepth 100000 in
theorem worth_13 (p : Nat) (a b c k : Int) (VA WA A : Option Addr) (vl wl vc wc vn cc : Nat) (s : Slo) (g : Gat) (x : Exi) (w : World) (V vs ws : List Nat) (hvn : V.length = vn) (hvl : vs.length = vl) (hw16 : vl ≤ 16) (hwl : ws.length = vl) (hww : wl = vl) (hvs : ∀ y ∈ vs, y < vn) (hws : ∀ y ∈ ws, y < vn) (hV : Reads w A (uCells V)) (hVA : Reads w VA (nCells vs)) (hWA : Reads w WA (nCells ws)) :
    Calls Tryz.prog 44 #[.int .u64 ((p : Nat) : Int), .agg #[.int .i64 13, .int .i64 a, .int .i64 b, .int .i64 c, .int .u64 k, .slice VA vl vc, .slice WA wl wc, .int .i64 s.1, .bool s.2, .int .i64 g.1, .int .i64 g.2.1, .int .i64 g.2.2.1, .int .u64 g.2.2.2, .slice x.A x.tl.length x.c, .slice x.B x.gl.length x.d], .slice A vn cc] w (WRet (fun t n => (vs.all fun x => decide (V.getD x 0 ≤ 1)) = true ∧ (ws.all fun x => decide (V.getD x 0 ≤ 1)) = true ∧ t = ((if numK V vs vl = numK V ws vl then 1 else 0 : Nat) : Int) ∧ n = 0) w) := by
  subst hww
  have kb : (w.alloc (.cells #[.int .i64 13, .int .i64 a, .int .i64 b, .int .i64 c, .int .u64 k, .slice VA wl vc, .slice WA wl wc, .int .i64 s.1, .bool s.2, .int .i64 g.1, .int .i64 g.2.1, .int .i64 g.2.2.1, .int .u64 g.2.2.2, .slice x.A x.tl.length x.c, .slice x.B x.gl.length x.d] 46)).heap[w.heap.size]? = some (.cells #[.int .i64 13, .int .i64 a, .int .i64 b, .int .i64 c, .int .u64 k, .slice VA wl vc, .slice WA wl wc, .int .i64 s.1, .bool s.2, .int .i64 g.1, .int .i64 g.2.1, .int .i64 g.2.2.1, .int .u64 g.2.2.2, .slice x.A x.tl.length x.c, .slice x.B x.gl.length x.d] 46 (0, 0)) := heap_alloc_new w _
  have HB0 : Hid (Below w.heap.size w (w.alloc (.cells #[.int .i64 13, .int .i64 a, .int .i64 b, .int .i64 c, .int .u64 k, .slice VA wl vc, .slice WA wl wc, .int .i64 s.1, .bool s.2, .int .i64 g.1, .int .i64 g.2.1, .int .i64 g.2.2.1, .int .u64 g.2.2.2, .slice x.A x.tl.length x.c, .slice x.B x.gl.length x.d] 46))) := Lib.hid ((Below.refl _ _).alloc (Nat.le_refl _) _)
  have q0 : World.cell? _ ⟨w.heap.size, 0, none⟩ = some (.int .i64 13) := cell_in kb
  have q5 : World.cell? _ ⟨w.heap.size, 5, none⟩ = some (.slice VA wl vc) := cell_in kb
  have q6 : World.cell? _ ⟨w.heap.size, 6, none⟩ = some (.slice WA wl wc) := cell_in kb
  have HV := Lib.hid (hV.below ((Below.refl _ _).alloc (Nat.le_refl _) _) : Reads (w.alloc (.cells #[.int .i64 13, .int .i64 a, .int .i64 b, .int .i64 c, .int .u64 k, .slice VA wl vc, .slice WA wl wc, .int .i64 s.1, .bool s.2, .int .i64 g.1, .int .i64 g.2.1, .int .i64 g.2.2.1, .int .u64 g.2.2.2, .slice x.A x.tl.length x.c, .slice x.B x.gl.length x.d] 46)) A (uCells V))
  have HVA := Lib.hid (hVA.below ((Below.refl _ _).alloc (Nat.le_refl _) _) : Reads (w.alloc (.cells #[.int .i64 13, .int .i64 a, .int .i64 b, .int .i64 c, .int .u64 k, .slice VA wl vc, .slice WA wl wc, .int .i64 s.1, .bool s.2, .int .i64 g.1, .int .i64 g.2.1, .int .i64 g.2.2.1, .int .u64 g.2.2.2, .slice x.A x.tl.length x.c, .slice x.B x.gl.length x.d] 46)) VA (nCells vs))
  have HWA := Lib.hid (hWA.below ((Below.refl _ _).alloc (Nat.le_refl _) _) : Reads (w.alloc (.cells #[.int .i64 13, .int .i64 a, .int .i64 b, .int .i64 c, .int .u64 k, .slice VA wl vc, .slice WA wl wc, .int .i64 s.1, .bool s.2, .int .i64 g.1, .int .i64 g.2.1, .int .i64 g.2.2.1, .int .u64 g.2.2.2, .slice x.A x.tl.length x.c, .slice x.B x.gl.length x.d] 46)) WA (nCells ws))
  have HL := Lib.hid (And.intro hvl hwl); have HVS := Lib.hid hvs; have HWS := Lib.hid hws; have HVN := Lib.hid hvn
  clear kb hVA hWA hV hvl hwl hvs hws hvn
  generalize hw1 : (w.alloc (.cells #[.int .i64 13, .int .i64 a, .int .i64 b, .int .i64 c, .int .u64 k, .slice VA wl vc, .slice WA wl wc, .int .i64 s.1, .bool s.2, .int .i64 g.1, .int .i64 g.2.1, .int .i64 g.2.2.1, .int .u64 g.2.2.2, .slice x.A x.tl.length x.c, .slice x.B x.gl.length x.d] 46)) = w1 at *
  have HB1 := Lib.hid (bits_any V vs A VA cc vc vn wl HL.out.1 HVN.out (by omega) HVS.out w1 HV.out HVA.out)
  have HB2 := Lib.hid (bits_any V ws A WA cc wc vn wl HL.out.2 HVN.out (by omega) HWS.out w1 HV.out HWA.out)
  by_cases t1 : (vs.all fun x => decide (V.getD x 0 ≤ 1)) = true
  · by_cases t2 : (ws.all fun x => decide (V.getD x 0 ≤ 1)) = true
    · have hb1 : ∀ x ∈ vs, V.getD x 0 ≤ 1 := fun x hx => of_decide_eq_true (List.all_eq_true.1 t1 x hx)
      have hb2 : ∀ x ∈ ws, V.getD x 0 ≤ 1 := fun x hx => of_decide_eq_true (List.all_eq_true.1 t2 x hx)
      have HN1 := Lib.hid (fun (W : World) (hb : Below w1.heap.size w1 W) => number_ok V vs A VA cc vc wl vn HL.out.1 HVN.out (by omega) HVS.out hb1 W (HV.out.below hb) (HVA.out.below hb))
      have HN2 := Lib.hid (fun (W : World) (hb : Below w1.heap.size w1 W) => number_ok V ws A WA cc wc wl vn HL.out.2 HVN.out (by omega) HWS.out hb2 W (HV.out.below hb) (HWA.out.below hb))
      have hx := numK_lt V vs hb1 wl (by rw [HL.out.1]; exact Nat.le_refl _)
      have hy := numK_lt V ws hb2 wl (by rw [HL.out.2]; exact Nat.le_refl _)
      rw [t1] at HB1; rw [t2] at HB2
      have hp16 : 2 ^ wl ≤ 2 ^ 16 := Nat.pow_le_pow_right (by decide) hw16
      have hpos : 0 < 2 ^ wl := Nat.pow_pos (by decide)
      obtain ⟨N, hN⟩ : ∃ N, N = 2 ^ wl := ⟨_, rfl⟩
      have e9 : wrap64 ((2 : Int) ^ wl) = ((N : Nat) : Int) := by
        have e1 : ((2 : Int) ^ wl) = ((2 ^ wl : Nat) : Int) := by simp
        rw [e1, ← hN]; unfold wrap64; omega
      have e8 : wrap64 ((2 : Int) ^ min wl 64) = ((N : Nat) : Int) := by rw [Nat.min_eq_left (by omega)]; exact e9
      have e7 : ((N : Nat) : Int) % 18446744073709551616 = ((N : Nat) : Int) := Int.emod_eq_of_lt (by omega) (by omega)
      have e6 : IntKind.u64.wrap ((N : Nat) : Int) = ((N : Nat) : Int) := IntWalk.u64_in _ (by omega)
      rw [t1, t2]
      rw [← hN] at hx hy hp16 hpos
      have HNN := Lib.hid hN
      clear hb1 hb2 t1 t2 hN
      generalize numK V vs wl = X at *
      generalize numK V ws wl = Y at *
      have i1 : ¬ N = 0 := by omega
      go_enter Tryz.func44, Tryz.ntmps44
      go_upto_region 1 with fail
      try rw [hw1]
      have HCE : Hid (∀ W, Below w1.heap.size w1 W → (fun W => W.cell? ⟨w.heap.size, 5, none⟩ = some (.slice VA wl vc) ∧ W.cell? ⟨w.heap.size, 6, none⟩ = some (.slice WA wl wc) ∧ W.cell? ⟨w.heap.size, 0, none⟩ = some (.int .i64 13)) W) := Lib.hid fun W hb => ⟨cell_blA q5 hb, cell_blA q6 hb, cell_blA q0 hb⟩
      go_upto_region 27 with (first | (go_at_call 45; (with_reducible refine HB1.out.mono ?_); rintro e w5 ⟨rfl, rfl⟩) | (go_at_call 45; (with_reducible refine HB2.out.mono ?_); rintro e w5 ⟨rfl, rfl⟩))
      go_region_held3 (fun W => W.cell? ⟨w.heap.size, 5, none⟩ = some (.slice VA wl vc) ∧ W.cell? ⟨w.heap.size, 6, none⟩ = some (.slice WA wl wc) ∧ W.cell? ⟨w.heap.size, 0, none⟩ = some (.int .i64 13)) (first | exact HCE.out _ (Below.refl _ _) | exact HCE.out _ (Below.refl _ _).drew) (first | (go_at_call 20; with_reducible refine (HN1.out _ (by repeat (first | exact Below.refl _ _ | refine Below.drew ?_))).mono ?_; rintro e w5 ⟨rfl, rfl⟩) | (go_at_call 20; with_reducible refine (HN2.out _ (by repeat (first | exact Below.refl _ _ | refine Below.drew ?_))).mono ?_; rintro e w5 ⟨rfl, rfl⟩))
      all_goals (go_wp2_with (first | (go_at_call 85; refine (bit_any _ _).mono ?_; rintro e w6 ⟨rfl, rfl⟩)))
      all_goals go_ret3
      all_goals exact ⟨_, _, _, rfl, HB0.out.trans (((Below.refl w1.heap.size w1).drew).mono HB0.out.size), fun _ => (by simp)⟩
    · have t3 : (ws.all fun x => decide (V.getD x 0 ≤ 1)) = false := by simpa using t2
      rw [t1] at HB1; rw [t3] at HB2
      clear t1 t2 t3
      go_enter Tryz.func44, Tryz.ntmps44
      go_upto_region 1 with fail
      try rw [hw1]
      go_wp2_with (first | (go_at_call 45; (with_reducible refine HB1.out.mono ?_); rintro e w5 ⟨rfl, rfl⟩) | (go_at_call 45; (with_reducible refine HB2.out.mono ?_); rintro e w5 ⟨rfl, rfl⟩))
      all_goals go_ret3
      all_goals exact ⟨_, _, _, rfl, HB0.out, fun h => absurd h (by decide)⟩
  · have t3 : (vs.all fun x => decide (V.getD x 0 ≤ 1)) = false := by simpa using t1
    rw [t3] at HB1
    clear t1 t3
    go_enter Tryz.func44, Tryz.ntmps44
    go_upto_region 1 with fail
    try rw [hw1]
    go_wp2_with (first | (go_at_call 45; (with_reducible refine HB1.out.mono ?_); rintro e w5 ⟨rfl, rfl⟩))
    all_goals go_ret3
    all_goals exact ⟨_, _, _, rfl, HB0.out, fun h => absurd h (by decide)⟩
set_option maxHeartbeats 4000000 in
set_option maxRecDepth 100000 in
theorem worth_14 (p : Nat) (a b c k : Int) (VA WA A : Option Addr) (vl wl vc wc vn cc : Nat) (s : Slo) (g : Gat) (x : Exi) (w : World) (V vs ws : List Nat) (hvn : V.length = vn) (hvl : vs.length = vl) (hw16 : vl ≤ 16) (hwl : ws.length = vl) (hww : wl = vl) (hvs : ∀ y ∈ vs, y < vn) (hws : ∀ y ∈ ws, y < vn) (hV : Reads w A (uCells V)) (hVA : Reads w VA (nCells vs)) (hWA : Reads w WA (nCells ws)) :
    Calls Tryz.prog 44 #[.int .u64 ((p : Nat) : Int), .agg #[.int .i64 14, .int .i64 a, .int .i64 b, .int .i64 c, .int .u64 k, .slice VA vl vc, .slice WA wl wc, .int .i64 s.1, .bool s.2, .int .i64 g.1, .int .i64 g.2.1, .int .i64 g.2.2.1, .int .u64 g.2.2.2, .slice x.A x.tl.length x.c, .slice x.B x.gl.length x.d], .slice A vn cc] w (WRet (fun t n => (vs.all fun x => decide (V.getD x 0 ≤ 1)) = true ∧ (ws.all fun x => decide (V.getD x 0 ≤ 1)) = true ∧ t = ((if numK V vs vl < numK V ws vl then 1 else 0 : Nat) : Int) ∧ n = 0) w) := by
  subst hww
  have kb : (w.alloc (.cells #[.int .i64 14, .int .i64 a, .int .i64 b, .int .i64 c, .int .u64 k, .slice VA wl vc, .slice WA wl wc, .int .i64 s.1, .bool s.2, .int .i64 g.1, .int .i64 g.2.1, .int .i64 g.2.2.1, .int .u64 g.2.2.2, .slice x.A x.tl.length x.c, .slice x.B x.gl.length x.d] 46)).heap[w.heap.size]? = some (.cells #[.int .i64 14, .int .i64 a, .int .i64 b, .int .i64 c, .int .u64 k, .slice VA wl vc, .slice WA wl wc, .int .i64 s.1, .bool s.2, .int .i64 g.1, .int .i64 g.2.1, .int .i64 g.2.2.1, .int .u64 g.2.2.2, .slice x.A x.tl.length x.c, .slice x.B x.gl.length x.d] 46 (0, 0)) := heap_alloc_new w _
  have HB0 : Hid (Below w.heap.size w (w.alloc (.cells #[.int .i64 14, .int .i64 a, .int .i64 b, .int .i64 c, .int .u64 k, .slice VA wl vc, .slice WA wl wc, .int .i64 s.1, .bool s.2, .int .i64 g.1, .int .i64 g.2.1, .int .i64 g.2.2.1, .int .u64 g.2.2.2, .slice x.A x.tl.length x.c, .slice x.B x.gl.length x.d] 46))) := Lib.hid ((Below.refl _ _).alloc (Nat.le_refl _) _)
  have q0 : World.cell? _ ⟨w.heap.size, 0, none⟩ = some (.int .i64 14) := cell_in kb
  have q5 : World.cell? _ ⟨w.heap.size, 5, none⟩ = some (.slice VA wl vc) := cell_in kb
  have q6 : World.cell? _ ⟨w.heap.size, 6, none⟩ = some (.slice WA wl wc) := cell_in kb
  have HV := Lib.hid (hV.below ((Below.refl _ _).alloc (Nat.le_refl _) _) : Reads (w.alloc (.cells #[.int .i64 14, .int .i64 a, .int .i64 b, .int .i64 c, .int .u64 k, .slice VA wl vc, .slice WA wl wc, .int .i64 s.1, .bool s.2, .int .i64 g.1, .int .i64 g.2.1, .int .i64 g.2.2.1, .int .u64 g.2.2.2, .slice x.A x.tl.length x.c, .slice x.B x.gl.length x.d] 46)) A (uCells V))
  have HVA := Lib.hid (hVA.below ((Below.refl _ _).alloc (Nat.le_refl _) _) : Reads (w.alloc (.cells #[.int .i64 14, .int .i64 a, .int .i64 b, .int .i64 c, .int .u64 k, .slice VA wl vc, .slice WA wl wc, .int .i64 s.1, .bool s.2, .int .i64 g.1, .int .i64 g.2.1, .int .i64 g.2.2.1, .int .u64 g.2.2.2, .slice x.A x.tl.length x.c, .slice x.B x.gl.length x.d] 46)) VA (nCells vs))
  have HWA := Lib.hid (hWA.below ((Below.refl _ _).alloc (Nat.le_refl _) _) : Reads (w.alloc (.cells #[.int .i64 14, .int .i64 a, .int .i64 b, .int .i64 c, .int .u64 k, .slice VA wl vc, .slice WA wl wc, .int .i64 s.1, .bool s.2, .int .i64 g.1, .int .i64 g.2.1, .int .i64 g.2.2.1, .int .u64 g.2.2.2, .slice x.A x.tl.length x.c, .slice x.B x.gl.length x.d] 46)) WA (nCells ws))
  have HL := Lib.hid (And.intro hvl hwl); have HVS := Lib.hid hvs; have HWS := Lib.hid hws; have HVN := Lib.hid hvn
  clear kb hVA hWA hV hvl hwl hvs hws hvn
  generalize hw1 : (w.alloc (.cells #[.int .i64 14, .int .i64 a, .int .i64 b, .int .i64 c, .int .u64 k, .slice VA wl vc, .slice WA wl wc, .int .i64 s.1, .bool s.2, .int .i64 g.1, .int .i64 g.2.1, .int .i64 g.2.2.1, .int .u64 g.2.2.2, .slice x.A x.tl.length x.c, .slice x.B x.gl.length x.d] 46)) = w1 at *
  have HB1 := Lib.hid (bits_any V vs A VA cc vc vn wl HL.out.1 HVN.out (by omega) HVS.out w1 HV.out HVA.out)
  have HB2 := Lib.hid (bits_any V ws A WA cc wc vn wl HL.out.2 HVN.out (by omega) HWS.out w1 HV.out HWA.out)
  by_cases t1 : (vs.all fun x => decide (V.getD x 0 ≤ 1)) = true
  · by_cases t2 : (ws.all fun x => decide (V.getD x 0 ≤ 1)) = true
    · have hb1 : ∀ x ∈ vs, V.getD x 0 ≤ 1 := fun x hx => of_decide_eq_true (List.all_eq_true.1 t1 x hx)
      have hb2 : ∀ x ∈ ws, V.getD x 0 ≤ 1 := fun x hx => of_decide_eq_true (List.all_eq_true.1 t2 x hx)
      have HN1 := Lib.hid (fun (W : World) (hb : Below w1.heap.size w1 W) => number_ok V vs A VA cc vc wl vn HL.out.1 HVN.out (by omega) HVS.out hb1 W (HV.out.below hb) (HVA.out.below hb))
      have HN2 := Lib.hid (fun (W : World) (hb : Below w1.heap.size w1 W) => number_ok V ws A WA cc wc wl vn HL.out.2 HVN.out (by omega) HWS.out hb2 W (HV.out.below hb) (HWA.out.below hb))
      have hx := numK_lt V vs hb1 wl (by rw [HL.out.1]; exact Nat.le_refl _)
      have hy := numK_lt V ws hb2 wl (by rw [HL.out.2]; exact Nat.le_refl _)
      rw [t1] at HB1; rw [t2] at HB2
      have hp16 : 2 ^ wl ≤ 2 ^ 16 := Nat.pow_le_pow_right (by decide) hw16
      have hpos : 0 < 2 ^ wl := Nat.pow_pos (by decide)
      obtain ⟨N, hN⟩ : ∃ N, N = 2 ^ wl := ⟨_, rfl⟩
      have e9 : wrap64 ((2 : Int) ^ wl) = ((N : Nat) : Int) := by
        have e1 : ((2 : Int) ^ wl) = ((2 ^ wl : Nat) : Int) := by simp
        rw [e1, ← hN]; unfold wrap64; omega
      have e8 : wrap64 ((2 : Int) ^ min wl 64) = ((N : Nat) : Int) := by rw [Nat.min_eq_left (by omega)]; exact e9
      have e7 : ((N : Nat) : Int) % 18446744073709551616 = ((N : Nat) : Int) := Int.emod_eq_of_lt (by omega) (by omega)
      have e6 : IntKind.u64.wrap ((N : Nat) : Int) = ((N : Nat) : Int) := IntWalk.u64_in _ (by omega)
      rw [t1, t2]
      rw [← hN] at hx hy hp16 hpos
      have HNN := Lib.hid hN
      clear hb1 hb2 t1 t2 hN
      generalize numK V vs wl = X at *
      generalize numK V ws wl = Y at *
      have i1 : ¬ N = 0 := by omega
      go_enter Tryz.func44, Tryz.ntmps44
      go_upto_region 1 with fail
      try rw [hw1]
      have HCE : Hid (∀ W, Below w1.heap.size w1 W → (fun W => W.cell? ⟨w.heap.size, 5, none⟩ = some (.slice VA wl vc) ∧ W.cell? ⟨w.heap.size, 6, none⟩ = some (.slice WA wl wc) ∧ W.cell? ⟨w.heap.size, 0, none⟩ = some (.int .i64 14)) W) := Lib.hid fun W hb => ⟨cell_blA q5 hb, cell_blA q6 hb, cell_blA q0 hb⟩
      go_upto_region 27 with (first | (go_at_call 45; (with_reducible refine HB1.out.mono ?_); rintro e w5 ⟨rfl, rfl⟩) | (go_at_call 45; (with_reducible refine HB2.out.mono ?_); rintro e w5 ⟨rfl, rfl⟩))
      go_region_held3 (fun W => W.cell? ⟨w.heap.size, 5, none⟩ = some (.slice VA wl vc) ∧ W.cell? ⟨w.heap.size, 6, none⟩ = some (.slice WA wl wc) ∧ W.cell? ⟨w.heap.size, 0, none⟩ = some (.int .i64 14)) (first | exact HCE.out _ (Below.refl _ _) | exact HCE.out _ (Below.refl _ _).drew) (first | (go_at_call 20; with_reducible refine (HN1.out _ (by repeat (first | exact Below.refl _ _ | refine Below.drew ?_))).mono ?_; rintro e w5 ⟨rfl, rfl⟩) | (go_at_call 20; with_reducible refine (HN2.out _ (by repeat (first | exact Below.refl _ _ | refine Below.drew ?_))).mono ?_; rintro e w5 ⟨rfl, rfl⟩))
      all_goals (go_wp2_with (first | (go_at_call 85; refine (bit_any _ _).mono ?_; rintro e w6 ⟨rfl, rfl⟩)))
      all_goals go_ret3
      all_goals exact ⟨_, _, _, rfl, HB0.out.trans (((Below.refl w1.heap.size w1).drew).mono HB0.out.size), fun _ => (by simp)⟩
    · have t3 : (ws.all fun x => decide (V.getD x 0 ≤ 1)) = false := by simpa using t2
      rw [t1] at HB1; rw [t3] at HB2
      clear t1 t2 t3
      go_enter Tryz.func44, Tryz.ntmps44
      go_upto_region 1 with fail
      try rw [hw1]
      go_wp2_with (first | (go_at_call 45; (with_reducible refine HB1.out.mono ?_); rintro e w5 ⟨rfl, rfl⟩) | (go_at_call 45; (with_reducible refine HB2.out.mono ?_); rintro e w5 ⟨rfl, rfl⟩))
      all_goals go_ret3
      all_goals exact ⟨_, _, _, rfl, HB0.out, fun h => absurd h (by decide)⟩
  · have t3 : (vs.all fun x => decide (V.getD x 0 ≤ 1)) = false := by simpa using t1
    rw [t3] at HB1
    clear t1 t3
    go_enter Tryz.func44, Tryz.ntmps44
    go_upto_region 1 with fail
    try rw [hw1]
    go_wp2_with (first | (go_at_call 45; (with_reducible refine HB1.out.mono ?_); rintro e w5 ⟨rfl, rfl⟩))
    all_goals go_ret3
    all_goals exact ⟨_, _, _, rfl, HB0.out, fun h => absurd h (by decide)⟩
end Go.Proofs.YtkcdlbclodjjhaaGreat
