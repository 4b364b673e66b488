/- Contracts of Grow, Concat over words. (Printed by wip/tools/gen_words13.py.) -/
import Derived.Test.YtkcdlbclodjjhaaWm
import Derived.Lib.AppendZeros
namespace Go.Proofs.Ytkcdlbclodjjhaa
open Go.RowKit

set_option maxRecDepth 100000 in
theorem grow_ok (n : Nat) (hn : 0 < n) (hl : n ≤ 65536) (w : World) : Calls Try.prog 87 #[.slice none 0 0, .int .i64 ((n : Nat) : Int)] w fun e W' => ∃ g c, e = .returned (.slice (some ⟨g, 0, none⟩) 0 c) ∧ W'.ownsRow w.heap.size 3 1 (.slice (some ⟨g, 0, none⟩) 0 c) 0 [] ∧ Below w.heap.size w W' := by
  obtain ⟨i0, hi, hzz⟩ := Option.map_eq_some_iff.1 infoInt
  simp only [Prod.mk.injEq] at hzz
  obtain ⟨hz0, hz1, hz2⟩ := hzz
  have happ := Lib.run_append_nil_zeros (P := Try.prog) w 44 3 44 3 i0 (.int .i64 0) .i64 .i64 Try.underlying44 Try.underlying3 hi hz0 n hn (by omega) (by omega) (by rw [hz2]; omega)
  have hge : n ≤ grownCap w n 0 3 := grownCap_ge w _ 0 _
  have hle : grownCap w n 0 3 ≤ maxLen := grownCap_le_maxLen w _ 0 _ (by unfold maxLen; omega)
  generalize grownCap w n 0 3 = c at *
  generalize hZ : (Builtin.zeroCells (Value.int .i64 0).cells n ++ Builtin.zeroCells (Value.int .i64 0).cells (c - n)) = Z at happ
  have hZs : Z.size = c := by rw [← hZ]; simp [size_zeroCells, Value.cells]; omega
  clear hZ
  have h1 : ¬ (n : Int) < 0 := by omega
  have h2 : 0 < (n : Int) := by omega
  go_enter Try.func87, Try.ntmps87
  go_wp2_with (at_builtin; refine Lib.wpList_append_run _ rfl _ _ _ _ rfl _ _ rfl rfl _ _ happ ?_)
  go_ret
  refine ⟨_, _, rfl, ⟨rfl, .inr ⟨w.heap.size, c, Z, rfl, Nat.le_refl _, ?_, Nat.zero_le _, hle, by simpa using hZs, by simp⟩⟩, (Below.refl _ _).drew.alloc (by simp) _⟩
  exact heap_alloc_new w.drew _
set_option maxHeartbeats 2000000 in
set_option maxRecDepth 100000 in
theorem concat_ok (vs ws : List Nat) (n m : Nat) (hnv : vs.length = n) (hmw : ws.length = m) (hn : 0 < n) (hm : 0 < m) (hn2 : n ≤ 16) (hm2 : m ≤ 16) (va wa : Addr) (vc wc g : Nat) (w : World) (hV : Reads w (some va) (nCells vs)) (hW : Reads w (some wa) (nCells ws))
    (q0 : w.cell? ⟨g, 0, none⟩ = some (.slice (some va) n vc)) (q1 : w.cell? ⟨g, 1, none⟩ = some (.slice (some wa) m wc)) :
    Calls Try.prog 63 #[.slice (some ⟨g, 0, none⟩) 2 2] w fun e W' => ∃ A c, e = .returned (.slice A (n + m) c) ∧ W'.ownsRow w.heap.size 3 1 (.slice A (n + m) c) (n + m) (nCells (vs ++ ws)) ∧ Below w.heap.size w W' := by
  have HV := Lib.hid hV; have HW := Lib.hid hW
  have HNV := Lib.hid hnv; have HNW := Lib.hid hmw
  have HG := fun W => grow_ok (n + m) (by omega) (by omega) W
  have HGG := Lib.hid HG
  have HLG := Lib.hid (World.block_lt_of_cell? _ _ q0 : g < w.heap.size)
  have HQ0 := Lib.hid q0; have HQ1 := Lib.hid q1
  clear hV hW hnv hmw HG
  go_enter Try.func63, Try.ntmps63
  go_wp2
  go_loopg [3, 11] 2 (fun c s' i' wr => ∃ k s : Nat, k ≤ 2 ∧ c = 2 - k ∧ s' = .int .i64 ((s : Nat) : Int) ∧ i' = .int .i64 k ∧ s = (if k = 0 then 0 else if k = 1 then n else n + m) ∧ w = wr)
  case atStart => exact ⟨0, 0, by omega, rfl, rfl, rfl, rfl, rfl⟩
  case round =>
    obtain ⟨k, s, hk, rfl, rfl, rfl, hs, rfl⟩ := hrel
    have hc : k = 0 ∨ k = 1 ∨ k = 2 := by omega
    rcases hc with rfl | rfl | rfl
    · obtain rfl : s = 0 := hs
      go_wp2
      go_roundg (2 - (0 + 1))
      case measure => omega
      case rel => exact ⟨1, n, by omega, rfl, by go_num, by go_num, rfl, rfl⟩
    · obtain rfl : s = n := hs
      have hz : ¬ ((s : Int) + (m : Int)) < 0 := by omega
      go_wp2
      go_roundg (2 - (1 + 1))
      case measure => omega
      case rel => exact ⟨2, s + m, by omega, rfl, by go_num, by go_num, rfl, rfl⟩
    · obtain rfl : s = n + m := hs
      go_wp2_with (go_at_call 87; refine (HGG.out _).mono ?_; rintro e w1 ⟨g1, c1, rfl, hO1, hb1⟩; have HO1 := Lib.hid hO1; have HB1 := Lib.hid hb1; clear hO1 hb1)
      go_loopg [6, 27] 2 (fun c o' i' wr => ∃ (k s : Nat) (l : List Nat) (vo : Value), k ≤ 2 ∧ c = 2 - k ∧ o' = vo ∧ i' = .int .i64 k ∧ s = (if k = 0 then 0 else if k = 1 then n else n + m) ∧ l = (if k = 0 then [] else if k = 1 then vs else vs ++ ws) ∧ wr.ownsRow w.heap.size 3 1 vo s (nCells l) ∧ Below w.heap.size w wr)
      case atStart => exact ⟨0, 0, [], _, by omega, rfl, rfl, rfl, rfl, rfl, HO1.out, HB1.out⟩
      case round =>
        obtain ⟨k, s, l, vo, hk, rfl, rfl, rfl, hs, hl, hO, hB⟩ := hrel
        clear q0 q1
        have HO := Lib.hid hO; have HB := Lib.hid hB
        have q0 := (hB.cell (p := ⟨g, 0, none⟩) HLG.out).trans HQ0.out
        have q1 := (hB.cell (p := ⟨g, 1, none⟩) HLG.out).trans HQ1.out
        clear hO hB
        have hc : k = 0 ∨ k = 1 ∨ k = 2 := by omega
        rcases hc with rfl | rfl | rfl
        · obtain rfl : s = 0 := hs
          obtain rfl : l = [] := hl
          go_wp2_with (at_builtin; refine app_slice w.heap.size rfl _ _ 44 3 _ 8 rfl Try.underlying44 infoInt rfl (by decide) _ 0 (nCells []) (nCells vs) rfl va n vc rfl (by unfold nCells; rw [List.length_map]; exact HNV.out) (reads_get (HV.out.below HB.out) (Below.refl _ _)) (one_nat _) HO.out (by have h5 := HB.out.size; omega) (by omega) ?_; intro v5 w5 hown5 hg5; have HO5 := Lib.hid hown5; have HB5 := Lib.hid (HB.out.grown hg5 HB.out.size (fun q hq => (HO.out.lt q hq).1)); clear hown5 hg5)
          go_roundg (2 - (0 + 1))
          case measure => omega
          case rel => exact ⟨1, n, vs, _, by omega, rfl, rfl, by go_num, rfl, rfl, by have := HO5.out; simpa [nCells] using this, HB5.out⟩
        · obtain rfl : s = n := hs
          obtain rfl : l = vs := hl
          go_wp2_with (at_builtin; refine app_slice w.heap.size rfl _ _ 44 3 _ 8 rfl Try.underlying44 infoInt rfl (by decide) _ s (nCells l) (nCells ws) rfl wa m wc rfl (by unfold nCells; rw [List.length_map]; exact HNW.out) (reads_get (HW.out.below HB.out) (Below.refl _ _)) (one_nat _) HO.out (by have h5 := HB.out.size; omega) (by omega) ?_; intro v5 w5 hown5 hg5; have HO5 := Lib.hid hown5; have HB5 := Lib.hid (HB.out.grown hg5 HB.out.size (fun q hq => (HO.out.lt q hq).1)); clear hown5 hg5)
          go_roundg (2 - (1 + 1))
          case measure => omega
          case rel => exact ⟨2, s + m, l ++ ws, _, by omega, rfl, rfl, by go_num, rfl, rfl, by have := HO5.out; simpa [nCells] using this, HB5.out⟩
        · obtain rfl : s = n + m := hs
          obtain rfl : l = vs ++ ws := hl
          obtain ⟨A, c, rfl, _⟩ := own_reads HO.out
          go_wp2
          go_ret
          exact ⟨A, c, rfl, HO.out, HB.out⟩
theorem two_cells (w : World) (x y : Value) (t : TypeId) : (w.alloc (.cells #[x, y] t)).cell? ⟨w.heap.size, 0, none⟩ = some x ∧ (w.alloc (.cells #[x, y] t)).cell? ⟨w.heap.size, 1, none⟩ = some y := by
  have h := heap_alloc_new w (.cells #[x, y] t)
  unfold World.cell?
  rw [h]
  exact ⟨rfl, rfl⟩
set_option maxRecDepth 100000 in
theorem badI (A : Option Addr) (n c : Nat) (h1 : 1 ≤ n) (h2 : n ≤ 16) (w : World) : Calls Try.prog 61 #[.slice A n c] w fun e w' => e = .returned (.bool false) ∧ w = w' := by
  have i1 : ¬ (n : Int) < 1 := by omega
  have i2 : ¬ (16 : Int) < (n : Int) := by omega
  have i3 : ¬ n < 1 := by omega
  go_enter Try.func61, Try.ntmps61
  go_wp2
  go_ret
  exact ⟨ret_bl (by simp), rfl⟩
set_option maxHeartbeats 1000000 in
set_option maxRecDepth 100000 in
theorem innerI (B p : Nat) (sl : List Slo) (xs : List Exi) (v1 v2 v3 : Value) (G' : List Gat) (n : Nat) (va wa : Option Addr) (vc wc a1 a2 a3 : Nat) (F : FuncId) (caps : Array Value) (r : Int) (w : World)
    (hrun : ∀ (args : Array Value) (W : World), (callFunc F args).run Try.prog W = .ok (.enter F args) W)
    (q1 : w.cell? ⟨a1, 0, none⟩ = some (.slice va n vc)) (q2 : w.cell? ⟨a2, 0, none⟩ = some (.slice wa n wc)) (q3 : w.cell? ⟨a3, 0, none⟩ = some (.func (.func F) #[] caps))
    (HF : Calls Try.prog F (#[.iface 115 (.agg #[.pointer (some ⟨B, 0, none⟩)])] ++ caps) w fun e W' => ∃ v, e = .returned (.int .i64 r) ∧ IsB B p sl G' xs v1 v v3 W' ∧ Fr B v2 v w W') :
    Calls Try.prog 64 #[.iface 115 (.agg #[.pointer (some ⟨B, 0, none⟩)]), .pointer (some ⟨a1, 0, none⟩), .pointer (some ⟨a2, 0, none⟩), .pointer (some ⟨a3, 0, none⟩)] w fun e W' => ∃ v, e = .returned (.int .i64 r) ∧ IsB B p sl G' xs v1 v v3 W' ∧ Fr B v2 v w W' := by
  have HFF := Lib.hid HF
  clear HF
  go_enter Try.func64, Try.ntmps64
  go_wp2
  refine HFF.out.mono ?_
  rintro e w1 ⟨x2, rfl, hI, hF⟩
  have HI := Lib.hid hI; have HF := Lib.hid hF; clear hI hF
  go_wp2
  go_ret
  exact ⟨x2, rfl, HI.out, HF.out⟩
set_option maxHeartbeats 4000000 in
set_option maxRecDepth 100000 in
theorem wordsI_ok (B p : Nat) (hp : 1 < p) (sl : List Slo) (G : List Gat) (xs : List Exi) (v1 v2 v3 : Value) (G' : List Gat) (vs ws : List Nat) (n : Nat) (hnv : vs.length = n) (hnw : ws.length = n) (h1 : 1 ≤ n) (h2 : n ≤ 16) (hvs : ∀ x ∈ vs, x < G.length) (hws : ∀ x ∈ ws, x < G.length) (va wa : Addr) (vc wc : Nat) (F : FuncId) (caps : Array Value) (r : Int) (w : World) (h : IsB B p sl G xs v1 v2 v3 w)
    (hV : Reads w (some va) (nCells vs)) (hW : Reads w (some wa) (nCells ws))
    (hrun : ∀ (args : Array Value) (W : World), (callFunc F args).run Try.prog W = .ok (.enter F args) W)
    (HF : ∀ W, Below w.heap.size w W → Calls Try.prog F (#[.iface 115 (.agg #[.pointer (some ⟨B, 0, none⟩)])] ++ caps) W fun e W' => ∃ v, e = .returned (.int .i64 r) ∧ IsB B p sl G' xs v1 v v3 W' ∧ Fr B v2 v W W') :
    Calls Try.prog 33 #[.pointer (some ⟨B, 0, none⟩), .slice (some va) n vc, .slice (some wa) n wc, .func (.func F) #[] caps] w fun e W' => ∃ v, e = .returned (.tuple #[.int .i64 r, .int .i64 0]) ∧ IsB B p sl G' xs v1 v v3 W' ∧ Fr B v2 v w W' := by
  have hmf : ∀ (fn : Fn) (first cap : Array Value) (w : World), (Instr.makeFunc fn first cap).run Try.prog w = .ok (.func fn first cap) w := fun _ _ _ _ => rfl
  have q0 := (box4 h.hb).1
  have hlt := h.lt
  have HM := Lib.hid (fun W q => made_any B p (by omega) W q)
  have HBD := Lib.hid (fun (A : Addr) (c : Nat) W => badI (some A) n c h1 h2 W)
  have HC : Hid (∀ W g, Below w.heap.size w W → W.cell? ⟨g, 0, none⟩ = some (.slice (some va) n vc) → W.cell? ⟨g, 1, none⟩ = some (.slice (some wa) n wc) → Calls Try.prog 63 #[.slice (some ⟨g, 0, none⟩) 2 2] W fun e W' => ∃ A c, e = .returned (.slice A (n + n) c) ∧ W'.ownsRow W.heap.size 3 1 (.slice A (n + n) c) (n + n) (nCells (vs ++ ws)) ∧ Below W.heap.size W W') :=
    Lib.hid fun W g hb c0 c1 => concat_ok vs ws n n hnv hnw h1 h1 h2 h2 va wa vc wc g W (hV.below hb) (hW.below hb) c0 c1
  have HD : Hid (∀ W A c, Below w.heap.size w W → Reads W A (nCells (vs ++ ws)) → W.cell? ⟨w.heap.size, 0, none⟩ = some (.slice (some va) n vc) → W.cell? ⟨w.heap.size + 1, 0, none⟩ = some (.slice (some wa) n wc) → W.cell? ⟨w.heap.size + 1 + 1, 0, none⟩ = some (.func (.func F) #[] caps) →
      Calls Try.prog 62 #[.pointer (some ⟨B, 0, none⟩), .slice A (n + n) c, .func (.func 64) #[] #[.pointer (some ⟨w.heap.size, 0, none⟩), .pointer (some ⟨w.heap.size + 1, 0, none⟩), .pointer (some ⟨w.heap.size + 1 + 1, 0, none⟩)]] W fun e W' => ∃ v, e = .returned (.tuple #[.int .i64 r, .int .i64 0]) ∧ IsB B p sl G' xs v1 v v3 W' ∧ Fr B v2 v w W') :=
    Lib.hid fun W A c hb hA c0 c1 c2 => by
      have h0 := doI_ok B p hp sl G xs v1 v2 v3 G' (vs ++ ws) A c (fun x hx => by rcases List.mem_append.1 hx with e | e; exact hvs x e; exact hws x e) (by rw [List.length_append]; omega) 64 #[.pointer (some ⟨w.heap.size, 0, none⟩), .pointer (some ⟨w.heap.size + 1, 0, none⟩), .pointer (some ⟨w.heap.size + 1 + 1, 0, none⟩)] r W (h.below hb) hA (fun _ _ => by kernel_rfl) (fun W2 hb2 => innerI B p sl xs v1 v2 v3 G' n (some va) (some wa) vc wc _ _ _ F caps r W2 hrun ((hb2.cell (World.block_lt_of_cell? _ _ c0)).trans c0) ((hb2.cell (World.block_lt_of_cell? _ _ c1)).trans c1) ((hb2.cell (World.block_lt_of_cell? _ _ c2)).trans c2) (HF W2 (hb.trans (hb2.mono hb.size))))
      rw [List.length_append, hnv, hnw] at h0
      refine h0.mono fun _ _ he => ?_
      obtain ⟨v, e1, h3, h4⟩ := he
      exact ⟨v, e1, h3, (Fr.of_below hb).trans h4⟩
  clear hV hW hvs hws hnv hnw HF h
  go_enter Try.func33, Try.ntmps33
  go_wp2_with (first | (go_at_call 24; refine (HM.out _ (cell_al (cell_al (cell_al q0)))).mono ?_; rintro e w1 ⟨rfl, hw1⟩; obtain ⟨k0, k1, k2, hsz, hb1⟩ := three w (.cells #[.slice (some va) n vc] 44) (.cells #[.slice (some wa) n wc] 44) (.cells #[.func (.func F) #[] caps] 80); rw [hw1] at k0 k1 k2 hsz hb1; have HW1 := Lib.hid hw1; clear hw1 q0; have c0 := (box1 k0).1; have c1 := (box1 k1).1; have c2 := (box1 k2).1; have HB1 := Lib.hid hb1; clear k0 k1 k2 hb1; have l0 : w.heap.size < w1.heap.size := (by omega); have l1 : w.heap.size + 1 < w1.heap.size := (by omega); have l2 : w.heap.size + 1 + 1 < w1.heap.size := (by omega)) | (go_at_call 61; refine (HBD.out _ _ _).mono ?_; rintro e wc ⟨rfl, rfl⟩))
  go_wp2_with (first | (go_at_call 63; refine (HC.out _ _ (HB1.out.alloc HB1.out.size _) (by rw [← hsz]; exact (two_cells _ _ _ _).1) (by rw [← hsz]; exact (two_cells _ _ _ _).2)).mono ?_; rintro e w2 ⟨A, cc, rfl, hO2, hb2⟩; have hb12 := ((Below.refl w1.heap.size w1).alloc (Nat.le_refl _) _).trans (hb2.mono (by simp)); replace c0 := (hb12.cell (World.block_lt_of_cell? _ _ c0)).trans c0; replace c1 := (hb12.cell (World.block_lt_of_cell? _ _ c1)).trans c1; replace c2 := (hb12.cell (World.block_lt_of_cell? _ _ c2)).trans c2; have HB2 := Lib.hid (HB1.out.trans (hb12.mono HB1.out.size)); have HR2 := Lib.hid (own_reads_at hO2); clear hO2 hb2 hb12) | (go_at_call 62; refine (HD.out _ _ _ HB2.out HR2.out c0 c1 c2).mono ?_; rintro e w3 ⟨x2, rfl, hI, hF⟩; have HI := Lib.hid hI; have HF := Lib.hid hF; clear hI hF))
  refine bodyPost_ret (v := .tuple #[.int .i64 r, .int .i64 0]) ?_ rfl ⟨x2, rfl, HI.out, HF.out⟩
  simp [results, Try.results33, go_sem]
set_option maxRecDepth 100000 in
theorem badW (A : Option Addr) (n c : Nat) (h1 : 1 ≤ n) (h2 : n ≤ 16) (w : World) : Calls Try.prog 81 #[.slice A n c] w fun e w' => e = .returned (.bool false) ∧ w = w' := by
  have i1 : ¬ (n : Int) < 1 := by omega
  have i2 : ¬ (16 : Int) < (n : Int) := by omega
  have i3 : ¬ n < 1 := by omega
  go_enter Try.func81, Try.ntmps81
  go_wp2
  go_ret
  exact ⟨ret_bl (by simp), rfl⟩
set_option maxHeartbeats 1000000 in
set_option maxRecDepth 100000 in
theorem innerW (B p : Nat) (sl : List Slo) (xs : List Exi) (v1 v2 v3 : Value) (G' : List Gat) (n : Nat) (va wa : Option Addr) (vc wc a1 a2 a3 : Nat) (F : FuncId) (caps : Array Value) (k : Nat) (cs : List Value) (w : World)
    (hrun : ∀ (args : Array Value) (W : World), (callFunc F args).run Try.prog W = .ok (.enter F args) W)
    (q1 : w.cell? ⟨a1, 0, none⟩ = some (.slice va n vc)) (q2 : w.cell? ⟨a2, 0, none⟩ = some (.slice wa n wc)) (q3 : w.cell? ⟨a3, 0, none⟩ = some (.func (.func F) #[] caps))
    (HF : Calls Try.prog F (#[.iface 115 (.agg #[.pointer (some ⟨B, 0, none⟩)])] ++ caps) w fun e W' => ∃ vo v, e = .returned vo ∧ IsB B p sl G' xs v1 v v3 W' ∧ Fr B v2 v w W' ∧ W'.ownsRow w.heap.size 3 1 vo k cs) :
    Calls Try.prog 83 #[.iface 115 (.agg #[.pointer (some ⟨B, 0, none⟩)]), .pointer (some ⟨a1, 0, none⟩), .pointer (some ⟨a2, 0, none⟩), .pointer (some ⟨a3, 0, none⟩)] w fun e W' => ∃ vo v, e = .returned vo ∧ IsB B p sl G' xs v1 v v3 W' ∧ Fr B v2 v w W' ∧ W'.ownsRow w.heap.size 3 1 vo k cs := by
  have HFF := Lib.hid HF
  clear HF
  go_enter Try.func83, Try.ntmps83
  go_wp2
  refine HFF.out.mono ?_
  rintro e w1 ⟨vo, x2, rfl, hI, hF, hO⟩
  have HI := Lib.hid hI; have HF := Lib.hid hF; have HO := Lib.hid hO; clear hI hF hO
  go_wp2
  go_ret
  exact ⟨vo, x2, rfl, HI.out, HF.out, HO.out⟩
set_option maxHeartbeats 4000000 in
set_option maxRecDepth 100000 in
theorem wordsW_ok (B p : Nat) (hp : 1 < p) (sl : List Slo) (G : List Gat) (xs : List Exi) (v1 v2 v3 : Value) (G' : List Gat) (vs ws : List Nat) (n : Nat) (hnv : vs.length = n) (hnw : ws.length = n) (h1 : 1 ≤ n) (h2 : n ≤ 16) (hvs : ∀ x ∈ vs, x < G.length) (hws : ∀ x ∈ ws, x < G.length) (va wa : Addr) (vc wc : Nat) (F : FuncId) (caps : Array Value) (k : Nat) (cs : List Value) (w : World) (h : IsB B p sl G xs v1 v2 v3 w)
    (hV : Reads w (some va) (nCells vs)) (hW : Reads w (some wa) (nCells ws))
    (hrun : ∀ (args : Array Value) (W : World), (callFunc F args).run Try.prog W = .ok (.enter F args) W)
    (HF : ∀ W, Below w.heap.size w W → Calls Try.prog F (#[.iface 115 (.agg #[.pointer (some ⟨B, 0, none⟩)])] ++ caps) W fun e W' => ∃ vo v, e = .returned vo ∧ IsB B p sl G' xs v1 v v3 W' ∧ Fr B v2 v W W' ∧ W'.ownsRow W.heap.size 3 1 vo k cs) :
    Calls Try.prog 54 #[.pointer (some ⟨B, 0, none⟩), .slice (some va) n vc, .slice (some wa) n wc, .func (.func F) #[] caps] w fun e W' => ∃ vo v, e = .returned (.tuple #[vo, .int .i64 0]) ∧ IsB B p sl G' xs v1 v v3 W' ∧ Fr B v2 v w W' ∧ W'.ownsRow w.heap.size 3 1 vo k cs := by
  have hmf : ∀ (fn : Fn) (first cap : Array Value) (w : World), (Instr.makeFunc fn first cap).run Try.prog w = .ok (.func fn first cap) w := fun _ _ _ _ => rfl
  have q0 := (box4 h.hb).1
  have hlt := h.lt
  have HM := Lib.hid (fun W q => made_any B p (by omega) W q)
  have HBD := Lib.hid (fun (A : Addr) (c : Nat) W => badW (some A) n c h1 h2 W)
  have HC : Hid (∀ W g, Below w.heap.size w W → W.cell? ⟨g, 0, none⟩ = some (.slice (some va) n vc) → W.cell? ⟨g, 1, none⟩ = some (.slice (some wa) n wc) → Calls Try.prog 63 #[.slice (some ⟨g, 0, none⟩) 2 2] W fun e W' => ∃ A c, e = .returned (.slice A (n + n) c) ∧ W'.ownsRow W.heap.size 3 1 (.slice A (n + n) c) (n + n) (nCells (vs ++ ws)) ∧ Below W.heap.size W W') :=
    Lib.hid fun W g hb c0 c1 => concat_ok vs ws n n hnv hnw h1 h1 h2 h2 va wa vc wc g W (hV.below hb) (hW.below hb) c0 c1
  have HD : Hid (∀ W A c, Below w.heap.size w W → Reads W A (nCells (vs ++ ws)) → W.cell? ⟨w.heap.size, 0, none⟩ = some (.slice (some va) n vc) → W.cell? ⟨w.heap.size + 1, 0, none⟩ = some (.slice (some wa) n wc) → W.cell? ⟨w.heap.size + 1 + 1, 0, none⟩ = some (.func (.func F) #[] caps) →
      Calls Try.prog 82 #[.pointer (some ⟨B, 0, none⟩), .slice A (n + n) c, .func (.func 83) #[] #[.pointer (some ⟨w.heap.size, 0, none⟩), .pointer (some ⟨w.heap.size + 1, 0, none⟩), .pointer (some ⟨w.heap.size + 1 + 1, 0, none⟩)]] W fun e W' => ∃ vo v, e = .returned (.tuple #[vo, .int .i64 0]) ∧ IsB B p sl G' xs v1 v v3 W' ∧ Fr B v2 v w W' ∧ W'.ownsRow w.heap.size 3 1 vo k cs) :=
    Lib.hid fun W A c hb hA c0 c1 c2 => by
      have h0 := doW_ok B p hp sl G xs v1 v2 v3 G' (vs ++ ws) A c (fun x hx => by rcases List.mem_append.1 hx with e | e; exact hvs x e; exact hws x e) (by rw [List.length_append]; omega) 83 #[.pointer (some ⟨w.heap.size, 0, none⟩), .pointer (some ⟨w.heap.size + 1, 0, none⟩), .pointer (some ⟨w.heap.size + 1 + 1, 0, none⟩)] k cs W (h.below hb) hA (fun _ _ => by kernel_rfl) (fun W2 hb2 => innerW B p sl xs v1 v2 v3 G' n (some va) (some wa) vc wc _ _ _ F caps k cs W2 hrun ((hb2.cell (World.block_lt_of_cell? _ _ c0)).trans c0) ((hb2.cell (World.block_lt_of_cell? _ _ c1)).trans c1) ((hb2.cell (World.block_lt_of_cell? _ _ c2)).trans c2) (HF W2 (hb.trans (hb2.mono hb.size))))
      rw [List.length_append, hnv, hnw] at h0
      refine h0.mono fun _ _ he => ?_
      obtain ⟨vo, v, e1, h3, h4, h5⟩ := he
      exact ⟨vo, v, e1, h3, (Fr.of_below hb).trans h4, own_lower h5 hb.size⟩
  clear hV hW hvs hws hnv hnw HF h
  go_enter Try.func54, Try.ntmps54
  go_wp2_with (first | (go_at_call 24; refine (HM.out _ (cell_al (cell_al (cell_al q0)))).mono ?_; rintro e w1 ⟨rfl, hw1⟩; obtain ⟨k0, k1, k2, hsz, hb1⟩ := three w (.cells #[.slice (some va) n vc] 44) (.cells #[.slice (some wa) n wc] 44) (.cells #[.func (.func F) #[] caps] 96); rw [hw1] at k0 k1 k2 hsz hb1; have HW1 := Lib.hid hw1; clear hw1 q0; have c0 := (box1 k0).1; have c1 := (box1 k1).1; have c2 := (box1 k2).1; have HB1 := Lib.hid hb1; clear k0 k1 k2 hb1; have l0 : w.heap.size < w1.heap.size := (by omega); have l1 : w.heap.size + 1 < w1.heap.size := (by omega); have l2 : w.heap.size + 1 + 1 < w1.heap.size := (by omega)) | (go_at_call 81; refine (HBD.out _ _ _).mono ?_; rintro e wc ⟨rfl, rfl⟩))
  go_wp2_with (first | (go_at_call 63; refine (HC.out _ _ (HB1.out.alloc HB1.out.size _) (by rw [← hsz]; exact (two_cells _ _ _ _).1) (by rw [← hsz]; exact (two_cells _ _ _ _).2)).mono ?_; rintro e w2 ⟨A, cc, rfl, hO2, hb2⟩; have hb12 := ((Below.refl w1.heap.size w1).alloc (Nat.le_refl _) _).trans (hb2.mono (by simp)); replace c0 := (hb12.cell (World.block_lt_of_cell? _ _ c0)).trans c0; replace c1 := (hb12.cell (World.block_lt_of_cell? _ _ c1)).trans c1; replace c2 := (hb12.cell (World.block_lt_of_cell? _ _ c2)).trans c2; have HB2 := Lib.hid (HB1.out.trans (hb12.mono HB1.out.size)); have HR2 := Lib.hid (own_reads_at hO2); clear hO2 hb2 hb12) | (go_at_call 82; refine (HD.out _ _ _ HB2.out HR2.out c0 c1 c2).mono ?_; rintro e w3 ⟨vo, x2, rfl, hI, hF, hO⟩; have HI := Lib.hid hI; have HF := Lib.hid hF; have HO := Lib.hid hO; clear hI hF hO))
  refine bodyPost_ret (v := .tuple #[vo, .int .i64 0]) ?_ rfl ⟨vo, x2, rfl, HI.out, HF.out, HO.out⟩
  simp [results, Try.results54, go_sem]
end Go.Proofs.Ytkcdlbclodjjhaa
