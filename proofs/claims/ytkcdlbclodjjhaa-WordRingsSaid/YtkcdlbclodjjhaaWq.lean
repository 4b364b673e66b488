/- Contracts of Clone of slots and gates, of a board's Circuit without exits. (Printed by wip/tools/gen_wq.py.) -/
import Derived.Test.YtkcdlbclodjjhaaWp
import Derived.Deep.DeepCutAuto
namespace Go.Proofs.Ytkcdlbclodjjhaa
open Go.RowKit

section
variable {P : Program} {ops : Array Oper} {rest : List Oper} {o : Oper} {a : Act} {Q : Exit → Act → World → Prop}
/-- Elements of several cells are appended to a row of the call's own. -/
theorem app_rows {W : World} (base : Nat) (hgd : o.guard = none) (s x : Operand) (t e : TypeId) (z : Value) (size bytes : Nat)
    (ho : o.op = .call { callee := .builtin .append, args := #[s, x], argTypes := #[t, t] })
    (ht : P.underlying t = some (.slice e)) (hinfo : (P.info? e).map (fun i => (i.zero, i.size, i.bytes)) = some (some z, size, bytes)) (hz : z.cells.size = size) (hs0 : 0 < size) (hb0 : 0 < bytes)
    (v : Value) (n : Nat) (xs ys : List Value) (hs : a.eval s = v) (ad : Addr) (m c : Nat) (hx : a.eval x = .slice (some ad) m c) (hys : ys.length = m * size) (hr : ∀ j u, ys[j]? = some u → W.cell? (ad.add j) = some u) (h1 : ∀ u ∈ ys, u.oneCell' = true)
    (HO : W.ownsRow base e size v n xs) (hbase : base ≤ W.heap.size) (hl : (n + m) * bytes ≤ 140737488355328)
    (h : ∀ v1 w1, w1.ownsRow base e size v1 (n + m) (xs ++ ys) → W.grownBy w1 v.ownBlock → wpList P ops Q rest (a.put o.dst v1) w1) : wpList P ops Q (o :: rest) a W := by
  obtain ⟨i0, hi, hzz⟩ := Option.map_eq_some_iff.1 hinfo
  simp only [Prod.mk.injEq] at hzz
  obtain ⟨hz0, hz1, hz2⟩ := hzz
  have hlen : n + m ≤ 140737488355328 := Nat.le_trans (Nat.le_mul_of_pos_right _ hb0) hl
  exact wpList_append_own W hgd s x t ho base e i0 z size bytes ht hi hz0 hz1 hz2 hz hs0 v n xs hs HO ad m c ys hx hys hr h1 (by simp only [maxLen]; omega) hl hbase fun v1 w1 hown hg _ => h v1 w1 hown hg
end
theorem own_emptyN (w : World) (e : TypeId) (size : Nat) : (w.alloc (.cells #[] e)).ownsRow w.heap.size e size (.slice (some ⟨w.heap.size, 0, none⟩) 0 0) 0 [] :=
  ⟨by simp, .inr ⟨w.heap.size, 0, #[], rfl, Nat.le_refl _, heap_alloc_new w _, Nat.le_refl _, Nat.zero_le _, by simp, by simp⟩⟩
theorem infoSlo : (Try.prog.info? 30).map (fun i => (i.zero, i.size, i.bytes)) = some (some (.agg #[.int .i64 0, .bool false]), 2, 16) := by kernel_rfl
set_option maxRecDepth 100000 in
theorem cloneS_own (base n : Nat) (v : Value) (cs : List Value) (hn : n ≤ 65536) (h1 : ∀ u ∈ cs, u.oneCell' = true) (w : World) (ho : w.ownsRow base 30 2 v n cs) :
    Calls Try.prog 26 #[v] w fun e w' => ∃ v', e = .returned v' ∧ w'.ownsRow w.heap.size 30 2 v' n cs ∧ Below w.heap.size w w' := by
  have hcl := ho.1
  rcases ho.2 with ⟨rfl, rfl⟩ | ⟨g, cap, cur, rfl, hb, hg, hnc, hcm, hcs, htk⟩
  · obtain rfl : cs = [] := by simpa using hcl
    have hq2 : ∀ W, (binOp .eql 35 (.slice none 0 0) (.slice none 0 0)).run Try.prog W = .ok (.bool true) W := fun _ => by kernel_rfl
    go_enter Try.func26, Try.ntmps26
    go_wp2
    go_ret
    exact ⟨_, rfl, World.ownsRow_nil _ _ _ _, Below.refl _ _⟩
  · have hq1 : ∀ W, (binOp .eql 35 (.slice (some ⟨g, 0, none⟩) n cap) (.slice none 0 0)).run Try.prog W = .ok (.bool false) W := fun _ => by kernel_rfl
    have hr : ∀ j u, cs[j]? = some u → (w.alloc (.cells #[] 30)).cell? ((⟨g, 0, none⟩ : Addr).add j) = some u := fun j u hj => by
      have h5 := ho.cells (g := g) rfl j u hj
      exact (((Below.refl w.heap.size w).alloc (Nat.le_refl _) _).cell (World.block_lt_of_cell? _ _ h5)).trans h5
    have HR := Lib.hid hr
    have H1 := Lib.hid h1
    have HL := Lib.hid hcl
    clear hr ho hcl htk hg hcs h1
    go_enter Try.func26, Try.ntmps26
    go_wp2_with (at_builtin; refine app_rows w.heap.size rfl _ _ 35 30 _ 2 16 rfl Try.underlying35 infoSlo rfl (by decide) (by decide) _ 0 [] cs rfl ⟨g, 0, none⟩ n cap rfl HL.out HR.out H1.out (own_emptyN w _ _) (by simp) (by omega) ?_; intro v3 w3 hown3 hg3; have HO3 := Lib.hid hown3; clear hown3; have HG3 := Lib.hid hg3; clear hg3)
    go_ret
    exact ⟨_, rfl, by have h := HO3.out; rw [Nat.zero_add, List.nil_append] at h; exact h, ((Below.refl _ _).alloc (Nat.le_refl _) _).grown HG3.out (by simp) (fun q hq => by cases hq; exact Nat.le_refl _)⟩
set_option maxRecDepth 100000 in
theorem cloneG_own (base n : Nat) (v : Value) (cs : List Value) (hn : n ≤ 65536) (h1 : ∀ u ∈ cs, u.oneCell' = true) (w : World) (ho : w.ownsRow base 33 4 v n cs) :
    Calls Try.prog 27 #[v] w fun e w' => ∃ v', e = .returned v' ∧ w'.ownsRow w.heap.size 33 4 v' n cs ∧ Below w.heap.size w w' := by
  have hcl := ho.1
  rcases ho.2 with ⟨rfl, rfl⟩ | ⟨g, cap, cur, rfl, hb, hg, hnc, hcm, hcs, htk⟩
  · obtain rfl : cs = [] := by simpa using hcl
    have hq2 : ∀ W, (binOp .eql 36 (.slice none 0 0) (.slice none 0 0)).run Try.prog W = .ok (.bool true) W := fun _ => by kernel_rfl
    go_enter Try.func27, Try.ntmps27
    go_wp2
    go_ret
    exact ⟨_, rfl, World.ownsRow_nil _ _ _ _, Below.refl _ _⟩
  · have hq1 : ∀ W, (binOp .eql 36 (.slice (some ⟨g, 0, none⟩) n cap) (.slice none 0 0)).run Try.prog W = .ok (.bool false) W := fun _ => by kernel_rfl
    have hr : ∀ j u, cs[j]? = some u → (w.alloc (.cells #[] 33)).cell? ((⟨g, 0, none⟩ : Addr).add j) = some u := fun j u hj => by
      have h5 := ho.cells (g := g) rfl j u hj
      exact (((Below.refl w.heap.size w).alloc (Nat.le_refl _) _).cell (World.block_lt_of_cell? _ _ h5)).trans h5
    have HR := Lib.hid hr
    have H1 := Lib.hid h1
    have HL := Lib.hid hcl
    clear hr ho hcl htk hg hcs h1
    go_enter Try.func27, Try.ntmps27
    go_wp2_with (at_builtin; refine app_rows w.heap.size rfl _ _ 36 33 _ 4 32 rfl Try.underlying36 infoGat rfl (by decide) (by decide) _ 0 [] cs rfl ⟨g, 0, none⟩ n cap rfl HL.out HR.out H1.out (own_emptyN w _ _) (by simp) (by omega) ?_; intro v3 w3 hown3 hg3; have HO3 := Lib.hid hown3; clear hown3; have HG3 := Lib.hid hg3; clear hg3)
    go_ret
    exact ⟨_, rfl, by have h := HO3.out; rw [Nat.zero_add, List.nil_append] at h; exact h, ((Below.refl _ _).alloc (Nat.le_refl _) _).grown HG3.out (by simp) (fun q hq => by cases hq; exact Nat.le_refl _)⟩
theorem own_box {W : World} {base n size k j : Nat} {e t : TypeId} {v u : Value} {cs : List Value} {xs : Array Value} {fr : Nat × Nat} (ho : W.ownsRow base e size v n cs) (hb : W.heap[k]? = some (.cells xs t fr)) (ht : t ≠ e) : (W.setCell ⟨k, j, none⟩ u).ownsRow base e size v n cs := by
  refine ho.kept (grown_box W k j u) ?_
  rcases ho.2 with ⟨rfl, _⟩ | ⟨g, cap, cur, rfl, _, hgg, _⟩
  · exact .inl rfl
  · refine .inr fun e2 => ?_
    have e3 : g = k := by simpa [Value.ownBlock] using e2
    subst e3
    rw [hgg] at hb
    injection hb with hb
    injection hb with _ hb _
    exact ht hb.symm
theorem box_store {W : World} {k : Nat} {a b c x y z : Value} {t : TypeId} (h : W.heap[k]? = some (.cells #[a, b, c] t (0, 0))) : (((W.setCell ⟨k, 0, none⟩ x).setCell ⟨k, 1, none⟩ y).setCell ⟨k, 2, none⟩ z).heap[k]? = some (.cells #[x, y, z] t (0, 0)) := by
  have h1 := box_set h (i := 0) x
  have h2 := box_set h1 (i := 1) y
  have h3 := box_set h2 (i := 2) z
  simpa using h3
theorem own_store {W : World} {k : Nat} {a b c x y z : Value} {t e : TypeId} (h : W.heap[k]? = some (.cells #[a, b, c] t (0, 0))) {base n size : Nat} {v : Value} {cs : List Value} (ho : W.ownsRow base e size v n cs) (ht : t ≠ e) : (((W.setCell ⟨k, 0, none⟩ x).setCell ⟨k, 1, none⟩ y).setCell ⟨k, 2, none⟩ z).ownsRow base e size v n cs :=
  own_box (own_box (own_box ho h ht) (box_set h (i := 0) x) ht) (box_set (box_set h (i := 0) x) (i := 1) y) ht
theorem far_store {W : World} {b k : Nat} {o : Obj} {x y z : Value} (h : W.heap[b]? = some o) (hne : b ≠ k) : (((W.setCell ⟨k, 0, none⟩ x).setCell ⟨k, 1, none⟩ y).setCell ⟨k, 2, none⟩ z).heap[b]? = some o := by
  rw [Below.heap_setCell _ _ _ _ (by simpa using hne), Below.heap_setCell _ _ _ _ (by simpa using hne), Below.heap_setCell _ _ _ _ (by simpa using hne)]; exact h
theorem below_store {n : Nat} {w W : World} {k : Nat} {x y z : Value} (h : Below n w W) (hk : n ≤ k) : Below n w (((W.setCell ⟨k, 0, none⟩ x).setCell ⟨k, 1, none⟩ y).setCell ⟨k, 2, none⟩ z) :=
  ((h.setCell (p := ⟨k, 0, none⟩) hk _).setCell (p := ⟨k, 1, none⟩) hk _).setCell (p := ⟨k, 2, none⟩) hk _
theorem results_cell_tmp1 {fn : Func} {p : Tmp} {ty : TypeId} (h : fn.results = #[.cell p ty]) (tmps : Array Value) (P : Program) (w : World) :
    (results fn tmps).run P w = ((asAddr (tmps.getD p undef)).run P w).andThen fun a w₁ => (loadVar ty a).run P w₁ := by
  simp only [results, h]
  simp [Sem.run_bind, Result.andThen]
theorem one_slo (l : List Slo) : ∀ u ∈ sloCells l, u.oneCell' = true := by
  intro u hu
  obtain ⟨x, _, hx⟩ := List.mem_flatMap.1 hu
  simp at hx
  rcases hx with rfl | rfl <;> rfl
theorem one_gat (l : List Gat) : ∀ u ∈ gatCells l, u.oneCell' = true := by
  intro u hu
  obtain ⟨x, _, hx⟩ := List.mem_flatMap.1 hu
  simp at hx
  rcases hx with rfl | rfl | rfl | rfl <;> rfl
set_option maxHeartbeats 4000000 in
set_option maxRecDepth 10000000 in
theorem circuit_ok (B p : Nat) (hp : 0 < p) (sl : List Slo) (G : List Gat) (v1 v2 : Value) (hs : sl.length ≤ 65536) (hg : G.length ≤ 65536) (w : World) (h : IsB B p sl G [] v1 v2 nilS w) :
    Calls Try.prog 10 #[.pointer (some ⟨B, 0, none⟩)] w fun e W' => ∃ S sc Ga gc, e = .returned (.agg #[.slice S sl.length sc, .slice Ga G.length gc, nilS]) ∧ W'.ownsRow w.heap.size 30 2 (.slice S sl.length sc) sl.length (sloCells sl) ∧ W'.ownsRow w.heap.size 33 4 (.slice Ga G.length gc) G.length (gatCells G) ∧ Below w.heap.size w W' := by
  have HM := Lib.hid (fun W q => made_any B p hp W q)
  have HI := Lib.hid h
  have q0 := (box4 h.hb).1
  have hlt := h.lt
  have HS : Hid (∀ W, Below w.heap.size w W → Calls Try.prog 26 #[v1] W fun e w' => ∃ S sc, e = .returned (.slice S sl.length sc) ∧ w'.ownsRow W.heap.size 30 2 (.slice S sl.length sc) sl.length (sloCells sl) ∧ Below W.heap.size W w' ∧ Below w.heap.size w w') :=
    Lib.hid fun W hb => (cloneS_own (B + 1) sl.length v1 (sloCells sl) hs (one_slo sl) W (own_below h.h1 hb)).mono fun _ _ he => by
      obtain ⟨v', e1, h2, h3⟩ := he
      obtain ⟨S, sc, rfl, _⟩ := own_reads h2
      exact ⟨S, sc, e1, h2, h3, hb.trans (h3.mono hb.size)⟩
  have HG : Hid (∀ W, Below w.heap.size w W → Calls Try.prog 27 #[v2] W fun e w' => ∃ S sc, e = .returned (.slice S G.length sc) ∧ w'.ownsRow W.heap.size 33 4 (.slice S G.length sc) G.length (gatCells G) ∧ Below W.heap.size W w' ∧ Below w.heap.size w w') :=
    Lib.hid fun W hb => (cloneG_own (B + 1) G.length v2 (gatCells G) hg (one_gat G) W (own_below h.h2 hb)).mono fun _ _ he => by
      obtain ⟨v', e1, h2, h3⟩ := he
      obtain ⟨S, sc, rfl, _⟩ := own_reads h2
      exact ⟨S, sc, e1, h2, h3, hb.trans (h3.mono hb.size)⟩
  obtain ⟨SA, sc0, rfl, _⟩ := own_reads h.h1
  obtain ⟨GA, gc0, rfl, _⟩ := own_reads h.h2
  clear h
  go_enter Try.func10, Try.ntmps10
  go_wp2_with (go_at_call 24; refine (HM.out _ (cell_al q0)).mono ?_; rintro e w1 ⟨rfl, hw1⟩; have HW1 := Lib.hid hw1; clear hw1)
  have hb1 : Below w.heap.size w w1 := by rw [← HW1.out]; exact (Below.refl _ _).alloc (Nat.le_refl _) _
  have k0 : w1.heap[w.heap.size]? = some (.cells #[nilS, nilS, nilS] 39 (0, 0)) := by rw [← HW1.out]; exact heap_alloc_new w _
  have l0 : w.heap.size < w1.heap.size := (Array.getElem?_eq_some_iff.1 k0).1
  have HB1 := Lib.hid hb1; have HK0 := Lib.hid k0
  clear q0 HW1 k0
  have hbx : ∀ W, Below w.heap.size w W → W.cell? ⟨B, 1, none⟩ = some (.slice SA sl.length sc0) ∧ W.cell? ⟨B, 2, none⟩ = some (.slice GA G.length gc0) := fun W hb => by
    have h5 := box4 ((hb.block _ hlt).trans HI.out.hb)
    exact ⟨h5.2.1, h5.2.2.1⟩
  have HBX := Lib.hid hbx
  have q1 := (hbx w1 hb1).1
  have q2 := (hbx w1 hb1).2
  have q3 := (box4 ((hb1.block _ hlt).trans HI.out.hb)).2.2.2.1
  clear hbx hb1
  go_upto_region 3 with fail
  go_cut [3] (fun s3 wx => ∃ (k : Nat) (S : Option Addr) (sc : Nat) (Ga : Option Addr) (gc : Nat), s3 = .pointer (some ⟨k, 0, none⟩) ∧ w.heap.size < k ∧ wx.heap[k]? = some (.cells #[.slice S sl.length sc, .slice Ga G.length gc, nilS] 39 (0, 0)) ∧ wx.ownsRow w.heap.size 30 2 (.slice S sl.length sc) sl.length (sloCells sl) ∧ wx.ownsRow w.heap.size 33 4 (.slice Ga G.length gc) G.length (gatCells G) ∧ Below w.heap.size w wx ∧ wx.heap[w.heap.size]? = some (.cells #[nilS, nilS, nilS] 39 (0, 0)))
  case first =>
    go_region_held3 (fun W => W.cell? ⟨B, 1, none⟩ = some (.slice SA sl.length sc0) ∧ W.cell? ⟨B, 2, none⟩ = some (.slice GA G.length gc0)) (exact HBX.out _ (by repeat (first | exact HB3.out | exact HB2.out | exact HB1.out | refine Below.drew ?_ | refine Below.setCell ?_ (by first | omega | (simp; omega)) _ | refine Below.alloc ?_ (by first | exact HB3.out.size | exact HB2.out.size | exact HB1.out.size | exact HB1.out.drew.size) _))) (first
      | (go_at_call 26; refine (HS.out _ (by repeat (first | exact HB3.out | exact HB2.out | exact HB1.out | refine Below.drew ?_ | refine Below.setCell ?_ (by first | omega | (simp; omega)) _ | refine Below.alloc ?_ (by first | exact HB3.out.size | exact HB2.out.size | exact HB1.out.size | exact HB1.out.drew.size) _))).mono ?_; rintro e w2 ⟨S2, sc2, rfl, hO2, hb2, hbw⟩; have x12 : Below w1.heap.size w1 w2 := (by first | exact (Below.refl w1.heap.size w1).drew.trans hb2 | exact ((Below.refl w1.heap.size w1).alloc (Nat.le_refl _) _).drew.trans (hb2.mono (by simp))); have y2 := x12.size; have X12 := Lib.hid x12; have HO2 := Lib.hid (own_lower hO2 (show w.heap.size ≤ _ by first | (simp; omega) | omega)); clear x12; (try (have kk2 : w2.heap[w1.heap.size]? = some (.cells #[nilS, nilS, nilS] 39 (0, 0)) := (hb2.block w1.heap.size (by simp)).trans (heap_alloc_new w1 _); obtain ⟨c0, c1, c2, f0, f1, f2⟩ := box_facts kk2)); have z2 := hbw.size; have HB2 := Lib.hid hbw; clear hbw hO2 hb2)
      | (go_at_call 27; refine (HG.out _ (by repeat (first | exact HB3.out | exact HB2.out | exact HB1.out | refine Below.drew ?_ | refine Below.setCell ?_ (by first | omega | (simp; omega)) _ | refine Below.alloc ?_ (by first | exact HB3.out.size | exact HB2.out.size | exact HB1.out.size | exact HB1.out.drew.size) _))).mono ?_; rintro e w3 ⟨S3, sc3, rfl, hO3, hb3, hbw⟩; have x23 : Below w2.heap.size w2 w3 := (by first | exact hb3 | exact ((Below.refl w2.heap.size w2).alloc (Nat.le_refl _) _).trans (hb3.mono (by simp))); have y3 := x23.size; have X23 := Lib.hid x23; have HO3 := Lib.hid (own_lower hO3 (show w.heap.size ≤ _ by first | (simp; omega) | omega)); clear x23; (try (have kk3 : w3.heap[w1.heap.size]? = some (.cells #[nilS, nilS, nilS] 39 (0, 0)) := (hb3.block w1.heap.size (World.block_lt_of_cell? _ _ c0)).trans kk2; clear c0 c1 c2 f0 f1 f2; obtain ⟨c0, c1, c2, f0, f1, f2⟩ := box_facts kk3)); (try (have kk4 : w3.heap[w2.heap.size]? = some (.cells #[nilS, nilS, nilS] 39 (0, 0)) := (hb3.block w2.heap.size (by simp)).trans (heap_alloc_new w2 _); obtain ⟨c0, c1, c2, f0, f1, f2⟩ := box_facts kk4)); have z3 := hbw.size; have HB3 := Lib.hid hbw; clear hbw hO3 hb3))
    all_goals (go_wp2_with fail; go_meet)
    all_goals have hk1 := (X23.out.block w.heap.size (by omega)).trans ((X12.out.block w.heap.size l0).trans HK0.out)
    all_goals have hO2 := own_below HO2.out X23.out
    all_goals first
      | exact ⟨w3.heap.size, S2, sc2, S3, sc3, rfl, by omega, heap_alloc_new w3 _, hO2.alloc _, HO3.out.alloc _, HB3.out.alloc HB3.out.size _, by rw [Below.heap_alloc _ _ _ (by omega)]; exact hk1⟩
      | exact ⟨w2.heap.size, S2, sc2, S3, sc3, rfl, by omega, box_store kk4, own_store kk4 hO2 (by decide), own_store kk4 HO3.out (by decide), below_store HB3.out (by omega), far_store hk1 (by omega)⟩
      | exact ⟨w1.heap.size, S2, sc2, S3, sc3, rfl, by omega, box_store kk3, own_store kk3 hO2 (by decide), own_store kk3 HO3.out (by decide), below_store HB3.out (by omega), far_store hk1 (by omega)⟩
  case rest =>
  obtain ⟨k, S, sc, Ga, gc, rfl, hkw, hbx, hO2, hO3, hB, hbr⟩ := hcut
  have q3' := (box4 ((hB.block _ hlt).trans HI.out.hb)).2.2.2.1
  obtain ⟨c0, c1, c2, f0, f1, f2⟩ := box_facts hbx
  obtain ⟨d0, d1, d2, g0, g1, g2⟩ := box_facts hbr
  have HO2 := Lib.hid hO2; have HO3 := Lib.hid hO3; have HBX2 := Lib.hid hB; have HBR := Lib.hid hbr
  clear hO2 hO3 hB hbx hbr q1 q2 q3
  go_wp2
  go_loopg [29] 0 (fun g i wr => i = .int .i64 0 ∧ g = 0 ∧ wc = wr)
  case atStart => exact ⟨rfl, rfl, rfl⟩
  case round =>
    obtain ⟨rfl, rfl, rfl⟩ := hrel
    go_wp2
    refine bodyPost_ret (v := .agg #[.slice S sl.length sc, .slice Ga G.length gc, nilS]) ?_ rfl ⟨S, sc, Ga, gc, rfl, own_store HBR.out HO2.out (by decide), own_store HBR.out HO3.out (by decide), below_store HBX2.out (Nat.le_refl _)⟩
    rw [results_cell_tmp1 rfl]
    go_simp
end Go.Proofs.Ytkcdlbclodjjhaa
