/- Contract of circ.told: an exit's line. -/
import Derived.Test.YtmnbgamnbgdnnaaGreatDoorCirU
namespace Go.Proofs.YtmnbgamnbgdnnaaGreatDoor
open Go.RowKit

theorem sCells_succ (l : List Int) (k : Nat) (h : k < l.length) : (l.take (k + 1)).map numI = (l.take k).map numI ++ [numI l[k]] := by
  rw [List.take_succ_eq_append_getElem h, List.map_append]; rfl
theorem sCells_snoc (l : List Bs) (x : Bs) : sCells (l ++ [x]) = sCells l ++ [.string ⟨x.toArray⟩] := by simp [sCells]
theorem sown_form {w : World} {base : Nat} {n : Nat} {v : Value} {l : List Bs} (h : w.ownsRow base 9 1 v n (sCells l)) (hn : 0 < n) :
    ∃ g cap, v = .slice (some ⟨g, 0, none⟩) n cap ∧ base ≤ g ∧ g < w.heap.size ∧ n ≤ cap ∧ ∀ j x, (l.map fun y => (⟨y.toArray⟩ : ByteArray))[j]? = some x → w.cell? ⟨g, 0 + j, none⟩ = some (.string x) := by
  rcases h.2 with ⟨_, h0⟩ | ⟨g, cap, cur, rfl, hb, r⟩
  · omega
  · refine ⟨g, cap, rfl, hb, (h.lt g rfl).2, r.2.1, fun j x hx => ?_⟩
    have := h.cells (g := g) rfl j (.string x) (by
      unfold sCells
      rw [List.getElem?_map] at hx ⊢
      cases e : l[j]? with
      | none => rw [e] at hx; cases hx
      | some y => rw [e] at hx; injection hx with hx; subst hx; rfl)
    rwa [show (⟨g, 0, none⟩ : Addr).add j = ⟨g, 0 + j, none⟩ by rw [Nat.zero_add]; unfold Addr.add; split <;> simp_all] at this
theorem join_mk (l : List Bs) : ((l.map fun y => (⟨y.toArray⟩ : ByteArray)).map fun x => x.data.toList) = l := by
  rw [List.map_map]
  conv => rhs; rw [← List.map_id l]
  exact List.map_congr_left fun x _ => by simp
/-- strings.Join of a row of words. -/
theorem join_any (l : List Bs) (hn : l.length ≤ 140737488355328) (hl : (Lib.join l [32]).length ≤ 140737488355328) (g cap : Nat) (w : World) (hg : g < w.heap.size) (hcap : l.length ≤ cap)
    (hc : ∀ j x, (l.map fun y => (⟨y.toArray⟩ : ByteArray))[j]? = some x → w.cell? ⟨g, 0 + j, none⟩ = some (.string x)) :
    Calls Tryz.prog 54 #[.slice (some ⟨g, 0, none⟩) l.length cap, .string ⟨#[32]⟩] w (SPost (Lib.join l [32]) w) := by
  have h := Tryz.strings_Join g 0 cap (l.map fun y => (⟨y.toArray⟩ : ByteArray)) ⟨#[32]⟩ w hc hg (by simpa using hn) (by simpa using hcap) (by rw [join_mk]; exact hl)
  rw [join_mk, List.length_map] at h
  exact h
theorem num_len {n : Int} (h : 0 ≤ n ∧ n < 1000000000) : (numI n).length ≤ 9 := dec_nine (by omega)
theorem spaced_len (l : List Bs) (m : Nat) (h : ∀ x ∈ l, x.length ≤ m) : (spaced l).length ≤ l.length * (m + 1) := by
  induction l with
  | nil => simp [spaced]
  | cons x r ih =>
    have h1 := ih fun y hy => h y (List.mem_cons_of_mem _ hy)
    have h2 := h x (List.mem_cons_self ..)
    have e : spaced (x :: r) = 32 :: (x ++ spaced r) := by simp [spaced]
    rw [e, List.length_cons, List.length_append, List.length_cons, Nat.succ_mul]
    omega
theorem exit_len {p : Nat} {L : Lis} (h : Fine p L) (x : ExL) (hx : x ∈ L.2.2) : (exitWords x).length ≤ 1040 ∧ (exitLine x).length ≤ 12000 := by
  obtain ⟨h1, h2, h3, h4⟩ := h.x x hx
  have hn : (if x.1 = [] then [kwAll] else x.1.map numI).length ≤ 13 := by split <;> simp; omega
  have hl : (exitWords x).length ≤ 1040 := by
    unfold exitWords
    simp only [List.length_cons, List.length_append, List.length_map]
    omega
  refine ⟨hl, ?_⟩
  unfold exitLine
  have hw : ∀ w ∈ exitWords x, w.length ≤ 9 := by
    intro w hw
    unfold exitWords at hw
    rcases List.mem_cons.1 hw with e | e
    · subst e; decide
    · rcases List.mem_append.1 e with e | e
      · split at e
        · have := List.mem_singleton.1 e
          subst this; decide
        · obtain ⟨n, hn, rfl⟩ := List.mem_map.1 e
          have := h1 n hn
          exact num_len (by omega)
      · rcases List.mem_cons.1 e with e | e
        · subst e; decide
        · obtain ⟨n, hn, rfl⟩ := List.mem_map.1 e
          have := h2 n hn
          exact num_len (by omega)
  generalize exitWords x = W at hl hw
  cases W with
  | nil => simp [Lib.join_nil]
  | cons y r =>
    have h5 := spaced_len r 9 fun z hz => hw z (List.mem_cons_of_mem _ hz)
    have h6 := hw y (List.mem_cons_self ..)
    rw [join_spaced, List.length_append]
    simp only [List.length_cons] at hl
    omega
theorem own_one (w : World) (e : TypeId) (u : Value) : (w.alloc (.cells #[u] e)).ownsRow w.heap.size e 1 (.slice (some ⟨w.heap.size, 0, none⟩) 1 1) 1 [u] :=
  ⟨rfl, .inr ⟨w.heap.size, 1, #[u], rfl, Nat.le_refl _, heap_alloc_new w _, Nat.le_refl _, by decide, rfl, rfl⟩⟩
set_option maxHeartbeats 1000000 in
set_option maxRecDepth 100000 in
theorem told_any (x : Exi) (h1 : ∀ i ∈ x.tl, 1 ≤ i ∧ i ≤ 13) (h2 : ∀ i ∈ x.gl, 0 ≤ i ∧ i < 65536) (hn1 : x.tl.length ≤ 13) (hn2 : x.gl.length ≤ 1024) (hlen : (exitWords x.l).length ≤ 1040 ∧ (exitLine x.l).length ≤ 12000)
    (w : World) (htab : PowTab w) (hA : Reads w x.A (iCells x.tl)) (hB : Reads w x.B (iCells x.gl)) :
    Calls Tryz.prog 56 #[.agg #[.slice x.A x.tl.length x.c, .slice x.B x.gl.length x.d]] w (SPost (exitLine x.l) w) := by
  have HA := Lib.hid hA; clear hA
  have HBB := Lib.hid hB; clear hB
  have HT := Lib.hid htab; clear htab
  have H1 := Lib.hid h1; clear h1
  have H2 := Lib.hid h2; clear h2
  have HL := Lib.hid hlen; clear hlen
  obtain ⟨tl, gl, A, B, c, d⟩ := x
  simp only at HA HBB H1 H2 hn1 hn2 ⊢
  go_enter Tryz.func56, Tryz.ntmps56
  go_wp2
  go_loopg [3, 12] tl.length (fun g l i wr => ∃ k : Nat, k ≤ tl.length ∧ g = tl.length - k ∧ i = .int .i64 k ∧ wr.ownsRow (w.heap.size + 1) 9 1 l (1 + k) (sCells (kwOut :: (tl.take k).map numI)) ∧ Below (w.heap.size + 1) (w.alloc (.cells #[.slice A tl.length c, .slice B gl.length d] 72)) wr)
  case atStart => exact ⟨0, by omega, rfl, rfl, by simpa [sCells, kwOut] using own_one (w.alloc (.cells #[.slice A tl.length c, .slice B gl.length d] 72)) 9 (.string ⟨#[111, 117, 116]⟩), (Below.refl _ _).alloc (by simp) _⟩
  case round =>
    obtain ⟨k, hk, rfl, rfl, hown, hbel⟩ := hrel
    have HO := Lib.hid hown; clear hown
    have HB := Lib.hid hbel; clear hbel
    have hszr := HB.out.size
    simp at hszr
    by_cases hlt : k < tl.length
    · obtain ⟨ad, rfl, q0⟩ := (HA.out.below ((Below.refl w.heap.size w).alloc (Nat.le_refl _) _ |>.trans (HB.out.mono (by omega)))).i k hlt
      have hin := H1.out _ (List.getElem_mem hlt)
      have HSU := Lib.hid (sCells_succ tl k hlt)
      generalize tl[k] = n at q0 hin HSU
      obtain ⟨n, rfl⟩ : ∃ u : Nat, n = u := ⟨n.toNat, by omega⟩
      have HIT := Lib.hid (fun W => Tryz.strconv_Itoa_small n (by omega) W)
      go_wp2_with (first | (go_at_call 85; refine (HIT.out _).mono ?_; rintro e w1 ⟨rfl, rfl⟩) | (at_builtin; refine app_cells (w.heap.size + 1) rfl _ _ 94 9 _ 1 16 rfl Tryz.underlying94 infoStr rfl (by decide) (by decide) u3 (1 + k) _ [.string ⟨(Lib.decDigits n).toArray⟩] rfl _ rfl rfl rfl (by intro u hu; simp at hu; subst hu; rfl) HO.out (by omega) (by omega) ?_; intro v3 w3 hown3 hg3; have HO3 := Lib.hid hown3; clear hown3; have HG3 := Lib.hid hg3; clear hg3))
      go_roundg (tl.length - (k + 1))
      case measure => omega
      case rel => exact ⟨k + 1, by omega, rfl, by go_num, by rw [HSU.out, ← List.cons_append, sCells_snoc]; exact HO3.out, HB.out.grown HG3.out (by omega) (fun q hq => (HO.out.lt q hq).1)⟩
    · obtain rfl : k = tl.length := by omega
      have c0 := HB.out.cell (p := ⟨w.heap.size, 0, none⟩) (by simp)
      have c1 := HB.out.cell (p := ⟨w.heap.size, 1, none⟩) (by simp)
      simp at c0 c1
      by_cases h0 : tl.length = 0
      · have hO0 := h0
        obtain rfl : tl = [] := List.eq_nil_of_length_eq_zero h0
        simp only [List.length_nil] at HO hO0 HB c0 c1 ⊢
        go_wp2_with (first | (at_builtin; refine app_cells (w.heap.size + 1) rfl _ _ 94 9 _ 1 16 rfl Tryz.underlying94 infoStr rfl (by decide) (by decide) u3 (1 + 0) _ [.string ⟨#[97, 108, 108]⟩] rfl _ rfl rfl rfl (by intro u hu; simp at hu; subst hu; rfl) HO.out (by omega) (by omega) ?_; intro v3 w3 hown3 hg3; have HO3 := Lib.hid hown3; clear hown3; have HB3 := Lib.hid (HB.out.grown hg3 (by omega) (fun q hq => (HO.out.lt q hq).1)); clear hg3; have c1 := HB3.out.cell (p := ⟨w.heap.size, 1, none⟩) (by simp); simp at c1; have sz3 := HB3.out.size; simp at sz3) | (at_builtin; refine app_cells (w.heap.size + 1) rfl _ _ 94 9 _ 1 16 rfl Tryz.underlying94 infoStr rfl (by decide) (by decide) v3 (1 + 1) _ [.string ⟨#[58]⟩] rfl _ rfl rfl rfl (by intro u hu; simp at hu; subst hu; rfl) HO3.out (by omega) (by omega) ?_; intro v4 w4 hown3 hg3; have HO4 := Lib.hid hown3; clear hown3; have HB4 := Lib.hid (HB3.out.grown hg3 (by omega) (fun q hq => (HO3.out.lt q hq).1)); clear hg3; have c1 := HB4.out.cell (p := ⟨w.heap.size, 1, none⟩) (by simp); simp at c1; have sz4 := HB4.out.size; simp at sz4))
        have HW := Lib.hid (show sCells (kwOut :: ([kwAll] ++ [[58]])) = (sCells (kwOut :: (([] : List Int).take 0).map numI) ++ [.string ⟨#[97, 108, 108]⟩]) ++ [.string ⟨#[58]⟩] from by simp [sCells, kwAll])
        go_loopg [3, 35] gl.length (fun g l i wr => ∃ k : Nat, k ≤ gl.length ∧ g = gl.length - k ∧ i = .int .i64 k ∧ wr.ownsRow (w.heap.size + 1) 9 1 l (1 + 1 + 1 + k) (sCells (kwOut :: ([kwAll] ++ [[58]]) ++ (gl.take k).map numI)) ∧ Below (w.heap.size + 1) (w.alloc (.cells #[.slice A ([] : List Int).length c, .slice B gl.length d] 72)) wr)
        case atStart => exact ⟨0, by omega, rfl, rfl, by rw [List.take_zero, List.map_nil, List.append_nil, HW.out]; exact HO4.out, HB4.out⟩
        case round =>
          obtain ⟨k, hk, rfl, rfl, hown, hbel⟩ := hrel
          have HP := Lib.hid hown; clear hown
          have HC := Lib.hid hbel; clear hbel
          have hszq := HC.out.size
          simp at hszq
          by_cases hlt : k < gl.length
          · obtain ⟨ad, rfl, q0⟩ := (HBB.out.below ((Below.refl w.heap.size w).alloc (Nat.le_refl _) _ |>.trans (HC.out.mono (by omega)))).i k hlt
            have hin := H2.out _ (List.getElem_mem hlt)
            have HSU := Lib.hid (sCells_succ gl k hlt)
            generalize gl[k] = n at q0 hin HSU
            have HIT := Lib.hid (fun W h => itoa_any n (by omega) (by omega) W h)
            have HT1 : Hid (PowTab wr) := Lib.hid (HT.out.below ((Below.refl w.heap.size w).alloc (Nat.le_refl _) _ |>.trans (HC.out.mono (by omega))))
            clear hin
            go_wp2_with (first | (go_at_call 85; refine (HIT.out _ HT1.out).mono ?_; rintro e w5 ⟨rfl, hb5⟩; have sz5 := hb5.size; have HP5 := Lib.hid (own_below HP.out hb5); have HB5 := Lib.hid (HC.out.trans (hb5.mono (by omega))); clear hb5) | (at_builtin; refine app_cells (w.heap.size + 1) rfl _ _ 94 9 _ 1 16 rfl Tryz.underlying94 infoStr rfl (by decide) (by decide) u3 (1 + 1 + 1 + k) _ [.string ⟨(numI n).toArray⟩] rfl _ rfl rfl rfl (by intro u hu; simp at hu; subst hu; rfl) HP5.out (by omega) (by omega) ?_; intro v6 w6 hown3 hg3; have HO6 := Lib.hid hown3; clear hown3; have HG6 := Lib.hid hg3; clear hg3))
            go_roundg (gl.length - (k + 1))
            case measure => omega
            case rel => exact ⟨k + 1, by omega, rfl, by go_num, by rw [HSU.out, ← List.append_assoc, sCells_snoc]; exact HO6.out, HB5.out.grown HG6.out (by omega) (fun q hq => (HP5.out.lt q hq).1)⟩
          · obtain rfl : k = gl.length := by omega
            have hO := HP.out
            rw [List.take_length] at hO
            obtain ⟨g, cap, hv, hg0, hg1, hcap, hcc⟩ := sown_form hO (by omega)
            clear hO
            subst hv
            have hwd : exitWords (Exi.l ⟨([] : List Int), gl, A, B, c, d⟩) = kwOut :: ([kwAll] ++ [[58]]) ++ gl.map numI := by
              unfold exitWords Exi.l
              simp only [if_true]
              simp
            have hwl : (exitWords (Exi.l ⟨([] : List Int), gl, A, B, c, d⟩)).length = 1 + 1 + 1 + gl.length := by rw [hwd]; simp; omega
            have hj := join_any (exitWords (Exi.l ⟨([] : List Int), gl, A, B, c, d⟩)) (by have := HL.out.1; omega) (by have := HL.out.2; exact Nat.le_trans this (by omega)) g cap wr hg1 (by omega) (by rw [hwd]; exact hcc)
            rw [hwl] at hj
            have HJ := Lib.hid hj; clear hj hcc
            go_wp2_with (go_at_call 54; refine HJ.out.mono ?_; rintro e w7 ⟨rfl, hb7⟩)
            go_ret
            exact ⟨rfl, below_box ((HC.out.trans (Below.mono ‹Below wr.heap.size wr _› (by omega))).mono (by simp))⟩
      · have hN : ¬ tl = [] := fun e => h0 (by rw [e]; rfl)
        have HN := Lib.hid hN; clear hN
        have hO := HO.out
        rw [List.take_length] at hO
        clear HO
        have HO := Lib.hid hO; clear hO
        go_wp2_with (first | (at_builtin; refine app_cells (w.heap.size + 1) rfl _ _ 94 9 _ 1 16 rfl Tryz.underlying94 infoStr rfl (by decide) (by decide) u3 (1 + tl.length) _ [.string ⟨#[58]⟩] rfl _ rfl rfl rfl (by intro u hu; simp at hu; subst hu; rfl) HO.out (by omega) (by omega) ?_; intro v3 w3 hown3 hg3; have HO3 := Lib.hid hown3; clear hown3; have HB3 := Lib.hid (HB.out.grown hg3 (by omega) (fun q hq => (HO.out.lt q hq).1)); clear hg3; have c1 := HB3.out.cell (p := ⟨w.heap.size, 1, none⟩) (by simp); simp at c1; have sz3 := HB3.out.size; simp at sz3))
        have HW := Lib.hid (show sCells (kwOut :: ((tl.map numI) ++ [[58]])) = sCells (kwOut :: tl.map numI) ++ [.string ⟨#[58]⟩] from by simp [sCells])
        go_loopg [3, 35] gl.length (fun g l i wr => ∃ k : Nat, k ≤ gl.length ∧ g = gl.length - k ∧ i = .int .i64 k ∧ wr.ownsRow (w.heap.size + 1) 9 1 l (1 + tl.length + 1 + k) (sCells (kwOut :: ((tl.map numI) ++ [[58]]) ++ (gl.take k).map numI)) ∧ Below (w.heap.size + 1) (w.alloc (.cells #[.slice A tl.length c, .slice B gl.length d] 72)) wr)
        case atStart => exact ⟨0, by omega, rfl, rfl, by rw [List.take_zero, List.map_nil, List.append_nil, HW.out]; exact HO3.out, HB3.out⟩
        case round =>
          obtain ⟨k, hk, rfl, rfl, hown, hbel⟩ := hrel
          have HP := Lib.hid hown; clear hown
          have HC := Lib.hid hbel; clear hbel
          have hszq := HC.out.size
          simp at hszq
          by_cases hlt : k < gl.length
          · obtain ⟨ad, rfl, q0⟩ := (HBB.out.below ((Below.refl w.heap.size w).alloc (Nat.le_refl _) _ |>.trans (HC.out.mono (by omega)))).i k hlt
            have hin := H2.out _ (List.getElem_mem hlt)
            have HSU := Lib.hid (sCells_succ gl k hlt)
            generalize gl[k] = n at q0 hin HSU
            have HIT := Lib.hid (fun W h => itoa_any n (by omega) (by omega) W h)
            have HT1 : Hid (PowTab wr) := Lib.hid (HT.out.below ((Below.refl w.heap.size w).alloc (Nat.le_refl _) _ |>.trans (HC.out.mono (by omega))))
            clear hin
            go_wp2_with (first | (go_at_call 85; refine (HIT.out _ HT1.out).mono ?_; rintro e w5 ⟨rfl, hb5⟩; have sz5 := hb5.size; have HP5 := Lib.hid (own_below HP.out hb5); have HB5 := Lib.hid (HC.out.trans (hb5.mono (by omega))); clear hb5) | (at_builtin; refine app_cells (w.heap.size + 1) rfl _ _ 94 9 _ 1 16 rfl Tryz.underlying94 infoStr rfl (by decide) (by decide) u3 (1 + tl.length + 1 + k) _ [.string ⟨(numI n).toArray⟩] rfl _ rfl rfl rfl (by intro u hu; simp at hu; subst hu; rfl) HP5.out (by omega) (by omega) ?_; intro v6 w6 hown3 hg3; have HO6 := Lib.hid hown3; clear hown3; have HG6 := Lib.hid hg3; clear hg3))
            go_roundg (gl.length - (k + 1))
            case measure => omega
            case rel => exact ⟨k + 1, by omega, rfl, by go_num, by rw [HSU.out, ← List.append_assoc, sCells_snoc]; exact HO6.out, HB5.out.grown HG6.out (by omega) (fun q hq => (HP5.out.lt q hq).1)⟩
          · obtain rfl : k = gl.length := by omega
            have hO := HP.out
            rw [List.take_length] at hO
            obtain ⟨g, cap, hv, hg0, hg1, hcap, hcc⟩ := sown_form hO (by omega)
            clear hO
            subst hv
            have hwd : exitWords (Exi.l ⟨tl, gl, A, B, c, d⟩) = kwOut :: ((tl.map numI) ++ [[58]]) ++ gl.map numI := by
              unfold exitWords Exi.l
              simp only [if_neg HN.out]
              simp
            have hwl : (exitWords (Exi.l ⟨tl, gl, A, B, c, d⟩)).length = 1 + tl.length + 1 + gl.length := by rw [hwd]; simp; omega
            have hj := join_any (exitWords (Exi.l ⟨tl, gl, A, B, c, d⟩)) (by have := HL.out.1; omega) (by have := HL.out.2; exact Nat.le_trans this (by omega)) g cap wr hg1 (by omega) (by rw [hwd]; exact hcc)
            rw [hwl] at hj
            have HX := Lib.hid (show exitLine (Exi.l ⟨tl, gl, A, B, c, d⟩) = Lib.join (kwOut :: (tl.map numI ++ [58] :: gl.map numI)) [32] from by unfold exitLine; rw [hwd]; simp)
            have HJ := Lib.hid hj; clear hj hcc
            go_wp2_with (go_at_call 54; refine HJ.out.mono ?_; rintro e w7 ⟨rfl, hb7⟩)
            go_ret
            exact ⟨by rw [HX.out]; rfl, below_box ((HC.out.trans (Below.mono ‹Below wr.heap.size wr _› (by omega))).mono (by simp))⟩
end Go.Proofs.YtmnbgamnbgdnnaaGreatDoor
