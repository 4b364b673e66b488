/- Contracts and plain laws of chapter 12, merged: CirU CirV CirW CirX CirY CirZ. -/
import Derived.Test.YtmnbgamnbgdnnaaGreatDoorMd
import Derived.Test.YtmnbgamnbgdnnaaGreatDoorShelfB
import Derived.Deep.AppendLies
import Derived.Shelf.Strings.Split
/- Contract of circ.slots: the line of a circuit's slots. -/
namespace Go.Proofs.YtmnbgamnbgdnnaaGreatDoor
open Go.RowKit

section
variable {P : Program} {ops : Array Oper} {rest : List Oper} {o : Oper} {a : Act} {Q : Exit → Act → World → Prop}
/-- One element of several cells is appended to a row of the call's own: the element's box has just been laid. -/
theorem app_cells {W : World} (base : Nat) (hgd : o.guard = none) (s x : Operand) (t e : TypeId) (z : Value) (size bytes : Nat)
    (ho : o.op = .call { callee := .builtin .append, args := #[s, x], argTypes := #[t, t] })
    (ht : P.underlying t = some (.slice e)) (hinfo : (P.info? e).map (fun i => (i.zero, i.size, i.bytes)) = some (some z, size, bytes)) (hz : z.cells.size = size) (hs0 : 0 < size) (hb0 : 0 < bytes)
    (v : Value) (n : Nat) (xs ys : List Value) (hs : a.eval s = v) (g : Nat) (hx : a.eval x = .slice (some ⟨g, 0, none⟩) 1 1) (hg0 : W.heap.size = g) (hys : ys.length = size) (h1 : ∀ u ∈ ys, u.oneCell' = true)
    (HO : W.ownsRow base e size v n xs) (hbase : base ≤ W.heap.size) (hl : (n + 1) * bytes ≤ 140737488355328)
    (h : ∀ v1 w1, w1.ownsRow base e size v1 (n + 1) (xs ++ ys) → W.grownBy w1 v.ownBlock → wpList P ops Q rest (a.put o.dst v1) w1) :
    wpList P ops Q (o :: rest) a (W.alloc (.cells ys.toArray e)) := by
  obtain ⟨i0, hi, hzz⟩ := Option.map_eq_some_iff.1 hinfo
  simp only [Prod.mk.injEq] at hzz
  obtain ⟨hz0, hz1, hz2⟩ := hzz
  subst hg0
  have hlen : n + 1 ≤ 140737488355328 := Nat.le_trans (Nat.le_mul_of_pos_right _ hb0) hl
  exact wpList_append_own (W.alloc (.cells ys.toArray e)) hgd s x t ho base e i0 z size bytes ht hi hz0 hz1 hz2 hz hs0 v n xs hs (HO.alloc _) ⟨W.heap.size, 0, none⟩ 1 1 ys hx (by rw [hys]; simp)
    (by simpa using World.news_of_block (cs := ys.toArray) (t := e) (fr := (0, 0)) (heap_alloc_new W (.cells ys.toArray e))) h1 (by simp only [maxLen]; omega) hl (by simp; omega)
    fun v1 w1 hown hg _ => h v1 w1 hown (World.grownBy.trans (World.grownBy_alloc W _ _) hg)
end


theorem infoStr : (Tryz.prog.info? 9).map (fun i => (i.zero, i.size, i.bytes)) = some (some (.string ⟨#[]⟩), 1, 16) := by kernel_rfl
def sCells (l : List Bs) : List Value := l.map fun x => Value.string ⟨x.toArray⟩
theorem ba_eq {s : ByteArray} {l : Bs} (h : s.data.toList = l) : s = ⟨l.toArray⟩ := by subst h; cases s; simp
theorem ba_size {s : ByteArray} {l : Bs} (h : s.data.toList = l) : s.size = l.length := by rw [← h, data_len]
theorem small_num {n : Int} (h : 1 ≤ n ∧ n ≤ 13) : (numI n).length ≤ 2 := (dec_facts 1 n.toNat (by omega)).1
theorem slotLine_succ (l : List Slo) (k : Nat) (h : k < l.length) : slotLine (l.take (k + 1)) = slotLine (l.take k) ++ slotText l[k] := by
  unfold slotLine
  rw [List.take_succ_eq_append_getElem h, List.flatMap_append, List.append_assoc]
  simp
theorem cat_data (a b : ByteArray) : (a ++ b).data.toList = a.data.toList ++ b.data.toList := by simp
theorem slotLine_len (l : List Slo) (hx : ∀ x ∈ l, 1 ≤ x.1 ∧ x.1 ≤ 13) : ∀ k, k ≤ l.length → (slotLine (l.take k)).length ≤ 5 + 4 * k := by
  intro k
  induction k with
  | zero => intro _; simp [slotLine, kwSlots]
  | succ k ih =>
    intro h
    have h1 := ih (by omega)
    have h2 := small_num (hx l[k] (List.getElem_mem (by omega)))
    rw [slotLine_succ l k (by omega), List.length_append]
    simp only [slotText, List.length_cons]
    omega
set_option maxRecDepth 100000 in
theorem slots_any (l : List Slo) (hl : l.length ≤ 256) (hx : ∀ x ∈ l, 1 ≤ x.1 ∧ x.1 ≤ 13) (A : Option Addr) (c : Nat) (w : World) (hR : Reads w A (sloCells l)) :
    Calls Tryz.prog 53 #[.slice A l.length c] w (SPost (slotLine l) w) := by
  have HR := Lib.hid hR; clear hR
  have HX := Lib.hid hx
  have HI := Lib.hid (fun (i : Nat) (h : i < 100) W => Tryz.strconv_Itoa_small i h W)
  go_enter Tryz.func53, Tryz.ntmps53
  go_wp2
  go_loopg [3, 9] l.length (fun g s v wr => ∃ (k : Nat) (t : ByteArray), k ≤ l.length ∧ g = l.length - k ∧ v = .int .i64 k ∧ s = .string t ∧ Hid (t.data.toList = slotLine (l.take k)) ∧ Below w.heap.size w wr)
  case atStart => exact ⟨0, ⟨#[115, 108, 111, 116, 115]⟩, Nat.zero_le _, rfl, rfl, rfl, rfl, Below.refl _ _⟩
  case round =>
    obtain ⟨k, t, hk, rfl, rfl, rfl, ht, hbel⟩ := hrel
    have HB := Lib.hid hbel; clear hbel
    have hts := ba_size ht.out
    have hb := slotLine_len l HX.out k hk
    by_cases hlt : k < l.length
    · obtain ⟨ad, rfl, q0, q1⟩ := (HR.out.below HB.out).slo k hlt
      have hin := HX.out _ (List.getElem_mem hlt)
      have hsu := slotLine_succ l k hlt
      have hsm := small_num hin
      have HSU := Lib.hid hsu; clear hsu
      rw [hts.symm] at hb
      clear hts
      generalize l[k] = x at q0 q1 hin HSU hsm
      obtain ⟨n, b⟩ := x
      obtain ⟨n, rfl⟩ : ∃ u : Nat, n = u := ⟨n.toNat, by simp only at hin; omega⟩
      simp only at q0 q1 hin hsm
      have hIt := HI.out n (by omega)
      have HIT := Lib.hid hIt; clear hIt
      have hsz : (Lib.decDigits n).length ≤ 2 := hsm
      cases b
      · go_wp2_with (go_at_call 85; refine (HIT.out _).mono ?_; rintro e w1 ⟨rfl, rfl⟩)
        go_roundg (l.length - (k + 1))
        case measure => omega
        case rel => exact ⟨k + 1, _, by omega, rfl, by go_num, rfl, by rw [HSU.out, cat_data, cat_data, ht.out]; rfl, HB.out.alloc HB.out.size _⟩
      · go_wp2_with (go_at_call 85; refine (HIT.out _).mono ?_; rintro e w1 ⟨rfl, rfl⟩)
        go_roundg (l.length - (k + 1))
        case measure => omega
        case rel => exact ⟨k + 1, _, by omega, rfl, by go_num, rfl, by rw [HSU.out, cat_data, cat_data, ht.out]; rfl, HB.out.alloc HB.out.size _⟩
    · obtain rfl : k = l.length := by omega
      have h := ba_eq ht.out
      rw [List.take_length] at h
      have HE := Lib.hid h; clear h hb hts
      go_wp2
      go_ret
      exact ⟨by rw [HE.out]; rfl, HB.out⟩
end Go.Proofs.YtmnbgamnbgdnnaaGreatDoor

/- Contract of circ.told: an exit's line. -/
namespace Go.Proofs.YtmnbgamnbgdnnaaGreatDoor
open Go.RowKit

theorem sCells_succ (l : List Int) (k : Nat) (h : k < l.length) : (l.take (k + 1)).map numI = (l.take k).map numI ++ [numI l[k]] := by
  rw [List.take_succ_eq_append_getElem h, List.map_append]; rfl
theorem sCells_snoc (l : List Bs) (x : Bs) : sCells (l ++ [x]) = sCells l ++ [.string ⟨x.toArray⟩] := by simp [sCells]
theorem sown_form {w : World} {base : Nat} {n : Nat} {v : Value} {l : List Bs} (h : w.ownsRow base 9 1 v n (sCells l)) (hn : 0 < n) :
    ∃ g cap, v = .slice (some ⟨g, 0, none⟩) n cap ∧ base ≤ g ∧ g < w.heap.size ∧ n ≤ cap ∧ ∀ j x, (l.map fun y => (⟨y.toArray⟩ : ByteArray))[j]? = some x → w.cell? ⟨g, 0 + j, none⟩ = some (.string x) := by
  rcases h.2 with ⟨_, h0⟩ | ⟨g, cap, cur, rfl, hb, r⟩
  · omega
  · refine ⟨g, cap, rfl, hb, (h.lt g rfl).2, r.2.1, fun j x hx => ?_⟩
    have := h.cells (g := g) rfl j (.string x) (by
      unfold sCells
      rw [List.getElem?_map] at hx ⊢
      cases e : l[j]? with
      | none => rw [e] at hx; cases hx
      | some y => rw [e] at hx; injection hx with hx; subst hx; rfl)
    rwa [show (⟨g, 0, none⟩ : Addr).add j = ⟨g, 0 + j, none⟩ by rw [Nat.zero_add]; unfold Addr.add; split <;> simp_all] at this
theorem join_mk (l : List Bs) : ((l.map fun y => (⟨y.toArray⟩ : ByteArray)).map fun x => x.data.toList) = l := by
  rw [List.map_map]
  conv => rhs; rw [← List.map_id l]
  exact List.map_congr_left fun x _ => by simp
/-- strings.Join of a row of words. -/
theorem join_any (l : List Bs) (hn : l.length ≤ 140737488355328) (hl : (Lib.join l [32]).length ≤ 140737488355328) (g cap : Nat) (w : World) (hg : g < w.heap.size) (hcap : l.length ≤ cap)
    (hc : ∀ j x, (l.map fun y => (⟨y.toArray⟩ : ByteArray))[j]? = some x → w.cell? ⟨g, 0 + j, none⟩ = some (.string x)) :
    Calls Tryz.prog 54 #[.slice (some ⟨g, 0, none⟩) l.length cap, .string ⟨#[32]⟩] w (SPost (Lib.join l [32]) w) := by
  have h := Tryz.strings_Join g 0 cap (l.map fun y => (⟨y.toArray⟩ : ByteArray)) ⟨#[32]⟩ w hc hg (by simpa using hn) (by simpa using hcap) (by rw [join_mk]; exact hl)
  rw [join_mk, List.length_map] at h
  exact h
theorem num_len {n : Int} (h : 0 ≤ n ∧ n < 1000000000) : (numI n).length ≤ 9 := dec_nine (by omega)
theorem spaced_len (l : List Bs) (m : Nat) (h : ∀ x ∈ l, x.length ≤ m) : (spaced l).length ≤ l.length * (m + 1) := by
  induction l with
  | nil => simp [spaced]
  | cons x r ih =>
    have h1 := ih fun y hy => h y (List.mem_cons_of_mem _ hy)
    have h2 := h x (List.mem_cons_self ..)
    have e : spaced (x :: r) = 32 :: (x ++ spaced r) := by simp [spaced]
    rw [e, List.length_cons, List.length_append, List.length_cons, Nat.succ_mul]
    omega
theorem exit_len {p : Nat} {L : Lis} (h : Fine p L) (x : ExL) (hx : x ∈ L.2.2) : (exitWords x).length ≤ 1040 ∧ (exitLine x).length ≤ 12000 := by
  obtain ⟨h1, h2, h3, h4⟩ := h.x x hx
  have hn : (if x.1 = [] then [kwAll] else x.1.map numI).length ≤ 13 := by split <;> simp; omega
  have hl : (exitWords x).length ≤ 1040 := by
    unfold exitWords
    simp only [List.length_cons, List.length_append, List.length_map]
    omega
  refine ⟨hl, ?_⟩
  unfold exitLine
  have hw : ∀ w ∈ exitWords x, w.length ≤ 9 := by
    intro w hw
    unfold exitWords at hw
    rcases List.mem_cons.1 hw with e | e
    · subst e; decide
    · rcases List.mem_append.1 e with e | e
      · split at e
        · have := List.mem_singleton.1 e
          subst this; decide
        · obtain ⟨n, hn, rfl⟩ := List.mem_map.1 e
          have := h1 n hn
          exact num_len (by omega)
      · rcases List.mem_cons.1 e with e | e
        · subst e; decide
        · obtain ⟨n, hn, rfl⟩ := List.mem_map.1 e
          have := h2 n hn
          exact num_len (by omega)
  generalize exitWords x = W at hl hw
  cases W with
  | nil => simp [Lib.join_nil]
  | cons y r =>
    have h5 := spaced_len r 9 fun z hz => hw z (List.mem_cons_of_mem _ hz)
    have h6 := hw y (List.mem_cons_self ..)
    rw [join_spaced, List.length_append]
    simp only [List.length_cons] at hl
    omega
theorem own_one (w : World) (e : TypeId) (u : Value) : (w.alloc (.cells #[u] e)).ownsRow w.heap.size e 1 (.slice (some ⟨w.heap.size, 0, none⟩) 1 1) 1 [u] :=
  ⟨rfl, .inr ⟨w.heap.size, 1, #[u], rfl, Nat.le_refl _, heap_alloc_new w _, Nat.le_refl _, by decide, rfl, rfl⟩⟩
set_option maxHeartbeats 1000000 in
set_option maxRecDepth 100000 in
theorem told_any (x : Exi) (h1 : ∀ i ∈ x.tl, 1 ≤ i ∧ i ≤ 13) (h2 : ∀ i ∈ x.gl, 0 ≤ i ∧ i < 65536) (hn1 : x.tl.length ≤ 13) (hn2 : x.gl.length ≤ 1024) (hlen : (exitWords x.l).length ≤ 1040 ∧ (exitLine x.l).length ≤ 12000)
    (w : World) (htab : PowTab w) (hA : Reads w x.A (iCells x.tl)) (hB : Reads w x.B (iCells x.gl)) :
    Calls Tryz.prog 56 #[.agg #[.slice x.A x.tl.length x.c, .slice x.B x.gl.length x.d]] w (SPost (exitLine x.l) w) := by
  have HA := Lib.hid hA; clear hA
  have HBB := Lib.hid hB; clear hB
  have HT := Lib.hid htab; clear htab
  have H1 := Lib.hid h1; clear h1
  have H2 := Lib.hid h2; clear h2
  have HL := Lib.hid hlen; clear hlen
  obtain ⟨tl, gl, A, B, c, d⟩ := x
  simp only at HA HBB H1 H2 hn1 hn2 ⊢
  go_enter Tryz.func56, Tryz.ntmps56
  go_wp2
  go_loopg [3, 12] tl.length (fun g l i wr => ∃ k : Nat, k ≤ tl.length ∧ g = tl.length - k ∧ i = .int .i64 k ∧ wr.ownsRow (w.heap.size + 1) 9 1 l (1 + k) (sCells (kwOut :: (tl.take k).map numI)) ∧ Below (w.heap.size + 1) (w.alloc (.cells #[.slice A tl.length c, .slice B gl.length d] 72)) wr)
  case atStart => exact ⟨0, by omega, rfl, rfl, by simpa [sCells, kwOut] using own_one (w.alloc (.cells #[.slice A tl.length c, .slice B gl.length d] 72)) 9 (.string ⟨#[111, 117, 116]⟩), (Below.refl _ _).alloc (by simp) _⟩
  case round =>
    obtain ⟨k, hk, rfl, rfl, hown, hbel⟩ := hrel
    have HO := Lib.hid hown; clear hown
    have HB := Lib.hid hbel; clear hbel
    have hszr := HB.out.size
    simp at hszr
    by_cases hlt : k < tl.length
    · obtain ⟨ad, rfl, q0⟩ := (HA.out.below ((Below.refl w.heap.size w).alloc (Nat.le_refl _) _ |>.trans (HB.out.mono (by omega)))).i k hlt
      have hin := H1.out _ (List.getElem_mem hlt)
      have HSU := Lib.hid (sCells_succ tl k hlt)
      generalize tl[k] = n at q0 hin HSU
      obtain ⟨n, rfl⟩ : ∃ u : Nat, n = u := ⟨n.toNat, by omega⟩
      have HIT := Lib.hid (fun W => Tryz.strconv_Itoa_small n (by omega) W)
      go_wp2_with (first | (go_at_call 85; refine (HIT.out _).mono ?_; rintro e w1 ⟨rfl, rfl⟩) | (at_builtin; refine app_cells (w.heap.size + 1) rfl _ _ 94 9 _ 1 16 rfl Tryz.underlying94 infoStr rfl (by decide) (by decide) u3 (1 + k) _ [.string ⟨(Lib.decDigits n).toArray⟩] rfl _ rfl rfl rfl (by intro u hu; simp at hu; subst hu; rfl) HO.out (by omega) (by omega) ?_; intro v3 w3 hown3 hg3; have HO3 := Lib.hid hown3; clear hown3; have HG3 := Lib.hid hg3; clear hg3))
      go_roundg (tl.length - (k + 1))
      case measure => omega
      case rel => exact ⟨k + 1, by omega, rfl, by go_num, by rw [HSU.out, ← List.cons_append, sCells_snoc]; exact HO3.out, HB.out.grown HG3.out (by omega) (fun q hq => (HO.out.lt q hq).1)⟩
    · obtain rfl : k = tl.length := by omega
      have c0 := HB.out.cell (p := ⟨w.heap.size, 0, none⟩) (by simp)
      have c1 := HB.out.cell (p := ⟨w.heap.size, 1, none⟩) (by simp)
      simp at c0 c1
      by_cases h0 : tl.length = 0
      · have hO0 := h0
        obtain rfl : tl = [] := List.eq_nil_of_length_eq_zero h0
        simp only [List.length_nil] at HO hO0 HB c0 c1 ⊢
        go_wp2_with (first | (at_builtin; refine app_cells (w.heap.size + 1) rfl _ _ 94 9 _ 1 16 rfl Tryz.underlying94 infoStr rfl (by decide) (by decide) u3 (1 + 0) _ [.string ⟨#[97, 108, 108]⟩] rfl _ rfl rfl rfl (by intro u hu; simp at hu; subst hu; rfl) HO.out (by omega) (by omega) ?_; intro v3 w3 hown3 hg3; have HO3 := Lib.hid hown3; clear hown3; have HB3 := Lib.hid (HB.out.grown hg3 (by omega) (fun q hq => (HO.out.lt q hq).1)); clear hg3; have c1 := HB3.out.cell (p := ⟨w.heap.size, 1, none⟩) (by simp); simp at c1; have sz3 := HB3.out.size; simp at sz3) | (at_builtin; refine app_cells (w.heap.size + 1) rfl _ _ 94 9 _ 1 16 rfl Tryz.underlying94 infoStr rfl (by decide) (by decide) v3 (1 + 1) _ [.string ⟨#[58]⟩] rfl _ rfl rfl rfl (by intro u hu; simp at hu; subst hu; rfl) HO3.out (by omega) (by omega) ?_; intro v4 w4 hown3 hg3; have HO4 := Lib.hid hown3; clear hown3; have HB4 := Lib.hid (HB3.out.grown hg3 (by omega) (fun q hq => (HO3.out.lt q hq).1)); clear hg3; have c1 := HB4.out.cell (p := ⟨w.heap.size, 1, none⟩) (by simp); simp at c1; have sz4 := HB4.out.size; simp at sz4))
        have HW := Lib.hid (show sCells (kwOut :: ([kwAll] ++ [[58]])) = (sCells (kwOut :: (([] : List Int).take 0).map numI) ++ [.string ⟨#[97, 108, 108]⟩]) ++ [.string ⟨#[58]⟩] from by simp [sCells, kwAll])
        go_loopg [3, 35] gl.length (fun g l i wr => ∃ k : Nat, k ≤ gl.length ∧ g = gl.length - k ∧ i = .int .i64 k ∧ wr.ownsRow (w.heap.size + 1) 9 1 l (1 + 1 + 1 + k) (sCells (kwOut :: ([kwAll] ++ [[58]]) ++ (gl.take k).map numI)) ∧ Below (w.heap.size + 1) (w.alloc (.cells #[.slice A ([] : List Int).length c, .slice B gl.length d] 72)) wr)
        case atStart => exact ⟨0, by omega, rfl, rfl, by rw [List.take_zero, List.map_nil, List.append_nil, HW.out]; exact HO4.out, HB4.out⟩
        case round =>
          obtain ⟨k, hk, rfl, rfl, hown, hbel⟩ := hrel
          have HP := Lib.hid hown; clear hown
          have HC := Lib.hid hbel; clear hbel
          have hszq := HC.out.size
          simp at hszq
          by_cases hlt : k < gl.length
          · obtain ⟨ad, rfl, q0⟩ := (HBB.out.below ((Below.refl w.heap.size w).alloc (Nat.le_refl _) _ |>.trans (HC.out.mono (by omega)))).i k hlt
            have hin := H2.out _ (List.getElem_mem hlt)
            have HSU := Lib.hid (sCells_succ gl k hlt)
            generalize gl[k] = n at q0 hin HSU
            have HIT := Lib.hid (fun W h => itoa_any n (by omega) (by omega) W h)
            have HT1 : Hid (PowTab wr) := Lib.hid (HT.out.below ((Below.refl w.heap.size w).alloc (Nat.le_refl _) _ |>.trans (HC.out.mono (by omega))))
            clear hin
            go_wp2_with (first | (go_at_call 85; refine (HIT.out _ HT1.out).mono ?_; rintro e w5 ⟨rfl, hb5⟩; have sz5 := hb5.size; have HP5 := Lib.hid (own_below HP.out hb5); have HB5 := Lib.hid (HC.out.trans (hb5.mono (by omega))); clear hb5) | (at_builtin; refine app_cells (w.heap.size + 1) rfl _ _ 94 9 _ 1 16 rfl Tryz.underlying94 infoStr rfl (by decide) (by decide) u3 (1 + 1 + 1 + k) _ [.string ⟨(numI n).toArray⟩] rfl _ rfl rfl rfl (by intro u hu; simp at hu; subst hu; rfl) HP5.out (by omega) (by omega) ?_; intro v6 w6 hown3 hg3; have HO6 := Lib.hid hown3; clear hown3; have HG6 := Lib.hid hg3; clear hg3))
            go_roundg (gl.length - (k + 1))
            case measure => omega
            case rel => exact ⟨k + 1, by omega, rfl, by go_num, by rw [HSU.out, ← List.append_assoc, sCells_snoc]; exact HO6.out, HB5.out.grown HG6.out (by omega) (fun q hq => (HP5.out.lt q hq).1)⟩
          · obtain rfl : k = gl.length := by omega
            have hO := HP.out
            rw [List.take_length] at hO
            obtain ⟨g, cap, hv, hg0, hg1, hcap, hcc⟩ := sown_form hO (by omega)
            clear hO
            subst hv
            have hwd : exitWords (Exi.l ⟨([] : List Int), gl, A, B, c, d⟩) = kwOut :: ([kwAll] ++ [[58]]) ++ gl.map numI := by
              unfold exitWords Exi.l
              simp only [if_true]
              simp
            have hwl : (exitWords (Exi.l ⟨([] : List Int), gl, A, B, c, d⟩)).length = 1 + 1 + 1 + gl.length := by rw [hwd]; simp; omega
            have hj := join_any (exitWords (Exi.l ⟨([] : List Int), gl, A, B, c, d⟩)) (by have := HL.out.1; omega) (by have := HL.out.2; exact Nat.le_trans this (by omega)) g cap wr hg1 (by omega) (by rw [hwd]; exact hcc)
            rw [hwl] at hj
            have HJ := Lib.hid hj; clear hj hcc
            go_wp2_with (go_at_call 54; refine HJ.out.mono ?_; rintro e w7 ⟨rfl, hb7⟩)
            go_ret
            exact ⟨rfl, below_box ((HC.out.trans (Below.mono ‹Below wr.heap.size wr _› (by omega))).mono (by simp))⟩
      · have hN : ¬ tl = [] := fun e => h0 (by rw [e]; rfl)
        have HN := Lib.hid hN; clear hN
        have hO := HO.out
        rw [List.take_length] at hO
        clear HO
        have HO := Lib.hid hO; clear hO
        go_wp2_with (first | (at_builtin; refine app_cells (w.heap.size + 1) rfl _ _ 94 9 _ 1 16 rfl Tryz.underlying94 infoStr rfl (by decide) (by decide) u3 (1 + tl.length) _ [.string ⟨#[58]⟩] rfl _ rfl rfl rfl (by intro u hu; simp at hu; subst hu; rfl) HO.out (by omega) (by omega) ?_; intro v3 w3 hown3 hg3; have HO3 := Lib.hid hown3; clear hown3; have HB3 := Lib.hid (HB.out.grown hg3 (by omega) (fun q hq => (HO.out.lt q hq).1)); clear hg3; have c1 := HB3.out.cell (p := ⟨w.heap.size, 1, none⟩) (by simp); simp at c1; have sz3 := HB3.out.size; simp at sz3))
        have HW := Lib.hid (show sCells (kwOut :: ((tl.map numI) ++ [[58]])) = sCells (kwOut :: tl.map numI) ++ [.string ⟨#[58]⟩] from by simp [sCells])
        go_loopg [3, 35] gl.length (fun g l i wr => ∃ k : Nat, k ≤ gl.length ∧ g = gl.length - k ∧ i = .int .i64 k ∧ wr.ownsRow (w.heap.size + 1) 9 1 l (1 + tl.length + 1 + k) (sCells (kwOut :: ((tl.map numI) ++ [[58]]) ++ (gl.take k).map numI)) ∧ Below (w.heap.size + 1) (w.alloc (.cells #[.slice A tl.length c, .slice B gl.length d] 72)) wr)
        case atStart => exact ⟨0, by omega, rfl, rfl, by rw [List.take_zero, List.map_nil, List.append_nil, HW.out]; exact HO3.out, HB3.out⟩
        case round =>
          obtain ⟨k, hk, rfl, rfl, hown, hbel⟩ := hrel
          have HP := Lib.hid hown; clear hown
          have HC := Lib.hid hbel; clear hbel
          have hszq := HC.out.size
          simp at hszq
          by_cases hlt : k < gl.length
          · obtain ⟨ad, rfl, q0⟩ := (HBB.out.below ((Below.refl w.heap.size w).alloc (Nat.le_refl _) _ |>.trans (HC.out.mono (by omega)))).i k hlt
            have hin := H2.out _ (List.getElem_mem hlt)
            have HSU := Lib.hid (sCells_succ gl k hlt)
            generalize gl[k] = n at q0 hin HSU
            have HIT := Lib.hid (fun W h => itoa_any n (by omega) (by omega) W h)
            have HT1 : Hid (PowTab wr) := Lib.hid (HT.out.below ((Below.refl w.heap.size w).alloc (Nat.le_refl _) _ |>.trans (HC.out.mono (by omega))))
            clear hin
            go_wp2_with (first | (go_at_call 85; refine (HIT.out _ HT1.out).mono ?_; rintro e w5 ⟨rfl, hb5⟩; have sz5 := hb5.size; have HP5 := Lib.hid (own_below HP.out hb5); have HB5 := Lib.hid (HC.out.trans (hb5.mono (by omega))); clear hb5) | (at_builtin; refine app_cells (w.heap.size + 1) rfl _ _ 94 9 _ 1 16 rfl Tryz.underlying94 infoStr rfl (by decide) (by decide) u3 (1 + tl.length + 1 + k) _ [.string ⟨(numI n).toArray⟩] rfl _ rfl rfl rfl (by intro u hu; simp at hu; subst hu; rfl) HP5.out (by omega) (by omega) ?_; intro v6 w6 hown3 hg3; have HO6 := Lib.hid hown3; clear hown3; have HG6 := Lib.hid hg3; clear hg3))
            go_roundg (gl.length - (k + 1))
            case measure => omega
            case rel => exact ⟨k + 1, by omega, rfl, by go_num, by rw [HSU.out, ← List.append_assoc, sCells_snoc]; exact HO6.out, HB5.out.grown HG6.out (by omega) (fun q hq => (HP5.out.lt q hq).1)⟩
          · obtain rfl : k = gl.length := by omega
            have hO := HP.out
            rw [List.take_length] at hO
            obtain ⟨g, cap, hv, hg0, hg1, hcap, hcc⟩ := sown_form hO (by omega)
            clear hO
            subst hv
            have hwd : exitWords (Exi.l ⟨tl, gl, A, B, c, d⟩) = kwOut :: ((tl.map numI) ++ [[58]]) ++ gl.map numI := by
              unfold exitWords Exi.l
              simp only [if_neg HN.out]
              simp
            have hwl : (exitWords (Exi.l ⟨tl, gl, A, B, c, d⟩)).length = 1 + tl.length + 1 + gl.length := by rw [hwd]; simp; omega
            have hj := join_any (exitWords (Exi.l ⟨tl, gl, A, B, c, d⟩)) (by have := HL.out.1; omega) (by have := HL.out.2; exact Nat.le_trans this (by omega)) g cap wr hg1 (by omega) (by rw [hwd]; exact hcc)
            rw [hwl] at hj
            have HX := Lib.hid (show exitLine (Exi.l ⟨tl, gl, A, B, c, d⟩) = Lib.join (kwOut :: (tl.map numI ++ [58] :: gl.map numI)) [32] from by unfold exitLine; rw [hwd]; simp)
            have HJ := Lib.hid hj; clear hj hcc
            go_wp2_with (go_at_call 54; refine HJ.out.mono ?_; rintro e w7 ⟨rfl, hb7⟩)
            go_ret
            exact ⟨by rw [HX.out]; rfl, below_box ((HC.out.trans (Below.mono ‹Below wr.heap.size wr _› (by omega))).mono (by simp))⟩
end Go.Proofs.YtmnbgamnbgdnnaaGreatDoor

/- Contract of circ.Write. -/
namespace Go.Proofs.YtmnbgamnbgdnnaaGreatDoor
open Go.RowKit

theorem isB_below {B b : Nat} {bs : List Value} {w w' : World} (h : Lib.IsBuilder 85 5 B b bs w) (hb : Below w.heap.size w w') : Lib.IsBuilder 85 5 B b bs w' := by
  have key : ∀ p, Lib.BuilderAt 85 5 B b p bs w → Lib.BuilderAt 85 5 B b p bs w' := fun p h => by
    have hlt := h.lt
    obtain ⟨h1, v, h2, h3, h4⟩ := h
    exact ⟨h1, v, (hb.block b hlt).trans h2, own_below h3 hb, h4⟩
  exact h.elim (fun x => .inl (key _ x)) (fun x => .inr (key _ x))
theorem str_bytes (l : Bs) : Lib.strCells ⟨l.toArray⟩ = Lib.byteCells l := by simp [Lib.strCells, Lib.byteCells]
theorem bytes_app (l k : Bs) : Lib.byteCells (l ++ k) = Lib.byteCells l ++ Lib.byteCells k := by simp [Lib.byteCells]
/-- The builder at b holds this text. -/
def Bld (B b : Nat) (l : Bs) (w : World) : Prop := Lib.IsBuilder 85 5 B b (Lib.byteCells l) w
def LPost (B b : Nat) (l : Bs) (w : World) (e : Ending) (w' : World) : Prop := e = .returned (.tuple #[]) ∧ Bld B b l w' ∧ Below B w w'
set_option maxRecDepth 100000 in
theorem line_any (B b : Nat) (l s : Bs) (w : World) (h : Bld B b l w) (hlen : l.length + (s.length + 1) ≤ 140737488355328) (hB : B ≤ w.heap.size) :
    Calls Tryz.prog 50 #[.string ⟨s.toArray⟩, .pointer (some ⟨b, 0, none⟩)] w (LPost B b (l ++ (s ++ [10])) w) := by
  have h1 := Tryz.Builder_WriteString B b (Lib.byteCells l) ⟨s.toArray⟩ w h (by rw [Lib.byteCells_length, show (⟨s.toArray⟩ : ByteArray).size = s.length from rfl]; omega) hB
  rw [str_bytes, ← bytes_app] at h1
  have H1 := Lib.hid h1; clear h1 h
  have H2 := Lib.hid (fun W (h : Lib.IsBuilder 85 5 B b (Lib.byteCells (l ++ s)) W) (hW : B ≤ W.heap.size) => Tryz.Builder_WriteByte B b (Lib.byteCells (l ++ s)) 10 W h (by rw [Lib.byteCells_length, List.length_append]; omega) hW)
  go_enter Tryz.func50, Tryz.ntmps50
  go_wp2_with (first | (go_at_call 51; refine H1.out.mono ?_; rintro e w1 ⟨rfl, hb1, hbe1⟩; have HB1 := Lib.hid hb1; clear hb1; have HE1 := Lib.hid hbe1; clear hbe1; have hw1 : B ≤ w1.heap.size := (by have := HE1.out.size; omega)) | (go_at_call 52; refine (H2.out _ (.inr HB1.out) hw1).mono ?_; rintro e w2 ⟨rfl, hb2, hbe2⟩; have HB2 := Lib.hid hb2; clear hb2; have HE2 := Lib.hid hbe2; clear hbe2))
  go_end0
  refine ⟨rfl, .inr ?_, HE1.out.trans HE2.out⟩
  rw [← List.append_assoc, bytes_app]
  exact HB2.out

theorem strs_cells {w : World} {N : Nat} {l : List Bs} (h : Strs w N l) : N < w.heap.size ∧ ∀ j x, (l.map fun y => (⟨y.toArray⟩ : ByteArray))[j]? = some x → w.cell? ⟨N, 0 + j, none⟩ = some (.string x) := by
  unfold Strs at h
  refine ⟨(Array.getElem?_eq_some_iff.1 h).1, fun j x hx => ?_⟩
  rw [World.cell?, h]
  simp only [Nat.zero_add]
  rw [List.getElem?_map] at hx
  cases e : l[j]? with
  | none => rw [e] at hx; cases hx
  | some y => rw [e] at hx; injection hx with hx; subst hx; simp [e]
theorem ended_succ (l : List Bs) (k : Nat) (x : Bs) (h : l[k]? = some x) : ended (l.take (k + 1)) = ended (l.take k) ++ (x ++ [10]) := by
  rw [List.take_add_one, h]
  exact ended_snoc _ _
theorem ended_len (l : List Bs) (m : Nat) (h : ∀ x ∈ l, x.length ≤ m) : (ended l).length ≤ l.length * (m + 1) := by
  induction l with
  | nil => simp [ended]
  | cons x r ih =>
    have h1 := ih fun y hy => h y (List.mem_cons_of_mem _ hy)
    have h2 := h x (List.mem_cons_self ..)
    have e : ended (x :: r) = (x ++ [10]) ++ ended r := by simp [ended]
    have h3 : (x :: r).length * (m + 1) = r.length * (m + 1) + (m + 1) := Nat.succ_mul _ _
    rw [e, List.length_append, List.length_append, h3]
    simp only [List.length_cons, List.length_nil]
    omega
theorem gate_len {p : Nat} {L : Lis} (h : Fine p L) (g : Gat) (hg : g ∈ L.2.1) : (gateWords g).length ≤ 3 ∧ (gateLine g).length ≤ 12000 := by
  obtain ⟨_, hk, ha, hb, hc⟩ := h.g g hg
  have n1 := num_len (n := g.2.1) (by omega)
  have n2 := num_len (n := g.2.2.1) (by omega)
  have n3 := num_len (n := g.2.2.2) (by omega)
  unfold gateLine gateWords
  repeat' split
  all_goals (rw [join_spaced]; simp [spaced, kwIn, kwConst, kwAdd, kwSub, kwMul, kwScale]; omega)
theorem line_len {p : Nat} {L : Lis} (h : Fine p L) : ∀ x ∈ lineList L, x.length ≤ 12000 := by
  intro x hx
  unfold lineList at hx
  rcases List.mem_cons.1 hx with e | e
  · subst e
    have h1 := slotLine_len L.1 h.s L.1.length (Nat.le_refl _)
    rw [List.take_length] at h1
    have := h.n.1
    omega
  · rcases List.mem_append.1 e with e | e
    · obtain ⟨g, hg, rfl⟩ := List.mem_map.1 e
      exact (gate_len h g hg).2
    · obtain ⟨y, hy, rfl⟩ := List.mem_map.1 e
      exact (exit_len h y hy).2
theorem lines_len {p : Nat} {L : Lis} (h : Fine p L) (k : Nat) : (ended ((lineList L).take k)).length + 12001 ≤ 140737488355328 := by
  have h1 := ended_len ((lineList L).take k) 12000 fun x hx => line_len h x (List.mem_of_mem_take hx)
  have h2 : ((lineList L).take k).length ≤ 69633 := by
    rw [List.length_take]
    have h3 : (lineList L).length = 1 + L.2.1.length + L.2.2.length := by simp [lineList]; omega
    have := h.n
    omega
  have h3 : ((lineList L).take k).length * 12001 ≤ 69633 * 12001 := Nat.mul_le_mul_right _ h2
  omega
theorem line_g (L : Lis) (k : Nat) (h : k < L.2.1.length) : (lineList L)[1 + k]? = some (gateLine L.2.1[k]) := by
  unfold lineList
  rw [show 1 + k = k + 1 by omega, List.getElem?_cons_succ, List.getElem?_append_left (by simpa using h), List.getElem?_map, List.getElem?_eq_getElem h]
  rfl
theorem line_x (L : Lis) (k : Nat) (h : k < L.2.2.length) : (lineList L)[1 + L.2.1.length + k]? = some (exitLine L.2.2[k]) := by
  unfold lineList
  rw [show 1 + L.2.1.length + k = L.2.1.length + k + 1 by omega, List.getElem?_cons_succ, List.getElem?_append_right (by simp), List.length_map, show L.2.1.length + k - L.2.1.length = k by omega, List.getElem?_map, List.getElem?_eq_getElem h]
  rfl
def wrErr (p : Nat) (C : Cir) : Int := if checkErr p C ≠ 0 then checkErr p C else if 4194304 < (textOf C.l).length then 3 else 0
def wrText (p : Nat) (C : Cir) : Bs := if wrErr p C = 0 then textOf C.l else []
def WrPost (p : Nat) (C : Cir) (w : World) (e : Ending) (w' : World) : Prop := e = .returned (.tuple #[.string ⟨(wrText p C).toArray⟩, .int .i64 (wrErr p C)]) ∧ Below w.heap.size w w'
set_option maxRecDepth 100000 in
theorem write_bad (p : Nat) (hp : p < 18446744073709551616) (C : Cir) (w : World) (hC : HoldsC w C) (hbad : checkErr p C ≠ 0) :
    Calls Tryz.prog 21 #[.int .u64 p, .agg #[.slice C.SA C.slots.length C.sc, .slice C.GA C.gates.length C.gc, .slice C.EA C.exits.length C.ec]] w (WrPost p C w) := by
  have hb0 : Below w.heap.size w (w.alloc (.cells #[.slice C.SA C.slots.length C.sc, .slice C.GA C.gates.length C.gc, .slice C.EA C.exits.length C.ec] 27)) := (Below.refl _ _).alloc (Nat.le_refl _) _
  have hck := check_any p hp C _ (hC.below hb0)
  have h1 : wrErr p C = checkErr p C := by unfold wrErr; rw [if_pos hbad]
  have h2 : wrText p C = [] := by unfold wrText; rw [h1, if_neg hbad]
  have H1 := Lib.hid h1
  have H2 := Lib.hid h2
  clear h1 h2 hb0 hC
  have hz : (checkErr p C == 0) = false := by simpa using hbad
  generalize checkErr p C = er at hck hz H1
  have HCK := Lib.hid hck; clear hck hbad
  go_enter Tryz.func21, Tryz.ntmps21
  go_wp2_with (first | (go_at_call 10; refine HCK.out.mono ?_; rintro e w1 ⟨rfl, hb1⟩; have HB1 := Lib.hid hb1; clear hb1))
  go_ret2
  unfold WrPost
  rw [H1.out, H2.out]
  exact ⟨rfl, below_box HB1.out⟩
set_option maxHeartbeats 4000000 in
set_option maxRecDepth 100000 in
theorem write_ok (p : Nat) (hp : p < 18446744073709551616) (C : Cir) (w : World) (hC : HoldsC w C) (htab : PowTab w) (hok : checkErr p C = 0) :
    Calls Tryz.prog 21 #[.int .u64 p, .agg #[.slice C.SA C.slots.length C.sc, .slice C.GA C.gates.length C.gc, .slice C.EA C.exits.length C.ec]] w (WrPost p C w) := by
  have hb0 : Below w.heap.size w (w.alloc (.cells #[.slice C.SA C.slots.length C.sc, .slice C.GA C.gates.length C.gc, .slice C.EA C.exits.length C.ec] 27)) := (Below.refl _ _).alloc (Nat.le_refl _) _
  have hF : Fine p C.l := fine_of (by rw [check_cl]; exact hok) hC.k
  have HF := Lib.hid hF
  have hck := check_any p hp C _ (hC.below hb0)
  rw [hok] at hck
  have HCK := Lib.hid hck; clear hck
  have HC := Lib.hid (hC.below hb0)
  have HT := Lib.hid (htab.below hb0)
  obtain ⟨n1, n2, n3⟩ := hC.n
  have m1 : C.slots.length ≤ 256 ∧ C.gates.length ≤ 65536 ∧ C.exits.length ≤ 4096 := by have := hF.n; simpa [Cir.l] using this
  have HSL := Lib.hid (fun W h => slots_any C.slots m1.1 hF.s C.SA C.sc W h)
  have HL0 := Lib.hid (lines_len hF)
  have HOK := Lib.hid hok
  clear hC htab hb0 hF hok
  go_enter Tryz.func21, Tryz.ntmps21
  go_wp2_with (first | (go_at_call 10; refine HCK.out.mono ?_; rintro e w1 ⟨rfl, hb1⟩; have c0 := hb1.cell (p := ⟨w.heap.size, 0, none⟩) (by simp); have c1 := hb1.cell (p := ⟨w.heap.size, 1, none⟩) (by simp); have c2 := hb1.cell (p := ⟨w.heap.size, 2, none⟩) (by simp); simp at c0 c1 c2; have hsz1 : w.heap.size < w1.heap.size := (by have h5 := hb1.size; simp at h5; omega); have HB1 := Lib.hid hb1; clear hb1; have HFR := Lib.hid (Lib.fresh_isBuilder 85 5 w1); have HBA := Lib.hid ((Below.refl w1.heap.size w1).alloc (Nat.le_refl _) (.cells #[.pointer none, .slice none 0 0] 85))) | (go_at_call 53; refine (HSL.out _ ((HC.out.below HB1.out).s.below HBA.out)).mono ?_; rintro e w2 ⟨rfl, hb2⟩; have hsz2 := hb2.size; simp at hsz2; have HB2 := Lib.hid hb2; clear hb2) | (go_at_call 50; refine (line_any w1.heap.size w1.heap.size [] (slotLine C.slots) w2 (isB_below HFR.out HB2.out) (by have := HL0.out 1; simp [lineList, ended] at this; simp only [List.length_nil]; have e0 : C.l.1 = C.slots := rfl; rw [e0] at this; omega) (by omega)).mono ?_; rintro e w3 ⟨rfl, hb3, hbe3⟩; have HLB := Lib.hid hb3; clear hb3; have HB3 := Lib.hid (HBA.out.trans ((HB2.out.mono (by simp)).trans hbe3)); clear hbe3; have c1 := (HB3.out.cell (p := ⟨w.heap.size, 1, none⟩) hsz1).trans c1))
  have e0 : slotLine C.slots ++ [10] = ended ((lineList C.l).take (1 + 0)) := by simp [lineList, ended, Cir.l]
  rw [List.nil_append, e0] at HLB
  clear c0 HFR HB2 e0
  go_loopg [28] C.gates.length (fun g i wr => ∃ k : Nat, k ≤ C.gates.length ∧ g = C.gates.length - k ∧ i = .int .i64 k ∧ Bld w1.heap.size w1.heap.size (ended ((lineList C.l).take (1 + k))) wr ∧ Below w1.heap.size w1 wr)
  case atStart => exact ⟨0, by omega, rfl, rfl, HLB.out, HB3.out⟩
  case round =>
    obtain ⟨k, hk, rfl, rfl, hbld, hbel⟩ := hrel
    have HD := Lib.hid hbld; clear hbld
    have HB := Lib.hid hbel; clear hbel
    have hszr := HB.out.size
    clear c1
    by_cases hlt : k < C.gates.length
    · obtain ⟨ad, had, q0, q1, q2, q3⟩ := (((HC.out.below HB1.out).below HB.out).g).gat k hlt
      have hmem : C.gates[k] ∈ C.l.2.1 := List.getElem_mem hlt
      have hwd := fun W h => words_any p C.l HF.out C.gates[k] hmem W h
      obtain ⟨hw3, hg12⟩ := gate_len HF.out C.gates[k] hmem
      have hjn' : ∀ N W, N < W.heap.size → (∀ j x, ((gateWords C.gates[k]).map fun y => (⟨y.toArray⟩ : ByteArray))[j]? = some x → W.cell? ⟨N, 0 + j, none⟩ = some (.string x)) → Calls Tryz.prog 54 #[.slice (some ⟨N, 0, none⟩) (gateWords C.gates[k]).length (gateWords C.gates[k]).length, .string ⟨#[32]⟩] W (SPost (gateLine C.gates[k]) W) := fun N W h1 h2 => join_any (gateWords C.gates[k]) (Nat.le_trans hw3 (by decide)) (Nat.le_trans hg12 (by decide)) N (gateWords C.gates[k]).length W h1 (Nat.le_refl _) h2
      have HSU := Lib.hid (ended_succ (lineList C.l) (1 + k) _ (line_g C.l k hlt))
      have hlk := HL0.out (1 + k)
      have e1 : C.l.2.1[k] = C.gates[k] := rfl
      rw [e1] at HSU
      clear e1
      generalize gateWords C.gates[k] = ws at hwd hjn' hw3
      generalize gateLine C.gates[k] = gl at hjn' HSU hg12
      have HWD := Lib.hid hwd; clear hwd
      have HJN := Lib.hid hjn'; clear hjn'
      have HPT : Hid (PowTab wr) := Lib.hid (((HT.out.below HB1.out).below HB.out))
      have hgb : Below wr.heap.size wr (wr.alloc (.cells #[.int .i64 C.gates[k].1, .int .i64 C.gates[k].2.1, .int .i64 C.gates[k].2.2.1, .int .u64 C.gates[k].2.2.2] 69)) := (Below.refl _ _).alloc (Nat.le_refl _) _
      have HGB := Lib.hid hgb; clear hgb
      rw [had]
      go_wp2_with (first | (go_at_call 55; refine (HWD.out _ (HPT.out.below HGB.out)).mono ?_; rintro e w2 ⟨N, rfl, hst, hb2⟩; have HST := Lib.hid (strs_cells hst); clear hst; have HGB2 := Lib.hid (below_alive HGB.out hb2); clear hb2) | (go_at_call 54; refine (HJN.out _ _ HST.out.1 HST.out.2).mono ?_; rintro e w3 ⟨rfl, hb3⟩; have HGB3 := Lib.hid (HGB2.out.trans (hb3.mono HGB2.out.size)); clear hb3) | (go_at_call 50; refine (line_any w1.heap.size w1.heap.size (ended ((lineList C.l).take (1 + k))) gl w3 (isB_below HD.out HGB3.out) (by omega) (by have := HGB3.out.size; omega)).mono ?_; rintro e w4 ⟨rfl, hb4, hbe4⟩; have HLB4 := Lib.hid hb4; clear hb4; have HB4 := Lib.hid (HB.out.trans ((HGB3.out.mono hszr).trans hbe4)); clear hbe4))
      rw [← had]
      go_roundg (C.gates.length - (k + 1))
      case measure => omega
      case rel => exact ⟨k + 1, by omega, rfl, by go_num, by rw [← Nat.add_assoc, HSU.out]; exact HLB4.out, HB4.out⟩
    · obtain rfl : k = C.gates.length := by omega
      have c2 := (HB.out.cell (p := ⟨w.heap.size, 2, none⟩) hsz1).trans c2
      have hHB := HB
      have hHD : Hid (Bld w1.heap.size w1.heap.size (ended ((lineList C.l).take (1 + C.gates.length + 0))) wr) := HD
      clear HB HD HLB HB3
      go_wp2
      clear c2
      go_loopg [41] C.exits.length (fun g i wr => ∃ k : Nat, k ≤ C.exits.length ∧ g = C.exits.length - k ∧ i = .int .i64 k ∧ Bld w1.heap.size w1.heap.size (ended ((lineList C.l).take (1 + C.gates.length + k))) wr ∧ Below w1.heap.size w1 wr)
      case atStart => exact ⟨0, by omega, rfl, rfl, hHD.out, hHB.out⟩
      case round =>
        obtain ⟨k, hk, rfl, rfl, hbld, hbel⟩ := hrel
        clear hHB hHD
        have HD := Lib.hid hbld; clear hbld
        have HB := Lib.hid hbel; clear hbel
        have hszr := HB.out.size
        by_cases hlt : k < C.exits.length
        · have hCr := (HC.out.below HB1.out).below HB.out
          obtain ⟨ad, had, q0, q1⟩ := hCr.e.exi k hlt
          obtain ⟨rA, rB⟩ := hCr.x _ (List.getElem_mem hlt)
          have hmem : C.exits[k].l ∈ C.l.2.2 := List.mem_map.2 ⟨_, List.getElem_mem hlt, rfl⟩
          obtain ⟨hx1, hx2, hx3, hx4⟩ := HF.out.x _ hmem
          have hxl := exit_len HF.out _ hmem
          have HSU := Lib.hid (ended_succ (lineList C.l) (1 + C.gates.length + k) _ (line_x C.l k (by simpa [Cir.l] using hlt)))
          have e1 : C.l.2.2[k]'(by simpa [Cir.l] using hlt) = C.exits[k].l := by simp [Cir.l]
          rw [e1] at HSU
          have hgb : Below wr.heap.size wr (wr.alloc (.cells #[.slice C.exits[k].A C.exits[k].tl.length C.exits[k].c, .slice C.exits[k].B C.exits[k].gl.length C.exits[k].d] 72)) := (Below.refl _ _).alloc (Nat.le_refl _) _
          have htd := told_any C.exits[k] hx1 hx2 hx4 hx3 hxl _ ((((HT.out.below HB1.out).below HB.out)).below hgb) (rA.below hgb) (rB.below hgb)
          have hlk := HL0.out (1 + C.gates.length + k)
          have hxl2 := hxl.2
          clear e1 hCr rA rB hx1 hx2 hx3 hx4 hxl hmem
          generalize exitLine C.exits[k].l = xl at htd HSU hxl2
          have HTD := Lib.hid htd; clear htd
          have HGB := Lib.hid hgb; clear hgb
          rw [had]
          go_wp2_with (first | (go_at_call 56; refine HTD.out.mono ?_; rintro e w3 ⟨rfl, hb3⟩; have HGB3 := Lib.hid (below_alive HGB.out hb3); clear hb3) | (go_at_call 50; refine (line_any w1.heap.size w1.heap.size (ended ((lineList C.l).take (1 + C.gates.length + k))) xl w3 (isB_below HD.out HGB3.out) (by omega) (by have := HGB3.out.size; omega)).mono ?_; rintro e w4 ⟨rfl, hb4, hbe4⟩; have HLB4 := Lib.hid hb4; clear hb4; have HB4 := Lib.hid (HB.out.trans ((HGB3.out.mono hszr).trans hbe4)); clear hbe4))
          rw [← had]
          go_roundg (C.exits.length - (k + 1))
          case measure => omega
          case rel => exact ⟨k + 1, by omega, rfl, by go_num, by rw [← Nat.add_assoc, HSU.out]; exact HLB4.out, HB4.out⟩
        · obtain rfl : k = C.exits.length := by omega
          have hd := HD.out
          rw [List.take_of_length_le (by simp [lineList, Cir.l]; omega)] at hd
          have hlen := Tryz.Builder_Len w1.heap.size w1.heap.size _ wr hd
          rw [Lib.byteCells_length] at hlen
          have hstr := Tryz.Builder_String_any w1.heap.size w1.heap.size _ wr hd hszr
          have hw1 : wrErr p C = if 4194304 < (textOf C.l).length then 3 else 0 := by unfold wrErr; rw [if_neg (by rw [HOK.out]; simp)]
          have ht : ended (lineList C.l) = textOf C.l := rfl
          rw [ht] at hlen hstr
          have HLN := Lib.hid hlen; clear hlen
          have HST := Lib.hid hstr; clear hstr
          have hbf := below_box (below_alive HB1.out HB.out)
          have HL1 := Lib.hid (lines_len HF.out 0)
          clear hlt hk m1 n1 n2 n3 HL0
          have HBF := Lib.hid hbf; clear hbf hd ht
          by_cases hbig : 4194304 < (textOf C.l).length
          · rw [if_pos hbig] at hw1
            have hw2 : wrText p C = [] := by unfold wrText; rw [hw1]; rfl
            have HW1 := Lib.hid hw1; clear hw1
            have HW2 := Lib.hid hw2; clear hw2
            have hsm : (4194304 : Int) < ((textOf C.l).length : Int) := by omega
            clear hbig HD
            generalize textOf C.l = tx at *
            generalize htn : tx.length = tn at *
            clear htn
            go_wp2_with (first | (go_at_call 57; refine HLN.out.mono ?_; rintro e w5 ⟨rfl, rfl⟩))
            go_ret2
            unfold WrPost
            rw [HW1.out, HW2.out]
            exact ⟨rfl, HBF.out⟩
          · rw [if_neg hbig] at hw1
            have hw2 : wrText p C = textOf C.l := by unfold wrText; rw [hw1]; rfl
            have HW1 := Lib.hid hw1; clear hw1
            have HW2 := Lib.hid hw2; clear hw2
            have hsm : ((textOf C.l).length : Int) ≤ 4194304 := by omega
            clear hbig HD
            generalize textOf C.l = tx at *
            generalize htn : tx.length = tn at HLN hsm
            clear htn
            go_wp2_with (first | (go_at_call 57; refine HLN.out.mono ?_; rintro e w5 ⟨rfl, rfl⟩) | (go_at_call 58; refine HST.out.mono ?_; rintro e w6 ⟨rfl, hb6⟩; have HB6 := Lib.hid hb6; clear hb6))
            go_ret2
            unfold WrPost
            rw [HW1.out, HW2.out]
            exact ⟨rfl, HBF.out.trans (HB6.out.mono (by omega))⟩
theorem write_any (p : Nat) (hp : p < 18446744073709551616) (C : Cir) (w : World) (hC : HoldsC w C) (htab : PowTab w) :
    Calls Tryz.prog 21 #[.int .u64 p, .agg #[.slice C.SA C.slots.length C.sc, .slice C.GA C.gates.length C.gc, .slice C.EA C.exits.length C.ec]] w (WrPost p C w) := by
  by_cases h : checkErr p C = 0
  · exact write_ok p hp C w hC htab h
  · exact write_bad p hp C w hC h
end Go.Proofs.YtmnbgamnbgdnnaaGreatDoor

/- Contract of strings.Split at one byte. -/
namespace Go.Proofs.YtmnbgamnbgdnnaaGreatDoor
open Go.RowKit Go.Shelf

theorem split_eq (s : Bs) (c : UInt8) : (Lib.splitB ⟨#[c]⟩ 0 (Lib.countB ⟨s.toArray⟩ ⟨#[c]⟩) ⟨s.toArray⟩) = (cut c s).map fun x => (⟨x.toArray⟩ : ByteArray) := by
  have h := Lib.splitB_data ⟨#[c]⟩ 0 (Lib.countB ⟨s.toArray⟩ ⟨#[c]⟩) ⟨s.toArray⟩
  have h1 : Lib.countB ⟨s.toArray⟩ ⟨#[c]⟩ = s.count c := Lib.count_one c s
  have h2 : Lib.splitK [c] 0 (s.count c) s = cut c s := split_cut c _ _ rfl
  rw [h1] at h ⊢
  have h3 : (Lib.splitB ⟨#[c]⟩ 0 (s.count c) ⟨s.toArray⟩).map (fun x => x.data.toList) = cut c s := h.trans h2
  rw [← h3, List.map_map]
  conv => lhs; rw [← List.map_id (Lib.splitB ⟨#[c]⟩ 0 (s.count c) ⟨s.toArray⟩)]
  exact List.map_congr_left fun x _ => (by cases x; simp)
set_option maxHeartbeats 1000000 in
set_option maxRecDepth 100000 in
theorem split_any (s : Bs) (c : UInt8) (w : World) (hs : s.length < 4294967281) :
    Calls Tryz.prog 61 #[.string ⟨s.toArray⟩, .string ⟨#[c]⟩] w fun e w' => e = .returned (.slice (some ⟨w.heap.size, 0, none⟩) (cut c s).length (cut c s).length) ∧ w' = w.alloc (.cells (sCells (cut c s)).toArray 9) := by
  have h1 : Lib.countB ⟨s.toArray⟩ ⟨#[c]⟩ = s.count c := Lib.count_one c s
  have hle : s.count c ≤ s.length := List.count_le_length
  have hlen : (Lib.splitB ⟨#[c]⟩ 0 (s.count c) ⟨s.toArray⟩).length = s.count c + 1 := by rw [← h1, split_eq, List.length_map, cut_len, h1]
  have hcore := Any.strings_genSplit_core { Tryz.lays146 with } (by kernel_rfl) ⟨s.toArray⟩ ⟨#[c]⟩ 0 (-1) (s.count c + 1) w hs (Nat.le_refl 1) (Nat.zero_le _)
    (fun x d _ => (Any.strings_Index_one { Tryz.lays146 with } x c (w.alloc (.cells d 9))).mono fun e w' ⟨he, hw⟩ => ⟨by rw [he, ← Lib.index_one], hw⟩)
    (by
      refine (Any.strings_Count_one { Tryz.lays146 with } ⟨s.toArray⟩ c w).mono fun e w' ⟨he, hw⟩ => ⟨?_, hw⟩
      rw [he]
      show _ = Ending.returned (Value.int .i64 ((Lib.count s [c] : Nat) : Int))
      rw [Lib.count_one]
      rfl)
    (by decide) (by decide) (by rw [if_pos (by decide), h1]; show ((s.count c + 1 : Nat) : Int) = min ((s.count c : Int) + 1) ((s.length : Int) + 1); omega)
  rw [Nat.add_sub_cancel, hlen] at hcore
  have e2 : Lib.cellsOf (Lib.splitB ⟨#[c]⟩ 0 (s.count c) ⟨s.toArray⟩) (s.count c + 1) = (sCells (cut c s)).toArray := by
    rw [← hlen, Lib.cellsOf_full, ← h1, split_eq, List.map_map]
    rfl
  rw [e2, ← cut_len] at hcore
  have H := Lib.hid hcore
  clear hcore e2 hlen hle h1 hs
  go_enter Tryz.func61, Tryz.ntmps61
  go_wp2_with (go_at_call 90; refine H.out.mono ?_; rintro e w' ⟨rfl, rfl⟩)
  go_ret
  exact ⟨rfl, rfl⟩
end Go.Proofs.YtmnbgamnbgdnnaaGreatDoor

/- Contracts of circ.number and circ.numbers. -/
namespace Go.Proofs.YtmnbgamnbgdnnaaGreatDoor
open Go.RowKit

/-- What is asked of the library's variables. -/
structure Env (w : World) : Prop where
  pow : PowTab w
  syn : ∃ ev, w.cell? ⟨4, 0, none⟩ = some ev ∧ (ev = .nilIface ∨ ∃ te pe, ev = .iface te pe)
  ran : ∃ ev, w.cell? ⟨5, 0, none⟩ = some ev ∧ (ev = .nilIface ∨ ∃ te pe, ev = .iface te pe)
theorem Env.below {w w' : World} (h : Env w) (hb : Below w.heap.size w w') : Env w' := by
  refine ⟨h.pow.below hb, ?_, ?_⟩
  · obtain ⟨ev, h1, h2⟩ := h.syn
    exact ⟨ev, (hb.cell (World.block_lt_of_cell? w _ h1)).trans h1, h2⟩
  · obtain ⟨ev, h1, h2⟩ := h.ran
    exact ⟨ev, (hb.cell (World.block_lt_of_cell? w _ h1)).trans h1, h2⟩
theorem below_bytes (w : World) (e : TypeId) (w' : World) (h : w' = w ∨ ∃ t, w' = Lib.bytesWorld w e t) : Below w.heap.size w w' := by
  rcases h with rfl | ⟨t, rfl⟩
  · exact Below.refl _ _
  · exact Lib.bytesWorld_below _ _ _
set_option maxHeartbeats 1000000 in
set_option maxRecDepth 100000 in
theorem number_some (s : Bs) (v : Nat) (h : valOf s = some v) (w : World) (hE : Env w) :
    Calls Tryz.prog 91 #[.string ⟨s.toArray⟩] w fun e w' => e = .returned (.tuple #[.int .i64 v, .bool true]) ∧ Below w.heap.size w w' := by
  have ha := Tryz.strconv_Atoi_ok ⟨s.toArray⟩ (by obtain ⟨rfl, hv⟩ := valOf_some h; have := dec_nine hv; show (Lib.decDigits v).length ≤ _; omega) v (atoi_val h) w
  have HA := Lib.hid ha; clear ha
  obtain ⟨rfl, hv⟩ := valOf_some h
  have h9 := dec_nine hv
  have hI : ∀ W, PowTab W → Calls Tryz.prog 85 #[.int .i64 v] W fun e w' => e = .returned (.string ⟨(Lib.decDigits v).toArray⟩) ∧ Below W.heap.size W w' := fun W h => itoa_any (v : Int) (by omega) (by omega) W h
  have HI := Lib.hid hI
  have HE := Lib.hid hE; clear hE hI h
  have hsz : ((⟨(Lib.decDigits v).toArray⟩ : ByteArray).size : Int) ≤ 9 := by show (((Lib.decDigits v).length : Nat) : Int) ≤ 9; omega
  generalize (⟨(Lib.decDigits v).toArray⟩ : ByteArray) = S at *
  go_enter Tryz.func91, Tryz.ntmps91
  go_wp2_with (first | (go_at_call 106; refine HA.out.mono ?_; rintro e w1 ⟨rfl, hw⟩; have HB1 := Lib.hid (below_bytes _ _ _ hw); clear hw) | (go_at_call 85; refine (HI.out _ (HE.out.below HB1.out).pow).mono ?_; rintro e w2 ⟨rfl, hb2⟩; have HB2 := Lib.hid hb2; clear hb2))
  go_ret2
  exact ⟨rfl, below_alive HB1.out HB2.out⟩
def NoNum (w : World) (e : Ending) (w' : World) : Prop := ∃ n : Int, e = .returned (.tuple #[.int .i64 n, .bool false]) ∧ Below w.heap.size w w'
set_option maxHeartbeats 1000000 in
set_option maxRecDepth 100000 in
theorem number_none (s : Bs) (h : valOf s = none) (hs : s.length ≤ 281474976710656) (w : World) (hE : Env w) :
    Calls Tryz.prog 91 #[.string ⟨s.toArray⟩] w (NoNum w) := by
  cases ha : Lib.atoiAll s with
  | ok n =>
    have hA := Tryz.strconv_Atoi_ok ⟨s.toArray⟩ (by show s.length ≤ _; omega) n ha w
    obtain ⟨b1, b2⟩ := Lib.atoiAll_bounds ha
    have HA := Lib.hid hA; clear hA
    have HE := Lib.hid hE; clear hE
    by_cases h0 : 0 ≤ n
    · by_cases h9 : s.length ≤ 9
      · have hI : ∀ W, PowTab W → Calls Tryz.prog 85 #[.int .i64 n] W fun e w' => e = .returned (.string ⟨(numI n).toArray⟩) ∧ Below W.heap.size W w' := fun W h => itoa_any n h0 b2 W h
        have hne : ((⟨(numI n).toArray⟩ : ByteArray).toList == (⟨s.toArray⟩ : ByteArray).toList) = false := by
          rw [beq_eq_false_iff_ne]
          intro e
          have e2 : numI n = s := by rw [Lib.toList_data, Lib.toList_data] at e; exact e
          have e3 : Lib.itoa n = s := by
            obtain ⟨u, rfl⟩ : ∃ u : Nat, n = u := ⟨n.toNat, by omega⟩
            rw [Lib.itoa_nonneg]
            exact e2
          rw [val_atoi h0 h9 e3] at h
          cases h
        have HI := Lib.hid hI; clear hI
        have hsz : ((⟨s.toArray⟩ : ByteArray).size : Int) ≤ 9 := by show ((s.length : Nat) : Int) ≤ 9; omega
        clear h ha h9 hs
        generalize (⟨s.toArray⟩ : ByteArray) = S at *
        generalize (⟨(numI n).toArray⟩ : ByteArray) = T at *
        go_enter Tryz.func91, Tryz.ntmps91
        go_wp2_with (first | (go_at_call 106; refine HA.out.mono ?_; rintro e w1 ⟨rfl, hw⟩; have HB1 := Lib.hid (below_bytes _ _ _ hw); clear hw) | (go_at_call 85; refine (HI.out _ (HE.out.below HB1.out).pow).mono ?_; rintro e w2 ⟨rfl, hb2⟩; have HB2 := Lib.hid hb2; clear hb2))
        go_ret2
        exact ⟨n, rfl, below_alive HB1.out HB2.out⟩
      · have hsz : 9 < ((⟨s.toArray⟩ : ByteArray).size : Int) := by show 9 < ((s.length : Nat) : Int); omega
        clear h ha h9 hs
        generalize (⟨s.toArray⟩ : ByteArray) = S at *
        go_enter Tryz.func91, Tryz.ntmps91
        go_wp2_with (first | (go_at_call 106; refine HA.out.mono ?_; rintro e w1 ⟨rfl, hw⟩; have HB1 := Lib.hid (below_bytes _ _ _ hw); clear hw))
        go_ret2
        exact ⟨n, rfl, HB1.out⟩
    · have h1 : n < 0 := by omega
      clear h ha hs
      generalize (⟨s.toArray⟩ : ByteArray) = S at *
      go_enter Tryz.func91, Tryz.ntmps91
      go_wp2_with (first | (go_at_call 106; refine HA.out.mono ?_; rintro e w1 ⟨rfl, hw⟩; have HB1 := Lib.hid (below_bytes _ _ _ hw); clear hw))
      go_ret2
      exact ⟨n, rfl, HB1.out⟩
  | range =>
    obtain ⟨ev, e1, e2⟩ := hE.ran
    have HA := Lib.hid (Tryz.strconv_Atoi_range ⟨s.toArray⟩ hs ha ev w e1 e2)
    clear h ha hs e1 e2 hE
    generalize Lib.atoiSat (⟨s.toArray⟩ : ByteArray).data.toList = sat at *
    generalize (⟨s.toArray⟩ : ByteArray) = S at *
    go_enter Tryz.func91, Tryz.ntmps91
    go_wp2_with (first | (go_at_call 106; refine HA.out.mono ?_; rintro e w1 ⟨N, rfl, _, _, hb⟩; have HB1 := Lib.hid hb; clear hb))
    go_ret2
    exact ⟨sat, rfl, HB1.out⟩
  | _ =>
    obtain ⟨ev, e1, e2⟩ := hE.syn
    have HA := Lib.hid (Tryz.strconv_Atoi_syntax ⟨s.toArray⟩ hs (by show Tryz.noNumeral (Lib.atoiAll s) = true; rw [ha]; rfl) ev w e1 e2)
    clear h ha hs e1 e2 hE
    generalize (⟨s.toArray⟩ : ByteArray) = S at *
    go_enter Tryz.func91, Tryz.ntmps91
    go_wp2_with (first | (go_at_call 106; refine HA.out.mono ?_; rintro e w1 ⟨N, rfl, _, _, hb⟩; have HB1 := Lib.hid hb; clear hb))
    go_ret2
    exact ⟨0, rfl, HB1.out⟩

theorem allOf_step {α : Type} {f : Bs → Option α} {l : List Bs} {k : Nat} {ys : List α} {y : α} (hk : k < l.length) (h : allOf f (l.take k) = some ys) (h1 : f l[k] = some y) : allOf f (l.take (k + 1)) = some (ys ++ [y]) := by
  rw [List.take_succ_eq_append_getElem hk]
  generalize l.take k = t at h
  induction t generalizing ys with
  | nil => injection h with h; subst h; simp [allOf, h1]
  | cons x r ih =>
    rw [allOf] at h
    cases e1 : f x with
    | none => rw [e1] at h; cases h
    | some a =>
      cases e2 : allOf f r with
      | none => rw [e1, e2] at h; cases h
      | some b =>
        rw [e1, e2] at h
        injection h with h
        subst h
        rw [List.cons_append, allOf, e1, ih e2]
        rfl
theorem allOf_none {α : Type} {f : Bs → Option α} {l : List Bs} {k : Nat} (hk : k < l.length) (h1 : f l[k] = none) : allOf f l = none := by
  induction l generalizing k with
  | nil => simp at hk
  | cons x r ih =>
    rw [allOf]
    cases k with
    | zero =>
      have : f x = none := h1
      rw [this]
    | succ k =>
      rw [ih (k := k) (by simpa using hk) (by simpa using h1)]
      cases f x <;> rfl
/-- Numbers that were read, as ints. -/
def NumsPost (o : Option (List Nat)) (w : World) (e : Ending) (w' : World) : Prop :=
  Below w.heap.size w w' ∧ match o with
    | none => e = .returned (.tuple #[.slice none 0 0, .bool false])
    | some ns => ∃ v, e = .returned (.tuple #[v, .bool true]) ∧ w'.ownsRow w.heap.size 3 1 v ns.length (iCells (ns.map Int.ofNat))
theorem iCells_snoc (l : List Nat) (v : Nat) : iCells ((l ++ [v]).map Int.ofNat) = iCells (l.map Int.ofNat) ++ [.int .i64 v] := by simp [iCells]
theorem allOf_len {α : Type} {f : Bs → Option α} : ∀ {l : List Bs} {ys : List α}, allOf f l = some ys → ys.length = l.length
  | [], ys, h => by injection h with h; subst h; rfl
  | x :: r, ys, h => by
    rw [allOf] at h
    cases e1 : f x with
    | none => rw [e1] at h; cases h
    | some a =>
      cases e2 : allOf f r with
      | none => rw [e1, e2] at h; cases h
      | some b =>
        rw [e1, e2] at h
        injection h with h
        subst h
        simp [allOf_len e2]
/-- The words that lie from ad on. -/
def Words (w : World) (ad : Addr) (l : List Bs) : Prop := ∀ k (h : k < l.length), w.cell? (ad.add k) = some (.string ⟨l[k].toArray⟩)
theorem Words.below {w w' : World} {ad : Addr} {l : List Bs} (h : Words w ad l) (hb : Below w.heap.size w w') : Words w' ad l := fun k hk => (hb.cell (World.block_lt_of_cell? w _ (h k hk))).trans (h k hk)
set_option maxHeartbeats 2000000 in
set_option maxRecDepth 100000 in
theorem numbers_any (l : List Bs) (hl : l.length ≤ 17592186044416) (hs : ∀ x ∈ l, x.length ≤ 281474976710656) (ad : Addr) (c : Nat) (w : World) (hE : Env w) (hW : Words w ad l) :
    Calls Tryz.prog 92 #[.slice (some ad) l.length c] w (NumsPost (allOf valOf l) w) := by
  have HE := Lib.hid hE; clear hE
  have HW := Lib.hid hW; clear hW
  have HS := Lib.hid hs; clear hs
  go_enter Tryz.func92, Tryz.ntmps92
  go_wp2
  go_loopg [4, 11] l.length (fun g v i wr => ∃ (k : Nat) (ns : List Nat), k ≤ l.length ∧ g = l.length - k ∧ i = .int .i64 k ∧ Hid (allOf valOf (l.take k) = some ns) ∧ wr.ownsRow w.heap.size 3 1 v k (iCells (ns.map Int.ofNat)) ∧ Below w.heap.size w wr)
  case atStart => exact ⟨0, [], Nat.zero_le _, rfl, rfl, rfl, World.ownsRow_nil _ _ _ _, Below.refl _ _⟩
  case round =>
    obtain ⟨k, ns, hk, rfl, rfl, hns, hown, hbel⟩ := hrel
    have HO := Lib.hid hown; clear hown
    have HB := Lib.hid hbel; clear hbel
    have hszr := HB.out.size
    by_cases hlt : k < l.length
    · have q0 := (HW.out.below HB.out) k hlt
      have hx := HS.out _ (List.getElem_mem hlt)
      cases hv : valOf l[k] with
      | none =>
        have HN := Lib.hid (allOf_none hlt hv)
        have HC := Lib.hid (number_none _ hv hx wr (HE.out.below HB.out))
        clear hv hx hns HO
        generalize (⟨l[k].toArray⟩ : ByteArray) = S at *
        go_wp2_with (first | (go_at_call 91; refine HC.out.mono ?_; rintro e w1 ⟨n, rfl, hb1⟩; have HB1 := Lib.hid hb1; clear hb1))
        go_ret2
        unfold NumsPost
        rw [HN.out]
        exact ⟨below_alive HB.out HB1.out, rfl⟩
      | some x =>
        have HN := Lib.hid (allOf_step hlt hns.out hv)
        have HC := Lib.hid (number_some _ x hv wr (HE.out.below HB.out))
        clear hv hx
        generalize (⟨l[k].toArray⟩ : ByteArray) = S at *
        go_wp2_with (first | (go_at_call 91; refine HC.out.mono ?_; rintro e w1 ⟨rfl, hb1⟩; have hsz1 := hb1.size; have HO1 := Lib.hid (own_below HO.out hb1); have HB1 := Lib.hid (below_alive HB.out hb1); clear hb1) | (at_builtin; refine app_cells w.heap.size rfl _ _ 61 3 _ 1 8 rfl Tryz.underlying61 infoI rfl (by decide) (by decide) u4 k _ [.int .i64 x] rfl _ rfl rfl rfl (by intro u hu; simp at hu; subst hu; rfl) HO1.out (by omega) (by omega) ?_; intro v3 w3 hown3 hg3; have HO3 := Lib.hid hown3; clear hown3; have HG3 := Lib.hid hg3; clear hg3))
        go_roundg (l.length - (k + 1))
        case measure => omega
        case rel => exact ⟨k + 1, ns ++ [x], by omega, rfl, by go_num, HN.out, by rw [iCells_snoc]; exact HO3.out, HB1.out.grown HG3.out HB1.out.size (fun q hq => (HO1.out.lt q hq).1)⟩
    · obtain rfl : k = l.length := by omega
      have h := hns.out
      rw [List.take_length] at h
      have HN := Lib.hid h; clear h hns
      go_wp2
      go_ret2
      unfold NumsPost
      rw [HN.out]
      exact ⟨HB.out, _, rfl, by rw [allOf_len HN.out]; exact HO.out⟩
end Go.Proofs.YtmnbgamnbgdnnaaGreatDoor

/- Contract of circ.readSlots. -/
namespace Go.Proofs.YtmnbgamnbgdnnaaGreatDoor
open Go.RowKit

theorem infoSlo : (Tryz.prog.info? 54).map (fun i => (i.zero, i.size, i.bytes)) = some (some (.agg #[.int .i64 0, .bool false]), 2, 16) := by kernel_rfl
def SlotsPost (o : Option (List Slo)) (w : World) (e : Ending) (w' : World) : Prop :=
  Below w.heap.size w w' ∧ match o with
    | none => ∃ A n c, e = .returned (.tuple #[.slice A n c, .bool false])
    | some l => ∃ v, e = .returned (.tuple #[v, .bool true]) ∧ w'.ownsRow w.heap.size 54 2 v l.length (sloCells l)
/-- Where the words behind the first one lie. -/
def tailAd (g n : Nat) : Addr := if n = 0 then ⟨g, 0, none⟩ else ⟨g, 1, none⟩
theorem words_new (w : World) (l : List Bs) (h : Bs) : Words (w.alloc (.cells (sCells (h :: l)).toArray 9)) (tailAd w.heap.size l.length) l := by
  intro k hk
  have e : (tailAd w.heap.size l.length).add k = ⟨w.heap.size, 1 + k, none⟩ := by
    unfold tailAd
    rw [if_neg (by omega)]
    unfold Addr.add; split <;> simp_all
  rw [e, World.cell?_alloc_new]
  simp [sCells, List.getElem?_eq_getElem hk, show 1 + k = k + 1 by omega]
theorem word_zero (w : World) (l : List Bs) (h : Bs) : (w.alloc (.cells (sCells (h :: l)).toArray 9)).cell? ⟨w.heap.size, 0, none⟩ = some (.string ⟨h.toArray⟩) := by
  rw [World.cell?_alloc_new]
  simp [sCells]
theorem run_tail (g n : Nat) (W : World) : (Instr.sliceAt 94 (.slice (some ⟨g, 0, none⟩) (n + 1) (n + 1)) (some (.int .i64 1)) none none).run Tryz.prog W = .ok (.slice (some (tailAd g n)) n n) W := by
  have hu : Tryz.prog.underlying 94 = some (.slice (Tryz.prog.elem 94)) := by kernel_rfl
  have hz : ∀ W, (sizeOf (Tryz.prog.elem 94)).run Tryz.prog W = .ok 1 W := fun W => by
    have : Tryz.prog.elem 94 = 9 := by kernel_rfl
    rw [this]
    exact Tryz.sizeOf9 W
  rw [run_sliceAt_slice (h := hu), run_slice_l (ht := hu) (h0 := by omega) (h1 := by omega), hz]
  simp only [Result.andThen, sliced, tailAd, Option.map]
  by_cases h : n = 0
  · subst h; rfl
  · rw [if_neg (by omega), if_neg h]
    rfl
theorem slotsOf_cut {s h : Bs} {t : List Bs} (hc : cut 32 s = h :: t) : slotsOf s = if h = kwSlots then allOf slotOfW t else none := by unfold slotsOf; rw [hc]; rfl
theorem slotOfW_cons (c : UInt8) (r : Bs) : slotOfW (c :: r) = if c = 110 ∨ c = 98 then (valOf r).map fun (n : Nat) => (Int.ofNat n, decide (c = 98)) else none := rfl
theorem cut_part (c : UInt8) (s : Bs) : ∀ x ∈ cut c s, x.length ≤ s.length := by
  induction s with
  | nil => intro x hx; have := List.mem_singleton.1 hx; subst this; simp
  | cons a r ih =>
    intro x hx
    unfold cut at hx
    split at hx
    · rcases List.mem_cons.1 hx with e | e
      · subst e; simp
      · have := ih x e
        simp only [List.length_cons]; omega
    · cases e : cut c r with
      | nil => exact absurd e (cut_ne c r)
      | cons y ys =>
        rw [e] at hx ih
        rcases List.mem_cons.1 hx with e | e
        · subst e
          have := ih y (List.mem_cons_self ..)
          simp only [List.length_cons]; omega
        · have := ih x (List.mem_cons_of_mem _ e)
          simp only [List.length_cons]; omega
set_option maxHeartbeats 2000000 in
set_option maxRecDepth 100000 in
theorem readSlots_any (s : Bs) (hs : s.length ≤ 4194304) (w : World) (hE : Env w) :
    Calls Tryz.prog 62 #[.string ⟨s.toArray⟩] w (SlotsPost (slotsOf s) w) := by
  have hsp := split_any s 32 w (by omega)
  cases hc : cut 32 s with
  | nil => exact absurd hc (cut_ne 32 s)
  | cons h t =>
    have hlen : t.length ≤ 4194304 := by
      have := cut_len 32 s
      rw [hc, List.length_cons] at this
      have : s.count 32 ≤ s.length := List.count_le_length
      omega
    rw [hc, List.length_cons] at hsp
    have HSP := Lib.hid hsp; clear hsp
    have HW := Lib.hid (words_new w t h)
    have HZ := Lib.hid (word_zero w t h)
    have HBA := Lib.hid ((Below.refl w.heap.size w).alloc (Nat.le_refl _) (.cells (sCells (h :: t)).toArray 9))
    have HE := Lib.hid hE; clear hE
    have hsl := fun W => run_tail w.heap.size t.length W
    generalize tailAd w.heap.size t.length = ad at HW hsl
    have HS : Hid (∀ x ∈ t, x.length ≤ 281474976710656) := Lib.hid fun x hx => by
      have h1 := cut_part 32 s x (by rw [hc]; exact List.mem_cons_of_mem _ hx)
      omega
    go_enter Tryz.func62, Tryz.ntmps62
    go_wp2_with (first | (go_at_call 61; refine HSP.out.mono ?_; rintro e w1 ⟨rfl, rfl⟩))
    go_loopg [5, 15] t.length (fun g v i wr => ∃ (k : Nat) (ys : List Slo), k ≤ t.length ∧ g = t.length - k ∧ i = .int .i64 k ∧ Hid (allOf slotOfW (t.take k) = some ys) ∧ wr.ownsRow (w.heap.size + 1) 54 2 v k (sloCells ys) ∧ Below (w.heap.size + 1) (w.alloc (.cells (sCells (h :: t)).toArray 9)) wr)
    case atStart => exact ⟨0, [], Nat.zero_le _, rfl, rfl, rfl, World.ownsRow_nil _ _ _ _, Below.refl _ _⟩
    case round =>
      obtain ⟨k, ys, hk, rfl, rfl, hns, hown, hbel⟩ := hrel
      have HO := Lib.hid hown; clear hown
      have HB := Lib.hid hbel; clear hbel
      have hszr := HB.out.size
      simp at hszr
      by_cases hlt : k < t.length
      · have q0 := (HW.out.below (by simpa using HB.out)) k hlt
        have hrl0 : t[k].length ≤ 281474976710656 := HS.out _ (List.getElem_mem hlt)
        cases hw : t[k] with
        | nil =>
          have hv : slotOfW t[k] = none := by rw [hw]; rfl
          have HN := Lib.hid (allOf_none hlt hv)
          rw [hw] at q0
          clear hv hw hns HO
          go_wp2
          go_ret2
          unfold SlotsPost
          rw [show slotsOf s = none from by unfold slotsOf; rw [hc]; simp only [List.tail_cons, HN.out]; split <;> rfl]
          exact ⟨below_box (HB.out.mono (by simp)), none, 0, 0, rfl⟩
        | cons c r =>
          rw [hw] at q0
          have hrl : r.length ≤ 281474976710656 := by rw [hw] at hrl0; simp only [List.length_cons] at hrl0; omega
          have hx : (⟨(c :: r).toArray⟩ : ByteArray).extract 1 (r.length + 1) = ⟨r.toArray⟩ := by
            have h1 := Lib.extract_to_end (⟨(c :: r).toArray⟩ : ByteArray) 1
            rw [show (⟨(c :: r).toArray⟩ : ByteArray).size = r.length + 1 from rfl] at h1
            have := ba_eq h1
            simpa using this
          clear hrl0
          have hix : ∀ h, ((⟨(c :: r).toArray⟩ : ByteArray)[0]'h) = c := fun _ => rfl
          by_cases h1 : c = 110
          · subst h1
            cases hn : valOf r with
            | none =>
              have hv : slotOfW t[k] = none := by rw [hw, slotOfW_cons, if_pos (by simp), hn]; rfl
              have HN := Lib.hid (allOf_none hlt hv)
              have hnum := number_none r hn hrl wr (HE.out.below (HBA.out.trans (HB.out.mono (by simp))))
              rw [← hx] at hnum
              have HC := Lib.hid hnum
              clear hv hns HO hnum hn hw hx hrl
              go_wp2_with (first | (go_at_call 91; refine HC.out.mono ?_; rintro e w1 ⟨n, rfl, hb1⟩; have HB1 := Lib.hid hb1; clear hb1))
              go_ret2
              unfold SlotsPost
              rw [show slotsOf s = none from by unfold slotsOf; rw [hc]; simp only [List.tail_cons, HN.out]; split <;> rfl]
              exact ⟨below_box ((HB.out.trans (HB1.out.mono (by omega))).mono (by simp)), none, 0, 0, rfl⟩
            | some x =>
              have hv : slotOfW t[k] = some (Int.ofNat x, false) := by rw [hw, slotOfW_cons, if_pos (by simp), hn]; rfl
              have HN := Lib.hid (allOf_step hlt hns.out hv)
              have hnum := number_some r x hn wr (HE.out.below (HBA.out.trans (HB.out.mono (by simp))))
              rw [← hx] at hnum
              have HC := Lib.hid hnum
              clear hv hns hnum hn hw hx hrl
              go_wp2_with (first | (go_at_call 91; refine HC.out.mono ?_; rintro e w1 ⟨rfl, hb1⟩; have hsz1 := hb1.size; have HO1 := Lib.hid (own_below HO.out hb1); have HB1 := Lib.hid (HB.out.trans (hb1.mono (by omega))); clear hb1) | (at_builtin; refine app_cells (w.heap.size + 1) rfl _ _ 23 54 _ 2 16 rfl Tryz.underlying23 infoSlo rfl (by decide) (by decide) u5 k _ [.int .i64 x, .bool false] rfl _ rfl rfl rfl (by intro u hu; simp at hu; rcases hu with rfl | rfl <;> rfl) HO1.out (by omega) (by omega) ?_; intro v3 w3 hown3 hg3; have HO3 := Lib.hid hown3; clear hown3; have HG3 := Lib.hid hg3; clear hg3))
              go_roundg (t.length - (k + 1))
              case measure => omega
              case rel => exact ⟨k + 1, ys ++ [(Int.ofNat x, false)], by omega, rfl, by go_num, HN.out, by rw [show sloCells (ys ++ [(Int.ofNat x, false)]) = sloCells ys ++ [.int .i64 x, .bool false] by simp [sloCells]]; exact HO3.out, HB1.out.grown HG3.out (by omega) (fun q hq => (HO1.out.lt q hq).1)⟩
          · by_cases h2 : c = 98
            · subst h2
              cases hn : valOf r with
              | none =>
                have hv : slotOfW t[k] = none := by rw [hw, slotOfW_cons, if_pos (by simp), hn]; rfl
                have HN := Lib.hid (allOf_none hlt hv)
                have hnum := number_none r hn hrl wr (HE.out.below (HBA.out.trans (HB.out.mono (by simp))))
                rw [← hx] at hnum
                have HC := Lib.hid hnum
                clear hv hns HO hnum hn hw hx hrl
                go_wp2_with (first | (go_at_call 91; refine HC.out.mono ?_; rintro e w1 ⟨n, rfl, hb1⟩; have HB1 := Lib.hid hb1; clear hb1))
                go_ret2
                unfold SlotsPost
                rw [show slotsOf s = none from by unfold slotsOf; rw [hc]; simp only [List.tail_cons, HN.out]; split <;> rfl]
                exact ⟨below_box ((HB.out.trans (HB1.out.mono (by omega))).mono (by simp)), none, 0, 0, rfl⟩
              | some x =>
                have hv : slotOfW t[k] = some (Int.ofNat x, true) := by rw [hw, slotOfW_cons, if_pos (by simp), hn]; rfl
                have HN := Lib.hid (allOf_step hlt hns.out hv)
                have hnum := number_some r x hn wr (HE.out.below (HBA.out.trans (HB.out.mono (by simp))))
                rw [← hx] at hnum
                have HC := Lib.hid hnum
                clear hv hns hnum hn hw hx hrl
                go_wp2_with (first | (go_at_call 91; refine HC.out.mono ?_; rintro e w1 ⟨rfl, hb1⟩; have hsz1 := hb1.size; have HO1 := Lib.hid (own_below HO.out hb1); have HB1 := Lib.hid (HB.out.trans (hb1.mono (by omega))); clear hb1) | (at_builtin; refine app_cells (w.heap.size + 1) rfl _ _ 23 54 _ 2 16 rfl Tryz.underlying23 infoSlo rfl (by decide) (by decide) u5 k _ [.int .i64 x, .bool true] rfl _ rfl rfl rfl (by intro u hu; simp at hu; rcases hu with rfl | rfl <;> rfl) HO1.out (by omega) (by omega) ?_; intro v3 w3 hown3 hg3; have HO3 := Lib.hid hown3; clear hown3; have HG3 := Lib.hid hg3; clear hg3))
                go_roundg (t.length - (k + 1))
                case measure => omega
                case rel => exact ⟨k + 1, ys ++ [(Int.ofNat x, true)], by omega, rfl, by go_num, HN.out, by rw [show sloCells (ys ++ [(Int.ofNat x, true)]) = sloCells ys ++ [.int .i64 x, .bool true] by simp [sloCells]]; exact HO3.out, HB1.out.grown HG3.out (by omega) (fun q hq => (HO1.out.lt q hq).1)⟩
            · have hv : slotOfW t[k] = none := by rw [hw, slotOfW_cons, if_neg (by simp [h1, h2])]
              have HN := Lib.hid (allOf_none hlt hv)
              have d1 : ¬ (c.toNat : Int) = 110 := fun e => h1 (UInt8.toNat_inj.1 (by simp; omega))
              have d2 : ¬ (c.toNat : Int) = 98 := fun e => h2 (UInt8.toNat_inj.1 (by simp; omega))
              have b1 : ((c.toNat : Int) != 110) = true := by simp [d1]
              have b2 : ((c.toNat : Int) != 98) = true := by simp [d2]
              clear hv hw hns HO h1 h2 hx
              go_wp2
              go_ret2
              unfold SlotsPost
              rw [show slotsOf s = none from by unfold slotsOf; rw [hc]; simp only [List.tail_cons, HN.out]; split <;> rfl]
              exact ⟨below_box (HB.out.mono (by simp)), none, 0, 0, rfl⟩
      · obtain rfl : k = t.length := by omega
        have hall := hns.out
        rw [List.take_length] at hall
        have z0 := (HB.out.cell (p := ⟨w.heap.size, 0, none⟩) (by simp)).trans HZ.out
        obtain ⟨A, c2, rfl, _⟩ := own_reads HO.out
        by_cases hk : h = kwSlots
        · have HF := Lib.hid (show slotsOf s = some ys from by rw [slotsOf_cut hc, if_pos hk, hall])
          have HL := Lib.hid (allOf_len hall)
          subst hk
          have z1 : wr.cell? ⟨w.heap.size, 0, none⟩ = some (.string ⟨#[115, 108, 111, 116, 115]⟩) := z0
          clear z0 hall hns
          go_wp2
          go_quiet (fail)
          all_goals (try go_wp2)
          all_goals go_ret2
          all_goals (unfold SlotsPost; rw [HF.out]; exact ⟨below_drewN (below_box (HB.out.mono (by simp))) _, _, rfl, by rw [HL.out]; exact own_lower HO.out (Nat.le_succ _)⟩)
        · have HF := Lib.hid (show slotsOf s = none from by rw [slotsOf_cut hc, if_neg hk])
          have hne : (h == [115, 108, 111, 116, 115]) = false := by
            rw [beq_eq_false_iff_ne]
            exact fun e => hk e
          clear hall hns hk
          go_wp2
          go_quiet (fail)
          all_goals (try go_wp2)
          all_goals go_ret2
          all_goals (unfold SlotsPost; rw [HF.out]; exact ⟨below_drewN (below_box (HB.out.mono (by simp))) _, _, _, _, rfl⟩)
end Go.Proofs.YtmnbgamnbgdnnaaGreatDoor
