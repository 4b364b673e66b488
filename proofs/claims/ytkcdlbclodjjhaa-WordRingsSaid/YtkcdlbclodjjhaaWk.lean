/- Contracts of the ring's turned, Plus, Minus, Below, Same over a board, where there is room. (Printed by wip/tools/gen_wk.py.) -/
import Derived.Test.YtkcdlbclodjjhaaWj
namespace Go.Proofs.Ytkcdlbclodjjhaa
open Go.RowKit

def conL (k : Nat) : List Gat := [((2, 0, 0, ((k : Nat) : Int)) : Gat)]
def turnStep (s : List Gat × List Nat) (a : Nat) : List Gat × List Nat := (s.1 ++ notL s.1.length a, s.2 ++ [s.1.length + 1])
def turnSt (G : List Gat) (ws : List Nat) : List Gat × List Nat := ws.foldl turnStep (G, [])
theorem turnSt_succ (G : List Gat) (ws : List Nat) (k : Nat) (h : k < ws.length) : turnSt G (ws.take (k + 1)) = turnStep (turnSt G (ws.take k)) ws[k] := by
  unfold turnSt
  rw [List.take_succ_eq_append_getElem h, List.foldl_append]
  rfl
theorem turnSt_len (G : List Gat) (ws : List Nat) : ∀ k, k ≤ ws.length → (turnSt G (ws.take k)).1.length = G.length + 2 * k ∧ (turnSt G (ws.take k)).2.length = k ∧ ∀ x ∈ (turnSt G (ws.take k)).2, x < (turnSt G (ws.take k)).1.length := by
  intro k
  induction k with
  | zero => intro _; exact ⟨rfl, rfl, by intro x hx; simp [turnSt] at hx⟩
  | succ k ih =>
    intro h
    obtain ⟨h1, h2, h3⟩ := ih (by omega)
    rw [turnSt_succ G ws k (by omega)]
    refine ⟨?_, ?_, ?_⟩
    · simp only [turnStep, List.length_append, h1]; simp only [notL, List.length_cons, List.length_nil]; omega
    · simp only [turnStep, List.length_append, h2, List.length_cons, List.length_nil]
    · intro x hx
      simp only [turnStep, List.length_append]
      simp only [notL, List.length_cons, List.length_nil]
      rcases List.mem_append.1 hx with e | e
      · have := h3 x e; omega
      · have := List.mem_singleton.1 e; omega
theorem turnSt_all (G : List Gat) (ws : List Nat) : (turnSt G ws).1.length = G.length + 2 * ws.length ∧ (turnSt G ws).2.length = ws.length ∧ ∀ x ∈ (turnSt G ws).2, x < (turnSt G ws).1.length := by
  have := turnSt_len G ws ws.length (Nat.le_refl _)
  rwa [List.take_length] at this
theorem OkPost.row {B p : Nat} {sl : List Slo} {G G' : List Gat} {xs : List Exi} {v1 v2 v3 v : Value} {w W : World} {r : Value} {e : Ending} {W' : World} (h : OkPost B p sl G' xs v1 v v3 W r e W') (hF : Fr B v2 v w W) (hI : IsB B p sl G xs v1 v v3 W) {base k : Nat} {vo : Value} {cs : List Value} (hO : W.ownsRow base 3 1 vo k cs) (hB : B < base) :
    e = .returned r ∧ ∃ v', IsB B p sl G' xs v1 v' v3 W' ∧ Fr B v2 v' w W' ∧ W'.ownsRow base 3 1 vo k cs := by
  obtain ⟨e1, v', h1, h2⟩ := h
  exact ⟨e1, v', h1, hF.trans h2, h2.own_int hI.h2 hO hB⟩
set_option maxHeartbeats 2000000 in
set_option maxRecDepth 100000 in
theorem turned_ok (B p : Nat) (hp : 1 < p) (sl : List Slo) (G : List Gat) (xs : List Exi) (v1 v2 v3 : Value) (ws : List Nat) (WA : Option Addr) (wc n : Nat) (hn : ws.length = n) (hl : n ≤ 65536) (hws : ∀ x ∈ ws, x < G.length) (hf : G.length + 2 * n ≤ 65535) (w : World) (h : IsB B p sl G xs v1 v2 v3 w) (hW : ∀ W v, Fr B v2 v w W → Reads W WA (nCells ws)) :
    Calls Try.prog 68 #[.iface 115 (.agg #[.pointer (some ⟨B, 0, none⟩)]), .slice WA n wc] w fun e W' => ∃ v vo, e = .returned vo ∧ IsB B p sl (turnSt G ws).1 xs v1 v v3 W' ∧ Fr B v2 v w W' ∧ W'.ownsRow w.heap.size 3 1 vo n (nCells (turnSt G ws).2) := by
  subst hn
  have HL := Lib.hid (turnSt_len G ws)
  have HS := Lib.hid (turnSt_succ G ws)
  have HWS := Lib.hid hws; have HW := Lib.hid hW; have HB := Lib.hid h; have HF := Lib.hid hf; have HLT := Lib.hid h.lt; have HP := Lib.hid hp
  have HH : Hid (turnSt G (ws.take 0) = (G, [])) := Lib.hid rfl
  clear hws hW h hf hp
  go_enter Try.func68, Try.ntmps68
  go_wp2
  go_loopg [5, 10] ws.length (fun g o' i' wr => ∃ (k : Nat) (Gk : List Gat) (ok : List Nat) (vo vk : Value), k ≤ ws.length ∧ g = ws.length - k ∧ o' = vo ∧ i' = .int .i64 k ∧ Hid (turnSt G (ws.take k) = (Gk, ok)) ∧ wr.ownsRow w.heap.size 3 1 vo k (nCells ok) ∧ IsB B p sl Gk xs v1 vk v3 wr ∧ Fr B v2 vk w wr)
  case atStart => exact ⟨0, G, [], .slice none 0 0, v2, Nat.zero_le _, rfl, rfl, rfl, HH, World.ownsRow_nil _ _ _ _, HB.out, Fr.refl _ _ _⟩
  case round =>
    obtain ⟨k, Gk, ok, vo, vk, hk, rfl, rfl, rfl, hst, hown, hIk, hFk⟩ := hrel
    have HO0 := Lib.hid hown; have HI0 := Lib.hid hIk; have HF0 := Lib.hid hFk
    clear hown hIk hFk
    by_cases hlt : k < ws.length
    · obtain ⟨wad, hwa, q1⟩ := (HW.out _ _ HF0.out).nat k hlt
      have hsu := HS.out k hlt
      have hL := HL.out k (by omega)
      rw [hst.out] at hsu hL
      simp only at hL
      have hbv := HWS.out _ (List.getElem_mem hlt)
      have hf := HF.out
      generalize ws[k] = b at *
      have HN : Hid (Calls Try.prog 65 #[.iface 115 (.agg #[.pointer (some ⟨B, 0, none⟩)]), .int .i64 ((b : Nat) : Int)] wr fun e W' => e = .returned (.int .i64 ((Gk.length + 1 : Nat) : Int)) ∧ ∃ v', IsB B p sl (Gk ++ notL Gk.length b) xs v1 v' v3 W' ∧ Fr B v2 v' w W' ∧ W'.ownsRow w.heap.size 3 1 u5 k (nCells ok)) :=
        Lib.hid ((not_ok B p HP.out sl Gk xs v1 vk v3 b (by omega) (by omega) wr HI0.out).mono fun _ _ he => OkPost.row he HF0.out HI0.out HO0.out HLT.out)
      have HSU : Hid (turnSt G (ws.take (k + 1)) = (Gk ++ notL Gk.length b, ok ++ [Gk.length + 1])) := Lib.hid hsu
      clear hsu hL hbv hf
      subst hwa
      have i1 : (0 : Int) ≤ (k : Int) := by omega
      have i2 : (k : Int) < (ws.length : Int) := by omega
      go_wp2_with (first | (go_at_call 65; refine HN.out.mono ?_; rintro e w1 ⟨rfl, x1, hI, hF, hO⟩; have HI1 := Lib.hid hI; have HF1 := Lib.hid hF; have HO1 := Lib.hid hO; clear hI hF hO) | (at_builtin; refine list_append_own (W0 := w1) (below_snoc (Below.refl _ _) _) w.heap.size rfl _ _ 44 3 _ 8 rfl Try.underlying44 infoInt rfl (by decide) u5 k _ (.int .i64 ((Gk.length + 1 : Nat) : Int)) rfl _ rfl (by simp) rfl HO1.out (by have h5 := HF1.out.size; omega) (by omega) ?_; intro v9 w9 hown9 hg9; have HO9 := Lib.hid hown9; have HI9 := Lib.hid (HI1.out.grown HB.out HO1.out (Nat.le_refl _) hg9); have HF9 := Lib.hid (HF1.out.grown HO1.out (Nat.le_refl _) hg9); clear hown9 hg9))
      go_roundg (ws.length - (k + 1))
      case measure => omega
      case rel => exact ⟨k + 1, _, ok ++ [Gk.length + 1], _, _, by omega, rfl, rfl, by go_num, HSU, by rw [nCells_snoc]; exact HO9.out, HI9.out, HF9.out⟩
    · obtain rfl : k = ws.length := by omega
      have hst' := hst.out
      rw [List.take_length] at hst'
      have HST := Lib.hid hst'
      clear hst'
      go_wp2
      go_ret
      refine ⟨vk, _, rfl, ?_, HF0.out, ?_⟩
      · rw [HST.out]; exact HI0.out
      · rw [HST.out]; exact HO0.out
theorem own_lower {w : World} {base base' : Nat} {e : TypeId} {size n : Nat} {v : Value} {xs : List Value} (h : w.ownsRow base e size v n xs) (hb : base' ≤ base) : w.ownsRow base' e size v n xs := by
  refine ⟨h.1, ?_⟩
  rcases h.2 with h2 | ⟨g, cap, cur, hv, hg, r⟩
  · exact .inl h2
  · exact .inr ⟨g, cap, cur, hv, Nat.le_trans hb hg, r⟩
/-- What Plus, Minus and Below lay. -/
def plusSt (G : List Gat) (vs ws : List Nat) : List Gat × List Nat × Nat := addSt (G ++ conL 0) G.length (vs.zip ws)
def minusSt (G : List Gat) (vs ws : List Nat) : List Gat × List Nat × Nat := addSt ((turnSt G ws).1 ++ conL 1) (turnSt G ws).1.length (vs.zip (turnSt G ws).2)
def belowSt (G : List Gat) (vs ws : List Nat) : List Gat × Nat := ((minusSt G vs ws).1 ++ notL (minusSt G vs ws).1.length (minusSt G vs ws).2.2, (minusSt G vs ws).1.length + 1)
theorem fixed_row (B p : Nat) (hp : 1 < p) (sl : List Slo) (G : List Gat) (xs : List Exi) (v1 v2 v3 : Value) (k : Nat) (hk : k < 2) (hf : G.length < 65536) (w W : World) (v : Value) (hF : Fr B v2 v w W) (hI : IsB B p sl G xs v1 v v3 W) :
    Calls Try.prog 107 #[.agg #[.pointer (some ⟨B, 0, none⟩)], .int .u64 ((k : Nat) : Int)] W fun e W' => e = .returned (.int .i64 ((G.length : Nat) : Int)) ∧ ∃ v', IsB B p sl (G ++ conL k) xs v1 v' v3 W' ∧ Fr B v2 v' w W' ∧ ∀ (base m : Nat) (vo : Value) (cs : List Value), B < base → W.ownsRow base 3 1 vo m cs → W'.ownsRow base 3 1 vo m cs :=
  (fixed_ok B p (by omega) sl G xs v1 v v3 k (by omega) hf W hI).mono fun _ _ he => by
    obtain ⟨e1, v', h1, h2⟩ := he
    exact ⟨e1, v', h1, hF.trans h2, fun base m vo cs hb ho => h2.own_int hI.h2 ho hb⟩
theorem own_nat {w : World} {base n : Nat} {v : Value} {l : List Nat} (h : w.ownsRow base 3 1 v n (nCells l)) : ∃ A c, v = .slice A n c ∧ Reads w A (nCells l) := own_reads h
theorem own_keep {B base n : Nat} {v2 : Value} {W : World} {p : Nat} {sl : List Slo} {G : List Gat} {xs : List Exi} {v1 v3 : Value} (hI : IsB B p sl G xs v1 v2 v3 W) (hB : B < base) {A : Option Addr} {c : Nat} {l : List Nat} (h : W.ownsRow base 3 1 (.slice A n c) n (nCells l)) : ∀ W' v, Fr B v2 v W W' → Reads W' A (nCells l) :=
  fun _ _ hF => own_reads_at (hF.own_int hI.h2 h hB)
set_option maxHeartbeats 2000000 in
set_option maxRecDepth 100000 in
theorem plus_ok (B p : Nat) (hp : 1 < p) (sl : List Slo) (G : List Gat) (xs : List Exi) (v1 v2 v3 : Value) (vs ws : List Nat) (VA WA : Option Addr) (vc wc : Nat) (hlen : ws.length = vs.length) (hl : vs.length ≤ 65536) (hvs : ∀ x ∈ vs, x < G.length) (hws : ∀ x ∈ ws, x < G.length) (hf : G.length + 1 + 9 * vs.length ≤ 65536) (w : World) (h : IsB B p sl G xs v1 v2 v3 w) (hV : ∀ W v, Fr B v2 v w W → Reads W VA (nCells vs)) (hW : ∀ W v, Fr B v2 v w W → Reads W WA (nCells ws)) :
    Calls Try.prog 56 #[.iface 115 (.agg #[.pointer (some ⟨B, 0, none⟩)]), .slice VA vs.length vc, .slice WA vs.length wc] w (fun e W' => ∃ v vo, e = .returned vo ∧ IsB B p sl (plusSt G vs ws).1 xs v1 v v3 W' ∧ Fr B v2 v w W' ∧ W'.ownsRow w.heap.size 3 1 vo vs.length (nCells (plusSt G vs ws).2.1)) := by
  have mFixed := fun W => mFixed B W
  simp only [Nat.reduceAdd] at mFixed
  have HX : Hid (∀ W, Below w.heap.size w W → Calls Try.prog 107 #[.agg #[.pointer (some ⟨B, 0, none⟩)], .int .u64 0] W fun e W' => e = .returned (.int .i64 ((G.length : Nat) : Int)) ∧ ∃ v', IsB B p sl (G ++ conL 0) xs v1 v' v3 W' ∧ Fr B v2 v' w W') :=
    Lib.hid fun W hb => (fixed_row B p hp sl G xs v1 v2 v3 0 (by omega) (by omega) w W v2 (Fr.of_below hb) (h.below hb)).mono fun _ _ he => ⟨he.1, by obtain ⟨_, v', h1, h2, _⟩ := he; exact ⟨v', h1, h2⟩⟩
  have HA : Hid (∀ W v, IsB B p sl (G ++ conL 0) xs v1 v v3 W → Fr B v2 v w W → Calls Try.prog 67 #[.iface 115 (.agg #[.pointer (some ⟨B, 0, none⟩)]), .slice VA vs.length vc, .slice WA vs.length wc, .int .i64 ((G.length : Nat) : Int)] W fun e W' => ∃ v' vo, e = .returned (.tuple #[vo, .int .i64 (((plusSt G vs ws).2.2 : Nat) : Int)]) ∧ IsB B p sl (plusSt G vs ws).1 xs v1 v' v3 W' ∧ Fr B v2 v' w W' ∧ W'.ownsRow w.heap.size 3 1 vo vs.length (nCells (plusSt G vs ws).2.1)) :=
    Lib.hid fun W v hI hF => (add_ok B p hp sl (G ++ conL 0) xs v1 v v3 vs ws VA WA vc wc G.length hlen hl (by simp [conL]) (fun x hx => by have := hvs x hx; simp [conL]; omega) (fun x hx => by have := hws x hx; simp [conL]; omega) (by simp [conL]; omega) W hI (fun W' v' hf' => hV W' v' (hF.trans hf')) (fun W' v' hf' => hW W' v' (hF.trans hf'))).mono fun _ _ he => by
      obtain ⟨v', vo, e1, h1, h2, h3⟩ := he
      exact ⟨v', vo, e1, h1, hF.trans h2, own_lower h3 hF.size⟩
  clear hvs hws hV hW h hf hp hlen
  go_enter Try.func56, Try.ntmps56
  go_wp2_with (first | (go_at_call 107; refine (HX.out _ (Below.refl _ _)).mono ?_; rintro e w1 ⟨rfl, x1, hI, hF⟩; have HI1 := Lib.hid hI; have HF1 := Lib.hid hF; clear hI hF) | (go_at_call 67; refine (HA.out _ _ HI1.out HF1.out).mono ?_; rintro e w2 ⟨x2, vo, rfl, he⟩; have HE := Lib.hid he; clear he))
  go_ret
  exact ⟨_, vo, rfl, HE.out⟩
set_option maxHeartbeats 2000000 in
set_option maxRecDepth 100000 in
theorem minus_ok (B p : Nat) (hp : 1 < p) (sl : List Slo) (G : List Gat) (xs : List Exi) (v1 v2 v3 : Value) (vs ws : List Nat) (VA WA : Option Addr) (vc wc : Nat) (hlen : ws.length = vs.length) (hl : vs.length ≤ 65536) (hvs : ∀ x ∈ vs, x < G.length) (hws : ∀ x ∈ ws, x < G.length) (hf : G.length + 1 + 11 * vs.length ≤ 65536) (w : World) (h : IsB B p sl G xs v1 v2 v3 w) (hV : ∀ W v, Fr B v2 v w W → Reads W VA (nCells vs)) (hW : ∀ W v, Fr B v2 v w W → Reads W WA (nCells ws)) :
    Calls Try.prog 58 #[.iface 115 (.agg #[.pointer (some ⟨B, 0, none⟩)]), .slice VA vs.length vc, .slice WA vs.length wc] w (fun e W' => ∃ v vo, e = .returned vo ∧ IsB B p sl (minusSt G vs ws).1 xs v1 v v3 W' ∧ Fr B v2 v w W' ∧ W'.ownsRow w.heap.size 3 1 vo vs.length (nCells (minusSt G vs ws).2.1)) := by
  have mFixed := fun W => mFixed B W
  simp only [Nat.reduceAdd] at mFixed
  obtain ⟨tl1, tl2, tl3⟩ := turnSt_all G ws
  have HT : Hid (∀ W, Below w.heap.size w W → Calls Try.prog 68 #[.iface 115 (.agg #[.pointer (some ⟨B, 0, none⟩)]), .slice WA vs.length wc] W fun e W' => ∃ vo, e = .returned vo ∧ ∃ v', IsB B p sl (turnSt G ws).1 xs v1 v' v3 W' ∧ Fr B v2 v' w W' ∧ W'.ownsRow w.heap.size 3 1 vo vs.length (nCells (turnSt G ws).2)) :=
    Lib.hid fun W hb => (turned_ok B p hp sl G xs v1 v2 v3 ws WA wc vs.length hlen hl hws (by omega) W (h.below hb) (fun W' v' hf' => hW W' v' ((Fr.of_below hb).trans hf'))).mono fun _ _ he => by
      obtain ⟨v', vo, e1, h1, h2, h3⟩ := he
      exact ⟨vo, e1, v', h1, (Fr.of_below hb).trans h2, own_lower h3 hb.size⟩
  have HX : Hid (∀ W v, IsB B p sl (turnSt G ws).1 xs v1 v v3 W → Fr B v2 v w W → Calls Try.prog 107 #[.agg #[.pointer (some ⟨B, 0, none⟩)], .int .u64 1] W fun e W' => e = .returned (.int .i64 (((turnSt G ws).1.length : Nat) : Int)) ∧ ∃ v', IsB B p sl ((turnSt G ws).1 ++ conL 1) xs v1 v' v3 W' ∧ Fr B v2 v' w W' ∧ ∀ (base m : Nat) (vo : Value) (cs : List Value), B < base → W.ownsRow base 3 1 vo m cs → W'.ownsRow base 3 1 vo m cs) :=
    Lib.hid fun W v hI hF => fixed_row B p hp sl _ xs v1 v2 v3 1 (by omega) (by omega) w W v hF hI
  have HA : Hid (∀ W v TA tc, IsB B p sl ((turnSt G ws).1 ++ conL 1) xs v1 v v3 W → Fr B v2 v w W → W.ownsRow w.heap.size 3 1 (.slice TA vs.length tc) vs.length (nCells (turnSt G ws).2) → Calls Try.prog 67 #[.iface 115 (.agg #[.pointer (some ⟨B, 0, none⟩)]), .slice VA vs.length vc, .slice TA vs.length tc, .int .i64 (((turnSt G ws).1.length : Nat) : Int)] W fun e W' => ∃ v' vo, e = .returned (.tuple #[vo, .int .i64 (((minusSt G vs ws).2.2 : Nat) : Int)]) ∧ IsB B p sl (minusSt G vs ws).1 xs v1 v' v3 W' ∧ Fr B v2 v' w W' ∧ W'.ownsRow w.heap.size 3 1 vo vs.length (nCells (minusSt G vs ws).2.1)) :=
    Lib.hid fun W v TA tc hI hF hO => (add_ok B p hp sl _ xs v1 v v3 vs (turnSt G ws).2 VA TA vc tc (turnSt G ws).1.length (by omega) hl (by simp [conL]) (fun x hx => by have := hvs x hx; simp [conL]; omega) (fun x hx => by have := tl3 x hx; simp [conL]; omega) (by simp [conL]; omega) W hI (fun W' v' hf' => hV W' v' (hF.trans hf')) (own_keep hI h.lt hO)).mono fun _ _ he => by
      obtain ⟨v', vo, e1, h1, h2, h3⟩ := he
      exact ⟨v', vo, e1, h1, hF.trans h2, own_lower h3 hF.size⟩
  have HLT := Lib.hid h.lt
  clear hvs hws hV hW h hf hp hlen tl1 tl2 tl3
  go_enter Try.func58, Try.ntmps58
  go_wp2_with (first | (go_at_call 68; refine (HT.out _ (Below.refl _ _)).mono ?_; rintro e w1 ⟨vt, rfl, x1, hI, hF, hO⟩; obtain ⟨TA, tc, rfl, _⟩ := own_nat hO; have HI1 := Lib.hid hI; have HF1 := Lib.hid hF; have HO1 := Lib.hid hO; clear hI hF hO) | (go_at_call 107; refine (HX.out _ _ HI1.out HF1.out).mono ?_; rintro e w2 ⟨rfl, x2, hI, hF, hO⟩; have HI2 := Lib.hid hI; have HF2 := Lib.hid hF; have HO2 := Lib.hid (hO _ _ _ _ HLT.out HO1.out); clear hI hF hO) | (go_at_call 67; refine (HA.out _ _ _ _ HI2.out HF2.out HO2.out).mono ?_; rintro e w3 ⟨x3, vo, rfl, he⟩; have HE := Lib.hid he; clear he))
  go_ret
  exact ⟨_, vo, rfl, HE.out⟩
set_option maxHeartbeats 2000000 in
set_option maxRecDepth 100000 in
theorem below_ok (B p : Nat) (hp : 1 < p) (sl : List Slo) (G : List Gat) (xs : List Exi) (v1 v2 v3 : Value) (vs ws : List Nat) (VA WA : Option Addr) (vc wc : Nat) (hlen : ws.length = vs.length) (hl : vs.length ≤ 65536) (hvs : ∀ x ∈ vs, x < G.length) (hws : ∀ x ∈ ws, x < G.length) (hf : G.length + 3 + 11 * vs.length ≤ 65536) (w : World) (h : IsB B p sl G xs v1 v2 v3 w) (hV : ∀ W v, Fr B v2 v w W → Reads W VA (nCells vs)) (hW : ∀ W v, Fr B v2 v w W → Reads W WA (nCells ws)) :
    Calls Try.prog 37 #[.iface 115 (.agg #[.pointer (some ⟨B, 0, none⟩)]), .slice VA vs.length vc, .slice WA vs.length wc] w (fun e W' => ∃ v, e = .returned (.int .i64 (((belowSt G vs ws).2 : Nat) : Int)) ∧ IsB B p sl (belowSt G vs ws).1 xs v1 v v3 W' ∧ Fr B v2 v w W') := by
  have mFixed := fun W => mFixed B W
  simp only [Nat.reduceAdd] at mFixed
  obtain ⟨tl1, tl2, tl3⟩ := turnSt_all G ws
  have HT : Hid (∀ W, Below w.heap.size w W → Calls Try.prog 68 #[.iface 115 (.agg #[.pointer (some ⟨B, 0, none⟩)]), .slice WA vs.length wc] W fun e W' => ∃ vo, e = .returned vo ∧ ∃ v', IsB B p sl (turnSt G ws).1 xs v1 v' v3 W' ∧ Fr B v2 v' w W' ∧ W'.ownsRow w.heap.size 3 1 vo vs.length (nCells (turnSt G ws).2)) :=
    Lib.hid fun W hb => (turned_ok B p hp sl G xs v1 v2 v3 ws WA wc vs.length hlen hl hws (by omega) W (h.below hb) (fun W' v' hf' => hW W' v' ((Fr.of_below hb).trans hf'))).mono fun _ _ he => by
      obtain ⟨v', vo, e1, h1, h2, h3⟩ := he
      exact ⟨vo, e1, v', h1, (Fr.of_below hb).trans h2, own_lower h3 hb.size⟩
  have HX : Hid (∀ W v, IsB B p sl (turnSt G ws).1 xs v1 v v3 W → Fr B v2 v w W → Calls Try.prog 107 #[.agg #[.pointer (some ⟨B, 0, none⟩)], .int .u64 1] W fun e W' => e = .returned (.int .i64 (((turnSt G ws).1.length : Nat) : Int)) ∧ ∃ v', IsB B p sl ((turnSt G ws).1 ++ conL 1) xs v1 v' v3 W' ∧ Fr B v2 v' w W' ∧ ∀ (base m : Nat) (vo : Value) (cs : List Value), B < base → W.ownsRow base 3 1 vo m cs → W'.ownsRow base 3 1 vo m cs) :=
    Lib.hid fun W v hI hF => fixed_row B p hp sl _ xs v1 v2 v3 1 (by omega) (by omega) w W v hF hI
  have HA : Hid (∀ W v TA tc, IsB B p sl ((turnSt G ws).1 ++ conL 1) xs v1 v v3 W → Fr B v2 v w W → W.ownsRow w.heap.size 3 1 (.slice TA vs.length tc) vs.length (nCells (turnSt G ws).2) → Calls Try.prog 67 #[.iface 115 (.agg #[.pointer (some ⟨B, 0, none⟩)]), .slice VA vs.length vc, .slice TA vs.length tc, .int .i64 (((turnSt G ws).1.length : Nat) : Int)] W fun e W' => ∃ v' vo, e = .returned (.tuple #[vo, .int .i64 (((minusSt G vs ws).2.2 : Nat) : Int)]) ∧ IsB B p sl (minusSt G vs ws).1 xs v1 v' v3 W' ∧ Fr B v2 v' w W' ∧ W'.ownsRow w.heap.size 3 1 vo vs.length (nCells (minusSt G vs ws).2.1)) :=
    Lib.hid fun W v TA tc hI hF hO => (add_ok B p hp sl _ xs v1 v v3 vs (turnSt G ws).2 VA TA vc tc (turnSt G ws).1.length (by omega) hl (by simp [conL]) (fun x hx => by have := hvs x hx; simp [conL]; omega) (fun x hx => by have := tl3 x hx; simp [conL]; omega) (by simp [conL]; omega) W hI (fun W' v' hf' => hV W' v' (hF.trans hf')) (own_keep hI h.lt hO)).mono fun _ _ he => by
      obtain ⟨v', vo, e1, h1, h2, h3⟩ := he
      exact ⟨v', vo, e1, h1, hF.trans h2, own_lower h3 hF.size⟩
  have hml := (addSt_len ((turnSt G ws).1 ++ conL 1) (turnSt G ws).1.length (vs.zip (turnSt G ws).2) (by simp [conL])) (vs.zip (turnSt G ws).2).length (Nat.le_refl _)
  rw [List.take_length] at hml
  obtain ⟨ml1, ml2, ml3⟩ := hml
  have hzl : (vs.zip (turnSt G ws).2).length = vs.length := by rw [List.length_zip]; omega
  have HN : Hid (∀ W v, IsB B p sl (minusSt G vs ws).1 xs v1 v v3 W → Fr B v2 v w W → Calls Try.prog 65 #[.iface 115 (.agg #[.pointer (some ⟨B, 0, none⟩)]), .int .i64 (((minusSt G vs ws).2.2 : Nat) : Int)] W fun e W' => e = .returned (.int .i64 (((belowSt G vs ws).2 : Nat) : Int)) ∧ ∃ v', IsB B p sl (belowSt G vs ws).1 xs v1 v' v3 W' ∧ Fr B v2 v' w W') :=
    Lib.hid fun W v hI hF => (not_ok B p hp sl _ xs v1 v v3 (minusSt G vs ws).2.2 ml3 (by rw [ml1, hzl]; simp [conL]; omega) W hI).mono fun _ _ he => he.chain hF
  clear ml1 ml2 ml3 hzl
  have HLT := Lib.hid h.lt
  clear hvs hws hV hW h hf hp hlen tl1 tl2 tl3
  go_enter Try.func37, Try.ntmps37
  go_wp2_with (first | (go_at_call 68; refine (HT.out _ (Below.refl _ _)).mono ?_; rintro e w1 ⟨vt, rfl, x1, hI, hF, hO⟩; obtain ⟨TA, tc, rfl, _⟩ := own_nat hO; have HI1 := Lib.hid hI; have HF1 := Lib.hid hF; have HO1 := Lib.hid hO; clear hI hF hO) | (go_at_call 107; refine (HX.out _ _ HI1.out HF1.out).mono ?_; rintro e w2 ⟨rfl, x2, hI, hF, hO⟩; have HI2 := Lib.hid hI; have HF2 := Lib.hid hF; have HO2 := Lib.hid (hO _ _ _ _ HLT.out HO1.out); clear hI hF hO) | (go_at_call 67; refine (HA.out _ _ _ _ HI2.out HF2.out HO2.out).mono ?_; rintro e w3 ⟨x3, vo, rfl, he⟩; have HE := Lib.hid he; clear he) | (go_at_call 65; refine (HN.out _ _ HE.out.1 HE.out.2.1).mono ?_; rintro e w4 ⟨rfl, he4⟩; have HE4 := Lib.hid he4; clear he4))
  go_ret
  obtain ⟨x4, h1, h2⟩ := HE4.out
  exact ⟨x4, rfl, h1, h2⟩
/-- What Same lays. -/
def sameStep (s : List Gat × Nat) (q : Nat × Nat) : List Gat × Nat := (s.1 ++ xorL s.1.length q.1 q.2 ++ notL (s.1.length + 4) (s.1.length + 3) ++ [((5, ((s.2 : Nat) : Int), ((s.1.length + 5 : Nat) : Int), 0) : Gat)], s.1.length + 6)
def sameSt (G : List Gat) (ps : List (Nat × Nat)) : List Gat × Nat := ps.foldl sameStep (G ++ conL 1, G.length)
theorem sameSt_succ (G : List Gat) (ps : List (Nat × Nat)) (k : Nat) (h : k < ps.length) : sameSt G (ps.take (k + 1)) = sameStep (sameSt G (ps.take k)) ps[k] := by
  unfold sameSt
  rw [List.take_succ_eq_append_getElem h, List.foldl_append]
  rfl
theorem sameSt_len (G : List Gat) (ps : List (Nat × Nat)) : ∀ k, k ≤ ps.length → (sameSt G (ps.take k)).1.length = G.length + 1 + 7 * k ∧ (sameSt G (ps.take k)).2 < (sameSt G (ps.take k)).1.length := by
  intro k
  induction k with
  | zero => intro _; exact ⟨by simp [sameSt, conL], by simp [sameSt, conL]⟩
  | succ k ih =>
    intro h
    obtain ⟨h1, _⟩ := ih (by omega)
    rw [sameSt_succ G ps k (by omega)]
    refine ⟨?_, ?_⟩
    · simp only [sameStep, List.length_append, h1]; simp only [xorL, notL, List.length_cons, List.length_nil]; omega
    · simp only [sameStep, List.length_append]; simp only [xorL, notL, List.length_cons, List.length_nil]; omega
set_option maxHeartbeats 4000000 in
set_option maxRecDepth 100000 in
theorem same_ok (B p : Nat) (hp : 1 < p) (sl : List Slo) (G : List Gat) (xs : List Exi) (v1 v2 v3 : Value) (vs ws : List Nat) (VA WA : Option Addr) (vc wc : Nat) (hlen : ws.length = vs.length) (hl : vs.length ≤ 65536) (hvs : ∀ x ∈ vs, x < G.length) (hws : ∀ x ∈ ws, x < G.length) (hf : G.length + 1 + 7 * vs.length ≤ 65536) (w : World) (h : IsB B p sl G xs v1 v2 v3 w) (hV : ∀ W v, Fr B v2 v w W → Reads W VA (nCells vs)) (hW : ∀ W v, Fr B v2 v w W → Reads W WA (nCells ws)) :
    Calls Try.prog 35 #[.iface 115 (.agg #[.pointer (some ⟨B, 0, none⟩)]), .slice VA vs.length vc, .slice WA vs.length wc] w fun e W' => ∃ v, e = .returned (.int .i64 (((sameSt G (vs.zip ws)).2 : Nat) : Int)) ∧ IsB B p sl (sameSt G (vs.zip ws)).1 xs v1 v v3 W' ∧ Fr B v2 v w W' := by
  have mFixed := fun W => mFixed B W
  have mProduct := fun W => mProduct B W
  have nProduct := fun W => nProduct B W
  simp only [Nat.reduceAdd] at mFixed mProduct nProduct
  have hzl : (vs.zip ws).length = vs.length := by rw [List.length_zip, hlen]; omega
  have HL := Lib.hid (sameSt_len G (vs.zip ws))
  have HS := Lib.hid (sameSt_succ G (vs.zip ws))
  have HVS := Lib.hid hvs; have HWS := Lib.hid hws; have HV := Lib.hid hV; have HW := Lib.hid hW; have HB := Lib.hid h; have HF := Lib.hid hf; have HLT := Lib.hid h.lt; have HP := Lib.hid hp
  have HZ := Lib.hid hzl
  have HE := Lib.hid hlen
  have HH : Hid (sameSt G ((vs.zip ws).take 0) = (G ++ conL 1, G.length)) := Lib.hid rfl
  have HX : Hid (∀ W, Below w.heap.size w W → Calls Try.prog 107 #[.agg #[.pointer (some ⟨B, 0, none⟩)], .int .u64 1] W fun e W' => e = .returned (.int .i64 ((G.length : Nat) : Int)) ∧ ∃ v', IsB B p sl (G ++ conL 1) xs v1 v' v3 W' ∧ Fr B v2 v' w W') :=
    Lib.hid fun W hb => (fixed_row B p hp sl G xs v1 v2 v3 1 (by omega) (by omega) w W v2 (Fr.of_below hb) (h.below hb)).mono fun _ _ he => ⟨he.1, by obtain ⟨_, v', h1, h2, _⟩ := he; exact ⟨v', h1, h2⟩⟩
  clear hvs hws hV hW h hf hp hzl hlen
  go_enter Try.func35, Try.ntmps35
  go_wp2_with (go_at_call 107; refine (HX.out _ (Below.refl _ _)).mono ?_; rintro e w1 ⟨rfl, x1, hI, hF⟩; have HI1 := Lib.hid hI; have HF1 := Lib.hid hF; clear hI hF)
  go_loopg [7, 14] vs.length (fun g a' i' wr => ∃ (k : Nat) (Gk : List Gat) (ak : Nat) (vk : Value), k ≤ vs.length ∧ g = vs.length - k ∧ a' = .int .i64 ((ak : Nat) : Int) ∧ i' = .int .i64 k ∧ Hid (sameSt G ((vs.zip ws).take k) = (Gk, ak)) ∧ IsB B p sl Gk xs v1 vk v3 wr ∧ Fr B v2 vk w wr)
  case atStart => exact ⟨0, G ++ conL 1, G.length, x1, Nat.zero_le _, rfl, rfl, rfl, HH, HI1.out, HF1.out⟩
  case round =>
    clear HI1 HF1
    obtain ⟨k, Gk, ak, vk, hk, rfl, rfl, rfl, hst, hIk, hFk⟩ := hrel
    have HI0 := Lib.hid hIk; have HF0 := Lib.hid hFk
    clear hIk hFk
    by_cases hlt : k < vs.length
    · have hlz : k < (vs.zip ws).length := by rw [HZ.out]; exact hlt
      have hlw : k < ws.length := by have := HE.out; omega
      obtain ⟨vad, hva, q0⟩ := (HV.out _ _ HF0.out).nat k hlt
      obtain ⟨wad, hwa, q1⟩ := (HW.out _ _ HF0.out).nat k hlw
      have hcell : Hid (∀ W v, Fr B v2 v w W → W.cell? (wad.add k) = some (.int .i64 ((ws[k] : Nat) : Int))) := Lib.hid fun W v hF => by
        obtain ⟨wad', e1, e2⟩ := (HW.out _ _ hF).nat k hlw
        rw [hwa] at e1
        injection e1 with e1
        rw [e1]; exact e2
      have hsu := HS.out k hlz
      have hL := HL.out k (by omega)
      rw [hst.out] at hsu hL
      simp only at hL
      obtain ⟨hL1, hL2⟩ := hL
      have hav := HVS.out _ (List.getElem_mem hlt)
      have hbv := HWS.out _ (List.getElem_mem hlw)
      have hp := HP.out
      have hf := HF.out
      rw [List.getElem_zip] at hsu
      generalize vs[k] = a at *
      generalize ws[k] = b at *
      have h1 : Hid (∀ W0 W v, IsB B p sl Gk xs v1 v v3 W0 → Fr B v2 v w W0 → Below W0.heap.size W0 W → Calls Try.prog 66 #[.iface 115 (.agg #[.pointer (some ⟨B, 0, none⟩)]), .int .i64 ((a : Nat) : Int), .int .i64 ((b : Nat) : Int)] W fun e W' => e = .returned (.int .i64 ((Gk.length + 3 : Nat) : Int)) ∧ ∃ v', IsB B p sl (Gk ++ xorL Gk.length a b) xs v1 v' v3 W' ∧ Fr B v2 v' w W') :=
        Lib.hid fun W0 W v hI hF hB => (xor_ok B p hp sl Gk xs v1 v v3 a b (by omega) (by omega) (by omega) W (hI.below hB)).mono fun _ _ he => OkPost.chain (hF.below hB) he
      have hx4 : (Gk ++ xorL Gk.length a b).length = Gk.length + 4 := by simp [xorL]
      have h2 : Hid (∀ W0 W v, IsB B p sl (Gk ++ xorL Gk.length a b) xs v1 v v3 W0 → Fr B v2 v w W0 → Below W0.heap.size W0 W → Calls Try.prog 65 #[.iface 115 (.agg #[.pointer (some ⟨B, 0, none⟩)]), .int .i64 ((Gk.length + 3 : Nat) : Int)] W fun e W' => e = .returned (.int .i64 ((Gk.length + 5 : Nat) : Int)) ∧ ∃ v', IsB B p sl (Gk ++ xorL Gk.length a b ++ notL (Gk.length + 4) (Gk.length + 3)) xs v1 v' v3 W' ∧ Fr B v2 v' w W') :=
        Lib.hid fun W0 W v hI hF hB => (not_ok B p hp sl _ xs v1 v v3 (Gk.length + 3) (by omega) (by omega) W (hI.below hB)).mono fun _ _ he => by have h5 := OkPost.chain (hF.below hB) he; rw [hx4] at h5; exact h5
      have hx6 : (Gk ++ xorL Gk.length a b ++ notL (Gk.length + 4) (Gk.length + 3)).length = Gk.length + 6 := by simp [xorL, notL]
      have h3 : Hid (∀ W0 W v, IsB B p sl (Gk ++ xorL Gk.length a b ++ notL (Gk.length + 4) (Gk.length + 3)) xs v1 v v3 W0 → Fr B v2 v w W0 → Below W0.heap.size W0 W → Calls Try.prog 109 #[.agg #[.pointer (some ⟨B, 0, none⟩)], .int .i64 ((ak : Nat) : Int), .int .i64 ((Gk.length + 5 : Nat) : Int)] W fun e W' => e = .returned (.int .i64 ((Gk.length + 6 : Nat) : Int)) ∧ ∃ v', IsB B p sl (Gk ++ xorL Gk.length a b ++ notL (Gk.length + 4) (Gk.length + 3) ++ [((5, ((ak : Nat) : Int), ((Gk.length + 5 : Nat) : Int), 0) : Gat)]) xs v1 v' v3 W' ∧ Fr B v2 v' w W') :=
        Lib.hid fun W0 W v hI hF hB => (product_ok B p (by omega) sl _ xs v1 v v3 ak (Gk.length + 5) (by omega) (by omega) (by omega) W (hI.below hB)).mono fun _ _ he => by have h5 := OkPost.chain (hF.below hB) he; rw [hx6] at h5; exact h5
      have HSU : Hid (sameSt G ((vs.zip ws).take (k + 1)) = (Gk ++ xorL Gk.length a b ++ notL (Gk.length + 4) (Gk.length + 3) ++ [((5, ((ak : Nat) : Int), ((Gk.length + 5 : Nat) : Int), 0) : Gat)], Gk.length + 6)) := Lib.hid hsu
      clear hsu hL1 hL2 hav hbv hp hf hx4 hx6
      generalize Gk ++ xorL Gk.length a b ++ notL (Gk.length + 4) (Gk.length + 3) ++ [((5, ((ak : Nat) : Int), ((Gk.length + 5 : Nat) : Int), 0) : Gat)] = G3 at *
      generalize Gk ++ xorL Gk.length a b ++ notL (Gk.length + 4) (Gk.length + 3) = G2 at *
      generalize Gk ++ xorL Gk.length a b = G1 at *
      subst hva
      subst hwa
      have i1 : (0 : Int) ≤ (k : Int) := by omega
      have i2 : (k : Int) < (vs.length : Int) := by omega
      go_upto_region 5 with fail
      go_region_held3 (fun W => W.cell? (wad.add k) = some (.int .i64 ((b : Nat) : Int))) ((first | exact hcell.out _ _ HF3.out | exact hcell.out _ _ (HF3.out.below (Below.refl _ _).drew) | exact hcell.out _ _ HF2.out | exact hcell.out _ _ (HF2.out.below (Below.refl _ _).drew) | exact hcell.out _ _ HF1.out | exact hcell.out _ _ (HF1.out.below (Below.refl _ _).drew) | exact hcell.out _ _ HF0.out | exact hcell.out _ _ (HF0.out.below (Below.refl _ _).drew))) (first | (go_at_call 66; refine (h1.out _ _ _ HI0.out HF0.out (by repeat (first | exact Below.refl _ _ | refine Below.drew ?_ | refine Below.alloc ?_ (by simp) _))).mono ?_; rintro e w1 ⟨rfl, x1, hI, hF⟩; have HI1 := Lib.hid hI; have HF1 := Lib.hid hF; clear hI hF) | (go_at_call 65; refine (h2.out _ _ _ HI1.out HF1.out (by repeat (first | exact Below.refl _ _ | refine Below.drew ?_ | refine Below.alloc ?_ (by simp) _))).mono ?_; rintro e w2 ⟨rfl, x2, hI, hF⟩; have HI2 := Lib.hid hI; have HF2 := Lib.hid hF; clear hI hF) | (go_at_call 109; refine (h3.out _ _ _ HI2.out HF2.out (by repeat (first | exact Below.refl _ _ | refine Below.drew ?_ | refine Below.alloc ?_ (by simp) _))).mono ?_; rintro e w3 ⟨rfl, x3, hI, hF⟩; have HI3 := Lib.hid hI; have HF3 := Lib.hid hF; clear hI hF))
      all_goals go_wp2
      all_goals go_roundg (vs.length - (k + 1))
      all_goals first
        | omega
        | exact ⟨k + 1, G3, Gk.length + 6, x3, by omega, rfl, rfl, by go_num, HSU, HI3.out, HF3.out⟩
    · obtain rfl : k = vs.length := by omega
      have hst' := hst.out
      rw [List.take_of_length_le (by rw [HZ.out]; exact Nat.le_refl _)] at hst'
      have HST := Lib.hid hst'
      clear hst'
      go_wp2
      go_ret
      refine ⟨vk, ?_, ?_, HF0.out⟩
      · rw [HST.out]; rfl
      · rw [HST.out]; exact HI0.out
end Go.Proofs.Ytkcdlbclodjjhaa
