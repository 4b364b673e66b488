/- Contract of circ.Write. -/
import Derived.Test.YtmnbgamnbgdnnaaGreatDoorCirV
namespace Go.Proofs.YtmnbgamnbgdnnaaGreatDoor
open Go.RowKit

theorem isB_below {B b : Nat} {bs : List Value} {w w' : World} (h : Lib.IsBuilder 85 5 B b bs w) (hb : Below w.heap.size w w') : Lib.IsBuilder 85 5 B b bs w' := by
  have key : ∀ p, Lib.BuilderAt 85 5 B b p bs w → Lib.BuilderAt 85 5 B b p bs w' := fun p h => by
    have hlt := h.lt
    obtain ⟨h1, v, h2, h3, h4⟩ := h
    exact ⟨h1, v, (hb.block b hlt).trans h2, own_below h3 hb, h4⟩
  exact h.elim (fun x => .inl (key _ x)) (fun x => .inr (key _ x))
theorem str_bytes (l : Bs) : Lib.strCells ⟨l.toArray⟩ = Lib.byteCells l := by simp [Lib.strCells, Lib.byteCells]
theorem bytes_app (l k : Bs) : Lib.byteCells (l ++ k) = Lib.byteCells l ++ Lib.byteCells k := by simp [Lib.byteCells]
/-- The builder at b holds this text. -/
def Bld (B b : Nat) (l : Bs) (w : World) : Prop := Lib.IsBuilder 85 5 B b (Lib.byteCells l) w
def LPost (B b : Nat) (l : Bs) (w : World) (e : Ending) (w' : World) : Prop := e = .returned (.tuple #[]) ∧ Bld B b l w' ∧ Below B w w'
set_option maxRecDepth 100000 in
theorem line_any (B b : Nat) (l s : Bs) (w : World) (h : Bld B b l w) (hlen : l.length + (s.length + 1) ≤ 140737488355328) (hB : B ≤ w.heap.size) :
    Calls Tryz.prog 50 #[.string ⟨s.toArray⟩, .pointer (some ⟨b, 0, none⟩)] w (LPost B b (l ++ (s ++ [10])) w) := by
  have h1 := Tryz.Builder_WriteString B b (Lib.byteCells l) ⟨s.toArray⟩ w h (by rw [Lib.byteCells_length, show (⟨s.toArray⟩ : ByteArray).size = s.length from rfl]; omega) hB
  rw [str_bytes, ← bytes_app] at h1
  have H1 := Lib.hid h1; clear h1 h
  have H2 := Lib.hid (fun W (h : Lib.IsBuilder 85 5 B b (Lib.byteCells (l ++ s)) W) (hW : B ≤ W.heap.size) => Tryz.Builder_WriteByte B b (Lib.byteCells (l ++ s)) 10 W h (by rw [Lib.byteCells_length, List.length_append]; omega) hW)
  go_enter Tryz.func50, Tryz.ntmps50
  go_wp2_with (first | (go_at_call 51; refine H1.out.mono ?_; rintro e w1 ⟨rfl, hb1, hbe1⟩; have HB1 := Lib.hid hb1; clear hb1; have HE1 := Lib.hid hbe1; clear hbe1; have hw1 : B ≤ w1.heap.size := (by have := HE1.out.size; omega)) | (go_at_call 52; refine (H2.out _ (.inr HB1.out) hw1).mono ?_; rintro e w2 ⟨rfl, hb2, hbe2⟩; have HB2 := Lib.hid hb2; clear hb2; have HE2 := Lib.hid hbe2; clear hbe2))
  go_end0
  refine ⟨rfl, .inr ?_, HE1.out.trans HE2.out⟩
  rw [← List.append_assoc, bytes_app]
  exact HB2.out

theorem strs_cells {w : World} {N : Nat} {l : List Bs} (h : Strs w N l) : N < w.heap.size ∧ ∀ j x, (l.map fun y => (⟨y.toArray⟩ : ByteArray))[j]? = some x → w.cell? ⟨N, 0 + j, none⟩ = some (.string x) := by
  unfold Strs at h
  refine ⟨(Array.getElem?_eq_some_iff.1 h).1, fun j x hx => ?_⟩
  rw [World.cell?, h]
  simp only [Nat.zero_add]
  rw [List.getElem?_map] at hx
  cases e : l[j]? with
  | none => rw [e] at hx; cases hx
  | some y => rw [e] at hx; injection hx with hx; subst hx; simp [e]
theorem ended_succ (l : List Bs) (k : Nat) (x : Bs) (h : l[k]? = some x) : ended (l.take (k + 1)) = ended (l.take k) ++ (x ++ [10]) := by
  rw [List.take_add_one, h]
  exact ended_snoc _ _
theorem ended_len (l : List Bs) (m : Nat) (h : ∀ x ∈ l, x.length ≤ m) : (ended l).length ≤ l.length * (m + 1) := by
  induction l with
  | nil => simp [ended]
  | cons x r ih =>
    have h1 := ih fun y hy => h y (List.mem_cons_of_mem _ hy)
    have h2 := h x (List.mem_cons_self ..)
    have e : ended (x :: r) = (x ++ [10]) ++ ended r := by simp [ended]
    have h3 : (x :: r).length * (m + 1) = r.length * (m + 1) + (m + 1) := Nat.succ_mul _ _
    rw [e, List.length_append, List.length_append, h3]
    simp only [List.length_cons, List.length_nil]
    omega
theorem gate_len {p : Nat} {L : Lis} (h : Fine p L) (g : Gat) (hg : g ∈ L.2.1) : (gateWords g).length ≤ 3 ∧ (gateLine g).length ≤ 12000 := by
  obtain ⟨_, hk, ha, hb, hc⟩ := h.g g hg
  have n1 := num_len (n := g.2.1) (by omega)
  have n2 := num_len (n := g.2.2.1) (by omega)
  have n3 := num_len (n := g.2.2.2) (by omega)
  unfold gateLine gateWords
  repeat' split
  all_goals (rw [join_spaced]; simp [spaced, kwIn, kwConst, kwAdd, kwSub, kwMul, kwScale]; omega)
theorem line_len {p : Nat} {L : Lis} (h : Fine p L) : ∀ x ∈ lineList L, x.length ≤ 12000 := by
  intro x hx
  unfold lineList at hx
  rcases List.mem_cons.1 hx with e | e
  · subst e
    have h1 := slotLine_len L.1 h.s L.1.length (Nat.le_refl _)
    rw [List.take_length] at h1
    have := h.n.1
    omega
  · rcases List.mem_append.1 e with e | e
    · obtain ⟨g, hg, rfl⟩ := List.mem_map.1 e
      exact (gate_len h g hg).2
    · obtain ⟨y, hy, rfl⟩ := List.mem_map.1 e
      exact (exit_len h y hy).2
theorem lines_len {p : Nat} {L : Lis} (h : Fine p L) (k : Nat) : (ended ((lineList L).take k)).length + 12001 ≤ 140737488355328 := by
  have h1 := ended_len ((lineList L).take k) 12000 fun x hx => line_len h x (List.mem_of_mem_take hx)
  have h2 : ((lineList L).take k).length ≤ 69633 := by
    rw [List.length_take]
    have h3 : (lineList L).length = 1 + L.2.1.length + L.2.2.length := by simp [lineList]; omega
    have := h.n
    omega
  have h3 : ((lineList L).take k).length * 12001 ≤ 69633 * 12001 := Nat.mul_le_mul_right _ h2
  omega
theorem line_g (L : Lis) (k : Nat) (h : k < L.2.1.length) : (lineList L)[1 + k]? = some (gateLine L.2.1[k]) := by
  unfold lineList
  rw [show 1 + k = k + 1 by omega, List.getElem?_cons_succ, List.getElem?_append_left (by simpa using h), List.getElem?_map, List.getElem?_eq_getElem h]
  rfl
theorem line_x (L : Lis) (k : Nat) (h : k < L.2.2.length) : (lineList L)[1 + L.2.1.length + k]? = some (exitLine L.2.2[k]) := by
  unfold lineList
  rw [show 1 + L.2.1.length + k = L.2.1.length + k + 1 by omega, List.getElem?_cons_succ, List.getElem?_append_right (by simp), List.length_map, show L.2.1.length + k - L.2.1.length = k by omega, List.getElem?_map, List.getElem?_eq_getElem h]
  rfl
def wrErr (p : Nat) (C : Cir) : Int := if checkErr p C ≠ 0 then checkErr p C else if 4194304 < (textOf C.l).length then 3 else 0
def wrText (p : Nat) (C : Cir) : Bs := if wrErr p C = 0 then textOf C.l else []
def WrPost (p : Nat) (C : Cir) (w : World) (e : Ending) (w' : World) : Prop := e = .returned (.tuple #[.string ⟨(wrText p C).toArray⟩, .int .i64 (wrErr p C)]) ∧ Below w.heap.size w w'
set_option maxRecDepth 100000 in
theorem write_bad (p : Nat) (hp : p < 18446744073709551616) (C : Cir) (w : World) (hC : HoldsC w C) (hbad : checkErr p C ≠ 0) :
    Calls Tryz.prog 21 #[.int .u64 p, .agg #[.slice C.SA C.slots.length C.sc, .slice C.GA C.gates.length C.gc, .slice C.EA C.exits.length C.ec]] w (WrPost p C w) := by
  have hb0 : Below w.heap.size w (w.alloc (.cells #[.slice C.SA C.slots.length C.sc, .slice C.GA C.gates.length C.gc, .slice C.EA C.exits.length C.ec] 27)) := (Below.refl _ _).alloc (Nat.le_refl _) _
  have hck := check_any p hp C _ (hC.below hb0)
  have h1 : wrErr p C = checkErr p C := by unfold wrErr; rw [if_pos hbad]
  have h2 : wrText p C = [] := by unfold wrText; rw [h1, if_neg hbad]
  have H1 := Lib.hid h1
  have H2 := Lib.hid h2
  clear h1 h2 hb0 hC
  have hz : (checkErr p C == 0) = false := by simpa using hbad
  generalize checkErr p C = er at hck hz H1
  have HCK := Lib.hid hck; clear hck hbad
  go_enter Tryz.func21, Tryz.ntmps21
  go_wp2_with (first | (go_at_call 10; refine HCK.out.mono ?_; rintro e w1 ⟨rfl, hb1⟩; have HB1 := Lib.hid hb1; clear hb1))
  go_ret2
  unfold WrPost
  rw [H1.out, H2.out]
  exact ⟨rfl, below_box HB1.out⟩
set_option maxHeartbeats 4000000 in
set_option maxRecDepth 100000 in
theorem write_ok (p : Nat) (hp : p < 18446744073709551616) (C : Cir) (w : World) (hC : HoldsC w C) (htab : PowTab w) (hok : checkErr p C = 0) :
    Calls Tryz.prog 21 #[.int .u64 p, .agg #[.slice C.SA C.slots.length C.sc, .slice C.GA C.gates.length C.gc, .slice C.EA C.exits.length C.ec]] w (WrPost p C w) := by
  have hb0 : Below w.heap.size w (w.alloc (.cells #[.slice C.SA C.slots.length C.sc, .slice C.GA C.gates.length C.gc, .slice C.EA C.exits.length C.ec] 27)) := (Below.refl _ _).alloc (Nat.le_refl _) _
  have hF : Fine p C.l := fine_of (by rw [check_cl]; exact hok) hC.k
  have HF := Lib.hid hF
  have hck := check_any p hp C _ (hC.below hb0)
  rw [hok] at hck
  have HCK := Lib.hid hck; clear hck
  have HC := Lib.hid (hC.below hb0)
  have HT := Lib.hid (htab.below hb0)
  obtain ⟨n1, n2, n3⟩ := hC.n
  have m1 : C.slots.length ≤ 256 ∧ C.gates.length ≤ 65536 ∧ C.exits.length ≤ 4096 := by have := hF.n; simpa [Cir.l] using this
  have HSL := Lib.hid (fun W h => slots_any C.slots m1.1 hF.s C.SA C.sc W h)
  have HL0 := Lib.hid (lines_len hF)
  have HOK := Lib.hid hok
  clear hC htab hb0 hF hok
  go_enter Tryz.func21, Tryz.ntmps21
  go_wp2_with (first | (go_at_call 10; refine HCK.out.mono ?_; rintro e w1 ⟨rfl, hb1⟩; have c0 := hb1.cell (p := ⟨w.heap.size, 0, none⟩) (by simp); have c1 := hb1.cell (p := ⟨w.heap.size, 1, none⟩) (by simp); have c2 := hb1.cell (p := ⟨w.heap.size, 2, none⟩) (by simp); simp at c0 c1 c2; have hsz1 : w.heap.size < w1.heap.size := (by have h5 := hb1.size; simp at h5; omega); have HB1 := Lib.hid hb1; clear hb1; have HFR := Lib.hid (Lib.fresh_isBuilder 85 5 w1); have HBA := Lib.hid ((Below.refl w1.heap.size w1).alloc (Nat.le_refl _) (.cells #[.pointer none, .slice none 0 0] 85))) | (go_at_call 53; refine (HSL.out _ ((HC.out.below HB1.out).s.below HBA.out)).mono ?_; rintro e w2 ⟨rfl, hb2⟩; have hsz2 := hb2.size; simp at hsz2; have HB2 := Lib.hid hb2; clear hb2) | (go_at_call 50; refine (line_any w1.heap.size w1.heap.size [] (slotLine C.slots) w2 (isB_below HFR.out HB2.out) (by have := HL0.out 1; simp [lineList, ended] at this; simp only [List.length_nil]; have e0 : C.l.1 = C.slots := rfl; rw [e0] at this; omega) (by omega)).mono ?_; rintro e w3 ⟨rfl, hb3, hbe3⟩; have HLB := Lib.hid hb3; clear hb3; have HB3 := Lib.hid (HBA.out.trans ((HB2.out.mono (by simp)).trans hbe3)); clear hbe3; have c1 := (HB3.out.cell (p := ⟨w.heap.size, 1, none⟩) hsz1).trans c1))
  have e0 : slotLine C.slots ++ [10] = ended ((lineList C.l).take (1 + 0)) := by simp [lineList, ended, Cir.l]
  rw [List.nil_append, e0] at HLB
  clear c0 HFR HB2 e0
  go_loopg [28] C.gates.length (fun g i wr => ∃ k : Nat, k ≤ C.gates.length ∧ g = C.gates.length - k ∧ i = .int .i64 k ∧ Bld w1.heap.size w1.heap.size (ended ((lineList C.l).take (1 + k))) wr ∧ Below w1.heap.size w1 wr)
  case atStart => exact ⟨0, by omega, rfl, rfl, HLB.out, HB3.out⟩
  case round =>
    obtain ⟨k, hk, rfl, rfl, hbld, hbel⟩ := hrel
    have HD := Lib.hid hbld; clear hbld
    have HB := Lib.hid hbel; clear hbel
    have hszr := HB.out.size
    clear c1
    by_cases hlt : k < C.gates.length
    · obtain ⟨ad, had, q0, q1, q2, q3⟩ := (((HC.out.below HB1.out).below HB.out).g).gat k hlt
      have hmem : C.gates[k] ∈ C.l.2.1 := List.getElem_mem hlt
      have hwd := fun W h => words_any p C.l HF.out C.gates[k] hmem W h
      obtain ⟨hw3, hg12⟩ := gate_len HF.out C.gates[k] hmem
      have hjn' : ∀ N W, N < W.heap.size → (∀ j x, ((gateWords C.gates[k]).map fun y => (⟨y.toArray⟩ : ByteArray))[j]? = some x → W.cell? ⟨N, 0 + j, none⟩ = some (.string x)) → Calls Tryz.prog 54 #[.slice (some ⟨N, 0, none⟩) (gateWords C.gates[k]).length (gateWords C.gates[k]).length, .string ⟨#[32]⟩] W (SPost (gateLine C.gates[k]) W) := fun N W h1 h2 => join_any (gateWords C.gates[k]) (Nat.le_trans hw3 (by decide)) (Nat.le_trans hg12 (by decide)) N (gateWords C.gates[k]).length W h1 (Nat.le_refl _) h2
      have HSU := Lib.hid (ended_succ (lineList C.l) (1 + k) _ (line_g C.l k hlt))
      have hlk := HL0.out (1 + k)
      have e1 : C.l.2.1[k] = C.gates[k] := rfl
      rw [e1] at HSU
      clear e1
      generalize gateWords C.gates[k] = ws at hwd hjn' hw3
      generalize gateLine C.gates[k] = gl at hjn' HSU hg12
      have HWD := Lib.hid hwd; clear hwd
      have HJN := Lib.hid hjn'; clear hjn'
      have HPT : Hid (PowTab wr) := Lib.hid (((HT.out.below HB1.out).below HB.out))
      have hgb : Below wr.heap.size wr (wr.alloc (.cells #[.int .i64 C.gates[k].1, .int .i64 C.gates[k].2.1, .int .i64 C.gates[k].2.2.1, .int .u64 C.gates[k].2.2.2] 69)) := (Below.refl _ _).alloc (Nat.le_refl _) _
      have HGB := Lib.hid hgb; clear hgb
      rw [had]
      go_wp2_with (first | (go_at_call 55; refine (HWD.out _ (HPT.out.below HGB.out)).mono ?_; rintro e w2 ⟨N, rfl, hst, hb2⟩; have HST := Lib.hid (strs_cells hst); clear hst; have HGB2 := Lib.hid (below_alive HGB.out hb2); clear hb2) | (go_at_call 54; refine (HJN.out _ _ HST.out.1 HST.out.2).mono ?_; rintro e w3 ⟨rfl, hb3⟩; have HGB3 := Lib.hid (HGB2.out.trans (hb3.mono HGB2.out.size)); clear hb3) | (go_at_call 50; refine (line_any w1.heap.size w1.heap.size (ended ((lineList C.l).take (1 + k))) gl w3 (isB_below HD.out HGB3.out) (by omega) (by have := HGB3.out.size; omega)).mono ?_; rintro e w4 ⟨rfl, hb4, hbe4⟩; have HLB4 := Lib.hid hb4; clear hb4; have HB4 := Lib.hid (HB.out.trans ((HGB3.out.mono hszr).trans hbe4)); clear hbe4))
      rw [← had]
      go_roundg (C.gates.length - (k + 1))
      case measure => omega
      case rel => exact ⟨k + 1, by omega, rfl, by go_num, by rw [← Nat.add_assoc, HSU.out]; exact HLB4.out, HB4.out⟩
    · obtain rfl : k = C.gates.length := by omega
      have c2 := (HB.out.cell (p := ⟨w.heap.size, 2, none⟩) hsz1).trans c2
      have hHB := HB
      have hHD : Hid (Bld w1.heap.size w1.heap.size (ended ((lineList C.l).take (1 + C.gates.length + 0))) wr) := HD
      clear HB HD HLB HB3
      go_wp2
      clear c2
      go_loopg [41] C.exits.length (fun g i wr => ∃ k : Nat, k ≤ C.exits.length ∧ g = C.exits.length - k ∧ i = .int .i64 k ∧ Bld w1.heap.size w1.heap.size (ended ((lineList C.l).take (1 + C.gates.length + k))) wr ∧ Below w1.heap.size w1 wr)
      case atStart => exact ⟨0, by omega, rfl, rfl, hHD.out, hHB.out⟩
      case round =>
        obtain ⟨k, hk, rfl, rfl, hbld, hbel⟩ := hrel
        clear hHB hHD
        have HD := Lib.hid hbld; clear hbld
        have HB := Lib.hid hbel; clear hbel
        have hszr := HB.out.size
        by_cases hlt : k < C.exits.length
        · have hCr := (HC.out.below HB1.out).below HB.out
          obtain ⟨ad, had, q0, q1⟩ := hCr.e.exi k hlt
          obtain ⟨rA, rB⟩ := hCr.x _ (List.getElem_mem hlt)
          have hmem : C.exits[k].l ∈ C.l.2.2 := List.mem_map.2 ⟨_, List.getElem_mem hlt, rfl⟩
          obtain ⟨hx1, hx2, hx3, hx4⟩ := HF.out.x _ hmem
          have hxl := exit_len HF.out _ hmem
          have HSU := Lib.hid (ended_succ (lineList C.l) (1 + C.gates.length + k) _ (line_x C.l k (by simpa [Cir.l] using hlt)))
          have e1 : C.l.2.2[k]'(by simpa [Cir.l] using hlt) = C.exits[k].l := by simp [Cir.l]
          rw [e1] at HSU
          have hgb : Below wr.heap.size wr (wr.alloc (.cells #[.slice C.exits[k].A C.exits[k].tl.length C.exits[k].c, .slice C.exits[k].B C.exits[k].gl.length C.exits[k].d] 72)) := (Below.refl _ _).alloc (Nat.le_refl _) _
          have htd := told_any C.exits[k] hx1 hx2 hx4 hx3 hxl _ ((((HT.out.below HB1.out).below HB.out)).below hgb) (rA.below hgb) (rB.below hgb)
          have hlk := HL0.out (1 + C.gates.length + k)
          have hxl2 := hxl.2
          clear e1 hCr rA rB hx1 hx2 hx3 hx4 hxl hmem
          generalize exitLine C.exits[k].l = xl at htd HSU hxl2
          have HTD := Lib.hid htd; clear htd
          have HGB := Lib.hid hgb; clear hgb
          rw [had]
          go_wp2_with (first | (go_at_call 56; refine HTD.out.mono ?_; rintro e w3 ⟨rfl, hb3⟩; have HGB3 := Lib.hid (below_alive HGB.out hb3); clear hb3) | (go_at_call 50; refine (line_any w1.heap.size w1.heap.size (ended ((lineList C.l).take (1 + C.gates.length + k))) xl w3 (isB_below HD.out HGB3.out) (by omega) (by have := HGB3.out.size; omega)).mono ?_; rintro e w4 ⟨rfl, hb4, hbe4⟩; have HLB4 := Lib.hid hb4; clear hb4; have HB4 := Lib.hid (HB.out.trans ((HGB3.out.mono hszr).trans hbe4)); clear hbe4))
          rw [← had]
          go_roundg (C.exits.length - (k + 1))
          case measure => omega
          case rel => exact ⟨k + 1, by omega, rfl, by go_num, by rw [← Nat.add_assoc, HSU.out]; exact HLB4.out, HB4.out⟩
        · obtain rfl : k = C.exits.length := by omega
          have hd := HD.out
          rw [List.take_of_length_le (by simp [lineList, Cir.l]; omega)] at hd
          have hlen := Tryz.Builder_Len w1.heap.size w1.heap.size _ wr hd
          rw [Lib.byteCells_length] at hlen
          have hstr := Tryz.Builder_String_any w1.heap.size w1.heap.size _ wr hd hszr
          have hw1 : wrErr p C = if 4194304 < (textOf C.l).length then 3 else 0 := by unfold wrErr; rw [if_neg (by rw [HOK.out]; simp)]
          have ht : ended (lineList C.l) = textOf C.l := rfl
          rw [ht] at hlen hstr
          have HLN := Lib.hid hlen; clear hlen
          have HST := Lib.hid hstr; clear hstr
          have hbf := below_box (below_alive HB1.out HB.out)
          have HL1 := Lib.hid (lines_len HF.out 0)
          clear hlt hk m1 n1 n2 n3 HL0
          have HBF := Lib.hid hbf; clear hbf hd ht
          by_cases hbig : 4194304 < (textOf C.l).length
          · rw [if_pos hbig] at hw1
            have hw2 : wrText p C = [] := by unfold wrText; rw [hw1]; rfl
            have HW1 := Lib.hid hw1; clear hw1
            have HW2 := Lib.hid hw2; clear hw2
            have hsm : (4194304 : Int) < ((textOf C.l).length : Int) := by omega
            clear hbig HD
            generalize textOf C.l = tx at *
            generalize htn : tx.length = tn at *
            clear htn
            go_wp2_with (first | (go_at_call 57; refine HLN.out.mono ?_; rintro e w5 ⟨rfl, rfl⟩))
            go_ret2
            unfold WrPost
            rw [HW1.out, HW2.out]
            exact ⟨rfl, HBF.out⟩
          · rw [if_neg hbig] at hw1
            have hw2 : wrText p C = textOf C.l := by unfold wrText; rw [hw1]; rfl
            have HW1 := Lib.hid hw1; clear hw1
            have HW2 := Lib.hid hw2; clear hw2
            have hsm : ((textOf C.l).length : Int) ≤ 4194304 := by omega
            clear hbig HD
            generalize textOf C.l = tx at *
            generalize htn : tx.length = tn at HLN hsm
            clear htn
            go_wp2_with (first | (go_at_call 57; refine HLN.out.mono ?_; rintro e w5 ⟨rfl, rfl⟩) | (go_at_call 58; refine HST.out.mono ?_; rintro e w6 ⟨rfl, hb6⟩; have HB6 := Lib.hid hb6; clear hb6))
            go_ret2
            unfold WrPost
            rw [HW1.out, HW2.out]
            exact ⟨rfl, HBF.out.trans (HB6.out.mono (by omega))⟩
theorem write_any (p : Nat) (hp : p < 18446744073709551616) (C : Cir) (w : World) (hC : HoldsC w C) (htab : PowTab w) :
    Calls Tryz.prog 21 #[.int .u64 p, .agg #[.slice C.SA C.slots.length C.sc, .slice C.GA C.gates.length C.gc, .slice C.EA C.exits.length C.ec]] w (WrPost p C w) := by
  by_cases h : checkErr p C = 0
  · exact write_ok p hp C w hC htab h
  · exact write_bad p hp C w hC h
end Go.Proofs.YtmnbgamnbgdnnaaGreatDoor
