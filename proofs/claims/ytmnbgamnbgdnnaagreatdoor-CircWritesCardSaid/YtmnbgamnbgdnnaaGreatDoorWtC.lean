/- The walk of the reference's Write: the text of a valid circuit. -/
import Derived.Test.YtmnbgamnbgdnnaaGreatDoorWtB
namespace Go.Proofs.YtmnbgamnbgdnnaaGreatDoor
open Go.RowKit

def GLS (s : Bs) (w : World) (e : Ending) (w' : World) : Prop := ∃ t : ByteArray, e = .returned (.string t) ∧ t.size ≤ 12000 ∧ Hid (t.data.toList = s) ∧ Below w.heap.size w w'
theorem gls_of {s : Bs} (hl : s.length ≤ 12000) {w : World} {e : Ending} {w' : World} (h : SPost s w e w') : GLS s w e w' :=
  ⟨⟨s.toArray⟩, h.1, by show s.toArray.size ≤ 12000; simpa using hl, Lib.hid (by simp), h.2⟩
theorem heap_lt' {W : World} {x : Nat} {o : Obj} (hx : W.heap[x]? = some o) : x < W.heap.size := by
  rcases Nat.lt_or_ge x W.heap.size with h1 | h1
  · exact h1
  · rw [Array.getElem?_eq_none h1] at hx; cases hx
theorem below_at {B : Nat} {a b c : World} (h : Below B a b) (k : Below b.heap.size b c) (hB : B ≤ b.heap.size) : Below B a c := h.trans (k.mono hB)
theorem box_up {w w1 : World} {o : Obj} (h : Below (w.heap.size + 1) (w.alloc o) w1) : Below w.heap.size w w1 := ((Below.refl _ _).alloc (Nat.le_refl _) _).trans (h.mono (by omega))
theorem exitLine_eq (x : ExL) : exitLine x = (kwOut ++ spaced (if x.1 = [] then [kwAll] else x.1.map numI)) ++ [32, 58] ++ spaced (x.2.map numI) := by
  unfold exitLine exitWords
  rw [join_spaced, spaced_app]
  simp [spaced]
/-- What stands before the numbers of an exit's parties. -/
def outHead (tl : List Int) : Bs := kwOut ++ (if tl = [] then 32 :: kwAll else [])
theorem outHead_all (tl : List Int) : outHead tl ++ spaced (tl.map numI) = kwOut ++ spaced (if tl = [] then [kwAll] else tl.map numI) := by
  unfold outHead
  split
  · rename_i h; subst h; simp [spaced]
  · simp
theorem spaced_step (l : List Int) (j : Nat) (h : j < l.length) : spaced ((l.take (j + 1)).map numI) = spaced ((l.take j).map numI) ++ 32 :: numI l[j] := by
  rw [List.take_succ_eq_append_getElem h, List.map_append, List.map_singleton, spaced_snoc]
theorem spaced_bound (l : List Int) (j m : Nat) (h : ∀ i ∈ l, 0 ≤ i ∧ i < 1000000000) (hm : l.length ≤ m) : (spaced ((l.take j).map numI)).length ≤ 10 * m := by
  have h1 := spaced_len ((l.take j).map numI) 9 (by
    intro x hx
    obtain ⟨i, hi, rfl⟩ := List.mem_map.1 hx
    exact num_len (h i (List.mem_of_mem_take hi)))
  have h2 : ((l.take j).map numI).length ≤ m := by simp; omega
  have := Nat.mul_le_mul_right 10 h2
  omega
theorem outHead_len (tl : List Int) : (outHead tl).length ≤ 7 := by unfold outHead kwOut kwAll; split <;> simp
set_option maxHeartbeats 8000000 in
set_option maxRecDepth 100000 in
theorem rwrite_any (p : Nat) (C : Cir) (HF : Fine p C.l) (w : World) (hC : HoldsC w C) :
    Calls Tryz.prog 22 #[.agg #[.slice C.SA C.slots.length C.sc, .slice C.GA C.gates.length C.gc, .slice C.EA C.exits.length C.ec]] w (SPost (textOf C.l) w) := by
  have hb0 : Below w.heap.size w (w.alloc (.cells #[.slice C.SA C.slots.length C.sc, .slice C.GA C.gates.length C.gc, .slice C.EA C.exits.length C.ec] 27)) := (Below.refl _ _).alloc (Nat.le_refl _) _
  have HC := Lib.hid (hC.below hb0)
  obtain ⟨n1, n2, n3⟩ := hC.n
  obtain ⟨m1, m2, m3⟩ := HF.n
  have m1 : C.slots.length ≤ 256 := m1
  have m2 : C.gates.length ≤ 65536 := m2
  have m3 : C.exits.length ≤ 4096 := by have := m3; simpa [Cir.l] using this
  have HN := Lib.hid (fun n h0 h1 W => rnum_s n h0 h1 W)
  have HGL0 := Lib.hid (fun g (hg : g ∈ C.gates) W => (rgline_any HF g hg W).mono (R' := GLS (gateLine g) W) fun e w' h => gls_of (gate_len HF g hg).2 h)
  have HSL := Lib.hid (fun x (hx : x ∈ C.slots) => HF.s x hx)
  have HXX := Lib.hid (fun x (hx : x ∈ C.exits) => HF.x x.l (List.mem_map.2 ⟨x, hx, rfl⟩))
  have HLN := Lib.hid (lines_len HF)
  have hcv := Lib.run_convert_bytes_const (P := Tryz.prog) (w.alloc (.cells #[.slice C.SA C.slots.length C.sc, .slice C.GA C.gates.length C.gc, .slice C.EA C.exits.length C.ec] 27)) 83 5 #[.int .u8 115, .int .u8 108, .int .u8 111, .int .u8 116, .int .u8 115] 5 5 Tryz.underlying83 Tryz.underlying5
  have hnew := heap_alloc_new (w.alloc (.cells #[.slice C.SA C.slots.length C.sc, .slice C.GA C.gates.length C.gc, .slice C.EA C.exits.length C.ec] 27)) (.cells #[.int .u8 115, .int .u8 108, .int .u8 111, .int .u8 116, .int .u8 115] 5 (5, 6))
  have e1 : (w.alloc (.cells #[.slice C.SA C.slots.length C.sc, .slice C.GA C.gates.length C.gc, .slice C.EA C.exits.length C.ec] 27)).heap.size = w.heap.size + 1 := by simp
  rw [e1] at hcv hnew
  have HNEW := Lib.hid hnew
  clear hb0 hC e1 hnew
  go_enter Tryz.func22, Tryz.ntmps22
  go_wp2
  clear hcv
  go_loopg [3, 20] C.slots.length (fun g a v wr => ∃ (k : Nat) (vv : Value), k ≤ C.slots.length ∧ g = C.slots.length - k ∧ a = vv ∧ v = .int .i64 k ∧ BRow wr (w.heap.size + 1) vv (slotLine (C.slots.take k)) ∧ Below (w.heap.size + 1) (w.alloc (.cells #[.slice C.SA C.slots.length C.sc, .slice C.GA C.gates.length C.gc, .slice C.EA C.exits.length C.ec] 27)) wr)
  case atStart => exact ⟨0, _, by omega, rfl, rfl, rfl, .inr ⟨w.heap.size + 1, rfl, Nat.le_refl _, .inr ⟨_, rfl, fun j u hj => by rw [show Lib.byteCells (slotLine (C.slots.take 0)) = [.int .u8 115, .int .u8 108, .int .u8 111, .int .u8 116, .int .u8 115] from by simp [slotLine, kwSlots, Lib.byteCells]] at hj; rw [add_k, cell_in HNEW.out]; simpa using hj⟩⟩, (Below.refl _ _).alloc (by simp) _⟩
  case round =>
    obtain ⟨k, vv, hk, rfl, rfl, rfl, hrow, hbel⟩ := hrel
    have HR := Lib.hid hrow; clear hrow
    have HB := Lib.hid hbel
    have hsz : w.heap.size + 1 ≤ wr.heap.size := by have h5 := hbel.size; simpa using h5
    have c0 := hbel.cell (p := ⟨w.heap.size, 1, none⟩) (by simp)
    have c1 := hbel.cell (p := ⟨w.heap.size, 2, none⟩) (by simp)
    simp at c0 c1
    clear hbel
    by_cases hlt : k < C.slots.length
    · obtain ⟨ad, had, q0, q1⟩ := (HC.out.below (by simpa using HB.out)).s.slo k hlt
      obtain ⟨s1, s2⟩ := HSL.out _ (List.getElem_mem hlt)
      have hlen := slotLine_len C.slots HSL.out k (by omega)
      have HSU := Lib.hid (slotLine_succ C.slots k hlt)
      have HBX := Lib.hid (show Below wr.heap.size wr (wr.alloc (.cells #[.int .i64 C.slots[k].1, .bool C.slots[k].2] 54)) from (Below.refl _ _).alloc (Nat.le_refl _) _)
      rw [had]
      rcases Bool.eq_false_or_eq_true C.slots[k].2 with hb | hb
      · rw [hb] at q1 HBX
        have HSB := Lib.hid (show slotText C.slots[k] = 32 :: 98 :: numI C.slots[k].1 from by unfold slotText; rw [hb]; rfl)
        clear hb
        generalize hxn : C.slots[k].1 = xn at *
        clear hxn
        go_wp2_with (first
          | (go_at_call 59; refine (HN.out _ (by omega) (by omega) _).mono ?_; rintro e w2 ⟨t, rfl, ht, HT, hb⟩; have HBN := Lib.hid hb; have hzn := hb.size; try simp at hzn; have fa : (9223372036854775807 < 2 + t.size) = False := eq_false (by omega); clear hb)
          | (have HR2 := Lib.hid ((HR.out.below HBX.out).below HBN.out); have hzw : w.heap.size + 1 ≤ w2.heap.size := (by omega); refine brow_str rfl _ _ rfl (w.heap.size + 1) _ _ rfl HR2.out _ rfl (by simp only [ByteArray.size_append]; show 0 < 2 + t.size; omega) (by first | (simp only [ByteArray.size_append]; show _ + (2 + t.size) ≤ 140737488355328; omega) | (simp only [ByteArray.size_append, List.length_append]; show _ + (2 + t.size) ≤ 140737488355328; omega) | (simp only [ByteArray.size_append, List.length_append, List.length_cons, List.length_nil]; show _ + (2 + t.size) ≤ 140737488355328; omega)) hzw ?_; intro v3 w3 hrow hg; have HBL := Lib.hid (below_grown hg hzw HR2.out.base); have HRW := Lib.hid hrow; have HG := Lib.hid hg; clear hrow hg))
        rw [← had]
        go_roundg (C.slots.length - (k + 1))
        case measure => omega
        case rel => exact ⟨k + 1, v3, by omega, rfl, rfl, by go_num, by rw [HSU.out, HSB.out]; have h := HRW.out; refine .inl ?_; simpa [HT.out, OwnB] using h, (below_at (below_at HB.out HBX.out hsz) HBN.out (by simp; omega)).trans HBL.out⟩
      · rw [hb] at q1 HBX
        have HSB := Lib.hid (show slotText C.slots[k] = 32 :: 110 :: numI C.slots[k].1 from by unfold slotText; rw [hb]; rfl)
        clear hb
        generalize hxn : C.slots[k].1 = xn at *
        clear hxn
        go_wp2_with (first
          | (go_at_call 59; refine (HN.out _ (by omega) (by omega) _).mono ?_; rintro e w2 ⟨t, rfl, ht, HT, hb⟩; have HBN := Lib.hid hb; have hzn := hb.size; try simp at hzn; have fa : (9223372036854775807 < 2 + t.size) = False := eq_false (by omega); clear hb)
          | (have HR2 := Lib.hid ((HR.out.below HBX.out).below HBN.out); have hzw : w.heap.size + 1 ≤ w2.heap.size := (by omega); refine brow_str rfl _ _ rfl (w.heap.size + 1) _ _ rfl HR2.out _ rfl (by simp only [ByteArray.size_append]; show 0 < 2 + t.size; omega) (by first | (simp only [ByteArray.size_append]; show _ + (2 + t.size) ≤ 140737488355328; omega) | (simp only [ByteArray.size_append, List.length_append]; show _ + (2 + t.size) ≤ 140737488355328; omega) | (simp only [ByteArray.size_append, List.length_append, List.length_cons, List.length_nil]; show _ + (2 + t.size) ≤ 140737488355328; omega)) hzw ?_; intro v3 w3 hrow hg; have HBL := Lib.hid (below_grown hg hzw HR2.out.base); have HRW := Lib.hid hrow; have HG := Lib.hid hg; clear hrow hg))
        rw [← had]
        go_roundg (C.slots.length - (k + 1))
        case measure => omega
        case rel => exact ⟨k + 1, v3, by omega, rfl, rfl, by go_num, by rw [HSU.out, HSB.out]; have h := HRW.out; refine .inl ?_; simpa [HT.out, OwnB] using h, (below_at (below_at HB.out HBX.out hsz) HBN.out (by simp; omega)).trans HBL.out⟩
    · obtain rfl : k = C.slots.length := by omega
      have hlen := slotLine_len C.slots HSL.out C.slots.length (Nat.le_refl _)
      have hr := HR.out
      rw [List.take_length] at hr hlen
      have HR1 := Lib.hid hr; clear hr HR
      have HT1 : Hid (slotLine C.slots ++ [10] = ended ((lineList C.l).take 1)) := Lib.hid (by rw [ended_succ (lineList C.l) 0 (slotLine C.slots) rfl]; simp [ended])
      go_wp2_with (first
        | (have HR2 := Lib.hid (HR1.out.below ((Below.refl wr.heap.size wr).alloc (Nat.le_refl _) (.cells #[.int .u8 10] 5))); refine brow_one rfl _ _ rfl (w.heap.size + 1) _ _ rfl HR2.out 10 _ rfl (by first | (simp; done) | exact cell_drewN' _ _ _) (by first | omega | (simp only [List.length_append]; omega)) (by simp; omega) ?_; intro v3 w3 hrow hg; have HBL := Lib.hid (below_grown hg (by simp; omega) HR2.out.base); have HRW := Lib.hid hrow; have HG := Lib.hid hg; clear hrow hg; have HB3 := Lib.hid ((below_at HB.out ((Below.refl wr.heap.size wr).alloc (Nat.le_refl _) (.cells #[.int .u8 10] 5)) hsz).trans HBL.out); have hsz3 : w.heap.size + 1 ≤ w3.heap.size := (by have h5 := HB3.out.size; simpa using h5); have d0 := HB3.out.cell (p := ⟨w.heap.size, 1, none⟩) (by simp); have d1 := HB3.out.cell (p := ⟨w.heap.size, 2, none⟩) (by simp); simp at d0 d1))
      have HRG : Hid (OwnB w3 (w.heap.size + 1) v3 (ended ((lineList C.l).take 1))) := Lib.hid (by rw [← HT1.out]; exact HRW.out)
      clear HRW HBL HR1 HT1 c0 c1 hlen HG
      go_loopg [3, 40] C.gates.length (fun g a v wr' => ∃ (k : Nat) (vv : Value), k ≤ C.gates.length ∧ g = C.gates.length - k ∧ a = vv ∧ v = .int .i64 k ∧ OwnB wr' (w.heap.size + 1) vv (ended ((lineList C.l).take (1 + k))) ∧ Below (w.heap.size + 1) (w.alloc (.cells #[.slice C.SA C.slots.length C.sc, .slice C.GA C.gates.length C.gc, .slice C.EA C.exits.length C.ec] 27)) wr')
      case atStart => exact ⟨0, v3, by omega, rfl, rfl, rfl, HRG.out, HB3.out⟩
      case round =>
        obtain ⟨k, vv, hk, rfl, rfl, rfl, hrow, hbel⟩ := hrel
        rename World => wq
        have HRQ := Lib.hid hrow; clear hrow
        have HBQ := Lib.hid hbel
        have hszq : w.heap.size + 1 ≤ wq.heap.size := by have h5 := hbel.size; simpa using h5
        have c1 := hbel.cell (p := ⟨w.heap.size, 2, none⟩) (by simp)
        simp at c1
        clear hbel
        have hlen := HLN.out (1 + k)
        by_cases hlt : k < C.gates.length
        · obtain ⟨ad, had, q0, q1, q2, q3⟩ := (HC.out.below (by simpa using HBQ.out)).g.gat k hlt
          have hgl := HGL0.out _ (List.getElem_mem hlt)
          have HSU := Lib.hid (show ended ((lineList C.l).take (1 + k + 1)) = ended ((lineList C.l).take (1 + k)) ++ (gateLine C.gates[k] ++ [10]) from ended_succ (lineList C.l) (1 + k) _ (line_g C.l k hlt))
          have HBX := Lib.hid (show Below wq.heap.size wq (wq.alloc (.cells #[.int .i64 C.gates[k].1, .int .i64 C.gates[k].2.1, .int .i64 C.gates[k].2.2.1, .int .u64 C.gates[k].2.2.2] 69)) from (Below.refl _ _).alloc (Nat.le_refl _) _)
          rw [had]
          have HGL := Lib.hid hgl; clear hgl
          go_wp2_with (first
            | (go_at_call 60; refine (HGL.out _).mono ?_; rintro e w4 ⟨t, rfl, ht, HT, hb⟩; have HBN := Lib.hid hb; have hzn := hb.size; simp at hzn; have fa : (9223372036854775807 < t.size + 1) = False := eq_false (by omega); clear hb)
            | (have HR2 := Lib.hid (((HRQ.out.below HBX.out).below HBN.out).row); have hzw : w.heap.size + 1 ≤ w4.heap.size := (by omega); refine brow_str rfl _ _ rfl (w.heap.size + 1) _ _ rfl HR2.out _ rfl (by simp only [ByteArray.size_append]; show 0 < t.size + 1; omega) (by first | (simp only [ByteArray.size_append]; show _ + (t.size + 1) ≤ 140737488355328; omega) | (simp only [ByteArray.size_append, List.length_append]; show _ + (t.size + 1) ≤ 140737488355328; omega) | (simp only [ByteArray.size_append, List.length_append, List.length_cons, List.length_nil]; show _ + (t.size + 1) ≤ 140737488355328; omega)) hzw ?_; intro v5 w5 hrow hg; have HBLg := Lib.hid (below_grown hg hzw HR2.out.base); have HRWg := Lib.hid hrow; have HGg := Lib.hid hg; clear hrow hg))
          rw [← had]
          go_roundg (C.gates.length - (k + 1))
          case measure => omega
          case rel => exact ⟨k + 1, v5, by omega, rfl, rfl, by go_num, by rw [← Nat.add_assoc, HSU.out]; have h := HRWg.out; simpa [HT.out] using h, (below_at (below_at HBQ.out HBX.out hszq) HBN.out (by simp; omega)).trans HBLg.out⟩
        · obtain rfl : k = C.gates.length := by omega
          go_wp2
          go_loopg [3, 53] C.exits.length (fun g a v wr' => ∃ (k : Nat) (vv : Value), k ≤ C.exits.length ∧ g = C.exits.length - k ∧ a = vv ∧ v = .int .i64 k ∧ OwnB wr' (w.heap.size + 1) vv (ended ((lineList C.l).take (1 + C.gates.length + k))) ∧ Below (w.heap.size + 1) (w.alloc (.cells #[.slice C.SA C.slots.length C.sc, .slice C.GA C.gates.length C.gc, .slice C.EA C.exits.length C.ec] 27)) wr')
          case atStart => exact ⟨0, _, by omega, rfl, rfl, rfl, HRQ.out, HBQ.out⟩
          case round =>
            obtain ⟨k, vv, hk, rfl, rfl, rfl, hrow, hbel⟩ := hrel
            rename World => wx
            have HRX := Lib.hid hrow; clear hrow
            have HBE := Lib.hid hbel
            have hszx : w.heap.size + 1 ≤ wx.heap.size := by have h5 := hbel.size; simpa using h5
            clear hbel
            have hlen := HLN.out (1 + C.gates.length + k)
            by_cases hlt : k < C.exits.length
            · obtain ⟨ad, had, q0, q1⟩ := (HC.out.below (by simpa using HBE.out)).e.exi k hlt
              have hx12 : ∀ W, Below (w.heap.size + 1) (w.alloc (.cells #[.slice C.SA C.slots.length C.sc, .slice C.GA C.gates.length C.gc, .slice C.EA C.exits.length C.ec] 27)) W → Reads W C.exits[k].A (iCells C.exits[k].tl) ∧ Reads W C.exits[k].B (iCells C.exits[k].gl) := fun W h => (HC.out.below (by simpa using h)).x _ (List.getElem_mem hlt)
              obtain ⟨y1, y2, y3, y4⟩ := HXX.out _ (List.getElem_mem hlt)
              have HSU := Lib.hid (ended_succ (lineList C.l) (1 + C.gates.length + k) _ (line_x C.l k (by simpa [Cir.l] using hlt)))
              have HEL : Hid (exitLine (C.l.2.2[k]'(by simpa [Cir.l] using hlt)) = (outHead C.exits[k].tl ++ spaced (C.exits[k].tl.map numI)) ++ [32, 58] ++ spaced (C.exits[k].gl.map numI)) := Lib.hid (by
                have e9 : C.l.2.2[k]'(by simpa [Cir.l] using hlt) = C.exits[k].l := by simp [Cir.l]
                rw [e9, exitLine_eq, ← outHead_all]; rfl)
              rw [had]
              generalize exitLine (C.l.2.2[k]'(by simpa [Cir.l] using hlt)) = EL at *
              generalize C.exits[k] = z at q0 q1 hx12 y1 y2 y3 y4 HEL
              obtain ⟨tl, gl, tA, tB, tc, td⟩ := z
              simp only [Exi.l] at q0 q1 hx12 y1 y2 y3 y4 HEL
              have HX12 := Lib.hid hx12
              have HY1 := Lib.hid y1
              have HY2 := Lib.hid y2
              clear hx12 y1 y2
              generalize ended ((lineList C.l).take (1 + C.gates.length + k)) = T at *
              have HBX := Lib.hid (show Below wx.heap.size wx (wx.alloc (.cells #[.slice tA tl.length tc, .slice tB gl.length td] 72)) from (Below.refl _ _).alloc (Nat.le_refl _) _)
              have HXB := Lib.hid (heap_alloc_new wx (.cells #[.slice tA tl.length tc, .slice tB gl.length td] 72))
              have hT := HY1.out
              have hHD : (outHead tl ++ spaced (tl.map numI) ++ [32, 58]).length ≤ 139 := by
                have h1 := outHead_len tl
                have h2 := spaced_bound tl tl.length 13 (fun i hi => by have := hT i hi; omega) y4
                rw [List.take_length] at h2
                simp only [List.length_append, List.length_cons, List.length_nil]
                omega
              by_cases htl : tl = []
              · subst htl
                have HHD : Hid (outHead [] ++ spaced (([] : List Int).map numI) ++ [32, 58] = [111, 117, 116] ++ [32, 97, 108, 108] ++ [32, 58]) := Lib.hid (by decide)
                generalize outHead [] ++ spaced (([] : List Int).map numI) ++ [32, 58] = HD at *
                go_wp2_with (first
                  | (have HR2 := Lib.hid ((HRX.out.below HBX.out).row); have hzw : w.heap.size + 1 ≤ (wx.alloc (.cells #[.slice tA 0 tc, .slice tB gl.length td] 72)).heap.size := (by simp; omega); refine brow_str rfl _ _ rfl (w.heap.size + 1) _ _ rfl HR2.out _ rfl (by show 0 < 3; omega) (by first | (show _ + 3 ≤ 140737488355328; omega) | (simp only [List.length_append, List.length_cons, List.length_nil]; show _ + 3 ≤ 140737488355328; omega)) hzw ?_; intro va wa hrow hg; have HBLa := Lib.hid (below_grown hg hzw HR2.out.base); have HRWa := Lib.hid (show OwnB wa (w.heap.size + 1) va (T ++ [111, 117, 116]) from hrow); have HGa := Lib.hid hg; clear hrow hg; have HXBa := Lib.hid (box_kept (HRX.out.below HBX.out) HXB.out (by decide) HGa.out); have p0 : wa.cell? ⟨wx.heap.size, 0, none⟩ = some (.slice tA 0 tc) := (by rw [cell_in HXBa.out]; rfl); have p1 : wa.cell? ⟨wx.heap.size, 1, none⟩ = some (.slice tB gl.length td) := (by rw [cell_in HXBa.out]; rfl); have hza : w.heap.size + 1 ≤ wa.heap.size := (by have h5 := HBLa.out.size; simp at h5; omega); have hya : wx.heap.size < wa.heap.size := (by have h5 := HGa.out.size; simp at h5; omega))
                  | (have HR2 := Lib.hid (HRWa.out.row); have hzw : w.heap.size + 1 ≤ wa.heap.size := (by omega); refine brow_str rfl _ _ rfl (w.heap.size + 1) _ _ rfl HR2.out _ rfl (by show 0 < 4; omega) (by first | (show _ + 4 ≤ 140737488355328; omega) | (simp only [List.length_append, List.length_cons, List.length_nil]; show _ + 4 ≤ 140737488355328; omega)) hzw ?_; intro vb wb hrow hg; have HBLb := Lib.hid (below_grown hg hzw HR2.out.base); have HRWb := Lib.hid (show OwnB wb (w.heap.size + 1) vb (T ++ [111, 117, 116] ++ [32, 97, 108, 108]) from hrow); have HGb := Lib.hid hg; clear hrow hg; have HXBb := Lib.hid (box_kept HRWa.out HXBa.out (by decide) HGb.out); have p0 : wb.cell? ⟨wx.heap.size, 0, none⟩ = some (.slice tA 0 tc) := (by rw [cell_in HXBb.out]; rfl); have p1 : wb.cell? ⟨wx.heap.size, 1, none⟩ = some (.slice tB gl.length td) := (by rw [cell_in HXBb.out]; rfl); have hzb : w.heap.size + 1 ≤ wb.heap.size := (by have h5 := HGb.out.size; omega); have hyb : wx.heap.size < wb.heap.size := (by have h5 := HGb.out.size; omega)))
                go_loopg [3, 68] 0 (fun g a v wr' => a = vb ∧ v = .int .i64 0 ∧ wb = wr')
                case atStart => exact ⟨rfl, rfl, rfl⟩
                case round =>
                  obtain ⟨rfl, rfl, rfl⟩ := hrel
                  go_wp2_with (first
                    | (have HR2 := Lib.hid (HRWb.out.row); have hzw : w.heap.size + 1 ≤ wb.heap.size := (by omega); refine brow_str rfl _ _ rfl (w.heap.size + 1) _ _ rfl HR2.out _ rfl (by show 0 < 2; omega) (by first | (show _ + 2 ≤ 140737488355328; omega) | (simp only [List.length_append, List.length_cons, List.length_nil]; show _ + 2 ≤ 140737488355328; omega)) hzw ?_; intro vc wc hrow hg; have HBLc := Lib.hid (below_grown hg hzw HR2.out.base); have HRWc := Lib.hid hrow; have HGc := Lib.hid hg; clear hrow hg; have HXBc := Lib.hid (box_kept HRWb.out HXBb.out (by decide) HGc.out); have p0 : wc.cell? ⟨wx.heap.size, 0, none⟩ = some (.slice tA 0 tc) := (by rw [cell_in HXBc.out]; rfl); have p1 : wc.cell? ⟨wx.heap.size, 1, none⟩ = some (.slice tB gl.length td) := (by rw [cell_in HXBc.out]; rfl); have hzc : w.heap.size + 1 ≤ wc.heap.size := (by have h5 := HGc.out.size; omega)))
                  have HROW : Hid (OwnB wc (w.heap.size + 1) vc (T ++ HD)) := Lib.hid (by rw [HHD.out]; have h := HRWc.out; simpa using h)
                  have HBEX := Lib.hid ((((below_at HBE.out HBX.out hszx).trans HBLa.out).trans HBLb.out).trans HBLc.out)
                  go_loopg [3, 83] gl.length (fun g a v wr' => ∃ (j : Nat) (vv : Value), j ≤ gl.length ∧ g = gl.length - j ∧ a = vv ∧ v = .int .i64 j ∧ OwnB wr' (w.heap.size + 1) vv (T ++ HD ++ spaced ((gl.take j).map numI)) ∧ Below (w.heap.size + 1) (w.alloc (.cells #[.slice C.SA C.slots.length C.sc, .slice C.GA C.gates.length C.gc, .slice C.EA C.exits.length C.ec] 27)) wr')
                  case atStart => exact ⟨0, _, by omega, rfl, rfl, rfl, by simpa [spaced] using HROW.out, HBEX.out⟩
                  case round =>
                    obtain ⟨j, vv, hj, rfl, rfl, rfl, hrow, hbel⟩ := hrel
                    rename World => wg
                    have HRJ := Lib.hid hrow; clear hrow
                    have HBJ := Lib.hid hbel
                    have hszj : w.heap.size + 1 ≤ wg.heap.size := by have h5 := hbel.size; simpa using h5
                    clear hbel
                    have hsp := spaced_bound gl j 1024 (fun i hi => by have := HY2.out i hi; omega) y3
                    by_cases hjl : j < gl.length
                    · obtain ⟨ae, hae, r0⟩ := (HX12.out wg HBJ.out).2.i j hjl
                      obtain ⟨i1, i2⟩ := HY2.out _ (List.getElem_mem hjl)
                      have HSJ := Lib.hid (spaced_step gl j hjl)
                      rw [hae]
                      generalize gl[j] = gi at *
                      go_wp2_with (first
                        | (go_at_call 59; refine (HN.out _ (by omega) (by omega) _).mono ?_; rintro e wm ⟨t, rfl, ht, HT, hb⟩; have HBN := Lib.hid hb; have hzn := hb.size; try simp at hzn; have fa : (9223372036854775807 < 1 + t.size) = False := eq_false (by omega); clear hb)
                        | (have HR2 := Lib.hid ((HRJ.out.below HBN.out).row); have hzw : w.heap.size + 1 ≤ wm.heap.size := (by omega); refine brow_str rfl _ _ rfl (w.heap.size + 1) _ _ rfl HR2.out _ rfl (by simp only [ByteArray.size_append]; show 0 < 1 + t.size; omega) (by first | (simp only [ByteArray.size_append]; show _ + (1 + t.size) ≤ 140737488355328; omega) | (simp only [ByteArray.size_append, List.length_append]; show _ + (1 + t.size) ≤ 140737488355328; omega) | (simp only [ByteArray.size_append, List.length_append, List.length_cons, List.length_nil]; show _ + (1 + t.size) ≤ 140737488355328; omega)) hzw ?_; intro vn wn hrow hg; have HBLn := Lib.hid (below_grown hg hzw HR2.out.base); have HRWn := Lib.hid hrow; have HGn := Lib.hid hg; clear hrow hg))
                      rw [← hae]
                      go_roundg (gl.length - (j + 1))
                      case measure => omega
                      case rel => exact ⟨j + 1, vn, by omega, rfl, rfl, by go_num, by rw [HSJ.out]; have h := HRWn.out; simpa [HT.out] using h, (below_at HBJ.out HBN.out hszj).trans HBLn.out⟩
                    · obtain rfl : j = gl.length := by omega
                      have hr := HRJ.out
                      rw [List.take_length] at hr hsp
                      have HRK := Lib.hid hr; clear hr HRJ
                      go_wp2_with (first
                        | (have HR2 := Lib.hid ((HRK.out.below ((Below.refl wg.heap.size wg).alloc (Nat.le_refl _) (.cells #[.int .u8 10] 5))).row); refine brow_one rfl _ _ rfl (w.heap.size + 1) _ _ rfl HR2.out 10 _ rfl (by first | (simp; done) | exact cell_drewN' _ _ _) (by first | omega | (simp only [List.length_append]; omega)) (by simp; omega) ?_; intro vl wl hrow hg; have HBLl := Lib.hid (below_grown hg (by simp; omega) HR2.out.base); have HRWl := Lib.hid hrow; have HGl := Lib.hid hg; clear hrow hg))
                      rw [← had]
                      go_roundg (C.exits.length - (k + 1))
                      case measure => omega
                      case rel => exact ⟨k + 1, vl, by omega, rfl, rfl, by go_num, by rw [← Nat.add_assoc, HSU.out, HEL.out]; have h := HRWl.out; simpa using h, (below_at HBJ.out ((Below.refl wg.heap.size wg).alloc (Nat.le_refl _) (.cells #[.int .u8 10] 5)) hszj).trans HBLl.out⟩
              · have hl0 : 0 < tl.length := List.length_pos_iff.2 htl
                have f1 : ((tl.length : Int) == 0) = false := by simp; omega
                have f2 : (tl.length == 0) = false := by simp; omega
                have HE0 : Hid (outHead tl = [111, 117, 116]) := Lib.hid (by unfold outHead kwOut; rw [if_neg htl]; rfl)
                have HHD : Hid (outHead tl ++ spaced (tl.map numI) ++ [32, 58] = [111, 117, 116] ++ spaced (tl.map numI) ++ [32, 58]) := Lib.hid (by rw [HE0.out])
                generalize outHead tl ++ spaced (tl.map numI) ++ [32, 58] = HD at *
                clear htl
                go_wp2_with (first
                  | (have HR2 := Lib.hid ((HRX.out.below HBX.out).row); have hzw : w.heap.size + 1 ≤ (wx.alloc (.cells #[.slice tA tl.length tc, .slice tB gl.length td] 72)).heap.size := (by simp; omega); refine brow_str rfl _ _ rfl (w.heap.size + 1) _ _ rfl HR2.out _ rfl (by show 0 < 3; omega) (by first | (show _ + 3 ≤ 140737488355328; omega) | (simp only [List.length_append, List.length_cons, List.length_nil]; show _ + 3 ≤ 140737488355328; omega)) hzw ?_; intro va wa hrow hg; have HBLa := Lib.hid (below_grown hg hzw HR2.out.base); have HRWa := Lib.hid (show OwnB wa (w.heap.size + 1) va (T ++ [111, 117, 116]) from hrow); have HGa := Lib.hid hg; clear hrow hg; have HXBa := Lib.hid (box_kept (HRX.out.below HBX.out) HXB.out (by decide) HGa.out); have p0 : wa.cell? ⟨wx.heap.size, 0, none⟩ = some (.slice tA tl.length tc) := (by rw [cell_in HXBa.out]; rfl); have p1 : wa.cell? ⟨wx.heap.size, 1, none⟩ = some (.slice tB gl.length td) := (by rw [cell_in HXBa.out]; rfl); have hza : w.heap.size + 1 ≤ wa.heap.size := (by have h5 := HBLa.out.size; simp at h5; omega); have hya : wx.heap.size < wa.heap.size := (by have h5 := HGa.out.size; simp at h5; omega)))
                go_loopg [3, 68] tl.length (fun g a v wr' => ∃ (j : Nat) (vv : Value), j ≤ tl.length ∧ g = tl.length - j ∧ a = vv ∧ v = .int .i64 j ∧ OwnB wr' (w.heap.size + 1) vv (T ++ [111, 117, 116] ++ spaced ((tl.take j).map numI)) ∧ wr'.heap[wx.heap.size]? = some (.cells #[.slice tA tl.length tc, .slice tB gl.length td] 72 (0, 0)) ∧ Below (w.heap.size + 1) (w.alloc (.cells #[.slice C.SA C.slots.length C.sc, .slice C.GA C.gates.length C.gc, .slice C.EA C.exits.length C.ec] 27)) wr')
                case atStart => exact ⟨0, _, by omega, rfl, rfl, rfl, by simpa [spaced] using HRWa.out, HXBa.out, (below_at HBE.out HBX.out hszx).trans HBLa.out⟩
                case round =>
                  obtain ⟨j, vv, hj, rfl, rfl, rfl, hrow, hbox, hbel⟩ := hrel
                  rename World => wt
                  have HRJ := Lib.hid hrow; clear hrow
                  have HBJ := Lib.hid hbel
                  have HXJ := Lib.hid hbox
                  have hszj : w.heap.size + 1 ≤ wt.heap.size := by have h5 := hbel.size; simpa using h5
                  clear hbel hbox p0 p1
                  have hsp := spaced_bound tl j 13 (fun i hi => by have := HY1.out i hi; omega) y4
                  by_cases hjl : j < tl.length
                  · obtain ⟨ae, hae, r0⟩ := (HX12.out wt HBJ.out).1.i j hjl
                    obtain ⟨i1, i2⟩ := HY1.out _ (List.getElem_mem hjl)
                    have HSJ := Lib.hid (spaced_step tl j hjl)
                    rw [hae]
                    generalize tl[j] = gi at *
                    go_wp2_with (first
                      | (go_at_call 59; refine (HN.out _ (by omega) (by omega) _).mono ?_; rintro e wm ⟨t, rfl, ht, HT, hb⟩; have HBN := Lib.hid hb; have hzn := hb.size; try simp at hzn; have fa : (9223372036854775807 < 1 + t.size) = False := eq_false (by omega); clear hb)
                      | (have HR2 := Lib.hid ((HRJ.out.below HBN.out).row); have hzw : w.heap.size + 1 ≤ wm.heap.size := (by omega); refine brow_str rfl _ _ rfl (w.heap.size + 1) _ _ rfl HR2.out _ rfl (by simp only [ByteArray.size_append]; show 0 < 1 + t.size; omega) (by first | (simp only [ByteArray.size_append]; show _ + (1 + t.size) ≤ 140737488355328; omega) | (simp only [ByteArray.size_append, List.length_append]; show _ + (1 + t.size) ≤ 140737488355328; omega) | (simp only [ByteArray.size_append, List.length_append, List.length_cons, List.length_nil]; show _ + (1 + t.size) ≤ 140737488355328; omega)) hzw ?_; intro vm wn hrow hg; have HBLm := Lib.hid (below_grown hg hzw HR2.out.base); have HRWm := Lib.hid hrow; have HGm := Lib.hid hg; clear hrow hg; have HXBm := Lib.hid (box_kept (HRJ.out.below HBN.out) ((HBN.out.block _ (heap_lt' HXJ.out)).trans HXJ.out) (by decide) HGm.out)))
                    rw [← hae]
                    go_roundg (tl.length - (j + 1))
                    case measure => omega
                    case rel => exact ⟨j + 1, vm, by omega, rfl, rfl, by go_num, by rw [HSJ.out]; have h := HRWm.out; simpa [HT.out] using h, HXBm.out, (below_at HBJ.out HBN.out hszj).trans HBLm.out⟩
                  · obtain rfl : j = tl.length := by omega
                    have hr := HRJ.out
                    rw [List.take_length] at hr hsp
                    have HRK := Lib.hid hr; clear hr HRJ
                    go_wp2_with (first
                      | (have HR2 := Lib.hid (HRK.out.row); have hzw : w.heap.size + 1 ≤ wt.heap.size := (by omega); refine brow_str rfl _ _ rfl (w.heap.size + 1) _ _ rfl HR2.out _ rfl (by show 0 < 2; omega) (by first | (show _ + 2 ≤ 140737488355328; omega) | (simp only [List.length_append, List.length_cons, List.length_nil]; show _ + 2 ≤ 140737488355328; omega)) hzw ?_; intro vc wc hrow hg; have HBLc := Lib.hid (below_grown hg hzw HR2.out.base); have HRWc := Lib.hid hrow; have HGc := Lib.hid hg; clear hrow hg; have HXBc := Lib.hid (box_kept HRK.out HXJ.out (by decide) HGc.out); have p0 : wc.cell? ⟨wx.heap.size, 0, none⟩ = some (.slice tA tl.length tc) := (by rw [cell_in HXBc.out]; rfl); have p1 : wc.cell? ⟨wx.heap.size, 1, none⟩ = some (.slice tB gl.length td) := (by rw [cell_in HXBc.out]; rfl); have hzc : w.heap.size + 1 ≤ wc.heap.size := (by have h5 := HGc.out.size; omega)))
                    have HROW : Hid (OwnB wc (w.heap.size + 1) vc (T ++ HD)) := Lib.hid (by rw [HHD.out]; have h := HRWc.out; simpa using h)
                    have HBEX := Lib.hid (HBJ.out.trans HBLc.out)
                    go_loopg [3, 83] gl.length (fun g a v wr' => ∃ (j : Nat) (vv : Value), j ≤ gl.length ∧ g = gl.length - j ∧ a = vv ∧ v = .int .i64 j ∧ OwnB wr' (w.heap.size + 1) vv (T ++ HD ++ spaced ((gl.take j).map numI)) ∧ Below (w.heap.size + 1) (w.alloc (.cells #[.slice C.SA C.slots.length C.sc, .slice C.GA C.gates.length C.gc, .slice C.EA C.exits.length C.ec] 27)) wr')
                    case atStart => exact ⟨0, _, by omega, rfl, rfl, rfl, by simpa [spaced] using HROW.out, HBEX.out⟩
                    case round =>
                      obtain ⟨j, vv, hj, rfl, rfl, rfl, hrow, hbel⟩ := hrel
                      rename World => wg
                      have HRJ := Lib.hid hrow; clear hrow
                      have HBJ := Lib.hid hbel
                      have hszj : w.heap.size + 1 ≤ wg.heap.size := by have h5 := hbel.size; simpa using h5
                      clear hbel
                      have hsp := spaced_bound gl j 1024 (fun i hi => by have := HY2.out i hi; omega) y3
                      by_cases hjl : j < gl.length
                      · obtain ⟨ae, hae, r0⟩ := (HX12.out wg HBJ.out).2.i j hjl
                        obtain ⟨i1, i2⟩ := HY2.out _ (List.getElem_mem hjl)
                        have HSJ := Lib.hid (spaced_step gl j hjl)
                        rw [hae]
                        generalize gl[j] = gi at *
                        go_wp2_with (first
                          | (go_at_call 59; refine (HN.out _ (by omega) (by omega) _).mono ?_; rintro e wm ⟨t, rfl, ht, HT, hb⟩; have HBN := Lib.hid hb; have hzn := hb.size; try simp at hzn; have fa : (9223372036854775807 < 1 + t.size) = False := eq_false (by omega); clear hb)
                          | (have HR2 := Lib.hid ((HRJ.out.below HBN.out).row); have hzw : w.heap.size + 1 ≤ wm.heap.size := (by omega); refine brow_str rfl _ _ rfl (w.heap.size + 1) _ _ rfl HR2.out _ rfl (by simp only [ByteArray.size_append]; show 0 < 1 + t.size; omega) (by first | (simp only [ByteArray.size_append]; show _ + (1 + t.size) ≤ 140737488355328; omega) | (simp only [ByteArray.size_append, List.length_append]; show _ + (1 + t.size) ≤ 140737488355328; omega) | (simp only [ByteArray.size_append, List.length_append, List.length_cons, List.length_nil]; show _ + (1 + t.size) ≤ 140737488355328; omega)) hzw ?_; intro vn wn hrow hg; have HBLn := Lib.hid (below_grown hg hzw HR2.out.base); have HRWn := Lib.hid hrow; have HGn := Lib.hid hg; clear hrow hg))
                        rw [← hae]
                        go_roundg (gl.length - (j + 1))
                        case measure => omega
                        case rel => exact ⟨j + 1, vn, by omega, rfl, rfl, by go_num, by rw [HSJ.out]; have h := HRWn.out; simpa [HT.out] using h, (below_at HBJ.out HBN.out hszj).trans HBLn.out⟩
                      · obtain rfl : j = gl.length := by omega
                        have hr := HRJ.out
                        rw [List.take_length] at hr hsp
                        have HRK := Lib.hid hr; clear hr HRJ
                        go_wp2_with (first
                          | (have HR2 := Lib.hid ((HRK.out.below ((Below.refl wg.heap.size wg).alloc (Nat.le_refl _) (.cells #[.int .u8 10] 5))).row); refine brow_one rfl _ _ rfl (w.heap.size + 1) _ _ rfl HR2.out 10 _ rfl (by first | (simp; done) | exact cell_drewN' _ _ _) (by first | omega | (simp only [List.length_append]; omega)) (by simp; omega) ?_; intro vl wl hrow hg; have HBLl := Lib.hid (below_grown hg (by simp; omega) HR2.out.base); have HRWl := Lib.hid hrow; have HGl := Lib.hid hg; clear hrow hg))
                        rw [← had]
                        go_roundg (C.exits.length - (k + 1))
                        case measure => omega
                        case rel => exact ⟨k + 1, vl, by omega, rfl, rfl, by go_num, by rw [← Nat.add_assoc, HSU.out, HEL.out]; have h := HRWl.out; simpa using h, (below_at HBJ.out ((Below.refl wg.heap.size wg).alloc (Nat.le_refl _) (.cells #[.int .u8 10] 5)) hszj).trans HBLl.out⟩
            · obtain rfl : k = C.exits.length := by omega
              have hall : (lineList C.l).take (1 + C.gates.length + C.exits.length) = lineList C.l := List.take_of_length_le (by simp [lineList, Cir.l]; omega)
              have hr := HRX.out
              rw [hall] at hr hlen
              have hne : textOf C.l ≠ [] := by simp [textOf, lineList, ended]
              obtain ⟨gg, cap, rfl, hcells⟩ := brow_reads (show BRow wx (w.heap.size + 1) u3 (textOf C.l) from hr.row) hne
              have hcv := run_convert_bytes_back (P := Tryz.prog) wx 83 9 5 ⟨gg, 0, none⟩ cap (textOf C.l) Tryz.underlying83 Tryz.underlying5 Tryz.underlying9 hcells
              clear hr hcells hall
              have e9 : (ended (lineList C.l)).length = (textOf C.l).length := rfl
              go_wp2
              go_ret
              exact ⟨rfl, box_up HBE.out⟩
end Go.Proofs.YtmnbgamnbgdnnaaGreatDoor
