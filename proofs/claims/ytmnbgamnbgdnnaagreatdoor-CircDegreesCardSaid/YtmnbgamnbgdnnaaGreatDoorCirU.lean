/- Contract of circ.slots: the line of a circuit's slots. -/
import Derived.Test.YtmnbgamnbgdnnaaGreatDoorCirT
import Derived.Test.YtmnbgamnbgdnnaaGreatDoorShelfB
import Derived.Deep.AppendLies
namespace Go.Proofs.YtmnbgamnbgdnnaaGreatDoor
open Go.RowKit

section
variable {P : Program} {ops : Array Oper} {rest : List Oper} {o : Oper} {a : Act} {Q : Exit → Act → World → Prop}
/-- One element of several cells is appended to a row of the call's own: the element's box has just been laid. -/
theorem app_cells {W : World} (base : Nat) (hgd : o.guard = none) (s x : Operand) (t e : TypeId) (z : Value) (size bytes : Nat)
    (ho : o.op = .call { callee := .builtin .append, args := #[s, x], argTypes := #[t, t] })
    (ht : P.underlying t = some (.slice e)) (hinfo : (P.info? e).map (fun i => (i.zero, i.size, i.bytes)) = some (some z, size, bytes)) (hz : z.cells.size = size) (hs0 : 0 < size) (hb0 : 0 < bytes)
    (v : Value) (n : Nat) (xs ys : List Value) (hs : a.eval s = v) (g : Nat) (hx : a.eval x = .slice (some ⟨g, 0, none⟩) 1 1) (hg0 : W.heap.size = g) (hys : ys.length = size) (h1 : ∀ u ∈ ys, u.oneCell' = true)
    (HO : W.ownsRow base e size v n xs) (hbase : base ≤ W.heap.size) (hl : (n + 1) * bytes ≤ 140737488355328)
    (h : ∀ v1 w1, w1.ownsRow base e size v1 (n + 1) (xs ++ ys) → W.grownBy w1 v.ownBlock → wpList P ops Q rest (a.put o.dst v1) w1) :
    wpList P ops Q (o :: rest) a (W.alloc (.cells ys.toArray e)) := by
  obtain ⟨i0, hi, hzz⟩ := Option.map_eq_some_iff.1 hinfo
  simp only [Prod.mk.injEq] at hzz
  obtain ⟨hz0, hz1, hz2⟩ := hzz
  subst hg0
  have hlen : n + 1 ≤ 140737488355328 := Nat.le_trans (Nat.le_mul_of_pos_right _ hb0) hl
  exact wpList_append_own (W.alloc (.cells ys.toArray e)) hgd s x t ho base e i0 z size bytes ht hi hz0 hz1 hz2 hz hs0 v n xs hs (HO.alloc _) ⟨W.heap.size, 0, none⟩ 1 1 ys hx (by rw [hys]; simp)
    (by simpa using World.news_of_block (cs := ys.toArray) (t := e) (fr := (0, 0)) (heap_alloc_new W (.cells ys.toArray e))) h1 (by simp only [maxLen]; omega) hl (by simp; omega)
    fun v1 w1 hown hg _ => h v1 w1 hown (World.grownBy.trans (World.grownBy_alloc W _ _) hg)
end


theorem infoStr : (Tryz.prog.info? 9).map (fun i => (i.zero, i.size, i.bytes)) = some (some (.string ⟨#[]⟩), 1, 16) := by kernel_rfl
def sCells (l : List Bs) : List Value := l.map fun x => Value.string ⟨x.toArray⟩
theorem ba_eq {s : ByteArray} {l : Bs} (h : s.data.toList = l) : s = ⟨l.toArray⟩ := by subst h; cases s; simp
theorem ba_size {s : ByteArray} {l : Bs} (h : s.data.toList = l) : s.size = l.length := by rw [← h, data_len]
theorem small_num {n : Int} (h : 1 ≤ n ∧ n ≤ 13) : (numI n).length ≤ 2 := (dec_facts 1 n.toNat (by omega)).1
theorem slotLine_succ (l : List Slo) (k : Nat) (h : k < l.length) : slotLine (l.take (k + 1)) = slotLine (l.take k) ++ slotText l[k] := by
  unfold slotLine
  rw [List.take_succ_eq_append_getElem h, List.flatMap_append, List.append_assoc]
  simp
theorem cat_data (a b : ByteArray) : (a ++ b).data.toList = a.data.toList ++ b.data.toList := by simp
theorem slotLine_len (l : List Slo) (hx : ∀ x ∈ l, 1 ≤ x.1 ∧ x.1 ≤ 13) : ∀ k, k ≤ l.length → (slotLine (l.take k)).length ≤ 5 + 4 * k := by
  intro k
  induction k with
  | zero => intro _; simp [slotLine, kwSlots]
  | succ k ih =>
    intro h
    have h1 := ih (by omega)
    have h2 := small_num (hx l[k] (List.getElem_mem (by omega)))
    rw [slotLine_succ l k (by omega), List.length_append]
    simp only [slotText, List.length_cons]
    omega
set_option maxRecDepth 100000 in
theorem slots_any (l : List Slo) (hl : l.length ≤ 256) (hx : ∀ x ∈ l, 1 ≤ x.1 ∧ x.1 ≤ 13) (A : Option Addr) (c : Nat) (w : World) (hR : Reads w A (sloCells l)) :
    Calls Tryz.prog 53 #[.slice A l.length c] w (SPost (slotLine l) w) := by
  have HR := Lib.hid hR; clear hR
  have HX := Lib.hid hx
  have HI := Lib.hid (fun (i : Nat) (h : i < 100) W => Tryz.strconv_Itoa_small i h W)
  go_enter Tryz.func53, Tryz.ntmps53
  go_wp2
  go_loopg [3, 9] l.length (fun g s v wr => ∃ (k : Nat) (t : ByteArray), k ≤ l.length ∧ g = l.length - k ∧ v = .int .i64 k ∧ s = .string t ∧ Hid (t.data.toList = slotLine (l.take k)) ∧ Below w.heap.size w wr)
  case atStart => exact ⟨0, ⟨#[115, 108, 111, 116, 115]⟩, Nat.zero_le _, rfl, rfl, rfl, rfl, Below.refl _ _⟩
  case round =>
    obtain ⟨k, t, hk, rfl, rfl, rfl, ht, hbel⟩ := hrel
    have HB := Lib.hid hbel; clear hbel
    have hts := ba_size ht.out
    have hb := slotLine_len l HX.out k hk
    by_cases hlt : k < l.length
    · obtain ⟨ad, rfl, q0, q1⟩ := (HR.out.below HB.out).slo k hlt
      have hin := HX.out _ (List.getElem_mem hlt)
      have hsu := slotLine_succ l k hlt
      have hsm := small_num hin
      have HSU := Lib.hid hsu; clear hsu
      rw [hts.symm] at hb
      clear hts
      generalize l[k] = x at q0 q1 hin HSU hsm
      obtain ⟨n, b⟩ := x
      obtain ⟨n, rfl⟩ : ∃ u : Nat, n = u := ⟨n.toNat, by simp only at hin; omega⟩
      simp only at q0 q1 hin hsm
      have hIt := HI.out n (by omega)
      have HIT := Lib.hid hIt; clear hIt
      have hsz : (Lib.decDigits n).length ≤ 2 := hsm
      cases b
      · go_wp2_with (go_at_call 85; refine (HIT.out _).mono ?_; rintro e w1 ⟨rfl, rfl⟩)
        go_roundg (l.length - (k + 1))
        case measure => omega
        case rel => exact ⟨k + 1, _, by omega, rfl, by go_num, rfl, by rw [HSU.out, cat_data, cat_data, ht.out]; rfl, HB.out.alloc HB.out.size _⟩
      · go_wp2_with (go_at_call 85; refine (HIT.out _).mono ?_; rintro e w1 ⟨rfl, rfl⟩)
        go_roundg (l.length - (k + 1))
        case measure => omega
        case rel => exact ⟨k + 1, _, by omega, rfl, by go_num, rfl, by rw [HSU.out, cat_data, cat_data, ht.out]; rfl, HB.out.alloc HB.out.size _⟩
    · obtain rfl : k = l.length := by omega
      have h := ba_eq ht.out
      rw [List.take_length] at h
      have HE := Lib.hid h; clear h hb hts
      go_wp2
      go_ret
      exact ⟨by rw [HE.out]; rfl, HB.out⟩
end Go.Proofs.YtmnbgamnbgdnnaaGreatDoor
