/- Contract of token.Write. -/
import Derived.Test.YtaccooeodimdaaaDoorTokI
namespace Go.Proofs.YtaccooeodimdaaaDoor
open Go.RowKit

abbrev ITok := Int × ByteArray × Int
def iCells (ts : List ITok) : List Value := ts.flatMap fun t => [.int .i64 t.1, .string t.2.1, .int .i64 t.2.2]
/-- A slice that reads as these cells. -/
def Reads (w : World) (A : Option Addr) (cs : List Value) : Prop := cs = [] ∨ ∃ ad, A = some ad ∧ ∀ j u, cs[j]? = some u → w.cell? (ad.add j) = some u
theorem Reads.below {w w' : World} {A : Option Addr} {cs : List Value} (h : Reads w A cs) (hb : Below w.heap.size w w') : Reads w' A cs := by
  rcases h with h | ⟨ad, h1, h2⟩
  · exact .inl h
  · exact .inr ⟨ad, h1, fun j u hu => (hb.cell (World.block_lt_of_cell? w _ (h2 j u hu))).trans (h2 j u hu)⟩
theorem iCells_len (ts : List ITok) : (iCells ts).length = 3 * ts.length := by
  induction ts with
  | nil => rfl
  | cons t r ih => simp [iCells] at ih ⊢; omega
theorem iCells_at (ts : List ITok) (k : Nat) (h : k < ts.length) : (iCells ts)[3 * k]? = some (.int .i64 ts[k].1) ∧ (iCells ts)[3 * k + 1]? = some (.string ts[k].2.1) ∧ (iCells ts)[3 * k + 2]? = some (.int .i64 ts[k].2.2) := by
  induction ts generalizing k with
  | nil => simp at h
  | cons t r ih =>
    have e : iCells (t :: r) = .int .i64 t.1 :: .string t.2.1 :: .int .i64 t.2.2 :: iCells r := by simp [iCells]
    rw [e]
    cases k with
    | zero => simp
    | succ k =>
      have := ih k (by simpa using h)
      rw [show 3 * (k + 1) = 3 * k + 3 by omega]
      simpa using this
theorem add_field (ad : Addr) (m j : Nat) (hj : 0 < j) : ad.add (m + j) = ⟨(ad.add m).block, (ad.add m).off + j, none⟩ := by
  unfold Addr.add
  rw [if_neg (by omega)]
  split
  · rename_i h; subst h; simp
  · simp [Nat.add_assoc]
theorem Reads.tok {w : World} {ad : Addr} {ts : List ITok} (h : Reads w (some ad) (iCells ts)) (k : Nat) (hk : k < ts.length) :
    w.cell? (ad.add (k * 3)) = some (.int .i64 ts[k].1) ∧ w.cell? ⟨(ad.add (k * 3)).block, (ad.add (k * 3)).off + 1, none⟩ = some (.string ts[k].2.1) ∧ w.cell? ⟨(ad.add (k * 3)).block, (ad.add (k * 3)).off + 2, none⟩ = some (.int .i64 ts[k].2.2) := by
  obtain ⟨h1, h2, h3⟩ := iCells_at ts k hk
  rcases h with h | ⟨ad', e, hc⟩
  · have := iCells_len ts; rw [h] at this; simp at this; omega
  · injection e with e
    subst e
    rw [← add_field _ _ 1 (by omega), ← add_field _ _ 2 (by omega), Nat.mul_comm k 3]
    exact ⟨hc _ _ h1, hc _ _ h2, hc _ _ h3⟩

def texts (ts : List ITok) : List ByteArray := ts.map (·.2.1)
def okAll (ts : List ITok) : Bool := ts.all fun t => chkTok t.1 t.2.1.data.toList t.2.2 == 0
def joined (ts : List ITok) : List UInt8 := Lib.join ((texts ts).map fun x => x.data.toList) [32]
def writeOf (ts : List ITok) : List UInt8 × Int := if 20000 < ts.length then ([], 3) else if okAll ts = false then ([], 4) else if 20000 < (joined ts).length then ([], 3) else (joined ts, 0)
def WritePost (ts : List ITok) (w : World) (e : Ending) (w' : World) : Prop := e = .returned (.tuple #[.string ⟨(writeOf ts).1.toArray⟩, .int .i64 (writeOf ts).2]) ∧ Below w.heap.size w w'

theorem infoStr : (Tryd.prog.info? 9).map (fun i => (i.zero, i.size, i.bytes)) = some (some (.string ⟨#[]⟩), 1, 16) := by kernel_rfl
theorem okAll_succ (ts : List ITok) (k : Nat) (h : k < ts.length) (h0 : okAll (ts.take k) = true) (h1 : chkTok ts[k].1 ts[k].2.1.data.toList ts[k].2.2 = 0) : okAll (ts.take (k + 1)) = true := by
  rw [List.take_succ_eq_append_getElem h]
  unfold okAll at *
  rw [List.all_append, h0]
  simp [h1]
theorem okAll_bad (ts : List ITok) (k : Nat) (h : k < ts.length) (h1 : chkTok ts[k].1 ts[k].2.1.data.toList ts[k].2.2 ≠ 0) : okAll ts = false := by
  unfold okAll
  rw [List.all_eq_false]
  exact ⟨ts[k], List.getElem_mem h, by simpa using h1⟩
theorem texts_succ (ts : List ITok) (k : Nat) (h : k < ts.length) : (texts (ts.take (k + 1))).map Value.string = (texts (ts.take k)).map Value.string ++ [.string ts[k].2.1] := by
  rw [List.take_succ_eq_append_getElem h]
  unfold texts
  rw [List.map_append, List.map_append]
  rfl
theorem own_below {w w1 : World} {base : Nat} {e : TypeId} {size n : Nat} {v : Value} {xs : List Value} (h : w.ownsRow base e size v n xs) (hb : Below w.heap.size w w1) : w1.ownsRow base e size v n xs :=
  h.kept (row := none) ⟨hb.os, hb.tape, hb.output, hb.size, fun i hi _ => hb.block i hi⟩ (by cases v.ownBlock <;> simp)
theorem own_form {w : World} {base : Nat} {e : TypeId} {size n : Nat} {v : Value} {xs : List Value} (h : w.ownsRow base e size v n xs) (hn : 0 < n) : ∃ g cap, v = .slice (some ⟨g, 0, none⟩) n cap ∧ base ≤ g := by
  rcases h.2 with ⟨_, h0⟩ | ⟨g, cap, cur, rfl, hb, _⟩
  · omega
  · exact ⟨g, cap, rfl, hb⟩
theorem own_cap {w : World} {base : Nat} {e : TypeId} {size n : Nat} {v : Value} {xs : List Value} (h : w.ownsRow base e size v n xs) {g cap : Nat} (hv : v = .slice (some ⟨g, 0, none⟩) n cap) : n ≤ cap := by
  subst hv
  rcases h.2 with ⟨h0, _⟩ | ⟨g', cap', cur, h0, _, _, hc, _⟩
  · cases h0
  · injection h0 with _ _ h0; omega
theorem add_zero_block (g j : Nat) : (⟨g, 0, none⟩ : Addr).add j = ⟨g, j, none⟩ := by unfold Addr.add; split <;> simp_all
theorem own_strs {w : World} {base : Nat} {e : TypeId} {n : Nat} {v : Value} {xs : List ByteArray} (h : w.ownsRow base e 1 v n (xs.map Value.string)) {g cap : Nat} (hv : v = .slice (some ⟨g, 0, none⟩) n cap) : ∀ j x, xs[j]? = some x → w.cell? ⟨g, j, none⟩ = some (.string x) := by
  intro j x hx
  have := h.cells (g := g) (by rw [hv]; rfl) j (.string x) (by rw [List.getElem?_map, hx]; rfl)
  rwa [add_zero_block] at this
theorem ok_len {k : Int} {l : List UInt8} {a : Int} (h : chkTok k l a = 0) : l.length ≤ 24 := by
  unfold chkTok at h
  split at h
  · cases h
  · rename_i h1
    have h2 : okTok k l = true := by simpa using fun h => h1 (.inl h)
    unfold okTok at h2
    split at h2
    · simp [isNameL] at h2; omega
    split at h2
    · unfold numOf at h2
      split at h2
      · simp at h2
      split at h2
      · simp at h2
      · omega
    split at h2
    · simp at h2
      rcases h2 with h2 | h2
      · rw [h2]; decide
      · omega
    · cases h2
theorem join_le (ls : List (List UInt8)) (sep : List UInt8) (m : Nat) (h : ∀ l ∈ ls, l.length ≤ m) : (Lib.join ls sep).length ≤ ls.length * (m + sep.length) := by
  cases ls with
  | nil => simp [Lib.join_nil]
  | cons x r =>
    have h2 : ∀ (r : List (List UInt8)), (∀ l ∈ r, l.length ≤ m) → (Lib.joinTail sep r).length ≤ r.length * (m + sep.length) := by
      intro r
      induction r with
      | nil => intro _; simp [Lib.joinTail]
      | cons y t ih =>
        intro h
        have h3 := ih (fun l hl => h l (List.mem_cons_of_mem _ hl))
        have h4 := h y (List.mem_cons_self ..)
        simp only [Lib.joinTail, List.map_cons, List.flatten_cons, List.length_append, List.length_cons, Nat.add_mul, Nat.one_mul] at h3 ⊢
        omega
    have h5 := h2 r (fun l hl => h l (List.mem_cons_of_mem _ hl))
    have h6 := h x (List.mem_cons_self ..)
    rw [Lib.join_cons, List.length_append, List.length_cons, Nat.add_mul, Nat.one_mul]
    omega
theorem joined_le (ts : List ITok) (h : okAll ts = true) (hn : ts.length ≤ 20000) : (joined ts).length ≤ 500000 := by
  have h1 := join_le ((texts ts).map fun x => x.data.toList) [32] 24 (by
    intro l hl
    simp only [texts, List.map_map, List.mem_map, Function.comp] at hl
    obtain ⟨t, ht, rfl⟩ := hl
    have := List.all_eq_true.1 h t ht
    exact ok_len (by simpa using this))
  have h2 : ((texts ts).map fun x => x.data.toList).length = ts.length := by simp [texts]
  rw [h2] at h1
  unfold joined
  have : ts.length * (24 + ([32] : List UInt8).length) ≤ 20000 * 25 := Nat.mul_le_mul hn (by simp)
  omega

set_option maxRecDepth 100000 in
theorem write_some (ts : List ITok) (hn : 0 < ts.length) (hsz : ∀ t ∈ ts, t.2.1.size ≤ 9223372036854775807) (ad : Addr) (c : Nat) (w : World) (hR : Reads w (some ad) (iCells ts)) (hl : ts.length ≤ 9223372036854775807) :
    Calls Tryd.prog 14 #[.slice (some ad) ts.length c] w (WritePost ts w) := by
  by_cases hbig : 20000 < ts.length
  · go_enter Tryd.func14, Tryd.ntmps14
    go_wp2
    go_ret2
    have hr : writeOf ts = ([], 3) := by unfold writeOf; rw [if_pos hbig]
    unfold WritePost
    rw [hr]
    exact ⟨rfl, Below.refl _ _⟩
  · have HR := Lib.hid hR; clear hR
    have HSZ := Lib.hid hsz; clear hsz
    go_enter Tryd.func14, Tryd.ntmps14
    go_wp2
    go_loopg [4, 14] ts.length (fun g v i wr => ∃ k : Nat, k ≤ ts.length ∧ g = ts.length - k ∧ i = .int .i64 k ∧ Hid (okAll (ts.take k) = true) ∧ wr.ownsRow w.heap.size 9 1 v k ((texts (ts.take k)).map .string) ∧ Below w.heap.size w wr)
    case atStart => exact ⟨0, by omega, rfl, rfl, rfl, World.ownsRow_nil _ _ _ _, Below.refl _ _⟩
    case round =>
      obtain ⟨k, hk, rfl, rfl, hok, hown, hbel⟩ := hrel
      have HO := Lib.hid hown; clear hown
      have HB := Lib.hid hbel; clear hbel
      by_cases hlt : k < ts.length
      · obtain ⟨q0, q1, q2⟩ := (HR.out.below HB.out).tok k hlt
        have hmem : ts[k] ∈ ts := List.getElem_mem hlt
        have hck : ∀ W, Calls Tryd.prog 16 #[.agg #[.int .i64 ts[k].1, .string ts[k].2.1, .int .i64 ts[k].2.2]] W fun e w' => e = .returned (.int .i64 (chkTok ts[k].1 ts[k].2.1.data.toList ts[k].2.2)) ∧ Below W.heap.size W w' := fun W => check_any _ _ (HSZ.out _ hmem) _ W
        rcases chk_cases ts[k].1 ts[k].2.1.data.toList ts[k].2.2 with h0 | h4
        · rw [h0] at hck
          have HCK := Lib.hid hck; clear hck
          have hok1 := okAll_succ ts k hlt hok.out h0
          have HOK := Lib.hid hok1; clear hok1
          clear h0 hok hmem
          go_wp2_with fail
          refine (HCK.out _).mono ?_
          rintro e w1 ⟨rfl, hb1⟩
          have hz : wr.heap.size < w1.heap.size := by have := hb1.size; simp at this; omega
          have hc1 := hb1.cell (p := ⟨wr.heap.size, 1, none⟩) (by simp)
          have HO1 := Lib.hid (own_below (HO.out.alloc _) hb1)
          have HB1 := Lib.hid ((HB.out.alloc HB.out.size _).trans (hb1.mono (by have := HB.out.size; simp; omega)))
          clear hb1
          go_wp2_with (at_builtin; refine app_cells w.heap.size rfl _ _ 50 9 _ 1 16 rfl Tryd.underlying50 infoStr rfl (by decide) (by decide) u4 k _ [.string ts[k].2.1] rfl _ rfl (by simp) rfl (by intro u hu; simp at hu; subst hu; rfl) HO1.out HB1.out.size (by omega) ?_; intro v3 w3 hown3 hg3; have HO3 := Lib.hid hown3; clear hown3; have HG3 := Lib.hid hg3; clear hg3)
          go_roundg (ts.length - (k + 1))
          case measure => omega
          case rel => exact ⟨k + 1, by omega, rfl, by go_num, HOK.out, by rw [texts_succ ts k hlt]; exact HO3.out, HB1.out.grown HG3.out HB1.out.size (fun q hq => (HO1.out.lt q hq).1)⟩
        · rw [h4] at hck
          have HCK := Lib.hid hck; clear hck
          have hr : writeOf ts = ([], 4) := by unfold writeOf; rw [if_neg hbig, if_pos (okAll_bad ts k hlt (by omega))]
          have HF := Lib.hid hr; clear hr
          clear h4 hok hmem
          go_wp2_with fail
          refine (HCK.out _).mono ?_
          rintro e w1 ⟨rfl, hb1⟩
          have HB1 := Lib.hid ((HB.out.alloc HB.out.size _).trans (hb1.mono (by have := HB.out.size; simp; omega)))
          clear hb1
          go_wp2
          go_ret2
          unfold WritePost
          rw [HF.out]
          exact ⟨rfl, HB1.out⟩
      · obtain rfl : k = ts.length := by omega
        have hok' := hok.out
        rw [List.take_length] at hok'
        have hO := HO.out
        rw [List.take_length] at hO
        have hjl := joined_le ts hok' (by omega)
        obtain ⟨g, cap, hv, hg0⟩ := own_form hO (by omega)
        have hcells := own_strs hO hv
        have hgl : g < wr.heap.size := (hO.lt g (by rw [hv]; rfl)).2
        have hcap : ts.length ≤ cap := own_cap hO hv
        clear hO HO
        subst hv
        have hjn := Tryd.strings_Join g 0 cap (texts ts) ⟨#[32]⟩ wr (by simpa using hcells) hgl (by simp [texts]; omega) (by simp [texts]; exact hcap) (by show (joined ts).length ≤ _; omega)
        rw [show (texts ts).length = ts.length by simp [texts]] at hjn
        have hjn' : Calls Tryd.prog 30 #[.slice (some ⟨g, 0, none⟩) ts.length cap, .string ⟨#[32]⟩] wr fun e w' => e = .returned (.string ⟨(joined ts).toArray⟩) ∧ Below wr.heap.size wr w' := hjn
        have HJ := Lib.hid hjn'; clear hjn hjn' hcells
        rcases Nat.lt_or_ge 20000 (joined ts).length with hj | hj
        · have hr : writeOf ts = ([], 3) := by unfold writeOf; rw [if_neg hbig, if_neg (by simp [hok']), if_pos hj]
          have HF := Lib.hid hr; clear hr
          go_wp2_with (go_at_call 30; refine HJ.out.mono ?_; rintro e w2 ⟨rfl, hb2⟩)
          go_ret2
          unfold WritePost
          rw [HF.out]
          exact ⟨rfl, HB.out.trans (Below.mono ‹Below wr.heap.size wr _› HB.out.size)⟩
        · have hr : writeOf ts = (joined ts, 0) := by unfold writeOf; rw [if_neg hbig, if_neg (by simp [hok']), if_neg (by omega)]
          have HF := Lib.hid hr; clear hr
          go_wp2_with (go_at_call 30; refine HJ.out.mono ?_; rintro e w2 ⟨rfl, hb2⟩)
          go_ret2
          unfold WritePost
          rw [HF.out]
          exact ⟨rfl, HB.out.trans (Below.mono ‹Below wr.heap.size wr _› HB.out.size)⟩
set_option maxRecDepth 100000 in
theorem write_none (A : Option Addr) (c : Nat) (w : World) : Calls Tryd.prog 14 #[.slice A 0 c] w (WritePost [] w) := by
  have hj := Tryd.strings_Join_none none 0 ⟨#[32]⟩
  have HJ := Lib.hid hj; clear hj
  go_enter Tryd.func14, Tryd.ntmps14
  go_wp2
  go_loopg [4, 14] 0 (fun g v i wr => i = .int .i64 0 ∧ v = .slice none 0 0 ∧ w = wr)
  case atStart => exact ⟨rfl, rfl, rfl⟩
  case round =>
    obtain ⟨rfl, rfl, rfl⟩ := hrel
    go_wp2_with (go_at_call 30; refine (HJ.out _).mono ?_; rintro e w2 ⟨rfl, rfl⟩)
    go_ret2
    exact ⟨rfl, Below.refl _ _⟩
theorem write_any (ts : List ITok) (hsz : ∀ t ∈ ts, t.2.1.size ≤ 9223372036854775807) (A : Option Addr) (c : Nat) (w : World) (hR : Reads w A (iCells ts)) (hl : ts.length ≤ 9223372036854775807) :
    Calls Tryd.prog 14 #[.slice A ts.length c] w (WritePost ts w) := by
  rcases Nat.eq_zero_or_pos ts.length with h0 | h0
  · obtain rfl := List.eq_nil_of_length_eq_zero h0
    exact write_none A c w
  · have hR' := hR
    rcases hR with h | ⟨ad, rfl, _⟩
    · have := iCells_len ts; rw [h] at this; simp at this; omega
    · exact write_some ts h0 hsz ad c w hR' hl
end Go.Proofs.YtaccooeodimdaaaDoor
