/- Contract of the reference's Write. -/
import Derived.Test.YtaccooeodimdaaaDoorTokS
import Derived.Lib.AppendStr
import Derived.Laws.IdiomStrings
namespace Go.Proofs.YtaccooeodimdaaaDoor
open Go.RowKit

def bCells (l : List UInt8) : List Value := l.map fun b => .int .u8 (b.toNat : Int)
theorem infoByte : (Tryd.prog.info? 5).map (fun i => (i.zero, i.size, i.bytes)) = some (some (.int .u8 0), 1, 1) := by kernel_rfl
/-- A row of bytes of the call's own, turned into a string. -/
theorem conv_own {w : World} {base n : Nat} {v : Value} {l : List UInt8} (h : w.ownsRow base 5 1 v n (bCells l)) (hn : n = l.length) : (convert 52 9 v).run Tryd.prog w = .ok (.string ⟨l.toArray⟩) w := by
  rcases h.2 with ⟨rfl, h0⟩ | ⟨g, cap, cur, rfl, hb, r⟩
  · have : l = [] := List.eq_nil_of_length_eq_zero (by omega)
    subst this
    rw [run_convert_bytes_string w 52 9 5 none 0 0 Tryd.underlying52 Tryd.underlying5 Tryd.underlying9]
    rfl
  · rw [hn]
    exact run_convert_bytes_back w 52 9 5 ⟨g, 0, none⟩ cap l Tryd.underlying52 Tryd.underlying5 Tryd.underlying9 fun j hj => h.cells (g := g) rfl j _ (by simp [bCells, List.getElem?_eq_getElem hj])
section
variable {P : Program} {ops : Array Oper} {rest : List Oper} {o : Oper} {a : Act} {Q : Exit → Act → World → Prop}
/-- A string's bytes are appended to a row of the call's own. -/
theorem app_string {w : World} (base : Nat) (hgd : o.guard = none) (sl x : Operand) (t u e : TypeId) (ho : o.op = .call { callee := .builtin .append, args := #[sl, x], argTypes := #[t, u] })
    (ht : P.underlying t = some (.slice e)) (hu : P.underlying u = some .string) (hinfo : (P.info? e).map (fun i => (i.zero, i.size, i.bytes)) = some (some (.int .u8 0), 1, 1))
    (v : Value) (n : Nat) (l : List UInt8) (hs : a.eval sl = v) (hown : w.ownsRow base e 1 v n (bCells l)) (s : ByteArray) (hx : a.eval x = .string s)
    (hbytes : n + s.size ≤ 140737488355328) (hbase : base ≤ w.heap.size)
    (h : ∀ v' w', w'.ownsRow base e 1 v' (n + s.size) (bCells (l ++ s.data.toList)) → w.grownBy w' v.ownBlock → wpList P ops Q rest (a.put o.dst v') w') : wpList P ops Q (o :: rest) a w := by
  obtain ⟨i0, hi, hzz⟩ := Option.map_eq_some_iff.1 hinfo
  simp only [Prod.mk.injEq] at hzz
  obtain ⟨hz0, hz1, hz2⟩ := hzz
  refine Lib.wpList_append_own_string w hgd sl x t u ho base e i0 ht hu hi hz0 hz1 hz2 v n _ hs hown s hx (by simp only [maxLen]; omega) hbytes hbase fun v' w' h1 h2 _ => h v' w' ?_ h2
  have e1 : bCells (l ++ s.data.toList) = bCells l ++ Lib.strCells s := by simp [bCells, Lib.strCells]
  rw [e1]
  exact h1
end

theorem own_snoc {w : World} {base : Nat} {v : Value} {n : Nat} {l : List UInt8} (h : w.ownsRow base 5 1 v n (bCells l ++ [.int .u8 32])) : w.ownsRow base 5 1 v n (bCells (l ++ [32])) := by
  have e : bCells (l ++ [32]) = bCells l ++ [.int .u8 32] := by simp [bCells]
  rw [e]; exact h
theorem join_snoc (xs : List (List UInt8)) (y sep : List UInt8) (h : xs ≠ []) : Lib.join (xs ++ [y]) sep = Lib.join xs sep ++ sep ++ y := by
  cases xs with
  | nil => exact absurd rfl h
  | cons x r => simp [Lib.join_cons, Lib.joinTail, List.append_assoc]
theorem joined_one (ts : List ITok) (h : 0 < ts.length) : joined (ts.take (0 + 1)) = [] ++ ts[0].2.1.data.toList := by
  cases ts with
  | nil => simp at h
  | cons t r => simp [joined, texts, Lib.join_one]
theorem joined_succ (ts : List ITok) (k : Nat) (h : k < ts.length) (h0 : 0 < k) : joined (ts.take (k + 1)) = (joined (ts.take k) ++ [32]) ++ ts[k].2.1.data.toList := by
  have hne : ((texts (ts.take k)).map fun x => x.data.toList) ≠ [] := by
    intro he
    have := congrArg List.length he
    simp only [texts, List.length_map, List.length_take, List.length_nil] at this
    omega
  rw [List.take_succ_eq_append_getElem h]
  unfold joined texts at *
  rw [List.map_append, List.map_append]
  exact join_snoc _ _ _ hne
theorem okAll_take (ts : List ITok) (k : Nat) (h : okAll ts = true) : okAll (ts.take k) = true := by
  unfold okAll at *
  rw [List.all_eq_true] at *
  exact fun t ht => h t (List.mem_of_mem_take ht)
theorem okAll_size (ts : List ITok) (h : okAll ts = true) (k : Nat) (hk : k < ts.length) : ts[k].2.1.size ≤ 24 := by
  have := List.all_eq_true.1 h _ (List.getElem_mem hk)
  have := ok_len (by simpa using this)
  rwa [data_len] at this

set_option maxHeartbeats 1000000 in
set_option maxRecDepth 100000 in
theorem rwrite_some (ts : List ITok) (hn : 0 < ts.length) (hsz : ∀ t ∈ ts, t.2.1.size ≤ 9223372036854775807) (ad : Addr) (c : Nat) (w : World) (hR : Reads w (some ad) (iCells ts)) (hl : ts.length ≤ 9223372036854775807) :
    Calls Tryd.prog 15 #[.slice (some ad) ts.length c] w (WritePost ts w) := by
  by_cases hbig : 20000 < ts.length
  · go_enter Tryd.func15, Tryd.ntmps15
    go_wp2
    go_ret2
    have hr : writeOf ts = ([], 3) := by unfold writeOf; rw [if_pos hbig]
    unfold WritePost
    rw [hr]
    exact ⟨rfl, Below.refl _ _⟩
  · have HR := Lib.hid hR; clear hR
    have HSZ := Lib.hid hsz; clear hsz
    go_enter Tryd.func15, Tryd.ntmps15
    go_wp2
    go_loopg [15] ts.length (fun g i wr => ∃ k : Nat, k ≤ ts.length ∧ g = ts.length - k ∧ i = .int .i64 k ∧ Hid (okAll (ts.take k) = true) ∧ Below w.heap.size w wr)
    case atStart => exact ⟨0, by omega, rfl, rfl, rfl, Below.refl _ _⟩
    case round =>
      obtain ⟨k, hk, rfl, rfl, hok, hbel⟩ := hrel
      have HB := Lib.hid hbel; clear hbel
      by_cases hlt : k < ts.length
      · obtain ⟨q0, q1, q2⟩ := (HR.out.below HB.out).tok k hlt
        have hmem : ts[k] ∈ ts := List.getElem_mem hlt
        have hck : ∀ W, Calls Tryd.prog 17 #[.agg #[.int .i64 ts[k].1, .string ts[k].2.1, .int .i64 ts[k].2.2]] W fun e w' => e = .returned (.int .i64 (chkTok ts[k].1 ts[k].2.1.data.toList ts[k].2.2)) ∧ Below W.heap.size W w' := fun W => rcheck_any _ _ (HSZ.out _ hmem) _ W
        rcases chk_cases ts[k].1 ts[k].2.1.data.toList ts[k].2.2 with h0 | h4
        · rw [h0] at hck
          have HCK := Lib.hid hck; clear hck
          have hok1 := okAll_succ ts k hlt hok.out h0
          have HOK := Lib.hid hok1; clear hok1
          clear h0 hok hmem
          go_wp2_with fail
          refine (HCK.out _).mono ?_
          rintro e w1 ⟨rfl, hb1⟩
          have HB1 := Lib.hid ((HB.out.alloc HB.out.size _).trans (hb1.mono (by have := HB.out.size; simp; omega)))
          clear hb1
          go_wp2
          go_roundg (ts.length - (k + 1))
          case measure => omega
          case rel => exact ⟨k + 1, by omega, rfl, by go_num, HOK.out, HB1.out⟩
        · rw [h4] at hck
          have HCK := Lib.hid hck; clear hck
          have hr : writeOf ts = ([], 4) := by unfold writeOf; rw [if_neg hbig, if_pos (okAll_bad ts k hlt (by omega))]
          have HF := Lib.hid hr; clear hr
          clear h4 hok hmem
          go_wp2_with fail
          refine (HCK.out _).mono ?_
          rintro e w1 ⟨rfl, hb1⟩
          have HB1 := Lib.hid ((HB.out.alloc HB.out.size _).trans (hb1.mono (by have := HB.out.size; simp; omega)))
          clear hb1
          go_wp2
          go_ret2
          unfold WritePost
          rw [HF.out]
          exact ⟨rfl, HB1.out⟩
      · obtain rfl : k = ts.length := by omega
        have hok' := hok.out
        rw [List.take_length] at hok'
        have HOK := Lib.hid hok'; clear hok' hok
        have HBW := HB
        clear HB
        go_wp2
        go_loopg [7, 27] ts.length (fun g v i wr => ∃ k : Nat, k ≤ ts.length ∧ g = ts.length - k ∧ i = .int .i64 k ∧ wr.ownsRow w.heap.size 5 1 v (joined (ts.take k)).length (bCells (joined (ts.take k))) ∧ Below w.heap.size w wr)
        case atStart => exact ⟨0, by omega, rfl, rfl, World.ownsRow_nil _ _ _ _, HBW.out⟩
        case round =>
          obtain ⟨k, hk, rfl, rfl, hown, hbel⟩ := hrel
          have HO := Lib.hid hown; clear hown
          have HB := Lib.hid hbel; clear hbel
          have hjl := joined_le (ts.take k) (okAll_take ts k HOK.out) (by rw [List.length_take]; omega)
          by_cases hlt : k < ts.length
          · obtain ⟨q0, q1, q2⟩ := (HR.out.below HB.out).tok k hlt
            have hts := okAll_size ts HOK.out k hlt
            by_cases hk0 : 0 < k
            · have HJ := Lib.hid (joined_succ ts k hlt hk0)
              go_wp2_with (first | (at_builtin; refine app_cells w.heap.size rfl _ _ 52 5 _ 1 1 rfl Tryd.underlying52 infoByte rfl (by decide) (by decide) u7 (joined (ts.take k)).length (bCells (joined (ts.take k))) [.int .u8 32] rfl _ rfl (by simp) rfl (by intro u hu; simp at hu; subst hu; rfl) (HO.out.alloc _) (by simp; have := HB.out.size; omega) (by omega) ?_; intro v2 w2 hown2 hg2; have hf2 := (hg2.block wr.heap.size (by simp) (by intro he; have := HO.out.lt _ he.symm; omega)).trans (heap_alloc_new wr _); have hc2 := cell_of_row w2 _ 1 _ _ _ hf2; have HO2 := Lib.hid (own_snoc hown2); clear hown2; have HG2 := Lib.hid hg2; clear hg2 hf2) | (at_builtin; (refine app_string w.heap.size rfl _ _ 52 9 5 rfl Tryd.underlying52 Tryd.underlying9 infoByte v2 _ _ rfl HO2.out ts[k].2.1 rfl (by omega) (by have h5 := HG2.out.size; simp at h5; have h6 := HB.out.size; omega) ?_; intro v3 w3 hown3 hg3; have HO3 := Lib.hid hown3; clear hown3; have HG3 := Lib.hid hg3; clear hg3)))
              go_roundg (ts.length - (k + 1))
              case measure => omega
              case rel =>
                have e1 : (joined (ts.take k)).length + 1 + ts[k].2.1.size = (joined (ts.take (k + 1))).length := by rw [HJ.out, List.length_append, List.length_append, data_len]; rfl
                exact ⟨k + 1, by omega, rfl, by go_num, by rw [← e1, HJ.out]; exact HO3.out, ((HB.out.alloc HB.out.size _).grown HG2.out (by have := HB.out.size; simp; omega) (fun q hq => (HO.out.lt q hq).1)).grown HG3.out (by have h5 := HG2.out.size; simp at h5; have h6 := HB.out.size; omega) (fun q hq => (HO2.out.lt q hq).1)⟩
            · have HJ := Lib.hid (joined_one ts hn)
              have hj0 : joined (ts.take k) = [] := by rw [show k = 0 by omega]; rfl
              go_wp2_with (at_builtin; refine app_string w.heap.size rfl _ _ 52 9 5 rfl Tryd.underlying52 Tryd.underlying9 infoByte u7 (joined (ts.take k)).length (joined (ts.take k)) rfl (HO.out.alloc _) ts[k].2.1 rfl (by omega) (by have := HB.out.size; simp; omega) ?_; intro v3 w3 hown3 hg3; have HO3 := Lib.hid hown3; clear hown3; have HG3 := Lib.hid hg3; clear hg3)
              go_roundg (ts.length - (k + 1))
              case measure => omega
              case rel =>
                obtain rfl : k = 0 := by omega
                have e1 : (joined (ts.take 0)).length + ts[0].2.1.size = (joined (ts.take (0 + 1))).length := by rw [HJ.out, hj0]; simp
                exact ⟨0 + 1, by omega, rfl, by go_num, by rw [← e1, HJ.out, ← hj0]; exact HO3.out, (HB.out.alloc HB.out.size _).grown HG3.out (by have := HB.out.size; simp; omega) (fun q hq => (HO.out.lt q hq).1)⟩
          · obtain rfl : k = ts.length := by omega
            have hO := HO.out
            rw [List.take_length] at hO hjl
            have hcv := conv_own hO rfl
            obtain ⟨A, c2, rfl, _⟩ := own_reads hO
            clear hO HO
            rcases Nat.lt_or_ge 20000 (joined ts).length with hj | hj
            · have hr : writeOf ts = ([], 3) := by unfold writeOf; rw [if_neg hbig, if_neg (by simp [HOK.out]), if_pos hj]
              have HF := Lib.hid hr; clear hr
              go_wp2
              go_ret2
              unfold WritePost
              rw [HF.out]
              exact ⟨rfl, HB.out⟩
            · have hr : writeOf ts = (joined ts, 0) := by unfold writeOf; rw [if_neg hbig, if_neg (by simp [HOK.out]), if_neg (by omega)]
              have HF := Lib.hid hr; clear hr
              go_wp2
              go_ret2
              unfold WritePost
              rw [HF.out]
              exact ⟨rfl, HB.out⟩
set_option maxRecDepth 100000 in
theorem rwrite_none (A : Option Addr) (c : Nat) (w : World) : Calls Tryd.prog 15 #[.slice A 0 c] w (WritePost [] w) := by
  have hcv := conv_own (w := w) (l := []) (World.ownsRow_nil w w.heap.size 5 1) rfl
  go_enter Tryd.func15, Tryd.ntmps15
  go_wp2
  go_loopg [15] 0 (fun g i wr => i = .int .i64 0 ∧ w = wr)
  case atStart => exact ⟨rfl, rfl⟩
  case round =>
    obtain ⟨rfl, rfl⟩ := hrel
    go_wp2
    go_loopg [7, 27] 0 (fun g v i wr => i = .int .i64 0 ∧ v = .slice none 0 0 ∧ w = wr)
    case atStart => exact ⟨rfl, rfl, rfl⟩
    case round =>
      obtain ⟨rfl, rfl, rfl⟩ := hrel
      go_wp2
      go_ret2
      exact ⟨rfl, Below.refl _ _⟩
theorem rwrite_any (ts : List ITok) (hsz : ∀ t ∈ ts, t.2.1.size ≤ 9223372036854775807) (A : Option Addr) (c : Nat) (w : World) (hR : Reads w A (iCells ts)) (hl : ts.length ≤ 9223372036854775807) :
    Calls Tryd.prog 15 #[.slice A ts.length c] w (WritePost ts w) := by
  rcases Nat.eq_zero_or_pos ts.length with h0 | h0
  · obtain rfl := List.eq_nil_of_length_eq_zero h0
    exact rwrite_none A c w
  · have hR' := hR
    rcases hR with h | ⟨ad, rfl, _⟩
    · have := iCells_len ts; rw [h] at this; simp at this; omega
    · exact rwrite_some ts h0 hsz ad c w hR' hl
end Go.Proofs.YtaccooeodimdaaaDoor
