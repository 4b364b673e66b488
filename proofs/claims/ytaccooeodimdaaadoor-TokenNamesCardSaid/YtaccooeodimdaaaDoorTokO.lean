/- Contracts of the reference's Read and Same. -/
import Derived.Test.YtaccooeodimdaaaDoorTokN
namespace Go.Proofs.YtaccooeodimdaaaDoor
open Go.RowKit

def RReadPost (s : ByteArray) (w : World) (e : Ending) (w' : World) : Prop :=
  ∃ v, e = .returned (.tuple #[v, .int .i64 (readAll s).2.1, .int .i64 (readAll s).2.2]) ∧ w'.ownsRow w.heap.size 32 3 v (readAll s).1.length (tokCells (readAll s).1) ∧ Below w.heap.size w w'
theorem own_lower {w : World} {base base' : Nat} {e : TypeId} {size n : Nat} {v : Value} {xs : List Value} (h : w.ownsRow base e size v n xs) (hb : base' ≤ base) : w.ownsRow base' e size v n xs := by
  refine ⟨h.1, ?_⟩
  rcases h.2 with h2 | ⟨g, cap, cur, hv, hg, r⟩
  · exact .inl h2
  · exact .inr ⟨g, cap, cur, hv, Nat.le_trans hb hg, r⟩

set_option maxHeartbeats 1000000 in
set_option maxRecDepth 100000 in
theorem rread_any (s : ByteArray) (hs : s.size ≤ 9223372036854775800) (w : World) : Calls Tryd.prog 11 #[.string s] w (RReadPost s w) := by
  by_cases hbig : 20000 < s.size
  · go_enter Tryd.func11, Tryd.ntmps11
    go_wp2
    go_ret3
    have hr : readAll s = ([], 0, 3) := by unfold readAll; rw [if_pos hbig]
    unfold RReadPost
    rw [hr]
    exact ⟨_, rfl, World.ownsRow_nil _ _ _ _, Below.refl _ _⟩
  · have hsm : s.size ≤ 20000 := by omega
    clear hs hbig
    have hsk := fun (i : Nat) (hi : i ≤ s.size) (W : World) => rskip_any s (by omega) i hi W
    have HSK := Lib.hid hsk; clear hsk
    have h00 := HSK.out 0 (by omega)
    have H00 := Lib.hid h00; clear h00
    go_enter Tryd.func11, Tryd.ntmps11
    go_wp2_with (go_at_call 18; refine (H00.out _).mono ?_; rintro e w1 ⟨rfl, rfl⟩)
    go_loopg [5, 6] (s.size - skipTo s.data.toList 0) (fun g v a wr => ∃ (k : Nat) (ts : List Tok), k ≤ s.size ∧ ts.length ≤ k ∧ g = s.size - skipTo s.data.toList k ∧ a = .int .i64 (skipTo s.data.toList k) ∧ Hid (after ts (readFrom s k) = after [] (readFrom s 0)) ∧ wr.ownsRow w.heap.size 32 3 v ts.length (tokCells ts) ∧ Below w.heap.size w wr)
    case atStart => exact ⟨0, [], by omega, by simp, rfl, rfl, rfl, World.ownsRow_nil _ _ _ _, Below.refl _ _⟩
    case round =>
      obtain ⟨k, ts, hk, hts, rfl, rfl, hsp, hown, hbel⟩ := hrel
      have HO := Lib.hid hown; clear hown
      have HB := Lib.hid hbel; clear hbel
      have hp1 := skipTo_le s.data.toList k (by rw [data_len]; exact hk)
      rw [data_len] at hp1
      obtain ⟨hp0, hp1⟩ := hp1
      rcases Nat.lt_or_ge (skipTo s.data.toList k) s.size with hlt | hge
      · go_wp2_with fail
        refine (rword_any s (by omega) _ hlt _).mono ?_
        rintro e w2 ⟨kd, t, p, err, rfl, hb2, hor⟩
        have HO2 := Lib.hid (own_below HO.out hb2)
        have HB2 := Lib.hid (HB.out.trans (hb2.mono HB.out.size)); clear hb2
        rcases hor with ⟨hraw, rfl⟩ | ⟨j, hraw, hn, rfl, rfl, hj⟩ | ⟨k', t', j, hraw, hn, rfl⟩
        · have hfin : readAll s = ([], skipTo s.data.toList k, 4) := by
            unfold readAll
            rw [if_neg (by omega), ← hsp.out, readFrom_none s k (by omega) hraw]
            rfl
          have HF := Lib.hid hfin; clear hfin hraw
          go_wp2
          try go_quiet (fail)
          try go_wp2
          go_ret3
          unfold RReadPost
          rw [HF.out]
          exact ⟨_, rfl, World.ownsRow_nil _ _ _ _, by first | exact HB2.out.alloc HB2.out.size _ | exact below_drewN (HB2.out.alloc HB2.out.size _) _⟩
        · have hstep := after_next s k ts (by omega) hraw hn
          have HST := Lib.hid (hstep.symm.trans hsp.out); clear hstep
          have hjb := rawTok_lt s _ hlt hraw
          obtain ⟨hj1, hj2⟩ := hjb
          have hjs := skipTo_ge s.data.toList j
          have hskj := HSK.out j hj2
          rw [show ((j : Nat) : Int) = (skipTo s.data.toList k : Int) + (t.size : Int) by omega] at hskj
          have HSJ := Lib.hid hskj; clear hskj
          clear hraw hn
          go_wp2_with (first | (at_builtin; refine app_cells w.heap.size rfl _ _ 22 32 _ 3 32 rfl Tryd.underlying22 infoTok rfl (by decide) (by decide) u5 ts.length (tokCells ts) [.int .i64 kd, .string t, .int .i64 (skipTo s.data.toList k)] rfl _ rfl (by simp) rfl (by intro u hu; simp at hu; rcases hu with rfl | rfl | rfl <;> rfl) (HO2.out.alloc _) (by simp; have := HB2.out.size; omega) (by omega) ?_; intro v3 w3 hown3 hg3; have hf3 := (hg3.block w2.heap.size (by simp) (by intro he; have := HO2.out.lt _ he.symm; omega)).trans (heap_alloc_new w2 _); have hc31 := cell_of_row w3 _ 1 _ _ _ hf3; have HO3 := Lib.hid hown3; clear hown3; have HG3 := Lib.hid hg3; clear hg3 hf3) | (go_at_call 18; refine (HSJ.out _).mono ?_; rintro e w1 ⟨rfl, rfl⟩))
          go_roundg (s.size - skipTo s.data.toList j)
          case measure => omega
          case rel => exact ⟨j, ts ++ [(kd, t, skipTo s.data.toList k)], hj2, by rw [List.length_append, List.length_singleton]; omega, rfl, (by rw [← hj]), HST.out, by rw [List.length_append, List.length_singleton, tokCells_snoc]; exact HO3.out, (HB2.out.alloc HB2.out.size _).grown HG3.out (by simp; have := HB2.out.size; omega) (fun q hq => (HO2.out.lt q hq).1)⟩
        · have hfin : readAll s = ([], skipTo s.data.toList k, 3) := by
            unfold readAll
            rw [if_neg (by omega), ← hsp.out, readFrom_bad s k (by omega) hraw hn]
            rfl
          have HF := Lib.hid hfin; clear hfin hraw
          go_wp2
          try go_quiet (fail)
          try go_wp2
          go_ret3
          unfold RReadPost
          rw [HF.out]
          exact ⟨_, rfl, World.ownsRow_nil _ _ _ _, by first | exact HB2.out.alloc HB2.out.size _ | exact below_drewN (HB2.out.alloc HB2.out.size _) _⟩
      · have hpe : skipTo s.data.toList k = s.size := by omega
        have hfin : readAll s = (ts, 0, 0) := by
          unfold readAll
          rw [if_neg (by omega), ← hsp.out, readFrom_end s k hge]
          simp [after]
        have HF := Lib.hid hfin; clear hfin
        have hge' : (s.size : Int) ≤ (skipTo s.data.toList k : Int) := by omega
        go_wp2
        go_ret3
        unfold RReadPost
        rw [HF.out]
        exact ⟨_, rfl, HO.out, HB.out⟩
end Go.Proofs.YtaccooeodimdaaaDoor
