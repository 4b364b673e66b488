/- A board with words whose numbers are known: one step an act. (Printed by wip/tools/gen_rgf.py.) -/
import Derived.Test.YtkcdlbclodjjhaaRge
namespace Go.Proofs.Ytkcdlbclodjjhaa
open Go.RowKit

/-- A board of at most N gates that fit, words of n bits beside it with their numbers, gates with their values. -/
def Wb (w : World) (B p n N : Nat) (rows : List (Value × Nat)) (bs : List (Nat × Nat)) (W : World) : Prop :=
  ∃ (G : List Gat) (R : List (Value × List Nat)), StB w B p G R W ∧ G.length ≤ N ∧ Fits13 p G ∧ (∀ r ∈ rows, ∃ l, (r.1, l) ∈ R ∧ l.length = n ∧ Bits (valsL p [] G) l ∧ nm (valsL p [] G) l = r.2) ∧ (∀ b ∈ bs, b.1 < G.length ∧ (valsL p [] G).getD b.1 0 = b.2)
theorem Bits.lt {p : Nat} {G : List Gat} {l : List Nat} (h : Bits (valsL p [] G) l) : ∀ x ∈ l, x < G.length := fun x hx => by rw [← vals_len p G]; exact (h x hx).1
theorem keep_rows {p n : Nat} {G G' : List Gat} {R R' : List (Value × List Nat)} {rows : List (Value × Nat)} {e : List Nat} (hV : valsL p [] G' = valsL p [] G ++ e) (hR : ∀ r ∈ R, r ∈ R') (h : ∀ r ∈ rows, ∃ l, (r.1, l) ∈ R ∧ l.length = n ∧ Bits (valsL p [] G) l ∧ nm (valsL p [] G) l = r.2) :
    ∀ r ∈ rows, ∃ l, (r.1, l) ∈ R' ∧ l.length = n ∧ Bits (valsL p [] G') l ∧ nm (valsL p [] G') l = r.2 := fun r hr => by
  obtain ⟨l, h1, h2, h3, h4⟩ := h r hr
  exact ⟨l, hR _ h1, h2, by rw [hV]; exact h3.app, by rw [hV, nm_app h3]; exact h4⟩
theorem keep_bits {p : Nat} {G G' : List Gat} {bs : List (Nat × Nat)} {e : List Nat} (hV : valsL p [] G' = valsL p [] G ++ e) (h : ∀ b ∈ bs, b.1 < G.length ∧ (valsL p [] G).getD b.1 0 = b.2) : ∀ b ∈ bs, b.1 < G'.length ∧ (valsL p [] G').getD b.1 0 = b.2 := fun b hb => by
  obtain ⟨h1, h2⟩ := h b hb
  have hl : G.length ≤ G'.length := by rw [← vals_len p G, ← vals_len p G', hV, List.length_append]; omega
  exact ⟨by omega, by rw [hV, at_lt (by rw [vals_len]; exact h1)]; exact h2⟩
theorem Wb.below {w : World} {B p n N : Nat} {rows : List (Value × Nat)} {bs : List (Nat × Nat)} {W W' : World} (h : Wb w B p n N rows bs W) (hb : Below W.heap.size W W') : Wb w B p n N rows bs W' := by
  obtain ⟨G, R, h1, h2⟩ := h
  exact ⟨G, R, h1.below hb, h2⟩
theorem Wb.low {w : World} {B p n N : Nat} {rows : List (Value × Nat)} {bs : List (Nat × Nat)} {W : World} (h : Wb w B p n N rows bs W) : Below B w W := by
  obtain ⟨G, R, h1, _⟩ := h
  exact h1.low
theorem Wb.lt {w : World} {B p n N : Nat} {rows : List (Value × Nat)} {bs : List (Nat × Nat)} {W : World} (h : Wb w B p n N rows bs W) : B < W.heap.size := by
  obtain ⟨G, R, h1, _⟩ := h
  exact h1.len
theorem Wb.form {w : World} {B p n N : Nat} {rows : List (Value × Nat)} {bs : List (Nat × Nat)} {W : World} (h : Wb w B p n N rows bs W) {v : Value} {m : Nat} (hr : (v, m) ∈ rows) (hn : 0 < n) : ∃ g c, v = .slice (some ⟨g, 0, none⟩) n c := by
  obtain ⟨G, R, h1, _, _, h4, _⟩ := h
  obtain ⟨l, k1, k2, _⟩ := h4 _ hr
  have := h1.rw _ k1
  simp only at this
  rw [k2] at this
  obtain ⟨g, c, e, _⟩ := own_form this hn
  exact ⟨g, c, e⟩
theorem Wb.of {w : World} {B p n N : Nat} {rows : List (Value × Nat)} {bs : List (Nat × Nat)} {W : World} (hp : 2 < p) (hn : n ≤ 16) (h : Wb w B p n N rows bs W) (q : Nat) (hq : q < 18446744073709551616) (hN : N + n ≤ 65536) :
    Calls Try.prog 12 #[.pointer (some ⟨B, 0, none⟩), .int .i64 ((n : Nat) : Int), .int .u64 ((q : Nat) : Int)] W fun e W' => ∃ vo, e = .returned vo ∧ Wb w B p n (N + n) ((vo, q % 2 ^ n) :: rows) bs W' := by
  obtain ⟨G, R, h1, h2, h3, h4, h5⟩ := h
  refine (h1.of (by omega) n q hn hq (by omega)).mono fun _ _ he => ?_
  obtain ⟨vo, e1, k⟩ := he
  obtain ⟨e, s1, s2, s3⟩ := of_sem (p := p) G q n
  refine ⟨vo, e1, _, _, k, ?_, fits_of hp q h3 n, ?_, keep_bits s1 h5⟩
  · rw [(ofSt_len G q n).1]; omega
  · intro r hr
    rcases List.mem_cons.1 hr with rfl | hr
    · exact ⟨_, List.mem_cons_self, (ofSt_len G q n).2.1, by rw [s1]; exact s2, by rw [s1]; exact s3⟩
    · exact keep_rows s1 (fun _ => List.mem_cons_of_mem _) h4 r hr
theorem Wb.plus {w : World} {B p n N : Nat} {rows : List (Value × Nat)} {bs : List (Nat × Nat)} {W : World} (hp : 2 < p) (h1n : 1 ≤ n) (hn : n ≤ 16) (h : Wb w B p n N rows bs W) {va wa : Value} {m1 m2 : Nat} (ha : (va, m1) ∈ rows) (hb : (wa, m2) ∈ rows) (hN : N + (1 + 9 * n) ≤ 65536) :
    Calls Try.prog 29 #[.pointer (some ⟨B, 0, none⟩), va, wa] W fun e W' => ∃ vo, e = .returned (.tuple #[vo, .int .i64 0]) ∧ Wb w B p n (N + (1 + 9 * n)) ((vo, (m1 + m2) % 2 ^ n) :: rows) bs W' := by
  obtain ⟨G, R, h1, h2, h3, h4, h5⟩ := h
  obtain ⟨vs, a1, a2, a3, a4⟩ := h4 _ ha
  obtain ⟨ws, b1, b2, b3, b4⟩ := h4 _ hb
  simp only at a1 a4 b1 b4
  refine (h1.plus (by omega) a1 b1 n a2 b2 h1n hn a3.lt b3.lt (by omega)).mono fun _ _ he => ?_
  obtain ⟨vo, e1, k⟩ := he
  obtain ⟨e, s1, s2, s3, s4⟩ := plus_sem hp G vs ws n a2 b2 a3 b3
  have hl := plus_len (G := G) a2 b2
  have hval : nm (valsL p [] G ++ e) (plusSt G vs ws).2.1 = (m1 + m2) % 2 ^ n := by rw [s4, a4, b4]
  have hfit := fits_plus hp a3.lt b3.lt h3
  refine ⟨vo, e1, _, _, k, by omega, hfit, ?_, keep_bits s1 h5⟩
  intro r hr
  rcases List.mem_cons.1 hr with rfl | hr
  · exact ⟨_, List.mem_cons_self, s3, by rw [s1]; exact s2, by rw [s1]; exact hval⟩
  · exact keep_rows s1 (fun _ => List.mem_cons_of_mem _) h4 r hr
set_option maxRecDepth 100000 in
theorem Wb.plusL {w : World} {B p n N : Nat} {rows : List (Value × Nat)} {bs : List (Nat × Nat)} {W : World} (hp : 2 < p) (h1n : 1 ≤ n) (hn : n ≤ 16) (h : Wb w B p n N rows bs W) {va wa : Value} {m1 m2 : Nat} (ha : (va, m1) ∈ rows) (hb : (wa, m2) ∈ rows) (hN : N + (1 + 9 * n) ≤ 65536) :
    Calls Try.prog 13 #[.pointer (some ⟨B, 0, none⟩), va, wa] W fun e W' => ∃ vo, e = .returned vo ∧ Wb w B p n (N + (1 + 9 * n)) ((vo, (m1 + m2) % 2 ^ n) :: rows) bs W' := by
  have H := Lib.hid (Wb.plus hp h1n hn h ha hb hN)
  obtain ⟨g, c, rfl⟩ := h.form ha (by omega)
  obtain ⟨g', c', rfl⟩ := h.form hb (by omega)
  clear h ha hb
  go_enter Try.func13, Try.ntmps13
  go_wp2_with (go_at_call 29; refine H.out.mono ?_; rintro e w1 ⟨vo, rfl, hk⟩; have HK := Lib.hid hk; clear hk)
  go_ret
  exact ⟨vo, rfl, HK.out⟩
theorem Wb.minus {w : World} {B p n N : Nat} {rows : List (Value × Nat)} {bs : List (Nat × Nat)} {W : World} (hp : 2 < p) (h1n : 1 ≤ n) (hn : n ≤ 16) (h : Wb w B p n N rows bs W) {va wa : Value} {m1 m2 : Nat} (ha : (va, m1) ∈ rows) (hb : (wa, m2) ∈ rows) (hN : N + (1 + 11 * n) ≤ 65536) :
    Calls Try.prog 30 #[.pointer (some ⟨B, 0, none⟩), va, wa] W fun e W' => ∃ vo, e = .returned (.tuple #[vo, .int .i64 0]) ∧ Wb w B p n (N + (1 + 11 * n)) ((vo, (m1 + 2 ^ n - m2) % 2 ^ n) :: rows) bs W' := by
  obtain ⟨G, R, h1, h2, h3, h4, h5⟩ := h
  obtain ⟨vs, a1, a2, a3, a4⟩ := h4 _ ha
  obtain ⟨ws, b1, b2, b3, b4⟩ := h4 _ hb
  simp only at a1 a4 b1 b4
  refine (h1.minus (by omega) a1 b1 n a2 b2 h1n hn a3.lt b3.lt (by omega)).mono fun _ _ he => ?_
  obtain ⟨vo, e1, k⟩ := he
  obtain ⟨e, s1, s2, s3, s4, s5⟩ := minus_sem hp G vs ws n a2 b2 a3 b3
  have hl := (minus_len (G := G) a2 b2).1
  have hval : nm (valsL p [] G ++ e) (minusSt G vs ws).2.1 = (m1 + 2 ^ n - m2) % 2 ^ n := by
    have t1 := nm_lt s2
    rw [s3] at t1
    rw [a4, b4] at s5
    have t2 : m1 + 2 ^ n - m2 = nm (valsL p [] G ++ e) (minusSt G vs ws).2.1 + 2 ^ n * (valsL p [] G ++ e).getD (minusSt G vs ws).2.2 0 := by omega
    rw [t2, Nat.add_mul_mod_self_left, Nat.mod_eq_of_lt t1]
  have hfit := fits_minus hp a3.lt b3.lt h3
  refine ⟨vo, e1, _, _, k, by omega, hfit, ?_, keep_bits s1 h5⟩
  intro r hr
  rcases List.mem_cons.1 hr with rfl | hr
  · exact ⟨_, List.mem_cons_self, s3, by rw [s1]; exact s2, by rw [s1]; exact hval⟩
  · exact keep_rows s1 (fun _ => List.mem_cons_of_mem _) h4 r hr
set_option maxRecDepth 100000 in
theorem Wb.minusL {w : World} {B p n N : Nat} {rows : List (Value × Nat)} {bs : List (Nat × Nat)} {W : World} (hp : 2 < p) (h1n : 1 ≤ n) (hn : n ≤ 16) (h : Wb w B p n N rows bs W) {va wa : Value} {m1 m2 : Nat} (ha : (va, m1) ∈ rows) (hb : (wa, m2) ∈ rows) (hN : N + (1 + 11 * n) ≤ 65536) :
    Calls Try.prog 15 #[.pointer (some ⟨B, 0, none⟩), va, wa] W fun e W' => ∃ vo, e = .returned vo ∧ Wb w B p n (N + (1 + 11 * n)) ((vo, (m1 + 2 ^ n - m2) % 2 ^ n) :: rows) bs W' := by
  have H := Lib.hid (Wb.minus hp h1n hn h ha hb hN)
  obtain ⟨g, c, rfl⟩ := h.form ha (by omega)
  obtain ⟨g', c', rfl⟩ := h.form hb (by omega)
  clear h ha hb
  go_enter Try.func15, Try.ntmps15
  go_wp2_with (go_at_call 30; refine H.out.mono ?_; rintro e w1 ⟨vo, rfl, hk⟩; have HK := Lib.hid hk; clear hk)
  go_ret
  exact ⟨vo, rfl, HK.out⟩
theorem Wb.times {w : World} {B p n N : Nat} {rows : List (Value × Nat)} {bs : List (Nat × Nat)} {W : World} (hp : 2 < p) (h1n : 1 ≤ n) (hn : n ≤ 16) (h : Wb w B p n N rows bs W) {va wa : Value} {m1 m2 : Nat} (ha : (va, m1) ∈ rows) (hb : (wa, m2) ∈ rows) (hN : N + (n * (10 * n + 1)) ≤ 65536) :
    Calls Try.prog 31 #[.pointer (some ⟨B, 0, none⟩), va, wa] W fun e W' => ∃ vo, e = .returned (.tuple #[vo, .int .i64 0]) ∧ Wb w B p n (N + (n * (10 * n + 1))) ((vo, m1 * m2 % 2 ^ n) :: rows) bs W' := by
  obtain ⟨G, R, h1, h2, h3, h4, h5⟩ := h
  obtain ⟨vs, a1, a2, a3, a4⟩ := h4 _ ha
  obtain ⟨ws, b1, b2, b3, b4⟩ := h4 _ hb
  simp only at a1 a4 b1 b4
  refine (h1.times (by omega) a1 b1 n a2 b2 h1n hn a3.lt b3.lt (by omega)).mono fun _ _ he => ?_
  obtain ⟨vo, e1, k⟩ := he
  obtain ⟨e, s1, s2, s3, s4⟩ := times_sem hp G vs ws n a2 b2 a3 b3 n (Nat.le_refl _)
  have hl := (timesSt_len G vs ws n (by omega)).1
  rw [a2] at hl
  have s3 := s3 (by omega)
  have hval : nm (valsL p [] G ++ e) (timesSt G vs ws n).2 = m1 * m2 % 2 ^ n := by
    have t1 := nm_lt s2
    rw [s3] at t1
    rw [Nat.mod_eq_of_lt t1, a4, show ws.take n = ws by rw [← b2, List.take_length], b4] at s4
    exact s4
  have hfit := fits_times hp a2 b2 a3.lt b3.lt h3 n (Nat.le_refl _)
  refine ⟨vo, e1, _, _, k, by omega, hfit, ?_, keep_bits s1 h5⟩
  intro r hr
  rcases List.mem_cons.1 hr with rfl | hr
  · exact ⟨_, List.mem_cons_self, s3, by rw [s1]; exact s2, by rw [s1]; exact hval⟩
  · exact keep_rows s1 (fun _ => List.mem_cons_of_mem _) h4 r hr
set_option maxRecDepth 100000 in
theorem Wb.timesL {w : World} {B p n N : Nat} {rows : List (Value × Nat)} {bs : List (Nat × Nat)} {W : World} (hp : 2 < p) (h1n : 1 ≤ n) (hn : n ≤ 16) (h : Wb w B p n N rows bs W) {va wa : Value} {m1 m2 : Nat} (ha : (va, m1) ∈ rows) (hb : (wa, m2) ∈ rows) (hN : N + (n * (10 * n + 1)) ≤ 65536) :
    Calls Try.prog 14 #[.pointer (some ⟨B, 0, none⟩), va, wa] W fun e W' => ∃ vo, e = .returned vo ∧ Wb w B p n (N + (n * (10 * n + 1))) ((vo, m1 * m2 % 2 ^ n) :: rows) bs W' := by
  have H := Lib.hid (Wb.times hp h1n hn h ha hb hN)
  obtain ⟨g, c, rfl⟩ := h.form ha (by omega)
  obtain ⟨g', c', rfl⟩ := h.form hb (by omega)
  clear h ha hb
  go_enter Try.func14, Try.ntmps14
  go_wp2_with (go_at_call 31; refine H.out.mono ?_; rintro e w1 ⟨vo, rfl, hk⟩; have HK := Lib.hid hk; clear hk)
  go_ret
  exact ⟨vo, rfl, HK.out⟩
theorem Wb.same {w : World} {B p n N : Nat} {rows : List (Value × Nat)} {bs : List (Nat × Nat)} {W : World} (hp : 2 < p) (h1n : 1 ≤ n) (hn : n ≤ 16) (h : Wb w B p n N rows bs W) {va wa : Value} {m1 m2 : Nat} (ha : (va, m1) ∈ rows) (hb : (wa, m2) ∈ rows) (hN : N + (1 + 7 * n) ≤ 65536) :
    Calls Try.prog 16 #[.pointer (some ⟨B, 0, none⟩), va, wa] W fun e W' => ∃ i : Nat, e = .returned (.tuple #[.int .i64 ((i : Nat) : Int), .int .i64 0]) ∧ Wb w B p n (N + (1 + 7 * n)) rows ((i, if m1 = m2 then 1 else 0) :: bs) W' := by
  obtain ⟨G, R, h1, h2, h3, h4, h5⟩ := h
  obtain ⟨vs, a1, a2, a3, a4⟩ := h4 _ ha
  obtain ⟨ws, b1, b2, b3, b4⟩ := h4 _ hb
  simp only at a1 a4 b1 b4
  refine (h1.same (by omega) a1 b1 n a2 b2 h1n hn a3.lt b3.lt (by omega)).mono fun _ _ he => ?_
  obtain ⟨e1, k⟩ := he
  obtain ⟨e, s1, s2, s3⟩ := same_sem hp G vs ws n a2 b2 a3 b3
  rw [a4, b4] at s3
  have hl := same_len13 (G := G) a2 b2
  refine ⟨_, e1, _, _, k, by omega, fits_same hp a3.lt b3.lt h3, keep_rows s1 (fun _ h => h) h4, ?_⟩
  intro b hb
  rcases List.mem_cons.1 hb with rfl | hb
  · exact ⟨by rw [← vals_len p, s1]; exact s2, by rw [s1]; exact s3⟩
  · exact keep_bits s1 h5 b hb
theorem Wb.less {w : World} {B p n N : Nat} {rows : List (Value × Nat)} {bs : List (Nat × Nat)} {W : World} (hp : 2 < p) (h1n : 1 ≤ n) (hn : n ≤ 16) (h : Wb w B p n N rows bs W) {va wa : Value} {m1 m2 : Nat} (ha : (va, m1) ∈ rows) (hb : (wa, m2) ∈ rows) (hN : N + (3 + 11 * n) ≤ 65536) :
    Calls Try.prog 17 #[.pointer (some ⟨B, 0, none⟩), va, wa] W fun e W' => ∃ i : Nat, e = .returned (.tuple #[.int .i64 ((i : Nat) : Int), .int .i64 0]) ∧ Wb w B p n (N + (3 + 11 * n)) rows ((i, if m1 < m2 then 1 else 0) :: bs) W' := by
  obtain ⟨G, R, h1, h2, h3, h4, h5⟩ := h
  obtain ⟨vs, a1, a2, a3, a4⟩ := h4 _ ha
  obtain ⟨ws, b1, b2, b3, b4⟩ := h4 _ hb
  simp only at a1 a4 b1 b4
  refine (h1.less (by omega) a1 b1 n a2 b2 h1n hn a3.lt b3.lt (by omega)).mono fun _ _ he => ?_
  obtain ⟨e1, k⟩ := he
  obtain ⟨e, s1, s2, s3⟩ := less_sem hp G vs ws n a2 b2 a3 b3
  rw [a4, b4] at s3
  have hl := less_len (G := G) a2 b2
  refine ⟨_, e1, _, _, k, by omega, fits_less hp a2 b2 a3.lt b3.lt h3, keep_rows s1 (fun _ h => h) h4, ?_⟩
  intro b hb
  rcases List.mem_cons.1 hb with rfl | hb
  · exact ⟨by rw [← vals_len p, s1]; exact s2, by rw [s1]; exact s3⟩
  · exact keep_bits s1 h5 b hb
end Go.Proofs.Ytkcdlbclodjjhaa
