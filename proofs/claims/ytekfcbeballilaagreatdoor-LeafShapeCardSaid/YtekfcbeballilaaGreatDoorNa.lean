import Derived.Test.YtekfcbeballilaaGreatDoorSb
section
namespace Go.Eng
open Go Go.RowKit Go.Proofs
set_option maxHeartbeats 1000000
set_option maxRecDepth 10000
section
variable {X : ExtF} {Y : LiesF}
theorem nat_Nat_digits_ans (hN : CxOk (cz X Y)) (a : Nat) (H : Heap) : Ans (cz X Y) F.nat_Nat_digits [.num a] H fun x K => x = .isl ((digs a).map u32) (digs a).length ∧ K = H := by
  refine Ans_imp (.cons (Imp.num a) .nil) ?_
  refine G_body hN (fn := B.nat_Nat_digits) (sz := 9) rfl rfl rfl rfl rfl ?_
  refine G_run hN (G_v rfl rfl <| G_nil) ?_
  refine G_seq ?_
  refine G_run hN (G_v rfl rfl <| G_v rfl rfl <| G_nil) ?_
  refine G_if0 rfl ?_
  refine G_skip (G_pop ?_)
  refine G_run hN (G_v rfl rfl <| G_v rfl rfl <| G_v rfl rfl <| G_v rfl rfl <| G_v rfl rfl <| G_nil) ?_
  exact G_ret (G_end rfl ⟨rfl, rfl⟩)
theorem nat_at_ans (hN : CxOk (cz X Y)) (l : List Nat) (hl : Dg l) (i : Nat) (H : Heap) : Ans (cz X Y) F.nat_at [.isl (l.map u32) l.length, .int .i64 i] H fun x K => x = .int .u64 (l.getD i 0 : Nat) ∧ K = H := by
  refine G_body hN (fn := B.nat_at) (sz := 14) rfl rfl rfl rfl rfl ?_
  refine G_run hN (G_v rfl rfl G_nil) ?_
  refine G_seq ?_
  refine G_run hN (G_v rfl rfl <| G_v rfl rfl <| G_v rfl rfl <| G_v rfl rfl G_nil) ?_
  refine G_if rfl (fun hc => ?_) (fun hc => ?_)
  · have hi : i < l.length := by simp at hc; exact hc
    refine G_run hN (G_v rfl rfl <| G_v rfl rfl <| G_v rfl (g_idxi1 i rfl rfl rfl rfl rfl rfl hi) <| G_v rfl (g_load (x := u32 (l.getD i 0)) rfl rfl rfl rfl rfl (u32_at hi)) <| G_v rfl rfl <| G_v rfl rfl <| G_nil) ?_
    refine G_ret (G_end rfl ⟨?_, rfl⟩)
    have := hl.get i
    simp only [wrapR]
    rw [IntWalk.u64_in _ (by simp only [BB] at this; omega)]
  · have hi : ¬ i < l.length := by simp at hc; omega
    refine G_skip (G_pop ?_)
    refine G_run hN (G_v rfl rfl G_nil) ?_
    refine G_ret (G_end rfl ⟨?_, rfl⟩)
    have : l.getD i 0 = 0 := by rw [List.getD_eq_getElem?_getD, List.getElem?_eq_none (by omega)]; rfl
    rw [this]; rfl
end
end Go.Eng
end
section
namespace Go.Eng
open Go Go.RowKit Go.Proofs
set_option maxHeartbeats 1000000
set_option maxRecDepth 10000
section
variable {X : ExtF} {Y : LiesF}
/-- The least that a look from above may go down to. -/
theorem down_stop {l : List Nat} (hl : Dg l) {k : Nat} (h1 : (digs (val l)).length ≤ k) (_h2 : k ≤ l.length) : (0 < k ∧ l.getD (k - 1) 0 = 0 → (digs (val l)).length ≤ k - 1) ∧ (¬ (0 < k ∧ l.getD (k - 1) 0 = 0) → k = (digs (val l)).length) := by
  obtain ⟨d1, d2, d3⟩ := digs_len_le hl
  constructor
  · rintro ⟨hk, h0⟩
    rcases Nat.lt_or_ge (digs (val l)).length k with h | h
    · omega
    · exfalso
      have e : (digs (val l)).length = k := by omega
      have hv : 0 < val l := by
        rcases Nat.eq_zero_or_pos (val l) with hz | hz
        · rw [hz, digs_zero] at e; simp at e; omega
        · exact hz
      obtain ⟨q1, q2⟩ := digs_last hv
      rw [e, d2, e] at q1
      apply q1
      rw [List.getD_eq_getElem?_getD, List.getElem?_take, if_pos (by omega), ← List.getD_eq_getElem?_getD]
      exact h0
  · intro h
    rcases Nat.lt_or_ge (digs (val l)).length k with hlt | hge
    · exfalso
      exact h ⟨by omega, d3 (k - 1) (by omega)⟩
    · omega
/-- What 'of' leaves: a struct with the digits. -/
def ofK (H : Heap) (id k cap : Nat) (ex : Bool) : Heap := H.allocT (.cells [.slice id 0 k cap ex 1]) Ty.nat_Nat (some 1)
theorem nat_of_ans (hN : CxOk (cz X Y)) {l : List Nat} (hl : Dg l) {id n cap : Nat} {ex : Bool} {H : Heap} (hg : H.t.get id = some (.cells (l.map u32))) (hn : n = l.length) (hc : n ≤ cap) (hb : l.length ≤ 281474976710656) :
    Ans (cz X Y) F.nat_of [.slice id 0 n cap ex 1] H fun x K => x = .ptr H.nx 0 ∧ K = ofK H id (digs (val l)).length cap ex := by
  subst hn
  refine G_body hN (fn := B.nat_of) (sz := 23) rfl rfl rfl rfl rfl ?_
  refine G_run hN (G_v rfl rfl <| G_nil) ?_
  refine G_run hN (G_v rfl rfl <| G_v rfl rfl <| G_v rfl rfl <| G_nil) ?_
  refine G_mid (α := Unit) (fun _ => True) (fun _ => [(0, .slice id 0 l.length cap ex 1), (3, .int .i64 ((digs (val l)).length : Nat))]) (fun _ => H) (G_block ?_) fun _ _ => ?_
  · refine G_loop (α := Nat) (fun k => (digs (val l)).length ≤ k ∧ k ≤ l.length) (fun k => k) (fun k => [(0, .slice id 0 l.length cap ex 1), (3, .int .i64 (k : Nat))]) (fun _ => H) l.length ⟨(digs_len_le hl).1, Nat.le_refl _⟩ (M1 rfl <| M1 rfl M0) (Heap.Sub.refl H) fun k ⟨i1, i2⟩ => ?_
    obtain ⟨p1, p2⟩ := down_stop hl i1 i2
    refine G_seq ?_
    rcases Nat.eq_zero_or_pos k with hk | hk
    · refine G_run hN (G_v rfl rfl <| G_v rfl (g_bool (b := false) rfl (by simp; omega)) <| G_v rfl rfl <| G_n rfl rfl rfl rfl <| G_n rfl rfl rfl rfl <| G_n rfl rfl rfl rfl <| G_n rfl rfl rfl rfl <| G_n rfl rfl rfl rfl <| G_n rfl rfl rfl rfl <| G_v rfl rfl <| G_nil) ?_
      refine G_if0 rfl ?_
      refine G_exit (G_pops (G_leave (G_popx ?_)))
      exact G_done () trivial (M1 rfl <| M2 rfl (by rw [p2 (by omega)]) M0) (Heap.Sub.refl H)
    · have hd : l.getD (k - 1) 0 < BB := hl.get (k - 1)
      refine G_run hN (G_v rfl rfl <| G_v rfl (g_bool (b := true) rfl (by simp; omega)) <| G_v rfl rfl <| G_g rfl rfl <| G_v rfl rfl <| G_g rfl rfl <| G_v rfl rfl <| G_g rfl rfl <| G_v rfl (g_int (b := ((k - 1 : Nat) : Int)) rfl (by rw [IntWalk.i64_in _ (by omega)]; omega)) <|
        G_g rfl rfl <| G_v rfl (g_idx1 (k - 1) rfl rfl rfl rfl rfl rfl (by omega)) <| G_g rfl rfl <| G_v rfl (g_load (cs := l.map u32) (off := 0 + (k - 1)) (x := u32 (l.getD (k - 1) 0)) rfl (by simp only [cellsAt, hg]) rfl rfl rfl (by rw [Nat.zero_add]; exact u32_at (by omega))) <| G_g rfl rfl <| G_v rfl rfl <| G_v rfl rfl <| G_nil) ?_
      refine G_if rfl (fun hc => ?_) (fun hc => ?_)
      · have h0 : l.getD (k - 1) 0 = 0 := by simpa using hc
        refine G_skip (G_pop (G_block ?_))
        refine G_run1 hN (G_v rfl rfl <| G_v rfl rfl <| G_v rfl rfl <| G_nil) ?_
        refine G_popb (G_again (k - 1) ⟨p1 ⟨hk, h0⟩, by omega⟩ (by omega) (M1 rfl <| M2 rfl (by rw [IntWalk.i64_in _ (by omega)]; congr 1; omega) M0) (Heap.Sub.refl H))
      · have h0 : ¬ l.getD (k - 1) 0 = 0 := by simpa using hc
        refine G_exit (G_pops (G_leave (G_popx ?_)))
        exact G_done () trivial (M1 rfl <| M2 rfl (by rw [p2 (by omega)]) M0) (Heap.Sub.refl H)
  · have := (digs_len_le hl).1
    refine G_run hN (G_v rfl rfl <| G_v rfl rfl <| G_v rfl (g_cut (digs (val l)).length rfl rfl rfl rfl rfl rfl (by omega)) <| G_v rfl rfl <| G_v rfl rfl <| G_v rfl rfl <| G_nil) ?_
    exact G_ret (G_end rfl ⟨rfl, rfl⟩)
end
end Go.Eng
end
section
namespace Go.Eng
open Go Go.RowKit Go.Proofs
set_option maxHeartbeats 1000000
set_option maxRecDepth 10000
section
variable {X : ExtF} {Y : LiesF}
theorem fdivB (n : Nat) : Int.fdiv (n : Int) (2 ^ min (Int.toNat 32) IntKind.u64.bits) = ((n / BB : Nat) : Int) := by
  have : (2 : Int) ^ min (Int.toNat 32) IntKind.u64.bits = ((BB : Nat) : Int) := by decide
  rw [this, Int.fdiv_eq_ediv_of_nonneg _ (by omega)]
  rfl
theorem wrapu32 (n : Nat) : IntKind.u32.wrap (n : Int) = ((n % BB : Nat) : Int) := by
  rw [IntKind.wrap_u32]; simp only [BB]; omega
theorem nat_Of_ans (hN : CxOk (cz X Y)) (n : Nat) (hn : n < BB * BB) (H : Heap) : Ans (cz X Y) F.nat_Of [.int .u64 n] H fun x K => x = .num n ∧ K = H := by
  refine Ans_num gl0_free rfl ?_ H
  refine G_body hN (fn := B.nat_Of) (sz := 10) rfl rfl rfl rfl rfl ?_
  refine G_run hN (G_v rfl rfl <| G_nil) ?_
  have hd : Dg [n % BB, n / BB] := by
    simp only [Dg.cons, Dg.nil, and_true]
    exact ⟨Nat.mod_lt _ (by decide), Nat.div_lt_of_lt_mul hn⟩
  have hv : val [n % BB, n / BB] = n := by simp only [val, BB]; omega
  refine G_run hN (G_v rfl rfl <| G_v rfl (g_int (b := ((n % BB : Nat) : Int)) rfl (wrapu32 n)) <| G_v rfl rfl <| G_v rfl (g_int (b := ((n / BB : Nat) : Int)) rfl (fdivB n)) <|
    G_v rfl (g_int (b := ((n / BB : Nat) : Int)) rfl (by rw [wrapu32, Nat.mod_eq_of_lt (Nat.div_lt_of_lt_mul hn)])) <| G_v rfl rfl <| G_c rfl rfl (nat_of_ans hN (l := [n % BB, n / BB]) hd rfl rfl (by simp) (by simp)) <| G_v rfl rfl <| G_nil) ?_
  refine G_ret (G_end rfl ?_)
  exact frz_ofK (l := [n % BB, n / BB]) rfl rfl hd hv _
theorem nat_Nat_Cmp_ans (hN : CxOk (cz X Y)) (a b : Nat) (ha : Sm a) (hb : Sm b) (H : Heap) : Ans (cz X Y) F.nat_Nat_Cmp [.num a, .num b] H fun x K => x = .int .i64 (if a < b then -1 else if b < a then 1 else 0) ∧ K = H := by
  unfold Sm at ha hb
  have dA := digs_dg a
  have dB := digs_dg b
  refine G_body hN (fn := B.nat_Nat_Cmp) (sz := 36) rfl rfl rfl rfl rfl ?_
  refine G_run hN (G_v rfl rfl <| G_nil) ?_
  refine G_run hN (G_v rfl rfl <| G_c rfl rfl (nat_Nat_digits_ans hN a H) <| G_v rfl rfl <| G_c rfl rfl (nat_Nat_digits_ans hN b H) <| G_v rfl rfl <| G_v rfl rfl <| G_nil) ?_
  refine G_mid (α := Unit) (fun _ => a = b) (fun _ => []) (fun _ => H) ?_ ?_
  · refine G_run hN (G_v rfl rfl <| G_v rfl rfl <| G_v rfl rfl <| G_v rfl rfl <| G_v rfl (g_int (b := ((max (digs a).length (digs b).length : Nat) : Int)) rfl (by split <;> omega)) <| G_v rfl (g_int (b := ((max (digs a).length (digs b).length : Nat) : Int) - 1) rfl (by rw [IntWalk.i64_in _ (by omega)])) <| G_v rfl rfl <| G_nil) ?_
    refine G_block ?_
    refine G_loop (α := Nat) (fun i => i ≤ max (digs a).length (digs b).length ∧ ∀ j, i ≤ j → (digs a).getD j 0 = (digs b).getD j 0) (fun i => i) (fun i => [(5, .isl ((digs a).map u32) (digs a).length), (6, .isl ((digs b).map u32) (digs b).length), (7, .int .i64 ((i : Int) - 1))]) (fun _ => H)
      (max (digs a).length (digs b).length) ⟨Nat.le_refl _, fun j hj => by rw [getD_ge (by omega), getD_ge (by omega)]⟩ (M1 rfl <| M1 rfl <| M1 rfl M0) (Heap.Sub.refl H) fun i ⟨i1, i2⟩ => ?_
    refine G_seq ?_
    refine G_run hN (G_v rfl rfl <| G_v rfl rfl <| G_nil) ?_
    refine G_if rfl (fun hc => ?_) (fun hc => ?_)
    · have hi : 0 < i := by simp at hc; omega
      have ei : (i : Int) - 1 = ((i - 1 : Nat) : Int) := by omega
      refine G_skip (G_pop ?_)
      refine G_seq (G_block ?_)
      rw [ei]
      refine G_run hN (G_v rfl rfl <| G_v rfl rfl <| G_c rfl rfl (nat_at_ans hN (digs a) dA (i - 1) H) <| G_v rfl rfl <| G_v rfl rfl <| G_c rfl rfl (nat_at_ans hN (digs b) dB (i - 1) H) <| G_v rfl rfl <| G_v rfl rfl <| G_nil) ?_
      refine G_run hN (G_v rfl rfl <| G_v rfl rfl <| G_v rfl rfl <| G_nil) ?_
      have up : ∀ j, i - 1 < j → (digs a).getD j 0 = (digs b).getD j 0 := fun j hj => i2 j (by omega)
      refine G_if rfl (fun hc => ?_) (fun hc => ?_)
      · have hne : (digs a).getD (i - 1) 0 ≠ (digs b).getD (i - 1) 0 := by have := bne_iff_ne.1 hc; omega
        refine G_seq ?_
        refine G_run hN (G_v rfl rfl <| G_v rfl rfl <| G_v rfl rfl <| G_nil) ?_
        refine G_if rfl (fun hc => ?_) (fun hc => ?_)
        · have hlt : (digs a).getD (i - 1) 0 < (digs b).getD (i - 1) 0 := by have := of_decide_eq_true hc; omega
          have := val_less dA up hlt
          rw [val_digs, val_digs] at this
          refine G_run hN (G_v rfl rfl <| G_nil) ?_
          exact G_ret (LP_ret (MP_ret (G_end rfl ⟨by rw [if_pos this]; rfl, rfl⟩)))
        · have hlt : (digs b).getD (i - 1) 0 < (digs a).getD (i - 1) 0 := by have := of_decide_eq_false hc; omega
          have := val_less dB (fun j hj => (up j hj).symm) hlt
          rw [val_digs, val_digs] at this
          refine G_skip (G_pop ?_)
          refine G_run hN (G_v rfl rfl <| G_nil) ?_
          exact G_ret (LP_ret (MP_ret (G_end rfl ⟨by rw [if_neg (by omega), if_pos this]; rfl, rfl⟩)))
      · have heq : (digs a).getD (i - 1) 0 = (digs b).getD (i - 1) 0 := by have := bne_eq_false_iff_eq.1 hc; omega
        refine G_skip (G_popb (G_pop ?_))
        refine G_run1 hN (G_v rfl rfl <| G_v rfl rfl <| G_v rfl rfl <| G_nil) ?_
        refine G_again (i - 1) ⟨by omega, fun j hj => ?_⟩ (by omega) (M1 rfl <| M1 rfl <| M2 rfl (by rw [IntWalk.i64_in _ (by omega)]) M0) (Heap.Sub.refl H)
        rcases Nat.eq_or_lt_of_le hj with h | h
        · rw [← h]; exact heq
        · exact up j h
    · have hi : i = 0 := by simp at hc; omega
      refine G_exit (G_pops (G_leave (G_popx ?_)))
      refine G_done () ?_ M0 (Heap.Sub.refl H)
      have := val_ext (digs a) (digs b) (fun j => i2 j (by omega))
      rw [val_digs, val_digs] at this
      exact this
  · intro _ hab
    refine G_run hN (G_v rfl rfl <| G_nil) ?_
    exact G_ret (G_end rfl ⟨by rw [if_neg (by omega), if_neg (by omega)]; rfl, rfl⟩)
end
end Go.Eng
end
section
namespace Go.Eng
open Go Go.RowKit Go.Proofs
set_option maxHeartbeats 1000000
set_option maxRecDepth 10000
section
variable {X : ExtF} {Y : LiesF}
theorem add_step {p q r s A B P : Nat} (h : p + P * s = q + r) : p + P * ((s + (A + B)) % BB) + P * BB * ((s + (A + B)) / BB) = q + P * A + (r + P * B) := by
  have e : (s + (A + B)) % BB + BB * ((s + (A + B)) / BB) = s + (A + B) := Nat.mod_add_div _ _
  generalize (s + (A + B)) % BB = u at *
  generalize (s + (A + B)) / BB = v at *
  have : P * (u + BB * v) = P * (s + (A + B)) := by rw [e]
  grind
theorem nat_Nat_Add_ans (hN : CxOk (cz X Y)) (a b : Nat) (ha : Sm a) (hb : Sm b) (H : Heap) : Ans (cz X Y) F.nat_Nat_Add [.num a, .num b] H fun x K => x = .num (a + b) ∧ K = H := by
  unfold Sm at ha hb
  refine Ans_num gl0_free rfl ?_ H
  have dA := digs_dg a
  have dB := digs_dg b
  generalize hm : max (digs a).length (digs b).length + 1 = m
  have hmb : m ≤ 1099511627777 := by omega
  refine G_body hN (fn := B.nat_Nat_Add) (sz := 45) rfl rfl rfl rfl rfl ?_
  refine G_run hN (G_v rfl rfl <| G_nil) ?_
  refine G_run hN (G_v rfl rfl <| G_c rfl rfl (nat_Nat_digits_ans hN a _) <| G_v rfl rfl <| G_c rfl rfl (nat_Nat_digits_ans hN b _) <| G_v rfl rfl <| G_v rfl rfl <| G_nil) ?_
  refine G_run hN (G_v rfl rfl <| G_v rfl rfl <| G_v rfl rfl <| G_v rfl rfl <| G_v rfl (g_int (b := ((max (digs a).length (digs b).length : Nat) : Int)) rfl (by split <;> omega)) <| G_v rfl (g_int (b := (m : Int)) rfl (wi64 (by omega) (by omega) (by omega))) <| G_v rfl (g_makeu m rfl rfl rfl rfl rfl rfl rfl rfl rfl (by omega)) <| G_v rfl rfl <| G_nil) ?_
  refine G_run hN (G_v rfl rfl <| G_nil) ?_
  refine G_mid (α := List Nat) (fun l => l.length = m ∧ Dg l ∧ val l = a + b) (fun _ => [(7, .slice 0 0 m m true 1)]) K1 ?_ ?_
  · refine G_run hN (G_v rfl rfl <| G_v rfl rfl <| G_v rfl rfl <| G_nil) ?_
    refine G_block ?_
    refine G_loop (α := Nat × List Nat × Nat) (fun x => x.1 ≤ m ∧ x.2.1.length = m ∧ Dg x.2.1 ∧ x.2.2 < 2 ∧ val (x.2.1.take x.1) + BB ^ x.1 * x.2.2 = val ((digs a).take x.1) + val ((digs b).take x.1)) (fun x => m - x.1)
      (fun x => [(5, .isl ((digs a).map u32) (digs a).length), (6, .isl ((digs b).map u32) (digs b).length), (7, .slice 0 0 m m true 1), (8, .int .u64 (x.2.2 : Nat)), (22, .int .i64 (m : Nat)), (23, .int .i64 (x.1 : Nat))]) (fun x => K1 x.2.1)
      (0, List.replicate m 0, 0) ⟨by omega, by simp, Dg.replicate m, by simp, by simp [val]⟩ (M1 rfl <| M1 rfl <| M1 rfl <| M1 rfl <| M1 rfl <| M1 rfl M0) (HS1 (Nat.le_refl _) rfl) fun ⟨i, l, s⟩ ⟨i1, i2, i3, i4, i5⟩ => ?_
    simp only at i1 i2 i3 i4 i5
    refine G_run hN (G_v rfl rfl <| G_nil) ?_
    refine G_seq ?_
    refine G_if rfl (fun hc => ?_) (fun hc => ?_)
    · have hi : i < m := by have := of_decide_eq_true hc; omega
      have hA : (digs a).getD i 0 < 4294967296 := dA.get i
      have hB : (digs b).getD i 0 < 4294967296 := dB.get i
      refine G_skip (G_pop ?_)
      refine G_seq (G_block ?_)
      refine G_run hN (G_v rfl rfl <| G_v rfl rfl <| G_nil) ?_
      refine G_run hN (G_v rfl rfl <| G_v rfl rfl <| G_v rfl rfl <| G_c rfl rfl (nat_at_ans hN (digs a) dA i _) <| G_v rfl rfl <| G_v rfl rfl <| G_c rfl rfl (nat_at_ans hN (digs b) dB i _) <|
        G_v rfl (g_int (b := (((digs a).getD i 0 + (digs b).getD i 0 : Nat) : Int)) rfl (w64 (by omega) (by omega))) <| G_v rfl (g_int (b := ((s + ((digs a).getD i 0 + (digs b).getD i 0) : Nat) : Int)) rfl (w64 (by simp only; omega) (by omega))) <| G_v rfl rfl <| G_nil) ?_
      refine G_run hN (G_v rfl rfl <| G_v rfl rfl <| G_v rfl rfl <| G_v rfl (g_int rfl (wm32 (b := s + ((digs a).getD i 0 + (digs b).getD i 0)) rfl)) <| G_v rfl (g_idx1 i rfl rfl rfl rfl rfl rfl hi) <| G_s (g_storeu (l := l) rfl rfl rfl rfl rfl (by omega)) <| G_nil) ?_
      refine G_run1 hN (G_v rfl rfl <| G_v rfl (g_shr (s := 32) (n := s + ((digs a).getD i 0 + (digs b).getD i 0)) (p := BB) rfl rfl rfl (by decide) rfl) <| G_v rfl rfl <| G_nil) ?_
      refine G_popb (G_pop ?_)
      refine G_run1 hN (G_v rfl (g_int (b := ((i + 1 : Nat) : Int)) rfl (wi64 (by omega) (by omega) (by omega))) <| G_v rfl rfl <| G_nil) ?_
      refine G_again (i + 1, l.set (0 + i) ((s + ((digs a).getD i 0 + (digs b).getD i 0)) % BB), (s + ((digs a).getD i 0 + (digs b).getD i 0)) / BB) ⟨by simp only; omega, by simp only [List.length_set]; omega, i3.set (Nat.mod_lt _ (by decide)) _, by simp only [BB]; omega, ?_⟩ (by simp only; omega)
        (M1 rfl <| M1 rfl <| M1 rfl <| M1 rfl <| M1 rfl <| M1 rfl M0) (HS1 (Nat.le_refl _) rfl)
      simp only [Nat.zero_add]
      rw [val_set_succ (by omega), Nat.pow_succ, val_take_succ (digs a), val_take_succ (digs b)]
      exact add_step i5
    · have hi : i = m := by have := of_decide_eq_false hc; omega
      subst hi
      refine G_exit (G_pops (G_leave (G_popx ?_)))
      refine G_done l ⟨i2, i3, ?_⟩ (M1 rfl M0) (HS1 (Nat.le_refl _) rfl)
      rw [val_take_all l (by omega), val_take_all (digs a) (by omega), val_take_all (digs b) (by omega), val_digs, val_digs] at i5
      have q1 := Nat.lt_of_lt_of_le (lt_pow_len a) (Nat.pow_le_pow_right (n := BB) (by decide) (show (digs a).length ≤ i - 1 by omega))
      have q2 := Nat.lt_of_lt_of_le (lt_pow_len b) (Nat.pow_le_pow_right (n := BB) (by decide) (show (digs b).length ≤ i - 1 by omega))
      have q3 : BB ^ i = BB ^ (i - 1) * BB := by rw [← Nat.pow_succ]; congr 1; omega
      have : s = 0 := by
        rcases Nat.eq_zero_or_pos s with h | h
        · exact h
        · exfalso
          have : s = 1 := by omega
          subst this
          rw [q3] at i5
          simp only [BB] at *
          omega
      subst this
      omega
  · rintro l ⟨l1, l2, l3⟩
    refine G_run hN (G_v rfl rfl <| G_c rfl rfl (nat_of_ans hN (l := l) l2 rfl l1.symm (Nat.le_refl _) (by omega)) <| G_v rfl rfl <| G_nil) ?_
    exact G_ret (G_end rfl (frz_ofK (l := l) rfl rfl l2 l3 _))
end
end Go.Eng
end
section
namespace Go.Eng
open Go Go.RowKit Go.Proofs
set_option maxHeartbeats 1000000
set_option maxRecDepth 10000
section
variable {X : ExtF} {Y : LiesF}
theorem less_step {p q r c A B P d c' : Nat} (h : p + r = q + P * c) (e : d + (B + c) = A + BB * c') : p + P * d + (r + P * B) = q + P * A + P * BB * c' := by
  have : P * (d + (B + c)) = P * (A + BB * c') := by rw [e]
  grind
theorem borrow (A B c : Nat) (hA : A < 4294967296) (hB : B < 4294967296) (hc : c < 2) : ∃ d c', d < BB ∧ c' < 2 ∧ d + (B + c) = A + BB * c' ∧ IntKind.u32.wrap (-(c : Int) + ((A : Int) - B)) = d ∧ Int.fdiv (-(c : Int) + ((A : Int) - B)) (2 ^ min (Int.toNat 32) IntKind.i64.bits) = -(c' : Int) := by
  have e2 : (2 : Int) ^ min (Int.toNat 32) IntKind.i64.bits = 4294967296 := by decide
  rw [e2, Int.fdiv_eq_ediv_of_nonneg _ (by omega), IntKind.wrap_u32]
  simp only [BB]
  rcases Nat.lt_or_ge A (B + c) with h | h
  · exact ⟨A + 4294967296 - (B + c), 1, by omega, by omega, by omega, by omega, by omega⟩
  · exact ⟨A - (B + c), 0, by omega, by omega, by omega, by omega, by omega⟩
theorem nat_Nat_Less_ans (hN : CxOk (cz X Y)) (a b : Nat) (ha : Sm a) (hb : Sm b) (H : Heap) : Ans (cz X Y) F.nat_Nat_Less [.num a, .num b] H fun x K => x = (if a < b then .tuple [.nilp, .bool false] else .tuple [.num (a - b), .bool true]) ∧ K = H := by
  have ha' := ha
  have hb' := hb
  unfold Sm at ha hb
  rcases Nat.lt_or_ge a b with hab | hab
  · rw [if_pos hab]
    refine G_body hN (fn := B.nat_Nat_Less) (sz := 48) rfl rfl rfl rfl rfl ?_
    refine G_run hN (G_v rfl rfl <| G_v rfl rfl <| G_nil) ?_
    refine G_seq ?_
    refine G_run hN (G_v rfl rfl <| G_v rfl rfl <| G_c rfl rfl (nat_Nat_Cmp_ans hN a b ha' hb' _) <| G_v rfl (g_bool (b := true) rfl (by rw [if_pos hab]; rfl)) <| G_nil) ?_
    refine G_if1 rfl ?_
    refine G_run hN (G_v rfl rfl <| G_v rfl rfl <| G_nil) ?_
    exact G_ret (G_end rfl ⟨rfl, rfl⟩)
  rw [if_neg (by omega)]
  refine Ans_free gl0_free (.tuple (.cons (Imp.num' (a - b)) (.cons (Imp.refl _) .nil))) rfl ?_ H
  have dA := digs_dg a
  have dB := digs_dg b
  generalize hm : (digs a).length = m
  have hmb : m ≤ 1099511627777 := by omega
  refine G_body hN (fn := B.nat_Nat_Less) (sz := 48) rfl rfl rfl rfl rfl ?_
  refine G_run hN (G_v rfl rfl <| G_v rfl rfl <| G_nil) ?_
  refine G_seq ?_
  refine G_run hN (G_v rfl rfl <| G_v rfl rfl <| G_c rfl rfl (nat_Nat_Cmp_ans hN a b ha' hb' _) <| G_v rfl (g_bool (b := false) rfl (by rw [if_neg (by omega)]; split <;> rfl)) <| G_nil) ?_
  refine G_if0 rfl ?_
  refine G_skip (G_pop ?_)
  refine G_run hN (G_v rfl rfl <| G_c rfl rfl (nat_Nat_digits_ans hN a _) <| G_v rfl rfl <| G_c rfl rfl (nat_Nat_digits_ans hN b _) <| G_v rfl rfl <| G_v rfl rfl <| G_nil) ?_
  refine G_run hN (G_v rfl rfl <| G_v rfl (g_int (b := (m : Int)) rfl (by omega)) <| G_v rfl (g_makeu m rfl rfl rfl rfl rfl rfl rfl rfl rfl (by omega)) <| G_v rfl rfl <| G_nil) ?_
  refine G_run hN (G_v rfl rfl <| G_nil) ?_
  refine G_mid (α := List Nat) (fun l => l.length = m ∧ Dg l ∧ val l = a - b) (fun _ => [(8, .slice 0 0 m m true 1)]) K1 ?_ ?_
  · refine G_run hN (G_v rfl rfl <| G_v rfl rfl <| G_v rfl rfl <| G_nil) ?_
    refine G_block ?_
    refine G_loop (α := Nat × List Nat × Nat) (fun x => x.1 ≤ m ∧ x.2.1.length = m ∧ Dg x.2.1 ∧ x.2.2 < 2 ∧ val (x.2.1.take x.1) + val ((digs b).take x.1) = val ((digs a).take x.1) + BB ^ x.1 * x.2.2) (fun x => m - x.1)
      (fun x => [(6, .isl ((digs a).map u32) (digs a).length), (7, .isl ((digs b).map u32) (digs b).length), (8, .slice 0 0 m m true 1), (9, .int .i64 (-(x.2.2 : Nat))), (23, .int .i64 (m : Nat)), (24, .int .i64 (x.1 : Nat))]) (fun x => K1 x.2.1)
      (0, List.replicate m 0, 0) ⟨by omega, by simp, Dg.replicate m, by simp, by simp [val]⟩ (M1 rfl <| M1 rfl <| M1 rfl <| M1 rfl <| M1 rfl <| M1 rfl M0) (HS1 (Nat.le_refl _) rfl) fun ⟨i, l, s⟩ ⟨i1, i2, i3, i4, i5⟩ => ?_
    simp only at i1 i2 i3 i4 i5
    refine G_run hN (G_v rfl rfl <| G_nil) ?_
    refine G_seq ?_
    refine G_if rfl (fun hc => ?_) (fun hc => ?_)
    · have hi : i < m := by have := of_decide_eq_true hc; omega
      have hA : (digs a).getD i 0 < 4294967296 := dA.get i
      have hB : (digs b).getD i 0 < 4294967296 := dB.get i
      obtain ⟨d, c', b1, b2, b3, b4, b5⟩ := borrow _ _ _ hA hB i4
      refine G_skip (G_pop ?_)
      refine G_seq (G_block ?_)
      refine G_run hN (G_v rfl rfl <| G_v rfl rfl <| G_nil) ?_
      refine G_run hN (G_v rfl rfl <| G_v rfl rfl <| G_v rfl rfl <| G_c rfl rfl (nat_at_ans hN (digs a) dA i _) <| G_v rfl (g_int (b := ((digs a).getD i 0 : Nat)) rfl (wi64 rfl (by omega) (by omega))) <| G_v rfl rfl <| G_v rfl rfl <| G_c rfl rfl (nat_at_ans hN (digs b) dB i _) <|
        G_v rfl (g_int (b := ((digs b).getD i 0 : Nat)) rfl (wi64 rfl (by omega) (by omega))) <| G_v rfl (g_int (b := (((digs a).getD i 0 : Nat) : Int) - ((digs b).getD i 0 : Nat)) rfl (wi64 (by omega) (by omega) (by omega))) <|
        G_v rfl (g_int (b := -(s : Int) + ((((digs a).getD i 0 : Nat) : Int) - ((digs b).getD i 0 : Nat))) rfl (wi64 rfl (by omega) (by omega))) <| G_v rfl rfl <| G_nil) ?_
      refine G_run hN (G_v rfl rfl <| G_v rfl rfl <| G_v rfl rfl <| G_v rfl (g_int rfl b4) <| G_v rfl (g_idx1 i rfl rfl rfl rfl rfl rfl hi) <| G_s (g_storeu (l := l) rfl rfl rfl rfl rfl (by omega)) <| G_nil) ?_
      refine G_run1 hN (G_v rfl rfl <| G_v rfl (g_int rfl b5) <| G_v rfl rfl <| G_nil) ?_
      refine G_popb (G_pop ?_)
      refine G_run1 hN (G_v rfl (g_int (b := ((i + 1 : Nat) : Int)) rfl (wi64 (by omega) (by omega) (by omega))) <| G_v rfl rfl <| G_nil) ?_
      refine G_again (i + 1, l.set (0 + i) d, c') ⟨by simp only; omega, by simp only [List.length_set]; omega, i3.set b1 _, b2, ?_⟩ (by simp only; omega)
        (M1 rfl <| M1 rfl <| M1 rfl <| M1 rfl <| M1 rfl <| M1 rfl M0) (HS1 (Nat.le_refl _) rfl)
      simp only [Nat.zero_add]
      rw [val_set_succ (by omega), Nat.pow_succ, val_take_succ (digs a), val_take_succ (digs b)]
      exact less_step i5 b3
    · have hi : i = m := by have := of_decide_eq_false hc; omega
      refine G_exit (G_pops (G_leave (G_popx ?_)))
      refine G_done l ⟨i2, i3, ?_⟩ (M1 rfl M0) (HS1 (Nat.le_refl _) rfl)
      have q1 := lt_pow_len a
      have q2 : (digs b).length ≤ i := len_le_of_lt (by rw [hi, ← hm]; omega)
      rw [val_take_all l (by omega), val_take_all (digs a) (by omega), val_take_all (digs b) q2, val_digs, val_digs] at i5
      have q3 := val_mono_pow i3 (n := i) (by omega)
      have : s = 0 := by
        rcases Nat.eq_zero_or_pos s with h | h
        · exact h
        · exfalso
          have : s = 1 := by omega
          subst this
          omega
      subst this
      omega
  · rintro l ⟨l1, l2, l3⟩
    refine G_run hN (G_v rfl rfl <| G_c rfl rfl (nat_of_ans hN (l := l) l2 rfl l1.symm (Nat.le_refl _) (by omega)) <| G_v rfl rfl <| G_v rfl rfl <| G_nil) ?_
    exact G_ret (G_end rfl (Frz.tuple (.cons (frz_ofK (l := l) rfl rfl l2 l3 _) (.cons (.bool _) .nil))))
end
end Go.Eng
end
section
namespace Go.Eng
open Go Go.RowKit Go.Proofs
set_option maxHeartbeats 1000000
set_option maxRecDepth 10000
section
variable {X : ExtF} {Y : LiesF}
theorem nat_Nat_Mul_ans (hN : CxOk (cz X Y)) (a b : Nat) (ha : Sm a) (hb : Sm b) (H : Heap) : Ans (cz X Y) F.nat_Nat_Mul [.num a, .num b] H fun x K => x = .num (a * b) ∧ K = H := by
  unfold Sm at ha hb
  refine Ans_num gl0_free rfl ?_ H
  have dA := digs_dg a
  have dB := digs_dg b
  generalize hla : (digs a).length = la
  generalize hlb : (digs b).length = lb
  refine G_body hN (fn := B.nat_Nat_Mul) (sz := 73) rfl rfl rfl rfl rfl ?_
  refine G_run hN (G_v rfl rfl <| G_nil) ?_
  refine G_run hN (G_v rfl rfl <| G_c rfl rfl (nat_Nat_digits_ans hN a _) <| G_v rfl rfl <| G_c rfl rfl (nat_Nat_digits_ans hN b _) <| G_v rfl rfl <| G_v rfl rfl <| G_nil) ?_
  refine G_run hN (G_v rfl rfl <| G_v rfl rfl <| G_v rfl rfl <| G_v rfl rfl <| G_v rfl (g_int (b := ((la + lb : Nat) : Int)) rfl (wi64 (by omega) (by omega) (by omega))) <| G_v rfl (g_makeu (la + lb) rfl rfl rfl rfl rfl rfl rfl rfl rfl (by omega)) <| G_v rfl rfl <| G_nil) ?_
  refine G_mid (α := List Nat) (fun l => l.length = la + lb ∧ Dg l ∧ val l = a * b) (fun _ => [(7, .slice 0 0 (la + lb) (la + lb) true 1)]) K1 ?_ ?_
  · refine G_run hN (G_v rfl rfl <| G_v rfl rfl <| G_v rfl rfl <| G_nil) ?_
    refine G_block ?_
    refine G_loop (α := Nat × List Nat) (fun x => x.1 ≤ la ∧ x.2.length = la + lb ∧ Dg x.2 ∧ (∀ j, x.1 + lb ≤ j → x.2.getD j 0 = 0) ∧ val x.2 = val ((digs a).take x.1) * b) (fun x => la - x.1)
      (fun x => [(6, .isl ((digs b).map u32) (digs b).length), (7, .slice 0 0 (la + lb) (la + lb) true 1), (23, .isl ((digs a).map u32) (digs a).length), (24, .int .i64 (la : Nat)), (25, .int .i64 (x.1 : Nat))]) (fun x => K1 x.2)
      (0, List.replicate (la + lb) 0) ⟨by omega, by simp, Dg.replicate _, fun j _ => by simp only; rcases Nat.lt_or_ge j (la + lb) with h | h
                                                                                        · rw [List.getD_eq_getElem?_getD, List.getElem?_replicate, if_pos h]; rfl
                                                                                        · exact getD_ge (by simpa using h), by simp [val, val_zeros]⟩ (M1 rfl <| M1 rfl <| M1 rfl <| M2 rfl (by rw [hla]) <| M1 rfl M0) (HS1 (Nat.le_refl _) rfl) fun ⟨i, l⟩ ⟨i1, i2, i3, i4, i5⟩ => ?_
    simp only at i1 i2 i3 i4 i5
    refine G_run hN (G_v rfl rfl <| G_nil) ?_
    refine G_seq ?_
    refine G_if rfl (fun hc => ?_) (fun hc => ?_)
    · have hi : i < la := by have := of_decide_eq_true hc; omega
      have hA : (digs a).getD i 0 < 4294967296 := dA.get i
      refine G_skip (G_pop ?_)
      refine G_seq (G_block ?_)
      refine G_run hN (G_v rfl rfl <| G_v rfl (g_idxi1 i rfl rfl rfl rfl rfl rfl (by omega)) <| G_v rfl (g_loadi rfl rfl rfl rfl (by omega)) <| G_v rfl rfl <| G_v rfl rfl <| G_nil) ?_
      refine G_run hN (G_v rfl rfl <| G_nil) ?_
      refine G_mid (α := List Nat × Nat) (fun y => y.1.length = la + lb ∧ Dg y.1 ∧ y.2 < BB ∧ (∀ j, i + lb ≤ j → y.1.getD j 0 = 0) ∧ val y.1 + BB ^ (i + lb) * y.2 = val l + (digs a).getD i 0 * b * BB ^ i)
        (fun y => [(6, .isl ((digs b).map u32) (digs b).length), (7, .slice 0 0 (la + lb) (la + lb) true 1), (8, .int .i64 (i : Nat)), (10, .int .u64 (y.2 : Nat)), (23, .isl ((digs a).map u32) (digs a).length), (24, .int .i64 (la : Nat)), (25, .int .i64 (i : Nat))]) (fun y => K1 y.1) ?_ ?_
      · refine G_run hN (G_v rfl rfl <| G_v rfl rfl <| G_v rfl rfl <| G_nil) ?_
        refine G_block ?_
        refine G_loop (α := Nat × List Nat × Nat) (fun x => x.1 ≤ lb ∧ x.2.1.length = la + lb ∧ Dg x.2.1 ∧ x.2.2 < BB ∧ (∀ j, i + lb ≤ j → x.2.1.getD j 0 = 0) ∧ val x.2.1 + BB ^ (i + x.1) * x.2.2 = val l + (digs a).getD i 0 * val ((digs b).take x.1) * BB ^ i) (fun x => lb - x.1)
          (fun x => [(6, .isl ((digs b).map u32) (digs b).length), (7, .slice 0 0 (la + lb) (la + lb) true 1), (8, .int .i64 (i : Nat)), (9, .int .u32 ((digs a).getD i 0 : Nat)), (10, .int .u64 (x.2.2 : Nat)), (23, .isl ((digs a).map u32) (digs a).length), (24, .int .i64 (la : Nat)), (25, .int .i64 (i : Nat)), (30, .isl ((digs b).map u32) (digs b).length), (31, .int .i64 (lb : Nat)), (32, .int .i64 (x.1 : Nat))]) (fun x => K1 x.2.1)
          (0, l, 0) ⟨by omega, i2, i3, by simp [BB], i4, by simp [val]⟩ (M1 rfl <| M1 rfl <| M1 rfl <| M1 rfl <| M1 rfl <| M1 rfl <| M1 rfl <| M1 rfl <| M1 rfl <| M2 rfl (by rw [hlb]) <| M1 rfl M0) (HS1 (Nat.le_refl _) rfl) fun ⟨k, l', s⟩ ⟨k1, k2, k3, k4, k5, k6⟩ => ?_
        simp only at k1 k2 k3 k4 k5 k6
        refine G_run hN (G_v rfl rfl <| G_nil) ?_
        refine G_seq ?_
        refine G_if rfl (fun hc => ?_) (fun hc => ?_)
        · have hk : k < lb := by have := of_decide_eq_true hc; omega
          have hB : (digs b).getD k 0 < 4294967296 := dB.get k
          have hL : l'.getD (0 + (i + k)) 0 < 4294967296 := k3.get _
          have hs : s < 4294967296 := k4
          have hab : (digs a).getD i 0 * (digs b).getD k 0 ≤ 18446744065119617025 := by
            have := Nat.mul_le_mul (show (digs a).getD i 0 ≤ 4294967295 by omega) (show (digs b).getD k 0 ≤ 4294967295 by omega)
            omega
          generalize hab' : (digs a).getD i 0 * (digs b).getD k 0 = ab at hab
          generalize ht : s + (ab + l'.getD (0 + (i + k)) 0) = t
          have htb : t < 18446744073709551616 := by omega
          refine G_skip (G_pop ?_)
          refine G_seq (G_block ?_)
          refine G_run hN (G_v rfl rfl <| G_v rfl (g_idxi1 k rfl rfl rfl rfl rfl rfl (by omega)) <| G_v rfl (g_loadi rfl rfl rfl rfl (by omega)) <| G_v rfl rfl <| G_v rfl rfl <| G_nil) ?_
          refine G_run hN (G_v rfl rfl <| G_v rfl rfl <| G_v rfl (g_int (b := ((digs a).getD i 0 : Nat)) rfl (w64 rfl (by omega))) <| G_v rfl rfl <| G_v rfl (g_int (b := ((digs b).getD k 0 : Nat)) rfl (w64 rfl (by omega))) <| G_v rfl (g_int (b := (ab : Nat)) rfl (w64 (by rw [← hab']; simp) (by omega))) <|
            G_v rfl rfl <| G_v rfl rfl <| G_v rfl rfl <| G_v rfl (g_int (b := ((i + k : Nat) : Int)) rfl (wi64 (by omega) (by omega) (by omega))) <| G_v rfl (g_idx1 (i + k) rfl rfl rfl rfl rfl rfl (by omega)) <| G_v rfl (g_loadu (l := l') rfl rfl rfl rfl rfl (by omega)) <| G_v rfl (g_int (b := (l'.getD (0 + (i + k)) 0 : Nat)) rfl (w64 rfl (by omega))) <|
            G_v rfl (g_int (b := ((ab + l'.getD (0 + (i + k)) 0 : Nat) : Int)) rfl (w64 (by omega) (by omega))) <| G_v rfl (g_int (b := (t : Nat)) rfl (w64 (by simp only; omega) (by omega))) <| G_v rfl rfl <| G_nil) ?_
          refine G_run hN (G_v rfl rfl <| G_v rfl rfl <| G_v rfl rfl <| G_v rfl (g_int (b := ((i + k : Nat) : Int)) rfl (wi64 (by omega) (by omega) (by omega))) <| G_v rfl rfl <| G_v rfl (g_int rfl (wm32 (b := t) rfl)) <| G_v rfl (g_idx1 (i + k) rfl rfl rfl rfl rfl rfl (by omega)) <| G_s (g_storeu (l := l') rfl rfl rfl rfl rfl (by omega)) <| G_nil) ?_
          refine G_run1 hN (G_v rfl rfl <| G_v rfl (g_shr (s := 32) (n := t) (p := BB) rfl rfl rfl (by decide) rfl) <| G_v rfl rfl <| G_nil) ?_
          refine G_popb (G_pop ?_)
          refine G_run1 hN (G_v rfl (g_int (b := ((k + 1 : Nat) : Int)) rfl (wi64 (by omega) (by omega) (by omega))) <| G_v rfl rfl <| G_nil) ?_
          refine G_again (k + 1, l'.set (0 + (i + k)) (t % BB), t / BB) ⟨by simp only; omega, by simp only [List.length_set]; omega, k3.set (Nat.mod_lt _ (by decide)) _, by simp only [BB]; omega, fun j hj => by simp only; rw [getD_set_ne _ _ (by omega)]; exact k5 j hj, ?_⟩ (by simp only; omega)
            (M1 rfl <| M1 rfl <| M1 rfl <| M1 rfl <| M1 rfl <| M1 rfl <| M1 rfl <| M1 rfl <| M1 rfl <| M1 rfl <| M1 rfl M0) (HS1 (Nat.le_refl _) rfl)
          simp only [Nat.zero_add] at ht ⊢
          have e1 := val_set l' (i + k) (t % BB) (by omega)
          have e2 : t % BB + BB * (t / BB) = t := Nat.mod_add_div _ _
          rw [val_take_succ, ← Nat.add_assoc, Nat.pow_succ]
          have e3 : BB ^ (i + k) = BB ^ i * BB ^ k := Nat.pow_add _ _ _
          generalize t % BB = p at *
          generalize t / BB = q at *
          generalize val (l'.set (i + k) p) = v' at *
          generalize val l' = v at *
          generalize val l = w at *
          generalize val ((digs b).take k) = u at *
          generalize l'.getD (i + k) 0 = c at *
          generalize BB ^ (i + k) = P at *
          subst e3
          subst ht
          have e4 : BB ^ i * BB ^ k * (p + BB * q) = BB ^ i * BB ^ k * (s + (ab + c)) := by rw [e2]
          rw [← hab'] at e4
          generalize BB ^ i = I at *
          generalize BB ^ k = J at *
          generalize (digs a).getD i 0 = A at *
          generalize (digs b).getD k 0 = B at *
          grind
        · have hk : k = lb := by have := of_decide_eq_false hc; omega
          refine G_exit (G_pops (G_leave (G_popx ?_)))
          refine G_done (l', s) ⟨k2, k3, k4, k5, ?_⟩ (M1 rfl <| M1 rfl <| M1 rfl <| M1 rfl <| M1 rfl <| M1 rfl <| M1 rfl M0) (HS1 (Nat.le_refl _) rfl)
          rw [val_take_all (digs b) (by omega), val_digs, hk] at k6
          exact k6
      · rintro ⟨l', s⟩ ⟨k2, k3, k4, k5, k6⟩
        simp only at k2 k3 k4 k5 k6
        have hs : s < 4294967296 := k4
        refine G_run1 hN (G_v rfl rfl <| G_v rfl rfl <| G_v rfl rfl <| G_v rfl rfl <| G_v rfl (g_int (b := ((i + lb : Nat) : Int)) rfl (wi64 (by omega) (by omega) (by omega))) <| G_v rfl rfl <| G_v rfl (g_int (b := (s : Nat)) rfl (by rw [wm32 (b := s) rfl, Nat.mod_eq_of_lt (by omega)])) <| G_v rfl (g_idx1 (i + lb) rfl rfl rfl rfl rfl rfl (by omega)) <| G_s (g_storeu (l := l') rfl rfl rfl rfl rfl (by omega)) <| G_nil) ?_
        refine G_popb (G_pop ?_)
        refine G_run1 hN (G_v rfl (g_int (b := ((i + 1 : Nat) : Int)) rfl (wi64 (by omega) (by omega) (by omega))) <| G_v rfl rfl <| G_nil) ?_
        refine G_again (i + 1, l'.set (0 + (i + lb)) s) ⟨by simp only; omega, by simp only [List.length_set]; omega, k3.set k4 _, fun j hj => by simp only; rw [getD_set_ne _ _ (by omega)]; exact k5 j (by omega), ?_⟩ (by simp only; omega)
            (M1 rfl <| M1 rfl <| M1 rfl <| M1 rfl <| M1 rfl M0) (HS1 (Nat.le_refl _) rfl)
        simp only [Nat.zero_add]
        have e1 := val_set l' (i + lb) s (by omega)
        rw [k5 (i + lb) (Nat.le_refl _), Nat.mul_zero, Nat.add_zero] at e1
        rw [e1, k6, i5, val_take_succ]
        grind
    · have hi : i = la := by have := of_decide_eq_false hc; omega
      refine G_exit (G_pops (G_leave (G_popx ?_)))
      refine G_done l ⟨i2, i3, ?_⟩ (M1 rfl M0) (HS1 (Nat.le_refl _) rfl)
      rw [i5, val_take_all (digs a) (by omega), val_digs]
  · rintro l ⟨l1, l2, l3⟩
    refine G_run hN (G_v rfl rfl <| G_c rfl rfl (nat_of_ans hN (l := l) l2 rfl l1.symm (Nat.le_refl _) (by omega)) <| G_v rfl rfl <| G_nil) ?_
    exact G_ret (G_end rfl (frz_ofK (l := l) rfl rfl l2 l3 _))
end
end Go.Eng
end
section
namespace Go.Eng
open Go Go.RowKit Go.Proofs
set_option maxHeartbeats 1000000
set_option maxRecDepth 10000
/-- How many bits. -/
def bl (n : Nat) : Nat := if n = 0 then 0 else Nat.log2 n + 1
theorem bl_iff {n k : Nat} (h1 : 2 ^ k ≤ n) (h2 : n < 2 ^ (k + 1)) : bl n = k + 1 := by
  have hn : n ≠ 0 := by
    have := Nat.two_pow_pos k
    omega
  have : Nat.log2 n = k := (Nat.log2_eq_iff hn).2 ⟨h1, h2⟩
  simp [bl, hn, this]
theorem bl_pos {n : Nat} (h : 0 < n) : 0 < bl n ∧ 2 ^ (bl n - 1) ≤ n ∧ n < 2 ^ bl n := by
  have hn : n ≠ 0 := by omega
  simp only [bl, hn, if_false, Nat.add_sub_cancel]
  exact ⟨by omega, Nat.log2_self_le hn, Nat.lt_log2_self⟩
theorem bl_lt {n k : Nat} (h : n < 2 ^ k) : bl n ≤ k := by
  rcases Nat.eq_zero_or_pos n with rfl | hp
  · simp [bl]
  · obtain ⟨_, h1, _⟩ := bl_pos hp
    rcases Nat.lt_or_ge k (bl n) with hk | hk
    · exfalso
      have : 2 ^ k ≤ 2 ^ (bl n - 1) := Nat.pow_le_pow_right (by decide) (by omega)
      omega
    · exact hk
theorem bl_shift {n k : Nat} (h : n / 2 ^ k ≠ 0) : bl n = k + bl (n / 2 ^ k) := by
  obtain ⟨p1, p2, p3⟩ := bl_pos (Nat.pos_of_ne_zero h)
  generalize hb : bl (n / 2 ^ k) = b at *
  obtain ⟨c, rfl⟩ : ∃ c, b = c + 1 := ⟨b - 1, by omega⟩
  simp only [Nat.add_sub_cancel] at p2
  rw [← Nat.add_assoc]
  have hk := Nat.two_pow_pos k
  refine bl_iff ?_ ?_
  · rw [Nat.pow_add]
    have := Nat.mul_le_of_le_div _ _ _ p2
    rw [Nat.mul_comm]
    exact this
  · rw [Nat.add_assoc, Nat.pow_add, Nat.mul_comm]
    exact Nat.lt_mul_of_div_lt p3 hk
section
variable {X : ExtF} {Y : LiesF}
theorem len_step {x k n N : Nat} (h : N = n + bl x) : (x / 2 ^ k ≠ 0 → N = n + k + bl (x / 2 ^ k)) := fun hx => by
  rw [h, bl_shift hx]; omega
theorem bits_Len_ans (hN : CxOk (cz X Y)) (n : Nat) (hn : n < 18446744073709551616) (H : Heap) : Ans (cz X Y) F.bits_Len [.int .u64 n] H fun x K => x = .int .i64 (bl n : Nat) ∧ K = H := by
  refine G_body hN (fn := B.bits_Len) (sz := 23) rfl rfl rfl rfl rfl ?_
  refine G_run hN (G_v rfl rfl <| G_nil) ?_
  refine G_run hN (G_v rfl rfl <| G_nil) ?_
  refine G_mid (α := Nat × Nat) (fun y => y.1 < 2 ∧ y.2 ≤ 64 ∧ bl n = y.2 + bl y.1) (fun y => [(0, .int .u64 (y.1 : Nat)), (3, .int .i64 (y.2 : Nat))]) (fun _ => H) ?_ ?_
  · refine G_run hN (G_v rfl rfl <| G_nil) ?_
    refine G_block ?_
    refine G_loop (α := Nat × Nat × Nat) (fun y => (y.1 = 32 ∧ y.2.1 < 2 ^ 64 ∧ y.2.2 = 0 ∨ y.1 = 16 ∧ y.2.1 < 2 ^ 32 ∧ y.2.2 ≤ 32 ∨ y.1 = 8 ∧ y.2.1 < 2 ^ 16 ∧ y.2.2 ≤ 48 ∨ y.1 = 4 ∧ y.2.1 < 2 ^ 8 ∧ y.2.2 ≤ 56 ∨ y.1 = 2 ∧ y.2.1 < 2 ^ 4 ∧ y.2.2 ≤ 60 ∨ y.1 = 1 ∧ y.2.1 < 2 ^ 2 ∧ y.2.2 ≤ 62 ∨ y.1 = 0 ∧ y.2.1 < 2 ^ 1 ∧ y.2.2 ≤ 63) ∧ bl n = y.2.2 + bl y.2.1) (fun y => y.1)
      (fun y => [(0, .int .u64 (y.2.1 : Nat)), (3, .int .i64 (y.2.2 : Nat)), (4, .int .i64 (y.1 : Nat))]) (fun _ => H)
      (32, n, 0) ⟨.inl ⟨rfl, by simpa using hn, rfl⟩, by simp⟩ (M1 rfl <| M1 rfl <| M1 rfl M0) (Heap.Sub.refl H) fun ⟨k, x, s⟩ ⟨i1, i2⟩ => ?_
    simp only at i1 i2
    have hx : x < 18446744073709551616 := by omega
    have hk : k ≤ 32 := by omega
    have hs : s ≤ 63 := by omega
    refine G_seq ?_
    refine G_run hN (G_v rfl rfl <| G_v rfl rfl <| G_nil) ?_
    refine G_if rfl (fun hc => ?_) (fun hc => ?_)
    · have hk0 : 0 < k := by have := of_decide_eq_true hc; simp only at this; omega
      refine G_skip (G_pop ?_)
      refine G_mid (α := Nat × Nat) (fun y => ((x / 2 ^ k = 0 ∧ y.1 = x ∧ y.2 = s) ∨ (x / 2 ^ k ≠ 0 ∧ y.1 = x / 2 ^ k ∧ y.2 = s + k)) ∧ bl n = y.2 + bl y.1) (fun y => [(0, .int .u64 (y.1 : Nat)), (3, .int .i64 (y.2 : Nat)), (4, .int .i64 (k : Nat))]) (fun _ => H) ?_ ?_
      · refine G_block ?_
        have hkb : k ≤ IntKind.u64.bits := by show k ≤ 64; omega
        refine G_run hN (G_v rfl rfl <| G_v rfl rfl <| G_v rfl (g_shr (s := k) (n := x) (p := 2 ^ k) rfl rfl rfl hkb rfl) <| G_v rfl rfl <| G_nil) ?_
        refine G_if rfl (fun hc => ?_) (fun hc => ?_)
        · have hq : x / 2 ^ k ≠ 0 := by have := bne_iff_ne.1 hc; omega
          refine G_run hN (G_v rfl rfl <| G_v rfl rfl <| G_v rfl (g_shr (s := k) (n := x) (p := 2 ^ k) rfl rfl rfl hkb rfl) <| G_v rfl rfl <| G_nil) ?_
          refine G_run1 hN (G_v rfl rfl <| G_v rfl rfl <| G_v rfl (g_int (b := ((s + k : Nat) : Int)) rfl (wi64 (by simp only; omega) (by omega) (by omega))) <| G_v rfl rfl <| G_nil) ?_
          exact G_popb (G_done (x / 2 ^ k, s + k) ⟨.inr ⟨hq, rfl, rfl⟩, len_step i2 hq⟩ (M1 rfl <| M1 rfl <| M1 rfl M0) (Heap.Sub.refl H))
        · have hq : x / 2 ^ k = 0 := by have := bne_eq_false_iff_eq.1 hc; omega
          exact G_skip (G_popb (G_done (x, s) ⟨.inl ⟨hq, rfl, rfl⟩, i2⟩ (M1 rfl <| M1 rfl <| M1 rfl M0) (Heap.Sub.refl H)))
      · rintro ⟨x', s'⟩ ⟨j1, j2⟩
        simp only at j1 j2
        refine G_run1 hN (G_v rfl rfl <| G_v rfl (g_int (b := ((k / 2 : Nat) : Int)) rfl (by rw [IntWalk.i64_quo _ _ (by omega)]; omega)) <| G_v rfl rfl <| G_nil) ?_
        refine G_again (k / 2, x', s') ⟨?_, j2⟩ (by simp only; omega) (M1 rfl <| M1 rfl <| M1 rfl M0) (Heap.Sub.refl H)
        simp only
        rcases i1 with ⟨rfl, h1, h2⟩ | ⟨rfl, h1, h2⟩ | ⟨rfl, h1, h2⟩ | ⟨rfl, h1, h2⟩ | ⟨rfl, h1, h2⟩ | ⟨rfl, h1, h2⟩ | ⟨rfl, h1, h2⟩ <;> rcases j1 with ⟨q, rfl, rfl⟩ | ⟨q, rfl, rfl⟩ <;> simp at * <;> omega
    · have hk0 : k = 0 := by have := of_decide_eq_false hc; simp only at this; omega
      refine G_exit (G_pops (G_leave (G_popx ?_)))
      exact G_done (x, s) ⟨by omega, by omega, i2⟩ (M1 rfl <| M1 rfl M0) (Heap.Sub.refl H)
  · rintro ⟨x, s⟩ ⟨h1, h2, h3⟩
    simp only at h1 h2 h3
    refine G_run hN (G_v rfl rfl <| G_v rfl rfl <| G_v rfl (g_int (b := ((x : Nat) : Int)) rfl (wi64 rfl (by omega) (by omega))) <| G_v rfl (g_int (b := ((s + x : Nat) : Int)) rfl (wi64 (by simp only; omega) (by omega) (by omega))) <| G_v rfl rfl <| G_nil) ?_
    refine G_ret (G_end rfl ⟨?_, rfl⟩)
    rw [h3]
    have : bl x = x := by
      rcases (show x = 0 ∨ x = 1 by omega) with rfl | rfl <;> rfl
    rw [this]; rfl
end
end Go.Eng
end
