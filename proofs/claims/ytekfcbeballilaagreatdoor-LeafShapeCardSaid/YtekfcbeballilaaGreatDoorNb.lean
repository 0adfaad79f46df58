import Derived.Test.YtekfcbeballilaaGreatDoorNa
import Derived.Test.YtekfcbeballilaaGreatDoorEf
section
namespace Go.Eng
open Go Go.RowKit Go.Proofs
set_option maxHeartbeats 1000000
set_option maxRecDepth 10000
/-- How many noughts stand at the low end. -/
def tz (n : Nat) : Nat := if h : n = 0 then 0 else if n % 2 = 1 then 0 else tz (n / 2) + 1
  termination_by n
  decreasing_by omega
theorem tz_zero : tz 0 = 0 := by unfold tz; simp
theorem tz_of (t m : Nat) : tz (2 ^ t * (2 * m + 1)) = t := by
  induction t with
  | zero => unfold tz; simp
  | succ t ih =>
    have h0 := Nat.two_pow_pos t
    have e1 : 2 ^ (t + 1) * (2 * m + 1) = 2 * (2 ^ t * (2 * m + 1)) := by rw [Nat.pow_succ]; grind
    unfold tz
    rw [e1]
    have h1 : 0 < 2 ^ t * (2 * m + 1) := Nat.mul_pos h0 (by omega)
    rw [dif_neg (by omega), if_neg (by omega), Nat.mul_div_cancel_left _ (by decide), ih]
theorem tz_form {n : Nat} (h : 0 < n) : ∃ m, n = 2 ^ tz n * (2 * m + 1) := by
  induction n using Nat.strongRecOn with
  | _ n ih =>
    rcases Nat.mod_two_eq_zero_or_one n with h2 | h2
    · obtain ⟨m, hm⟩ := ih (n / 2) (by omega) (by omega)
      refine ⟨m, ?_⟩
      have e : tz n = tz (n / 2) + 1 := by
        conv => lhs; unfold tz
        rw [dif_neg (by omega), if_neg (by omega)]
      rw [e, Nat.pow_succ]
      have : n = 2 * (n / 2) := by omega
      generalize tz (n / 2) = k at *
      generalize n / 2 = q at *
      grind
    · refine ⟨n / 2, ?_⟩
      have e : tz n = 0 := by
        unfold tz
        rw [dif_neg (by omega), if_pos h2]
      rw [e]; omega
theorem tz_lt {n k : Nat} (h : 0 < n) (hk : n < 2 ^ k) : tz n < k := by
  obtain ⟨m, hm⟩ := tz_form h
  rcases Nat.lt_or_ge (tz n) k with h1 | h1
  · exact h1
  · exfalso
    have : 2 ^ k ≤ 2 ^ tz n := Nat.pow_le_pow_right (by decide) h1
    have : 2 ^ tz n * 1 ≤ 2 ^ tz n * (2 * m + 1) := Nat.mul_le_mul_left _ (by omega)
    omega
theorem land_compl (m k : Nat) : m &&& (2 ^ k - (m + 1)) = 0 := by
  rcases Nat.lt_or_ge m (2 ^ k) with h | h
  · apply Nat.eq_of_testBit_eq
    intro i
    rw [Nat.testBit_and, Nat.testBit_two_pow_sub_succ h, Nat.zero_testBit]
    cases m.testBit i <;> simp
  · rw [Nat.sub_eq_zero_of_le (by omega), Nat.and_zero]
theorem land_neg {x : Nat} (h : 0 < x) (hx : x < 2 ^ 64) : x &&& (2 ^ 64 - x) = 2 ^ tz x := by
  obtain ⟨m, hm⟩ := tz_form h
  have ht := tz_lt h hx
  generalize tz x = t at *
  have e1 : (2 : Nat) ^ 64 = 2 ^ t * (2 * 2 ^ (63 - t)) := by rw [← Nat.pow_succ', ← Nat.pow_add]; congr 1; omega
  have hm2 : 2 * m + 1 < 2 * 2 ^ (63 - t) := by
    have : 2 ^ t * (2 * m + 1) < 2 ^ t * (2 * 2 ^ (63 - t)) := by rw [← hm, ← e1]; exact hx
    exact Nat.lt_of_mul_lt_mul_left this
  have e2 : 2 ^ 64 - x = 2 ^ t * (2 * (2 ^ (63 - t) - (m + 1)) + 1) := by
    rw [e1, hm, ← Nat.mul_sub]; congr 1; omega
  rw [e2, hm]
  have e3 : ∀ y : Nat, 2 ^ t * y = y <<< t := fun y => by rw [Nat.shiftLeft_eq, Nat.mul_comm]
  rw [e3, e3, ← Nat.shiftLeft_and_distrib]
  have e4 : (2 * m + 1) &&& (2 * (2 ^ (63 - t) - (m + 1)) + 1) = 1 := by
    apply Nat.eq_of_testBit_eq
    intro i
    rw [Nat.testBit_and]
    cases i with
    | zero => simp [Nat.testBit_zero]
    | succ i =>
      have f : ∀ y, (2 * y + 1).testBit (i + 1) = y.testBit i := fun y => by
        rw [Nat.testBit_succ]; congr 1; omega
      rw [f, f, ← Nat.testBit_and, land_compl]
      simp [Nat.testBit_succ]
  rw [e4, Nat.shiftLeft_eq, Nat.one_mul]
section
variable {X : ExtF} {Y : LiesF}
theorem bits_Zeros_ans (hN : CxOk (cz X Y)) (n : Nat) (h0 : 0 < n) (hn : n < 18446744073709551616) (H : Heap) : Ans (cz X Y) F.bits_Zeros [.int .u64 n] H fun x K => x = .int .i64 (tz n : Nat) ∧ K = H := by
  have ht := tz_lt (k := 64) h0 (by simpa using hn)
  have hp : 2 ^ tz n < 18446744073709551616 := by
    have : 2 ^ tz n < 2 ^ 64 := Nat.pow_lt_pow_right (by decide) ht
    simpa using this
  refine G_body hN (fn := B.bits_Zeros) (sz := 11) rfl rfl rfl rfl rfl ?_
  refine G_run hN (G_v rfl rfl <| G_nil) ?_
  refine G_seq ?_
  refine G_run hN (G_v rfl rfl <| G_v rfl rfl <| G_nil) ?_
  refine G_if rfl (fun hc => ?_) (fun _ => ?_)
  · exfalso; have := eq_of_beq hc; omega
  · refine G_skip (G_pop ?_)
    have ea := land_neg h0 (by simpa using hn)
    refine G_run hN (G_v rfl rfl <| G_v rfl rfl <| G_v rfl (g_int (b := ((18446744073709551616 - n : Nat) : Int)) rfl (by rw [show (0 : Int) - n = ((18446744073709551616 - n : Nat) : Int) + -1 * 18446744073709551616 by omega]; simp [IntKind.wrap, IntKind.bits, IntKind.signed]; omega)) <|
      G_v rfl (g_int (b := ((2 ^ tz n : Nat) : Int)) rfl (by rw [and64 hn (by omega)]; congr 1)) <| G_c rfl rfl (bits_Len_ans hN (2 ^ tz n) hp _) <| G_v rfl (g_int (b := (tz n : Nat)) rfl (by rw [bl_iff (k := tz n) (Nat.le_refl _) (by rw [Nat.pow_succ]; have := Nat.two_pow_pos (tz n); omega)]; exact wi64 (by omega) (by omega) (by omega))) <| G_v rfl rfl <| G_nil) ?_
    exact G_ret (G_end rfl ⟨rfl, rfl⟩)
theorem nat_Nat_Bits_ans (hN : CxOk (cz X Y)) (a : Nat) (ha : Sm a) (H : Heap) : Ans (cz X Y) F.nat_Nat_Bits [.num a] H fun x K => x = .int .i64 (bl a : Nat) ∧ K = H := by
  unfold Sm at ha
  have dA := digs_dg a
  refine G_body hN (fn := B.nat_Nat_Bits) (sz := 22) rfl rfl rfl rfl rfl ?_
  refine G_run hN (G_v rfl rfl <| G_nil) ?_
  refine G_run hN (G_v rfl rfl <| G_c rfl rfl (nat_Nat_digits_ans hN a _) <| G_v rfl rfl <| G_nil) ?_
  refine G_seq ?_
  refine G_run hN (G_v rfl rfl <| G_v rfl rfl <| G_v rfl rfl <| G_nil) ?_
  refine G_if rfl (fun hc => ?_) (fun hc => ?_)
  · have hl : (digs a).length = 0 := by have := eq_of_beq hc; omega
    have h0 : a = 0 := by have := lt_pow_len a; rw [hl, Nat.pow_zero] at this; omega
    refine G_run hN (G_v rfl rfl <| G_nil) ?_
    exact G_ret (G_end rfl ⟨by subst h0; rfl, rfl⟩)
  · have hl : (digs a).length ≠ 0 := by have := ne_of_beq_false hc; omega
    have h0 : 0 < a := by
      rcases Nat.eq_zero_or_pos a with h | h
      · subst h; simp [digs_zero] at hl
      · exact h
    obtain ⟨q1, q2⟩ := digs_last h0
    generalize hm : (digs a).length - 1 = m at q1
    have hD : (digs a).getD m 0 < 4294967296 := dA.get m
    refine G_skip (G_pop ?_)
    have hb : bl ((digs a).getD m 0) ≤ 32 := bl_lt (by simpa using hD)
    have key : bl a = 32 * m + bl ((digs a).getD m 0) := by
      have e := val_take_succ (digs a) m
      rw [show m + 1 = (digs a).length by omega, List.take_length, val_digs] at e
      have h1 : val ((digs a).take m) < BB ^ m := val_mono_pow (dA.take m) (by simp; omega)
      have hB : BB ^ m = 2 ^ (32 * m) := by rw [show BB = 2 ^ 32 from rfl, ← Nat.pow_mul]
      have hd : a / 2 ^ (32 * m) = (digs a).getD m 0 := by
        clear hD hb dA
        generalize (digs a).getD m 0 = D at *
        generalize val ((digs a).take m) = V at *
        rw [← hB, e, Nat.add_mul_div_left _ _ (Nat.pow_pos (by decide)), Nat.div_eq_of_lt h1, Nat.zero_add]
      have := bl_shift (n := a) (k := 32 * m) (by rw [hd]; exact q1)
      rw [hd] at this
      exact this
    refine G_run hN (G_v rfl rfl <| G_v rfl rfl <| G_v rfl (g_int (b := ((m : Nat) : Int)) rfl (wi64 (by omega) (by omega) (by omega))) <| G_v rfl (g_int (b := ((32 * m : Nat) : Int)) rfl (wi64 (by omega) (by omega) (by omega))) <| G_v rfl rfl <| G_v rfl rfl <| G_v rfl rfl <| G_v rfl (g_int (b := ((m : Nat) : Int)) rfl (wi64 (by omega) (by omega) (by omega))) <|
      G_v rfl (g_idxi1 m rfl rfl rfl rfl rfl rfl (by omega)) <| G_v rfl (g_loadi rfl rfl rfl rfl (by omega)) <| G_v rfl (g_int (b := ((digs a).getD m 0 : Nat)) rfl (w64 rfl (by omega))) <| G_c rfl rfl (bits_Len_ans hN _ (by omega) _) <| G_v rfl (g_int (b := ((bl a : Nat) : Int)) rfl (by rw [key]; exact wi64 (by omega) (by omega) (by omega))) <| G_v rfl rfl <| G_nil) ?_
    exact G_ret (G_end rfl ⟨rfl, rfl⟩)
theorem nat_Nat_Twos_ans (hN : CxOk (cz X Y)) (a : Nat) (ha : Sm a) (H : Heap) : Ans (cz X Y) F.nat_Nat_Twos [.num a] H fun x K => x = .int .i64 (tz a : Nat) ∧ K = H := by
  unfold Sm at ha
  have dA := digs_dg a
  refine G_body hN (fn := B.nat_Nat_Twos) (sz := 22) rfl rfl rfl rfl rfl ?_
  refine G_run hN (G_v rfl rfl <| G_nil) ?_
  refine G_mid (α := Unit) (fun _ => a = 0) (fun _ => []) (fun _ => H) ?_ ?_
  · refine G_run hN (G_v rfl rfl <| G_c rfl rfl (nat_Nat_digits_ans hN a _) <| G_v rfl rfl <| G_v rfl rfl <| G_nil) ?_
    refine G_block ?_
    refine G_loop (α := Nat) (fun i => i ≤ (digs a).length ∧ val ((digs a).take i) = 0) (fun i => (digs a).length - i) (fun i => [(6, .isl ((digs a).map u32) (digs a).length), (7, .int .i64 ((digs a).length : Nat)), (8, .int .i64 (i : Nat))]) (fun _ => H)
      0 ⟨by omega, by simp [val]⟩ (M1 rfl <| M1 rfl <| M1 rfl M0) (Heap.Sub.refl H) fun i ⟨i1, i2⟩ => ?_
    refine G_run hN (G_v rfl rfl <| G_nil) ?_
    refine G_seq ?_
    refine G_if rfl (fun hc => ?_) (fun hc => ?_)
    · have hi : i < (digs a).length := by have := of_decide_eq_true hc; omega
      have hD : (digs a).getD i 0 < 4294967296 := dA.get i
      refine G_skip (G_pop ?_)
      refine G_seq (G_block ?_)
      refine G_run hN (G_v rfl rfl <| G_v rfl (g_idxi1 i rfl rfl rfl rfl rfl rfl hi) <| G_v rfl (g_loadi rfl rfl rfl rfl hi) <| G_v rfl rfl <| G_v rfl rfl <| G_nil) ?_
      refine G_run hN (G_v rfl rfl <| G_v rfl rfl <| G_nil) ?_
      refine G_if rfl (fun hc => ?_) (fun hc => ?_)
      · have h0 : (digs a).getD i 0 ≠ 0 := by have := bne_iff_ne.1 hc; omega
        have ht := tz_lt (k := 32) (Nat.pos_of_ne_zero h0) (by simpa using hD)
        have key : tz a = 32 * i + tz ((digs a).getD i 0) := by
          have e := val_split' (digs a) (i + 1)
          rw [val_digs, val_take_succ, i2, Nat.zero_add] at e
          obtain ⟨m, hm⟩ := tz_form (Nat.pos_of_ne_zero h0)
          generalize tz ((digs a).getD i 0) = t at *
          generalize val ((digs a).drop (i + 1)) = r at *
          have hB : BB ^ i = 2 ^ (32 * i) := by rw [show BB = 2 ^ 32 from rfl, ← Nat.pow_mul]
          have hB1 : BB = 2 ^ t * (2 * 2 ^ (31 - t)) := by rw [← Nat.pow_succ', ← Nat.pow_add, show BB = 2 ^ 32 from rfl]; congr 1; omega
          have : a = 2 ^ (32 * i + t) * (2 * (m + 2 ^ (31 - t) * r) + 1) := by
            rw [Nat.pow_succ, hB] at e
            rw [Nat.pow_add, e, hm, hB1]
            grind
          rw [this, tz_of]
        refine G_run hN (G_v rfl rfl <| G_v rfl (g_int (b := ((32 * i : Nat) : Int)) rfl (wi64 (by omega) (by omega) (by omega))) <| G_v rfl rfl <| G_v rfl (g_int (b := ((digs a).getD i 0 : Nat)) rfl (w64 rfl (by omega))) <| G_c rfl rfl (bits_Zeros_ans hN _ (Nat.pos_of_ne_zero h0) (by omega) _) <| G_v rfl (g_int (b := ((tz a : Nat) : Int)) rfl (by rw [key]; exact wi64 (by omega) (by omega) (by omega))) <| G_v rfl rfl <| G_nil) ?_
        exact G_ret (LP_ret (MP_ret (G_end rfl ⟨rfl, rfl⟩)))
      · have h0 : (digs a).getD i 0 = 0 := by have := bne_eq_false_iff_eq.1 hc; omega
        refine G_skip (G_popb (G_pop ?_))
        refine G_run1 hN (G_v rfl (g_int (b := ((i + 1 : Nat) : Int)) rfl (wi64 (by omega) (by omega) (by omega))) <| G_v rfl rfl <| G_nil) ?_
        exact G_again (i + 1) ⟨by omega, by rw [val_take_succ, i2, h0, Nat.mul_zero]⟩ (by omega) (M1 rfl <| M1 rfl <| M1 rfl M0) (Heap.Sub.refl H)
    · have hi : i = (digs a).length := by have := of_decide_eq_false hc; omega
      refine G_exit (G_pops (G_leave (G_popx (G_done () ?_ M0 (Heap.Sub.refl H)))))
      rw [hi, List.take_length, val_digs] at i2
      exact i2
  · rintro _ rfl
    refine G_run hN (G_v rfl rfl <| G_nil) ?_
    exact G_ret (G_end rfl ⟨by rw [tz_zero]; rfl, rfl⟩)
end
end Go.Eng
end
section
namespace Go.Eng
open Go Go.RowKit Go.Proofs
set_option maxHeartbeats 1000000
set_option maxRecDepth 10000
section
variable {X : ExtF} {Y : LiesF}
theorem nat_of_nil (hN : CxOk (cz X Y)) (H : Heap) : Ans (cz X Y) F.nat_of [.nilsl] H fun x K => x = .num 0 ∧ K = H := by
  refine Ans_free gl0_free (x := .iptr [.nilsl] 0) ((Imp.iptr (.cons Imp.nilsl .nil)).trans (Imp.num' 0)) rfl ?_ H
  refine G_body hN (fn := B.nat_of) (sz := 23) rfl rfl rfl rfl rfl ?_
  refine G_run hN (G_v rfl rfl <| G_nil) ?_
  refine G_run hN (G_v rfl rfl <| G_v rfl rfl <| G_v rfl rfl <| G_nil) ?_
  refine G_mid (α := Unit) (fun _ => True) (fun _ => [(0, .nilsl), (3, .int .i64 0)]) (fun _ => H0) (G_block ?_) fun _ _ => ?_
  · refine G_loop (α := Unit) (fun _ => True) (fun _ => 0) (fun _ => [(0, .nilsl), (3, .int .i64 0)]) (fun _ => H0) () trivial (M1 rfl <| M1 rfl M0) (Heap.Sub.refl _) fun _ _ => ?_
    refine G_seq ?_
    refine G_run hN (G_v rfl rfl <| G_v rfl (g_bool (b := false) rfl rfl) <| G_v rfl rfl <| G_n rfl rfl rfl rfl <| G_n rfl rfl rfl rfl <| G_n rfl rfl rfl rfl <| G_n rfl rfl rfl rfl <| G_n rfl rfl rfl rfl <| G_n rfl rfl rfl rfl <| G_v rfl rfl <| G_nil) ?_
    refine G_if0 rfl ?_
    refine G_exit (G_pops (G_leave (G_popx ?_)))
    exact G_done () trivial (M1 rfl <| M1 rfl M0) (Heap.Sub.refl _)
  · refine G_run hN (G_v rfl rfl <| G_v rfl rfl <| G_v rfl rfl <| G_v rfl rfl <| G_v rfl rfl <| G_v rfl rfl <| G_nil) ?_
    exact G_ret (G_end rfl (Frz.ptr rfl (.cons ⟨1, rfl⟩ .nil)))
theorem nat_of_isl (hN : CxOk (cz X Y)) {l : List Nat} (hl : Dg l) {n : Nat} (hn : n = l.length) (hb : l.length ≤ 281474976710656) (H : Heap) : Ans (cz X Y) F.nat_of [.isl (l.map u32) n] H fun x K => x = .num (val l) ∧ K = H := by
  subst hn
  have e : digs (val l) = l.take (digs (val l)).length := (digs_len_le hl).2.1
  have e' : numTree (val l) = .iptr [.isl ((l.map u32).take ((digs (val l)).length * 1)) (digs (val l)).length] 0 := by
    rw [Nat.mul_one, ← List.map_take, ← e]; rfl
  refine Ans_free gl0_free (x := .iptr [.isl ((l.map u32).take ((digs (val l)).length * 1)) (digs (val l)).length] 0) (by rw [← e']; exact Imp.num' _) (by simp [AV.frees, AV.free, frees_u32]) ?_ H
  refine G_body hN (fn := B.nat_of) (sz := 23) rfl rfl rfl rfl rfl ?_
  refine G_run hN (G_v rfl rfl <| G_nil) ?_
  refine G_run hN (G_v rfl rfl <| G_v rfl rfl <| G_v rfl rfl <| G_nil) ?_
  refine G_mid (α := Unit) (fun _ => True) (fun _ => [(0, .isl (l.map u32) l.length), (3, .int .i64 ((digs (val l)).length : Nat))]) (fun _ => H0) (G_block ?_) fun _ _ => ?_
  · refine G_loop (α := Nat) (fun k => (digs (val l)).length ≤ k ∧ k ≤ l.length) (fun k => k) (fun k => [(0, .isl (l.map u32) l.length), (3, .int .i64 (k : Nat))]) (fun _ => H0) l.length ⟨(digs_len_le hl).1, Nat.le_refl _⟩ (M1 rfl <| M1 rfl M0) (Heap.Sub.refl _) fun k ⟨i1, i2⟩ => ?_
    obtain ⟨p1, p2⟩ := down_stop hl i1 i2
    refine G_seq ?_
    rcases Nat.eq_zero_or_pos k with hk | hk
    · refine G_run hN (G_v rfl rfl <| G_v rfl (g_bool (b := false) rfl (by simp; omega)) <| G_v rfl rfl <| G_n rfl rfl rfl rfl <| G_n rfl rfl rfl rfl <| G_n rfl rfl rfl rfl <| G_n rfl rfl rfl rfl <| G_n rfl rfl rfl rfl <| G_n rfl rfl rfl rfl <| G_v rfl rfl <| G_nil) ?_
      refine G_if0 rfl ?_
      refine G_exit (G_pops (G_leave (G_popx ?_)))
      exact G_done () trivial (M1 rfl <| M2 rfl (by rw [p2 (by omega)]) M0) (Heap.Sub.refl _)
    · have hd : l.getD (k - 1) 0 < BB := hl.get (k - 1)
      refine G_run hN (G_v rfl rfl <| G_v rfl (g_bool (b := true) rfl (by simp; omega)) <| G_v rfl rfl <| G_g rfl rfl <| G_v rfl rfl <| G_g rfl rfl <| G_v rfl rfl <| G_g rfl rfl <| G_v rfl (g_int (b := ((k - 1 : Nat) : Int)) rfl (by rw [IntWalk.i64_in _ (by omega)]; omega)) <|
        G_g rfl rfl <| G_v rfl (g_idxi1 (k - 1) rfl rfl rfl rfl rfl rfl (by omega)) <| G_g rfl rfl <| G_v rfl (g_loadi rfl rfl rfl rfl (by omega)) <| G_g rfl rfl <| G_v rfl rfl <| G_v rfl rfl <| G_nil) ?_
      refine G_if rfl (fun hc => ?_) (fun hc => ?_)
      · have h0 : l.getD (k - 1) 0 = 0 := by have := eq_of_beq hc; omega
        refine G_skip (G_pop (G_block ?_))
        refine G_run1 hN (G_v rfl rfl <| G_v rfl rfl <| G_v rfl rfl <| G_nil) ?_
        refine G_popb (G_again (k - 1) ⟨p1 ⟨hk, h0⟩, by omega⟩ (by omega) (M1 rfl <| M2 rfl (by rw [IntWalk.i64_in _ (by omega)]; congr 1; omega) M0) (Heap.Sub.refl _))
      · have h0 : ¬ l.getD (k - 1) 0 = 0 := by have := ne_of_beq_false hc; omega
        refine G_exit (G_pops (G_leave (G_popx ?_)))
        exact G_done () trivial (M1 rfl <| M2 rfl (by rw [p2 (by omega)]) M0) (Heap.Sub.refl _)
  · have := (digs_len_le hl).1
    refine G_run hN (G_v rfl rfl <| G_v rfl rfl <| G_v rfl (g_cuti (digs (val l)).length rfl rfl rfl rfl rfl (by omega)) <| G_v rfl rfl <| G_v rfl rfl <| G_v rfl rfl <| G_nil) ?_
    refine G_ret (G_end rfl (Frz.ptr rfl (.cons (.isl ?_) .nil)))
    rw [← List.map_take]
    exact frees_u32 _
theorem nat_Nat_Word_ans (hN : CxOk (cz X Y)) (a : Nat) (ha : Sm a) (H : Heap) : Ans (cz X Y) F.nat_Nat_Word [.num a] H fun x K => x = (if a < BB * BB then .tuple [.int .u64 a, .bool true] else .tuple [.int .u64 0, .bool false]) ∧ K = H := by
  unfold Sm at ha
  have dA := digs_dg a
  refine G_body hN (fn := B.nat_Nat_Word) (sz := 29) rfl rfl rfl rfl rfl ?_
  refine G_run hN (G_v rfl rfl <| G_v rfl rfl <| G_nil) ?_
  refine G_run hN (G_v rfl rfl <| G_nil) ?_
  refine G_run hN (G_v rfl rfl <| G_c rfl rfl (nat_Nat_digits_ans hN a _) <| G_v rfl rfl <| G_nil) ?_
  refine G_seq ?_
  refine G_run hN (G_v rfl rfl <| G_v rfl rfl <| G_v rfl rfl <| G_nil) ?_
  refine G_if rfl (fun hc => ?_) (fun hc => ?_)
  · have hl : 2 < (digs a).length := by have := of_decide_eq_true hc; omega
    have h0 : ¬ a < BB * BB := fun h => by
      have := len_le_of_lt (n := a) (k := 2) (by simpa [Nat.pow_succ] using h)
      omega
    refine G_run hN (G_v rfl rfl <| G_v rfl rfl <| G_nil) ?_
    exact G_ret (G_end rfl ⟨by rw [if_neg h0]; rfl, rfl⟩)
  · have hl : (digs a).length ≤ 2 := by have := of_decide_eq_false hc; omega
    have h0 : a < BB * BB := by
      have := Nat.lt_of_lt_of_le (lt_pow_len a) (Nat.pow_le_pow_right (n := BB) (by decide) hl)
      simpa [Nat.pow_succ] using this
    rw [if_pos h0]
    refine G_skip (G_pop ?_)
    refine G_mid (α := Unit) (fun _ => True) (fun _ => [(4, .int .u64 (a : Nat))]) (fun _ => H) ?_ ?_
    · refine G_run hN (G_v rfl rfl <| G_v rfl rfl <| G_v rfl rfl <| G_nil) ?_
      refine G_block ?_
      refine G_loop (α := Nat) (fun i => i ≤ (digs a).length) (fun i => (digs a).length - i) (fun i => [(4, .int .u64 (val ((digs a).take i) : Nat)), (13, .isl ((digs a).map u32) (digs a).length), (14, .int .i64 ((digs a).length : Nat)), (15, .int .i64 (i : Nat))]) (fun _ => H)
        0 (by omega) (M1 rfl <| M1 rfl <| M1 rfl <| M1 rfl M0) (Heap.Sub.refl H) fun i i1 => ?_
      refine G_run hN (G_v rfl rfl <| G_nil) ?_
      refine G_seq ?_
      refine G_if rfl (fun hc => ?_) (fun hc => ?_)
      · have hi : i < (digs a).length := by have := of_decide_eq_true hc; omega
        have hD : (digs a).getD i 0 < 4294967296 := dA.get i
        have hV : val ((digs a).take i) < BB ^ i := val_mono_pow (dA.take i) (by simp; omega)
        have hB : BB ^ i = 2 ^ (32 * i) := by rw [show BB = 2 ^ 32 from rfl, ← Nat.pow_mul]
        have hi1 : i ≤ 1 := by omega
        have hr : (digs a).getD i 0 * 2 ^ (32 * i) < 18446744073709551616 := by
          generalize (digs a).getD i 0 = D at hD ⊢
          rcases (show i = 0 ∨ i = 1 by omega) with rfl | rfl
          · simp; omega
          · simp; omega
        have hV2 : val ((digs a).take i) < 18446744073709551616 := by
          rcases (show i = 0 ∨ i = 1 by omega) with rfl | rfl
          · simp [val]
          · simp only [Nat.pow_one, BB] at hV; omega
        refine G_skip (G_pop ?_)
        refine G_seq (G_block ?_)
        refine G_run hN (G_v rfl rfl <| G_v rfl (g_idxi1 i rfl rfl rfl rfl rfl rfl hi) <| G_v rfl (g_loadi rfl rfl rfl rfl hi) <| G_v rfl rfl <| G_v rfl rfl <| G_nil) ?_
        refine G_run1 hN (G_v rfl rfl <| G_v rfl rfl <| G_v rfl (g_int (b := ((digs a).getD i 0 : Nat)) rfl (w64 rfl (by omega))) <| G_v rfl rfl <| G_v rfl (g_int (b := ((32 * i : Nat) : Int)) rfl (wi64 (by omega) (by omega) (by omega))) <| G_v rfl (g_shl (s := 32 * i) (n := (digs a).getD i 0) (p := 2 ^ (32 * i)) rfl rfl rfl (by omega) rfl hr) <|
          G_v rfl (g_int (b := (val ((digs a).take (i + 1)) : Nat)) rfl (by rw [or64 hV2 hr, or_add (by rw [← hB]; exact hV), val_take_succ, hB, Nat.mul_comm])) <| G_v rfl rfl <| G_nil) ?_
        refine G_popb (G_pop ?_)
        refine G_run1 hN (G_v rfl (g_int (b := ((i + 1 : Nat) : Int)) rfl (wi64 (by omega) (by omega) (by omega))) <| G_v rfl rfl <| G_nil) ?_
        exact G_again (i + 1) (by omega) (by omega) (M1 rfl <| M1 rfl <| M1 rfl <| M1 rfl M0) (Heap.Sub.refl H)
      · have hi : i = (digs a).length := by have := of_decide_eq_false hc; omega
        refine G_exit (G_pops (G_leave (G_popx (G_done () trivial (M2 rfl ?_ M0) (Heap.Sub.refl H)))))
        rw [hi, List.take_length, val_digs]
    · intro _ _
      refine G_run hN (G_v rfl rfl <| G_v rfl rfl <| G_v rfl rfl <| G_nil) ?_
      exact G_ret (G_end rfl ⟨rfl, rfl⟩)
end
end Go.Eng
end
section
namespace Go.Eng
open Go Go.RowKit Go.Proofs
set_option maxHeartbeats 1000000
set_option maxRecDepth 10000
section
variable {X : ExtF} {Y : LiesF}
theorem repl_getD (n j : Nat) : (List.replicate n 0).getD j 0 = 0 := by
  rcases Nat.lt_or_ge j n with h | h
  · rw [List.getD_eq_getElem?_getD, List.getElem?_replicate, if_pos h]; rfl
  · exact getD_ge (by simpa using h)
theorem up_step {v c y P D R : Nat} {w1 w2 : Nat} (h1 : w1 + P * c = v + P * (c + y % BB)) (h2 : w2 + P * BB * 0 = w1 + P * BB * (y / BB)) (hy : y = D * R) : w2 = v + P * (D * R) := by
  have e : y % BB + BB * (y / BB) = y := Nat.mod_add_div _ _
  subst hy
  generalize D * R % BB = p at *
  generalize D * R / BB = q at *
  have : P * (p + BB * q) = P * (D * R) := by rw [e]
  grind
theorem nat_Nat_up_ans (hN : CxOk (cz X Y)) (a k : Nat) (ha : Sm a) (hk : k ≤ 35184372088832) (H : Heap) : Ans (cz X Y) F.nat_Nat_up [.num a, .int .i64 k] H fun x K => x = .num (a * 2 ^ k) ∧ K = H := by
  unfold Sm at ha
  refine Ans_num gl0_free rfl ?_ H
  have dA := digs_dg a
  generalize hla : (digs a).length = la
  obtain ⟨q, r, rfl, hr⟩ : ∃ q r, k = 32 * q + r ∧ r < 32 := ⟨k / 32, k % 32, by omega, by omega⟩
  have eq_ : ∀ {x : Int}, x = ((32 * q + r : Nat) : Int) → IntKind.i64.wrap (x.tdiv 32) = (q : Int) := fun hx => by
    rw [IntWalk.i64_quo _ _ (by omega)]; omega
  have er : ∀ {x : Int}, x = ((32 * q + r : Nat) : Int) → x.tmod 32 = (r : Int) := fun hx => by
    rw [IntWalk.rem_in _ _ (by omega)]; omega
  have hR : 2 ^ r * (2 * 2 ^ (31 - r)) = 4294967296 := by rw [← Nat.pow_succ', ← Nat.pow_add, show r + (31 - r + 1) = 32 by omega]
  have hRp := Nat.two_pow_pos r
  have hRs := Nat.two_pow_pos (31 - r)
  have hBR : BB ^ q * 2 ^ r = 2 ^ (32 * q + r) := by rw [show BB = 2 ^ 32 from rfl, ← Nat.pow_mul, ← Nat.pow_add]
  refine G_body hN (fn := B.nat_Nat_up) (sz := 55) rfl rfl rfl rfl rfl ?_
  refine G_run hN (G_v rfl rfl <| G_nil) ?_
  refine G_run hN (G_v rfl rfl <| G_c rfl rfl (nat_Nat_digits_ans hN a _) <| G_v rfl rfl <| G_nil) ?_
  refine G_run hN (G_v rfl rfl <| G_v rfl rfl <| G_v rfl rfl <| G_v rfl (g_int rfl (eq_ rfl)) <| G_v rfl (g_int (b := ((la + q : Nat) : Int)) rfl (wi64 (by omega) (by omega) (by omega))) <| G_v rfl (g_int (b := ((la + q + 1 : Nat) : Int)) rfl (wi64 (by omega) (by omega) (by omega))) <| G_v rfl (g_makeu (la + q + 1) rfl rfl rfl rfl rfl rfl rfl rfl rfl (by omega)) <| G_v rfl rfl <| G_nil) ?_
  refine G_mid (α := List Nat) (fun l => l.length = la + q + 1 ∧ Dg l ∧ val l = a * 2 ^ (32 * q + r)) (fun _ => [(6, .slice 0 0 (la + q + 1) (la + q + 1) true 1)]) K1 ?_ ?_
  · refine G_run hN (G_v rfl rfl <| G_v rfl rfl <| G_v rfl rfl <| G_nil) ?_
    refine G_block ?_
    refine G_loop (α := Nat × List Nat) (fun x => x.1 ≤ la ∧ x.2.length = la + q + 1 ∧ Dg x.2 ∧ (∀ j, x.1 + q < j → x.2.getD j 0 = 0) ∧ x.2.getD (x.1 + q) 0 < 2 ^ r ∧ val x.2 = val ((digs a).take x.1) * 2 ^ (32 * q + r)) (fun x => la - x.1)
      (fun x => [(1, .int .i64 ((32 * q + r : Nat) : Int)), (6, .slice 0 0 (la + q + 1) (la + q + 1) true 1), (19, .isl ((digs a).map u32) (digs a).length), (20, .int .i64 (la : Nat)), (21, .int .i64 (x.1 : Nat))]) (fun x => K1 x.2)
      (0, List.replicate (la + q + 1) 0) ⟨by omega, by simp, Dg.replicate _, fun j _ => repl_getD _ _, by simp only; rw [repl_getD]; exact hRp, by simp [val, val_zeros]⟩ (M1 rfl <| M1 rfl <| M1 rfl <| M2 rfl (by rw [hla]) <| M1 rfl M0) (HS1 (Nat.le_refl _) rfl) fun ⟨i, l⟩ ⟨i1, i2, i3, i4, i5, i6⟩ => ?_
    simp only at i1 i2 i3 i4 i5 i6
    refine G_run hN (G_v rfl rfl <| G_nil) ?_
    refine G_seq ?_
    refine G_if rfl (fun hc => ?_) (fun hc => ?_)
    · have hi : i < la := by have := of_decide_eq_true hc; omega
      have hD : (digs a).getD i 0 < 4294967296 := dA.get i
      generalize hDe : (digs a).getD i 0 = D at hD
      generalize hy : D * 2 ^ r = y
      have hyb : y < 18446744073709551616 := by
        have h1 : D * 2 ^ r ≤ D * 4294967296 := Nat.mul_le_mul_left _ (by rw [← hR]; exact Nat.le_mul_of_pos_right _ (by omega))
        omega
      generalize hcr : l.getD (0 + (i + q)) 0 = c
      have hcr' : l.getD (i + q) 0 = c := by rw [← hcr, Nat.zero_add]
      rw [hcr'] at i5
      -- the low half of y is a multiple of 2 ^ r
      have hlow : ∃ u, y % BB = u * 2 ^ r ∧ c + y % BB < 4294967296 := by
        refine ⟨D % (2 * 2 ^ (31 - r)), ?_, ?_⟩
        · rw [← hy, show BB = (2 * 2 ^ (31 - r)) * 2 ^ r by rw [Nat.mul_comm]; exact hR.symm, Nat.mul_mod_mul_right]
        · have e1 : y % BB = (D % (2 * 2 ^ (31 - r))) * 2 ^ r := by rw [← hy, show BB = (2 * 2 ^ (31 - r)) * 2 ^ r by rw [Nat.mul_comm]; exact hR.symm, Nat.mul_mod_mul_right]
          have e2 : D % (2 * 2 ^ (31 - r)) < 2 * 2 ^ (31 - r) := Nat.mod_lt _ (by omega)
          have e3 : (D % (2 * 2 ^ (31 - r)) + 1) * 2 ^ r ≤ (2 * 2 ^ (31 - r)) * 2 ^ r := Nat.mul_le_mul_right _ e2
          rw [Nat.add_mul, Nat.one_mul, Nat.mul_comm (2 * 2 ^ (31 - r)), hR] at e3
          omega
      obtain ⟨u, hu, hcb⟩ := hlow
      have hor : c ||| y % BB = c + y % BB := by rw [hu]; exact or_add i5
      have hq2 : y / BB < 2 ^ r := by
        rw [Nat.div_lt_iff_lt_mul (by decide), ← hy, Nat.mul_comm]
        exact Nat.mul_lt_mul_of_pos_left hD hRp
      have hq3 : y / BB < 4294967296 := by simp only [BB]; omega
      refine G_skip (G_pop ?_)
      refine G_seq (G_block ?_)
      refine G_run hN (G_v rfl rfl <| G_v rfl (g_idxi1 i rfl rfl rfl rfl rfl rfl (by omega)) <| G_v rfl (g_to (g_loadi rfl rfl rfl rfl (by omega)) (y := .int .u32 (D : Nat)) (by rw [hDe])) <| G_v rfl rfl <| G_v rfl rfl <| G_nil) ?_
      refine G_run hN (G_v rfl rfl <| G_v rfl (g_int (b := (D : Nat)) rfl (w64 rfl (by omega))) <| G_v rfl rfl <| G_v rfl (g_int rfl (er rfl)) <| G_v rfl (g_to (g_shl (s := r) (n := D) (p := 2 ^ r) rfl rfl rfl (by omega) rfl (by rw [hy]; exact hyb)) (y := .int .u64 (y : Nat)) (by rw [hy])) <| G_v rfl rfl <| G_nil) ?_
      refine G_run hN (G_v rfl rfl <| G_v rfl rfl <| G_v rfl rfl <| G_v rfl (g_int rfl (eq_ rfl)) <| G_v rfl (g_int (b := ((i + q : Nat) : Int)) rfl (wi64 (by omega) (by omega) (by omega))) <| G_v rfl (g_idx1 (i + q) rfl rfl rfl rfl rfl rfl (by omega)) <| G_v rfl (g_to (g_loadu (l := l) rfl rfl rfl rfl rfl (by omega)) (y := .int .u32 (c : Nat)) (by rw [hcr])) <|
        G_v rfl rfl <| G_v rfl (g_int rfl (wm32 (b := y) rfl)) <| G_v rfl (g_int (b := ((c + y % BB : Nat) : Int)) rfl (by rw [or32 (by simp only [BB]; omega) (Nat.mod_lt _ (by decide)), hor])) <| G_v rfl (g_idx1 (i + q) rfl rfl rfl rfl rfl rfl (by omega)) <| G_s (g_storeu (l := l) rfl rfl rfl rfl rfl (by omega)) <| G_nil) ?_
      refine G_run1 hN (G_v rfl rfl <| G_v rfl rfl <| G_v rfl rfl <| G_v rfl (g_int rfl (eq_ rfl)) <| G_v rfl (g_int (b := ((i + q : Nat) : Int)) rfl (wi64 (by omega) (by omega) (by omega))) <| G_v rfl (g_int (b := ((i + q + 1 : Nat) : Int)) rfl (wi64 (by omega) (by omega) (by omega))) <| G_v rfl rfl <| G_v rfl (g_shr (s := 32) (n := y) (p := BB) rfl rfl rfl (by decide) rfl) <|
        G_v rfl (g_int (b := ((y / BB : Nat) : Int)) rfl (by rw [wm32 (b := y / BB) rfl, Nat.mod_eq_of_lt hq3])) <| G_v rfl (g_idx1 (i + q + 1) rfl rfl rfl rfl rfl rfl (by omega)) <| G_s (g_storeu (l := l.set (0 + (i + q)) (c + y % BB)) rfl rfl rfl rfl rfl (by simp; omega)) <| G_nil) ?_
      refine G_popb (G_pop ?_)
      refine G_run1 hN (G_v rfl (g_int (b := ((i + 1 : Nat) : Int)) rfl (wi64 (by omega) (by omega) (by omega))) <| G_v rfl rfl <| G_nil) ?_
      refine G_again (i + 1, (l.set (0 + (i + q)) (c + y % BB)).set (0 + (i + q + 1)) (y / BB)) ⟨by simp only; omega, by simp only [List.length_set]; omega, (i3.set hcb _).set hq3 _, fun j hj => ?_, ?_, ?_⟩ (by simp only; omega)
            (M1 rfl <| M1 rfl <| M1 rfl <| M1 rfl <| M1 rfl M0) (HS1 (Nat.le_refl _) rfl)
      · simp only at hj ⊢
        rw [getD_set_ne _ _ (by omega), getD_set_ne _ _ (by omega)]
        exact i4 j (by omega)
      · simp only
        rw [show i + 1 + q = 0 + (i + q + 1) by omega, getD_set (by simp; omega)]
        exact hq2
      · simp only [Nat.zero_add]
        have e1 := val_set l (i + q) (c + y % BB) (by omega)
        rw [hcr'] at e1
        have e2 := val_set (l.set (i + q) (c + y % BB)) (i + q + 1) (y / BB) (by simp; omega)
        rw [getD_set_ne _ _ (by omega), i4 _ (by omega), Nat.pow_succ] at e2
        rw [up_step e1 e2 hy.symm, i6, val_take_succ, hDe, ← hBR, Nat.pow_add]
        grind
    · have hi : i = la := by have := of_decide_eq_false hc; omega
      refine G_exit (G_pops (G_leave (G_popx ?_)))
      refine G_done l ⟨i2, i3, ?_⟩ (M1 rfl M0) (HS1 (Nat.le_refl _) rfl)
      rw [i6, val_take_all (digs a) (by omega), val_digs]
  · rintro l ⟨l1, l2, l3⟩
    refine G_run hN (G_v rfl rfl <| G_c rfl rfl (nat_of_ans hN (l := l) l2 rfl l1.symm (Nat.le_refl _) (by omega)) <| G_v rfl rfl <| G_nil) ?_
    exact G_ret (G_end rfl (frz_ofK (l := l) rfl rfl l2 l3 _))
end
end Go.Eng
end
section
namespace Go.Eng
open Go Go.RowKit Go.Proofs
set_option maxHeartbeats 1000000
set_option maxRecDepth 10000
section
variable {X : ExtF} {Y : LiesF} {cx : Cx} {m : List (Nat × AV)} {H : Heap}
/-- A cut from somewhere on of a row that is not written. -/
theorem g_cutl {t : TypeId} {a b : Operand} {cs : List AV} {len el : Nat} {kk : IntKind} {i : Int} {inf : TypeInfo} (n : Nat)
    (ha : rd cx m a = some (.isl cs len)) (hb : rd cx m b = some (.int kk i)) (hu : cx.D.und t = some (.slice el)) (hi : cx.D.inf el = some inf) (hn : i = n) (hl : n ≤ len) :
    sop cx m H (.slice t a (some b) none none) = some (.val (.isl ((cs.drop (n * inf.size)).take ((len - n) * inf.size)) (len - n)) H) := by
  subst hn
  have h2 : 0 ≤ (n : Int) ∧ (n : Int) ≤ (len : Int) := by omega
  simp only [sop, ha, rdo, hb, aSlice, hu, hi, bd, h2, and_self, if_true, Int.toNat_natCast, Option.map_some, valR]
theorem down_digit (l : List Nat) (hl : Dg l) (i r : Nat) (hr : r < 32) : ((l.getD i 0 + l.getD (i + 1) 0 * BB) / 2 ^ r) % BB = (val l / 2 ^ r) / BB ^ i % BB := by
  have e : val l / BB ^ i = l.getD i 0 + l.getD (i + 1) 0 * BB + BB * BB * val (l.drop (i + 2)) := by
    have h1 := val_split' l (i + 2)
    rw [val_take_succ, val_take_succ, Nat.pow_succ, Nat.pow_succ] at h1
    have h2 : val (l.take i) < BB ^ i := val_mono_pow (hl.take i) (by simp; omega)
    have h3 : val l = val (l.take i) + BB ^ i * (l.getD i 0 + l.getD (i + 1) 0 * BB + BB * BB * val (l.drop (i + 2))) := by
      conv => lhs; rw [h1]
      grind
    rw [h3, Nat.add_mul_div_left _ _ (Nat.pow_pos (by decide)), Nat.div_eq_of_lt h2, Nat.zero_add]
  rw [Nat.div_div_eq_div_mul, Nat.mul_comm (2 ^ r), ← Nat.div_div_eq_div_mul, e]
  have hR : BB * BB = 2 ^ r * (BB * 2 ^ (32 - r)) := by
    rw [show BB = 2 ^ 32 from rfl, ← Nat.pow_add, ← Nat.pow_add, ← Nat.pow_add]; congr 1; omega
  rw [hR, Nat.mul_assoc, Nat.add_mul_div_left _ _ (Nat.two_pow_pos r), Nat.mul_assoc, Nat.add_mul_mod_self_left]
theorem nat_Nat_down_ans (hN : CxOk (cz X Y)) (a k : Nat) (ha : Sm a) (hk : k ≤ 281474976710656) (H : Heap) : Ans (cz X Y) F.nat_Nat_down [.num a, .int .i64 k] H fun x K => x = .num (a / 2 ^ k) ∧ K = H := by
  unfold Sm at ha
  have dA := digs_dg a
  obtain ⟨q, r, rfl, hr⟩ : ∃ q r, k = 32 * q + r ∧ r < 32 := ⟨k / 32, k % 32, by omega, by omega⟩
  have eq_ : ∀ {x : Int}, x = ((32 * q + r : Nat) : Int) → IntKind.i64.wrap (x.tdiv 32) = (q : Int) := fun hx => by
    rw [IntWalk.i64_quo _ _ (by omega)]; omega
  have er : ∀ {x : Int}, x = ((32 * q + r : Nat) : Int) → x.tmod 32 = (r : Int) := fun hx => by
    rw [IntWalk.rem_in _ _ (by omega)]; omega
  have hB : BB ^ q = 2 ^ (32 * q) := by rw [show BB = 2 ^ 32 from rfl, ← Nat.pow_mul]
  rcases Nat.lt_or_ge q (digs a).length with hq | hq
  · refine Ans_num gl0_free rfl ?_ H
    have hv : a / 2 ^ (32 * q + r) = val ((digs a).drop q) / 2 ^ r := by
      rw [Nat.pow_add, ← Nat.div_div_eq_div_mul, ← hB]
      congr 1
      have h1 := val_split' (digs a) q
      have h2 : val ((digs a).take q) < BB ^ q := val_mono_pow (dA.take q) (by simp; omega)
      rw [val_digs] at h1
      clear dA hq
      generalize val ((digs a).drop q) = D at *
      generalize val ((digs a).take q) = E at *
      rw [h1, Nat.add_mul_div_left _ _ (Nat.pow_pos (by decide)), Nat.div_eq_of_lt h2, Nat.zero_add]
    have dD := dA.drop q
    generalize hD : (digs a).drop q = D at hv dD
    have hDl : D.length = (digs a).length - q := by rw [← hD]; simp
    refine G_body hN (fn := B.nat_Nat_down) (sz := 47) rfl rfl rfl rfl rfl ?_
    refine G_run hN (G_v rfl rfl <| G_nil) ?_
    refine G_run hN (G_v rfl rfl <| G_c rfl rfl (nat_Nat_digits_ans hN a _) <| G_v rfl rfl <| G_nil) ?_
    refine G_seq ?_
    refine G_run hN (G_v rfl rfl <| G_v rfl (g_int rfl (eq_ rfl)) <| G_v rfl rfl <| G_v rfl rfl <| G_v rfl rfl <| G_nil) ?_
    refine G_if rfl (fun hc => ?_) (fun _ => ?_)
    · exfalso; have := of_decide_eq_true hc; omega
    refine G_skip (G_pop ?_)
    refine G_run hN (G_v rfl rfl <| G_v rfl rfl <| G_v rfl (g_int rfl (eq_ rfl)) <| G_v rfl (g_to (g_cutl q rfl rfl rfl rfl rfl (by omega)) (y := .isl (D.map u32) D.length) (by
      rw [show Tryz.t189.size = 1 from rfl, Nat.mul_one, Nat.mul_one, ← List.map_drop, hD, ← hDl, List.take_of_length_le (by simp)])) <| G_v rfl rfl <| G_nil) ?_
    refine G_run hN (G_v rfl rfl <| G_v rfl rfl <| G_v rfl (g_makeu D.length rfl rfl rfl rfl rfl rfl rfl rfl rfl (by omega)) <| G_v rfl rfl <| G_nil) ?_
    refine G_mid (α := List Nat) (fun l => l.length = D.length ∧ Dg l ∧ val l = a / 2 ^ (32 * q + r)) (fun _ => [(6, .slice 0 0 D.length D.length true 1)]) K1 ?_ ?_
    · refine G_run hN (G_v rfl rfl <| G_v rfl rfl <| G_v rfl rfl <| G_nil) ?_
      refine G_block ?_
      refine G_loop (α := Nat × List Nat) (fun x => x.1 ≤ D.length ∧ x.2.length = D.length ∧ Dg x.2 ∧ val (x.2.take x.1) = (val D / 2 ^ r) % BB ^ x.1) (fun x => D.length - x.1)
        (fun x => [(1, .int .i64 ((32 * q + r : Nat) : Int)), (5, .isl (D.map u32) D.length), (6, .slice 0 0 D.length D.length true 1), (24, .int .i64 (D.length : Nat)), (25, .int .i64 (x.1 : Nat))]) (fun x => K1 x.2)
        (0, List.replicate D.length 0) ⟨by omega, by simp, Dg.replicate _, by simp [val, Nat.mod_one]⟩ (M1 rfl <| M1 rfl <| M1 rfl <| M1 rfl <| M1 rfl M0) (HS1 (Nat.le_refl _) rfl) fun ⟨i, l⟩ ⟨i1, i2, i3, i4⟩ => ?_
      simp only at i1 i2 i3 i4
      refine G_run hN (G_v rfl rfl <| G_nil) ?_
      refine G_seq ?_
      refine G_if rfl (fun hc => ?_) (fun hc => ?_)
      · have hi : i < D.length := by have := of_decide_eq_true hc; omega
        have h1 : D.getD i 0 < 4294967296 := dD.get i
        have h2 : D.getD (i + 1) 0 < 4294967296 := dD.get (i + 1)
        have hk2 := down_digit D dD i r hr
        generalize hX : D.getD i 0 + D.getD (i + 1) 0 * BB = V at hk2
        have hX' : D.getD i 0 + D.getD (i + 1) 0 * 4294967296 = V := hX
        have hV : V < 18446744073709551616 := by omega
        have hor : D.getD i 0 ||| (D.getD (i + 1) 0 * 4294967296) = V := by
          rw [← hX']; exact or_add (k := 32) (by simpa using h1)
        refine G_skip (G_pop ?_)
        refine G_seq (G_block ?_)
        refine G_run hN (G_v rfl rfl <| G_v rfl rfl <| G_nil) ?_
        refine G_run1 hN (G_v rfl rfl <| G_v rfl rfl <| G_v rfl rfl <| G_v rfl rfl <| G_c rfl rfl (nat_at_ans hN D dD i _) <| G_v rfl rfl <| G_v rfl rfl <| G_v rfl (g_int (b := ((i + 1 : Nat) : Int)) rfl (wi64 (by omega) (by omega) (by omega))) <| G_c rfl rfl (nat_at_ans hN D dD (i + 1) _) <|
          G_v rfl (g_shl (s := 32) (n := D.getD (i + 1) 0) (p := 4294967296) rfl rfl rfl (by decide) rfl (by omega)) <| G_v rfl (g_int (b := (V : Nat)) rfl (by rw [or64 (by omega) (by omega), hor])) <| G_v rfl rfl <| G_v rfl (g_int rfl (er rfl)) <| G_v rfl (g_shr (s := r) (n := V) (p := 2 ^ r) rfl rfl rfl (by show r ≤ 64; omega) rfl) <|
          G_v rfl (g_int rfl (wm32 (b := V / 2 ^ r) rfl)) <| G_v rfl (g_idx1 i rfl rfl rfl rfl rfl rfl hi) <| G_s (g_storeu (l := l) rfl rfl rfl rfl rfl (by omega)) <| G_nil) ?_
        refine G_popb (G_pop ?_)
        refine G_run1 hN (G_v rfl (g_int (b := ((i + 1 : Nat) : Int)) rfl (wi64 (by omega) (by omega) (by omega))) <| G_v rfl rfl <| G_nil) ?_
        refine G_again (i + 1, l.set (0 + i) ((V / 2 ^ r) % BB)) ⟨by simp only; omega, by simp only [List.length_set]; omega, i3.set (Nat.mod_lt _ (by decide)) _, ?_⟩ (by simp only; omega)
          (M1 rfl <| M1 rfl <| M1 rfl <| M1 rfl <| M1 rfl M0) (HS1 (Nat.le_refl _) rfl)
        simp only [Nat.zero_add]
        rw [val_set_succ (by omega), i4, hk2, Nat.pow_succ, Nat.mod_mul]
      · have hi : i = D.length := by have := of_decide_eq_false hc; omega
        refine G_exit (G_pops (G_leave (G_popx ?_)))
        refine G_done l ⟨i2, i3, ?_⟩ (M1 rfl M0) (HS1 (Nat.le_refl _) rfl)
        rw [val_take_all l (by omega)] at i4
        rw [i4, hv, Nat.mod_eq_of_lt]
        exact Nat.lt_of_le_of_lt (Nat.div_le_self _ _) (val_mono_pow dD (by omega))
    · rintro l ⟨l1, l2, l3⟩
      refine G_run hN (G_v rfl rfl <| G_c rfl rfl (nat_of_ans hN (l := l) l2 rfl l1.symm (Nat.le_refl _) (by omega)) <| G_v rfl rfl <| G_nil) ?_
      exact G_ret (G_end rfl (frz_ofK (l := l) rfl rfl l2 l3 _))
  · have hz : a / 2 ^ (32 * q + r) = 0 := by
      refine Nat.div_eq_of_lt ?_
      have h1 := Nat.lt_of_lt_of_le (lt_pow_len a) (Nat.pow_le_pow_right (n := BB) (by decide) hq)
      rw [hB] at h1
      exact Nat.lt_of_lt_of_le h1 (Nat.pow_le_pow_right (by decide) (by omega))
    rw [hz]
    refine G_body hN (fn := B.nat_Nat_down) (sz := 47) rfl rfl rfl rfl rfl ?_
    refine G_run hN (G_v rfl rfl <| G_nil) ?_
    refine G_run hN (G_v rfl rfl <| G_c rfl rfl (nat_Nat_digits_ans hN a _) <| G_v rfl rfl <| G_nil) ?_
    refine G_seq ?_
    refine G_run hN (G_v rfl rfl <| G_v rfl (g_int rfl (eq_ rfl)) <| G_v rfl rfl <| G_v rfl rfl <| G_v rfl rfl <| G_nil) ?_
    refine G_if rfl (fun _ => ?_) (fun hc => ?_)
    · refine G_run hN (G_c rfl rfl (nat_of_nil hN _) <| G_v rfl rfl <| G_nil) ?_
      exact G_ret (G_end rfl ⟨rfl, rfl⟩)
    · exfalso; have := of_decide_eq_false hc; omega
end
end Go.Eng
end
section
namespace Go.Eng
open Go.RowKit
/-- A run of a region that draws, step by step. -/
inductive RunP (cx : Cx) (ops : Array Oper) : List Oper → DS → DS → Prop
  | nil (s : DS) : RunP cx ops [] s s
  | cons {o : Oper} {l : List Oper} {s s1 s2 : DS} (b : Nat) (x : AV) (cs : List AV) (k : Nat) (hk : k ≠ 1) (h : SF (fun _ _ _ => none) cx ops o s s1 b x cs k) (hl : RunP cx ops l s1 s2) : RunP cx ops (o :: l) s s2
theorem RunP.trace {cx : Cx} {ops : Array Oper} {l : List Oper} {s s' : DS} (h : RunP cx ops l s s') :
    ∃ σ : Nat → DS, σ 0 = s ∧ σ l.length = s' ∧ ∀ j o, l[j]? = some o → ∃ b x cs k, k ≠ 1 ∧ SF (fun _ _ _ => none) cx ops o (σ j) (σ (j + 1)) b x cs k := by
  induction h with
  | nil s => exact ⟨fun _ => s, rfl, rfl, fun j o hj => by simp at hj⟩
  | @cons o l s s1 s2 b x cs k hk h _ ih =>
    obtain ⟨σ, g0, g1, g2⟩ := ih
    refine ⟨fun j => match j with | 0 => s | j + 1 => σ j, rfl, g1, fun j o' hj => ?_⟩
    cases j with
    | zero => simp at hj; subst hj; simp only [g0]; exact ⟨b, x, cs, k, hk, h⟩
    | succ j => exact g2 j o' (by simpa using hj)
theorem RunP.plan {cx : Cx} {ops : Array Oper} {e0 : Env} {H0 : Heap} {id0 : Nat} {s' : DS} (h : RunP cx ops ops.toList ⟨0, e0, H0, 0, id0, [], 0, [], [], .nil, []⟩ s') :
    ∃ σ B X C K, Plan (fun _ _ _ => none) cx ops e0 H0 id0 σ B X C K ∧ σ ops.size = s' ∧ ∀ f, f < ops.size → K f ≠ 1 := by
  obtain ⟨σ, g0, g1, g2⟩ := h.trace
  have hex : ∀ j, ∃ q : Nat × AV × List AV × Nat, ∀ o, ops[j]? = some o → q.2.2.2 ≠ 1 ∧ SF (fun _ _ _ => none) cx ops o (σ j) (σ (j + 1)) q.1 q.2.1 q.2.2.1 q.2.2.2 := fun j => by
    cases ho : ops[j]? with
    | none => exact ⟨(0, .undef, [], 0), fun o hh => by cases hh⟩
    | some o =>
      obtain ⟨b, x, cs, k, hk, hf⟩ := g2 j o (by simpa using ho)
      exact ⟨(b, x, cs, k), fun o' hh => by cases hh; exact ⟨hk, hf⟩⟩
  obtain ⟨q, hq⟩ := Classical.axiomOfChoice hex
  exact ⟨σ, fun j => (q j).1, fun j => (q j).2.1, fun j => (q j).2.2.1, fun j => (q j).2.2.2, ⟨g0, fun j o ho => (hq j o ho).2⟩, by simpa using g1, fun f hf => by
    obtain ⟨o, ho⟩ := at_lt (ops := ops) hf
    exact (hq f o ho).1⟩
section
variable {cx : Cx} {ops : Array Oper} {e : Env} {H : Heap} {R : AEx → Env → Heap → Prop} {k : List Fr}
theorem W_drawP (hN : CxOk cx) (hm : cx.P.follows .mixedOrders = true) {id : Nat} {s' : DS} {Q : AEx → Env → Heap → Prop} (hd : RunP cx ops ops.toList ⟨0, e, H, 0, H.nx, [], 0, [], [], .nil, []⟩ s') (h : Q .normal s'.e (landL (rest s'.ld s'.al) s'.H)) : W cx (.region id ops true) e H Q := fun ρ z pv w0 a w hS => by
  obtain ⟨σ, B, X, C, K, p, hσ, hk⟩ := hd.plan
  subst hσ
  refine wp_mono (plan_draw hm hN 0 (fun f hf kf => absurd kf (hk f hf)) p hS) fun ex a' w' hp => ?_
  obtain ⟨h1, ρ', z', h2, h3⟩ := hp
  exact ⟨.normal, _, _, ρ', z', h1, h2, h3, h⟩
end
def statD (ops : Array Oper) : List Oper → Nat → Nat → T Nat → List RE → Bool
  | [], _, _, _, _ => true
  | o :: l, i, lm, bs, rs => match bmask bs i o.after.toList 0 with
    | none => false
    | some b => clash b o.dst (reads ops o) rs && !(isF o.op) && (isQ o.op || Nat.beq (Nat.land lm b) lm) &&
        statD ops l (i + 1) (cond (isQ o.op) lm (Nat.lor lm (Nat.shiftLeft 1 i))) (bs.set i b) (⟨i, o.dst, reads ops o⟩ :: rs)
/-- One operation of a region that leaves the heap as it is. -/
inductive PStep (cx : Cx) (ops : Array Oper) (H : Heap) (o : Oper) (e e' : Env) : Prop
  | skip (hw : wantedA ops (e.look (reads ops o)) o = some false) (hp : e.put o.dst (.tuple []) = some e')
  | quiet (x : AV) (hw : wantedA ops (e.look (reads ops o)) o = some true) (hq : isQ o.op = true) (ha : aq cx (e.look (reads ops o)) H o = some x) (hp : e.put o.dst x = some e')
  | loud (x : AV) (hw : wantedA ops (e.look (reads ops o)) o = some true) (hq : isQ o.op = false) (hs : SL cx (e.look (reads ops o)) H o x H) (hp : e.put o.dst x = some e')
inductive PRun (cx : Cx) (ops : Array Oper) (H : Heap) : List Oper → Env → Env → Prop
  | nil (e : Env) : PRun cx ops H [] e e
  | cons {o : Oper} {l : List Oper} {e e1 e2 : Env} (h : PStep cx ops H o e e1) (hl : PRun cx ops H l e1 e2) : PRun cx ops H (o :: l) e e2
theorem land_sub {a b c : Nat} (h1 : Nat.land a c = a) (h2 : Nat.beq (Nat.land c b) c = true) : Nat.beq (Nat.land a b) a = true := by
  have h2 := Nat.eq_of_beq_eq_true h2
  have : Nat.land a b = a := by
    have e1 : a &&& c = a := h1
    have e2 : c &&& b = c := h2
    show a &&& b = a
    rw [← e1, Nat.and_assoc, e2]
  rw [this]
  simp
theorem lor_sub {a c i : Nat} (h : Nat.land a c = a) : Nat.land (Nat.lor a (Nat.shiftLeft 1 i)) (Nat.lor c (Nat.shiftLeft 1 i)) = Nat.lor a (Nat.shiftLeft 1 i) := by
  have e1 : a &&& c = a := h
  show (a ||| (1 <<< i)) &&& (c ||| (1 <<< i)) = a ||| (1 <<< i)
  apply Nat.eq_of_testBit_eq
  intro j
  have e2 : (a &&& c).testBit j = a.testBit j := by rw [e1]
  rw [Nat.testBit_and] at e2
  simp only [Nat.testBit_or, Nat.testBit_and]
  cases ha : a.testBit j <;> cases hc : c.testBit j <;> simp_all
theorem lor_sub' {a c i : Nat} (h : Nat.land a c = a) : Nat.land a (Nat.lor c (Nat.shiftLeft 1 i)) = a := by
  have e1 : a &&& c = a := h
  show a &&& (c ||| (1 <<< i)) = a
  rw [Nat.and_or_distrib_left, e1]
  apply Nat.eq_of_testBit_eq
  intro j
  simp only [Nat.testBit_or, Nat.testBit_and]
  cases a.testBit j <;> simp
theorem PRun.runP {cx : Cx} {ops : Array Oper} {H : Heap} {id : Nat} {l : List Oper} {e e' : Env} (h : PRun cx ops H l e e') : ∀ (i lm lm' : Nat) (bs : T Nat) (rs : List RE) (ld : Nat) (hs : List HE) (qs : List QE), statD ops l i lm' bs rs = true → Nat.land lm lm' = lm → (∀ h ∈ hs, h.H = H) → (∀ q ∈ qs, aq cx q.e H q.o = some q.x) →
    ∃ s', RunP cx ops l ⟨i, e, H, lm, id, [], ld, hs, qs, bs, rs⟩ s' ∧ s'.e = e' ∧ s'.H = H ∧ s'.al = [] := by
  induction h with
  | nil e => exact fun i lm lm' bs rs ld hs qs _ _ _ _ => ⟨_, .nil _, rfl, rfl, rfl⟩
  | @cons o l e e1 e2 hst _ ih =>
    intro i lm lm' bs rs ld hs qs hstat hlm hhs hqs
    simp only [statD] at hstat
    split at hstat
    · cases hstat
    · rename_i b hb
      simp only [Bool.and_eq_true, Bool.or_eq_true, Bool.not_eq_true'] at hstat
      obtain ⟨⟨⟨hc, hF⟩, hqm⟩, hrest⟩ := hstat
      have nosel : ∀ (b ld : Nat) (K : Heap), landL (sel b ld []) K = K := fun _ _ _ => rfl
      cases hst with
      | skip hw hp =>
        obtain ⟨s', h1, h2⟩ := ih (i + 1) lm _ _ _ ld hs qs hrest (by cases isQ o.op <;> first | exact hlm | exact lor_sub' hlm) hhs hqs
        refine ⟨s', .cons b (.tuple []) [] 0 (by decide) ?_ h1, h2⟩
        exact ⟨hb, hc, rfl, hp, rfl, rfl, .skip hw rfl rfl rfl rfl rfl rfl rfl rfl⟩
      | quiet x hw hq ha hp =>
        obtain ⟨s', h1, h2⟩ := ih (i + 1) lm _ _ _ ld hs (⟨i, b, o, e.look (reads ops o), x⟩ :: qs) hrest (by rw [hq]; exact hlm) hhs (fun q hq => by
          rcases List.mem_cons.1 hq with rfl | hq
          · exact ha
          · exact hqs q hq)
        refine ⟨s', .cons b x [] 2 (by decide) ?_ h1, h2⟩
        exact ⟨hb, hc, rfl, hp, rfl, rfl, .quiet hw hq (by rw [nosel]; exact ha) (fun h hh => .inr (by rw [nosel, hhs h hh]; exact ha)) rfl rfl rfl rfl rfl rfl rfl⟩
      | loud x hw hq hsl hp =>
        have hm : Nat.beq (Nat.land lm b) lm = true := by
          rcases hqm with h | h
          · rw [hq] at h; cases h
          · exact land_sub hlm h
        obtain ⟨s', h1, h2⟩ := ih (i + 1) (Nat.lor lm (Nat.shiftLeft 1 i)) _ _ _ (Nat.lor ld b) (⟨i, H, ld⟩ :: hs) qs hrest (by rw [hq]; exact lor_sub hlm) (fun h hh => by
          rcases List.mem_cons.1 hh with rfl | hh
          · rfl
          · exact hhs h hh) hqs
        refine ⟨s', .cons b x [] 3 (by decide) ?_ h1, h2⟩
        exact ⟨hb, hc, rfl, hp, rfl, rfl, .loud hw hm (by rw [nosel]; exact hsl) (fun q hq => .inr (by rw [nosel]; exact hqs q hq)) rfl rfl rfl rfl rfl rfl⟩
def lookM (m : List (Nat × AV)) : List Tmp → List (Nat × AV) → List (Nat × AV)
  | [], acc => acc
  | k :: ks, acc => match lq m k with
    | some x => lookM m ks ((k, x) :: acc)
    | none => lookM m ks acc
theorem look_of (sz : Nat) (m : List (Nat × AV)) (ks : List Tmp) : (⟨sz, T.of m⟩ : Env).look ks = ⟨sz, T.of (lookM m ks [])⟩ := by
  have main : ∀ (ks : List Tmp) (acc : List (Nat × AV)), onlyT ⟨sz, T.of m⟩ ks (T.of acc) = T.of (lookM m ks acc) := by
    intro ks
    induction ks with
    | nil => exact fun acc => rfl
    | cons k ks ih =>
      intro acc
      simp only [onlyT, lookM, T.of_get]
      cases hx : lq m k with
      | some x => exact ih ((k, x) :: acc)
      | none => exact ih acc
  unfold Env.look
  congr 1
  exact main ks []
/-- A region's operations in the text's order, the heap as it is. -/
structure DRun (cx : Cx) (ops : Array Oper) (H : Heap) (sz : Nat) (l : List Oper) (m m' : List (Nat × AV)) : Prop where
  run : PRun cx ops H l ⟨sz, T.of m⟩ ⟨sz, T.of m'⟩
def isCv : Op → Bool
  | .convert .. => true
  | _ => false
section
variable {cx : Cx} {ops : Array Oper} {H : Heap} {R : AEx → Env → Heap → Prop} {k : List Fr} {sz d : Nat} {m mr : List (Nat × AV)} {l : List Oper} {x : AV} {op : Op} {ty : TypeId} {pos : String} {af : Array Edge} {g : Option (Nat × Bool)}
theorem put_of (hs : Nat.blt d sz = true) (x : AV) : (⟨sz, T.of m⟩ : Env).put (some d) x = some ⟨sz, T.of ((d, x) :: m)⟩ := by
  simp only [Env.put, hs, cond_true]; rfl
theorem aq_of {e : Env} {o : Oper} (hq : isCv o.op = false) (h : opFn o.op cx e H = some (.val x H)) : aq cx e H o = some x := by
  unfold aq
  split
  · rename_i ho; rw [ho] at hq; cases hq
  · simp only [aop, h, onlyVal]
theorem D_nil : DRun cx ops H sz [] m m := ⟨.nil _⟩
/-- A quiet operation. -/
theorem D_q (hs : Nat.blt d sz = true) (hq : (isQ op && !(isCv op)) = true) (ha : sop cx (lookM m (reads ops ⟨some d, op, ty, pos, af, none⟩) []) H op = some (.val x H)) (h : DRun cx ops H sz l ((d, x) :: m) mr) : DRun cx ops H sz (⟨some d, op, ty, pos, af, none⟩ :: l) m mr := by
  simp only [Bool.and_eq_true, Bool.not_eq_true'] at hq
  refine ⟨.cons (.quiet x rfl hq.1 ?_ (put_of hs x)) h.run⟩
  have ha' := sop_ok (sz := sz) ha
  rw [look_of]
  exact aq_of hq.2 ha'
theorem D_qg {j t : Nat} {w : Bool} (hs : Nat.blt d sz = true) (hq : (isQ op && !(isCv op)) = true) (hj : (ops[j]?).bind (·.dst) = some t) (hb : lq (lookM m (reads ops ⟨some d, op, ty, pos, af, some (j, w)⟩) []) t = some (.bool w)) (ha : sop cx (lookM m (reads ops ⟨some d, op, ty, pos, af, some (j, w)⟩) []) H op = some (.val x H)) (h : DRun cx ops H sz l ((d, x) :: m) mr) : DRun cx ops H sz (⟨some d, op, ty, pos, af, some (j, w)⟩ :: l) m mr := by
  simp only [Bool.and_eq_true, Bool.not_eq_true'] at hq
  refine ⟨.cons (.quiet x ?_ hq.1 ?_ (put_of hs x)) h.run⟩
  · rw [look_of]
    simp only [wantedA, hj, T.of_get, hb]
    cases w <;> rfl
  have ha' := sop_ok (sz := sz) ha
  rw [look_of]
  exact aq_of hq.2 ha'
/-- An operation behind a guard that fails. -/
theorem D_n {j t : Nat} {w b : Bool} (hs : Nat.blt d sz = true) (hj : (ops[j]?).bind (·.dst) = some t) (hb : lq (lookM m (reads ops ⟨some d, op, ty, pos, af, some (j, w)⟩) []) t = some (.bool b)) (hn : (b == w) = false) (h : DRun cx ops H sz l ((d, .tuple []) :: m) mr) : DRun cx ops H sz (⟨some d, op, ty, pos, af, some (j, w)⟩ :: l) m mr := by
  refine ⟨.cons (.skip ?_ (put_of hs _)) h.run⟩
  rw [look_of]
  simp only [wantedA, hj, T.of_get, hb, hn]
/-- A conversion. -/
theorem D_cv {s' t' : TypeId} {o : Operand} {v : AV} (hs : Nat.blt d sz = true) (hr : rd cx (lookM m (reads ops ⟨some d, .convert s' t' o, ty, pos, af, none⟩) []) o = some v) (ha : aConv cx.D cx.P H s' t' v = some x) (h : DRun cx ops H sz l ((d, x) :: m) mr) : DRun cx ops H sz (⟨some d, .convert s' t' o, ty, pos, af, none⟩ :: l) m mr := by
  refine ⟨.cons (.quiet x rfl rfl ?_ (put_of hs x)) h.run⟩
  rw [look_of]
  unfold aq
  simp only [rd_ok hr, ha]
theorem D_cvg {s' t' : TypeId} {o : Operand} {v : AV} {j t : Nat} {w : Bool} (hs : Nat.blt d sz = true) (hj : (ops[j]?).bind (·.dst) = some t) (hb : lq (lookM m (reads ops ⟨some d, .convert s' t' o, ty, pos, af, some (j, w)⟩) []) t = some (.bool w)) (hr : rd cx (lookM m (reads ops ⟨some d, .convert s' t' o, ty, pos, af, some (j, w)⟩) []) o = some v) (ha : aConv cx.D cx.P H s' t' v = some x) (h : DRun cx ops H sz l ((d, x) :: m) mr) : DRun cx ops H sz (⟨some d, .convert s' t' o, ty, pos, af, some (j, w)⟩ :: l) m mr := by
  refine ⟨.cons (.quiet x ?_ rfl ?_ (put_of hs x)) h.run⟩
  · rw [look_of]
    simp only [wantedA, hj, T.of_get, hb]
    cases w <;> rfl
  rw [look_of]
  unfold aq
  simp only [rd_ok hr, ha]
/-- A call. -/
theorem D_c {f : FuncId} {args : List AV} (hs : Nat.blt d sz = true) (hq : isQ op = false) (ha : sop cx (lookM m (reads ops ⟨some d, op, ty, pos, af, none⟩) []) H op = some (.enter f args)) (hc : Ans cx f args H fun y K => y = x ∧ K = H) (h : DRun cx ops H sz l ((d, x) :: m) mr) : DRun cx ops H sz (⟨some d, op, ty, pos, af, none⟩ :: l) m mr := by
  refine ⟨.cons (.loud x rfl hq ?_ (put_of hs x)) h.run⟩
  have ha' := sop_ok (sz := sz) ha
  rw [look_of]
  simp only [SL, aop, ha']
  exact hc
theorem D_cg {j t : Nat} {w : Bool} {f : FuncId} {args : List AV} (hs : Nat.blt d sz = true) (hq : isQ op = false) (hj : (ops[j]?).bind (·.dst) = some t) (hb : lq (lookM m (reads ops ⟨some d, op, ty, pos, af, some (j, w)⟩) []) t = some (.bool w)) (ha : sop cx (lookM m (reads ops ⟨some d, op, ty, pos, af, some (j, w)⟩) []) H op = some (.enter f args)) (hc : Ans cx f args H fun y K => y = x ∧ K = H) (h : DRun cx ops H sz l ((d, x) :: m) mr) : DRun cx ops H sz (⟨some d, op, ty, pos, af, some (j, w)⟩ :: l) m mr := by
  refine ⟨.cons (.loud x ?_ hq ?_ (put_of hs x)) h.run⟩
  · rw [look_of]
    simp only [wantedA, hj, T.of_get, hb]
    cases w <;> rfl
  have ha' := sop_ok (sz := sz) ha
  rw [look_of]
  simp only [SL, aop, ha']
  exact hc
def Heap.more (H : Heap) (n : Nat) : Heap := ⟨H.t, H.nx + n, H.e⟩
theorem G_draw (hN : CxOk cx) (hm : cx.P.follows .mixedOrders = true) {id : Nat} {ops : Array Oper} {y : Code} (hst : statD ops ops.toList 0 0 .nil [] = true) (h : DRun cx ops H sz ops.toList m mr) (hq : WG cx y sz mr H (Cn cx R k)) : WG cx (.seq (.region id ops true) y) sz m H (Cn cx R k) := ⟨by
  refine S_seq ?_
  obtain ⟨s', h1, h2, h3, h4⟩ := h.run.runP (id := H.nx) 0 0 0 .nil [] 0 [] [] hst rfl (fun _ h => by cases h) (fun _ h => by cases h)
  refine W_drawP hN hm h1 ?_
  rw [h2, h3, h4]
  exact hq.w⟩
theorem G_draw1 (hN : CxOk cx) (hm : cx.P.follows .mixedOrders = true) {id : Nat} {ops : Array Oper} (hst : statD ops ops.toList 0 0 .nil [] = true) (h : DRun cx ops H sz ops.toList m mr) (hq : CG cx R k .normal sz mr H) : WG cx (.region id ops true) sz m H (Cn cx R k) := ⟨by
  obtain ⟨s', h1, h2, h3, h4⟩ := h.run.runP (id := H.nx) 0 0 0 .nil [] 0 [] [] hst rfl (fun _ h => by cases h) (fun _ h => by cases h)
  refine W_drawP hN hm h1 ?_
  rw [h2, h3, h4]
  exact hq.c⟩
end
end Go.Eng
end
