import Derived.Test.YtekfcbeballilaaGreatDoorNe
section
namespace Go.Eng
open Go Go.RowKit Go.Proofs
set_option maxHeartbeats 4000000
set_option maxRecDepth 10000
/-- A number with a sign. -/
def sg (neg : Bool) (a : Nat) : Int := bif neg then -(a : Int) else a
theorem mk_parts (neg : Bool) (a b : Nat) (hb : 0 < b) : (mkRat (sg neg a) b).num.natAbs = a / Nat.gcd a b ∧ (mkRat (sg neg a) b).den = b / Nat.gcd a b ∧ decide ((mkRat (sg neg a) b).num < 0) = (neg && decide (a ≠ 0)) := by
  have hg : 0 < Nat.gcd a b := Nat.gcd_pos_of_pos_right _ hb
  have ha : (sg neg a).natAbs = a := by cases neg <;> simp [sg]
  have hmk : mkRat (sg neg a) b = Rat.normalize (sg neg a) b (by omega) := by rw [mkRat]; simp [show b ≠ 0 by omega]
  have hn : (mkRat (sg neg a) b).num = sg neg a / (Nat.gcd a b : Nat) := by
    rw [hmk, Rat.normalize_eq]; dsimp only; rw [ha]
  have hd : (mkRat (sg neg a) b).den = b / Nat.gcd a b := by
    rw [hmk, Rat.normalize_eq]; dsimp only; rw [ha]
  rw [hn, hd]
  have hda := Nat.gcd_dvd_left a b
  refine ⟨?_, rfl, ?_⟩
  · show (sg neg a / (Nat.gcd a b : Nat)).natAbs = _
    cases neg with
    | false =>
      show ((a : Int) / (Nat.gcd a b : Nat)).natAbs = _
      rw [← Int.natCast_ediv]; rfl
    | true =>
      show (-(a : Int) / (Nat.gcd a b : Nat)).natAbs = _
      rw [Int.neg_ediv_of_dvd (Int.natCast_dvd_natCast.2 hda), ← Int.natCast_ediv, Int.natAbs_neg]; rfl
  · show decide (sg neg a / (Nat.gcd a b : Nat) < 0) = _
    cases neg with
    | false =>
      show decide ((a : Int) / (Nat.gcd a b : Nat) < 0) = false
      rw [← Int.natCast_ediv]
      exact decide_eq_false (Int.not_lt.2 (Int.natCast_nonneg _))
    | true =>
      show decide (-(a : Int) / (Nat.gcd a b : Nat) < 0) = decide (a ≠ 0)
      rw [Int.neg_ediv_of_dvd (Int.natCast_dvd_natCast.2 hda), ← Int.natCast_ediv]
      rw [decide_eq_decide]
      have : 0 < a / Nat.gcd a b ↔ a ≠ 0 := by
        constructor
        · intro h h0; subst h0; simp at h
        · intro h; exact Nat.div_pos (Nat.le_of_dvd (by omega) hda) hg
      generalize a / Nat.gcd a b = x at *
      omega
/-- A fraction's tree, known by its parts. -/
theorem frac_tree {q : Rat} {n : Bool} {a b : Nat} (h1 : q.num.natAbs = a) (h2 : q.den = b) (h3 : decide (q.num < 0) = n) : fracTree q = .iptr [.bool n, .num a, .num b] 0 := by
  rw [fracTree, h1, h2, h3]
variable {X : ExtF} {Y : LiesF}
theorem frac_zero_ans (hN : CxOk (cz X Y)) (a : Nat) (ha : Sm a) (H : Heap) : Ans (cz X Y) F.frac_zero [.num a] H fun x K => x = .bool (decide (a = 0)) ∧ K = H := by
  refine G_body hN (fn := B.frac_zero) (sz := 6) rfl rfl rfl rfl rfl ?_
  refine G_run hN (G_v rfl rfl <| G_nil) ?_
  refine G_run hN (G_v rfl rfl <| G_c rfl rfl (nat_Nat_Bits_ans hN a ha _) <| G_v rfl (g_bool (b := decide (a = 0)) rfl ?_) <| G_v rfl rfl <| G_nil) ?_
  · rw [Bool.eq_iff_iff]
    simp only [beq_iff_eq, decide_eq_true_eq]
    constructor
    · intro h
      rcases Nat.eq_zero_or_pos a with h0 | h0
      · exact h0
      · have := (bl_pos h0).1; omega
    · rintro rfl; rfl
  · exact G_ret (G_end rfl ⟨rfl, rfl⟩)
theorem frac_New_ans (hN : CxOk (cz X Y)) (neg : Bool) (a b : Nat) (ha : Sm a) (hb : Sm b) (hb0 : 0 < b) (H : Heap) : Ans (cz X Y) F.frac_New [.bool neg, .num a, .num b] H fun x K => x = .tuple [.frac (mkRat (sg neg a) b), .bool true] ∧ K = H := by
  have hg : 0 < Nat.gcd a b := Nat.gcd_pos_of_pos_right _ hb0
  have sgm : Sm (Nat.gcd a b) := hb.le (Nat.gcd_le_right _ hb0)
  obtain ⟨p1, p2, p3⟩ := mk_parts neg a b hb0
  refine Ans_free gl0_free (.tuple (.cons (Imp.frac' (mkRat (sg neg a) b)) (.cons (Imp.refl _) .nil))) rfl ?_ H
  rw [frac_tree p1 p2 p3]
  refine G_body hN (fn := B.frac_New) (sz := 45) rfl rfl rfl rfl rfl ?_
  refine G_run hN (G_v rfl rfl <| G_v rfl rfl <| G_nil) ?_
  refine G_seq ?_
  have hz := frac_zero_ans hN b hb H0
  rw [decide_eq_false (by omega)] at hz
  refine G_run hN (G_v rfl rfl <| G_c rfl rfl hz <| G_nil) ?_
  refine G_if0 rfl (G_skip (G_pop ?_))
  refine G_mid (α := Unit) (fun _ => True) (fun _ => [(0, .bool neg), (1, .num (a / Nat.gcd a b)), (2, .num (b / Nat.gcd a b))]) (fun _ => H0) ?_ ?_
  · refine G_run hN (G_v rfl rfl <| G_v rfl rfl <| G_c rfl rfl (nat_Nat_Gcd_ans hN a b ha hb _) <| G_v rfl rfl <| G_nil) ?_
    have hc := nat_Nat_Cmp_ans hN (Nat.gcd a b) 1 sgm (sgm.le hg) H0
    by_cases h1 : Nat.gcd a b = 1
    · rw [h1] at hc
      refine G_run hN (G_v rfl (by rw [h1]; rfl) <| G_c rfl rfl (nat_Of_ans hN 1 (by decide) _) <| G_c rfl rfl hc <| G_v rfl rfl <| G_nil) ?_
      refine G_if0 rfl (G_skip ?_)
      exact G_done () trivial (M1 rfl <| M2 rfl (by rw [h1, Nat.div_one]) <| M2 rfl (by rw [h1, Nat.div_one]) M0) (Heap.Sub.refl _)
    · rw [if_neg (by omega), if_pos (by omega)] at hc
      refine G_run hN (G_v rfl rfl <| G_c rfl rfl (nat_Of_ans hN 1 (by decide) _) <| G_c rfl rfl hc <| G_v rfl rfl <| G_nil) ?_
      refine G_if1 rfl ?_
      refine G_run hN (G_v rfl rfl <| G_v rfl rfl <| G_c rfl rfl (nat_Nat_Div_ans hN a _ ha sgm hg _) <| G_v rfl rfl <| G_v rfl rfl <| G_v rfl rfl <| G_v rfl rfl <| G_v rfl rfl <| G_nil) ?_
      refine G_run1 hN (G_v rfl rfl <| G_v rfl rfl <| G_c rfl rfl (nat_Nat_Div_ans hN b _ hb sgm hg _) <| G_v rfl rfl <| G_v rfl rfl <| G_v rfl rfl <| G_v rfl rfl <| G_v rfl rfl <| G_nil) ?_
      exact G_done () trivial (M1 rfl <| M1 rfl <| M1 rfl M0) (Heap.Sub.refl _)
  · rintro ⟨⟩ _
    refine G_seq ?_
    refine G_run hN (G_v rfl rfl <| G_v rfl rfl <| G_nil) ?_
    refine G_if0 rfl (G_skip (G_pop ?_))
    have hz := frac_zero_ans hN (a / Nat.gcd a b) (ha.le (Nat.div_le_self _ _)) H0
    have hd : decide (a / Nat.gcd a b = 0) = decide (a = 0) := by
      rw [decide_eq_decide]
      constructor
      · intro h
        rcases Nat.eq_zero_or_pos a with h0 | h0
        · exact h0
        · have := Nat.div_pos (Nat.le_of_dvd h0 (Nat.gcd_dvd_left a b)) hg; omega
      · rintro rfl; simp
    rw [hd] at hz
    cases neg with
    | true =>
      refine G_run hN (G_v rfl rfl <| G_v rfl rfl <| G_g rfl rfl <| G_v rfl rfl <| G_g rfl rfl <| G_c rfl rfl hz <| G_g rfl rfl <| G_v rfl (g_bool (b := decide (a ≠ 0)) rfl (by simp)) <| G_v rfl rfl <| G_v rfl rfl <| G_v rfl rfl <| G_v rfl rfl <| G_v rfl rfl <| G_v rfl rfl <| G_v rfl rfl <| G_nil) ?_
      exact G_ret (G_end rfl (.tuple (.cons (.ptr rfl (.cons (.bool _) (.cons (.num _) (.cons (.num _) .nil)))) (.cons (.bool _) .nil))))
    | false =>
      refine G_run hN (G_v rfl rfl <| G_v rfl rfl <| G_n rfl rfl rfl rfl <| G_n rfl rfl rfl rfl <| G_n rfl rfl rfl rfl <| G_v rfl rfl <| G_v rfl rfl <| G_v rfl rfl <| G_v rfl rfl <| G_v rfl rfl <| G_v rfl rfl <| G_v rfl rfl <| G_nil) ?_
      exact G_ret (G_end rfl (.tuple (.cons (.ptr rfl (.cons (.bool _) (.cons (.num _) (.cons (.num _) .nil)))) (.cons (.bool _) .nil))))
end Go.Eng
end
section
namespace Go.Eng
open Go Go.RowKit Go.Proofs
set_option maxHeartbeats 4000000
set_option maxRecDepth 10000
/-- Numbers whose products may still be told. -/
def Hf (n : Nat) : Prop := (digs n).length ≤ 274877906944
structure Hq (q : Rat) : Prop where
  n : Hf q.num.natAbs
  d : Hf q.den
theorem Hf.sm {n : Nat} (h : Hf n) : Sm n := Nat.le_trans h (by omega)
theorem Hf.le {a b : Nat} (h : Hf b) (hab : a ≤ b) : Hf a := by
  unfold Hf at *
  exact Nat.le_trans (len_le_of_lt (Nat.lt_of_le_of_lt hab (lt_pow_len b))) h
theorem digs_mul_len (a b : Nat) : (digs (a * b)).length ≤ (digs a).length + (digs b).length := by
  refine len_le_of_lt ?_
  rw [Nat.pow_add]
  exact Nat.mul_lt_mul_of_lt_of_le (lt_pow_len a) (Nat.le_of_lt (lt_pow_len b)) (Nat.pow_pos (by decide))
theorem digs_add_len (a b k : Nat) (ha : (digs a).length ≤ k) (hb : (digs b).length ≤ k) : (digs (a + b)).length ≤ k + 1 := by
  refine len_le_of_lt ?_
  have h1 := Nat.lt_of_lt_of_le (lt_pow_len a) (Nat.pow_le_pow_right (n := BB) (by decide) ha)
  have h2 := Nat.lt_of_lt_of_le (lt_pow_len b) (Nat.pow_le_pow_right (n := BB) (by decide) hb)
  rw [Nat.pow_succ]
  simp only [BB] at *
  omega
theorem Hf.mul {a b : Nat} (ha : Hf a) (hb : Hf b) : (digs (a * b)).length ≤ 549755813888 := by
  have := digs_mul_len a b
  unfold Hf at *
  omega
theorem Hf.mulS {a b : Nat} (ha : Hf a) (hb : Hf b) : Sm (a * b) := by
  have := ha.mul hb
  unfold Sm; omega
theorem sg_num (q : Rat) : sg (decide (q.num < 0)) q.num.natAbs = q.num := by
  unfold sg
  by_cases h : q.num < 0
  · rw [decide_eq_true h]; simp only [cond_true]; omega
  · rw [decide_eq_false h]; simp only [cond_false]; omega
theorem sg_mul (n m : Bool) (a b : Nat) : sg (n != m) (a * b) = sg n a * sg m b := by
  cases n <;> cases m <;> simp [sg] <;> grind
variable {X : ExtF} {Y : LiesF}
theorem frac_sure_ans (hN : CxOk (cz X Y)) (neg : Bool) (a b : Nat) (ha : Sm a) (hb : Sm b) (hb0 : 0 < b) (H : Heap) : Ans (cz X Y) F.frac_sure [.bool neg, .num a, .num b] H fun x K => x = .frac (mkRat (sg neg a) b) ∧ K = H := by
  refine G_body hN (fn := B.frac_sure) (sz := 17) rfl rfl rfl rfl rfl ?_
  refine G_run hN (G_v rfl rfl <| G_nil) ?_
  refine G_run hN (G_v rfl rfl <| G_v rfl rfl <| G_v rfl rfl <| G_c rfl rfl (frac_New_ans hN neg a b ha hb hb0 _) <| G_v rfl rfl <| G_v rfl rfl <| G_v rfl rfl <| G_v rfl rfl <| G_v rfl rfl <| G_nil) ?_
  refine G_run hN (G_v rfl rfl <| G_v rfl rfl <| G_nil) ?_
  exact G_ret (G_end rfl ⟨rfl, rfl⟩)
def parts (q : Rat) : AV := .tuple [.bool (decide (q.num < 0)), .num q.num.natAbs, .num q.den]
theorem frac_Frac_Parts_frac (hN : CxOk (cz X Y)) (q : Rat) (H : Heap) : Ans (cz X Y) F.frac_Frac_Parts [.frac q] H fun x K => x = parts q ∧ K = H := by
  refine Ans_imp (.cons (Imp.frac q) .nil) ?_
  refine G_body hN (fn := B.frac_Frac_Parts) (sz := 28) rfl rfl rfl rfl rfl ?_
  refine G_run hN (G_v rfl rfl <| G_v rfl rfl <| G_v rfl rfl <| G_nil) ?_
  refine G_seq ?_
  refine G_run hN (G_v rfl rfl <| G_v rfl rfl <| G_v rfl rfl <| G_g rfl rfl <| G_v rfl rfl <| G_g rfl rfl <| G_v rfl rfl <| G_g rfl rfl <| G_v rfl rfl <| G_g rfl rfl <| G_v rfl rfl <| G_g rfl rfl <| G_v rfl rfl <| G_v rfl rfl <| G_nil) ?_
  refine G_if0 rfl (G_skip (G_pop ?_))
  refine G_draw hN mixed (by rfl) (D_q rfl rfl rfl <| D_q rfl rfl rfl <| D_q rfl rfl rfl <| D_q rfl rfl rfl <| D_q rfl rfl rfl <| D_q rfl rfl rfl <| D_q rfl rfl rfl <| D_q rfl rfl rfl <| D_q rfl rfl rfl <| D_q rfl rfl rfl <| D_q rfl rfl rfl <| D_q rfl rfl rfl <| D_q rfl rfl rfl <| D_q rfl rfl rfl <| D_q rfl rfl rfl <| D_nil) ?_
  exact G_ret (G_end rfl ⟨rfl, rfl⟩)
theorem frac_Frac_Parts_nil (hN : CxOk (cz X Y)) (H : Heap) : Ans (cz X Y) F.frac_Frac_Parts [.nilp] H fun x K => x = .tuple [.bool false, .num 0, .num 1] ∧ K = H := by
  refine G_body hN (fn := B.frac_Frac_Parts) (sz := 28) rfl rfl rfl rfl rfl ?_
  refine G_run hN (G_v rfl rfl <| G_v rfl rfl <| G_v rfl rfl <| G_nil) ?_
  refine G_seq ?_
  refine G_run hN (G_v rfl rfl <| G_v rfl rfl <| G_v rfl rfl <| G_n rfl rfl rfl rfl <| G_n rfl rfl rfl rfl <| G_n rfl rfl rfl rfl <| G_n rfl rfl rfl rfl <| G_n rfl rfl rfl rfl <| G_v rfl rfl <| G_nil) ?_
  refine G_if1 rfl ?_
  refine G_run hN (G_c rfl rfl (nat_Of_ans hN 0 (by decide) _) <| G_c rfl rfl (nat_Of_ans hN 1 (by decide) _) <| G_v rfl rfl <| G_v rfl rfl <| G_v rfl rfl <| G_nil) ?_
  exact G_ret (G_end rfl ⟨rfl, rfl⟩)
/-- A pointer that stands for a fraction: nil for nought. -/
inductive IsQ : AV → Rat → Prop
  | frac (q : Rat) : IsQ (.frac q) q
  | nilp : IsQ .nilp 0
theorem IsQ.frees {x : AV} {q : Rat} (h : IsQ x q) : AV.frees [x] = true := by cases h <;> rfl
theorem frac_Frac_Parts_ans (hN : CxOk (cz X Y)) {x : AV} {q : Rat} (h : IsQ x q) (H : Heap) : Ans (cz X Y) F.frac_Frac_Parts [x] H fun x K => x = parts q ∧ K = H := by
  cases h with
  | frac => exact frac_Frac_Parts_frac hN q H
  | nilp => exact frac_Frac_Parts_nil hN H
/-- Two numbers with signs, added. -/
def sadd (n : Bool) (a : Nat) (m : Bool) (b : Nat) : Bool × Nat := bif n == m then (n, a + b) else if a < b then (m, b - a) else (n, a - b)
theorem sg_sadd (n : Bool) (a : Nat) (m : Bool) (b : Nat) : sg (sadd n a m b).1 (sadd n a m b).2 = sg n a + sg m b := by
  cases n <;> cases m <;> simp only [sadd, sg, beq_self_eq_true, cond_true, cond_false] <;> (try split) <;> simp <;> omega
theorem frac_signed_ans (hN : CxOk (cz X Y)) (n m : Bool) (a b : Nat) (ha : Sm a) (hb : Sm b) (H : Heap) : Ans (cz X Y) F.frac_signed [.bool n, .num a, .bool m, .num b] H fun x K => x = .tuple [.bool (sadd n a m b).1, .num (sadd n a m b).2] ∧ K = H := by
  refine G_body hN (fn := B.frac_signed) (sz := 38) rfl rfl rfl rfl rfl ?_
  refine G_run hN (G_v rfl rfl <| G_v rfl rfl <| G_nil) ?_
  refine G_seq ?_
  cases hnm : n == m with
  | true =>
    refine G_run hN (G_v rfl rfl <| G_v rfl rfl <| G_v rfl (g_bool (b := true) rfl hnm) <| G_nil) ?_
    refine G_if1 rfl ?_
    refine G_run hN (G_v rfl rfl <| G_v rfl rfl <| G_v rfl rfl <| G_c rfl rfl (nat_Nat_Add_ans hN a b ha hb _) <| G_v rfl rfl <| G_v rfl rfl <| G_nil) ?_
    exact G_ret (G_end rfl ⟨by rw [sadd, hnm]; rfl, rfl⟩)
  | false =>
    refine G_run hN (G_v rfl rfl <| G_v rfl rfl <| G_v rfl (g_bool (b := false) rfl hnm) <| G_nil) ?_
    refine G_if0 rfl (G_skip (G_pop ?_))
    refine G_seq ?_
    have h1 := nat_Nat_Less_ans (X := X) (Y := Y) hN a b ha hb H
    by_cases hl : a < b
    · rw [if_pos hl] at h1
      have h2 := nat_Nat_Less_ans (X := X) (Y := Y) hN b a hb ha H
      rw [if_neg (by omega)] at h2
      refine G_run hN (G_v rfl rfl <| G_v rfl rfl <| G_c rfl rfl h1 <| G_v rfl rfl <| G_v rfl rfl <| G_v rfl rfl <| G_v rfl rfl <| G_v rfl rfl <| G_nil) ?_
      refine G_run hN (G_v rfl rfl <| G_nil) ?_
      refine G_if0 rfl (G_skip (G_pop ?_))
      refine G_run hN (G_v rfl rfl <| G_v rfl rfl <| G_c rfl rfl h2 <| G_v rfl rfl <| G_v rfl rfl <| G_v rfl rfl <| G_v rfl rfl <| G_v rfl rfl <| G_nil) ?_
      refine G_run hN (G_v rfl rfl <| G_v rfl rfl <| G_v rfl rfl <| G_v rfl rfl <| G_nil) ?_
      exact G_ret (G_end rfl ⟨by rw [sadd, hnm, if_pos hl]; rfl, rfl⟩)
    · rw [if_neg hl] at h1
      refine G_run hN (G_v rfl rfl <| G_v rfl rfl <| G_c rfl rfl h1 <| G_v rfl rfl <| G_v rfl rfl <| G_v rfl rfl <| G_v rfl rfl <| G_v rfl rfl <| G_nil) ?_
      refine G_run hN (G_v rfl rfl <| G_nil) ?_
      refine G_if1 rfl ?_
      refine G_run hN (G_v rfl rfl <| G_v rfl rfl <| G_v rfl rfl <| G_v rfl rfl <| G_nil) ?_
      exact G_ret (G_end rfl ⟨by rw [sadd, hnm, if_neg hl]; rfl, rfl⟩)
theorem sadd_Sm {n m : Bool} {a b : Nat} (h : Sm (a + b)) : Sm (sadd n a m b).2 := by
  refine h.le ?_
  unfold sadd
  cases n == m with
  | true => simp
  | false => simp only [cond_false]; split <;> simp only <;> omega
end Go.Eng
end
section
namespace Go.Eng
open Go Go.RowKit Go.Proofs
set_option maxHeartbeats 4000000
set_option maxRecDepth 10000
variable {X : ExtF} {Y : LiesF}
theorem frac_Frac_Neg_ans (hN : CxOk (cz X Y)) {x : AV} {q : Rat} (hx : IsQ x q) (hq : Hq q) (H : Heap) : Ans (cz X Y) F.frac_Frac_Neg [x] H fun x K => x = .frac (-q) ∧ K = H := by
  have ht : fracTree (-q) = .iptr [.bool (!decide (q.num < 0) && !decide (q.num.natAbs = 0)), .num q.num.natAbs, .num q.den] 0 := by
    refine frac_tree (by rw [Rat.neg_num]; omega) rfl ?_
    rw [Rat.neg_num]
    by_cases h : q.num < 0
    · rw [decide_eq_true h, decide_eq_false (by omega)]; rfl
    · rw [decide_eq_false h]
      by_cases h0 : q.num.natAbs = 0
      · rw [decide_eq_true h0, decide_eq_false (by omega)]; rfl
      · rw [decide_eq_false h0, decide_eq_true (by omega)]; rfl
  refine Ans_free gl0_free (Imp.frac' (-q)) hx.frees ?_ H
  rw [ht]
  refine G_body hN (fn := B.frac_Frac_Neg) (sz := 23) rfl rfl rfl rfl rfl ?_
  refine G_run hN (G_v rfl rfl <| G_nil) ?_
  refine G_run hN (G_v rfl rfl <| G_c rfl rfl (frac_Frac_Parts_ans hN hx _) <| G_v rfl rfl <| G_v rfl rfl <| G_v rfl rfl <| G_v rfl rfl <| G_v rfl rfl <| G_v rfl rfl <| G_v rfl rfl <| G_nil) ?_
  have hz := frac_zero_ans hN q.num.natAbs hq.n.sm H0
  generalize decide (q.num < 0) = n at *
  cases n with
  | true =>
    refine G_run hN (G_v rfl rfl <| G_v rfl rfl <| G_v rfl rfl <| G_n rfl rfl rfl rfl <| G_n rfl rfl rfl rfl <| G_n rfl rfl rfl rfl <| G_v rfl rfl <| G_v rfl rfl <| G_v rfl rfl <| G_v rfl rfl <| G_v rfl rfl <| G_v rfl rfl <| G_nil) ?_
    exact G_ret (G_end rfl (.ptr rfl (.cons (.bool _) (.cons (.num _) (.cons (.num _) .nil)))))
  | false =>
    refine G_run hN (G_v rfl rfl <| G_v rfl rfl <| G_v rfl rfl <| G_g rfl rfl <| G_v rfl rfl <| G_g rfl rfl <| G_c rfl rfl hz <| G_g rfl rfl <| G_v rfl rfl <| G_v rfl rfl <| G_v rfl rfl <| G_v rfl rfl <| G_v rfl rfl <| G_v rfl rfl <| G_v rfl rfl <| G_nil) ?_
    exact G_ret (G_end rfl (.ptr rfl (.cons (.bool _) (.cons (.num _) (.cons (.num _) .nil)))))
theorem sum_sm {p q : Rat} (hp : Hq p) (hq : Hq q) : Sm (p.num.natAbs * q.den + q.num.natAbs * p.den) := by
  have h := digs_add_len _ _ 549755813888 (hp.n.mul hq.d) (hq.n.mul hp.d)
  unfold Sm; omega
theorem frac_Frac_Add_ans (hN : CxOk (cz X Y)) {x y : AV} {p q : Rat} (hx : IsQ x p) (hy : IsQ y q) (hp : Hq p) (hq : Hq q) (H : Heap) : Ans (cz X Y) F.frac_Frac_Add [x, y] H fun x K => x = .frac (p + q) ∧ K = H := by
  have dp : 0 < p.den := p.den_pos
  have dq : 0 < q.den := q.den_pos
  refine G_body hN (fn := B.frac_Frac_Add) (sz := 67) rfl rfl rfl rfl rfl ?_
  refine G_run hN (G_v rfl rfl <| G_nil) ?_
  refine G_run hN (G_v rfl rfl <| G_c rfl rfl (frac_Frac_Parts_ans hN hx _) <| G_v rfl rfl <| G_v rfl rfl <| G_v rfl rfl <| G_v rfl rfl <| G_v rfl rfl <| G_v rfl rfl <| G_v rfl rfl <| G_nil) ?_
  refine G_run hN (G_v rfl rfl <| G_c rfl rfl (frac_Frac_Parts_ans hN hy _) <| G_v rfl rfl <| G_v rfl rfl <| G_v rfl rfl <| G_v rfl rfl <| G_v rfl rfl <| G_v rfl rfl <| G_v rfl rfl <| G_nil) ?_
  refine G_seq ?_
  have hz := frac_zero_ans hN p.num.natAbs hp.n.sm H
  by_cases h0 : p.num.natAbs = 0
  · rw [decide_eq_true h0] at hz
    refine G_run hN (G_v rfl rfl <| G_c rfl rfl hz <| G_nil) ?_
    refine G_if1 rfl ?_
    refine G_run hN (G_v rfl rfl <| G_v rfl rfl <| G_v rfl rfl <| G_c rfl rfl (frac_sure_ans hN _ _ _ hq.n.sm hq.d.sm dq _) <| G_v rfl rfl <| G_nil) ?_
    refine G_ret (G_end rfl ⟨?_, rfl⟩)
    have : p = 0 := Rat.num_eq_zero.1 (by omega)
    show AV.frac _ = _
    rw [sg_num, Rat.mkRat_self, this, Rat.zero_add]
  · rw [decide_eq_false h0] at hz
    refine G_run hN (G_v rfl rfl <| G_c rfl rfl hz <| G_nil) ?_
    refine G_if0 rfl (G_skip (G_pop ?_))
    refine G_seq ?_
    have hc := nat_Nat_Cmp_ans (X := X) (Y := Y) hN p.den q.den hp.d.sm hq.d.sm H
    have hs1 := sum_sm hp hq
    by_cases hd : p.den = q.den
    · rw [if_neg (by omega), if_neg (by omega)] at hc
      refine G_run hN (G_v rfl rfl <| G_v rfl rfl <| G_c rfl rfl hc <| G_v rfl rfl <| G_nil) ?_
      refine G_if1 rfl ?_
      have hs : Sm (p.num.natAbs + q.num.natAbs) := hs1.le (Nat.add_le_add (Nat.le_mul_of_pos_right _ dq) (Nat.le_mul_of_pos_right _ dp))
      refine G_run hN (G_v rfl rfl <| G_v rfl rfl <| G_v rfl rfl <| G_v rfl rfl <| G_c rfl rfl (frac_signed_ans hN _ _ _ _ hp.n.sm hq.n.sm _) <| G_v rfl rfl <| G_v rfl rfl <| G_v rfl rfl <| G_v rfl rfl <| G_v rfl rfl <| G_nil) ?_
      refine G_run hN (G_v rfl rfl <| G_v rfl rfl <| G_v rfl rfl <| G_c rfl rfl (frac_sure_ans hN _ _ _ (sadd_Sm hs) hp.d.sm dp _) <| G_v rfl rfl <| G_nil) ?_
      refine G_ret (G_end rfl ⟨?_, rfl⟩)
      show AV.frac _ = _
      rw [sg_sadd, sg_num, sg_num, Rat.add_def', hd]
      congr 1
      have := Rat.mkRat_mul_left (n := p.num + q.num) (d := q.den) (a := q.den) (by omega)
      rw [← this]
      congr 1
      rw [Int.mul_comm, Int.add_mul]
    · have hc' : Ans (cz X Y) F.nat_Nat_Cmp [.num p.den, .num q.den] H fun x K => x = .int .i64 (if p.den < q.den then -1 else 1) ∧ K = H := by
        by_cases hl : p.den < q.den
        · rw [if_pos hl] at hc ⊢; exact hc
        · rw [if_neg hl, if_pos (by omega)] at hc; rw [if_neg hl]; exact hc
      refine G_run hN (G_v rfl rfl <| G_v rfl rfl <| G_c rfl rfl hc' <| G_v rfl (g_bool (b := false) rfl (by split <;> rfl)) <| G_nil) ?_
      refine G_if0 rfl (G_skip (G_pop ?_))
      refine G_run hN (G_v rfl rfl <| G_v rfl rfl <| G_v rfl rfl <| G_c rfl rfl (nat_Nat_Mul_ans hN _ _ hp.n.sm hq.d.sm _) <| G_v rfl rfl <| G_v rfl rfl <| G_v rfl rfl <| G_c rfl rfl (nat_Nat_Mul_ans hN _ _ hq.n.sm hp.d.sm _) <| G_c rfl rfl (frac_signed_ans hN _ _ _ _ (hp.n.mulS hq.d) (hq.n.mulS hp.d) _) <| G_v rfl rfl <| G_v rfl rfl <| G_v rfl rfl <| G_v rfl rfl <| G_v rfl rfl <| G_nil) ?_
      refine G_run hN (G_v rfl rfl <| G_v rfl rfl <| G_v rfl rfl <| G_v rfl rfl <| G_c rfl rfl (nat_Nat_Mul_ans hN _ _ hp.d.sm hq.d.sm _) <| G_c rfl rfl (frac_sure_ans hN _ _ _ (sadd_Sm hs1) (hp.d.mulS hq.d) (Nat.mul_pos dp dq) _) <| G_v rfl rfl <| G_nil) ?_
      refine G_ret (G_end rfl ⟨?_, rfl⟩)
      show AV.frac _ = _
      have e1 : ∀ (n : Bool) (a b : Nat), sg n (a * b) = sg n a * b := fun n a b => by cases n <;> simp [sg] <;> grind
      rw [sg_sadd, e1, e1, sg_num, sg_num, Rat.add_def']
theorem neg_Hq {q : Rat} (h : Hq q) : Hq (-q) := ⟨by rw [Rat.neg_num, Int.natAbs_neg]; exact h.n, h.d⟩
theorem frac_Frac_Sub_ans (hN : CxOk (cz X Y)) {x y : AV} {p q : Rat} (hx : IsQ x p) (hy : IsQ y q) (hp : Hq p) (hq : Hq q) (H : Heap) : Ans (cz X Y) F.frac_Frac_Sub [x, y] H fun x K => x = .frac (p - q) ∧ K = H := by
  refine G_body hN (fn := B.frac_Frac_Sub) (sz := 9) rfl rfl rfl rfl rfl ?_
  refine G_run hN (G_v rfl rfl <| G_nil) ?_
  refine G_run hN (G_v rfl rfl <| G_v rfl rfl <| G_c rfl rfl (frac_Frac_Neg_ans hN hy hq _) <| G_c rfl rfl (frac_Frac_Add_ans hN hx (.frac _) hp (neg_Hq hq) _) <| G_v rfl rfl <| G_nil) ?_
  refine G_ret (G_end rfl ⟨?_, rfl⟩)
  show AV.frac _ = _
  rw [Rat.sub_eq_add_neg]
theorem frac_Frac_Mul_ans (hN : CxOk (cz X Y)) {x y : AV} {p q : Rat} (hx : IsQ x p) (hy : IsQ y q) (hp : Hq p) (hq : Hq q) (H : Heap) : Ans (cz X Y) F.frac_Frac_Mul [x, y] H fun x K => x = .frac (p * q) ∧ K = H := by
  refine G_body hN (fn := B.frac_Frac_Mul) (sz := 33) rfl rfl rfl rfl rfl ?_
  refine G_run hN (G_v rfl rfl <| G_nil) ?_
  refine G_run hN (G_v rfl rfl <| G_c rfl rfl (frac_Frac_Parts_ans hN hx _) <| G_v rfl rfl <| G_v rfl rfl <| G_v rfl rfl <| G_v rfl rfl <| G_v rfl rfl <| G_v rfl rfl <| G_v rfl rfl <| G_nil) ?_
  refine G_run hN (G_v rfl rfl <| G_c rfl rfl (frac_Frac_Parts_ans hN hy _) <| G_v rfl rfl <| G_v rfl rfl <| G_v rfl rfl <| G_v rfl rfl <| G_v rfl rfl <| G_v rfl rfl <| G_v rfl rfl <| G_nil) ?_
  refine G_run hN (G_v rfl rfl <| G_v rfl rfl <| G_v rfl rfl <| G_v rfl rfl <| G_v rfl rfl <| G_c rfl rfl (nat_Nat_Mul_ans hN _ _ hp.n.sm hq.n.sm _) <| G_v rfl rfl <| G_v rfl rfl <| G_c rfl rfl (nat_Nat_Mul_ans hN _ _ hp.d.sm hq.d.sm _) <| G_c rfl rfl (frac_sure_ans hN _ _ _ (hp.n.mulS hq.n) (hp.d.mulS hq.d) (Nat.mul_pos p.den_pos q.den_pos) _) <| G_v rfl rfl <| G_nil) ?_
  refine G_ret (G_end rfl ⟨?_, rfl⟩)
  show AV.frac (mkRat (sg (decide (p.num < 0) != decide (q.num < 0)) (p.num.natAbs * q.num.natAbs)) (p.den * q.den)) = _
  rw [sg_mul, sg_num, sg_num, Rat.mul_def']
end Go.Eng
end
section
namespace Go.Eng
open Go Go.RowKit Go.Proofs
set_option maxHeartbeats 4000000
set_option maxRecDepth 10000
variable {X : ExtF} {Y : LiesF}
theorem frac_New_zero (hN : CxOk (cz X Y)) (neg : Bool) (a : Nat) (H : Heap) : Ans (cz X Y) F.frac_New [.bool neg, .num a, .num 0] H fun x K => x = .tuple [.nilp, .bool false] ∧ K = H := by
  refine G_body hN (fn := B.frac_New) (sz := 45) rfl rfl rfl rfl rfl ?_
  refine G_run hN (G_v rfl rfl <| G_v rfl rfl <| G_nil) ?_
  refine G_seq ?_
  have hz := frac_zero_ans hN 0 (Nat.zero_le _) H
  refine G_run hN (G_v rfl rfl <| G_c rfl rfl hz <| G_nil) ?_
  refine G_if1 rfl ?_
  refine G_run hN (G_v rfl rfl <| G_v rfl rfl <| G_nil) ?_
  exact G_ret (G_end rfl ⟨rfl, rfl⟩)
theorem rat_nd (q : Rat) : q = (q.num : Rat) / (q.den : Rat) := by rw [← Rat.mkRat_eq_div, Rat.mkRat_self]
theorem sg_abs {z : Int} {n : Bool} (h : decide (z < 0) = n) : z = sg n z.natAbs := by
  subst h
  unfold sg
  by_cases h : z < 0
  · rw [decide_eq_true h]; simp only [cond_true]; omega
  · rw [decide_eq_false h]; simp only [cond_false]; omega
theorem div_mk (p q : Rat) (hq : q ≠ 0) : mkRat (sg (decide (p.num < 0) != decide (q.num < 0)) (p.num.natAbs * q.den)) (p.den * q.num.natAbs) = p / q := by
  rw [sg_mul, sg_num, Rat.mkRat_eq_div]
  have hp0 : (p.den : Rat) ≠ 0 := by exact_mod_cast p.den_nz
  have hq0 : (q.den : Rat) ≠ 0 := by exact_mod_cast q.den_nz
  have hn0 : q.num ≠ 0 := fun h => hq (Rat.num_eq_zero.1 h)
  have hP := rat_nd p
  have hQ := rat_nd q
  generalize hm : decide (q.num < 0) = m
  have hs := sg_abs hm
  have ha0 : (q.num.natAbs : Rat) ≠ 0 := by
    have : q.num.natAbs ≠ 0 := by omega
    exact_mod_cast this
  have e1 : ((p.num * sg m q.den : Int) : Rat) = (p.num : Rat) * ((sg m q.den : Int) : Rat) := by exact_mod_cast rfl
  have e2 : ((p.den * q.num.natAbs : Nat) : Rat) = (p.den : Rat) * (q.num.natAbs : Rat) := by exact_mod_cast rfl
  rw [e1, e2]
  conv => rhs; rw [hP, hQ]
  generalize (p.num : Rat) = P at *
  generalize (p.den : Rat) = D at *
  cases m with
  | false =>
    have e3 : ((sg false q.den : Int) : Rat) = (q.den : Rat) := by simp [sg, Rat.intCast_natCast]
    have e4 : (q.num : Rat) = (q.num.natAbs : Rat) := by
      conv => lhs; rw [hs]
      simp [sg, Rat.intCast_natCast]
    rw [e3, e4]
    generalize (q.den : Rat) = E at *
    generalize (q.num.natAbs : Rat) = A at *
    grind
  | true =>
    have e3 : ((sg true q.den : Int) : Rat) = -(q.den : Rat) := by simp [sg, Rat.intCast_natCast]
    have e4 : (q.num : Rat) = -(q.num.natAbs : Rat) := by
      conv => lhs; rw [hs]
      simp [sg, Rat.intCast_natCast]
    rw [e3, e4]
    generalize (q.den : Rat) = E at *
    generalize (q.num.natAbs : Rat) = A at *
    have : -A ≠ 0 := by grind
    grind
theorem frac_Frac_Div_ans (hN : CxOk (cz X Y)) {x y : AV} {p q : Rat} (hx : IsQ x p) (hy : IsQ y q) (hp : Hq p) (hq : Hq q) (H : Heap) : Ans (cz X Y) F.frac_Frac_Div [x, y] H fun x K => x = (if q = 0 then .tuple [.nilp, .bool false] else .tuple [.frac (p / q), .bool true]) ∧ K = H := by
  refine G_body hN (fn := B.frac_Frac_Div) (sz := 36) rfl rfl rfl rfl rfl ?_
  refine G_run hN (G_v rfl rfl <| G_v rfl rfl <| G_nil) ?_
  refine G_run hN (G_v rfl rfl <| G_c rfl rfl (frac_Frac_Parts_ans hN hx _) <| G_v rfl rfl <| G_v rfl rfl <| G_v rfl rfl <| G_v rfl rfl <| G_v rfl rfl <| G_v rfl rfl <| G_v rfl rfl <| G_nil) ?_
  refine G_run hN (G_v rfl rfl <| G_c rfl rfl (frac_Frac_Parts_ans hN hy _) <| G_v rfl rfl <| G_v rfl rfl <| G_v rfl rfl <| G_v rfl rfl <| G_v rfl rfl <| G_v rfl rfl <| G_v rfl rfl <| G_nil) ?_
  have s1 : Sm (p.num.natAbs * q.den) := hp.n.mulS hq.d
  have s2 : Sm (p.den * q.num.natAbs) := hp.d.mulS hq.n
  by_cases h0 : q = 0
  · have hz : q.num.natAbs = 0 := by rw [h0]; rfl
    have hnew := frac_New_zero (X := X) (Y := Y) hN (decide (p.num < 0) != decide (q.num < 0)) (p.num.natAbs * q.den) H
    have hmul := nat_Nat_Mul_ans hN p.den q.num.natAbs hp.d.sm hq.n.sm H
    have hm0 : p.den * q.num.natAbs = 0 := by rw [hz, Nat.mul_zero]
    rw [hm0] at hmul
    refine G_run hN (G_v rfl rfl <| G_v rfl rfl <| G_v rfl rfl <| G_v rfl rfl <| G_v rfl rfl <| G_c rfl rfl (nat_Nat_Mul_ans hN _ _ hp.n.sm hq.d.sm _) <| G_v rfl rfl <| G_v rfl rfl <| G_c rfl rfl hmul <| G_c rfl rfl hnew <| G_v rfl rfl <| G_v rfl rfl <| G_v rfl rfl <| G_v rfl rfl <| G_nil) ?_
    exact G_ret (G_end rfl ⟨by rw [if_pos h0]; rfl, rfl⟩)
  · have hz : 0 < q.num.natAbs := by
      have : q.num ≠ 0 := fun h => h0 (Rat.num_eq_zero.1 h)
      omega
    refine G_run hN (G_v rfl rfl <| G_v rfl rfl <| G_v rfl rfl <| G_v rfl rfl <| G_v rfl rfl <| G_c rfl rfl (nat_Nat_Mul_ans hN _ _ hp.n.sm hq.d.sm _) <| G_v rfl rfl <| G_v rfl rfl <| G_c rfl rfl (nat_Nat_Mul_ans hN _ _ hp.d.sm hq.n.sm _) <| G_c rfl rfl (frac_New_ans hN _ _ _ s1 s2 (Nat.mul_pos p.den_pos hz) _) <| G_v rfl rfl <| G_v rfl rfl <| G_v rfl rfl <| G_v rfl rfl <| G_nil) ?_
    refine G_ret (G_end rfl ⟨?_, rfl⟩)
    rw [if_neg h0, ← div_mk p q h0]
    rfl
/-- The sign. -/
def sgnR (q : Rat) : Int := if q < 0 then -1 else if q = 0 then 0 else 1
theorem num_neg {q : Rat} : q.num < 0 ↔ q < 0 := by
  have := @Rat.num_nonneg q
  constructor
  · intro h
    exact Rat.not_le.1 fun h2 => by have := this.2 h2; omega
  · intro h
    refine Int.not_le.1 fun h2 => ?_
    exact absurd h (Rat.not_lt.2 (this.1 h2))
theorem frac_Frac_Sign_ans (hN : CxOk (cz X Y)) {x : AV} {q : Rat} (hx : IsQ x q) (hq : Sm q.num.natAbs) (H : Heap) : Ans (cz X Y) F.frac_Frac_Sign [x] H fun x K => x = .int .i64 (sgnR q) ∧ K = H := by
  have hz := frac_zero_ans hN q.num.natAbs hq H
  have hpt := frac_Frac_Parts_ans hN hx H
  unfold parts at hpt
  refine G_body hN (fn := B.frac_Frac_Sign) (sz := 17) rfl rfl rfl rfl rfl ?_
  refine G_run hN (G_v rfl rfl <| G_nil) ?_
  by_cases h : q.num < 0
  · rw [decide_eq_true h] at hpt
    refine G_run hN (G_v rfl rfl <| G_c rfl rfl hpt <| G_v rfl rfl <| G_v rfl rfl <| G_v rfl rfl <| G_v rfl rfl <| G_v rfl rfl <| G_v rfl rfl <| G_v rfl rfl <| G_nil) ?_
    refine G_seq ?_
    refine G_block ?_ -- 0
    refine G_run hN (G_v rfl rfl <| G_v rfl rfl <| G_nil) ?_
    refine G_if1 rfl ?_
    refine G_run hN (G_v rfl rfl <| G_nil) ?_
    exact G_ret (G_end rfl ⟨by rw [sgnR, if_pos (num_neg.1 h)]; rfl, rfl⟩)
  · have h1 : ¬ q < 0 := fun h2 => h (num_neg.2 h2)
    rw [decide_eq_false h] at hpt
    refine G_run hN (G_v rfl rfl <| G_c rfl rfl hpt <| G_v rfl rfl <| G_v rfl rfl <| G_v rfl rfl <| G_v rfl rfl <| G_v rfl rfl <| G_v rfl rfl <| G_v rfl rfl <| G_nil) ?_
    refine G_seq ?_
    refine G_block ?_ -- 0
    refine G_run hN (G_v rfl rfl <| G_v rfl rfl <| G_nil) ?_
    refine G_if0 rfl ?_
    by_cases h0 : q = 0
    · have h2 : q.num.natAbs = 0 := by rw [h0]; rfl
      rw [decide_eq_true h2] at hz
      refine G_run hN (G_v rfl rfl <| G_c rfl rfl hz <| G_v rfl rfl <| G_nil) ?_
      refine G_if1 rfl ?_
      refine G_run hN (G_v rfl rfl <| G_nil) ?_
      exact G_ret (G_end rfl ⟨by rw [sgnR, if_neg h1, if_pos h0]; rfl, rfl⟩)
    · have h2 : ¬ q.num.natAbs = 0 := fun h3 => h0 (Rat.num_eq_zero.1 (by omega))
      rw [decide_eq_false h2] at hz
      refine G_run hN (G_v rfl rfl <| G_c rfl rfl hz <| G_v rfl rfl <| G_nil) ?_
      refine G_if0 rfl (G_skip (G_popb (G_pop ?_)))
      refine G_run hN (G_v rfl rfl <| G_nil) ?_
      exact G_ret (G_end rfl ⟨by rw [sgnR, if_neg h1, if_neg h0]; rfl, rfl⟩)
theorem mk_le (z : Int) (d : Nat) (hd : 0 < d) : (mkRat z d).num.natAbs ≤ z.natAbs ∧ (mkRat z d).den ≤ d := by
  have h := mk_parts (decide (z < 0)) z.natAbs d hd
  rw [← sg_abs rfl] at h
  rw [h.1, h.2.1]
  exact ⟨Nat.div_le_self _ _, Nat.div_le_self _ _⟩
theorem add_le (p q : Rat) : (p + q).num.natAbs ≤ p.num.natAbs * q.den + q.num.natAbs * p.den ∧ (p + q).den ≤ p.den * q.den := by
  rw [Rat.add_def']
  have h := mk_le (p.num * q.den + q.num * p.den) (p.den * q.den) (Nat.mul_pos p.den_pos q.den_pos)
  refine ⟨Nat.le_trans h.1 (Nat.le_trans (Int.natAbs_add_le _ _) ?_), h.2⟩
  rw [Int.natAbs_mul, Int.natAbs_mul, Int.natAbs_natCast, Int.natAbs_natCast]
  exact Nat.le_refl _
theorem sub_sm {p q : Rat} (hp : Hq p) (hq : Hq q) : Sm (p - q).num.natAbs := by
  rw [Rat.sub_eq_add_neg]
  exact (sum_sm hp (neg_Hq hq)).le (add_le p (-q)).1
def cmpR (p q : Rat) : Int := if p < q then -1 else if p = q then 0 else 1
theorem sgn_sub (p q : Rat) : sgnR (p - q) = cmpR p q := by
  unfold sgnR cmpR
  have h1 : p - q < 0 ↔ p < q := by grind
  have h2 : p - q = 0 ↔ p = q := by grind
  simp only [h1, h2]
theorem frac_Frac_Cmp_ans (hN : CxOk (cz X Y)) {x y : AV} {p q : Rat} (hx : IsQ x p) (hy : IsQ y q) (hp : Hq p) (hq : Hq q) (H : Heap) : Ans (cz X Y) F.frac_Frac_Cmp [x, y] H fun x K => x = .int .i64 (cmpR p q) ∧ K = H := by
  refine G_body hN (fn := B.frac_Frac_Cmp) (sz := 9) rfl rfl rfl rfl rfl ?_
  refine G_run hN (G_v rfl rfl <| G_nil) ?_
  refine G_run hN (G_v rfl rfl <| G_v rfl rfl <| G_c rfl rfl (frac_Frac_Sub_ans hN hx hy hp hq _) <| G_c rfl rfl (frac_Frac_Sign_ans hN (.frac _) (sub_sm hp hq) _) <| G_v rfl rfl <| G_nil) ?_
  exact G_ret (G_end rfl ⟨by rw [← sgn_sub]; rfl, rfl⟩)
theorem frac_Frac_Whole_ans (hN : CxOk (cz X Y)) {x : AV} {q : Rat} (hx : IsQ x q) (hq : Sm q.den) (H : Heap) : Ans (cz X Y) F.frac_Frac_Whole [x] H fun x K => x = .bool (q.den == 1) ∧ K = H := by
  refine G_body hN (fn := B.frac_Frac_Whole) (sz := 16) rfl rfl rfl rfl rfl ?_
  refine G_run hN (G_v rfl rfl <| G_nil) ?_
  refine G_run hN (G_v rfl rfl <| G_c rfl rfl (frac_Frac_Parts_ans hN hx _) <| G_v rfl rfl <| G_v rfl rfl <| G_v rfl rfl <| G_v rfl rfl <| G_v rfl rfl <| G_v rfl rfl <| G_v rfl rfl <| G_nil) ?_
  have h1 := q.den_pos
  refine G_run hN (G_v rfl rfl <| G_c rfl rfl (nat_Of_ans hN 1 (by decide) _) <| G_c rfl rfl (nat_Nat_Cmp_ans hN q.den 1 hq (hq.le h1) _) <| G_v rfl (g_bool (b := (q.den == 1)) rfl ?_) <| G_v rfl rfl <| G_nil) ?_
  · rw [Bool.eq_iff_iff]
    simp only [beq_iff_eq]
    rw [if_neg (by omega)]
    split <;> simp <;> omega
  · exact G_ret (G_end rfl ⟨rfl, rfl⟩)
theorem frac_Frac_Floor_ans (hN : CxOk (cz X Y)) {x : AV} {q : Rat} (hx : IsQ x q) (hq : Hq q) (H : Heap) : Ans (cz X Y) F.frac_Frac_Floor [x] H fun x K => x = .frac (q.floor : Int) ∧ K = H := by
  have hd0 := q.den_pos
  have hpt := frac_Frac_Parts_ans hN hx H
  unfold parts at hpt
  have hfl : q.floor = sg (decide (q.num < 0)) (if q.num < 0 ∧ q.num.natAbs % q.den ≠ 0 then q.num.natAbs / q.den + 1 else q.num.natAbs / q.den) := by
    have : q.floor = q.num / q.den := by
      unfold Rat.floor
      split
      · rename_i h; rw [h]; simp
      · rfl
    rw [this]
    by_cases hn : q.num < 0
    · rw [decide_eq_true hn]
      have e : q.num = -(q.num.natAbs : Int) := by omega
      generalize q.num.natAbs = a at *
      rw [e]
      simp only [sg, cond_true]
      by_cases hm : a % q.den ≠ 0
      · rw [if_pos ⟨by omega, hm⟩]
        generalize q.den = d at *
        have h1 := Nat.div_add_mod a d
        have h2 := Nat.mod_lt a hd0
        generalize a / d = x at *
        generalize a % d = r at *
        subst h1
        refine (Int.ediv_eq_iff_of_pos (by omega)).2 ?_
        constructor
        · grind
        · grind
      · rw [if_neg (fun h => hm h.2)]
        have hdv : q.den ∣ a := Nat.dvd_of_mod_eq_zero (by omega)
        rw [Int.neg_ediv_of_dvd (Int.natCast_dvd_natCast.2 hdv), ← Int.natCast_ediv]
    · rw [decide_eq_false hn, if_neg (fun h => hn h.1)]
      have e : q.num = (q.num.natAbs : Int) := by omega
      conv => lhs; rw [e]
      rw [← Int.natCast_ediv]; rfl
  have h1s : Sm 1 := hq.d.sm.le hd0
  have hm1 : ∀ z : Int, mkRat z 1 = (z : Rat) := fun z => by rw [Rat.mkRat_eq_div]; simp; grind
  rw [hfl]
  refine G_body hN (fn := B.frac_Frac_Floor) (sz := 35) rfl rfl rfl rfl rfl ?_
  refine G_run hN (G_v rfl rfl <| G_nil) ?_
  have sq : Sm (q.num.natAbs / q.den) := hq.n.sm.le (Nat.div_le_self _ _)
  have sr : Sm (q.num.natAbs % q.den) := hq.n.sm.le (Nat.mod_le _ _)
  have sq1 : Sm (q.num.natAbs / q.den + 1) := by
    have h := digs_add_len (q.num.natAbs / q.den) 1 274877906944 (hq.n.le (Nat.div_le_self _ _)) (hq.d.le hd0)
    unfold Sm; omega
  by_cases hn : q.num < 0
  · rw [decide_eq_true hn] at hpt ⊢
    refine G_run hN (G_v rfl rfl <| G_c rfl rfl hpt <| G_v rfl rfl <| G_v rfl rfl <| G_v rfl rfl <| G_v rfl rfl <| G_v rfl rfl <| G_v rfl rfl <| G_v rfl rfl <| G_nil) ?_
    refine G_run hN (G_v rfl rfl <| G_v rfl rfl <| G_c rfl rfl (nat_Nat_Div_ans hN _ _ hq.n.sm hq.d.sm hd0 _) <| G_v rfl rfl <| G_v rfl rfl <| G_v rfl rfl <| G_v rfl rfl <| G_v rfl rfl <| G_v rfl rfl <| G_v rfl rfl <| G_nil) ?_
    refine G_seq ?_
    have hz := frac_zero_ans hN _ sr H
    by_cases hm : q.num.natAbs % q.den = 0
    · rw [if_neg (fun h => h.2 hm)]
      rw [decide_eq_true hm] at hz
      refine G_run hN (G_v rfl rfl <| G_v rfl rfl <| G_g rfl rfl <| G_v rfl rfl <| G_g rfl rfl <| G_c rfl rfl hz <| G_g rfl rfl <| G_v rfl rfl <| G_v rfl rfl <| G_nil) ?_
      refine G_if0 rfl (G_skip (G_pop ?_))
      refine G_run hN (G_v rfl rfl <| G_v rfl rfl <| G_c rfl rfl (nat_Of_ans hN 1 (by decide) _) <| G_c rfl rfl (frac_sure_ans hN _ _ _ sq h1s (by decide) _) <| G_v rfl rfl <| G_nil) ?_
      exact G_ret (G_end rfl ⟨by rw [hm1]; rfl, rfl⟩)
    · rw [if_pos ⟨hn, hm⟩]
      rw [decide_eq_false hm] at hz
      refine G_run hN (G_v rfl rfl <| G_v rfl rfl <| G_g rfl rfl <| G_v rfl rfl <| G_g rfl rfl <| G_c rfl rfl hz <| G_g rfl rfl <| G_v rfl rfl <| G_v rfl rfl <| G_nil) ?_
      refine G_if1 rfl ?_
      refine G_run1 hN (G_v rfl rfl <| G_c rfl rfl (nat_Of_ans hN 1 (by decide) _) <| G_c rfl rfl (nat_Nat_Add_ans hN _ _ sq h1s _) <| G_v rfl rfl <| G_nil) ?_
      refine G_pop ?_
      refine G_run hN (G_v rfl rfl <| G_v rfl rfl <| G_c rfl rfl (nat_Of_ans hN 1 (by decide) _) <| G_c rfl rfl (frac_sure_ans hN _ _ _ sq1 h1s (by decide) _) <| G_v rfl rfl <| G_nil) ?_
      exact G_ret (G_end rfl ⟨by rw [hm1]; rfl, rfl⟩)
  · rw [decide_eq_false hn] at hpt ⊢
    rw [if_neg (fun h => hn h.1)]
    refine G_run hN (G_v rfl rfl <| G_c rfl rfl hpt <| G_v rfl rfl <| G_v rfl rfl <| G_v rfl rfl <| G_v rfl rfl <| G_v rfl rfl <| G_v rfl rfl <| G_v rfl rfl <| G_nil) ?_
    refine G_run hN (G_v rfl rfl <| G_v rfl rfl <| G_c rfl rfl (nat_Nat_Div_ans hN _ _ hq.n.sm hq.d.sm hd0 _) <| G_v rfl rfl <| G_v rfl rfl <| G_v rfl rfl <| G_v rfl rfl <| G_v rfl rfl <| G_v rfl rfl <| G_v rfl rfl <| G_nil) ?_
    refine G_seq ?_
    refine G_run hN (G_v rfl rfl <| G_v rfl rfl <| G_n rfl rfl rfl rfl <| G_n rfl rfl rfl rfl <| G_n rfl rfl rfl rfl <| G_v rfl rfl <| G_nil) ?_
    refine G_if0 rfl (G_skip (G_pop ?_))
    refine G_run hN (G_v rfl rfl <| G_v rfl rfl <| G_c rfl rfl (nat_Of_ans hN 1 (by decide) _) <| G_c rfl rfl (frac_sure_ans hN _ _ _ sq h1s (by decide) _) <| G_v rfl rfl <| G_nil) ?_
    exact G_ret (G_end rfl ⟨by rw [hm1]; rfl, rfl⟩)
theorem bits_Abs_ans (hN : CxOk (cz X Y)) (n : Int) (h1 : -9223372036854775808 ≤ n) (h2 : n < 9223372036854775808) (H : Heap) : Ans (cz X Y) F.bits_Abs [.int .i64 n] H fun x K => x = .int .u64 (n.natAbs : Nat) ∧ K = H := by
  refine G_body hN (fn := B.bits_Abs) (sz := 10) rfl rfl rfl rfl rfl ?_
  refine G_run hN (G_v rfl rfl <| G_nil) ?_
  refine G_seq ?_
  by_cases h : n < 0
  · refine G_run hN (G_v rfl rfl <| G_v rfl (g_bool (b := true) rfl (decide_eq_true h)) <| G_nil) ?_
    refine G_if1 rfl ?_
    refine G_run hN (G_v rfl rfl <| G_v rfl rfl <| G_v rfl (g_int (b := ((n.natAbs : Nat) : Int)) rfl ?_) <| G_v rfl rfl <| G_nil) ?_
    · simp only [IntKind.wrap, IntKind.bits, IntKind.signed]
      simp
      omega
    · exact G_ret (G_end rfl ⟨rfl, rfl⟩)
  · refine G_run hN (G_v rfl rfl <| G_v rfl (g_bool (b := false) rfl (decide_eq_false h)) <| G_nil) ?_
    refine G_if0 rfl (G_skip (G_pop ?_))
    refine G_run hN (G_v rfl rfl <| G_v rfl (g_int (b := ((n.natAbs : Nat) : Int)) rfl (w64 (by omega) (by omega))) <| G_v rfl rfl <| G_nil) ?_
    exact G_ret (G_end rfl ⟨rfl, rfl⟩)
theorem frac_Of_ans (hN : CxOk (cz X Y)) (n : Int) (h1 : -9223372036854775808 ≤ n) (h2 : n < 9223372036854775808) (H : Heap) : Ans (cz X Y) F.frac_Of [.int .i64 n] H fun x K => x = .frac (n : Rat) ∧ K = H := by
  refine Ans_free gl0_free (Imp.frac' (n : Rat)) rfl ?_ H
  rw [frac_tree (q := (n : Rat)) (n := decide (n < 0)) (a := n.natAbs) (b := 1) (by rfl) rfl (by rfl)]
  refine G_body hN (fn := B.frac_Of) (sz := 11) rfl rfl rfl rfl rfl ?_
  refine G_run hN (G_v rfl rfl <| G_nil) ?_
  refine G_run hN (G_v rfl rfl <| G_v rfl rfl <| G_v rfl rfl <| G_c rfl rfl (bits_Abs_ans hN n h1 h2 _) <| G_c rfl rfl (nat_Of_ans hN n.natAbs (by simp only [BB]; omega) _) <| G_c rfl rfl (nat_Of_ans hN 1 (by decide) _) <| G_v rfl rfl <| G_v rfl rfl <| G_v rfl rfl <| G_nil) ?_
  exact G_ret (G_end rfl (.ptr rfl (.cons (.bool _) (.cons (.num _) (.cons (.num _) .nil)))))
end Go.Eng
end
