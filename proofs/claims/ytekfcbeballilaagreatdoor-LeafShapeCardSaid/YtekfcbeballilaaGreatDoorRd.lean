import Derived.Test.YtekfcbeballilaaGreatDoorRc
section
namespace Go.Eng.R
open Go Go.RowKit Go.Proofs
set_option maxHeartbeats 8000000
set_option maxRecDepth 10000
variable {X : ExtF} {Y : LiesF}
/-- What GetN answers. -/
def refN (s : List UInt8) : AV := bif numOk s then .tuple [nT (dval s), .bool true] else .tuple [.nilsl, .bool false]
theorem refN_bad {s : List UInt8} (h : ¬ numOk s = true) : refN s = .tuple [.nilsl, .bool false] := by
  unfold refN
  cases hk : numOk s with
  | false => rfl
  | true => exact absurd hk h
theorem ref1_GetN_ans (hN : CxOk (cz X Y)) (s : List UInt8) (H : Heap) : Ans (cz X Y) F.ref1_GetN [.str s] H fun x K => x = refN s ∧ K = H := by
  refine Ans_free gl0_free (Imp.refl (refN s)) rfl ?_ H
  have fin : ¬ numOk s = true → ∀ H, Frz H (wrapR [.nilsl, .bool false]) (refN s) := fun h H => by rw [refN_bad h]; exact ⟨10, rfl⟩
  refine G_body hN (fn := B.ref1_GetN) (sz := 65) rfl rfl rfl rfl rfl ?_
  refine G_run hN (G_v rfl rfl <| G_v rfl rfl <| G_nil) ?_
  refine G_mid (α := Unit) (fun _ => s ≠ [] ∧ s.length ≤ 2000 ∧ ¬ (1 < s.length ∧ s[0]? = some 48)) (fun _ => [(0, .str s)]) (fun _ => H0) ?_ ?_
  · by_cases h1 : s = []
    · subst h1
      refine G_run hN (G_v rfl rfl <| G_v rfl rfl <| G_v rfl rfl <| G_n rfl rfl rfl rfl <| G_n rfl rfl rfl rfl <| G_n rfl rfl rfl rfl <| G_v rfl rfl <| G_v rfl rfl <| G_n rfl rfl rfl rfl <| G_n rfl rfl rfl rfl <| G_n rfl rfl rfl rfl <| G_n rfl rfl rfl rfl <| G_n' rfl rfl rfl <| G_n' rfl rfl rfl <| G_n' rfl rfl rfl <| G_n rfl rfl rfl rfl <| G_v rfl rfl <| G_nil) ?_
      refine G_if1 rfl ?_
      refine G_run hN (G_v rfl rfl <| G_v rfl rfl <| G_nil) ?_
      exact G_ret (MP_ret (G_end rfl (fin (fun h => (numOk_iff.1 h).1 rfl) _)))
    · have e1 : (s == []) = false := by simpa using h1
      by_cases h2 : 2000 < s.length
      · refine G_run hN (G_v rfl rfl <| G_v rfl (g_bool (b := false) rfl e1) <| G_v rfl rfl <| G_g rfl rfl <| G_v rfl rfl <| G_g rfl rfl <| G_v rfl rfl <| G_g rfl rfl <| G_v rfl (g_bool (b := true) rfl (decide_eq_true (by omega))) <| G_v rfl rfl <| G_v rfl rfl <| G_n rfl rfl rfl rfl <| G_n rfl rfl rfl rfl <| G_n rfl rfl rfl rfl <| G_n rfl rfl rfl rfl <| G_n' rfl rfl rfl <| G_n' rfl rfl rfl <| G_n' rfl rfl rfl <| G_n rfl rfl rfl rfl <| G_v rfl rfl <| G_nil) ?_
        refine G_if1 rfl ?_
        refine G_run hN (G_v rfl rfl <| G_v rfl rfl <| G_nil) ?_
        exact G_ret (MP_ret (G_end rfl (fin (fun h => by have := (numOk_iff.1 h).2.1; omega) _)))
      · obtain ⟨c, l, rfl⟩ := List.exists_cons_of_ne_nil h1
        by_cases h4 : c = 48
        · by_cases h3 : 1 < (c :: l).length
          · refine G_run hN (G_v rfl rfl <| G_v rfl (g_bool (b := false) rfl e1) <| G_v rfl rfl <| G_g rfl rfl <| G_v rfl rfl <| G_g rfl rfl <| G_v rfl rfl <| G_g rfl rfl <| G_v rfl (g_bool (b := false) rfl (decide_eq_false (by omega))) <| G_v rfl rfl <| G_v rfl rfl <| G_g rfl rfl <| G_v rfl rfl <| G_g rfl rfl <| G_v rfl (g_sidx (c := c) 0 rfl rfl rfl rfl rfl) <| G_g rfl rfl <| G_v rfl (g_bool (b := true) rfl (by rw [h4]; rfl)) <| G_g rfl rfl <| G_v rfl rfl <| G_g rfl rfl <| G_v rfl rfl <| G_g rfl rfl <| G_v rfl rfl <| G_g rfl rfl <| G_v rfl (g_bool (b := true) rfl (decide_eq_true (by omega))) <| G_g rfl rfl <| G_v rfl rfl <| G_v rfl rfl <| G_nil) ?_
            refine G_if1 rfl ?_
            refine G_run hN (G_v rfl rfl <| G_v rfl rfl <| G_nil) ?_
            exact G_ret (MP_ret (G_end rfl (fin (fun h => (numOk_iff.1 h).2.2.1 ⟨h3, by rw [h4]; rfl⟩) _)))
          · refine G_run hN (G_v rfl rfl <| G_v rfl (g_bool (b := false) rfl e1) <| G_v rfl rfl <| G_g rfl rfl <| G_v rfl rfl <| G_g rfl rfl <| G_v rfl rfl <| G_g rfl rfl <| G_v rfl (g_bool (b := false) rfl (decide_eq_false (by omega))) <| G_v rfl rfl <| G_v rfl rfl <| G_g rfl rfl <| G_v rfl rfl <| G_g rfl rfl <| G_v rfl (g_sidx (c := c) 0 rfl rfl rfl rfl rfl) <| G_g rfl rfl <| G_v rfl (g_bool (b := true) rfl (by rw [h4]; rfl)) <| G_g rfl rfl <| G_v rfl rfl <| G_g rfl rfl <| G_v rfl rfl <| G_g rfl rfl <| G_v rfl rfl <| G_g rfl rfl <| G_v rfl (g_bool (b := false) rfl (decide_eq_false (by omega))) <| G_g rfl rfl <| G_v rfl rfl <| G_v rfl rfl <| G_nil) ?_
            refine G_if0 rfl (G_skip ?_)
            exact G_done () ⟨h1, by omega, fun h => h3 h.1⟩ (M1 rfl M0) (Heap.Sub.refl _)
        · have h48 : ¬ (c.toNat : Int) = 48 := fun h => h4 (by
            have : c.toNat = 48 := by omega
            exact UInt8.toNat_inj.1 this)
          refine G_run hN (G_v rfl rfl <| G_v rfl (g_bool (b := false) rfl e1) <| G_v rfl rfl <| G_g rfl rfl <| G_v rfl rfl <| G_g rfl rfl <| G_v rfl rfl <| G_g rfl rfl <| G_v rfl (g_bool (b := false) rfl (decide_eq_false (by omega))) <| G_v rfl rfl <| G_v rfl rfl <| G_g rfl rfl <| G_v rfl rfl <| G_g rfl rfl <| G_v rfl (g_sidx (c := c) 0 rfl rfl rfl rfl rfl) <| G_g rfl rfl <| G_v rfl (g_bool (b := false) rfl (beq_eq_false_iff_ne.2 h48)) <| G_g rfl rfl <| G_v rfl rfl <| G_n rfl rfl rfl rfl <| G_n rfl rfl rfl rfl <| G_n rfl rfl rfl rfl <| G_g rfl rfl <| G_v rfl rfl <| G_v rfl rfl <| G_nil) ?_
          refine G_if0 rfl (G_skip ?_)
          exact G_done () ⟨h1, by omega, fun h => h4 (by simpa using h.2)⟩ (M1 rfl M0) (Heap.Sub.refl _)
  · rintro ⟨⟩ ⟨k1, k2, k3⟩
    refine G_run hN (G_v rfl rfl <| G_nil) ?_
    refine G_run hN (G_v rfl rfl <| G_v rfl rfl <| G_nil) ?_
    have hl0 : 0 < s.length := by
      cases s with
      | nil => exact absurd rfl k1
      | cons c l => simp
    refine G_mid (α := List Nat × Nat × Nat) (fun x => Dg x.1 ∧ val x.1 = dval s ∧ (∀ b ∈ s, isDg b.toNat = true) ∧ x.1.length ≤ 2001 ∧ x.1 ≠ []) (fun x => [(4, tv x.1 x.2.1)]) (fun x => hv x.1 x.2.1 x.2.2) ?_ ?_
    · refine G_run hN (G_v rfl rfl <| G_v rfl rfl <| G_v rfl (g_int (b := (s.length : Int) - 1) rfl (wi64 rfl (by omega) (by omega))) <| G_v rfl rfl <| G_nil) ?_
      refine G_block ?_
      refine G_loop (α := Nat × List Nat × Nat × Nat × Nat × Nat) (fun x => x.2.2.2.2.1 < x.2.2.2.2.2 ∧ x.2.1.length ≤ 2001 ∧ ((0 < x.1 ∧ GI s x.1 x.2.1 x.2.2.1 x.2.2.2.1) ∨ (x.1 = 0 ∧ Dg x.2.1 ∧ val x.2.1 = dval s ∧ (∀ b ∈ s, isDg b.toNat = true) ∧ x.2.1 ≠ []))) (fun x => x.1)
        (fun x => [(0, .str s), (4, tv x.2.1 x.2.2.2.2.1), (5, .int .i64 (10 ^ x.2.2.2.1 : Nat)), (6, .int .i64 (x.2.2.1 : Nat)), (7, .int .i64 ((x.1 : Nat) - 1 : Int))]) (fun x => hv x.2.1 x.2.2.2.2.1 x.2.2.2.2.2)
        (s.length, [], 0, 0, 0, 1) ⟨Nat.zero_lt_one, Nat.zero_le _, .inl ⟨hl0, ⟨Nat.le_refl _, by simp, Dg.nil, by simp, by simp, by simp, by simp [dval, val]⟩⟩⟩ (M1 rfl <| M1 rfl <| M1 rfl <| M1 rfl <| M1 rfl M0) (Heap.Sub.of (l := []) (Nat.zero_le _) trivial) fun ⟨k, R, g, e, q, p⟩ ⟨i1, i2, i3⟩ => ?_
      simp only at i1 i2 i3
      refine G_seq ?_
      rcases i3 with ⟨hk, hG⟩ | ⟨rfl, d1, d2, d3, d5⟩
      · have hle := hG.le
        have hlen := hG.len
        have he4 := hG.e4
        have hglt := hG.lt
        have hp10 : 10 ^ e ≤ 1000 := by
          have : 10 ^ e ≤ 10 ^ 3 := Nat.pow_le_pow_right (by decide) (by omega)
          exact this
        have hc : s[k - 1]? = some s[k - 1] := List.getElem?_eq_getElem (by omega)
        have hmem : s[k - 1] ∈ s := List.getElem_mem _
        generalize s[k - 1] = c at *
        refine G_run hN (G_v rfl rfl <| G_v rfl (g_bool (b := true) rfl (decide_eq_true (by omega))) <| G_nil) ?_
        refine G_if1 rfl (G_skip (G_pop ?_))
        refine G_seq ?_
        refine G_block ?_
        refine G_seq ?_
        by_cases hd : isDg c.toNat = true
        · have hdd := hd
          simp only [isDg, Bool.and_eq_true, Nat.ble_eq] at hdd
          refine G_run hN (G_v rfl rfl <| G_v rfl rfl <| G_v rfl (g_sidx (c := c) (k - 1) rfl rfl rfl (by omega) hc) <| G_v rfl (g_bool (b := false) rfl (decide_eq_false (by omega))) <| G_v rfl rfl <| G_g rfl rfl <| G_v rfl rfl <| G_g rfl rfl <| G_v rfl rfl <| G_g rfl rfl <| G_v rfl (g_sidx (c := c) (k - 1) rfl rfl rfl (by omega) hc) <| G_g rfl rfl <| G_v rfl (g_bool (b := false) rfl (decide_eq_false (by omega))) <| G_v rfl rfl <| G_nil) ?_
          refine G_if0 rfl (G_skip (G_pop ?_))
          generalize hx : c.toNat - 48 = x at *
          have hx9 : x ≤ 9 := by omega
          have hxe : x * 10 ^ e ≤ 9 * 10 ^ e := Nat.mul_le_mul_right _ hx9
          refine G_run hN (G_v rfl rfl <| G_v rfl rfl <| G_v rfl rfl <| G_v rfl (g_sidx (c := c) (k - 1) rfl rfl rfl (by omega) hc) <| G_v rfl (g_int (b := ((x : Nat) : Int)) rfl (wi8 (by show (c.toNat : Int) - 48 = _; omega) (by omega))) <| G_v rfl (g_conv (n' := (x : Int)) rfl rfl rfl (wi64 rfl (by omega) (by omega))) <| G_v rfl rfl <| G_v rfl (g_int (b := ((x * 10 ^ e : Nat) : Int)) rfl (wi64 (Int.natCast_mul _ _).symm (by omega) (by omega))) <| G_v rfl (g_int (b := ((g + x * 10 ^ e : Nat) : Int)) rfl (wi64 (Int.natCast_add _ _).symm (by omega) (by omega))) <| G_v rfl rfl <| G_nil) ?_
          have hpe : 10 ^ (e + 1) = 10 ^ e * 10 := Nat.pow_succ ..
          refine G_run hN (G_v rfl rfl <| G_v rfl (g_int (b := ((10 ^ (e + 1) : Nat) : Int)) rfl (wi64 (by rw [hpe]; exact (Int.natCast_mul _ _).symm) (by omega) (by omega))) <| G_v rfl rfl <| G_nil) ?_
          have he3 : 10 ^ (e + 1) = 10000 ↔ e = 3 := by
            constructor
            · intro h
              have : e < 4 := he4
              match e, this with
              | 0, _ => simp at h
              | 1, _ => simp at h
              | 2, _ => simp at h
              | 3, _ => rfl
            · rintro rfl; rfl
          by_cases hfull : e = 3 ∨ k = 1
          · -- a group is laid behind
            have hI : (0 < k - 1 ∧ GI s (k - 1) (R ++ [g + x * 10 ^ e]) 0 0) ∨ (k - 1 = 0 ∧ Dg (R ++ [g + x * 10 ^ e]) ∧ val (R ++ [g + x * 10 ^ e]) = dval s ∧ (∀ b ∈ s, isDg b.toNat = true) ∧ R ++ [g + x * 10 ^ e] ≠ []) := by
              rcases Nat.lt_or_ge 1 k with h1 | h1
              · obtain rfl : e = 3 := by omega
                refine .inl ⟨by omega, ?_⟩
                rw [← hx]
                exact hG.full hk hc hd
              · obtain rfl : k = 1 := by omega
                have := hG.last (by simpa using hc) hd
                rw [hx] at this
                exact .inr ⟨rfl, this.1, this.2.1, this.2.2, by simp⟩
            have hrl : R.length ≤ 500 := by omega
            by_cases he : e = 3
            · refine G_run hN (G_v rfl rfl <| G_v rfl (g_bool (b := true) rfl (beq_iff_eq.2 (by rw [he3.2 he]; rfl))) <| G_v rfl rfl <| G_n rfl rfl rfl rfl <| G_n rfl rfl rfl rfl <| G_v rfl rfl <| G_nil) ?_
              refine G_if1 rfl ?_
              refine G_weak [(0, .str s), (4, tv R q), (5, .int .i64 (10 ^ (e + 1) : Nat)), (6, .int .i64 (g + x * 10 ^ e : Nat)), (7, .int .i64 ((k : Nat) - 1 : Int))] (M1 rfl <| M1 rfl <| M1 rfl <| M1 rfl <| M1 rfl M0) ?_
              obtain ⟨H', h1, h2⟩ := app2 (X := X) (Y := Y) (t := 45) (u := 45) (a := .tmp 59) (b := .tmp 61) (R := R) (q := q) (p := p) (g := g + x * 10 ^ e) (m := [(61, .slice p 0 1 1 true 1), (60, .int .i64 (g + x * 10 ^ e : Nat)), (59, tv R q), (0, .str s), (4, tv R q), (5, .int .i64 (10 ^ (e + 1) : Nat)), (6, .int .i64 (g + x * 10 ^ e : Nat)), (7, .int .i64 ((k : Nat) - 1 : Int))]) i1 (by omega) rfl rfl rfl rfl rfl rfl rfl rfl rfl
              have hnxp : (hv R q p).nx = p := by cases R <;> rfl
              refine G_run1 hN (G_v rfl rfl <| G_v rfl rfl <| G_v rfl (g_to (y := .slice p 0 1 1 true 1) rfl (by rw [hnxp]; rfl)) <| G_v rfl h1 <| G_v rfl rfl <| G_v rfl rfl <| G_v rfl rfl <| G_nil) ?_
              refine G_popb (G_pop ?_)
              refine G_run1 hN (G_v rfl rfl <| G_v rfl (g_int (b := ((k - 1 : Nat) : Int) - 1) rfl (wi64 (by omega) (by omega) (by omega))) <| G_v rfl rfl <| G_nil) ?_
              exact G_again (k - 1, R ++ [g + x * 10 ^ e], 0, 0, p + 1, p + 2) ⟨by simp only; omega, by simp; omega, hI⟩ (by simp only; omega) (M1 rfl <| M1 rfl <| M1 rfl <| M1 rfl <| M1 rfl M0) h2
            · have hk1 : k = 1 := by omega
              refine G_run hN (G_v rfl rfl <| G_v rfl (g_bool (b := false) rfl (beq_eq_false_iff_ne.2 (fun h => he (he3.1 (Int.ofNat.inj (show Int.ofNat (10 ^ (e + 1)) = Int.ofNat 10000 from h)))))) <| G_v rfl rfl <| G_g rfl rfl <| G_v rfl rfl <| G_g rfl rfl <| G_v rfl (g_bool (b := true) rfl (beq_iff_eq.2 (by omega))) <| G_v rfl rfl <| G_nil) ?_
              refine G_if1 rfl ?_
              refine G_weak [(0, .str s), (4, tv R q), (5, .int .i64 (10 ^ (e + 1) : Nat)), (6, .int .i64 (g + x * 10 ^ e : Nat)), (7, .int .i64 ((k : Nat) - 1 : Int))] (M1 rfl <| M1 rfl <| M1 rfl <| M1 rfl <| M1 rfl M0) ?_
              obtain ⟨H', h1, h2⟩ := app2 (X := X) (Y := Y) (t := 45) (u := 45) (a := .tmp 59) (b := .tmp 61) (R := R) (q := q) (p := p) (g := g + x * 10 ^ e) (m := [(61, .slice p 0 1 1 true 1), (60, .int .i64 (g + x * 10 ^ e : Nat)), (59, tv R q), (0, .str s), (4, tv R q), (5, .int .i64 (10 ^ (e + 1) : Nat)), (6, .int .i64 (g + x * 10 ^ e : Nat)), (7, .int .i64 ((k : Nat) - 1 : Int))]) i1 (by omega) rfl rfl rfl rfl rfl rfl rfl rfl rfl
              have hnxp : (hv R q p).nx = p := by cases R <;> rfl
              refine G_run1 hN (G_v rfl rfl <| G_v rfl rfl <| G_v rfl (g_to (y := .slice p 0 1 1 true 1) rfl (by rw [hnxp]; rfl)) <| G_v rfl h1 <| G_v rfl rfl <| G_v rfl rfl <| G_v rfl rfl <| G_nil) ?_
              refine G_popb (G_pop ?_)
              refine G_run1 hN (G_v rfl rfl <| G_v rfl (g_int (b := ((k - 1 : Nat) : Int) - 1) rfl (wi64 (by omega) (by omega) (by omega))) <| G_v rfl rfl <| G_nil) ?_
              exact G_again (k - 1, R ++ [g + x * 10 ^ e], 0, 0, p + 1, p + 2) ⟨by simp only; omega, by simp; omega, hI⟩ (by simp only; omega) (M1 rfl <| M1 rfl <| M1 rfl <| M1 rfl <| M1 rfl M0) h2
          · have he : ¬ e = 3 := fun h => hfull (.inl h)
            have hk1 : ¬ k = 1 := fun h => hfull (.inr h)
            refine G_run hN (G_v rfl rfl <| G_v rfl (g_bool (b := false) rfl (beq_eq_false_iff_ne.2 (fun h => he (he3.1 (Int.ofNat.inj (show Int.ofNat (10 ^ (e + 1)) = Int.ofNat 10000 from h)))))) <| G_v rfl rfl <| G_g rfl rfl <| G_v rfl rfl <| G_g rfl rfl <| G_v rfl (g_bool (b := false) rfl (beq_eq_false_iff_ne.2 (by omega))) <| G_v rfl rfl <| G_nil) ?_
            refine G_if0 rfl (G_skip (G_popb (G_pop ?_)))
            refine G_weak [(0, .str s), (4, tv R q), (5, .int .i64 (10 ^ (e + 1) : Nat)), (6, .int .i64 (g + x * 10 ^ e : Nat)), (7, .int .i64 ((k : Nat) - 1 : Int))] (M1 rfl <| M1 rfl <| M1 rfl <| M1 rfl <| M1 rfl M0) ?_
            refine G_run1 hN (G_v rfl rfl <| G_v rfl (g_int (b := ((k - 1 : Nat) : Int) - 1) rfl (wi64 (by omega) (by omega) (by omega))) <| G_v rfl rfl <| G_nil) ?_
            exact G_again (k - 1, R, g + x * 10 ^ e, e + 1, q, p) ⟨i1, i2, .inl ⟨by simp only; omega, by rw [← hx]; exact hG.more hk hc hd (by omega)⟩⟩ (by simp only; omega) (M1 rfl <| M1 rfl <| M1 rfl <| M1 rfl <| M1 rfl M0) (Heap.Sub.refl _)
        · have hbad : ¬ numOk s = true := fun h => hd ((numOk_iff.1 h).2.2.2 c hmem)
          simp only [isDg, Bool.and_eq_true, Nat.ble_eq] at hd
          by_cases h48 : c.toNat < 48
          · refine G_run hN (G_v rfl rfl <| G_v rfl rfl <| G_v rfl (g_sidx (c := c) (k - 1) rfl rfl rfl (by omega) hc) <| G_v rfl (g_bool (b := true) rfl (decide_eq_true (by omega))) <| G_v rfl rfl <| G_n rfl rfl rfl rfl <| G_n rfl rfl rfl rfl <| G_n rfl rfl rfl rfl <| G_n rfl rfl rfl rfl <| G_v rfl rfl <| G_nil) ?_
            refine G_if1 rfl ?_
            refine G_run hN (G_v rfl rfl <| G_v rfl rfl <| G_nil) ?_
            exact G_ret (LP_ret (MP_ret (G_end rfl (fin hbad _))))
          · refine G_run hN (G_v rfl rfl <| G_v rfl rfl <| G_v rfl (g_sidx (c := c) (k - 1) rfl rfl rfl (by omega) hc) <| G_v rfl (g_bool (b := false) rfl (decide_eq_false (by omega))) <| G_v rfl rfl <| G_g rfl rfl <| G_v rfl rfl <| G_g rfl rfl <| G_v rfl rfl <| G_g rfl rfl <| G_v rfl (g_sidx (c := c) (k - 1) rfl rfl rfl (by omega) hc) <| G_g rfl rfl <| G_v rfl (g_bool (b := true) rfl (decide_eq_true (by omega))) <| G_v rfl rfl <| G_nil) ?_
            refine G_if1 rfl ?_
            refine G_run hN (G_v rfl rfl <| G_v rfl rfl <| G_nil) ?_
            exact G_ret (LP_ret (MP_ret (G_end rfl (fin hbad _))))
      · refine G_run hN (G_v rfl rfl <| G_v rfl (g_bool (b := false) rfl rfl) <| G_nil) ?_
        refine G_if0 rfl ?_
        exact G_exit (G_pops (G_leave (G_popx (G_done (R, q, p) ⟨d1, d2, d3, i2, d5⟩ (M1 rfl M0) (Heap.Sub.refl _)))))
    · rintro ⟨R, q, p⟩ ⟨d1, d2, d3, d4, d5⟩
      simp only at d1 d2 d3 d4 d5
      cases R with
      | nil => exact absurd rfl d5
      | cons x R =>
        have hg : (hv (x :: R) q p).t.get q = some (.cells ((x :: R).map i64c)) := T.get_set_same _ _ _
        have htr := ref1_trim_pre hN (L := x :: R) (l := x :: R) d1 (by rw [List.take_length]) (id := q) (n := R.length + 1) (cap := R.length + 1) (ex := false) (H := hv (x :: R) q p) hg rfl (Nat.le_refl _) (by simp only [List.length_cons] at d4 ⊢; omega)
        rw [d2] at htr
        have hok : numOk s = true := numOk_iff.2 ⟨k1, k2, k3, d3⟩
        obtain ⟨q1, q2, _⟩ := digs_len_le d1
        rw [d2] at q1 q2
        refine G_run hN (G_v rfl rfl <| G_c rfl rfl htr <| G_v rfl rfl <| G_v rfl rfl <| G_nil) ?_
        refine G_ret (G_end rfl ?_)
        rw [refN, hok]
        refine .tuple (.cons (.slice (cs := (x :: R).map i64c) (l := (digs (dval s)).map i64c) hg ?_ (frzs_c _ _)) (.cons (.bool _) .nil))
        conv => rhs; rw [q2]
        simp only [seg, List.drop_zero, Nat.mul_one]
        rw [List.length_take, List.length_map, Nat.min_eq_left q1, List.map_take]
        have : Nat.beq (digs (dval s)).length (digs (dval s)).length = true := by simp
        rw [this]; rfl
end Go.Eng.R
end
section
namespace Go.Eng
set_option maxHeartbeats 4000000
theorem ptext_dval : ∀ s : List UInt8, (∀ b ∈ s, isDg b.toNat = true) → ptext s.length (dval s) = s
  | [], _ => rfl
  | b :: l, h => by
    have hb := h b (by simp)
    simp only [isDg, Bool.and_eq_true, Nat.ble_eq] at hb
    have hl : ∀ c ∈ l, isDg c.toNat = true := fun c hc => h c (by simp [hc])
    have hlt := dval_lt hl
    have hv := R.dval_cons b l
    have ih := ptext_dval l hl
    have hP : 0 < 10 ^ l.length := Nat.pow_pos (by decide)
    have e1 : dval (b :: l) / 10 ^ l.length = b.toNat - 48 := by
      rw [hv, Nat.mul_comm, Nat.mul_add_div hP, Nat.div_eq_of_lt hlt, Nat.add_zero]
    have e2 : ptext l.length (dval (b :: l)) = ptext l.length (dval l) := ptext_mod _ _ _ (by rw [hv, Nat.mul_comm, Nat.mul_add_mod])
    rw [List.length_cons, ptext, e1, e2, ih]
    congr 1
    apply UInt8.toNat_inj.1
    rw [UInt8.toNat_ofNat']
    omega
theorem ntext_dval {s : List UInt8} (h : numOk s = true) : ntext (dval s) = s := by
  obtain ⟨h1, h2, h3, h4⟩ := numOk_iff.1 h
  have hp := ptext_dval s h4
  have hn : ndig (dval s) = s.length := by
    match s, h1, h3, h4 with
    | [b], _, _, h4 =>
      have := dval_lt h4
      exact ndig_eq (d := 0) (n := dval [b]) |> fun f => by
        have hlt : dval [b] < 10 := by simpa using this
        unfold ndig
        generalize dval [b] = n at *
        cases n with
        | zero => rfl
        | succ n => rw [ndigF, if_pos hlt]; rfl
    | b :: c :: l, _, h3, h4 =>
      have hlt := dval_lt h4
      have hb := h4 b (by simp)
      simp only [isDg, Bool.and_eq_true, Nat.ble_eq] at hb
      have hne : b.toNat ≠ 48 := fun e => h3 ⟨by simp, by
        have : b = 48 := UInt8.toNat_inj.1 e
        rw [this]; rfl⟩
      have hv := R.dval_cons b (c :: l)
      have hge : 10 ^ (c :: l).length ≤ dval (b :: c :: l) := by
        rw [hv]
        exact Nat.le_trans (Nat.le_mul_of_pos_left _ (by omega)) (Nat.le_add_right _ _)
      exact ndig_eq hge hlt
  rw [ntext, hn]
  exact hp
end Go.Eng
end
