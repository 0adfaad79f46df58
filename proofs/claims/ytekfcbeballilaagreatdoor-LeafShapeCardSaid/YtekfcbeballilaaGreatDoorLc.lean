import Derived.Test.YtekfcbeballilaaGreatDoorLb
section
namespace Go.Eng
set_option maxHeartbeats 4000000
theorem ptext_dg : ∀ (k n : Nat), ∀ b ∈ ptext k n, isDg b.toNat = true
  | 0, _, b, h => by simp [ptext] at h
  | k + 1, n, b, h => by
    rw [ptext, List.mem_cons] at h
    rcases h with rfl | h
    · rw [UInt8.toNat_ofNat']
      simp only [isDg, Bool.and_eq_true, Nat.ble_eq]
      omega
    · exact ptext_dg k n b h
theorem dval_ptext : ∀ (k n : Nat), dval (ptext k n) = n % 10 ^ k
  | 0, n => by simp [ptext, dval, Nat.mod_one]
  | k + 1, n => by
    have this : (UInt8.ofNat (48 + n / 10 ^ k % 10)).toNat - 48 = n / 10 ^ k % 10 := by
      rw [UInt8.toNat_ofNat']; omega
    rw [ptext, R.dval_cons, dval_ptext k n, ptext_len, this, Nat.mod_pow_succ (x := n) (b := 10) (k := k), Nat.mul_comm]; omega
theorem dval_ntext (n : Nat) : dval (ntext n) = n := by
  rw [ntext, dval_ptext, Nat.mod_eq_of_lt (ndig_lt n)]
theorem ntext_dg (n : Nat) : ∀ b ∈ ntext n, isDg b.toNat = true := ptext_dg _ n
theorem ntext_ne (n : Nat) : ntext n ≠ [] := by
  intro h
  have := ntext_len n
  rw [h] at this
  rcases Nat.eq_zero_or_pos n with rfl | h0
  · cases h
  · have := (ndig_spec h0).2.2
    simp at *
    omega
theorem ntext_one {n : Nat} : (ntext n == [49]) = decide (n = 1) := by
  rw [Bool.eq_iff_iff]
  simp only [beq_iff_eq, decide_eq_true_eq]
  constructor
  · intro h
    have := dval_ntext n
    rw [h] at this
    exact this.symm
  · rintro rfl; rfl
theorem ntext_head {n : Nat} (h : 1 < (ntext n).length) : (ntext n)[0]? ≠ some 48 := by
  intro hh
  have hl := ntext_len n
  have h0 : 0 < n := by
    rcases Nat.eq_zero_or_pos n with rfl | h0
    · exact absurd h (by decide)
    · exact h0
  obtain ⟨s1, s2, s3⟩ := ndig_spec h0
  obtain ⟨k, hk⟩ : ∃ k, ndig n = k + 1 := ⟨ndig n - 1, by omega⟩
  rw [ntext, hk, ptext] at hh
  simp only [List.getElem?_cons_zero, Option.some.injEq] at hh
  have h3 := congrArg UInt8.toNat hh
  rw [UInt8.toNat_ofNat'] at h3
  have h4 : (48 : UInt8).toNat = 48 := rfl
  rw [h4] at h3
  rw [hk] at s1 s2
  rw [Nat.add_sub_cancel] at s1
  rw [Nat.pow_succ] at s2
  have h5 : 1 ≤ n / 10 ^ k := (Nat.le_div_iff_mul_le (Nat.pow_pos (by decide))).2 (by omega)
  have h6 : n / 10 ^ k < 10 := Nat.div_lt_of_lt_mul s2
  omega
theorem numOk_ntext {n : Nat} (h : n < 10 ^ 2000) : numOk (ntext n) = true :=
  numOk_iff.2 ⟨ntext_ne n, by rw [ntext_len]; exact ndig_le h (by decide), fun h2 => ntext_head h2.1 h2.2, ntext_dg n⟩
theorem dg_ne {b : UInt8} (h : isDg b.toNat = true) : b ≠ 45 ∧ b ≠ 47 := by
  simp only [isDg, Bool.and_eq_true, Nat.ble_eq] at h
  constructor
  · rintro rfl; have : (45 : UInt8).toNat = 45 := rfl; omega
  · rintro rfl; have : (47 : UInt8).toNat = 47 := rfl; omega
theorem cutAt_none {c : UInt8} : ∀ {s : List UInt8}, (∀ b ∈ s, b ≠ c) → cutAt c s = (s, [], false)
  | [], _ => rfl
  | b :: l, h => by
    have hb : (b == c) = false := by simpa using h b (by simp)
    rw [cutAt, hb, cutAt_none fun x hx => h x (by simp [hx])]
    rfl
theorem cutAt_some {c : UInt8} (r : List UInt8) : ∀ {s : List UInt8}, (∀ b ∈ s, b ≠ c) → cutAt c (s ++ c :: r) = (s, r, true)
  | [], _ => by simp [cutAt]
  | b :: l, h => by
    have hb : (b == c) = false := by simpa using h b (by simp)
    rw [List.cons_append, cutAt, hb, cutAt_some r fun x hx => h x (by simp [hx])]
    rfl
/-- What the text of a sign and two numbers is. -/
def ptx (neg : Bool) (n d : Nat) : List UInt8 :=
  let a := bif neg then 45 :: ntext n else ntext n
  bif ntext d == [49] then a else a ++ 47 :: ntext d
theorem ftext_ptx (q : Rat) : ftext q = ptx (decide (q.num < 0)) q.num.natAbs q.den := rfl
theorem ptx_cut (neg : Bool) (n d : Nat) : negOf (ptx neg n d) = neg ∧ numOf (ptx neg n d) = ntext n ∧ denOf (ptx neg n d) = ntext d := by
  have hn : ∀ b ∈ ntext n, b ≠ 47 := fun b hb => (dg_ne (ntext_dg n b hb)).2
  have h45 : ∀ l, [45].isPrefixOf (ntext n ++ l) = false := fun l => by
    obtain ⟨b, s, hs⟩ := List.exists_cons_of_ne_nil (ntext_ne n)
    have := (dg_ne (ntext_dg n b (by rw [hs]; simp))).1
    rw [hs]
    simp only [List.cons_append, List.isPrefixOf]
    have : ((45 : UInt8) == b) = false := by simpa using fun h => this h.symm
    rw [this]; rfl
  have key : ∀ l, ntext d == [49] ∧ l = [] ∨ (ntext d == [49]) = false ∧ l = 47 :: ntext d → cutAt 47 (ntext n ++ l) = (ntext n, (if ntext d == [49] then [] else ntext d), !(ntext d == [49])) := by
    rintro l (⟨h, rfl⟩ | ⟨h, rfl⟩)
    · rw [List.append_nil, cutAt_none hn, h]; rfl
    · rw [cutAt_some _ hn, h]; rfl
  have main : ∀ l, (ntext d == [49]) = true ∧ l = [] ∨ (ntext d == [49]) = false ∧ l = 47 :: ntext d → negOf (bif neg then 45 :: (ntext n ++ l) else ntext n ++ l) = neg ∧ numOf (bif neg then 45 :: (ntext n ++ l) else ntext n ++ l) = ntext n ∧ denOf (bif neg then 45 :: (ntext n ++ l) else ntext n ++ l) = ntext d := by
    intro l hl
    have hk := key l hl
    have ha : negOf (bif neg then 45 :: (ntext n ++ l) else ntext n ++ l) = neg ∧ absOf (bif neg then 45 :: (ntext n ++ l) else ntext n ++ l) = ntext n ++ l := by
      cases neg with
      | true => exact ⟨rfl, rfl⟩
      | false =>
        have : negOf (ntext n ++ l) = false := h45 l
        exact ⟨this, by simp only [cond_false, absOf, this]⟩
    refine ⟨ha.1, ?_, ?_⟩
    · rw [numOf, ha.2, hk]
    · rw [denOf, ha.2, hk]
      cases h : ntext d == [49] with
      | true => exact (eq_of_beq h).symm
      | false => rfl
  unfold ptx
  cases h : ntext d == [49] with
  | true => have := main [] (.inl ⟨h, rfl⟩); rw [List.append_nil] at this; cases neg <;> exact this
  | false => have := main (47 :: ntext d) (.inr ⟨h, rfl⟩); cases neg <;> exact this
theorem ratOf_ftext (q : Rat) : ratOf (ftext q) = q := by
  obtain ⟨h1, h2, h3⟩ := ptx_cut (decide (q.num < 0)) q.num.natAbs q.den
  rw [ftext_ptx, ratOf, h1, h2, h3, dval_ntext, dval_ntext, sg_num, Rat.mkRat_self]
/-- What is written is read. -/
theorem fget_ftext {q : Rat} (hn : q.num.natAbs < 10 ^ 2000) (hd : q.den < 10 ^ 2000) : fget (ftext q) = some q := by
  obtain ⟨h1, h2, h3⟩ := ptx_cut (decide (q.num < 0)) q.num.natAbs q.den
  rw [← ftext_ptx] at h1 h2 h3
  have hp : partsOk (ftext q) = true := by
    have : Nat.beq q.den 0 = false := by
      cases h : Nat.beq q.den 0 with
      | false => rfl
      | true => exact absurd (Nat.eq_of_beq_eq_true h) q.den_nz
    rw [partsOk, h2, h3, numOk_ntext hn, numOk_ntext hd, dval_ntext, this]; rfl
  rw [fget, ratOf_ftext, hp]
  simp
end Go.Eng
end
section
namespace Go.Eng
open Go Go.RowKit Go.Proofs
open Go.Eng.R (nT qT refN St i64c)
set_option maxHeartbeats 8000000
set_option maxRecDepth 10000
theorem cutAt_spec (c : UInt8) : ∀ t : List UInt8, (∀ b ∈ (cutAt c t).1, b ≠ c) ∧ t = (cutAt c t).1 ++ (if (cutAt c t).2.2 then c :: (cutAt c t).2.1 else [])
  | [] => ⟨fun b h => by simp [cutAt] at h, rfl⟩
  | b :: l => by
    obtain ⟨h1, h2⟩ := cutAt_spec c l
    unfold cutAt
    cases hb : b == c with
    | true =>
      have := eq_of_beq hb
      subst this
      exact ⟨fun x hx => by simp at hx, by simp⟩
    | false =>
      have hbc : b ≠ c := by simpa using hb
      simp only [Bool.false_eq_true, if_false]
      refine ⟨fun x hx => ?_, ?_⟩
      · rcases List.mem_cons.1 hx with rfl | hx
        · exact hbc
        · exact h1 x hx
      · rw [List.cons_append]
        conv => lhs; rw [h2]
def hasSl (s : List UInt8) : Bool := (cutAt 47 (absOf s)).2.2
theorem ptx_flag (neg : Bool) (n : Nat) : hasSl (ptx neg n 1) = false := by
  have hn : ∀ b ∈ ntext n, b ≠ 47 := fun b hb => (dg_ne (ntext_dg n b hb)).2
  have h1 : ptx neg n 1 = bif neg then 45 :: ntext n else ntext n := rfl
  have ha : absOf (ptx neg n 1) = ntext n := by
    rw [h1]
    cases neg with
    | true => rfl
    | false =>
      have := (ptx_cut false n 1).1
      rw [h1] at this
      simp only [cond_false] at this ⊢
      rw [absOf, this]; rfl
  rw [hasSl, ha, cutAt_none hn]
theorem s_join (s : List UInt8) : s = (bif negOf s then 45 :: absOf s else absOf s) := by
  unfold absOf
  cases h : negOf s with
  | false => rfl
  | true =>
    unfold negOf at h
    cases s with
    | nil => cases h
    | cons b l =>
      simp only [List.isPrefixOf, Bool.and_true] at h
      rw [← eq_of_beq h]; rfl
theorem ntext_one_of {t : List UInt8} (h : ntext (dval t) = t) : (t == [49]) = decide (dval t = 1) := by
  conv => lhs; rw [← h]
  exact ntext_one
/-- Whether a text is that of a fraction. -/
def getOk (s : List UInt8) : Bool := partsOk s && !(negOf s && decide (dval (numOf s) = 0)) && (Nat.gcd (dval (numOf s)) (dval (denOf s)) == 1) && !(hasSl s && decide (dval (denOf s) = 1))
theorem get_law (s : List UInt8) : (getOk s = false → fget s = none) ∧ (getOk s = true → ∃ q, fget s = some q ∧ decide (q.num < 0) = negOf s ∧ q.num.natAbs = dval (numOf s) ∧ q.den = dval (denOf s)) := by
  cases hp : partsOk s with
  | false =>
    have h1 : fget s = none := by rw [fget, hp]; rfl
    have h2 : getOk s = false := by rw [getOk, hp]; rfl
    exact ⟨fun _ => h1, fun h => by rw [h2] at h; cases h⟩
  | true =>
    have hp' := hp
    simp only [partsOk, Bool.and_eq_true, Bool.not_eq_true'] at hp'
    obtain ⟨⟨o1, o2⟩, o3⟩ := hp'
    have hd0 : 0 < dval (denOf s) := by
      rcases Nat.eq_zero_or_pos (dval (denOf s)) with h | h
      · rw [h] at o3; cases o3
      · exact h
    have en := ntext_dval o1
    have ed := ntext_dval o2
    obtain ⟨m1, m2, m3⟩ := mk_parts (negOf s) (dval (numOf s)) (dval (denOf s)) hd0
    have hr : ratOf s = mkRat (sg (negOf s) (dval (numOf s))) (dval (denOf s)) := rfl
    rw [← hr] at m1 m2 m3
    cases hg : getOk s with
    | true =>
      simp only [getOk, hp, Bool.true_and, Bool.and_eq_true, Bool.not_eq_true', Bool.and_eq_false_iff, decide_eq_false_iff_not, beq_iff_eq] at hg
      obtain ⟨⟨g1, g2⟩, g3⟩ := hg
      rw [g2, Nat.div_one] at m1 m2
      have m4 : decide ((ratOf s).num < 0) = negOf s := by
        rw [m3]
        rcases g1 with h | h
        · rw [h]; rfl
        · rw [decide_eq_true h, Bool.and_true]
      have ht : ftext (ratOf s) = s := by
        rw [ftext_ptx, m1, m2, m4, ptx, en, ed, ntext_one_of ed]
        conv => rhs; rw [s_join s]
        obtain ⟨_, c2⟩ := cutAt_spec 47 (absOf s)
        have hnum : numOf s = (cutAt 47 (absOf s)).1 := rfl
        cases hf : hasSl s with
        | true =>
          have hd1 : dval (denOf s) ≠ 1 := by
            rcases g3 with h | h
            · rw [hf] at h; cases h
            · exact h
          have hden : denOf s = (cutAt 47 (absOf s)).2.1 := by
            have : (cutAt 47 (absOf s)).2.2 = true := hf
            rw [denOf, this]; rfl
          have hf' : (cutAt 47 (absOf s)).2.2 = true := hf
          rw [hf', if_pos rfl, ← hnum, ← hden] at c2
          rw [decide_eq_false hd1]
          cases negOf s
          · exact c2.symm
          · show 45 :: numOf s ++ 47 :: denOf s = 45 :: absOf s
            rw [List.cons_append, ← c2]
        | false =>
          have hf' : (cutAt 47 (absOf s)).2.2 = false := hf
          have hden : denOf s = [49] := by rw [denOf, hf']; rfl
          rw [hf', if_neg (by decide), List.append_nil, ← hnum] at c2
          rw [decide_eq_true (by rw [hden]; rfl)]
          cases negOf s
          · exact c2.symm
          · show 45 :: numOf s = 45 :: absOf s
            rw [← c2]
      refine ⟨fun h => (by cases h), fun _ => ⟨ratOf s, ?_, m4, m1, m2⟩⟩
      rw [fget, hp, ht]; simp
    | false =>
      refine ⟨fun _ => ?_, fun h => (by cases h)⟩
      have hne : ftext (ratOf s) ≠ s := by
        intro ht
        have hc := ptx_cut (decide ((ratOf s).num < 0)) (ratOf s).num.natAbs (ratOf s).den
        rw [← ftext_ptx, ht] at hc
        obtain ⟨c1, c2, c3⟩ := hc
        have e1 : dval (numOf s) = (ratOf s).num.natAbs := by rw [c2, dval_ntext]
        have e2 : dval (denOf s) = (ratOf s).den := by rw [c3, dval_ntext]
        have hgc : Nat.gcd (dval (numOf s)) (dval (denOf s)) = 1 := by rw [e1, e2]; exact (ratOf s).reduced
        have hng : (negOf s && decide (dval (numOf s) = 0)) = false := by
          cases hn : negOf s with
          | false => rfl
          | true =>
            rw [hn] at c1
            have := of_decide_eq_true c1.symm
            rw [e1, decide_eq_false (by omega)]; rfl
        have hsl : (hasSl s && decide (dval (denOf s) = 1)) = false := by
          by_cases h : dval (denOf s) = 1
          · rw [e2] at h
            have : s = ptx (decide ((ratOf s).num < 0)) (ratOf s).num.natAbs 1 := by rw [← h, ← ftext_ptx, ht]
            have h2 : hasSl s = false := by
              rw [this]; exact ptx_flag _ _
            rw [h2]; rfl
          · rw [decide_eq_false h, Bool.and_false]
        rw [getOk, hp, hng, hgc, hsl] at hg
        cases hg
      have h9 : (ftext (ratOf s) == s) = false := by simpa using hne
      rw [fget, hp, h9]; rfl
end Go.Eng
end
section
namespace Go.Eng
open Go Go.RowKit Go.Proofs
open Go.Eng.R (nT qT refN St i64c nT_free ref1_GetN_ans ref1_Frac_ans ref1_Gcd_ans ref1_Cmp_ans)
set_option maxHeartbeats 8000000
set_option maxRecDepth 10000
/-- What ref1.Get answers. -/
def refQ (s : List UInt8) : AV := match fget s with
  | some q => .tuple [qT (decide (q.num < 0)) q.num.natAbs q.den, .bool true]
  | none => .tuple [qT false 0 1, .bool false]
theorem St_of {n : Nat} (h : n < 10 ^ 2000) : St n := by
  exact Nat.le_trans (R.len_le_of_lt (k := 501) (Nat.lt_of_lt_of_le h (by decide +kernel))) (by decide)
theorem St_one : St 1 := (by decide +kernel : (R.digs 1).length ≤ 999998)
theorem digs1 {d : Nat} : (R.digs d).length = 1 → ((R.digs d).map i64c)[0]? = some (i64c d) := by
  intro h
  have h0 : 0 < d := by
    rcases Nat.eq_zero_or_pos d with rfl | h0
    · cases h
    · exact h0
  have h2 := R.digs_pos h0
  rw [h2] at h
  have h3 : R.digs (d / R.BB) = [] := List.eq_nil_of_length_eq_zero (by simpa using h)
  have h4 := R.val_digs d
  rw [h2, h3] at h4 ⊢
  simp only [R.val] at h4
  simp only [List.map_cons, List.getElem?_cons_zero]
  rw [show d % R.BB = d by omega]
theorem digs_one_len {d : Nat} (h : d = 1) : (R.digs d).length = 1 := by subst h; rfl
theorem nT_z : nT 0 = .isl [] 0 := rfl
theorem Imp_agg {xs ys : List AV} (h : Imps xs ys) : Imp (.agg xs) (.agg ys) := fun ρ z v hv => by
  cases hv with | agg _ vs h1 => exact .agg _ _ (h.vrs h1)
theorem Imp_tuple {xs ys : List AV} (h : Imps xs ys) : Imp (.tuple xs) (.tuple ys) := fun ρ z v hv => by
  cases hv with | tuple _ vs h1 => exact .tuple _ _ (h.vrs h1)
theorem ref1_Get_ans (s : List UInt8) (hs : Sh s) (H : Heap) : Ans cs0 F.ref1_Get [.str s] H fun x K => x = refQ s ∧ K = H := by
  have hN := cz_ok
  obtain ⟨lawF, lawT⟩ := get_law s
  -- what is handed back where it is none
  have hI : Imp (match fget s with
      | some q => AV.tuple [qT (decide (q.num < 0)) q.num.natAbs q.den, .bool true]
      | none => .tuple [.agg [.bool false, .nilsl, .isl [i64c 1] 1], .bool false]) (refQ s) := by
    unfold refQ
    cases fget s with
    | some q => exact Imp.refl _
    | none => exact Imp_tuple (.cons (Imp_agg (.cons (Imp.refl _) (.cons Imp_isl0 (.cons (Imp.refl _) .nil)))) (.cons (Imp.refl _) .nil))
  refine Ans_free gl0_free hI rfl ?_ H
  have hlen : (absOf s).length ≤ s.length := by
    unfold absOf
    cases negOf s <;> simp
  have hshA : (absOf s).length < 9223372036854775808 := by unfold Sh at hs; omega
  obtain ⟨sp1, sp2⟩ := cutAt_spec 47 (absOf s)
  have hnum : numOf s = (cutAt 47 (absOf s)).1 := rfl
  have hsl : hasSl s = (cutAt 47 (absOf s)).2.2 := rfl
  have hden : hasSl s = true → denOf s = (cutAt 47 (absOf s)).2.1 := fun h => by
    rw [hsl] at h
    rw [denOf, h]; rfl
  have hden1 : hasSl s = false → denOf s = [49] := fun h => by
    rw [hsl] at h
    rw [denOf, h]; rfl
  rw [← hnum] at sp1 sp2
  rw [← hsl] at sp2
  refine G_body hN (fn := B.ref1_Get) (sz := 109) rfl rfl rfl rfl rfl ?_
  refine K_run hN ?_; (repeat (first | refine K_v rfl rfl ?_ | refine K_g rfl rfl ?_ | refine K_n rfl rfl rfl rfl ?_ | refine K_n' rfl rfl rfl ?_ | refine K_s rfl ?_)); refine K_nil ?_
  have sidx : ∀ c l, s = c :: l → negOf s = decide ((c.toNat : Int) = 45) := fun c l h => by
    subst h
    rw [negOf]
    simp only [List.isPrefixOf, Bool.and_true]
    rw [Bool.eq_iff_iff, beq_iff_eq, decide_eq_true_eq]
    constructor
    · rintro rfl; rfl
    · intro h; exact (UInt8.toNat_inj.1 (show c.toNat = (45 : UInt8).toNat by have : (45 : UInt8).toNat = 45 := rfl; omega)).symm
  have habs0 : negOf s = false → absOf s = s := fun h => by rw [absOf, h]; rfl
  have habs1 : negOf s = true → absOf s = s.drop 1 ∧ 1 ≤ s.length := fun h => by
    refine ⟨by rw [absOf, h]; rfl, ?_⟩
    cases s with
    | nil => cases h
    | cons c l => simp
  -- the sign is read, and cut off
  refine G_weakH [(0, .str s), (2, .ptr 0 0)] (He [(0, .cells [.bool false, .nilsl, .nilsl])] 1) (M1 rfl <| M1 rfl M0) (He_sub (Nat.le_refl _) (O1 rfl O0)) ?_
  refine K_draw hN mixed (by rfl) ?_
  refine DRunK.mono (K1 := fun mr => hasM mr [(2, .ptr 0 0), (4, .str s), (5, .bool (negOf s))]) ?_ fun mr hmr => G_weak _ hmr ?_
  · cases hcs : s with
    | nil => (repeat (first | refine KD_q rfl rfl rfl ?_ | refine KD_qg rfl rfl rfl rfl rfl ?_ | refine KD_n rfl rfl rfl rfl ?_ | refine KD_n' rfl rfl rfl ?_)); refine KD_nil ?_; exact M1 rfl <| M1 rfl <| M1 rfl M0
    | cons c l =>
      have e := (sidx c l hcs).symm
      rw [hcs] at e
      cases hb : negOf (c :: l) with
      | true => rw [hb] at e; (repeat (first | refine KD_q rfl rfl (g_bool rfl e) ?_ | refine KD_qg rfl rfl rfl rfl (g_bool rfl e) ?_ | refine KD_q rfl rfl rfl ?_ | refine KD_qg rfl rfl rfl rfl rfl ?_ | refine KD_n rfl rfl rfl rfl ?_ | refine KD_n' rfl rfl rfl ?_)); refine KD_nil ?_; exact M1 rfl <| M1 rfl <| M1 rfl M0
      | false => rw [hb] at e; (repeat (first | refine KD_q rfl rfl (g_bool rfl e) ?_ | refine KD_qg rfl rfl rfl rfl (g_bool rfl e) ?_ | refine KD_q rfl rfl rfl ?_ | refine KD_qg rfl rfl rfl rfl rfl ?_ | refine KD_n rfl rfl rfl rfl ?_ | refine KD_n' rfl rfl rfl ?_)); refine KD_nil ?_; exact M1 rfl <| M1 rfl <| M1 rfl M0
  refine G_mid (α := Unit) (fun _ => True) (fun _ => [(2, .ptr 0 0), (4, .str (absOf s)), (5, .bool (negOf s))]) (fun _ => He [(0, .cells [.bool false, .nilsl, .nilsl])] 1) ?_ ?_
  · cases hb : negOf s with
    | false =>
      refine K_run hN ?_; (repeat (first | refine K_v rfl rfl ?_ | refine K_g rfl rfl ?_ | refine K_n rfl rfl rfl rfl ?_ | refine K_n' rfl rfl rfl ?_ | refine K_s rfl ?_)); refine K_nil ?_
      refine G_if0 rfl (G_skip ?_)
      exact G_done () trivial (M1 rfl <| M2 rfl (by rw [habs0 hb]) <| M2 rfl rfl M0) (Heap.Sub.refl _)
    | true =>
      obtain ⟨ha, hl1⟩ := habs1 hb
      refine K_run hN ?_; (repeat (first | refine K_v rfl rfl ?_ | refine K_g rfl rfl ?_ | refine K_n rfl rfl rfl rfl ?_ | refine K_n' rfl rfl rfl ?_ | refine K_s rfl ?_)); refine K_nil ?_
      refine G_if1 rfl ?_
      refine K_run1 hN ?_; (repeat (first | refine K_v rfl rfl ?_ | refine K_g rfl rfl ?_ | refine K_n rfl rfl rfl rfl ?_ | refine K_n' rfl rfl rfl ?_ | refine K_s rfl ?_))
      refine K_v rfl (g_sfrom 1 rfl rfl rfl rfl hl1) ?_
      (repeat (first | refine K_v rfl rfl ?_ | refine K_g rfl rfl ?_ | refine K_n rfl rfl rfl rfl ?_ | refine K_n' rfl rfl rfl ?_ | refine K_s rfl ?_)); refine K_nil ?_
      exact G_done () trivial (M1 rfl <| M2 rfl (by rw [ha]) <| M2 rfl rfl M0) (Heap.Sub.refl _)
  rintro ⟨⟩ _
  generalize hneg : negOf s = neg at *
  generalize hT : absOf s = t at *
  refine K_run hN ?_; (repeat (first | refine K_v rfl rfl ?_ | refine K_g rfl rfl ?_ | refine K_n rfl rfl rfl rfl ?_ | refine K_n' rfl rfl rfl ?_ | refine K_s rfl ?_)); refine K_nil ?_
  -- to the slash
  have htl : (numOf s).length ≤ t.length := by rw [sp2, List.length_append]; omega
  refine G_mid (α := Unit) (fun _ => True) (fun _ => [(2, .ptr 0 0), (4, .str t), (5, .bool neg), (6, .int .i64 ((numOf s).length : Nat))]) (fun _ => He [(0, .cells [.bool false, .nilsl, .nilsl])] 1) ?_ ?_
  · refine G_block ?_
    refine G_loop (α := Nat) (fun k => k ≤ (numOf s).length) (fun k => (numOf s).length - k) (fun k => [(2, .ptr 0 0), (4, .str t), (5, .bool neg), (6, .int .i64 (k : Nat))]) (fun _ => He [(0, .cells [.bool false, .nilsl, .nilsl])] 1)
      0 (Nat.zero_le _) (M1 rfl <| M1 rfl <| M1 rfl <| M1 rfl M0) (Heap.Sub.refl _) fun k hk => ?_
    refine G_seq ?_
    by_cases hlt : k < (numOf s).length
    · have hc : t[k]? = some (numOf s)[k] := by
        rw [sp2, List.getElem?_append_left hlt, List.getElem?_eq_getElem hlt]
      have hne := sp1 _ (List.getElem_mem hlt)
      generalize (numOf s)[k] = c at *
      have e1 : decide ((k : Int) < (t.length : Nat)) = true := decide_eq_true (by omega)
      have e2 : (!(decide ((c.toNat : Int) = 47))) = true := by
        rw [Bool.not_eq_true', decide_eq_false_iff_not]
        intro h
        exact hne (UInt8.toNat_inj.1 (show c.toNat = (47 : UInt8).toNat by have : (47 : UInt8).toNat = 47 := rfl; omega))
      refine K_run hN ?_; (repeat (first | refine K_b rfl rfl e1 ?_ | refine K_v rfl rfl ?_ | refine K_g rfl rfl ?_ | refine K_n rfl rfl rfl rfl ?_ | refine K_n' rfl rfl rfl ?_ | refine K_s rfl ?_))
      refine K_v rfl (g_sidx k rfl rfl rfl rfl hc) ?_
      (repeat (first | refine K_b rfl rfl e2 ?_ | refine K_v rfl rfl ?_ | refine K_g rfl rfl ?_ | refine K_n rfl rfl rfl rfl ?_ | refine K_n' rfl rfl rfl ?_ | refine K_s rfl ?_)); refine K_nil ?_
      refine G_if1 rfl (G_skip (G_pop ?_))
      refine G_block ?_
      refine K_run1 hN ?_
      refine K_v rfl rfl ?_
      refine K_i rfl rfl (wi64 (b := ((k + 1 : Nat) : Int)) (by omega) (by omega) (by omega)) ?_
      (repeat (first | refine K_v rfl rfl ?_ | refine K_g rfl rfl ?_ | refine K_n rfl rfl rfl rfl ?_ | refine K_n' rfl rfl rfl ?_ | refine K_s rfl ?_)); refine K_nil ?_
      refine G_popb (G_again (k + 1) hlt ?_ (M1 rfl <| M1 rfl <| M1 rfl <| M1 rfl M0) (Heap.Sub.refl _))
      show (numOf s).length - (k + 1) < (numOf s).length - k
      omega
    · obtain rfl : k = (numOf s).length := by omega
      cases hf : hasSl s with
      | false =>
        rw [hf, if_neg (by decide), List.append_nil] at sp2
        have e1 : decide (((numOf s).length : Int) < (t.length : Nat)) = false := decide_eq_false (by rw [sp2]; omega)
        refine K_run hN ?_; (repeat (first | refine K_b rfl rfl e1 ?_ | refine K_v rfl rfl ?_ | refine K_g rfl rfl ?_ | refine K_n rfl rfl rfl rfl ?_ | refine K_n' rfl rfl rfl ?_ | refine K_s rfl ?_)); refine K_nil ?_
        refine G_if0 rfl ?_
        exact G_exit (G_pops (G_leave (G_popx (G_done () trivial (M1 rfl <| M1 rfl <| M1 rfl <| M1 rfl M0) (Heap.Sub.refl _)))))
      | true =>
        rw [hf, if_pos rfl] at sp2
        have hc : t[(numOf s).length]? = some 47 := by rw [sp2]; simp
        have e1 : decide (((numOf s).length : Int) < (t.length : Nat)) = true := decide_eq_true (by have := congrArg List.length sp2; simp only [List.length_append, List.length_cons] at this; omega)
        refine K_run hN ?_; (repeat (first | refine K_b rfl rfl e1 ?_ | refine K_v rfl rfl ?_ | refine K_g rfl rfl ?_ | refine K_n rfl rfl rfl rfl ?_ | refine K_n' rfl rfl rfl ?_ | refine K_s rfl ?_))
        refine K_v rfl (g_sidx (numOf s).length rfl rfl rfl rfl hc) ?_
        (repeat (first | refine K_v rfl rfl ?_ | refine K_g rfl rfl ?_ | refine K_n rfl rfl rfl rfl ?_ | refine K_n' rfl rfl rfl ?_ | refine K_s rfl ?_)); refine K_nil ?_
        refine G_if0 rfl ?_
        exact G_exit (G_pops (G_leave (G_popx (G_done () trivial (M1 rfl <| M1 rfl <| M1 rfl <| M1 rfl M0) (Heap.Sub.refl _)))))
  rintro ⟨⟩ _
  have htake : t.take (numOf s).length = numOf s := by
    conv => lhs; rw [sp2]
    exact List.take_left
  have hGN := ref1_GetN_ans (X := ext0) (Y := lies0) hN (numOf s)
  have htdrop : hasSl s = true → t.drop ((numOf s).length + 1) = denOf s ∧ (numOf s).length + 1 ≤ t.length := fun h => by
    rw [h, if_pos rfl, ← hden h] at sp2
    refine ⟨?_, ?_⟩
    · conv => lhs; rw [sp2]
      rw [show numOf s ++ 47 :: denOf s = (numOf s ++ [47]) ++ denOf s by simp, show (numOf s).length + 1 = (numOf s ++ [47]).length by simp, List.drop_left]
    · have := congrArg List.length sp2
      simp only [List.length_append, List.length_cons] at this
      omega
  have hklt : decide (((numOf s).length : Int) < (t.length : Nat)) = hasSl s := by
    cases hf : hasSl s with
    | true => exact decide_eq_true (by have := (htdrop hf).2; omega)
    | false =>
      rw [hf, if_neg (by decide), List.append_nil] at sp2
      exact decide_eq_false (by rw [sp2]; omega)
  have h11 : nT 1 = .isl [i64c 1] 1 := R.nT_one (by decide) (by decide)
  -- the number above
  obtain ⟨nA, okA, n', hnA, hAA⟩ : ∃ (nA : AV) (okA : Bool) (n' : Nat), refN (numOf s) = .tuple [nA, .bool okA] ∧ Imp nA (nT n') ∧ okA = numOk (numOf s) ∧ (okA = true → n' = dval (numOf s)) := by
    unfold refN
    cases hk : numOk (numOf s) with
    | true => exact ⟨_, _, _, rfl, Imp.refl _, rfl, fun _ => rfl⟩
    | false => exact ⟨.nilsl, false, 0, rfl, by rw [nT_z]; exact Imp_isl0, rfl, fun h => by cases h⟩
  obtain ⟨hAi, hAk, hAn⟩ := hAA
  rw [hnA, ← htake] at hGN
  refine K_run hN ?_; (repeat (first | refine K_v rfl rfl ?_ | refine K_g rfl rfl ?_ | refine K_n rfl rfl rfl rfl ?_ | refine K_n' rfl rfl rfl ?_ | refine K_s rfl ?_))
  refine K_v rfl (g_sto (numOf s).length rfl rfl rfl rfl htl) ?_
  refine K_c rfl rfl (hGN _) ?_
  (repeat (first | refine K_v rfl rfl ?_ | refine K_g rfl rfl ?_ | refine K_n rfl rfl rfl rfl ?_ | refine K_n' rfl rfl rfl ?_ | refine K_s rfl ?_)); refine K_nil ?_
  have hfr : ∀ H, Ans cs0 F.ref1_Frac [.bool neg, nA, .isl [i64c 1] 1] H fun x K => x = qT (neg && decide (0 < n')) n' 1 ∧ K = H := fun H => by
    rw [← h11]
    exact Ans_imp (.cons (Imp.refl _) (.cons hAi (.cons (Imp.refl _) .nil))) (ref1_Frac_ans (X := ext0) (Y := lies0) hN neg n' 1 H)
  refine K_run hN ?_; (repeat (first | refine K_v rfl rfl ?_ | refine K_g rfl rfl ?_ | refine K_n rfl rfl rfl rfl ?_ | refine K_n' rfl rfl rfl ?_ | refine K_s rfl ?_))
  refine K_c rfl rfl (Ans_freeze [1] (.cons .same (.cons .same (.cons (.slice (cs := [i64c 1]) (l := [i64c 1]) (List.Mem.head _) rfl rfl (.cons .same .nil)) .nil))) (hfr _)) ?_
  (repeat (first | refine K_v rfl rfl ?_ | refine K_g rfl rfl ?_ | refine K_n rfl rfl rfl rfl ?_ | refine K_n' rfl rfl rfl ?_ | refine K_s rfl ?_)); refine K_nil ?_
  refine G_weakH [(2, .ptr 0 0), (4, .str t), (5, .bool neg), (6, .int .i64 ((numOf s).length : Nat)), (7, nA), (8, .bool okA), (9, .ptr 2 0)] (He [(0, .cells [.bool false, .nilsl, .nilsl]), (2, .cells [.bool (neg && decide (0 < n')), nT n', nT 1])] 3) (M1 rfl <| M1 rfl <| M1 rfl <| M1 rfl <| M1 rfl <| M1 rfl <| M1 rfl M0) (He_sub (Nat.le_refl _) (O1 rfl <| O1 rfl O0)) ?_
  -- what is read
  refine G_mid (α := Bool) (fun ok => (ok = true → partsOk s = true ∧ n' = dval (numOf s)) ∧ (ok = false → partsOk s = false)) (fun ok => bif ok then [(2, .ptr 0 0), (4, .str t), (5, .bool neg), (6, .int .i64 ((numOf s).length : Nat)), (7, nT n'), (8, .bool true), (9, .ptr 2 0)] else [(2, .ptr 0 0), (8, .bool false)]) (fun ok => bif ok then He [(0, .cells [.bool false, .nilsl, .nilsl]), (2, .cells [.bool (neg && decide (0 < n')), nT n', nT (dval (denOf s))])] 20 else He [(0, .cells [.bool false, .nilsl, .nilsl])] 20) ?_ ?_
  · have hp0 : partsOk s = (numOk (numOf s) && numOk (denOf s) && !Nat.beq (dval (denOf s)) 0) := rfl
    cases hk : numOk (numOf s) with
    | false =>
      rw [hk] at hAk hp0
      subst hAk
      refine K_run hN ?_; (repeat (first | refine K_b rfl rfl hklt ?_ | refine K_v rfl rfl ?_ | refine K_g rfl rfl ?_ | refine K_n rfl rfl rfl rfl ?_ | refine K_n' rfl rfl rfl ?_ | refine K_s rfl ?_)); refine K_nil ?_
      refine G_if0 rfl (G_skip ?_)
      exact G_done false ⟨fun h => (by cases h), fun _ => hp0⟩ (M1 rfl <| M1 rfl M0) (He_sub (show 3 ≤ 20 by decide) (O1 rfl O0))
    | true =>
      rw [hk] at hAk hp0
      subst hAk
      have hn' := hAn rfl
      have hnAT : nA = nT n' := by
        unfold refN at hnA
        rw [hk] at hnA
        rw [hn']
        simp only [cond_true, AV.tuple.injEq, List.cons.injEq] at hnA
        exact hnA.1.symm
      subst hnAT
      cases hf : hasSl s with
      | false =>
        rw [hf] at hklt
        have hd := hden1 hf
        refine K_run hN ?_; (repeat (first | refine K_b rfl rfl hklt ?_ | refine K_v rfl rfl ?_ | refine K_g rfl rfl ?_ | refine K_n rfl rfl rfl rfl ?_ | refine K_n' rfl rfl rfl ?_ | refine K_s rfl ?_)); refine K_nil ?_
        refine G_if0 rfl (G_skip ?_)
        exact G_done true ⟨fun _ => ⟨by rw [hp0, hd]; rfl, hn'⟩, fun h => (by cases h)⟩ (M1 rfl <| M1 rfl <| M1 rfl <| M1 rfl <| M1 rfl <| M1 rfl <| M1 rfl M0) (He_sub (show 3 ≤ 20 by decide) (O1 rfl <| O1 (by rw [hd]; rfl) O0))
      | true =>
        rw [hf] at hklt
        obtain ⟨td, tl⟩ := htdrop hf
        have hGD := ref1_GetN_ans (X := ext0) (Y := lies0) hN (denOf s)
        rw [← td] at hGD
        refine K_run hN ?_; (repeat (first | refine K_b rfl rfl hklt ?_ | refine K_v rfl rfl ?_ | refine K_g rfl rfl ?_ | refine K_n rfl rfl rfl rfl ?_ | refine K_n' rfl rfl rfl ?_ | refine K_s rfl ?_)); refine K_nil ?_
        refine G_if1 rfl ?_
        refine K_run hN ?_
        refine K_v rfl rfl ?_
        refine K_v rfl rfl ?_
        refine K_i rfl rfl (wi64 (b := (((numOf s).length + 1 : Nat) : Int)) (by omega) (by omega) (by omega)) ?_
        refine K_v rfl (g_sfrom ((numOf s).length + 1) rfl rfl rfl rfl tl) ?_
        unfold refN at hGD
        rw [td] at hGD
        cases hk2 : numOk (denOf s) with
        | false =>
          rw [hk2] at hGD hp0
          rw [td]
          (repeat (first | refine K_v rfl rfl ?_ | refine K_g rfl rfl ?_ | refine K_n rfl rfl rfl rfl ?_ | refine K_n' rfl rfl rfl ?_ | refine K_s rfl ?_ | refine K_c rfl rfl (hGD _) ?_)); refine K_nil ?_
          refine K_run1 hN ?_; (repeat (first | refine K_v rfl rfl ?_ | refine K_g rfl rfl ?_ | refine K_n rfl rfl rfl rfl ?_ | refine K_n' rfl rfl rfl ?_ | refine K_s rfl ?_)); refine K_nil ?_
          exact G_done false ⟨fun h => (by cases h), fun _ => hp0⟩ (M1 rfl <| M1 rfl M0) (He_sub (show 3 ≤ 20 by decide) (O1 rfl O0))
        | true =>
          rw [hk2] at hGD hp0
          rw [td]
          (repeat (first | refine K_v rfl rfl ?_ | refine K_g rfl rfl ?_ | refine K_n rfl rfl rfl rfl ?_ | refine K_n' rfl rfl rfl ?_ | refine K_s rfl ?_ | refine K_c rfl rfl (hGD _) ?_)); refine K_nil ?_
          have hd0 : decide (((R.digs (dval (denOf s))).length : Int) > 0) = !(Nat.beq (dval (denOf s)) 0) := by
            have h1 := R.digs_zero_iff (dval (denOf s))
            rw [Bool.eq_iff_iff, decide_eq_true_eq, Bool.not_eq_true', ← Bool.not_eq_true, Nat.beq_eq]
            omega
          cases hz : Nat.beq (dval (denOf s)) 0 with
          | true =>
            rw [hz] at hd0 hp0
            refine K_run1 hN ?_; (repeat (first | refine K_b rfl rfl hd0 ?_ | refine K_v rfl rfl ?_ | refine K_g rfl rfl ?_ | refine K_n rfl rfl rfl rfl ?_ | refine K_n' rfl rfl rfl ?_ | refine K_s rfl ?_)); refine K_nil ?_
            exact G_done false ⟨fun h => (by cases h), fun _ => hp0⟩ (M1 rfl <| M1 rfl M0) (He_sub (show 3 ≤ 20 by decide) (O1 rfl O0))
          | false =>
            rw [hz] at hd0 hp0
            refine K_run1 hN ?_; (repeat (first | refine K_b rfl rfl hd0 ?_ | refine K_v rfl rfl ?_ | refine K_g rfl rfl ?_ | refine K_n rfl rfl rfl rfl ?_ | refine K_n' rfl rfl rfl ?_ | refine K_s rfl ?_)); refine K_nil ?_
            exact G_done true ⟨fun _ => ⟨hp0, hn'⟩, fun h => (by cases h)⟩ (M1 rfl <| M1 rfl <| M1 rfl <| M1 rfl <| M1 rfl <| M1 rfl <| M1 rfl M0) (He_sub (show 3 ≤ 20 by decide) (O1 rfl <| O1 rfl O0))
  · rintro ok ⟨hok1, hok0⟩
    cases ok with
    | false =>
      have hno : fget s = none := lawF (by rw [getOk, hok0 rfl]; rfl)
      refine G_seq ?_
      refine K_run hN ?_; (repeat (first | refine K_v rfl rfl ?_ | refine K_g rfl rfl ?_ | refine K_n rfl rfl rfl rfl ?_ | refine K_n' rfl rfl rfl ?_ | refine K_s rfl ?_)); refine K_nil ?_
      refine G_if1 rfl ?_
      refine K_run hN ?_; (repeat (first | refine K_v rfl rfl ?_ | refine K_g rfl rfl ?_ | refine K_n rfl rfl rfl rfl ?_ | refine K_n' rfl rfl rfl ?_ | refine K_s rfl ?_)); refine K_nil ?_
      refine G_ret (G_endc rfl ?_)
      rw [hno]
      exact ⟨10, rfl⟩
    | true =>
      obtain ⟨hp, hn'⟩ := hok1 rfl
      subst hn'
      have hpp := hp
      simp only [partsOk, Bool.and_eq_true, Bool.not_eq_true'] at hpp
      obtain ⟨⟨o1, o2⟩, o3⟩ := hpp
      have hd0 : 0 < dval (denOf s) := by
        rcases Nat.eq_zero_or_pos (dval (denOf s)) with h | h
        · rw [h] at o3; cases o3
        · exact h
      have sN := St_of (numOk_lt o1)
      have sD := St_of (numOk_lt o2)
      have hge : getOk s = (!(neg && decide (dval (numOf s) = 0)) && (Nat.gcd (dval (numOf s)) (dval (denOf s)) == 1) && !(hasSl s && decide (dval (denOf s) = 1))) := by
        rw [getOk, hp, Bool.true_and, hneg]
      have hans : getOk s = true → ∃ q, fget s = some q ∧ decide (q.num < 0) = (neg && decide (0 < dval (numOf s))) ∧ q.num.natAbs = dval (numOf s) ∧ q.den = dval (denOf s) := fun h => by
        obtain ⟨q, q1, q2, q3, q4⟩ := lawT h
        refine ⟨q, q1, ?_, q3, q4⟩
        rw [q2]
        cases hng : neg with
        | false => rfl
        | true =>
          rw [hng] at q2
          have := of_decide_eq_true q2
          rw [decide_eq_true (by omega)]; rfl
      have hg := fun H => ref1_Gcd_ans (X := ext0) (Y := lies0) hN _ _ sN sD H
      have hgs : St (Nat.gcd (dval (numOf s)) (dval (denOf s))) := sD.le (Nat.gcd_le_right _ hd0)
      have hg0 : 0 < Nat.gcd (dval (numOf s)) (dval (denOf s)) := Nat.gcd_pos_of_pos_right _ hd0
      have hcmp := fun H => ref1_Cmp_ans (X := ext0) (Y := lies0) hN _ 1 hgs.sr St_one.sr H
      have hgle : Nat.gcd (dval (numOf s)) (dval (denOf s)) ≤ dval (denOf s) := Nat.gcd_le_right _ hd0
      have eD := digs1 (d := dval (denOf s))
      have eD1 := digs_one_len (d := dval (denOf s))
      have eN := R.digs_zero_iff (dval (numOf s))
      generalize dval (numOf s) = n at *
      generalize dval (denOf s) = d at *
      generalize Nat.gcd n d = g at *
      rw [h11] at hcmp
      have yes : getOk s = true → ∀ H1 : Heap, Frz H1 (wrapR [.agg [.bool (neg && decide (0 < n)), nT n, nT d], .bool true]) (match fget s with
          | some q => AV.tuple [qT (decide (q.num < 0)) q.num.natAbs q.den, .bool true]
          | none => .tuple [.agg [.bool false, .nilsl, .isl [i64c 1] 1], .bool false]) := fun h H1 => by
        obtain ⟨q, q1, q2, q3, q4⟩ := hans h
        rw [q1]
        simp only [q2, q3, q4]
        exact Frz.tuple (.cons (R.Frz_agg (.cons (.bool _) (.cons (.isl (R.frees_i64 _)) (.cons (.isl (R.frees_i64 _)) .nil)))) (.cons (.bool _) .nil))
      have nay : getOk s = false → fget s = none := lawF
      refine G_unboxE 9 2 [.bool (neg && decide (0 < n)), nT n, nT d] [(2, .ptr 0 0), (4, .str t), (5, .bool neg), (6, .int .i64 ((numOf s).length : Nat)), (7, nT n), (8, .bool true)] [(0, .cells [.bool false, .nilsl, .nilsl])] 20 rfl rfl (M1 rfl <| M1 rfl <| M1 rfl <| M1 rfl <| M1 rfl <| M1 rfl M0) (Od rfl (by decide) O0) (Nat.le_refl _) ?_
      refine G_seq ?_
      generalize hsl2 : hasSl s = sl at *
      have e0 : decide (((R.digs n).length : Int) = 0) = decide (n = 0) := by rw [decide_eq_decide]; omega
      have hcI : ∃ c : Int, (∀ H, Ans cs0 F.ref1_Cmp [nT g, .isl [i64c 1] 1] H fun x K => x = .int .i64 c ∧ K = H) ∧ (c = 0 ∧ (g == 1) = true ∨ c = 1 ∧ (g == 1) = false) := by
        by_cases h : g = 1
        · refine ⟨0, fun H => ?_, .inl ⟨rfl, by simpa using h⟩⟩
          have := hcmp H
          rw [if_neg (by omega), if_neg (by omega)] at this
          exact this
        · refine ⟨1, fun H => ?_, .inr ⟨rfl, by simpa using h⟩⟩
          have := hcmp H
          rw [if_neg (by omega), if_pos (by omega)] at this
          exact this
      obtain ⟨c, hcC, hcg⟩ := hcI
      by_cases hd1 : d = 1
      · subst hd1
        cases sl with
        | true =>
          have hno := nay (by rw [hge]; simp)
          refine K_run hN ?_; (repeat (first | refine K_b rfl rfl hklt ?_ | refine K_b rfl rfl e0 ?_ | refine K_v rfl rfl ?_ | refine K_g rfl rfl ?_ | refine K_n rfl rfl rfl rfl ?_ | refine K_n' rfl rfl rfl ?_ | refine K_s rfl ?_ | refine K_c rfl rfl (hg _) ?_)); refine K_nil ?_
          refine G_if1 rfl ?_
          refine K_run hN ?_; (repeat (first | refine K_v rfl rfl ?_ | refine K_g rfl rfl ?_ | refine K_n rfl rfl rfl rfl ?_ | refine K_n' rfl rfl rfl ?_ | refine K_s rfl ?_)); refine K_nil ?_
          refine G_ret (G_endc rfl ?_)
          rw [hno]
          exact ⟨10, rfl⟩
        | false =>
          cases hng : neg <;> cases hn0 : decide (n = 0) <;> rcases hcg with ⟨rfl, hg1⟩ | ⟨rfl, hg1⟩ <;> rw [hn0] at e0 hge <;> rw [hng, hg1] at hge <;>
            (refine K_run hN ?_; (repeat (first | refine K_b rfl rfl hklt ?_ | refine K_b rfl rfl e0 ?_ | refine K_v rfl rfl ?_ | refine K_g rfl rfl ?_ | refine K_n rfl rfl rfl rfl ?_ | refine K_n' rfl rfl rfl ?_ | refine K_s rfl ?_ | refine K_c rfl rfl (hg _) ?_))
             (try refine K_c rfl rfl (Ans_freeze [20] (.cons .same (.cons (.slice (cs := [i64c 1]) (l := [i64c 1]) (List.Mem.head _) rfl rfl (.cons .same .nil)) .nil)) (hcC _)) ?_)
             (repeat (first | refine K_v rfl rfl ?_ | refine K_g rfl rfl ?_ | refine K_n rfl rfl rfl rfl ?_ | refine K_n' rfl rfl rfl ?_ | refine K_s rfl ?_)); refine K_nil ?_) <;>
            first
            | (refine G_if0 rfl (G_skip (G_pop ?_))
               have hy := yes hge
               rw [hng] at hy
               refine K_run hN ?_; (repeat (first | refine K_v rfl rfl ?_ | refine K_g rfl rfl ?_ | refine K_n rfl rfl rfl rfl ?_ | refine K_n' rfl rfl rfl ?_ | refine K_s rfl ?_)); refine K_nil ?_
               exact G_ret (G_endc rfl (hy _)))
            | (refine G_if1 rfl ?_
               have hno := nay hge
               refine K_run hN ?_; (repeat (first | refine K_v rfl rfl ?_ | refine K_g rfl rfl ?_ | refine K_n rfl rfl rfl rfl ?_ | refine K_n' rfl rfl rfl ?_ | refine K_s rfl ?_)); refine K_nil ?_
               refine G_ret (G_endc rfl ?_)
               rw [hno]
               exact ⟨10, rfl⟩)
      · have hd1' : decide (d = 1) = false := decide_eq_false hd1
        have hd1i : decide ((d : Int) = 1) = false := decide_eq_false (by omega)
        rw [hd1', Bool.and_false] at hge
        by_cases hL : (R.digs d).length = 1
        · have hLt : decide (((R.digs d).length : Int) = 1) = true := decide_eq_true (by omega)
          have hD0 := eD hL
          have hLpos : 0 < (R.digs d).length := by omega
          cases hng : neg <;> cases hn0 : decide (n = 0) <;> rcases hcg with ⟨rfl, hg1⟩ | ⟨rfl, hg1⟩ <;> rw [hn0] at e0 hge <;> rw [hng, hg1] at hge <;>
            (refine K_run hN ?_; (repeat (first | refine K_v rfl (g_idxi1 0 rfl rfl rfl rfl rfl rfl hLpos) ?_ | refine K_v rfl (g_load rfl rfl rfl rfl rfl hD0) ?_ | refine K_b rfl rfl hklt ?_ | refine K_b rfl rfl e0 ?_ | refine K_b rfl rfl hLt ?_ | refine K_b rfl rfl hd1i ?_ | refine K_v rfl rfl ?_ | refine K_g rfl rfl ?_ | refine K_n rfl rfl rfl rfl ?_ | refine K_n' rfl rfl rfl ?_ | refine K_s rfl ?_ | refine K_c rfl rfl (hg _) ?_))
             (try refine K_c rfl rfl (Ans_freeze [20] (.cons .same (.cons (.slice (cs := [i64c 1]) (l := [i64c 1]) (List.Mem.head _) rfl rfl (.cons .same .nil)) .nil)) (hcC _)) ?_)
             (repeat (first | refine K_v rfl rfl ?_ | refine K_g rfl rfl ?_ | refine K_n rfl rfl rfl rfl ?_ | refine K_n' rfl rfl rfl ?_ | refine K_s rfl ?_)); refine K_nil ?_) <;>
            first
            | (refine G_if0 rfl (G_skip (G_pop ?_))
               have hy := yes hge
               rw [hng] at hy
               refine K_run hN ?_; (repeat (first | refine K_v rfl rfl ?_ | refine K_g rfl rfl ?_ | refine K_n rfl rfl rfl rfl ?_ | refine K_n' rfl rfl rfl ?_ | refine K_s rfl ?_)); refine K_nil ?_
               exact G_ret (G_endc rfl (hy _)))
            | (refine G_if1 rfl ?_
               have hno := nay hge
               refine K_run hN ?_; (repeat (first | refine K_v rfl rfl ?_ | refine K_g rfl rfl ?_ | refine K_n rfl rfl rfl rfl ?_ | refine K_n' rfl rfl rfl ?_ | refine K_s rfl ?_)); refine K_nil ?_
               refine G_ret (G_endc rfl ?_)
               rw [hno]
               exact ⟨10, rfl⟩)
        · have hLt : decide (((R.digs d).length : Int) = 1) = false := decide_eq_false (by omega)
          cases hng : neg <;> cases hn0 : decide (n = 0) <;> rcases hcg with ⟨rfl, hg1⟩ | ⟨rfl, hg1⟩ <;> rw [hn0] at e0 hge <;> rw [hng, hg1] at hge <;>
            (refine K_run hN ?_; (repeat (first | refine K_b rfl rfl hklt ?_ | refine K_b rfl rfl e0 ?_ | refine K_b rfl rfl hLt ?_ | refine K_v rfl rfl ?_ | refine K_g rfl rfl ?_ | refine K_n rfl rfl rfl rfl ?_ | refine K_n' rfl rfl rfl ?_ | refine K_s rfl ?_ | refine K_c rfl rfl (hg _) ?_))
             (try refine K_c rfl rfl (Ans_freeze [20] (.cons .same (.cons (.slice (cs := [i64c 1]) (l := [i64c 1]) (List.Mem.head _) rfl rfl (.cons .same .nil)) .nil)) (hcC _)) ?_)
             (repeat (first | refine K_v rfl rfl ?_ | refine K_g rfl rfl ?_ | refine K_n rfl rfl rfl rfl ?_ | refine K_n' rfl rfl rfl ?_ | refine K_s rfl ?_)); refine K_nil ?_) <;>
            first
            | (refine G_if0 rfl (G_skip (G_pop ?_))
               have hy := yes hge
               rw [hng] at hy
               refine K_run hN ?_; (repeat (first | refine K_v rfl rfl ?_ | refine K_g rfl rfl ?_ | refine K_n rfl rfl rfl rfl ?_ | refine K_n' rfl rfl rfl ?_ | refine K_s rfl ?_)); refine K_nil ?_
               exact G_ret (G_endc rfl (hy _)))
            | (refine G_if1 rfl ?_
               have hno := nay hge
               refine K_run hN ?_; (repeat (first | refine K_v rfl rfl ?_ | refine K_g rfl rfl ?_ | refine K_n rfl rfl rfl rfl ?_ | refine K_n' rfl rfl rfl ?_ | refine K_s rfl ?_)); refine K_nil ?_
               refine G_ret (G_endc rfl ?_)
               rw [hno]
               exact ⟨10, rfl⟩)
end Go.Eng
end
