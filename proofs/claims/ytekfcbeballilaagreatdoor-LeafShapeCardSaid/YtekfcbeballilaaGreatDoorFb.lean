import Derived.Test.YtekfcbeballilaaGreatDoorFa
import Derived.Test.YtekfcbeballilaaGreatDoorTc
section
namespace Go.Eng
open Go Go.RowKit Go.Proofs
set_option maxHeartbeats 4000000
set_option maxRecDepth 10000
/-- A fraction's text. -/
def ftext (q : Rat) : List UInt8 :=
  let a := bif decide (q.num < 0) then 45 :: ntext q.num.natAbs else ntext q.num.natAbs
  bif ntext q.den == [49] then a else a ++ 47 :: ntext q.den
theorem ntext_bound {n : Nat} (h : Sm n) : (ntext n).length ≤ 10995116277760 := by
  rw [ntext_len]
  rcases Nat.eq_zero_or_pos n with rfl | h0
  · exact Nat.le_trans (Nat.le_refl 1) (by omega)
  · have := ndig_digs n h0
    unfold Sm at h
    omega
theorem frac_Frac_Text_ans {x : AV} {q : Rat} (hx : IsQ x q) (hn : Sm q.num.natAbs) (hd : Sm q.den) (H : Heap) : Ans cs0 F.frac_Frac_Text [x] H fun x K => x = .str (ftext q) ∧ K = H := by
  have hN := cz_ok
  have hpt := frac_Frac_Parts_ans hN hx H
  unfold parts at hpt
  have b1 := ntext_bound hn
  have b2 := ntext_bound hd
  refine G_body hN (fn := B.frac_Frac_Text) (sz := 28) rfl rfl rfl rfl rfl ?_
  refine G_run hN (G_v rfl rfl <| G_nil) ?_
  refine G_run hN (G_v rfl rfl <| G_c rfl rfl hpt <| G_v rfl rfl <| G_v rfl rfl <| G_v rfl rfl <| G_v rfl rfl <| G_v rfl rfl <| G_v rfl rfl <| G_v rfl rfl <| G_nil) ?_
  refine G_run hN (G_v rfl rfl <| G_c rfl rfl (nat_Nat_Text_ans _ hn _) <| G_v rfl rfl <| G_nil) ?_
  generalize hA : (bif decide (q.num < 0) then 45 :: ntext q.num.natAbs else ntext q.num.natAbs) = A
  have hAl : A.length ≤ 10995116277761 := by
    rw [← hA]
    cases decide (q.num < 0) <;> simp <;> omega
  have hft : ftext q = bif ntext q.den == [49] then A else A ++ 47 :: ntext q.den := by unfold ftext; rw [hA]
  rw [hft]
  refine G_mid (α := Unit) (fun _ => True) (fun _ => [(5, .num q.den), (6, .str A)]) (fun _ => H) ?_ ?_
  · refine G_run hN (G_v rfl rfl <| G_nil) ?_
    generalize hb : decide (q.num < 0) = b at *
    cases b with
    | true =>
      refine G_if1 rfl ?_
      refine G_run1 hN (G_v rfl rfl <| G_v rfl (g_cat (x := A) rfl rfl (by simp; omega) (by rw [← hA]; rfl)) <| G_v rfl rfl <| G_nil) ?_
      exact G_done () trivial (M1 rfl <| M1 rfl M0) (Heap.Sub.refl _)
    | false =>
      refine G_if0 rfl (G_skip ?_)
      exact G_done () trivial (M1 rfl <| M2 rfl (by rw [← hA]; rfl) M0) (Heap.Sub.refl _)
  · rintro ⟨⟩ _
    refine G_seq ?_
    refine G_run hN (G_v rfl rfl <| G_c rfl rfl (nat_Nat_Text_ans _ hd _) <| G_v rfl rfl <| G_nil) ?_
    cases hb : ntext q.den == [49] with
    | true =>
      refine G_run hN (G_v rfl rfl <| G_v rfl (g_bool (b := false) rfl (by rw [hb]; rfl)) <| G_nil) ?_
      refine G_if0 rfl (G_skip (G_pop ?_))
      refine G_run hN (G_v rfl rfl <| G_v rfl rfl <| G_nil) ?_
      exact G_ret (G_end rfl ⟨rfl, rfl⟩)
    | false =>
      refine G_run hN (G_v rfl rfl <| G_v rfl (g_bool (b := true) rfl (by rw [hb]; rfl)) <| G_nil) ?_
      refine G_if1 rfl ?_
      refine G_run1 hN (G_v rfl rfl <| G_v rfl rfl <| G_v rfl (g_cat (x := 47 :: ntext q.den) rfl rfl (by simp; omega) rfl) <| G_v rfl (g_cat (x := A ++ 47 :: ntext q.den) rfl rfl (by simp; omega) rfl) <| G_v rfl rfl <| G_nil) ?_
      refine G_pop ?_
      refine G_run hN (G_v rfl rfl <| G_v rfl rfl <| G_nil) ?_
      exact G_ret (G_end rfl ⟨rfl, rfl⟩)
end Go.Eng
end
section
namespace Go.Eng
open Go Go.RowKit Go.Proofs
set_option maxHeartbeats 4000000
set_option maxRecDepth 10000
def negOf (s : List UInt8) : Bool := [45].isPrefixOf s
def absOf (s : List UInt8) : List UInt8 := bif negOf s then s.drop 1 else s
def numOf (s : List UInt8) : List UInt8 := (cutAt 47 (absOf s)).1
def denOf (s : List UInt8) : List UInt8 := bif (cutAt 47 (absOf s)).2.2 then (cutAt 47 (absOf s)).2.1 else [49]
/-- What a text with a sign and a slash says. -/
def ratOf (s : List UInt8) : Rat := mkRat (sg (negOf s) (dval (numOf s))) (dval (denOf s))
def partsOk (s : List UInt8) : Bool := numOk (numOf s) && numOk (denOf s) && !Nat.beq (dval (denOf s)) 0
/-- A fraction, read. -/
def fget (s : List UInt8) : Option Rat := bif partsOk s && ftext (ratOf s) == s then some (ratOf s) else none
def fgetAV (s : List UInt8) : AV := match fget s with
  | some q => .tuple [.frac q, .bool true]
  | none => .tuple [.nilp, .bool false]
theorem fgetAV_none {s : List UInt8} (h : (partsOk s && ftext (ratOf s) == s) = false) : fgetAV s = .tuple [.nilp, .bool false] := by
  rw [fgetAV, fget, h]; rfl
theorem fgetAV_some {s : List UInt8} (h : (partsOk s && ftext (ratOf s) == s) = true) : fgetAV s = .tuple [.frac (ratOf s), .bool true] := by
  rw [fgetAV, fget, h]; rfl
theorem cutAt_len (c : UInt8) (s : List UInt8) : (cutAt c s).1.length ≤ s.length ∧ (cutAt c s).2.1.length ≤ s.length := by
  rcases cutAt_idx c s with ⟨_, h⟩ | ⟨n, h0, _, h⟩
  · rw [h]; simp
  · rw [h]
    simp only [List.length_take, List.length_drop]
    omega
theorem pow_leF (a b : Nat) (h : a ≤ b) : 10 ^ a ≤ 10 ^ b := Nat.pow_le_pow_right (by decide) h
theorem numOk_lt {s : List UInt8} (h : numOk s = true) : dval s < 10 ^ 2000 := by
  obtain ⟨_, h2, _, h4⟩ := numOk_iff.1 h
  exact Nat.lt_of_lt_of_le (dval_lt h4) (pow_leF _ 2000 h2)
theorem frac_Get_ans (s : List UInt8) (hs : s.length < 9223372036854775808) (H : Heap) : Ans cs0 F.frac_Get [.str s] H fun x K => x = fgetAV s ∧ K = H := by
  have hN := cz_ok
  have hcp : cutPre s [45] = .tuple [.str (absOf s), .bool (negOf s)] := by
    unfold cutPre absOf negOf
    cases [45].isPrefixOf s <;> rfl
  have hc1 := strings_CutPrefix_ans s [45] H
  rw [hcp] at hc1
  have hal : (absOf s).length ≤ s.length := by
    unfold absOf
    cases negOf s <;> simp
  obtain ⟨l1, l2⟩ := cutAt_len 47 (absOf s)
  refine G_body hN (fn := B.frac_Get) (sz := 56) rfl rfl rfl rfl rfl ?_
  refine G_run hN (G_v rfl rfl <| G_v rfl rfl <| G_nil) ?_
  refine G_run hN (G_v rfl rfl <| G_c rfl rfl hc1 <| G_v rfl rfl <| G_v rfl rfl <| G_v rfl rfl <| G_v rfl rfl <| G_v rfl rfl <| G_nil) ?_
  refine G_run hN (G_v rfl rfl <| G_c rfl rfl (strings_Cut_one (absOf s) (by omega) 47 _) <| G_v rfl rfl <| G_v rfl rfl <| G_v rfl rfl <| G_v rfl rfl <| G_v rfl rfl <| G_v rfl rfl <| G_v rfl rfl <| G_nil) ?_
  have hdl : (denOf s).length < 9223372036854775808 := by
    unfold denOf
    cases (cutAt 47 (absOf s)).2.2
    · show 1 < _; omega
    · show (cutAt 47 (absOf s)).2.1.length < _; omega
  refine G_mid (α := Unit) (fun _ => True) (fun _ => [(0, .str s), (2, .nilp), (3, .bool false), (5, .bool (negOf s)), (6, .str (numOf s)), (7, .str (denOf s))]) (fun _ => H) ?_ ?_
  · cases hf : (cutAt 47 (absOf s)).2.2 with
    | true =>
      refine G_run hN (G_v rfl rfl <| G_v rfl rfl <| G_nil) ?_
      refine G_if0 rfl (G_skip ?_)
      exact G_done () trivial (M1 rfl <| M1 rfl <| M1 rfl <| M1 rfl <| M1 rfl <| M2 rfl (by rw [denOf, hf]; rfl) M0) (Heap.Sub.refl _)
    | false =>
      refine G_run hN (G_v rfl rfl <| G_v rfl rfl <| G_nil) ?_
      refine G_if1 rfl ?_
      refine G_run1 hN (G_v rfl rfl <| G_nil) ?_
      exact G_done () trivial (M1 rfl <| M1 rfl <| M1 rfl <| M1 rfl <| M1 rfl <| M2 rfl (by rw [denOf, hf]; rfl) M0) (Heap.Sub.refl _)
  · rintro ⟨⟩ _
    have g1 := nat_Get_ans (numOf s) (by show (cutAt 47 (absOf s)).1.length < _; omega) H
    have g2 := nat_Get_ans (denOf s) hdl H
    unfold numAV at g1 g2
    cases hA : numOk (numOf s) with
    | false =>
      have hno : (partsOk s && ftext (ratOf s) == s) = false := by rw [partsOk, hA]; rfl
      rw [hA] at g1
      cases hB : numOk (denOf s) with
      | false =>
        rw [hB] at g2
        refine G_run hN (G_v rfl rfl <| G_c rfl rfl g1 <| G_v rfl rfl <| G_v rfl rfl <| G_v rfl rfl <| G_v rfl rfl <| G_v rfl rfl <| G_nil) ?_
        refine G_run hN (G_v rfl rfl <| G_c rfl rfl g2 <| G_v rfl rfl <| G_v rfl rfl <| G_v rfl rfl <| G_v rfl rfl <| G_v rfl rfl <| G_nil) ?_
        refine G_seq ?_
        refine G_run hN (G_v rfl rfl <| G_v rfl rfl <| G_v rfl rfl <| G_n rfl rfl rfl rfl <| G_n rfl rfl rfl rfl <| G_v rfl rfl <| G_v rfl rfl <| G_n rfl rfl rfl rfl <| G_n rfl rfl rfl rfl <| G_v rfl rfl <| G_nil) ?_
        refine G_if1 rfl ?_
        refine G_run hN (G_v rfl rfl <| G_v rfl rfl <| G_nil) ?_
        exact G_ret (G_end rfl ⟨by rw [fgetAV_none hno]; rfl, rfl⟩)
      | true =>
        rw [hB] at g2
        refine G_run hN (G_v rfl rfl <| G_c rfl rfl g1 <| G_v rfl rfl <| G_v rfl rfl <| G_v rfl rfl <| G_v rfl rfl <| G_v rfl rfl <| G_nil) ?_
        refine G_run hN (G_v rfl rfl <| G_c rfl rfl g2 <| G_v rfl rfl <| G_v rfl rfl <| G_v rfl rfl <| G_v rfl rfl <| G_v rfl rfl <| G_nil) ?_
        refine G_seq ?_
        refine G_run hN (G_v rfl rfl <| G_v rfl rfl <| G_v rfl rfl <| G_n rfl rfl rfl rfl <| G_n rfl rfl rfl rfl <| G_v rfl rfl <| G_v rfl rfl <| G_n rfl rfl rfl rfl <| G_n rfl rfl rfl rfl <| G_v rfl rfl <| G_nil) ?_
        refine G_if1 rfl ?_
        refine G_run hN (G_v rfl rfl <| G_v rfl rfl <| G_nil) ?_
        exact G_ret (G_end rfl ⟨by rw [fgetAV_none hno]; rfl, rfl⟩)
    | true =>
      rw [hA] at g1
      have n1 := numOk_lt hA
      cases hB : numOk (denOf s) with
      | false =>
        have hno : (partsOk s && ftext (ratOf s) == s) = false := by rw [partsOk, hA, hB]; rfl
        rw [hB] at g2
        refine G_run hN (G_v rfl rfl <| G_c rfl rfl g1 <| G_v rfl rfl <| G_v rfl rfl <| G_v rfl rfl <| G_v rfl rfl <| G_v rfl rfl <| G_nil) ?_
        refine G_run hN (G_v rfl rfl <| G_c rfl rfl g2 <| G_v rfl rfl <| G_v rfl rfl <| G_v rfl rfl <| G_v rfl rfl <| G_v rfl rfl <| G_nil) ?_
        refine G_seq ?_
        refine G_run hN (G_v rfl rfl <| G_v rfl rfl <| G_v rfl rfl <| G_g rfl rfl <| G_v rfl rfl <| G_g rfl rfl <| G_v rfl rfl <| G_v rfl rfl <| G_v rfl rfl <| G_n rfl rfl rfl rfl <| G_n rfl rfl rfl rfl <| G_v rfl rfl <| G_nil) ?_
        refine G_if1 rfl ?_
        refine G_run hN (G_v rfl rfl <| G_v rfl rfl <| G_nil) ?_
        exact G_ret (G_end rfl ⟨by rw [fgetAV_none hno]; rfl, rfl⟩)
      | true =>
        rw [hB] at g2
        have n2 := numOk_lt hB
        have hz := frac_zero_ans hN (dval (denOf s)) (Sm_dec n2 (by omega)) H
        by_cases hD : dval (denOf s) = 0
        · have hno : (partsOk s && ftext (ratOf s) == s) = false := by rw [partsOk, hA, hB, hD]; rfl
          rw [decide_eq_true hD] at hz
          refine G_run hN (G_v rfl rfl <| G_c rfl rfl g1 <| G_v rfl rfl <| G_v rfl rfl <| G_v rfl rfl <| G_v rfl rfl <| G_v rfl rfl <| G_nil) ?_
          refine G_run hN (G_v rfl rfl <| G_c rfl rfl g2 <| G_v rfl rfl <| G_v rfl rfl <| G_v rfl rfl <| G_v rfl rfl <| G_v rfl rfl <| G_nil) ?_
          refine G_seq ?_
          refine G_run hN (G_v rfl rfl <| G_v rfl rfl <| G_v rfl rfl <| G_g rfl rfl <| G_v rfl rfl <| G_g rfl rfl <| G_v rfl rfl <| G_v rfl rfl <| G_v rfl rfl <| G_g rfl rfl <| G_v rfl rfl <| G_g rfl rfl <| G_c rfl rfl hz <| G_v rfl rfl <| G_nil) ?_
          refine G_if1 rfl ?_
          refine G_run hN (G_v rfl rfl <| G_v rfl rfl <| G_nil) ?_
          exact G_ret (G_end rfl ⟨by rw [fgetAV_none hno]; rfl, rfl⟩)
        · have hok : partsOk s = true := by
            rw [partsOk, hA, hB]
            cases h : Nat.beq (dval (denOf s)) 0 with
            | false => rfl
            | true => exact absurd (Nat.eq_of_beq_eq_true h) hD
          rw [decide_eq_false hD] at hz
          have hd0 : 0 < dval (denOf s) := by omega
          have sN : Sm (dval (numOf s)) := Sm_dec n1 (by omega)
          have sD : Sm (dval (denOf s)) := Sm_dec n2 (by omega)
          have hle := mk_le (sg (negOf s) (dval (numOf s))) (dval (denOf s)) hd0
          have habs : (sg (negOf s) (dval (numOf s))).natAbs = dval (numOf s) := by cases negOf s <;> simp [sg]
          rw [habs] at hle
          have htx := frac_Frac_Text_ans (.frac (ratOf s)) (sN.le hle.1) (sD.le hle.2) H
          refine G_run hN (G_v rfl rfl <| G_c rfl rfl g1 <| G_v rfl rfl <| G_v rfl rfl <| G_v rfl rfl <| G_v rfl rfl <| G_v rfl rfl <| G_nil) ?_
          refine G_run hN (G_v rfl rfl <| G_c rfl rfl g2 <| G_v rfl rfl <| G_v rfl rfl <| G_v rfl rfl <| G_v rfl rfl <| G_v rfl rfl <| G_nil) ?_
          refine G_seq ?_
          refine G_run hN (G_v rfl rfl <| G_v rfl rfl <| G_v rfl rfl <| G_g rfl rfl <| G_v rfl rfl <| G_g rfl rfl <| G_v rfl rfl <| G_v rfl rfl <| G_v rfl rfl <| G_g rfl rfl <| G_v rfl rfl <| G_g rfl rfl <| G_c rfl rfl hz <| G_v rfl rfl <| G_nil) ?_
          refine G_if0 rfl (G_skip (G_pop ?_))
          refine G_run hN (G_v rfl rfl <| G_v rfl rfl <| G_v rfl rfl <| G_c rfl rfl (frac_sure_ans hN _ _ _ sN sD hd0 _) <| G_v rfl rfl <| G_nil) ?_
          refine G_seq ?_
          cases ht : ftext (ratOf s) == s with
          | false =>
            refine G_run hN (G_v rfl rfl <| G_c rfl rfl htx <| G_v rfl rfl <| G_v rfl (g_bool (b := true) rfl (by rw [ht]; rfl)) <| G_nil) ?_
            refine G_if1 rfl ?_
            refine G_run hN (G_v rfl rfl <| G_v rfl rfl <| G_nil) ?_
            exact G_ret (G_end rfl ⟨by rw [fgetAV_none (by rw [ht, hok]; rfl)]; rfl, rfl⟩)
          | true =>
            refine G_run hN (G_v rfl rfl <| G_c rfl rfl htx <| G_v rfl rfl <| G_v rfl (g_bool (b := false) rfl (by rw [ht]; rfl)) <| G_nil) ?_
            refine G_if0 rfl (G_skip (G_pop ?_))
            refine G_run hN (G_v rfl rfl <| G_v rfl rfl <| G_v rfl rfl <| G_nil) ?_
            exact G_ret (G_end rfl ⟨by rw [fgetAV_some (by rw [ht, hok]; rfl)]; rfl, rfl⟩)
end Go.Eng
end
