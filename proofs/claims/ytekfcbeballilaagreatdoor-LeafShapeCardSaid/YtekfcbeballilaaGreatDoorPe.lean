import Derived.Test.YtekfcbeballilaaGreatDoorPd
section
namespace Go.Eng
open Go Go.RowKit Go.Proofs
open Go.LP (sm)
set_option maxHeartbeats 4000000
set_option maxRecDepth 10000
def allB : Nat → (Nat → Bool) → Bool
  | 0, _ => true
  | n + 1, f => allB n f && f n
theorem allB_iff {f : Nat → Bool} : ∀ {n : Nat}, allB n f = true ↔ ∀ i, i < n → f i = true
  | 0 => by simp [allB]
  | n + 1 => by
    simp only [allB, Bool.and_eq_true, allB_iff (n := n)]
    constructor
    · rintro ⟨h1, h2⟩ i hi
      by_cases h : i = n
      · rw [h]; exact h2
      · exact h1 i (by omega)
    · exact fun h => ⟨fun i hi => h i (by omega), h n (by omega)⟩
theorem allB_false {f : Nat → Bool} {n i : Nat} (hi : i < n) (h : f i = false) : allB n f = false := by
  rw [Bool.eq_false_iff]
  intro h2
  rw [allB_iff.1 h2 i hi] at h
  cases h
def baseD (cs : List ColS) (costs : Bool) : List Rat := cs.map fun c => bif costs then qv c.cost else 0
/-- A row's part of the reduced costs. -/
def rowStep (y : Rat) (coef : List (Int × List UInt8)) (d : List Rat) : List Rat := coef.foldl (fun d c => d.set c.1.toNat (d.getD c.1.toNat 0 - qv c.2 * y)) d
def dI (l : LPS) (ys : List Rat) (costs : Bool) : Nat → List Rat
  | 0 => baseD l.cols costs
  | i + 1 => rowStep (ys.getD i 0) (l.rows.getD i default).coef (dI l ys costs i)
def oI (l : LPS) (ys : List Rat) (n : Nat) : Rat := sm n fun i => ys.getD i 0 * qv (l.rows.getD i default).rhs
def signOk (kind : Int) (y : Rat) : Bool := !(decide (kind = 1) && decide (0 < y)) && !(decide (kind = 3) && decide (y < 0))
def partR (l : LPS) (ys : List Rat) (costs : Bool) (j : Nat) : Option Rat := leastR (l.cols.getD j default) ((dI l ys costs l.rows.length).getD j 0)
def boundIn (l : LPS) (y : List (List UInt8)) : Bool := y.all isq && decide (y.length = l.rows.length) && l.may
def boundB (l : LPS) (y : List (List UInt8)) (costs : Bool) : Bool := boundIn l y && (allB l.rows.length (fun i => signOk (l.rows.getD i default).kind ((y.map qv).getD i 0)) && allB l.cols.length fun j => (partR l (y.map qv) costs j).isSome)
def outR (l : LPS) (ys : List Rat) (costs : Bool) (n : Nat) : Rat := oI l ys l.rows.length + sm n fun j => (partR l ys costs j).getD 0
def boundR (l : LPS) (y : List (List UInt8)) (costs : Bool) : Rat := outR l (y.map qv) costs l.cols.length
def boundS (l : LPS) (y : List (List UInt8)) (costs : Bool) : List UInt8 := bif boundB l y costs then ftext (boundR l y costs) else []
theorem rowStep_len (y : Rat) (coef : List (Int × List UInt8)) (d : List Rat) : (rowStep y coef d).length = d.length := by
  unfold rowStep
  induction coef generalizing d with
  | nil => rfl
  | cons c coef ih => rw [List.foldl_cons, ih, List.length_set]
theorem dI_len (l : LPS) (ys : List Rat) (costs : Bool) : ∀ i, (dI l ys costs i).length = l.cols.length
  | 0 => by simp [dI, baseD]
  | i + 1 => by rw [dI, rowStep_len, dI_len l ys costs i]
theorem rowStep_snoc (y : Rat) (coef : List (Int × List UInt8)) (c : Int × List UInt8) (d : List Rat) : rowStep y (coef ++ [c]) d = (rowStep y coef d).set c.1.toNat ((rowStep y coef d).getD c.1.toNat 0 - qv c.2 * y) := by
  simp only [rowStep, List.foldl_append, List.foldl_cons, List.foldl_nil]
theorem coefs_in {n : Nat} : ∀ {l : List (Int × List UInt8)} {last : Int}, coefsOk n last l = true → -1 ≤ last → last < n → (∀ c ∈ l, last < c.1 ∧ c.1 < n ∧ isq c.2 = true ∧ (c.2 == [48]) = false) ∧ (l.length : Int) + last + 1 ≤ n
  | [], last, _, h1, h2 => ⟨fun c hc => (by cases hc), by simp; omega⟩
  | (c, v) :: l, last, h, h1, h2 => by
    simp only [coefsOk, Bool.and_eq_true, Bool.not_eq_true', decide_eq_true_eq] at h
    obtain ⟨⟨⟨⟨k1, k2⟩, k3⟩, k4⟩, k5⟩ := h
    obtain ⟨i1, i2⟩ := coefs_in k5 (by omega) k4
    refine ⟨fun x hx => ?_, by simp only [List.length_cons]; omega⟩
    rcases List.mem_cons.1 hx with rfl | hx
    · exact ⟨k3, k4, k1, k2⟩
    · obtain ⟨j1, j2⟩ := i1 x hx
      exact ⟨by omega, j2⟩
/-- What is known of a program that may be. -/
structure MayF (l : LPS) : Prop where
  nc : l.cols.length ≤ 100
  nr : l.rows.length ≤ 440
  col : ∀ c ∈ l.cols, colOk c = true
  coef : ∀ r ∈ l.rows, ∀ c ∈ r.coef, 0 ≤ c.1 ∧ c.1 < l.cols.length ∧ isq c.2 = true ∧ (c.2 == [48]) = false
  coefs : ∀ r ∈ l.rows, coefsOk l.cols.length (-1) r.coef = true
  len : ∀ r ∈ l.rows, r.coef.length ≤ 100
  rhs : ∀ r ∈ l.rows, isq r.rhs = true
  kind : ∀ r ∈ l.rows, r.kind = 1 ∨ r.kind = 2 ∨ r.kind = 3
theorem may_f {l : LPS} (h : l.may = true) : MayF l := by
  simp only [LPS.may, Bool.and_eq_true, decide_eq_true_eq, List.all_eq_true] at h
  obtain ⟨⟨⟨h1, h2⟩, h3⟩, h4⟩ := h
  have hr : ∀ r ∈ l.rows, coefsOk l.cols.length (-1) r.coef = true ∧ isq r.rhs = true ∧ 1 ≤ r.kind ∧ r.kind ≤ 3 := fun r hr => by
    have := h4 r hr
    simp only [rowOk, Bool.and_eq_true, decide_eq_true_eq] at this
    exact ⟨this.1.1.1.1, this.1.1.1.2, this.1.2, this.2⟩
  refine ⟨h1, h2, h3, fun r hm c hc => ?_, fun r hm => (hr r hm).1, fun r hm => ?_, fun r hm => (hr r hm).2.1, fun r hm => by have := (hr r hm).2.2; omega⟩
  · have := (coefs_in (hr r hm).1 (by omega) (by omega)).1 c hc
    exact ⟨by omega, this.2.1, this.2.2⟩
  · have := (coefs_in (hr r hm).1 (by omega) (by omega)).2
    omega
/-- All entries have at most so many bits. -/
def BtL (k : Nat) (d : List Rat) : Prop := ∀ q ∈ d, Bt k q
theorem BtL.at {k : Nat} {d : List Rat} (h : BtL k d) (hk : 1 ≤ k) (j : Nat) : Bt k (d.getD j 0) := getD_bt h hk j
theorem BtL.set {k : Nat} {d : List Rat} (h : BtL k d) {q : Rat} (hq : Bt k q) (j : Nat) : BtL k (d.set j q) := fun x hx => by
  rcases List.mem_or_eq_of_mem_set hx with h1 | h1
  · exact h x h1
  · rw [h1]; exact hq
theorem BtL.le {k k' : Nat} {d : List Rat} (h : BtL k d) (hk : k ≤ k') : BtL k' d := fun q hq => (h q hq).le hk
theorem rowStep_bt {y : Rat} (hy : Bt 6700 y) : ∀ (coef : List (Int × List UInt8)) {d : List Rat} {k : Nat}, 1 ≤ k → BtL k d → BtL (k + 13401 * coef.length) (rowStep y coef d)
  | [], d, k, _, h => h
  | c :: coef, d, k, hk, h => by
    have h1 : BtL (k + 13401) (d.set c.1.toNat (d.getD c.1.toNat 0 - qv c.2 * y)) := (h.le (by omega)).set (((h.at hk _).sub ((qv_bt c.2).mul hy)).le (by omega)) _
    have := rowStep_bt hy coef (by omega) h1
    exact this.le (by simp only [List.length_cons]; omega)
theorem dI_bt (l : LPS) (hm : MayF l) {ys : List Rat} (hy : ∀ q ∈ ys, Bt 6700 q) (costs : Bool) : ∀ i, i ≤ l.rows.length → BtL (6700 + 1340100 * i) (dI l ys costs i)
  | 0, _ => fun q hq => by
    obtain ⟨c, _, rfl⟩ := List.mem_map.1 hq
    cases costs
    · exact Bt.zero.le (by decide)
    · exact (qv_bt c.cost).le (by decide)
  | i + 1, hi => by
    have h1 := dI_bt l hm hy costs i (by omega)
    have h2 := rowStep_bt (getD_bt hy (by decide) i) (l.rows.getD i default).coef (by omega) h1
    have hl : (l.rows.getD i default).coef.length ≤ 100 := by
      have hx : l.rows[i]? = some l.rows[i] := List.getElem?_eq_getElem (by omega)
      rw [getD_at hx]
      exact hm.len _ (List.getElem_mem _)
    exact h2.le (by omega)
theorem least_bt {c : ColS} {d : Rat} {k : Nat} (h : Bt k d) (hk : 1 ≤ k) : Bt (k + 6700) ((leastR c d).getD 0) := by
  unfold leastR
  split
  · exact Bt.zero.le (by omega)
  · split <;> split
    · exact Bt.zero.le (by omega)
    · exact h.mul (qv_bt _)
    · exact Bt.zero.le (by omega)
    · exact h.mul (qv_bt _)
theorem oI_bt (l : LPS) {ys : List Rat} (hy : ∀ q ∈ ys, Bt 6700 q) (n : Nat) : Bt (1 + 13401 * n) (oI l ys n) := (sm_bt fun i _ => (getD_bt hy (by decide) i).mul (qv_bt _)).le (by omega)
theorem outR_bt (l : LPS) (hm : MayF l) {ys : List Rat} (hy : ∀ q ∈ ys, Bt 6700 q) (costs : Bool) (n : Nat) (hn : n ≤ 100) : Bt 100000000000 (outR l ys costs n) := by
  have h1 := (oI_bt l hy l.rows.length).le (m := 10000000) (by have := hm.nr; omega)
  have h2 := sm_bt (k := 600000000) (n := n) (f := fun j => (partR l ys costs j).getD 0) fun j _ => (least_bt ((dI_bt l hm hy costs _ (Nat.le_refl _)).at (by omega) j) (by omega)).le (by have := hm.nr; omega)
  exact (h1.add h2).le (by omega)
/-- Cells that are laid one by one. -/
def fillC (b : List Rat) (i : Nat) : List AV := fr (b.take i) ++ List.replicate (b.length - i) .nilp
theorem fillC_set {b : List Rat} {i : Nat} (h : i < b.length) (x : AV) : ((fillC b i).set i x).set i (.frac (b.getD i 0)) = fillC b (i + 1) ∧ (fillC b i).set i (.frac (b.getD i 0)) = fillC b (i + 1) := by
  have e : (fillC b i).set i (.frac (b.getD i 0)) = fillC b (i + 1) := by
    unfold fillC
    have hl : (fr (b.take i)).length = i := by simp [fr]; omega
    rw [List.set_append_right _ _ (by omega), hl, Nat.sub_self]
    obtain ⟨k, hk⟩ : ∃ k, b.length - i = k + 1 := ⟨b.length - i - 1, by omega⟩
    rw [hk, List.replicate_succ, List.set_cons_zero, show b.length - (i + 1) = k by omega]
    rw [List.take_succ_eq_append_getElem h]
    simp only [fr, List.map_append, List.map_cons, List.map_nil, List.append_assoc, List.cons_append, List.nil_append, List.getD_eq_getElem?_getD, List.getElem?_eq_getElem h, Option.getD_some]
  exact ⟨by rw [List.set_set, e], e⟩
theorem fillC_len {b : List Rat} {i : Nat} (h : i ≤ b.length) : (fillC b i).length = b.length := by simp [fillC, fr]; omega
theorem fillC_all (b : List Rat) : fillC b b.length = fr b := by simp [fillC]
theorem fr_len (b : List Rat) : (fr b).length = b.length := by simp [fr]
theorem fr_set (b : List Rat) (i : Nat) (q : Rat) : (fr b).set i (.frac q) = fr (b.set i q) := by simp [fr, List.map_set]
theorem repl_nilp (n : Nat) : repl n [.nilp] = List.replicate n .nilp := by
  unfold repl
  induction n with
  | zero => rfl
  | succ n ih => rw [List.replicate_succ, List.flatten_cons, ih]; rfl
end Go.Eng
end
section
namespace Go.Eng
open Go Go.RowKit Go.Proofs
open Go.LP (sm)
set_option maxHeartbeats 8000000
set_option maxRecDepth 10000
theorem prob_Bound_ans (l : LPS) (hl : l.Sh) (h1 : l.cols.length < 9223372036854775808) (h2 : l.rows.length < 9223372036854775808) (y : List (List UInt8)) (hy : ∀ s ∈ y, Sh s) (hyl : y.length ≤ 10000000) (costs : Bool) (H : Heap) : Ans cs0 F.prob_Bound [l.av, strsAV y, .bool costs] H fun x K => x = .tuple [.str (boundS l y costs), .bool (boundB l y costs)] ∧ K = H := by
  have hN := cz_ok
  refine Ans_free gl0_free (Imp.refl _) (by
    show (l.av.free && (AV.frees (strs y) && true)) = true
    rw [lp_free, strs_frees]; rfl) ?_ H
  have hnum := prob_numbers_ans y l.rows.length hy hyl
  have hmay := prob_May_ans l hl h1 h2
  have hof := fun H => frac_Of_ans (X := ext0) (Y := lies0) hN 0 (by decide) (by decide) H
  unfold numsAV at hnum
  refine G_body hN (fn := B.prob_Bound) (sz := 156) rfl rfl rfl rfl rfl ?_
  refine K_run hN ?_; (repeat (first | refine K_v rfl rfl ?_ | refine K_g rfl rfl ?_ | refine K_n rfl rfl rfl rfl ?_ | refine K_n' rfl rfl rfl ?_ | refine K_s rfl ?_)); refine K_nil ?_
  refine G_unbox 3 0 [colsAV l.cols, rowsAV l.rows] [(1, strsAV y), (2, .bool costs)] 1 rfl rfl (M1 rfl <| M1 rfl M0) (Nat.le_refl _) ?_
  by_cases hin : boundIn l y = true
  rotate_left
  · have hno : boundIn l y = false := by rw [Bool.eq_false_iff]; exact hin
    have hb : boundB l y costs = false := by rw [boundB, hno]; rfl
    rw [boundS, hb]
    unfold boundIn at hno
    cases hA : y.all isq with
    | false =>
      rw [hA] at hnum
      refine K_run hN ?_; (repeat (first | refine K_v rfl rfl ?_ | refine K_g rfl rfl ?_ | refine K_n rfl rfl rfl rfl ?_ | refine K_n' rfl rfl rfl ?_ | refine K_s rfl ?_ | refine K_c rfl rfl (hnum _) ?_)); refine K_nil ?_
      refine G_seq ?_
      refine K_run hN ?_; (repeat (first | refine K_v rfl rfl ?_ | refine K_g rfl rfl ?_ | refine K_n rfl rfl rfl rfl ?_ | refine K_n' rfl rfl rfl ?_ | refine K_s rfl ?_)); refine K_nil ?_
      refine G_if1 rfl ?_
      refine K_run hN ?_; (repeat (first | refine K_v rfl rfl ?_ | refine K_g rfl rfl ?_ | refine K_n rfl rfl rfl rfl ?_ | refine K_n' rfl rfl rfl ?_ | refine K_s rfl ?_)); refine K_nil ?_
      exact G_ret (G_end rfl ⟨10, rfl⟩)
    | true =>
      rw [hA] at hnum
      cases hB : decide (y.length = l.rows.length) with
      | false =>
        rw [hB] at hnum
        refine K_run hN ?_; (repeat (first | refine K_v rfl rfl ?_ | refine K_g rfl rfl ?_ | refine K_n rfl rfl rfl rfl ?_ | refine K_n' rfl rfl rfl ?_ | refine K_s rfl ?_ | refine K_c rfl rfl (hnum _) ?_)); refine K_nil ?_
        refine G_seq ?_
        refine K_run hN ?_; (repeat (first | refine K_v rfl rfl ?_ | refine K_g rfl rfl ?_ | refine K_n rfl rfl rfl rfl ?_ | refine K_n' rfl rfl rfl ?_ | refine K_s rfl ?_)); refine K_nil ?_
        refine G_if1 rfl ?_
        refine K_run hN ?_; (repeat (first | refine K_v rfl rfl ?_ | refine K_g rfl rfl ?_ | refine K_n rfl rfl rfl rfl ?_ | refine K_n' rfl rfl rfl ?_ | refine K_s rfl ?_)); refine K_nil ?_
        exact G_ret (G_end rfl ⟨10, rfl⟩)
      | true =>
        rw [hB] at hnum
        rw [hA, hB] at hno
        have hC : l.may = false := hno
        rw [hC] at hmay
        refine K_run hN ?_; (repeat (first | refine K_v rfl rfl ?_ | refine K_g rfl rfl ?_ | refine K_n rfl rfl rfl rfl ?_ | refine K_n' rfl rfl rfl ?_ | refine K_s rfl ?_ | refine K_c rfl rfl (hnum _) ?_)); refine K_nil ?_
        refine G_seq ?_
        refine K_run hN ?_; (repeat (first | refine K_v rfl rfl ?_ | refine K_g rfl rfl ?_ | refine K_n rfl rfl rfl rfl ?_ | refine K_n' rfl rfl rfl ?_ | refine K_s rfl ?_ | refine K_c rfl rfl (hmay _) ?_)); refine K_nil ?_
        refine G_if1 rfl ?_
        refine K_run hN ?_; (repeat (first | refine K_v rfl rfl ?_ | refine K_g rfl rfl ?_ | refine K_n rfl rfl rfl rfl ?_ | refine K_n' rfl rfl rfl ?_ | refine K_s rfl ?_)); refine K_nil ?_
        exact G_ret (G_end rfl ⟨10, rfl⟩)
  · have hin2 := hin
    simp only [boundIn, Bool.and_eq_true, decide_eq_true_eq] at hin2
    obtain ⟨⟨hA, hB⟩, hC⟩ := hin2
    have hm := may_f hC
    have knc := hm.nc
    have knr := hm.nr
    rw [hA, fqs_fr, decide_eq_true hB] at hnum
    rw [hC] at hmay
    have hyb : ∀ q ∈ y.map qv, Bt 6700 q := mem_qv_bt
    have hysl : (y.map qv).length = l.rows.length := by rw [List.length_map]; exact hB
    have hnum : ∀ H, Ans cs0 F.prob_numbers [strsAV y, .int .i64 (l.rows.length : Nat)] H fun x K => x = .tuple [frAV (y.map qv), .bool true] ∧ K = H := fun H => by
      have := hnum H
      rw [show y.length = (y.map qv).length by simp] at this
      exact this
    have hbS : boundB l y costs = (allB l.rows.length (fun i => signOk (l.rows.getD i default).kind ((y.map qv).getD i 0)) && allB l.cols.length fun j => (partR l (y.map qv) costs j).isSome) := by rw [boundB, hin]; rfl
    generalize hys : y.map qv = ys at *
    refine K_run hN ?_; (repeat (first | refine K_v rfl rfl ?_ | refine K_g rfl rfl ?_ | refine K_n rfl rfl rfl rfl ?_ | refine K_n' rfl rfl rfl ?_ | refine K_s rfl ?_ | refine K_c rfl rfl (hnum _) ?_)); refine K_nil ?_
    refine G_seq ?_
    refine K_run hN ?_; (repeat (first | refine K_v rfl rfl ?_ | refine K_g rfl rfl ?_ | refine K_n rfl rfl rfl rfl ?_ | refine K_n' rfl rfl rfl ?_ | refine K_s rfl ?_ | refine K_c rfl rfl (hmay _) ?_)); refine K_nil ?_
    refine G_if0 rfl (G_skip (G_pop ?_))
    refine K_run hN ?_; (repeat (first | refine K_v rfl rfl ?_ | refine K_g rfl rfl ?_ | refine K_n rfl rfl rfl rfl ?_ | refine K_n' rfl rfl rfl ?_ | refine K_s rfl ?_))
    refine K_v rfl (g_make l.cols.length l.cols.length rfl rfl rfl rfl rfl rfl rfl (Nat.le_refl _) (by omega) (by show 8 * _ ≤ _; omega)) ?_
    (repeat (first | refine K_v rfl rfl ?_ | refine K_g rfl rfl ?_ | refine K_n rfl rfl rfl rfl ?_ | refine K_n' rfl rfl rfl ?_ | refine K_s rfl ?_)); refine K_nil ?_
    -- the columns' numbers at first
    have hbl : (baseD l.cols costs).length = l.cols.length := by simp [baseD]
    refine G_mid (α := Nat) (fun nx => 1 < nx) (fun _ => [(3, .iptr [colsAV l.cols, rowsAV l.rows] 0), (8, frAV ys), (10, .slice 1 0 l.cols.length l.cols.length true 1)]) (fun nx => He [(1, .cells (fr (baseD l.cols costs)))] nx) ?_ ?_
    · refine K_run hN ?_; (repeat (first | refine K_v rfl rfl ?_ | refine K_g rfl rfl ?_ | refine K_n rfl rfl rfl rfl ?_ | refine K_n' rfl rfl rfl ?_ | refine K_s rfl ?_)); refine K_nil ?_
      refine G_block ?_
      refine G_loop (α := Nat × Nat) (fun a => a.1 ≤ l.cols.length ∧ 1 < a.2) (fun a => l.cols.length - a.1) (fun a => [(2, .bool costs), (3, .iptr [colsAV l.cols, rowsAV l.rows] 0), (8, frAV ys), (10, .slice 1 0 l.cols.length l.cols.length true 1), (42, colsAV l.cols), (43, .int .i64 (l.cols.length : Nat)), (44, .int .i64 (a.1 : Nat))]) (fun a => He [(1, .cells (fillC (baseD l.cols costs) a.1))] a.2)
        (0, 2) ⟨Nat.zero_le _, by decide⟩ (M1 rfl <| M1 rfl <| M1 rfl <| M1 rfl <| M1 rfl <| M1 rfl <| M1 rfl M0) (He_sub (Nat.le_refl _) (O1 (by
          show some (Ob.cells (repl l.cols.length [.nilp])) = _
          rw [repl_nilp, fillC, hbl]; rfl) O0)) fun ⟨i, nx⟩ ⟨i1, i2⟩ => ?_
      simp only at i1 i2
      refine K_run hN ?_; (repeat (first | refine K_v rfl rfl ?_ | refine K_g rfl rfl ?_ | refine K_n rfl rfl rfl rfl ?_ | refine K_n' rfl rfl rfl ?_ | refine K_s rfl ?_)); refine K_nil ?_
      refine G_seq ?_
      by_cases hi : i < l.cols.length
      · refine K_if1 rfl (decide_eq_true (by omega)) (G_skip (G_pop ?_))
        have hc : l.cols[i]? = some l.cols[i] := List.getElem?_eq_getElem hi
        have hsh := hl.cols l.cols[i] (List.getElem_mem _)
        have hbase : (baseD l.cols costs).getD i 0 = bif costs then qv l.cols[i].cost else 0 := by simp [baseD, List.getD_eq_getElem?_getD, List.getElem?_eq_getElem hi]
        have hcost : isq l.cols[i].cost = true := by
          have := hm.col _ (List.getElem_mem hi)
          simp only [colOk, Bool.and_eq_true] at this
          exact this.1.1.1
        generalize l.cols[i] = c at *
        have hread := prob_read_ans c.cost hsh.cost
        rw [rdAV_some hcost] at hread
        have hfl := fillC_len (b := baseD l.cols costs) (i := i) (by omega)
        have hfs := fillC_set (b := baseD l.cols costs) (i := i) (by omega)
        refine G_seq (G_block ?_)
        refine K_run hN ?_; (repeat (first | refine K_v rfl rfl ?_ | refine K_g rfl rfl ?_ | refine K_n rfl rfl rfl rfl ?_ | refine K_n' rfl rfl rfl ?_ | refine K_s rfl ?_))
        refine K_v rfl (g_idxi i rfl rfl rfl rfl rfl hi) ?_
        refine K_v rfl (g_ldagg rfl rfl rfl rfl rfl (fm_seg ColS.av 5 ColS.av_len hc)) ?_
        (repeat (first | refine K_v rfl rfl ?_ | refine K_g rfl rfl ?_ | refine K_n rfl rfl rfl rfl ?_ | refine K_n' rfl rfl rfl ?_ | refine K_s rfl ?_))
        refine K_s (g_stbox rfl rfl rfl rfl rfl rfl (T.get_set_same _ _ _) rfl) ?_
        refine K_nil ?_
        refine G_unboxE 12 nx c.av [(2, .bool costs), (3, .iptr [colsAV l.cols, rowsAV l.rows] 0), (8, frAV ys), (10, .slice 1 0 l.cols.length l.cols.length true 1), (11, .int .i64 (i : Nat)), (42, colsAV l.cols), (43, .int .i64 (l.cols.length : Nat)), (44, .int .i64 (i : Nat))] [(1, .cells (fillC (baseD l.cols costs) i))] (nx + 1) rfl (T.get_set_same _ _ _) (M1 rfl <| M1 rfl <| M1 rfl <| M1 rfl <| M1 rfl <| M1 rfl <| M1 rfl <| M1 rfl M0) (Od (get_box (by omega)) (by omega) O0) (Nat.le_refl _) ?_
        refine K_run hN ?_; (repeat (first | refine K_v rfl rfl ?_ | refine K_g rfl rfl ?_ | refine K_n rfl rfl rfl rfl ?_ | refine K_n' rfl rfl rfl ?_ | refine K_s rfl ?_ | refine K_c rfl rfl (hof _) ?_))
        refine K_v rfl (g_idx1 i rfl rfl rfl rfl rfl rfl hi) ?_
        refine K_s (g_store1 rfl rfl rfl rfl rfl rfl rfl (by rw [hfl]; omega)) ?_
        refine K_nil ?_
        refine K_run hN ?_; (repeat (first | refine K_v rfl rfl ?_ | refine K_g rfl rfl ?_ | refine K_n rfl rfl rfl rfl ?_ | refine K_n' rfl rfl rfl ?_ | refine K_s rfl ?_)); refine K_nil ?_
        have e0 : 0 + i = i := Nat.zero_add i
        cases costs with
        | false =>
          refine G_if0 rfl (G_skip ?_)
          refine G_popb (G_pop ?_)
          refine K_run1 hN ?_
          refine K_i rfl rfl (wi64 (b := ((i + 1 : Nat) : Int)) (by omega) (by omega) (by omega)) ?_
          (repeat (first | refine K_v rfl rfl ?_ | refine K_g rfl rfl ?_ | refine K_n rfl rfl rfl rfl ?_ | refine K_n' rfl rfl rfl ?_ | refine K_s rfl ?_)); refine K_nil ?_
          refine G_again (i + 1, nx + 1) ⟨hi, by simp only; omega⟩ (by simp only; omega) (M1 rfl <| M1 rfl <| M1 rfl <| M1 rfl <| M1 rfl <| M1 rfl <| M1 rfl M0) (He_sub (Nat.le_refl _) (O1 ((T.get_set_same _ _ _).trans ?_) O0))
          rw [e0, ← (hfs .nilp).2, hbase]
          rfl
        | true =>
          refine G_if1 rfl ?_
          refine K_run1 hN ?_; (repeat (first | refine K_v rfl rfl ?_ | refine K_g rfl rfl ?_ | refine K_n rfl rfl rfl rfl ?_ | refine K_n' rfl rfl rfl ?_ | refine K_s rfl ?_ | refine K_c rfl rfl (hread _) ?_))
          refine K_v rfl (g_idx1 i rfl rfl rfl rfl rfl rfl hi) ?_
          refine K_s (g_store1 rfl rfl rfl rfl rfl rfl (T.get_set_same _ _ _) (by rw [List.length_set, hfl]; omega)) ?_
          refine K_nil ?_
          refine G_popb (G_pop ?_)
          refine K_run1 hN ?_
          refine K_i rfl rfl (wi64 (b := ((i + 1 : Nat) : Int)) (by omega) (by omega) (by omega)) ?_
          (repeat (first | refine K_v rfl rfl ?_ | refine K_g rfl rfl ?_ | refine K_n rfl rfl rfl rfl ?_ | refine K_n' rfl rfl rfl ?_ | refine K_s rfl ?_)); refine K_nil ?_
          refine G_again (i + 1, nx + 1) ⟨hi, by simp only; omega⟩ (by simp only; omega) (M1 rfl <| M1 rfl <| M1 rfl <| M1 rfl <| M1 rfl <| M1 rfl <| M1 rfl M0) (He_sub (Nat.le_refl _) (O1 ((T.get_set_same _ _ _).trans ?_) O0))
          rw [e0, ← (hfs (AV.frac ((0 : Int) : Rat))).1, hbase]
          rfl
      · refine K_if0 rfl (decide_eq_false (by omega)) ?_
        obtain rfl : i = l.cols.length := by omega
        refine G_exit (G_pops (G_leave (G_popx (G_done nx i2 (M1 rfl <| M1 rfl <| M1 rfl M0) (He_sub (Nat.le_refl _) (O1 ?_ O0))))))
        show some (Ob.cells (fillC (baseD l.cols costs) l.cols.length)) = _
        rw [← fillC_all, hbl]
    · intro nx hnx
      refine K_run hN ?_; (repeat (first | refine K_v rfl rfl ?_ | refine K_g rfl rfl ?_ | refine K_n rfl rfl rfl rfl ?_ | refine K_n' rfl rfl rfl ?_ | refine K_s rfl ?_ | refine K_c rfl rfl (hof _) ?_)); refine K_nil ?_
      -- the rows
      refine G_mid (α := Nat) (fun nx => 1 < nx ∧ allB l.rows.length (fun i => signOk (l.rows.getD i default).kind (ys.getD i 0)) = true) (fun _ => [(3, .iptr [colsAV l.cols, rowsAV l.rows] 0), (10, .slice 1 0 l.cols.length l.cols.length true 1), (13, .frac (oI l ys l.rows.length))]) (fun nx => He [(1, .cells (fr (dI l ys costs l.rows.length)))] nx) ?_ ?_
      · have hIDX : ∀ i, i < l.rows.length → (i : Nat) < ys.length := fun i hi => by rw [hysl]; exact hi
        refine K_run hN ?_; (repeat (first | refine K_v rfl rfl ?_ | refine K_g rfl rfl ?_ | refine K_n rfl rfl rfl rfl ?_ | refine K_n' rfl rfl rfl ?_ | refine K_s rfl ?_)); refine K_nil ?_
        refine G_block ?_
        refine G_loop (α := Nat × Nat) (fun a => a.1 ≤ l.rows.length ∧ 1 < a.2 ∧ allB a.1 (fun i => signOk (l.rows.getD i default).kind (ys.getD i 0)) = true) (fun a => l.rows.length - a.1) (fun a => [(3, .iptr [colsAV l.cols, rowsAV l.rows] 0), (8, frAV ys), (10, .slice 1 0 l.cols.length l.cols.length true 1), (13, .frac (oI l ys a.1)), (63, rowsAV l.rows), (64, .int .i64 (l.rows.length : Nat)), (65, .int .i64 (a.1 : Nat))]) (fun a => He [(1, .cells (fr (dI l ys costs a.1)))] a.2)
          (0, nx) ⟨Nat.zero_le _, hnx, rfl⟩ (M1 rfl <| M1 rfl <| M1 rfl <| M2 rfl rfl <| M1 rfl <| M1 rfl <| M1 rfl M0) (Heap.Sub.refl _) fun ⟨i, nx⟩ ⟨i1, i2, i3⟩ => ?_
        simp only at i1 i2 i3
        refine K_run hN ?_; (repeat (first | refine K_v rfl rfl ?_ | refine K_g rfl rfl ?_ | refine K_n rfl rfl rfl rfl ?_ | refine K_n' rfl rfl rfl ?_ | refine K_s rfl ?_)); refine K_nil ?_
        refine G_seq ?_
        by_cases hi : i < l.rows.length
        · refine K_if1 rfl (decide_eq_true (by omega)) (G_skip (G_pop ?_))
          have hr : l.rows[i]? = some l.rows[i] := List.getElem?_eq_getElem hi
          have hsh := hl.rows l.rows[i] (List.getElem_mem _)
          have hco := hm.coef l.rows[i] (List.getElem_mem _)
          have hcl := hm.len l.rows[i] (List.getElem_mem _)
          have hrq := hm.rhs l.rows[i] (List.getElem_mem _)
          have hgr := getD_at hr
          generalize l.rows[i] = r at *
          have hyi := fr_at (hIDX i hi)
          have hyB : Bt 6700 (ys.getD i 0) := getD_bt hyb (by decide) i
          have hoS : oI l ys (i + 1) = oI l ys i + ys.getD i 0 * qv r.rhs := by simp only [oI, sm, hgr]
          have hdS : dI l ys costs (i + 1) = rowStep (ys.getD i 0) r.coef (dI l ys costs i) := by rw [dI, hgr]
          have hdB := dI_bt l hm hyb costs i i1
          have hdL := dI_len l ys costs i
          have hoB := ((oI_bt l hyb i).le (m := 2000000000) (by omega)).hq (by decide)
          have hread := prob_read_ans r.rhs hsh.rhs
          have hsg := fun H => frac_Frac_Sign_ans (X := ext0) (Y := lies0) hN (.frac (ys.getD i 0)) (hyB.hq (by decide)).n.sm H
          have hmul := fun H => frac_Frac_Mul_ans (X := ext0) (Y := lies0) hN (.frac (ys.getD i 0)) (rdAV_q r.rhs) (hyB.hq (by decide)) (qv_hq r.rhs) H
          have hadd := fun H => frac_Frac_Add_ans (X := ext0) (Y := lies0) hN (.frac (oI l ys i)) (.frac (ys.getD i 0 * qv r.rhs)) hoB ((hyB.mul (qv_bt r.rhs)).hq (by decide)) H
          have hbad : signOk r.kind (ys.getD i 0) = false → boundB l y costs = false := fun h => by
            rw [hbS, allB_false hi (by rw [hgr]; exact h)]; rfl
          have hgood : signOk r.kind (ys.getD i 0) = true → allB (i + 1) (fun i => signOk (l.rows.getD i default).kind (ys.getD i 0)) = true := fun h => by
            simp only [allB, i3, hgr, h, Bool.and_self]
          generalize ys.getD i 0 = yi at *
          have e1 : decide (sgnR yi > 0) = decide (0 < yi) := by
            rw [decide_eq_decide]
            unfold sgnR
            split
            · exact ⟨fun h => absurd h (by decide), fun h => by grind⟩
            · split
              · exact ⟨fun h => absurd h (by decide), fun h => by grind⟩
              · exact ⟨fun _ => by grind, fun _ => by decide⟩
          have e2 : decide (sgnR yi < 0) = decide (yi < 0) := by
            rw [decide_eq_decide]
            unfold sgnR
            split
            · exact ⟨fun _ => by assumption, fun _ => by decide⟩
            · split
              · exact ⟨fun h => absurd h (by decide), fun h => by grind⟩
              · exact ⟨fun h => absurd h (by decide), fun h => by grind⟩
          refine G_seq (G_block ?_)
          refine K_run hN ?_; (repeat (first | refine K_v rfl rfl ?_ | refine K_g rfl rfl ?_ | refine K_n rfl rfl rfl rfl ?_ | refine K_n' rfl rfl rfl ?_ | refine K_s rfl ?_))
          refine K_v rfl (g_idxi i rfl rfl rfl rfl rfl hi) ?_
          refine K_v rfl (g_ldagg rfl rfl rfl rfl rfl (fm_seg RowS.av 5 RowS.av_len hr)) ?_
          (repeat (first | refine K_v rfl rfl ?_ | refine K_g rfl rfl ?_ | refine K_n rfl rfl rfl rfl ?_ | refine K_n' rfl rfl rfl ?_ | refine K_s rfl ?_))
          refine K_s (g_stbox rfl rfl rfl rfl rfl rfl (T.get_set_same _ _ _) rfl) ?_
          refine K_nil ?_
          refine G_unboxE 15 nx r.av [(3, .iptr [colsAV l.cols, rowsAV l.rows] 0), (8, frAV ys), (10, .slice 1 0 l.cols.length l.cols.length true 1), (13, .frac (oI l ys i)), (14, .int .i64 (i : Nat)), (63, rowsAV l.rows), (64, .int .i64 (l.rows.length : Nat)), (65, .int .i64 (i : Nat))] [(1, .cells (fr (dI l ys costs i)))] (nx + 1) rfl (T.get_set_same _ _ _) (M1 rfl <| M1 rfl <| M1 rfl <| M1 rfl <| M1 rfl <| M1 rfl <| M1 rfl <| M1 rfl M0) (Od (get_box (by omega)) (by omega) O0) (Nat.le_refl _) ?_
          refine G_mid (α := Unit) (fun _ => signOk r.kind yi = true) (fun _ => [(3, .iptr [colsAV l.cols, rowsAV l.rows] 0), (8, frAV ys), (10, .slice 1 0 l.cols.length l.cols.length true 1), (13, .frac (oI l ys i)), (14, .int .i64 (i : Nat)), (15, .iptr r.av 0), (63, rowsAV l.rows), (64, .int .i64 (l.rows.length : Nat)), (65, .int .i64 (i : Nat))]) (fun _ => He [(1, .cells (fr (dI l ys costs i)))] (nx + 1)) ?_ ?_
          · cases hk1 : decide (r.kind = 1) <;> cases hk3 : decide (r.kind = 3) <;> cases hs1 : decide (0 < yi) <;> cases hs2 : decide (yi < 0) <;> rw [hs1] at e1 <;> rw [hs2] at e2 <;>
              (refine K_run hN ?_; (repeat (first | refine K_v rfl (g_idxi1 i rfl rfl rfl rfl rfl rfl (hIDX i hi)) ?_ | refine K_v rfl (g_load rfl rfl rfl rfl rfl hyi) ?_ | refine K_b rfl rfl hk1 ?_ | refine K_b rfl rfl hk3 ?_ | refine K_b rfl rfl e1 ?_ | refine K_b rfl rfl e2 ?_ | refine K_v rfl rfl ?_ | refine K_g rfl rfl ?_ | refine K_n rfl rfl rfl rfl ?_ | refine K_n' rfl rfl rfl ?_ | refine K_s rfl ?_ | refine K_c rfl rfl (hsg _) ?_)); refine K_nil ?_) <;>
              first
              | (refine G_if0 rfl (G_skip ?_)
                 exact G_done () (by simp only [signOk, hk1, hk3, hs1, hs2]; rfl) (M1 rfl <| M1 rfl <| M1 rfl <| M1 rfl <| M1 rfl <| M1 rfl <| M1 rfl <| M1 rfl <| M1 rfl M0) (Heap.Sub.refl _))
              | (refine G_if1 rfl ?_
                 have hb := hbad (by simp only [signOk, hk1, hk3, hs1, hs2]; rfl)
                 refine K_run hN ?_; (repeat (first | refine K_v rfl rfl ?_ | refine K_g rfl rfl ?_ | refine K_n rfl rfl rfl rfl ?_ | refine K_n' rfl rfl rfl ?_ | refine K_s rfl ?_)); refine K_nil ?_
                 exact G_ret (MP_ret (LP_ret (MP_ret (G_end rfl ⟨10, by rw [boundS, hb]; rfl⟩)))))
          · rintro ⟨⟩ hsok
            refine K_draw hN mixed (by rfl) ?_
            (repeat (first | refine KD_q rfl rfl (g_idxi1 i rfl rfl rfl rfl rfl rfl (hIDX i hi)) ?_ | refine KD_qg rfl rfl rfl rfl (g_idxi1 i rfl rfl rfl rfl rfl rfl (hIDX i hi)) ?_ | refine KD_q rfl rfl (g_load rfl rfl rfl rfl rfl hyi) ?_ | refine KD_qg rfl rfl rfl rfl (g_load rfl rfl rfl rfl rfl hyi) ?_ | refine KD_q rfl rfl rfl ?_ | refine KD_qg rfl rfl rfl rfl rfl ?_ | refine KD_n rfl rfl rfl rfl ?_ | refine KD_n' rfl rfl rfl ?_ | refine KD_c rfl rfl rfl (hread _) ?_ | refine KD_cg rfl rfl rfl rfl rfl (hread _) ?_ | refine KD_c rfl rfl rfl (hmul _) ?_ | refine KD_cg rfl rfl rfl rfl rfl (hmul _) ?_ | refine KD_c rfl rfl rfl (hadd _) ?_ | refine KD_cg rfl rfl rfl rfl rfl (hadd _) ?_)); refine KD_nil ?_
            refine K_run hN ?_; (repeat (first | refine K_v rfl rfl ?_ | refine K_g rfl rfl ?_ | refine K_n rfl rfl rfl rfl ?_ | refine K_n' rfl rfl rfl ?_ | refine K_s rfl ?_)); refine K_nil ?_
            refine G_block ?_
            refine G_loop (α := Nat × Nat) (fun a => a.1 ≤ r.coef.length ∧ 1 < a.2) (fun a => r.coef.length - a.1) (fun a => [(3, .iptr [colsAV l.cols, rowsAV l.rows] 0), (8, frAV ys), (10, .slice 1 0 l.cols.length l.cols.length true 1), (13, .frac (oI l ys (i + 1))), (14, .int .i64 (i : Nat)), (63, rowsAV l.rows), (64, .int .i64 (l.rows.length : Nat)), (65, .int .i64 (i : Nat)), (105, coefAV r.coef), (106, .int .i64 (r.coef.length : Nat)), (107, .int .i64 (a.1 : Nat))]) (fun a => He [(1, .cells (fr (rowStep yi (r.coef.take a.1) (dI l ys costs i))))] a.2)
              (0, nx + 1) ⟨Nat.zero_le _, by simp only; omega⟩ (M1 rfl <| M1 rfl <| M1 rfl <| M2 rfl (by rw [hoS]) <| M1 rfl <| M1 rfl <| M1 rfl <| M1 rfl <| M1 rfl <| M1 rfl <| M1 rfl M0) (Heap.Sub.refl _) fun ⟨k, nx⟩ ⟨j1, j2⟩ => ?_
            simp only at j1 j2
            refine K_run hN ?_; (repeat (first | refine K_v rfl rfl ?_ | refine K_g rfl rfl ?_ | refine K_n rfl rfl rfl rfl ?_ | refine K_n' rfl rfl rfl ?_ | refine K_s rfl ?_)); refine K_nil ?_
            refine G_seq ?_
            by_cases hk : k < r.coef.length
            · refine K_if1 rfl (decide_eq_true (by omega)) (G_skip (G_pop ?_))
              have hx : r.coef[k]? = some r.coef[k] := List.getElem?_eq_getElem hk
              have hst : rowStep yi (r.coef.take (k + 1)) (dI l ys costs i) = (rowStep yi (r.coef.take k) (dI l ys costs i)).set r.coef[k].1.toNat ((rowStep yi (r.coef.take k) (dI l ys costs i)).getD r.coef[k].1.toNat 0 - qv r.coef[k].2 * yi) := by
                rw [List.take_succ_eq_append_getElem hk, rowStep_snoc]
              have hshc := hsh.coef r.coef[k] (List.getElem_mem _)
              obtain ⟨c0, c1, c2, c3⟩ := hco r.coef[k] (List.getElem_mem _)
              generalize r.coef[k] = cv at *
              obtain ⟨j, v⟩ := cv
              simp only at hst hshc c0 c1 c2 c3
              obtain ⟨j, rfl⟩ : ∃ n : Nat, j = n := ⟨j.toNat, by omega⟩
              rw [Int.toNat_natCast] at hst
              have hj : j < l.cols.length := by omega
              have hDl : (rowStep yi (r.coef.take k) (dI l ys costs i)).length = l.cols.length := by rw [rowStep_len, hdL]
              have hDb := (rowStep_bt hyB (r.coef.take k) (by omega) hdB).le (k' := 2000000000) (by rw [List.length_take]; omega)
              generalize rowStep yi (r.coef.take k) (dI l ys costs i) = D at *
              have hDj := fr_at (xs := D) (j := 0 + j) (by rw [hDl]; omega)
              rw [Nat.zero_add] at hDj
              have hreadv := prob_read_ans v hshc
              have hmulv := fun H => frac_Frac_Mul_ans (X := ext0) (Y := lies0) hN (rdAV_q v) (.frac yi) (qv_hq v) (hyB.hq (by decide)) H
              have hsub := fun H => frac_Frac_Sub_ans (X := ext0) (Y := lies0) hN (.frac (D.getD j 0)) (.frac (qv v * yi)) ((hDb.at (by decide) j).hq (by decide)) (((qv_bt v).mul hyB).hq (by decide)) H
              have hDj' : (fr D)[0 + j]? = some (.frac (D.getD j 0)) := by rw [Nat.zero_add]; exact hDj
              refine G_seq (G_block ?_)
              refine K_run hN ?_
              refine K_v rfl (g_idxi k rfl rfl rfl rfl rfl hk) ?_
              refine K_v rfl (g_ldagg rfl rfl rfl rfl rfl (fm_seg cav 2 cav_len hx)) ?_
              (repeat (first | refine K_v rfl rfl ?_ | refine K_g rfl rfl ?_ | refine K_n rfl rfl rfl rfl ?_ | refine K_n' rfl rfl rfl ?_ | refine K_s rfl ?_))
              refine K_s (g_stbox rfl rfl rfl rfl rfl rfl (T.get_set_same _ _ _) rfl) ?_
              refine K_nil ?_
              refine G_unboxE 17 nx (cav (j, v)) [(3, .iptr [colsAV l.cols, rowsAV l.rows] 0), (8, frAV ys), (10, .slice 1 0 l.cols.length l.cols.length true 1), (13, .frac (oI l ys (i + 1))), (14, .int .i64 (i : Nat)), (63, rowsAV l.rows), (64, .int .i64 (l.rows.length : Nat)), (65, .int .i64 (i : Nat)), (105, coefAV r.coef), (106, .int .i64 (r.coef.length : Nat)), (107, .int .i64 (k : Nat))] [(1, .cells (fr D))] (nx + 1) rfl (T.get_set_same _ _ _) (M1 rfl <| M1 rfl <| M1 rfl <| M1 rfl <| M1 rfl <| M1 rfl <| M1 rfl <| M1 rfl <| M1 rfl <| M1 rfl <| M1 rfl M0) (Od (get_box (by omega)) (by omega) O0) (Nat.le_refl _) ?_
              refine K_drawS1 hN mixed rfl rfl rfl rfl rfl rfl ?_
              (repeat (first | refine KD_q rfl rfl (g_idxi1 i rfl rfl rfl rfl rfl rfl (hIDX i hi)) ?_ | refine KD_qg rfl rfl rfl rfl (g_idxi1 i rfl rfl rfl rfl rfl rfl (hIDX i hi)) ?_ | refine KD_q rfl rfl (g_load rfl rfl rfl rfl rfl hyi) ?_ | refine KD_qg rfl rfl rfl rfl (g_load rfl rfl rfl rfl rfl hyi) ?_ | refine KD_q rfl rfl (g_idx1 j rfl rfl rfl rfl rfl rfl hj) ?_ | refine KD_qg rfl rfl rfl rfl (g_idx1 j rfl rfl rfl rfl rfl rfl hj) ?_ | refine KD_q rfl rfl (g_load rfl rfl rfl rfl rfl hDj') ?_ | refine KD_qg rfl rfl rfl rfl (g_load rfl rfl rfl rfl rfl hDj') ?_ | refine KD_q rfl rfl rfl ?_ | refine KD_qg rfl rfl rfl rfl rfl ?_ | refine KD_n rfl rfl rfl rfl ?_ | refine KD_n' rfl rfl rfl ?_ | refine KD_c rfl rfl rfl (hreadv _) ?_ | refine KD_cg rfl rfl rfl rfl rfl (hreadv _) ?_ | refine KD_c rfl rfl rfl (hmulv _) ?_ | refine KD_cg rfl rfl rfl rfl rfl (hmulv _) ?_ | refine KD_c rfl rfl rfl (hsub _) ?_ | refine KD_cg rfl rfl rfl rfl rfl (hsub _) ?_)); refine KD_nil ?_
              refine ⟨_, g_store1 rfl rfl rfl rfl rfl rfl rfl (by rw [fr_len, hDl]; omega), ?_⟩
              refine G_popb (G_pop ?_)
              refine K_run1 hN ?_
              refine K_i rfl rfl (wi64 (b := ((k + 1 : Nat) : Int)) (by omega) (by omega) (by omega)) ?_
              (repeat (first | refine K_v rfl rfl ?_ | refine K_g rfl rfl ?_ | refine K_n rfl rfl rfl rfl ?_ | refine K_n' rfl rfl rfl ?_ | refine K_s rfl ?_)); refine K_nil ?_
              refine G_again (k + 1, nx + 1) ⟨hk, by simp only; omega⟩ (by simp only; omega) (M1 rfl <| M1 rfl <| M1 rfl <| M1 rfl <| M1 rfl <| M1 rfl <| M1 rfl <| M1 rfl <| M1 rfl <| M1 rfl <| M1 rfl M0) (He_sub (Nat.le_refl _) (O1 ((T.get_set_same _ _ _).trans ?_) O0))
              rw [hst, Nat.zero_add, fr_set]
            · refine K_if0 rfl (decide_eq_false (by omega)) ?_
              obtain rfl : k = r.coef.length := by omega
              refine G_exit (G_pops (G_leave (G_popx (G_popb (G_pop ?_)))))
              refine K_run1 hN ?_
              refine K_i rfl rfl (wi64 (b := ((i + 1 : Nat) : Int)) (by omega) (by omega) (by omega)) ?_
              (repeat (first | refine K_v rfl rfl ?_ | refine K_g rfl rfl ?_ | refine K_n rfl rfl rfl rfl ?_ | refine K_n' rfl rfl rfl ?_ | refine K_s rfl ?_)); refine K_nil ?_
              refine G_again (i + 1, nx) ⟨hi, j2, hgood hsok⟩ (by simp only; omega) (M1 rfl <| M1 rfl <| M1 rfl <| M1 rfl <| M1 rfl <| M1 rfl <| M1 rfl M0) (He_sub (Nat.le_refl _) (O1 ?_ O0))
              rw [hdS]
              show some (Ob.cells (fr (rowStep yi (r.coef.take r.coef.length) (dI l ys costs i)))) = _
              rw [List.take_length]
        · refine K_if0 rfl (decide_eq_false (by omega)) ?_
          obtain rfl : i = l.rows.length := by omega
          exact G_exit (G_pops (G_leave (G_popx (G_done nx ⟨i2, i3⟩ (M1 rfl <| M1 rfl <| M1 rfl M0) (Heap.Sub.refl _)))))
      · rintro nx ⟨hnx, hsig⟩
        rw [hsig, Bool.true_and] at hbS
        have hDl := dI_len l ys costs l.rows.length
        have hDb := (dI_bt l hm hyb costs _ (Nat.le_refl _)).le (k' := 2000000000) (by omega)
        have hpart : ∀ j, partR l ys costs j = leastR (l.cols.getD j default) ((dI l ys costs l.rows.length).getD j 0) := fun j => rfl
        have houtB := fun n hn => outR_bt l hm hyb costs n hn
        generalize hD : dI l ys costs l.rows.length = D at *
        refine G_mid (α := Nat) (fun nx => allB l.cols.length (fun j => (partR l ys costs j).isSome) = true) (fun _ => [(13, .frac (outR l ys costs l.cols.length))]) (fun nx => Hn nx) ?_ ?_
        · refine K_run hN ?_; (repeat (first | refine K_v rfl rfl ?_ | refine K_g rfl rfl ?_ | refine K_n rfl rfl rfl rfl ?_ | refine K_n' rfl rfl rfl ?_ | refine K_s rfl ?_)); refine K_nil ?_
          refine G_block ?_
          refine G_loop (α := Nat × Nat) (fun a => a.1 ≤ l.cols.length ∧ 1 < a.2 ∧ allB a.1 (fun j => (partR l ys costs j).isSome) = true) (fun a => l.cols.length - a.1) (fun a => [(10, .slice 1 0 l.cols.length l.cols.length true 1), (13, .frac (outR l ys costs a.1)), (132, colsAV l.cols), (133, .int .i64 (l.cols.length : Nat)), (134, .int .i64 (a.1 : Nat))]) (fun a => He [(1, .cells (fr D))] a.2)
            (0, nx) ⟨Nat.zero_le _, hnx, rfl⟩ (M1 rfl <| M2 rfl (by simp only [outR, sm]; rw [Rat.add_zero]) <| M1 rfl <| M1 rfl <| M1 rfl M0) (Heap.Sub.refl _) fun ⟨j, nx⟩ ⟨j1, j2, j3⟩ => ?_
          simp only at j1 j2 j3
          refine K_run hN ?_; (repeat (first | refine K_v rfl rfl ?_ | refine K_g rfl rfl ?_ | refine K_n rfl rfl rfl rfl ?_ | refine K_n' rfl rfl rfl ?_ | refine K_s rfl ?_)); refine K_nil ?_
          refine G_seq ?_
          by_cases hj : j < l.cols.length
          · refine K_if1 rfl (decide_eq_true (by omega)) (G_skip (G_pop ?_))
            have hc : l.cols[j]? = some l.cols[j] := List.getElem?_eq_getElem hj
            have hsh := hl.cols l.cols[j] (List.getElem_mem _)
            have hgc := getD_at hc
            generalize l.cols[j] = c at *
            have hDj : (fr D)[0 + j]? = some (.frac (D.getD j 0)) := by rw [Nat.zero_add]; exact fr_at (by rw [hDl]; exact hj)
            have hleast := prob_least_ans c hsh (D.getD j 0) ((hDb.at (by decide) j).hq (by decide))
            have hpj := hpart j
            rw [hgc] at hpj
            have hlb := least_bt (c := c) (hDb.at (by decide) j) (by decide)
            refine G_seq (G_block ?_)
            refine K_run hN ?_; (repeat (first | refine K_v rfl rfl ?_ | refine K_g rfl rfl ?_ | refine K_n rfl rfl rfl rfl ?_ | refine K_n' rfl rfl rfl ?_ | refine K_s rfl ?_))
            refine K_v rfl (g_idxi j rfl rfl rfl rfl rfl hj) ?_
            refine K_v rfl (g_ldagg rfl rfl rfl rfl rfl (fm_seg ColS.av 5 ColS.av_len hc)) ?_
            (repeat (first | refine K_v rfl rfl ?_ | refine K_g rfl rfl ?_ | refine K_n rfl rfl rfl rfl ?_ | refine K_n' rfl rfl rfl ?_ | refine K_s rfl ?_))
            refine K_s (g_stbox rfl rfl rfl rfl rfl rfl (T.get_set_same _ _ _) rfl) ?_
            refine K_nil ?_
            refine G_unboxE 19 nx c.av [(10, .slice 1 0 l.cols.length l.cols.length true 1), (13, .frac (outR l ys costs j)), (18, .int .i64 (j : Nat)), (132, colsAV l.cols), (133, .int .i64 (l.cols.length : Nat)), (134, .int .i64 (j : Nat))] [(1, .cells (fr D))] (nx + 1) rfl (T.get_set_same _ _ _) (M1 rfl <| M1 rfl <| M1 rfl <| M1 rfl <| M1 rfl <| M1 rfl M0) (Od (get_box (by omega)) (by omega) O0) (Nat.le_refl _) ?_
            cases hlr : leastR c (D.getD j 0) with
            | none =>
              rw [hlr] at hleast hpj
              refine K_draw hN mixed (by rfl) ?_
              (repeat (first | refine KD_q rfl rfl (g_idx1 j rfl rfl rfl rfl rfl rfl hj) ?_ | refine KD_qg rfl rfl rfl rfl (g_idx1 j rfl rfl rfl rfl rfl rfl hj) ?_ | refine KD_q rfl rfl (g_load rfl rfl rfl rfl rfl hDj) ?_ | refine KD_qg rfl rfl rfl rfl (g_load rfl rfl rfl rfl rfl hDj) ?_ | refine KD_q rfl rfl rfl ?_ | refine KD_qg rfl rfl rfl rfl rfl ?_ | refine KD_n rfl rfl rfl rfl ?_ | refine KD_n' rfl rfl rfl ?_ | refine KD_c rfl rfl rfl (hleast _) ?_ | refine KD_cg rfl rfl rfl rfl rfl (hleast _) ?_)); refine KD_nil ?_
              refine G_seq ?_
              refine K_run hN ?_; (repeat (first | refine K_v rfl rfl ?_ | refine K_g rfl rfl ?_ | refine K_n rfl rfl rfl rfl ?_ | refine K_n' rfl rfl rfl ?_ | refine K_s rfl ?_)); refine K_nil ?_
              refine G_if1 rfl ?_
              have hb : boundB l y costs = false := by rw [hbS, allB_false hj (by rw [hpj]; rfl)]
              refine K_run hN ?_; (repeat (first | refine K_v rfl rfl ?_ | refine K_g rfl rfl ?_ | refine K_n rfl rfl rfl rfl ?_ | refine K_n' rfl rfl rfl ?_ | refine K_s rfl ?_)); refine K_nil ?_
              exact G_ret (LP_ret (MP_ret (G_end rfl ⟨10, by rw [boundS, hb]; rfl⟩)))
            | some q =>
              rw [hlr] at hleast hpj hlb
              have houtS : outR l ys costs (j + 1) = outR l ys costs j + q := by
                simp only [outR, sm, hpj, Option.getD_some]; rw [Rat.add_assoc]
              have hadd := fun H => frac_Frac_Add_ans (X := ext0) (Y := lies0) hN (.frac (outR l ys costs j)) (.frac q) ((houtB j (by omega)).hq (by decide)) (hlb.hq (by decide)) H
              refine K_draw hN mixed (by rfl) ?_
              (repeat (first | refine KD_q rfl rfl (g_idx1 j rfl rfl rfl rfl rfl rfl hj) ?_ | refine KD_qg rfl rfl rfl rfl (g_idx1 j rfl rfl rfl rfl rfl rfl hj) ?_ | refine KD_q rfl rfl (g_load rfl rfl rfl rfl rfl hDj) ?_ | refine KD_qg rfl rfl rfl rfl (g_load rfl rfl rfl rfl rfl hDj) ?_ | refine KD_q rfl rfl rfl ?_ | refine KD_qg rfl rfl rfl rfl rfl ?_ | refine KD_n rfl rfl rfl rfl ?_ | refine KD_n' rfl rfl rfl ?_ | refine KD_c rfl rfl rfl (hleast _) ?_ | refine KD_cg rfl rfl rfl rfl rfl (hleast _) ?_)); refine KD_nil ?_
              refine G_seq ?_
              refine K_run hN ?_; (repeat (first | refine K_v rfl rfl ?_ | refine K_g rfl rfl ?_ | refine K_n rfl rfl rfl rfl ?_ | refine K_n' rfl rfl rfl ?_ | refine K_s rfl ?_)); refine K_nil ?_
              refine G_if0 rfl (G_skip (G_pop ?_))
              refine K_run1 hN ?_; (repeat (first | refine K_v rfl rfl ?_ | refine K_g rfl rfl ?_ | refine K_n rfl rfl rfl rfl ?_ | refine K_n' rfl rfl rfl ?_ | refine K_s rfl ?_ | refine K_c rfl rfl (hadd _) ?_)); refine K_nil ?_
              refine G_popb (G_pop ?_)
              refine K_run1 hN ?_
              refine K_i rfl rfl (wi64 (b := ((j + 1 : Nat) : Int)) (by omega) (by omega) (by omega)) ?_
              (repeat (first | refine K_v rfl rfl ?_ | refine K_g rfl rfl ?_ | refine K_n rfl rfl rfl rfl ?_ | refine K_n' rfl rfl rfl ?_ | refine K_s rfl ?_)); refine K_nil ?_
              exact G_again (j + 1, nx + 1) ⟨hj, by simp only; omega, by simp only [allB, j3, hpj]; rfl⟩ (by simp only; omega) (M1 rfl <| M2 rfl (by rw [houtS]) <| M1 rfl <| M1 rfl <| M1 rfl M0) (Heap.Sub.refl _)
          · refine K_if0 rfl (decide_eq_false (by omega)) ?_
            obtain rfl : j = l.cols.length := by omega
            exact G_exit (G_pops (G_leave (G_popx (G_done nx j3 (M1 rfl M0) (Hn_sub (Nat.le_refl _))))))
        · intro nx hall
          rw [hall] at hbS
          have hB := (houtB l.cols.length knc).hq (by decide)
          have htext := frac_Frac_Text_ans (.frac (outR l ys costs l.cols.length)) hB.n.sm hB.d.sm
          refine K_run hN ?_; (repeat (first | refine K_v rfl rfl ?_ | refine K_g rfl rfl ?_ | refine K_n rfl rfl rfl rfl ?_ | refine K_n' rfl rfl rfl ?_ | refine K_s rfl ?_ | refine K_c rfl rfl (htext _) ?_)); refine K_nil ?_
          exact G_ret (G_end rfl ⟨10, by rw [boundS, hbS, boundR, hys]; rfl⟩)
end Go.Eng
end
section
namespace Go.Eng
open Go.RowKit
theorem DRunK.mono {cx : Cx} {ops : Array Oper} {H : Heap} {sz : Nat} {l : List Oper} {m : List (Nat × AV)} {K1 K2 : List (Nat × AV) → Prop} (h : DRunK cx ops H sz l m K1) (hk : ∀ mr, K1 mr → K2 mr) : DRunK cx ops H sz l m K2 := by
  obtain ⟨mr, h1, h2⟩ := h.run
  exact ⟨mr, h1, hk mr h2⟩
theorem RunK.mono {cx : Cx} {ops : Array Oper} {H : Heap} {sz : Nat} {l : List Oper} {m : List (Nat × AV)} {K1 K2 : List (Nat × AV) → Heap → Prop} (h : RunK cx ops l sz m H K1) (hk : ∀ mr H, K1 mr H → K2 mr H) : RunK cx ops l sz m H K2 :=
  ⟨WOps_mono (fun _e H ⟨m', h1, h2⟩ => ⟨m', h1, hk m' H h2⟩) _ _ _ h.w⟩
theorem Ans_low {cx : Cx} {f : FuncId} {args : List AV} {H : Heap} {P : AV → Heap → Prop} (h : Ans cx f args H fun y K => ∃ K', P y K' ∧ Heap.Sub K' K) : Ans cx f args H P := fun ρ z pv w0 w vs hR hG hV => (h ρ z pv w0 w vs hR hG hV).mono fun en w' hp => by
  obtain ⟨u, ρ', z', x', H', h1, h2, h3, h4, K', h5, h6⟩ := hp
  exact ⟨u, ρ', z', x', K', h1, h2.sub h6, h3, h4, h5⟩
section
variable {cx : Cx} {ops : Array Oper} {H : Heap} {R : AEx → Env → Heap → Prop} {k : List Fr} {KK : List (Nat × AV) → Heap → Prop}
variable {sz i d lm id ld b idr j t : Nat} {w : Bool} {m : List (Nat × AV)} {al : List FE} {hs : List HE} {qs : List QE} {bs : T Nat} {rs : List RE} {l : List Oper} {x : AV} {op : Op} {ty : TypeId} {pos : String} {af : Array Edge} {H' : Heap}
theorem want_of {o : Oper} {ks : List Tmp} (hg : o.guard = some (j, w)) (hj : (ops[j]?).bind (·.dst) = some t) (hb : lq (lookM m ks []) t = some (.bool w)) : wantedA ops ((⟨sz, T.of m⟩ : Env).look ks) o = some true := by
  rw [look_of]
  simp only [wantedA, hg, hj, T.of_get, hb]
  cases w <;> rfl
theorem KE_qg (b i' : Nat) (hi : i + 1 = i') (hz : Nat.blt d sz = true) (hq : (isQ op && !(isCv op)) = true) (hb : bmask bs i af.toList 0 = some b) (hc : clash b (some d) (reads ops ⟨some d, op, ty, pos, af, some (j, w)⟩) rs = true)
    (hj : (ops[j]?).bind (·.dst) = some t) (hw : lq (lookM m (reads ops ⟨some d, op, ty, pos, af, some (j, w)⟩) []) t = some (.bool w))
    (ha : sop cx (lookM m (reads ops ⟨some d, op, ty, pos, af, some (j, w)⟩) []) (landL (selS b ld al) H) op = some (.val x (landL (selS b ld al) H))) (hk : HsOk cx b ⟨some d, op, ty, pos, af, some (j, w)⟩ ⟨sz, T.of (lookM m (reads ops ⟨some d, op, ty, pos, af, some (j, w)⟩) [])⟩ x al hs)
    (h : ERunK cx ops sz l i' ((d, x) :: m) H lm id al ld hs (⟨i, b, ⟨some d, op, ty, pos, af, some (j, w)⟩, ⟨sz, T.of (lookM m (reads ops ⟨some d, op, ty, pos, af, some (j, w)⟩) [])⟩, x⟩ :: qs) (bs.set i b) (⟨i, some d, reads ops ⟨some d, op, ty, pos, af, some (j, w)⟩⟩ :: rs) idr KK) :
    ERunK cx ops sz (⟨some d, op, ty, pos, af, some (j, w)⟩ :: l) i m H lm id al ld hs qs bs rs idr KK := by
  subst hi
  simp only [Bool.and_eq_true, Bool.not_eq_true'] at hq
  obtain ⟨mr, Hr, ⟨s', h1, h2⟩, h3⟩ := h.run
  refine ⟨mr, Hr, ⟨s', .cons b x [] 2 ?_ h1, h2⟩, h3⟩
  refine ⟨hb, hc, rfl, put_of hz x, rfl, rfl, .quiet (want_of rfl hj hw) hq.1 ?_ (HsOk.all ?_) rfl rfl rfl rfl rfl rfl ?_⟩
  · simp only [look_of, sel_S]; exact aq_of hq.2 (sop_ok ha)
  · simp only [look_of]; exact hk
  · simp only [look_of]
theorem KE_n (b i' : Nat) {v : Bool} (hi : i + 1 = i') (hz : Nat.blt d sz = true) (hb : bmask bs i af.toList 0 = some b) (hc : clash b (some d) (reads ops ⟨some d, op, ty, pos, af, some (j, w)⟩) rs = true)
    (hj : (ops[j]?).bind (·.dst) = some t) (hw : lq (lookM m (reads ops ⟨some d, op, ty, pos, af, some (j, w)⟩) []) t = some (.bool v)) (hn : (v == w) = false)
    (h : ERunK cx ops sz l i' ((d, .tuple []) :: m) H lm id al ld hs qs (bs.set i b) (⟨i, some d, reads ops ⟨some d, op, ty, pos, af, some (j, w)⟩⟩ :: rs) idr KK) :
    ERunK cx ops sz (⟨some d, op, ty, pos, af, some (j, w)⟩ :: l) i m H lm id al ld hs qs bs rs idr KK := by
  subst hi
  obtain ⟨mr, Hr, ⟨s', h1, h2⟩, h3⟩ := h.run
  refine ⟨mr, Hr, ⟨s', .cons b (.tuple []) [] 0 ?_ h1, h2⟩, h3⟩
  refine ⟨hb, hc, rfl, put_of hz _, rfl, rfl, .skip ?_ rfl rfl rfl rfl rfl rfl rfl rfl⟩
  rw [look_of]
  simp only [wantedA, hj, T.of_get, hw, hn]
theorem KE_cg {f : FuncId} {args : List AV} (b i' lm' ld' : Nat) (hi : i + 1 = i') (hlm : Nat.lor lm (Nat.shiftLeft 1 i) = lm') (hld : Nat.lor ld b = ld') (hz : Nat.blt d sz = true) (_hq : isQ op = false) (hb : bmask bs i af.toList 0 = some b) (hc : clash b (some d) (reads ops ⟨some d, op, ty, pos, af, some (j, w)⟩) rs = true) (hm : Nat.beq (Nat.land lm b) lm = true)
    (hj : (ops[j]?).bind (·.dst) = some t) (hw : lq (lookM m (reads ops ⟨some d, op, ty, pos, af, some (j, w)⟩) []) t = some (.bool w))
    (ha : sop cx (lookM m (reads ops ⟨some d, op, ty, pos, af, some (j, w)⟩) []) (landL (selS b ld al) H) op = some (.enter f args)) (hs' : Ans cx f args (landL (selS b ld al) H) fun y K => y = x ∧ K = H') (hk : QsOk cx b H' ld' al qs)
    (h : ERunK cx ops sz l i' ((d, x) :: m) H' lm' id al ld' (⟨i, H, ld⟩ :: hs) qs (bs.set i b) (⟨i, some d, reads ops ⟨some d, op, ty, pos, af, some (j, w)⟩⟩ :: rs) idr KK) :
    ERunK cx ops sz (⟨some d, op, ty, pos, af, some (j, w)⟩ :: l) i m H lm id al ld hs qs bs rs idr KK := by
  subst hi
  subst hlm; subst hld
  obtain ⟨mr, Hr, ⟨s', h1, h2⟩, h3⟩ := h.run
  refine ⟨mr, Hr, ⟨s', .cons b x [] 3 ?_ h1, h2⟩, h3⟩
  refine ⟨hb, hc, rfl, put_of hz x, rfl, rfl, .loud (want_of rfl hj hw) hm ?_ hk.all rfl rfl rfl rfl rfl rfl⟩
  simp only [look_of, sel_S, SL, aop, sop_ok ha]
  exact hs'
end
end Go.Eng
end
