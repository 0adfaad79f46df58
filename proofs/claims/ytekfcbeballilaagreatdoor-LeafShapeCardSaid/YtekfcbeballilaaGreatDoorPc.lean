import Derived.Test.YtekfcbeballilaaGreatDoorPb
section
namespace Go.Eng
open Go Go.RowKit Go.Proofs
set_option maxHeartbeats 4000000
set_option maxRecDepth 10000
theorem prob_May_2_ans (l : LPS) (r : RowS) (hr : r.Sh) (H : Heap) : Ans cs0 F.prob_May_2 [.agg r.av, .iptr [colsAV l.cols, rowsAV l.rows] 0] H fun x K => x = .bool (!(rowOk l.cols.length r)) ∧ K = H := by
  have hN := cz_ok
  refine Ans_free gl0_free (Imp.refl _) (by
    have h1 : AV.frees [colsAV l.cols, rowsAV l.rows] = true := lp_free l
    show (AV.frees r.av && (AV.frees [colsAV l.cols, rowsAV l.rows] && true)) = true
    rw [row_frees, h1]; rfl) ?_ H
  have h1 := prob_row_ans r l.cols.length hr
  refine G_body hN (fn := B.prob_May_2) (sz := 10) rfl rfl rfl rfl rfl ?_
  refine K_run hN ?_; (repeat (first | refine K_v rfl rfl ?_ | refine K_g rfl rfl ?_ | refine K_n rfl rfl rfl rfl ?_ | refine K_n' rfl rfl rfl ?_ | refine K_s rfl ?_)); refine K_nil ?_
  refine K_run hN ?_; (repeat (first | refine K_v rfl rfl ?_ | refine K_g rfl rfl ?_ | refine K_n rfl rfl rfl rfl ?_ | refine K_n' rfl rfl rfl ?_ | refine K_s rfl ?_ | refine K_c rfl rfl (h1 _) ?_)); refine K_nil ?_
  exact G_ret (G_end rfl (Frz_bool rfl))
theorem prob_May_ans (l : LPS) (hl : l.Sh) (h1 : l.cols.length < 9223372036854775808) (h2 : l.rows.length < 9223372036854775808) (H : Heap) : Ans cs0 F.prob_May [l.av] H fun x K => x = .bool l.may ∧ K = H := by
  have hN := cz_ok
  refine Ans_free gl0_free (Imp.refl _) (by simp only [AV.frees, lp_free, Bool.and_self]) ?_ H
  refine G_body hN (fn := B.prob_May) (sz := 26) rfl rfl rfl rfl rfl ?_
  refine K_run hN ?_; (repeat (first | refine K_v rfl rfl ?_ | refine K_g rfl rfl ?_ | refine K_n rfl rfl rfl rfl ?_ | refine K_n' rfl rfl rfl ?_ | refine K_s rfl ?_)); refine K_nil ?_
  refine G_unbox 1 0 [colsAV l.cols, rowsAV l.rows] [] 1 rfl rfl M0 (Nat.le_refl _) ?_
  have hc := has_col_ans l.cols h1 F.prob_May_1 [] (fun c => !(colOk c)) (fn := B.prob_May_1) rfl rfl
  have hr := has_row_ans l.rows h2 F.prob_May_2 [.iptr [colsAV l.cols, rowsAV l.rows] 0] (fun r => !(rowOk l.cols.length r)) (fn := B.prob_May_2) rfl rfl
  have hc := fun H => hc H fun c hm => prob_May_1_ans c (hl.cols c hm) H
  have hr := fun H => hr H fun r hm => prob_May_2_ans l r (hl.rows r hm) H
  have ec : (l.cols.any fun c => !(colOk c)) = !(l.cols.all colOk) := by simp [List.not_all_eq_any_not]
  have er : (l.rows.any fun r => !(rowOk l.cols.length r)) = !(l.rows.all (rowOk l.cols.length)) := by simp [List.not_all_eq_any_not]
  rw [ec] at hc
  rw [er] at hr
  refine G_seq ?_
  unfold LPS.may
  cases e1 : decide ((l.cols.length : Int) > 100) with
  | true =>
    have := of_decide_eq_true e1
    refine K_run hN ?_; (repeat (first | refine K_b rfl rfl e1 ?_ | refine K_v rfl rfl ?_ | refine K_g rfl rfl ?_ | refine K_n rfl rfl rfl rfl ?_ | refine K_n' rfl rfl rfl ?_ | refine K_s rfl ?_ | refine K_c rfl rfl (hc _) ?_)); refine K_nil ?_
    refine G_if1 rfl ?_
    refine K_run hN ?_; (repeat (first | refine K_v rfl rfl ?_ | refine K_g rfl rfl ?_ | refine K_n rfl rfl rfl rfl ?_ | refine K_n' rfl rfl rfl ?_ | refine K_s rfl ?_)); refine K_nil ?_
    exact G_ret (G_end rfl (Frz_bool (by rw [decide_eq_false (show ¬ l.cols.length ≤ 100 by omega)]; rfl)))
  | false =>
    have g1 := of_decide_eq_false e1
    cases e2 : decide ((l.rows.length : Int) > 440) with
    | true =>
      have := of_decide_eq_true e2
      refine K_run hN ?_; (repeat (first | refine K_b rfl rfl e1 ?_ | refine K_b rfl rfl e2 ?_ | refine K_v rfl rfl ?_ | refine K_g rfl rfl ?_ | refine K_n rfl rfl rfl rfl ?_ | refine K_n' rfl rfl rfl ?_ | refine K_s rfl ?_ | refine K_c rfl rfl (hc _) ?_)); refine K_nil ?_
      refine G_if1 rfl ?_
      refine K_run hN ?_; (repeat (first | refine K_v rfl rfl ?_ | refine K_g rfl rfl ?_ | refine K_n rfl rfl rfl rfl ?_ | refine K_n' rfl rfl rfl ?_ | refine K_s rfl ?_)); refine K_nil ?_
      exact G_ret (G_end rfl (Frz_bool (by rw [decide_eq_false (show ¬ l.rows.length ≤ 440 by omega)]; simp)))
    | false =>
      have g2 := of_decide_eq_false e2
      refine K_run hN ?_; (repeat (first | refine K_b rfl rfl e1 ?_ | refine K_b rfl rfl e2 ?_ | refine K_v rfl rfl ?_ | refine K_g rfl rfl ?_ | refine K_n rfl rfl rfl rfl ?_ | refine K_n' rfl rfl rfl ?_ | refine K_s rfl ?_ | refine K_c rfl rfl (hc _) ?_)); refine K_nil ?_
      refine G_if0 rfl (G_skip (G_pop ?_))
      rw [decide_eq_true (show l.cols.length ≤ 100 by omega), decide_eq_true (show l.rows.length ≤ 440 by omega)]
      cases hA : l.cols.all colOk with
      | false =>
        rw [hA] at hc
        refine K_run hN ?_; (repeat (first | refine K_v rfl rfl ?_ | refine K_g rfl rfl ?_ | refine K_n rfl rfl rfl rfl ?_ | refine K_n' rfl rfl rfl ?_ | refine K_s rfl ?_ | refine K_c rfl rfl (hc _) ?_)); refine K_nil ?_
        refine K_run hN ?_; (repeat (first | refine K_v rfl rfl ?_ | refine K_g rfl rfl ?_ | refine K_n rfl rfl rfl rfl ?_ | refine K_n' rfl rfl rfl ?_ | refine K_s rfl ?_ | refine K_c rfl rfl (hr _) ?_)); refine K_nil ?_
        exact G_ret (G_end rfl (Frz_bool rfl))
      | true =>
        rw [hA] at hc
        refine K_run hN ?_; (repeat (first | refine K_v rfl rfl ?_ | refine K_g rfl rfl ?_ | refine K_n rfl rfl rfl rfl ?_ | refine K_n' rfl rfl rfl ?_ | refine K_s rfl ?_ | refine K_c rfl rfl (hc _) ?_)); refine K_nil ?_
        refine K_run hN ?_; (repeat (first | refine K_v rfl rfl ?_ | refine K_g rfl rfl ?_ | refine K_n rfl rfl rfl rfl ?_ | refine K_n' rfl rfl rfl ?_ | refine K_s rfl ?_ | refine K_c rfl rfl (hr _) ?_)); refine K_nil ?_
        exact G_ret (G_end rfl (Frz_bool (by simp)))
end Go.Eng
end
section
namespace Go.Eng
open Go.RowKit
/-- A heap by its entries. -/
def He (l : List (Nat × Ob)) (nx : Nat) : Heap := ⟨T.of l, nx, .nil⟩
theorem He_sub {l : List (Nat × Ob)} {nx : Nat} {H : Heap} (h : H.nx ≤ nx) (hl : hasO H.t l) : Heap.Sub (He l nx) H := Heap.Sub.of h hl
theorem He_get (l : List (Nat × Ob)) (nx j : Nat) : (He l nx).t.get j = lq l j := T.of_get l j
theorem O1 {t : T Ob} {j : Nat} {ob : Ob} {l : List (Nat × Ob)} (h : t.get j = some ob) (hl : hasO t l) : hasO t ((j, ob) :: l) := ⟨⟨_, h, ObSub.refl _⟩, hl⟩
theorem O0 {t : T Ob} : hasO t [] := trivial
/-- A row that grows: none yet, or one whose place is 'q'. -/
def tvG (sz : Nat) : Nat → Nat → AV
  | 0, _ => .nilsl
  | n + 1, q => .slice q 0 (n + 1) (n + 1) false sz
theorem allocE_get' (H : Heap) (ob : Ob) (o : Option TypeId) : (H.allocE ob o).t = H.t.set H.nx ob ∧ (H.allocE ob o).nx = H.nx + 1 := by
  cases o <;> exact ⟨rfl, rfl⟩
theorem seg_all (R : List AV) {n : Nat} (h : R.length = n) : seg R 0 n = some R := by
  subst h
  simp [seg]
section
variable {cx : Cx}
/-- One element more. -/
theorem g_app {t u : TypeId} {el n q p : Nat} {dx : TypeDesc} {inf : TypeInfo} {zs R news : List AV} {H0 : Heap} (hp : H0.nx = p) (hq : n = 0 ∨ (q < p ∧ H0.t.get q = some (.cells R))) (hR : R.length = n * inf.size) (hn : n ≤ 100000000)
    (hu : cx.D.und t = some (.slice el)) (hx : cx.D.und u = some dx) (hd : srcD dx = true) (hi : cx.D.inf el = some inf) (hz : zeroOf cx.D el = some zs) (hnl : news.length = inf.size) (ho : allOne news = true) (hby : Nat.ble inf.bytes 1000 = true) :
    ∃ H', (∀ (m : List (Nat × AV)) (a b : Operand), rd cx m a = some (tvG inf.size n q) → rd cx m b = some (.slice p 0 1 1 true inf.size) → sop cx m (H0.alloc (.cells news)) (.call ⟨.builtin .append, #[a, b], #[t, u]⟩) = some (.val (tvG inf.size (n + 1) (p + 1)) H')) ∧ H'.nx = p + 2 ∧ H'.t.get (p + 1) = some (.cells (R ++ news)) ∧ ∀ j, (j ≠ q ∨ n = 0) → j < p → H'.t.get j = H0.t.get j := by
  have hby : inf.bytes ≤ 1000 := by simpa using hby
  have hroom : ∀ k, k ≤ 100000001 → roomOk k inf.bytes = true := fun k hk => by
    simp only [roomOk, Bool.and_eq_true, Nat.ble_eq]
    refine ⟨Nat.le_trans (Nat.mul_le_mul (show 2 * k + 192 ≤ 200000194 by omega) hby) (by decide), by omega⟩
  have hgp : (H0.alloc (.cells news)).t.get p = some (.cells news) := by
    show (H0.t.set H0.nx (.cells news)).get p = _
    rw [hp]; exact T.get_set_same _ _ _
  have hsrc : srcCells (H0.alloc (.cells news)) inf.size (.slice p 0 1 1 true inf.size) = some (news, 1) := by
    simp only [srcCells, hgp, seg_all news (show news.length = 1 * inf.size by omega)]
  have hnx1 : (H0.alloc (.cells news)).nx = p + 1 := by show H0.nx + 1 = p + 1; rw [hp]
  have hoth : ∀ j, j < p → (H0.alloc (.cells news)).t.get j = H0.t.get j := fun j hj => by
    show (H0.t.set H0.nx (.cells news)).get j = _
    rw [hp]; exact T.get_set_ne _ _ (by omega)
  cases n with
  | zero =>
    have hR0 : R = [] := List.eq_nil_of_length_eq_zero (by omega)
    subst hR0
    obtain ⟨a1, a2⟩ := allocE_get' (H0.alloc (.cells news)) (.cells news) (some el)
    refine ⟨(H0.alloc (.cells news)).allocE (.cells news) (some el), fun m a b ha hb => ?_, by rw [a2, hnx1], ?_, fun j _ hj => ?_⟩
    · have hr := hroom 1 (by omega)
      simp only [sop, rds, ha, hb, aBuiltin, aAppend, tvG, hu, hx, hd, hi, hz, hsrc, cond_true, hr, newR, hnx1]
      rfl
    · rw [a1, hnx1, T.get_set_same]; rfl
    · rw [a1, hnx1, T.get_set_ne _ _ (by omega)]; exact hoth j hj
  | succ n =>
    obtain ⟨hqp, hgq⟩ := hq.resolve_left (by omega)
    have hgq' := hoth q hqp
    rw [hgq] at hgq'
    have e1 : Nat.ble (n + 1 + 1) (n + 1) = false := by
      cases h : Nat.ble (n + 1 + 1) (n + 1) with
      | false => rfl
      | true => have := Nat.le_of_ble_eq_true h; omega
    have e2 := seg_all R hR
    have e3 : Nat.beq inf.size inf.size = true := by simp
    obtain ⟨a1, a2⟩ := allocE_get' ((H0.alloc (.cells news)).drop q) (.cells (R ++ news)) (tagOf (H0.alloc (.cells news)) q 0 el)
    have hd2 : ((H0.alloc (.cells news)).drop q).nx = p + 1 := hnx1
    refine ⟨((H0.alloc (.cells news)).drop q).allocE (.cells (R ++ news)) (tagOf (H0.alloc (.cells news)) q 0 el), fun m a b ha hb => ?_, by rw [a2, hd2], ?_, fun j hj hjp => ?_⟩
    · have hr := hroom (n + 1 + 1) (by omega)
      simp only [sop, rds, ha, hb, aBuiltin, aAppend, tvG, hu, hx, hd, hi, hz, hsrc, cond_true, cond_false, hr, newR, e3, ho, Bool.and_self, hgq', e1, e2, hnx1]
    · rw [a1, hd2, T.get_set_same]
    · rw [a1, hd2, T.get_set_ne _ _ (by omega)]
      show ((H0.alloc (.cells news)).t.del q).get j = _
      rw [T.get_del, if_neg (by omega)]
      exact hoth j hjp
end
/-- The place of a row that grows. -/
def lhG (n q : Nat) (R : List AV) : List (Nat × Ob) := match n with
  | 0 => []
  | _ + 1 => [(q, .cells R)]
/-- A cell that is as it is. -/
def Fz1 (x : AV) : Prop := ∀ (H : Heap) (k : Nat), frz H (k + 1) x = some x
theorem frz_tvG {H : Heap} {sz n q : Nat} {R : List AV} (hR : R.length = n * sz) (hf : ∀ x ∈ R, Fz1 x) (hg : n = 0 ∨ H.t.get q = some (.cells R)) : Frz H (tvG sz n q) (if n = 0 then .nilsl else .isl R n) := by
  cases n with
  | zero => exact ⟨1, rfl⟩
  | succ n =>
    have h := hg.resolve_left (by omega)
    refine ⟨R.length + 5, ?_⟩
    have hs := seg_all R hR
    have : ∀ (l : List AV) (k : Nat), (∀ x ∈ l, Fz1 x) → l.length + 2 ≤ k → frzs H k l = some l := by
      intro l
      induction l with
      | nil => intro k _ hk; obtain ⟨k, rfl⟩ : ∃ j, k = j + 1 := ⟨k - 1, by simp at hk; omega⟩; rfl
      | cons x l ih =>
        intro k hl hk
        simp only [List.length_cons] at hk
        obtain ⟨k, rfl⟩ : ∃ j, k = j + 2 := ⟨k - 2, by omega⟩
        exact frzs_cons (hl x (List.mem_cons_self ..) H k) (ih (k + 1) (fun y hy => hl y (List.mem_cons_of_mem _ hy)) (by omega))
    rw [tvG, frz_slice (n := R.length + 4) h hs (this R _ hf (by omega))]
    rfl
end Go.Eng
end
section
namespace Go.Eng
open Go Go.RowKit Go.Proofs
set_option maxHeartbeats 4000000
set_option maxRecDepth 10000
def strs (l : List (List UInt8)) : List AV := l.map .str
def strsAV (l : List (List UInt8)) : AV := .isl (strs l) l.length
def fqs (l : List (List UInt8)) : List AV := l.map fun s => .frac (qv s)
def numsAV (l : List (List UInt8)) (many : Nat) : AV := bif l.all isq then .tuple [.isl (fqs l) l.length, .bool (decide (l.length = many))] else .tuple [.nilsl, .bool false]
theorem strs_frees (l : List (List UInt8)) : AV.frees (strs l) = true := by
  induction l with
  | nil => rfl
  | cons a l ih => exact ih
theorem fqs_len (l : List (List UInt8)) : (fqs l).length = l.length := by simp [fqs]
theorem Fz1_frac (q : Rat) : Fz1 (.frac q) := fun _ _ => rfl
theorem Imp_isl0 : Imp .nilsl (.isl [] 0) := fun _ _ _ h => by cases h; exact .isl0 none 0
theorem prob_numbers_ans (l : List (List UInt8)) (many : Nat) (hs : ∀ s ∈ l, Sh s) (hl : l.length ≤ 10000000) (H : Heap) : Ans cs0 F.prob_numbers [strsAV l, .int .i64 many] H fun x K => x = numsAV l many ∧ K = H := by
  have hN := cz_ok
  have hI : Imp (bif l.all isq then .tuple [(if l.length = 0 then .nilsl else .isl (fqs l) l.length), .bool (decide (l.length = many))] else .tuple [.nilsl, .bool false]) (numsAV l many) := by
    unfold numsAV
    cases l with
    | nil =>
      show Imp (AV.tuple [.nilsl, _]) (AV.tuple [.isl [] 0, _])
      exact fun _ _ v h => by
        cases h with | tuple _ _ hs =>
        cases hs with | cons _ _ _ _ h1 h2 =>
        cases h1
        exact .tuple _ _ (.cons _ _ _ _ (.isl0 none 0) h2)
    | cons a l => exact Imp.refl _
  refine Ans_free gl0_free hI (by simp only [strsAV, AV.frees, AV.free, strs_frees]; rfl) ?_ H
  refine G_body hN (fn := B.prob_numbers) (sz := 34) rfl rfl rfl rfl rfl ?_
  refine K_run hN ?_; (repeat (first | refine K_v rfl rfl ?_ | refine K_g rfl rfl ?_ | refine K_n rfl rfl rfl rfl ?_ | refine K_n' rfl rfl rfl ?_ | refine K_s rfl ?_)); refine K_nil ?_
  refine K_run hN ?_; (repeat (first | refine K_v rfl rfl ?_ | refine K_g rfl rfl ?_ | refine K_n rfl rfl rfl rfl ?_ | refine K_n' rfl rfl rfl ?_ | refine K_s rfl ?_)); refine K_nil ?_
  refine G_mid (α := Nat × Nat) (fun _ => l.all isq = true) (fun a => [(0, strsAV l), (1, .int .i64 many), (6, tvG 1 l.length a.1)]) (fun a => He (lhG l.length a.1 (fqs l)) a.2) ?_ ?_
  · refine K_run hN ?_; (repeat (first | refine K_v rfl rfl ?_ | refine K_g rfl rfl ?_ | refine K_n rfl rfl rfl rfl ?_ | refine K_n' rfl rfl rfl ?_ | refine K_s rfl ?_)); refine K_nil ?_
    refine G_block ?_
    refine G_loop (α := Nat × Nat × Nat) (fun a => a.1 ≤ l.length ∧ (l.take a.1).all isq = true ∧ a.2.1 < a.2.2) (fun a => l.length - a.1) (fun a => [(0, strsAV l), (1, .int .i64 many), (6, tvG 1 a.1 a.2.1), (11, strsAV l), (12, .int .i64 (l.length : Nat)), (13, .int .i64 (a.1 : Nat))]) (fun a => He (lhG a.1 a.2.1 (fqs (l.take a.1))) a.2.2)
      (0, 0, 1) ⟨Nat.zero_le _, rfl, Nat.zero_lt_one⟩ (M1 rfl <| M1 rfl <| M1 rfl <| M1 rfl <| M1 rfl <| M1 rfl M0) (He_sub (Nat.zero_le _) O0) fun ⟨i, q, nx⟩ ⟨i1, i2, i3⟩ => ?_
    simp only at i1 i2 i3
    refine K_run hN ?_; (repeat (first | refine K_v rfl rfl ?_ | refine K_g rfl rfl ?_ | refine K_n rfl rfl rfl rfl ?_ | refine K_n' rfl rfl rfl ?_ | refine K_s rfl ?_)); refine K_nil ?_
    refine G_seq ?_
    by_cases hi : i < l.length
    · refine K_if1 rfl (decide_eq_true (by omega)) (G_skip (G_pop ?_))
      have hx : l[i]? = some l[i] := List.getElem?_eq_getElem hi
      have hsx := hs l[i] (List.getElem_mem _)
      have htk : (l.take (i + 1)).all isq = ((l.take i).all isq && isq l[i]) := by rw [List.take_succ_eq_append_getElem hi, List.all_append, List.all_cons, List.all_nil, Bool.and_true]
      have hfq : fqs (l.take (i + 1)) = fqs (l.take i) ++ [.frac (qv l[i])] := by rw [List.take_succ_eq_append_getElem hi]; simp only [fqs, List.map_append, List.map_cons, List.map_nil]
      have hmem : l[i] ∈ l := List.getElem_mem _
      generalize l[i] = s at *
      have hxs : (strs l)[i]? = some (.str s) := by simp [strs, hx]
      have hg := frac_Get_ans s hsx
      unfold fgetAV at hg
      refine G_seq (G_block ?_)
      refine K_run hN ?_
      refine K_v rfl (g_idxi1 i rfl rfl rfl rfl rfl rfl hi) ?_
      refine K_v rfl (g_load rfl rfl rfl rfl rfl hxs) ?_
      (repeat (first | refine K_v rfl rfl ?_ | refine K_g rfl rfl ?_ | refine K_n rfl rfl rfl rfl ?_ | refine K_n' rfl rfl rfl ?_ | refine K_s rfl ?_)); refine K_nil ?_
      cases hf : fget s with
      | none =>
        rw [hf] at hg
        have hall : l.all isq = false := by
          rw [Bool.eq_false_iff]
          intro h
          rw [List.all_eq_true] at h
          have := h s hmem
          rw [isq, hf] at this
          cases this
        refine K_run hN ?_; (repeat (first | refine K_v rfl rfl ?_ | refine K_g rfl rfl ?_ | refine K_n rfl rfl rfl rfl ?_ | refine K_n' rfl rfl rfl ?_ | refine K_s rfl ?_ | refine K_c rfl rfl (hg _) ?_)); refine K_nil ?_
        refine G_seq ?_
        refine K_run hN ?_; (repeat (first | refine K_v rfl rfl ?_ | refine K_g rfl rfl ?_ | refine K_n rfl rfl rfl rfl ?_ | refine K_n' rfl rfl rfl ?_ | refine K_s rfl ?_)); refine K_nil ?_
        refine G_if1 rfl ?_
        refine K_run hN ?_; (repeat (first | refine K_v rfl rfl ?_ | refine K_g rfl rfl ?_ | refine K_n rfl rfl rfl rfl ?_ | refine K_n' rfl rfl rfl ?_ | refine K_s rfl ?_)); refine K_nil ?_
        refine G_ret (LP_ret (MP_ret (G_end rfl ?_)))
        rw [hall]
        exact ⟨10, rfl⟩
      | some q0 =>
        rw [hf] at hg
        have hq0 : qv s = q0 := by rw [qv, hf]; rfl
        have hqs : isq s = true := by rw [isq, hf]; rfl
        refine K_run hN ?_; (repeat (first | refine K_v rfl rfl ?_ | refine K_g rfl rfl ?_ | refine K_n rfl rfl rfl rfl ?_ | refine K_n' rfl rfl rfl ?_ | refine K_s rfl ?_ | refine K_c rfl rfl (hg _) ?_)); refine K_nil ?_
        refine G_seq ?_
        refine K_run hN ?_; (repeat (first | refine K_v rfl rfl ?_ | refine K_g rfl rfl ?_ | refine K_n rfl rfl rfl rfl ?_ | refine K_n' rfl rfl rfl ?_ | refine K_s rfl ?_)); refine K_nil ?_
        refine G_if0 rfl (G_skip (G_pop ?_))
        obtain ⟨H', h1, h2, h3, h4⟩ := g_app (cx := cs0) (t := 66) (u := 66) (n := i) (q := q) (p := nx) (R := fqs (l.take i)) (news := [.frac q0]) (H0 := He (lhG i q (fqs (l.take i))) nx) rfl (by
          cases i with
          | zero => exact .inl rfl
          | succ i => exact .inr ⟨i3, He_get _ _ _ |>.trans (by simp [lhG, lq])⟩) (by rw [fqs_len, List.length_take, Nat.min_eq_left i1]; exact (Nat.mul_one i).symm) (by omega) rfl rfl rfl rfl rfl rfl rfl rfl
        refine K_run1 hN ?_; (repeat (first | refine K_v rfl rfl ?_ | refine K_g rfl rfl ?_ | refine K_n rfl rfl rfl rfl ?_ | refine K_n' rfl rfl rfl ?_ | refine K_s rfl ?_))
        refine K_v rfl (h1 _ _ _ rfl rfl) ?_
        (repeat (first | refine K_v rfl rfl ?_ | refine K_g rfl rfl ?_ | refine K_n rfl rfl rfl rfl ?_ | refine K_n' rfl rfl rfl ?_ | refine K_s rfl ?_)); refine K_nil ?_
        refine G_popb (G_pop ?_)
        refine K_run1 hN ?_
        refine K_i rfl rfl (wi64 (b := ((i + 1 : Nat) : Int)) (by omega) (by omega) (by omega)) ?_
        (repeat (first | refine K_v rfl rfl ?_ | refine K_g rfl rfl ?_ | refine K_n rfl rfl rfl rfl ?_ | refine K_n' rfl rfl rfl ?_ | refine K_s rfl ?_)); refine K_nil ?_
        refine G_again (i + 1, nx + 1, nx + 2) ⟨hi, by rw [htk, i2, hqs]; rfl, by simp only; omega⟩ (by simp only; omega) (M1 rfl <| M1 rfl <| M1 rfl <| M1 rfl <| M1 rfl <| M1 rfl M0) (He_sub (by rw [h2]; exact Nat.le_refl _) (O1 (by rw [h3, hfq, hq0]) O0))
    · refine K_if0 rfl (decide_eq_false (by omega)) ?_
      obtain rfl : i = l.length := by omega
      rw [List.take_length] at i2 ⊢
      exact G_exit (G_pops (G_leave (G_popx (G_done (q, nx) i2 (M1 rfl <| M1 rfl <| M1 rfl M0) (Heap.Sub.refl _)))))
  · rintro ⟨q, nx⟩ hall
    have e1 : decide (((l.length : Nat) : Int) = (many : Int)) = decide (l.length = many) := by
      rw [decide_eq_decide]; omega
    refine K_run hN ?_; (repeat (first | refine K_v rfl rfl ?_ | refine K_g rfl rfl ?_ | refine K_n rfl rfl rfl rfl ?_ | refine K_n' rfl rfl rfl ?_ | refine K_s rfl ?_)); refine K_nil ?_
    refine G_ret (G_end rfl ?_)
    rw [hall]
    obtain ⟨k, hk⟩ := frz_tvG (H := He (lhG l.length q (fqs l)) nx) (sz := 1) (n := l.length) (q := q) (R := fqs l) (by rw [fqs_len, Nat.mul_one]) (fun x hx => by
      simp only [fqs, List.mem_map] at hx
      obtain ⟨s, _, rfl⟩ := hx
      exact Fz1_frac _) (by
      cases hn : l.length with
      | zero => exact .inl rfl
      | succ n => exact .inr ((He_get _ _ _).trans (by simp [lhG, lq])))
    refine ⟨k + 4, frz_tuple (n := k + 3) (frzs_cons (n := k + 2) (frz_mono _ _ _ (frz_mono _ _ _ hk)) (frzs_cons (n := k + 1) (y := .bool (decide (l.length = many))) ?_ frzs_nil))⟩
    rw [← e1]
    rfl
end Go.Eng
end
section
namespace Go.Eng
open Go Go.RowKit Go.Proofs
set_option maxHeartbeats 4000000
set_option maxRecDepth 10000
def fr (xs : List Rat) : List AV := xs.map .frac
def frAV (xs : List Rat) : AV := .isl (fr xs) xs.length
theorem fr_at {xs : List Rat} {j : Nat} (h : j < xs.length) : (fr xs)[j]? = some (.frac (xs.getD j 0)) := by
  simp [fr, List.getElem?_map, List.getD_eq_getElem?_getD, List.getElem?_eq_getElem h]
theorem fqs_fr (l : List (List UInt8)) : fqs l = fr (l.map qv) := by simp [fqs, fr]
theorem getD_bt {xs : List Rat} {k : Nat} (h : ∀ q ∈ xs, Bt k q) (hk : 1 ≤ k) (j : Nat) : Bt k (xs.getD j 0) := by
  rw [List.getD_eq_getElem?_getD]
  cases hx : xs[j]? with
  | none => exact Bt.zero.le hk
  | some q => exact h q (List.mem_of_getElem? hx)
end Go.Eng
end
