import Derived.Test.YtekfcbeballilaaGreatDoorPa
section
namespace Go.Eng
open Go.RowKit
/-- Nothing that may be written; places from 'nx' on are free. -/
def Hn (nx : Nat) : Heap := ⟨.nil, nx, .nil⟩
theorem Hn_sub {nx : Nat} {H : Heap} (h : H.nx ≤ nx) : Heap.Sub (Hn nx) H := ⟨h, fun id ob hg => by simp [Hn, T.get_nil] at hg, fun id e he => by simp [Hn, T.get_nil] at he⟩
section
variable {cx : Cx} {sz : Nat} {m : List (Nat × AV)} {H : Heap} {k : List Fr} {Q : AEx → Env → Heap → Prop} {R : AEx → Env → Heap → Prop}
theorem FM_same {ds : List Nat} : ∀ {l : List (Nat × AV)}, hasM m l → FM H ds m l
  | [], _ => trivial
  | (_, _) :: _, h => by
    obtain ⟨⟨x, h1, h2⟩, h3⟩ := h
    exact ⟨⟨x, x, h1, .same, h2⟩, FM_same h3⟩
theorem FZ_same_list {ds : List Nat} : ∀ cs : List AV, FZ H ds true cs cs
  | [] => .nil
  | _ :: cs => .cons .same (FZ_same_list cs)
/-- A box that is not written any more. -/
theorem G_unbox {c : Code} (t id : Nat) (cs : List AV) (l : List (Nat × AV)) (nx : Nat) (ht : lq m t = some (.ptr id 0)) (hg : H.t.get id = some (.cells cs)) (hl : hasM m l) (hnx : H.nx ≤ nx) (hw : WG cx c sz ((t, .iptr cs 0) :: l) (Hn nx) Q) : WG cx c sz m H Q := by
  refine G_freeze [id] ((t, .iptr cs 0) :: l) ⟨⟨_, _, ht, .ptr (List.Mem.head _) hg (FZ_same_list cs), Imp.refl _⟩, FM_same hl⟩ ?_
  exact ⟨W_sub (Env.Sub.refl _) (Hn_sub (by rw [dels_nx]; exact hnx)) hw.w⟩
/-- Nothing of the heap is wanted any more. -/
theorem G_nil_heap {c : Code} (l : List (Nat × AV)) (nx : Nat) (hl : hasM m l) (hnx : H.nx ≤ nx) (hw : WG cx c sz l (Hn nx) Q) : WG cx c sz m H Q := G_weakH l (Hn nx) hl (Hn_sub hnx) hw
theorem K_if1 {o : Operand} {c d : Code} {b : Bool} (hb : rd cx m o = some (.bool b)) (ht : b = true) (h : WG cx c sz m H Q) : WG cx (.cond o c d) sz m H Q := G_if1 (by rw [hb, ht]) h
theorem K_if0 {o : Operand} {c d : Code} {b : Bool} (hb : rd cx m o = some (.bool b)) (ht : b = false) (h : WG cx d sz m H Q) : WG cx (.cond o c d) sz m H Q := G_if0 (by rw [hb, ht]) h
variable {ops : Array Oper} {l : List Oper} {d : Nat} {H' : Heap} {x : AV} {KK : List (Nat × AV) → Heap → Prop} {op : Op} {ty : TypeId} {pos : String} {af : Array Edge}
/-- A boolean that is known otherwise. -/
theorem K_b {b b' : Bool} (hs : Nat.blt d sz = true) (ha : sop cx m H op = some (.val (.bool b) H')) (e : b = b') (h : RunK cx ops l sz ((d, .bool b') :: m) H' KK) : RunK cx ops (⟨some d, op, ty, pos, af, none⟩ :: l) sz m H KK := K_v hs (by rw [ha, e]) h
theorem K_i {kk : IntKind} {i i' : Int} (hs : Nat.blt d sz = true) (ha : sop cx m H op = some (.val (.int kk i) H')) (e : i = i') (h : RunK cx ops l sz ((d, .int kk i') :: m) H' KK) : RunK cx ops (⟨some d, op, ty, pos, af, none⟩ :: l) sz m H KK := K_v hs (by rw [ha, e]) h
/-- A load of a struct from a row of them. -/
theorem g_ldagg {t : TypeId} {a : Operand} {cs ys : List AV} {off : Nat} {ds : TypeDesc} {inf : TypeInfo} {v : AV}
    (ha : rd cx m a = some v) (hc : cellsAt H v = some (cs, off)) (hu : cx.D.und t = some ds) (hi : cx.D.inf t = some inf) (hg : isAggD ds = true) (hx : seg cs off inf.size = some ys) :
    sop cx m H (.load t a) = some (.val (.agg ys) H) := by
  simp only [sop, aLoad, ha, hc, hu, hi, hg, cond_true, hx, valR, Option.map_some]
theorem g_callv {f : Operand} {args : Array Operand} {tys : Array TypeId} {g : Nat} {cap xs ys : List AV} {fn : Func} (hf : rd cx m f = some (.func (.func g) [] cap)) (ha : rds cx m args.toList = some xs) (hfn : cx.fn.get g = some fn) (hb : fn.body.isSome = true) (hp : plain (xs ++ cap) = some ys) : sop cx m H (.call ⟨.value f, args, tys⟩) = some (.enter g ys) := by
  simp only [sop, hf, ha, hfn, hb, cond_true, List.nil_append, hp]
theorem plain_self : ∀ xs : List AV, plain xs = some xs
  | [] => rfl
  | x :: xs => by simp only [plain, plain_self xs]
/-- A store of a struct into a box of its own. -/
theorem g_stbox {t : TypeId} {a b : Operand} {id : Nat} {cs ys : List AV} {y : AV} {inf : TypeInfo}
    (ha : rd cx m a = some (.ptr id 0)) (hb : rd cx m b = some y) (hi : cx.D.inf t = some inf) (hy : y.cells = some ys) (hz : Nat.beq ys.length inf.size = true) (ho : allOne ys = true) (hg : H.t.get id = some (.cells cs)) (hl : cs.length = ys.length) :
    sop cx m H (.store t a b) = some (.skip (H.put id (.cells ys))) := by
  have e1 : Nat.ble (0 + ys.length) cs.length = true := by rw [Nat.ble_eq]; omega
  have e2 : putAt cs 0 ys = ys := by
    rw [putAt_eq ys cs 0 (by omega), List.take_zero, List.nil_append, Nat.zero_add, ← hl, List.drop_length, List.append_nil]
  simp only [sop, ha, hb, aStore, hi, hy, hg, hz, ho, e1, e2, Bool.and_self, cond_true, skipR]
end
theorem fm_len {α : Type} (f : α → List AV) (k : Nat) (hf : ∀ a, (f a).length = k) : ∀ l : List α, (l.flatMap f).length = l.length * k
  | [] => by simp
  | a :: l => by rw [List.flatMap_cons, List.length_append, fm_len f k hf l, hf, List.length_cons, Nat.succ_mul]; omega
theorem fm_drop {α : Type} (f : α → List AV) (k : Nat) (hf : ∀ a, (f a).length = k) : ∀ (n : Nat) (l : List α), (l.flatMap f).drop (n * k) = (l.drop n).flatMap f
  | 0, l => by simp
  | n + 1, [] => by simp
  | n + 1, a :: l => by
    have : (n + 1) * k = (f a).length + n * k := by rw [hf, Nat.succ_mul]; omega
    rw [List.flatMap_cons, this, ← List.drop_drop, List.drop_left, fm_drop f k hf n l, List.drop_succ_cons]
theorem fm_seg {α : Type} (f : α → List AV) (k : Nat) (hf : ∀ a, (f a).length = k) {l : List α} {n : Nat} {x : α} (h : l[n]? = some x) : seg (l.flatMap f) (n * k) k = some (f x) := by
  have hl := List.getElem?_eq_some_iff.1 h
  obtain ⟨h1, h2⟩ := hl
  have e : (l.flatMap f).drop (n * k) = f x ++ ((l.drop (n + 1)).flatMap f) := by
    rw [fm_drop f k hf, List.drop_eq_getElem_cons h1, List.flatMap_cons, h2]
  have e2 : ((l.flatMap f).drop (n * k)).take k = f x := by rw [e, ← hf x, List.take_left]
  unfold seg
  simp only [e2, hf]
  simp
theorem fm_cell {α : Type} (f : α → List AV) (k : Nat) (hf : ∀ a, (f a).length = k) {l : List α} {n j : Nat} {x : α} {y : AV} (h : l[n]? = some x) (hy : (f x)[j]? = some y) : (l.flatMap f)[n * k + j]? = some y := by
  obtain ⟨h1, h2⟩ := List.getElem?_eq_some_iff.1 h
  have e : (l.flatMap f).drop (n * k) = f x ++ ((l.drop (n + 1)).flatMap f) := by
    rw [fm_drop f k hf, List.drop_eq_getElem_cons h1, List.flatMap_cons, h2]
  rw [← List.getElem?_drop, e, List.getElem?_append_left (List.getElem?_eq_some_iff.1 hy).1]
  exact hy
end Go.Eng
end
section
namespace Go.Eng
open Go Go.RowKit Go.Proofs
set_option maxHeartbeats 4000000
set_option maxRecDepth 10000
theorem cav_len (c : Int × List UInt8) : (cav c).length = 2 := rfl
theorem ColS.av_len (c : ColS) : c.av.length = 5 := rfl
theorem RowS.av_len (r : RowS) : r.av.length = 5 := rfl
theorem frees_app : ∀ xs ys : List AV, AV.frees (xs ++ ys) = (AV.frees xs && AV.frees ys)
  | [], ys => by simp [AV.frees]
  | x :: xs, ys => by simp only [List.cons_append, AV.frees, frees_app xs ys, Bool.and_assoc]
theorem frees_fm {α : Type} (f : α → List AV) : ∀ l : List α, (∀ a ∈ l, AV.frees (f a) = true) → AV.frees (l.flatMap f) = true
  | [], _ => rfl
  | a :: l, h => by
    rw [List.flatMap_cons, frees_app, h a (List.mem_cons_self ..), frees_fm f l fun b hb => h b (List.mem_cons_of_mem _ hb)]
    rfl
theorem coef_free (l : List (Int × List UInt8)) : (coefAV l).free = true := by
  simp only [coefAV, AV.free]
  exact frees_fm cav l fun _ _ => rfl
theorem row_frees (r : RowS) : AV.frees r.av = true := by
  simp only [RowS.av, AV.frees, AV.free, coef_free, Bool.and_self]
theorem col_frees (c : ColS) : AV.frees c.av = true := rfl
theorem lp_free (l : LPS) : l.av.free = true := by
  simp only [LPS.av, colsAV, rowsAV, AV.frees, AV.free, frees_fm ColS.av _ fun c _ => col_frees c, frees_fm RowS.av _ fun r _ => row_frees r, Bool.and_self]
theorem drop_at {α : Type} {l : List α} {i : Nat} (h : i < l.length) : l.drop i = l[i] :: l.drop (i + 1) := List.drop_eq_getElem_cons h
theorem prob_row_ans (r : RowS) (n : Nat) (hr : r.Sh) (H : Heap) : Ans cs0 F.prob_row [.agg r.av, .int .i64 n] H fun x K => x = .bool (rowOk n r) ∧ K = H := by
  have hN := cz_ok
  obtain ⟨name, kind, coef, rhs, range⟩ := r
  obtain ⟨hrhs, hcoef, hlen⟩ := hr
  simp only at hrhs hcoef hlen
  refine Ans_free gl0_free (Imp.refl _) (by simp only [AV.frees, AV.free, row_frees, Bool.and_self]) ?_ H
  refine G_body hN (fn := B.prob_row) (sz := 57) rfl rfl rfl rfl rfl ?_
  refine K_run hN ?_; (repeat (first | refine K_v rfl rfl ?_ | refine K_g rfl rfl ?_ | refine K_n rfl rfl rfl rfl ?_ | refine K_n' rfl rfl rfl ?_ | refine K_s rfl ?_)); refine K_nil ?_
  refine G_unbox 2 0 (RowS.av ⟨name, kind, coef, rhs, range⟩) [(1, .int .i64 n)] 1 rfl rfl (M1 rfl M0) (Nat.le_refl _) ?_
  refine K_run hN ?_; (repeat (first | refine K_v rfl rfl ?_ | refine K_g rfl rfl ?_ | refine K_n rfl rfl rfl rfl ?_ | refine K_n' rfl rfl rfl ?_ | refine K_s rfl ?_)); refine K_nil ?_
  refine G_mid (α := Nat) (fun _ => coefsOk n (-1) coef = true) (fun _ => [(2, .iptr (RowS.av ⟨name, kind, coef, rhs, range⟩) 0)]) (fun nx => Hn nx) ?_ ?_
  · refine K_run hN ?_; (repeat (first | refine K_v rfl rfl ?_ | refine K_g rfl rfl ?_ | refine K_n rfl rfl rfl rfl ?_ | refine K_n' rfl rfl rfl ?_ | refine K_s rfl ?_)); refine K_nil ?_
    refine G_block ?_
    refine G_loop (α := Nat × Int × Nat) (fun a => a.1 ≤ coef.length ∧ coefsOk n (-1) coef = coefsOk n a.2.1 (coef.drop a.1)) (fun a => coef.length - a.1) (fun a => [(1, .int .i64 n), (2, .iptr (RowS.av ⟨name, kind, coef, rhs, range⟩) 0), (5, .int .i64 a.2.1), (9, coefAV coef), (10, .int .i64 (coef.length : Nat)), (11, .int .i64 (a.1 : Nat))]) (fun a => Hn a.2.2)
      (0, -1, 1) ⟨Nat.zero_le _, rfl⟩ (M1 rfl <| M1 rfl <| M1 rfl <| M1 rfl <| M1 rfl <| M1 rfl M0) (Heap.Sub.refl _) fun ⟨i, last, nx⟩ ⟨i1, i2⟩ => ?_
    simp only at i1 i2
    refine K_run hN ?_; (repeat (first | refine K_v rfl rfl ?_ | refine K_g rfl rfl ?_ | refine K_n rfl rfl rfl rfl ?_ | refine K_n' rfl rfl rfl ?_ | refine K_s rfl ?_)); refine K_nil ?_
    refine G_seq ?_
    by_cases hi : i < coef.length
    · refine K_if1 rfl (decide_eq_true (by omega)) (G_skip (G_pop ?_))
      have hx : coef[i]? = some coef[i] := List.getElem?_eq_getElem hi
      have hmem : coef[i] ∈ coef := List.getElem_mem _
      rw [drop_at hi] at i2
      generalize coef[i] = cv at *
      obtain ⟨c, v⟩ := cv
      have hnum := prob_number_ans v (hcoef _ hmem)
      simp only [coefsOk] at i2
      refine G_seq (G_block ?_)
      refine K_run hN ?_
      refine K_v rfl (g_idxi i rfl rfl rfl rfl rfl hi) ?_
      refine K_v rfl (g_ldagg rfl rfl rfl rfl rfl (fm_seg cav 2 cav_len hx)) ?_
      (repeat (first | refine K_v rfl rfl ?_ | refine K_g rfl rfl ?_ | refine K_n rfl rfl rfl rfl ?_ | refine K_n' rfl rfl rfl ?_ | refine K_s rfl ?_))
      refine K_s (g_stbox rfl rfl rfl rfl rfl rfl (T.get_set_same _ _ _) rfl) ?_
      refine K_nil ?_
      refine G_unbox 7 nx (cav (c, v)) [(1, .int .i64 n), (2, .iptr (RowS.av ⟨name, kind, coef, rhs, range⟩) 0), (5, .int .i64 last), (9, coefAV coef), (10, .int .i64 (coef.length : Nat)), (11, .int .i64 (i : Nat))] (nx + 1) rfl (T.get_set_same _ _ _) (M1 rfl <| M1 rfl <| M1 rfl <| M1 rfl <| M1 rfl <| M1 rfl M0) (Nat.le_refl _) ?_
      refine G_seq ?_
      have bad : coefsOk n (-1) coef = false → false = rowOk n ⟨name, kind, coef, rhs, range⟩ := fun h => by
        simp only [rowOk, h, Bool.false_and]
      cases h1 : isq v with
      | false =>
        rw [h1] at hnum
        refine K_run hN ?_; (repeat (first | refine K_v rfl rfl ?_ | refine K_g rfl rfl ?_ | refine K_n rfl rfl rfl rfl ?_ | refine K_n' rfl rfl rfl ?_ | refine K_s rfl ?_ | refine K_c rfl rfl (hnum _) ?_)); refine K_nil ?_
        refine G_if1 rfl ?_
        refine K_run hN ?_; (repeat (first | refine K_v rfl rfl ?_ | refine K_g rfl rfl ?_ | refine K_n rfl rfl rfl rfl ?_ | refine K_n' rfl rfl rfl ?_ | refine K_s rfl ?_)); refine K_nil ?_
        exact G_ret (LP_ret (MP_ret (G_end rfl (Frz_bool (bad (by rw [i2, h1]; rfl))))))
      | true =>
        rw [h1] at hnum i2
        cases h2 : v == [48] with
        | true =>
          refine K_run hN ?_; (repeat (first | refine K_b rfl rfl h2 ?_ | refine K_v rfl rfl ?_ | refine K_g rfl rfl ?_ | refine K_n rfl rfl rfl rfl ?_ | refine K_n' rfl rfl rfl ?_ | refine K_s rfl ?_ | refine K_c rfl rfl (hnum _) ?_)); refine K_nil ?_
          refine G_if1 rfl ?_
          refine K_run hN ?_; (repeat (first | refine K_v rfl rfl ?_ | refine K_g rfl rfl ?_ | refine K_n rfl rfl rfl rfl ?_ | refine K_n' rfl rfl rfl ?_ | refine K_s rfl ?_)); refine K_nil ?_
          exact G_ret (LP_ret (MP_ret (G_end rfl (Frz_bool (bad (by rw [i2, h2]; rfl))))))
        | false =>
          rw [h2] at i2
          cases h3 : decide (c ≤ last) with
          | true =>
            have h3' := of_decide_eq_true h3
            refine K_run hN ?_; (repeat (first | refine K_b rfl rfl h2 ?_ | refine K_b rfl rfl h3 ?_ | refine K_v rfl rfl ?_ | refine K_g rfl rfl ?_ | refine K_n rfl rfl rfl rfl ?_ | refine K_n' rfl rfl rfl ?_ | refine K_s rfl ?_ | refine K_c rfl rfl (hnum _) ?_)); refine K_nil ?_
            refine G_if1 rfl ?_
            refine K_run hN ?_; (repeat (first | refine K_v rfl rfl ?_ | refine K_g rfl rfl ?_ | refine K_n rfl rfl rfl rfl ?_ | refine K_n' rfl rfl rfl ?_ | refine K_s rfl ?_)); refine K_nil ?_
            exact G_ret (LP_ret (MP_ret (G_end rfl (Frz_bool (bad (by rw [i2, decide_eq_false (show ¬ last < c by omega)]; rfl))))))
          | false =>
            have h3' := of_decide_eq_false h3
            cases h4 : decide ((n : Int) ≤ c) with
            | true =>
              have h4' := of_decide_eq_true h4
              refine K_run hN ?_; (repeat (first | refine K_b rfl rfl h2 ?_ | refine K_b rfl rfl h3 ?_ | refine K_b rfl rfl h4 ?_ | refine K_v rfl rfl ?_ | refine K_g rfl rfl ?_ | refine K_n rfl rfl rfl rfl ?_ | refine K_n' rfl rfl rfl ?_ | refine K_s rfl ?_ | refine K_c rfl rfl (hnum _) ?_)); refine K_nil ?_
              refine G_if1 rfl ?_
              refine K_run hN ?_; (repeat (first | refine K_v rfl rfl ?_ | refine K_g rfl rfl ?_ | refine K_n rfl rfl rfl rfl ?_ | refine K_n' rfl rfl rfl ?_ | refine K_s rfl ?_)); refine K_nil ?_
              exact G_ret (LP_ret (MP_ret (G_end rfl (Frz_bool (bad (by rw [i2, decide_eq_false (show ¬ c < (n : Int) by omega)]; simp))))))
            | false =>
              have h4' := of_decide_eq_false h4
              refine K_run hN ?_; (repeat (first | refine K_b rfl rfl h2 ?_ | refine K_b rfl rfl h3 ?_ | refine K_b rfl rfl h4 ?_ | refine K_v rfl rfl ?_ | refine K_g rfl rfl ?_ | refine K_n rfl rfl rfl rfl ?_ | refine K_n' rfl rfl rfl ?_ | refine K_s rfl ?_ | refine K_c rfl rfl (hnum _) ?_)); refine K_nil ?_
              refine G_if0 rfl (G_skip (G_pop ?_))
              refine K_run1 hN ?_; (repeat (first | refine K_v rfl rfl ?_ | refine K_g rfl rfl ?_ | refine K_n rfl rfl rfl rfl ?_ | refine K_n' rfl rfl rfl ?_ | refine K_s rfl ?_)); refine K_nil ?_
              refine G_popb (G_pop ?_)
              refine K_run1 hN ?_
              refine K_i rfl rfl (wi64 (b := ((i + 1 : Nat) : Int)) (by omega) (by omega) (by omega)) ?_
              (repeat (first | refine K_v rfl rfl ?_ | refine K_g rfl rfl ?_ | refine K_n rfl rfl rfl rfl ?_ | refine K_n' rfl rfl rfl ?_ | refine K_s rfl ?_)); refine K_nil ?_
              refine G_again (i + 1, c, nx + 1) ⟨hi, ?_⟩ (by simp only; omega) (M1 rfl <| M1 rfl <| M1 rfl <| M1 rfl <| M1 rfl <| M1 rfl M0) (Heap.Sub.refl _)
              simp only
              rw [i2, decide_eq_true (show last < c by omega), decide_eq_true (show c < (n : Int) by omega)]
              simp
    · refine K_if0 rfl (decide_eq_false (by omega)) ?_
      refine G_exit (G_pops (G_leave (G_popx (G_done nx ?_ (M1 rfl M0) (Heap.Sub.refl _)))))
      rw [i2, List.drop_of_length_le (by omega)]; rfl
  · intro nx hok
    have hnum := prob_number_ans rhs hrhs
    unfold rowOk
    simp only [hok]
    cases h1 : isq rhs with
    | false =>
      rw [h1] at hnum
      refine K_run hN ?_; (repeat (first | refine K_v rfl rfl ?_ | refine K_g rfl rfl ?_ | refine K_n rfl rfl rfl rfl ?_ | refine K_n' rfl rfl rfl ?_ | refine K_s rfl ?_ | refine K_c rfl rfl (hnum _) ?_)); refine K_nil ?_
      exact G_ret (G_end rfl (Frz_bool rfl))
    | true =>
      rw [h1] at hnum
      cases range with
      | cons a s =>
        refine K_run hN ?_; (repeat (first | refine K_v rfl rfl ?_ | refine K_g rfl rfl ?_ | refine K_n rfl rfl rfl rfl ?_ | refine K_n' rfl rfl rfl ?_ | refine K_s rfl ?_ | refine K_c rfl rfl (hnum _) ?_)); refine K_nil ?_
        exact G_ret (G_end rfl (Frz_bool rfl))
      | nil =>
        cases h3 : decide (1 ≤ kind) with
        | false =>
          refine K_run hN ?_; (repeat (first | refine K_b rfl rfl h3 ?_ | refine K_v rfl rfl ?_ | refine K_g rfl rfl ?_ | refine K_n rfl rfl rfl rfl ?_ | refine K_n' rfl rfl rfl ?_ | refine K_s rfl ?_ | refine K_c rfl rfl (hnum _) ?_)); refine K_nil ?_
          exact G_ret (G_end rfl (Frz_bool rfl))
        | true =>
          refine K_run hN ?_; (repeat (first | refine K_b rfl rfl h3 ?_ | refine K_v rfl rfl ?_ | refine K_g rfl rfl ?_ | refine K_n rfl rfl rfl rfl ?_ | refine K_n' rfl rfl rfl ?_ | refine K_s rfl ?_ | refine K_c rfl rfl (hnum _) ?_)); refine K_nil ?_
          exact G_ret (G_end rfl (Frz_bool rfl))
end Go.Eng
end
section
namespace Go.Eng
open Go Go.RowKit Go.Proofs
set_option maxHeartbeats 4000000
set_option maxRecDepth 10000
theorem idx_col_ans (l : List ColS) (hl : l.length < 9223372036854775808) (g : Nat) (cap : List AV) (p : ColS → Bool) {fn : Func} (hfn : cs0.fn.get g = some fn) (hb : fn.body.isSome = true) (H : Heap) (hf : ∀ c ∈ l, Ans cs0 g (.agg c.av :: cap) H fun y K => y = .bool (p c) ∧ K = H) :
    Ans cs0 F.slices_IndexFunc_api_Col_api_Col [colsAV l, .func (.func g) [] cap] H fun x K => (∃ z : Int, x = .int .i64 z ∧ decide (z ≥ 0) = l.any p) ∧ K = H := by
  have hN := cz_ok
  refine G_body hN (fn := B.slices_IndexFunc_api_Col_api_Col) (sz := 19) rfl rfl rfl rfl rfl ?_
  refine K_run hN ?_; (repeat (first | refine K_v rfl rfl ?_ | refine K_g rfl rfl ?_ | refine K_n rfl rfl rfl rfl ?_ | refine K_n' rfl rfl rfl ?_ | refine K_s rfl ?_)); refine K_nil ?_
  refine G_mid (α := Unit) (fun _ => l.any p = false) (fun _ => []) (fun _ => H) ?_ ?_
  · refine K_run hN ?_; (repeat (first | refine K_v rfl rfl ?_ | refine K_g rfl rfl ?_ | refine K_n rfl rfl rfl rfl ?_ | refine K_n' rfl rfl rfl ?_ | refine K_s rfl ?_)); refine K_nil ?_
    refine G_block ?_
    refine G_loop (α := Nat) (fun i => i ≤ l.length ∧ (l.take i).any p = false) (fun i => l.length - i) (fun i => [(0, colsAV l), (1, .func (.func g) [] cap), (7, .int .i64 (l.length : Nat)), (8, .int .i64 (i : Nat))]) (fun _ => H)
      0 ⟨Nat.zero_le _, rfl⟩ (M1 rfl <| M1 rfl <| M1 rfl <| M1 rfl M0) (Heap.Sub.refl _) fun i ⟨i1, i2⟩ => ?_
    refine K_run hN ?_; (repeat (first | refine K_v rfl rfl ?_ | refine K_g rfl rfl ?_ | refine K_n rfl rfl rfl rfl ?_ | refine K_n' rfl rfl rfl ?_ | refine K_s rfl ?_)); refine K_nil ?_
    refine G_seq ?_
    by_cases hi : i < l.length
    · refine K_if1 rfl (decide_eq_true (by omega)) (G_skip (G_pop ?_))
      have hx : l[i]? = some l[i] := List.getElem?_eq_getElem hi
      have hc := hf l[i] (List.getElem_mem _)
      have htk : (l.take (i + 1)).any p = ((l.take i).any p || p l[i]) := by rw [List.take_succ_eq_append_getElem hi, List.any_append, List.any_cons, List.any_nil, Bool.or_false]
      generalize l[i] = c at *
      refine G_seq (G_block ?_)
      refine K_run hN ?_; (repeat (first | refine K_v rfl rfl ?_ | refine K_g rfl rfl ?_ | refine K_n rfl rfl rfl rfl ?_ | refine K_n' rfl rfl rfl ?_ | refine K_s rfl ?_)); refine K_nil ?_
      refine K_run hN ?_
      (repeat (first | refine K_v rfl rfl ?_ | refine K_g rfl rfl ?_ | refine K_n rfl rfl rfl rfl ?_ | refine K_n' rfl rfl rfl ?_ | refine K_s rfl ?_))
      refine K_v rfl (g_idxi i rfl rfl rfl rfl rfl hi) ?_
      refine K_v rfl (g_ldagg rfl rfl rfl rfl rfl (fm_seg ColS.av 5 ColS.av_len hx)) ?_
      refine K_c rfl (g_callv rfl rfl hfn hb (plain_self _)) hc ?_
      refine K_nil ?_
      cases hp : p c with
      | true =>
        refine G_if1 rfl ?_
        refine K_run hN ?_; (repeat (first | refine K_v rfl rfl ?_ | refine K_g rfl rfl ?_ | refine K_n rfl rfl rfl rfl ?_ | refine K_n' rfl rfl rfl ?_ | refine K_s rfl ?_)); refine K_nil ?_
        refine G_ret (LP_ret (MP_ret (G_end rfl ⟨⟨(i : Int), rfl, ?_⟩, rfl⟩)))
        rw [decide_eq_true (by omega)]
        symm
        rw [List.any_eq_true]
        exact ⟨c, List.mem_of_getElem? hx, hp⟩
      | false =>
        refine G_if0 rfl (G_skip (G_popb (G_pop ?_)))
        refine K_run1 hN ?_
        refine K_i rfl rfl (wi64 (b := ((i + 1 : Nat) : Int)) (by omega) (by omega) (by omega)) ?_
        (repeat (first | refine K_v rfl rfl ?_ | refine K_g rfl rfl ?_ | refine K_n rfl rfl rfl rfl ?_ | refine K_n' rfl rfl rfl ?_ | refine K_s rfl ?_)); refine K_nil ?_
        exact G_again (i + 1) ⟨hi, by rw [htk, i2, hp]; rfl⟩ (by omega) (M1 rfl <| M1 rfl <| M1 rfl <| M1 rfl M0) (Heap.Sub.refl _)
    · refine K_if0 rfl (decide_eq_false (by omega)) ?_
      refine G_exit (G_pops (G_leave (G_popx (G_done () ?_ M0 (Heap.Sub.refl _)))))
      rw [List.take_of_length_le (by omega)] at i2
      exact i2
  · rintro ⟨⟩ h
    refine K_run hN ?_; (repeat (first | refine K_v rfl rfl ?_ | refine K_g rfl rfl ?_ | refine K_n rfl rfl rfl rfl ?_ | refine K_n' rfl rfl rfl ?_ | refine K_s rfl ?_)); refine K_nil ?_
    exact G_ret (G_end rfl ⟨⟨-1, rfl, by rw [h]; rfl⟩, rfl⟩)
theorem has_col_ans (l : List ColS) (hl : l.length < 9223372036854775808) (g : Nat) (cap : List AV) (p : ColS → Bool) {fn : Func} (hfn : cs0.fn.get g = some fn) (hb : fn.body.isSome = true) (H : Heap) (hf : ∀ c ∈ l, Ans cs0 g (.agg c.av :: cap) H fun y K => y = .bool (p c) ∧ K = H) :
    Ans cs0 F.slices_ContainsFunc_api_Col_api_Col [colsAV l, .func (.func g) [] cap] H fun x K => x = .bool (l.any p) ∧ K = H := by
  have hN := cz_ok
  refine G_body hN (fn := B.slices_ContainsFunc_api_Col_api_Col) (sz := 9) rfl rfl rfl rfl rfl ?_
  refine K_run hN ?_; (repeat (first | refine K_v rfl rfl ?_ | refine K_g rfl rfl ?_ | refine K_n rfl rfl rfl rfl ?_ | refine K_n' rfl rfl rfl ?_ | refine K_s rfl ?_)); refine K_nil ?_
  refine K_run hN ?_; (repeat (first | refine K_v rfl rfl ?_ | refine K_g rfl rfl ?_ | refine K_n rfl rfl rfl rfl ?_ | refine K_n' rfl rfl rfl ?_ | refine K_s rfl ?_))
  refine K_cx rfl rfl (idx_col_ans l hl g cap p hfn hb H hf) ?_
  rintro y K ⟨⟨z, rfl, hz⟩, rfl⟩
  (repeat (first | refine K_v rfl rfl ?_ | refine K_g rfl rfl ?_ | refine K_n rfl rfl rfl rfl ?_ | refine K_n' rfl rfl rfl ?_ | refine K_s rfl ?_))
  refine K_nil (G_ret (G_end rfl ⟨?_, rfl⟩))
  show AV.bool (decide (z ≥ 0)) = _
  rw [hz]
theorem idx_row_ans (l : List RowS) (hl : l.length < 9223372036854775808) (g : Nat) (cap : List AV) (p : RowS → Bool) {fn : Func} (hfn : cs0.fn.get g = some fn) (hb : fn.body.isSome = true) (H : Heap) (hf : ∀ c ∈ l, Ans cs0 g (.agg c.av :: cap) H fun y K => y = .bool (p c) ∧ K = H) :
    Ans cs0 F.slices_IndexFunc_api_Row_api_Row [rowsAV l, .func (.func g) [] cap] H fun x K => (∃ z : Int, x = .int .i64 z ∧ decide (z ≥ 0) = l.any p) ∧ K = H := by
  have hN := cz_ok
  refine G_body hN (fn := B.slices_IndexFunc_api_Row_api_Row) (sz := 19) rfl rfl rfl rfl rfl ?_
  refine K_run hN ?_; (repeat (first | refine K_v rfl rfl ?_ | refine K_g rfl rfl ?_ | refine K_n rfl rfl rfl rfl ?_ | refine K_n' rfl rfl rfl ?_ | refine K_s rfl ?_)); refine K_nil ?_
  refine G_mid (α := Unit) (fun _ => l.any p = false) (fun _ => []) (fun _ => H) ?_ ?_
  · refine K_run hN ?_; (repeat (first | refine K_v rfl rfl ?_ | refine K_g rfl rfl ?_ | refine K_n rfl rfl rfl rfl ?_ | refine K_n' rfl rfl rfl ?_ | refine K_s rfl ?_)); refine K_nil ?_
    refine G_block ?_
    refine G_loop (α := Nat) (fun i => i ≤ l.length ∧ (l.take i).any p = false) (fun i => l.length - i) (fun i => [(0, rowsAV l), (1, .func (.func g) [] cap), (7, .int .i64 (l.length : Nat)), (8, .int .i64 (i : Nat))]) (fun _ => H)
      0 ⟨Nat.zero_le _, rfl⟩ (M1 rfl <| M1 rfl <| M1 rfl <| M1 rfl M0) (Heap.Sub.refl _) fun i ⟨i1, i2⟩ => ?_
    refine K_run hN ?_; (repeat (first | refine K_v rfl rfl ?_ | refine K_g rfl rfl ?_ | refine K_n rfl rfl rfl rfl ?_ | refine K_n' rfl rfl rfl ?_ | refine K_s rfl ?_)); refine K_nil ?_
    refine G_seq ?_
    by_cases hi : i < l.length
    · refine K_if1 rfl (decide_eq_true (by omega)) (G_skip (G_pop ?_))
      have hx : l[i]? = some l[i] := List.getElem?_eq_getElem hi
      have hc := hf l[i] (List.getElem_mem _)
      have htk : (l.take (i + 1)).any p = ((l.take i).any p || p l[i]) := by rw [List.take_succ_eq_append_getElem hi, List.any_append, List.any_cons, List.any_nil, Bool.or_false]
      generalize l[i] = c at *
      refine G_seq (G_block ?_)
      refine K_run hN ?_; (repeat (first | refine K_v rfl rfl ?_ | refine K_g rfl rfl ?_ | refine K_n rfl rfl rfl rfl ?_ | refine K_n' rfl rfl rfl ?_ | refine K_s rfl ?_)); refine K_nil ?_
      refine K_run hN ?_
      (repeat (first | refine K_v rfl rfl ?_ | refine K_g rfl rfl ?_ | refine K_n rfl rfl rfl rfl ?_ | refine K_n' rfl rfl rfl ?_ | refine K_s rfl ?_))
      refine K_v rfl (g_idxi i rfl rfl rfl rfl rfl hi) ?_
      refine K_v rfl (g_ldagg rfl rfl rfl rfl rfl (fm_seg RowS.av 5 RowS.av_len hx)) ?_
      refine K_c rfl (g_callv rfl rfl hfn hb (plain_self _)) hc ?_
      refine K_nil ?_
      cases hp : p c with
      | true =>
        refine G_if1 rfl ?_
        refine K_run hN ?_; (repeat (first | refine K_v rfl rfl ?_ | refine K_g rfl rfl ?_ | refine K_n rfl rfl rfl rfl ?_ | refine K_n' rfl rfl rfl ?_ | refine K_s rfl ?_)); refine K_nil ?_
        refine G_ret (LP_ret (MP_ret (G_end rfl ⟨⟨(i : Int), rfl, ?_⟩, rfl⟩)))
        rw [decide_eq_true (by omega)]
        symm
        rw [List.any_eq_true]
        exact ⟨c, List.mem_of_getElem? hx, hp⟩
      | false =>
        refine G_if0 rfl (G_skip (G_popb (G_pop ?_)))
        refine K_run1 hN ?_
        refine K_i rfl rfl (wi64 (b := ((i + 1 : Nat) : Int)) (by omega) (by omega) (by omega)) ?_
        (repeat (first | refine K_v rfl rfl ?_ | refine K_g rfl rfl ?_ | refine K_n rfl rfl rfl rfl ?_ | refine K_n' rfl rfl rfl ?_ | refine K_s rfl ?_)); refine K_nil ?_
        exact G_again (i + 1) ⟨hi, by rw [htk, i2, hp]; rfl⟩ (by omega) (M1 rfl <| M1 rfl <| M1 rfl <| M1 rfl M0) (Heap.Sub.refl _)
    · refine K_if0 rfl (decide_eq_false (by omega)) ?_
      refine G_exit (G_pops (G_leave (G_popx (G_done () ?_ M0 (Heap.Sub.refl _)))))
      rw [List.take_of_length_le (by omega)] at i2
      exact i2
  · rintro ⟨⟩ h
    refine K_run hN ?_; (repeat (first | refine K_v rfl rfl ?_ | refine K_g rfl rfl ?_ | refine K_n rfl rfl rfl rfl ?_ | refine K_n' rfl rfl rfl ?_ | refine K_s rfl ?_)); refine K_nil ?_
    exact G_ret (G_end rfl ⟨⟨-1, rfl, by rw [h]; rfl⟩, rfl⟩)
theorem has_row_ans (l : List RowS) (hl : l.length < 9223372036854775808) (g : Nat) (cap : List AV) (p : RowS → Bool) {fn : Func} (hfn : cs0.fn.get g = some fn) (hb : fn.body.isSome = true) (H : Heap) (hf : ∀ c ∈ l, Ans cs0 g (.agg c.av :: cap) H fun y K => y = .bool (p c) ∧ K = H) :
    Ans cs0 F.slices_ContainsFunc_api_Row_api_Row [rowsAV l, .func (.func g) [] cap] H fun x K => x = .bool (l.any p) ∧ K = H := by
  have hN := cz_ok
  refine G_body hN (fn := B.slices_ContainsFunc_api_Row_api_Row) (sz := 9) rfl rfl rfl rfl rfl ?_
  refine K_run hN ?_; (repeat (first | refine K_v rfl rfl ?_ | refine K_g rfl rfl ?_ | refine K_n rfl rfl rfl rfl ?_ | refine K_n' rfl rfl rfl ?_ | refine K_s rfl ?_)); refine K_nil ?_
  refine K_run hN ?_; (repeat (first | refine K_v rfl rfl ?_ | refine K_g rfl rfl ?_ | refine K_n rfl rfl rfl rfl ?_ | refine K_n' rfl rfl rfl ?_ | refine K_s rfl ?_))
  refine K_cx rfl rfl (idx_row_ans l hl g cap p hfn hb H hf) ?_
  rintro y K ⟨⟨z, rfl, hz⟩, rfl⟩
  (repeat (first | refine K_v rfl rfl ?_ | refine K_g rfl rfl ?_ | refine K_n rfl rfl rfl rfl ?_ | refine K_n' rfl rfl rfl ?_ | refine K_s rfl ?_))
  refine K_nil (G_ret (G_end rfl ⟨?_, rfl⟩))
  show AV.bool (decide (z ≥ 0)) = _
  rw [hz]
end Go.Eng
end
