import Derived.Test.YtekfcbeballilaaGreatDoorPe
section
namespace Go.Eng
open Go Go.RowKit Go.Proofs
set_option maxHeartbeats 4000000
set_option maxRecDepth 10000
theorem leaf_read_ans (s : List UInt8) (hs : Sh s) (H : Heap) : Ans cs0 F.leaf_read [.str s] H fun x K => x = rdAV s ∧ K = H := by
  have hN := cz_ok
  have hg := frac_Get_ans s hs
  unfold fgetAV at hg
  refine G_body hN (fn := B.leaf_read) (sz := 13) rfl rfl rfl rfl rfl ?_
  refine K_run hN ?_; (repeat (first | refine K_v rfl rfl ?_ | refine K_g rfl rfl ?_ | refine K_n rfl rfl rfl rfl ?_ | refine K_n' rfl rfl rfl ?_ | refine K_s rfl ?_)); refine K_nil ?_
  refine G_seq ?_
  cases s with
  | nil =>
    refine K_run hN ?_; (repeat (first | refine K_v rfl rfl ?_ | refine K_g rfl rfl ?_ | refine K_n rfl rfl rfl rfl ?_ | refine K_n' rfl rfl rfl ?_ | refine K_s rfl ?_)); refine K_nil ?_
    refine G_if1 rfl ?_
    refine K_run hN ?_; (repeat (first | refine K_v rfl rfl ?_ | refine K_g rfl rfl ?_ | refine K_n rfl rfl rfl rfl ?_ | refine K_n' rfl rfl rfl ?_ | refine K_s rfl ?_)); refine K_nil ?_
    exact G_ret (G_end rfl ⟨rfl, rfl⟩)
  | cons a s =>
    refine K_run hN ?_; (repeat (first | refine K_v rfl rfl ?_ | refine K_g rfl rfl ?_ | refine K_n rfl rfl rfl rfl ?_ | refine K_n' rfl rfl rfl ?_ | refine K_s rfl ?_)); refine K_nil ?_
    refine G_if0 rfl (G_skip (G_pop ?_))
    unfold rdAV
    cases hf : fget (a :: s) with
    | none =>
      rw [hf] at hg
      refine K_run hN ?_; (repeat (first | refine K_v rfl rfl ?_ | refine K_g rfl rfl ?_ | refine K_n rfl rfl rfl rfl ?_ | refine K_n' rfl rfl rfl ?_ | refine K_s rfl ?_ | refine K_c rfl rfl (hg _) ?_)); refine K_nil ?_
      refine K_run hN ?_; (repeat (first | refine K_v rfl rfl ?_ | refine K_g rfl rfl ?_ | refine K_n rfl rfl rfl rfl ?_ | refine K_n' rfl rfl rfl ?_ | refine K_s rfl ?_)); refine K_nil ?_
      exact G_ret (G_end rfl ⟨rfl, rfl⟩)
    | some q =>
      rw [hf] at hg
      refine K_run hN ?_; (repeat (first | refine K_v rfl rfl ?_ | refine K_g rfl rfl ?_ | refine K_n rfl rfl rfl rfl ?_ | refine K_n' rfl rfl rfl ?_ | refine K_s rfl ?_ | refine K_c rfl rfl (hg _) ?_)); refine K_nil ?_
      refine K_run hN ?_; (repeat (first | refine K_v rfl rfl ?_ | refine K_g rfl rfl ?_ | refine K_n rfl rfl rfl rfl ?_ | refine K_n' rfl rfl rfl ?_ | refine K_s rfl ?_)); refine K_nil ?_
      exact G_ret (G_end rfl ⟨rfl, rfl⟩)
/-- A new row out of one that has no room. -/
theorem g_appnew {cx : Cx} {m : List (Nat × AV)} {H : Heap} {a b : Operand} {t u : TypeId} {el mm id es : Nat} {v : AV} {dx : TypeDesc} {inf : TypeInfo} {zs news cs : List AV}
    (ha : rd cx m a = some (.slice id 0 0 0 true es)) (hb : rd cx m b = some v) (hu : cx.D.und t = some (.slice el)) (hx : cx.D.und u = some dx) (hd : srcD dx = true) (hi : cx.D.inf el = some inf) (hz : zeroOf cx.D el = some zs) (hs : srcCells H inf.size v = some (news, mm)) (h0 : 0 < mm) (he : Nat.beq es inf.size = true) (ho : allOne news = true) (hg : H.t.get id = some (.cells cs)) (hr : roomOk mm inf.bytes = true) :
    sop cx m H (.call ⟨.builtin .append, #[a, b], #[t, u]⟩) = some (.val (.slice H.nx 0 mm mm false inf.size) (H.allocE (.cells news) (some el))) := by
  have e1 : Nat.ble mm 0 = false := by
    cases h : Nat.ble mm 0 with
    | false => rfl
    | true => have := Nat.le_of_ble_eq_true h; omega
  have e2 : seg cs 0 (0 * inf.size) = some [] := by simp [seg]
  have e3 : 0 + mm = mm := Nat.zero_add mm
  simp only [sop, rds, ha, hb, aBuiltin, aAppend, hu, hx, hd, hi, hz, hs, cond_true, e1, cond_false, e2, e3, hr, he, ho, hg, Bool.and_self, newR, List.nil_append]
theorem allOne_app : ∀ xs ys : List AV, allOne (xs ++ ys) = (allOne xs && allOne ys)
  | [], ys => by simp [allOne]
  | x :: xs, ys => by simp only [List.cons_append, allOne, allOne_app xs ys, Bool.and_assoc]
theorem allOne_fm {α : Type} (f : α → List AV) (hf : ∀ a, allOne (f a) = true) : ∀ l : List α, allOne (l.flatMap f) = true
  | [] => rfl
  | a :: l => by rw [List.flatMap_cons, allOne_app, hf, allOne_fm f hf l]; rfl
theorem roomOk_le {k b : Nat} (hk : k ≤ 100000001) (hb : Nat.ble b 1000 = true) : roomOk k b = true := by
  have hby : b ≤ 1000 := by simpa using hb
  simp only [roomOk, Bool.and_eq_true, Nat.ble_eq]
  exact ⟨Nat.le_trans (Nat.mul_le_mul (show 2 * k + 192 ≤ 200000194 by omega) hby) (by decide), by omega⟩
theorem fm_set {α : Type} (f : α → List AV) (k : Nat) (hf : ∀ a, (f a).length = k) : ∀ {l : List α} {n i : Nat} {x x' : α} {y : AV}, l[n]? = some x → i < k → (f x).set i y = f x' → (l.flatMap f).set (n * k + i) y = (l.set n x').flatMap f
  | [], n, i, x, x', y, h, _, _ => by simp at h
  | a :: l, 0, i, x, x', y, h, hi, he => by
    simp at h
    subst h
    rw [List.flatMap_cons, Nat.zero_mul, Nat.zero_add, List.set_append_left _ _ (by rw [hf]; exact hi), he, List.set_cons_zero, List.flatMap_cons]
  | a :: l, n + 1, i, x, x', y, h, hi, he => by
    rw [List.flatMap_cons, List.set_append_right _ _ (by rw [hf, Nat.succ_mul]; omega), hf, show (n + 1) * k + i - k = n * k + i by rw [Nat.succ_mul]; omega, fm_set f k hf (by simpa using h) hi he, List.set_cons_succ, List.flatMap_cons]
/-- A copy of columns: a place of its own. -/
theorem clone_cols_ans (cs : List ColS) (h0 : 0 < cs.length) (hl : cs.length ≤ 100000) (p : Nat) : Ans cs0 F.slices_Clone_api_Col_api_Col [colsAV cs] (Hn p) fun x K => x = .slice (p + 1) 0 cs.length cs.length false 5 ∧ K = He [(p + 1, .cells (cs.flatMap ColS.av))] (p + 2) := by
  have hN := cz_ok
  obtain ⟨c, cs, rfl⟩ : ∃ c l, cs = c :: l := by
    cases cs with
    | nil => simp at h0
    | cons c l => exact ⟨c, l, rfl⟩
  refine Ans_low (G_body hN (fn := B.slices_Clone_api_Col_api_Col) (sz := 8) rfl rfl rfl rfl rfl ?_)
  refine K_run hN ?_; (repeat (first | refine K_v rfl rfl ?_ | refine K_g rfl rfl ?_ | refine K_n rfl rfl rfl rfl ?_ | refine K_n' rfl rfl rfl ?_ | refine K_s rfl ?_)); refine K_nil ?_
  refine G_seq ?_
  refine K_run hN ?_; (repeat (first | refine K_v rfl rfl ?_ | refine K_g rfl rfl ?_ | refine K_n rfl rfl rfl rfl ?_ | refine K_n' rfl rfl rfl ?_ | refine K_s rfl ?_)); refine K_nil ?_
  refine G_if0 rfl (G_skip (G_pop ?_))
  refine K_run hN ?_; (repeat (first | refine K_v rfl rfl ?_ | refine K_g rfl rfl ?_ | refine K_n rfl rfl rfl rfl ?_ | refine K_n' rfl rfl rfl ?_ | refine K_s rfl ?_))
  have hsrc : ∀ H, srcCells H 5 (colsAV (c :: cs)) = some ((c :: cs).flatMap ColS.av, (c :: cs).length) := fun H => by
    show cond (Nat.beq ((c :: cs).flatMap ColS.av).length ((c :: cs).length * 5)) (some ((c :: cs).flatMap ColS.av, (c :: cs).length)) none = _
    rw [fm_len ColS.av 5 ColS.av_len, show Nat.beq ((c :: cs).length * 5) ((c :: cs).length * 5) = true by simp]; rfl
  refine K_v rfl (g_appnew (mm := (c :: cs).length) rfl rfl rfl rfl rfl rfl rfl (hsrc _) h0 rfl (allOne_fm ColS.av (fun _ => rfl) _) (T.get_set_same _ _ _) (roomOk_le (by omega) rfl)) ?_
  (repeat (first | refine K_v rfl rfl ?_ | refine K_g rfl rfl ?_ | refine K_n rfl rfl rfl rfl ?_ | refine K_n' rfl rfl rfl ?_ | refine K_s rfl ?_)); refine K_nil ?_
  refine G_ret (G_end rfl ⟨_, ⟨rfl, rfl⟩, He_sub ?_ (O1 ?_ O0)⟩)
  · rw [(allocE_get' _ _ _).2]; exact Nat.le_refl _
  · rw [(allocE_get' _ _ _).1]; exact T.get_set_same _ _ _
def belowC (cs : List ColS) (j : Nat) (v : Rat) : List ColS := if isq (cs.getD j default).up && !(decide (v < qv (cs.getD j default).up)) then cs else cs.set j { cs.getD j default with up := ftext v }
def aboveC (cs : List ColS) (j : Nat) (v : Rat) : List ColS := if isq (cs.getD j default).low && !(decide (qv (cs.getD j default).low < v)) then cs else cs.set j { cs.getD j default with low := ftext v }
theorem cmp_lt (p q : Rat) : decide (cmpR p q < 0) = decide (p < q) := by
  rw [decide_eq_decide]
  unfold cmpR
  split
  · exact ⟨fun _ => by assumption, fun _ => by decide⟩
  · split
    · exact ⟨fun h => absurd h (by decide), fun h => by grind⟩
    · exact ⟨fun h => absurd h (by decide), fun h => by grind⟩
theorem cmp_gt (p q : Rat) : decide (cmpR p q > 0) = decide (q < p) := by
  rw [decide_eq_decide]
  unfold cmpR
  split
  · exact ⟨fun h => absurd h (by decide), fun h => by grind⟩
  · split
    · exact ⟨fun h => absurd h (by decide), fun h => by grind⟩
    · exact ⟨fun _ => by grind, fun _ => by decide⟩
theorem cmp_ge (p q : Rat) : decide (cmpR p q ≥ 0) = decide (q ≤ p) := by
  rw [decide_eq_decide]
  unfold cmpR
  split
  · exact ⟨fun h => absurd h (by decide), fun h => by grind⟩
  · split
    · exact ⟨fun _ => by grind, fun _ => by decide⟩
    · exact ⟨fun _ => by grind, fun _ => by decide⟩
theorem rdAV_none {s : List UInt8} (h : isq s = false) : rdAV s = .nilp := by
  unfold isq at h
  unfold rdAV
  cases hf : fget s with
  | none => rfl
  | some q => rw [hf] at h; cases h
end Go.Eng
end
section
namespace Go.Eng
open Go Go.RowKit Go.Proofs
set_option maxHeartbeats 4000000
set_option maxRecDepth 10000
theorem leaf_below_ans (cs : List ColS) (hc : ∀ c ∈ cs, c.Sh) (hl : cs.length ≤ 100000) (j : Nat) (hj : j < cs.length) (v : Rat) (hv : Hq v) (H : Heap) : Ans cs0 F.leaf_below [colsAV cs, .int .i64 j, .frac v] H fun x K => x = colsAV (belowC cs j v) ∧ K = H := by
  have hN := cz_ok
  refine Ans_free gl0_free (Imp.refl _) (by
    show (AV.frees (cs.flatMap ColS.av) && true) = true
    rw [frees_fm ColS.av _ fun c _ => col_frees c]; rfl) ?_ H
  have hx : cs[j]? = some cs[j] := List.getElem?_eq_getElem hj
  have hsh := hc cs[j] (List.getElem_mem _)
  have hgd := getD_at hx
  have hcl := clone_cols_ans cs (by omega) hl 0
  unfold belowC
  rw [hgd]
  generalize cs[j] = c at *
  have hread := leaf_read_ans c.up hsh.up
  have htext := frac_Frac_Text_ans (.frac v) hv.n.sm hv.d.sm
  have hcmp := fun H => frac_Frac_Cmp_ans (X := ext0) (Y := lies0) hN (.frac v) (.frac (qv c.up)) hv (qv_hq _) H
  have hcell : (cs.flatMap ColS.av)[0 + j * 5 + 2]? = some (.str c.up) := by
    rw [Nat.zero_add]; exact fm_cell ColS.av 5 ColS.av_len hx rfl
  refine G_body hN (fn := B.leaf_below) (sz := 32) rfl rfl rfl rfl rfl ?_
  refine K_run hN ?_; (repeat (first | refine K_v rfl rfl ?_ | refine K_g rfl rfl ?_ | refine K_n rfl rfl rfl rfl ?_ | refine K_n' rfl rfl rfl ?_ | refine K_s rfl ?_)); refine K_nil ?_
  refine G_nil_heap [(0, colsAV cs), (1, .int .i64 j), (2, .frac v)] 0 (M1 rfl <| M1 rfl <| M1 rfl M0) (Nat.le_refl _) ?_
  refine K_run hN ?_; (repeat (first | refine K_v rfl rfl ?_ | refine K_g rfl rfl ?_ | refine K_n rfl rfl rfl rfl ?_ | refine K_n' rfl rfl rfl ?_ | refine K_s rfl ?_))
  refine K_c rfl rfl hcl ?_
  (repeat (first | refine K_v rfl rfl ?_ | refine K_g rfl rfl ?_ | refine K_n rfl rfl rfl rfl ?_ | refine K_n' rfl rfl rfl ?_ | refine K_s rfl ?_)); refine K_nil ?_
  have fin : ∀ (l : List ColS), l.length = cs.length → ∀ nx, Frz (He [(1, .cells (l.flatMap ColS.av))] nx) (wrapR [.slice (0 + 1) 0 cs.length cs.length false 5]) (colsAV l) := fun l hll nx => by
    refine ⟨(l.flatMap ColS.av).length + 5, ?_⟩
    have : ∀ (xs : List AV) (k : Nat), (∀ x ∈ xs, Fz1 x) → xs.length + 2 ≤ k → frzs (He [(1, .cells (l.flatMap ColS.av))] nx) k xs = some xs := by
      intro xs
      induction xs with
      | nil => intro k _ hk; obtain ⟨k, rfl⟩ : ∃ j, k = j + 1 := ⟨k - 1, by simp at hk; omega⟩; rfl
      | cons x xs ih =>
        intro k hxs hk
        simp only [List.length_cons] at hk
        obtain ⟨k, rfl⟩ : ∃ j, k = j + 2 := ⟨k - 2, by omega⟩
        exact frzs_cons (hxs x (List.mem_cons_self ..) _ k) (ih (k + 1) (fun y hy => hxs y (List.mem_cons_of_mem _ hy)) (by omega))
    have h2 := frz_slice (H := He [(1, .cells (l.flatMap ColS.av))] nx) (n := (l.flatMap ColS.av).length + 4) (id := 0 + 1) (off := 0) (len := cs.length) (cap := cs.length) (es := 5) (ex := false) (cs := l.flatMap ColS.av) (l := l.flatMap ColS.av) (ys := l.flatMap ColS.av) rfl (seg_all _ (by rw [fm_len ColS.av 5 ColS.av_len, hll])) (this _ _ (fun x hx => by
      obtain ⟨a, _, ha⟩ := List.mem_flatMap.1 hx
      simp only [ColS.av, List.mem_cons, List.not_mem_nil, or_false] at ha
      rcases ha with rfl | rfl | rfl | rfl | rfl
      all_goals exact fun _ _ => rfl) (by omega))
    have h3 : colsAV l = .isl (l.flatMap ColS.av) cs.length := by rw [colsAV, hll]
    rw [h3]
    exact h2
  have hput : (He [(1, .cells (cs.flatMap ColS.av))] 2).put 1 (.cells ((cs.flatMap ColS.av).set (0 + j * 5 + 2) (.str (ftext v)))) = He [(1, .cells (((cs.set j { c with up := ftext v }).flatMap ColS.av)))] 2 := by
    have : (cs.flatMap ColS.av).set (0 + j * 5 + 2) (.str (ftext v)) = (cs.set j { c with up := ftext v }).flatMap ColS.av := by
      rw [Nat.zero_add]; exact fm_set ColS.av 5 ColS.av_len hx (by decide) rfl
    rw [this]
    rfl
  cases hq : isq c.up with
  | false =>
    rw [rdAV_none hq] at hread
    refine G_seq ?_
    refine K_run hN ?_; (repeat (first | refine K_v rfl rfl ?_ | refine K_g rfl rfl ?_ | refine K_n rfl rfl rfl rfl ?_ | refine K_n' rfl rfl rfl ?_ | refine K_s rfl ?_))
    refine K_v rfl (g_idx j rfl rfl rfl rfl rfl hj) ?_
    (repeat (first | refine K_v rfl (g_load rfl rfl rfl rfl rfl hcell) ?_ | refine K_v rfl rfl ?_ | refine K_g rfl rfl ?_ | refine K_n rfl rfl rfl rfl ?_ | refine K_n' rfl rfl rfl ?_ | refine K_s rfl ?_))
    (repeat (first | refine K_v rfl rfl ?_ | refine K_g rfl rfl ?_ | refine K_n rfl rfl rfl rfl ?_ | refine K_n' rfl rfl rfl ?_ | refine K_s rfl ?_ | refine K_c rfl rfl (hread _) ?_)); refine K_nil ?_
    refine K_run hN ?_; (repeat (first | refine K_v rfl rfl ?_ | refine K_g rfl rfl ?_ | refine K_n rfl rfl rfl rfl ?_ | refine K_n' rfl rfl rfl ?_ | refine K_s rfl ?_)); refine K_nil ?_
    refine G_if1 rfl ?_
    refine K_run1 hN ?_; (repeat (first | refine K_v rfl rfl ?_ | refine K_g rfl rfl ?_ | refine K_n rfl rfl rfl rfl ?_ | refine K_n' rfl rfl rfl ?_ | refine K_s rfl ?_ | refine K_c rfl rfl (htext _) ?_))
    refine K_v rfl (g_idx j rfl rfl rfl rfl rfl hj) ?_
    (repeat (first | refine K_v rfl rfl ?_ | refine K_g rfl rfl ?_ | refine K_n rfl rfl rfl rfl ?_ | refine K_n' rfl rfl rfl ?_ | refine K_s rfl ?_))
    refine K_s (g_store1 rfl rfl rfl rfl rfl rfl rfl (by
      show 0 + j * 5 + 2 < _
      rw [fm_len ColS.av 5 ColS.av_len]; omega)) ?_
    refine K_nil (G_pop ?_)
    refine K_run hN ?_; (repeat (first | refine K_v rfl rfl ?_ | refine K_g rfl rfl ?_ | refine K_n rfl rfl rfl rfl ?_ | refine K_n' rfl rfl rfl ?_ | refine K_s rfl ?_)); refine K_nil ?_
    refine G_ret (G_end rfl ?_)
    have := fin (cs.set j { c with up := ftext v }) (by rw [List.length_set]) 2
    rw [← hput] at this
    exact this
  | true =>
    rw [rdAV_some hq] at hread
    cases hlt : decide (v < qv c.up) with
    | false =>
      have e : decide (cmpR v (qv c.up) < 0) = false := by rw [cmp_lt, hlt]
      refine G_seq ?_
      refine K_run hN ?_; (repeat (first | refine K_v rfl rfl ?_ | refine K_g rfl rfl ?_ | refine K_n rfl rfl rfl rfl ?_ | refine K_n' rfl rfl rfl ?_ | refine K_s rfl ?_))
      refine K_v rfl (g_idx j rfl rfl rfl rfl rfl hj) ?_
      (repeat (first | refine K_v rfl (g_load rfl rfl rfl rfl rfl hcell) ?_ | refine K_v rfl rfl ?_ | refine K_g rfl rfl ?_ | refine K_n rfl rfl rfl rfl ?_ | refine K_n' rfl rfl rfl ?_ | refine K_s rfl ?_))
      (repeat (first | refine K_v rfl rfl ?_ | refine K_g rfl rfl ?_ | refine K_n rfl rfl rfl rfl ?_ | refine K_n' rfl rfl rfl ?_ | refine K_s rfl ?_ | refine K_c rfl rfl (hread _) ?_)); refine K_nil ?_
      refine K_run hN ?_; (repeat (first | refine K_b rfl rfl e ?_ | refine K_v rfl rfl ?_ | refine K_g rfl rfl ?_ | refine K_n rfl rfl rfl rfl ?_ | refine K_n' rfl rfl rfl ?_ | refine K_s rfl ?_ | refine K_c rfl rfl (hcmp _) ?_)); refine K_nil ?_
      refine G_if0 rfl (G_skip (G_pop ?_))
      refine K_run hN ?_; (repeat (first | refine K_v rfl rfl ?_ | refine K_g rfl rfl ?_ | refine K_n rfl rfl rfl rfl ?_ | refine K_n' rfl rfl rfl ?_ | refine K_s rfl ?_)); refine K_nil ?_
      exact G_ret (G_end rfl (fin cs rfl 2))
    | true =>
      have e : decide (cmpR v (qv c.up) < 0) = true := by rw [cmp_lt, hlt]
      refine G_seq ?_
      refine K_run hN ?_; (repeat (first | refine K_v rfl rfl ?_ | refine K_g rfl rfl ?_ | refine K_n rfl rfl rfl rfl ?_ | refine K_n' rfl rfl rfl ?_ | refine K_s rfl ?_))
      refine K_v rfl (g_idx j rfl rfl rfl rfl rfl hj) ?_
      (repeat (first | refine K_v rfl (g_load rfl rfl rfl rfl rfl hcell) ?_ | refine K_v rfl rfl ?_ | refine K_g rfl rfl ?_ | refine K_n rfl rfl rfl rfl ?_ | refine K_n' rfl rfl rfl ?_ | refine K_s rfl ?_))
      (repeat (first | refine K_v rfl rfl ?_ | refine K_g rfl rfl ?_ | refine K_n rfl rfl rfl rfl ?_ | refine K_n' rfl rfl rfl ?_ | refine K_s rfl ?_ | refine K_c rfl rfl (hread _) ?_)); refine K_nil ?_
      refine K_run hN ?_; (repeat (first | refine K_b rfl rfl e ?_ | refine K_v rfl rfl ?_ | refine K_g rfl rfl ?_ | refine K_n rfl rfl rfl rfl ?_ | refine K_n' rfl rfl rfl ?_ | refine K_s rfl ?_ | refine K_c rfl rfl (hcmp _) ?_)); refine K_nil ?_
      refine G_if1 rfl ?_
      refine K_run1 hN ?_; (repeat (first | refine K_v rfl rfl ?_ | refine K_g rfl rfl ?_ | refine K_n rfl rfl rfl rfl ?_ | refine K_n' rfl rfl rfl ?_ | refine K_s rfl ?_ | refine K_c rfl rfl (htext _) ?_))
      refine K_v rfl (g_idx j rfl rfl rfl rfl rfl hj) ?_
      (repeat (first | refine K_v rfl rfl ?_ | refine K_g rfl rfl ?_ | refine K_n rfl rfl rfl rfl ?_ | refine K_n' rfl rfl rfl ?_ | refine K_s rfl ?_))
      refine K_s (g_store1 rfl rfl rfl rfl rfl rfl rfl (by
        show 0 + j * 5 + 2 < _
        rw [fm_len ColS.av 5 ColS.av_len]; omega)) ?_
      refine K_nil (G_pop ?_)
      refine K_run hN ?_; (repeat (first | refine K_v rfl rfl ?_ | refine K_g rfl rfl ?_ | refine K_n rfl rfl rfl rfl ?_ | refine K_n' rfl rfl rfl ?_ | refine K_s rfl ?_)); refine K_nil ?_
      refine G_ret (G_end rfl ?_)
      have := fin (cs.set j { c with up := ftext v }) (by rw [List.length_set]) 2
      rw [← hput] at this
      exact this
theorem leaf_above_ans (cs : List ColS) (hc : ∀ c ∈ cs, c.Sh) (hl : cs.length ≤ 100000) (j : Nat) (hj : j < cs.length) (v : Rat) (hv : Hq v) (H : Heap) : Ans cs0 F.leaf_above [colsAV cs, .int .i64 j, .frac v] H fun x K => x = colsAV (aboveC cs j v) ∧ K = H := by
  have hN := cz_ok
  refine Ans_free gl0_free (Imp.refl _) (by
    show (AV.frees (cs.flatMap ColS.av) && true) = true
    rw [frees_fm ColS.av _ fun c _ => col_frees c]; rfl) ?_ H
  have hx : cs[j]? = some cs[j] := List.getElem?_eq_getElem hj
  have hsh := hc cs[j] (List.getElem_mem _)
  have hgd := getD_at hx
  have hcl := clone_cols_ans cs (by omega) hl 0
  unfold aboveC
  rw [hgd]
  generalize cs[j] = c at *
  have hread := leaf_read_ans c.low hsh.low
  have htext := frac_Frac_Text_ans (.frac v) hv.n.sm hv.d.sm
  have hcmp := fun H => frac_Frac_Cmp_ans (X := ext0) (Y := lies0) hN (.frac v) (.frac (qv c.low)) hv (qv_hq _) H
  have hcell : (cs.flatMap ColS.av)[0 + j * 5 + 1]? = some (.str c.low) := by
    rw [Nat.zero_add]; exact fm_cell ColS.av 5 ColS.av_len hx rfl
  refine G_body hN (fn := B.leaf_above) (sz := 32) rfl rfl rfl rfl rfl ?_
  refine K_run hN ?_; (repeat (first | refine K_v rfl rfl ?_ | refine K_g rfl rfl ?_ | refine K_n rfl rfl rfl rfl ?_ | refine K_n' rfl rfl rfl ?_ | refine K_s rfl ?_)); refine K_nil ?_
  refine G_nil_heap [(0, colsAV cs), (1, .int .i64 j), (2, .frac v)] 0 (M1 rfl <| M1 rfl <| M1 rfl M0) (Nat.le_refl _) ?_
  refine K_run hN ?_; (repeat (first | refine K_v rfl rfl ?_ | refine K_g rfl rfl ?_ | refine K_n rfl rfl rfl rfl ?_ | refine K_n' rfl rfl rfl ?_ | refine K_s rfl ?_))
  refine K_c rfl rfl hcl ?_
  (repeat (first | refine K_v rfl rfl ?_ | refine K_g rfl rfl ?_ | refine K_n rfl rfl rfl rfl ?_ | refine K_n' rfl rfl rfl ?_ | refine K_s rfl ?_)); refine K_nil ?_
  have fin : ∀ (l : List ColS), l.length = cs.length → ∀ nx, Frz (He [(1, .cells (l.flatMap ColS.av))] nx) (wrapR [.slice (0 + 1) 0 cs.length cs.length false 5]) (colsAV l) := fun l hll nx => by
    refine ⟨(l.flatMap ColS.av).length + 5, ?_⟩
    have : ∀ (xs : List AV) (k : Nat), (∀ x ∈ xs, Fz1 x) → xs.length + 2 ≤ k → frzs (He [(1, .cells (l.flatMap ColS.av))] nx) k xs = some xs := by
      intro xs
      induction xs with
      | nil => intro k _ hk; obtain ⟨k, rfl⟩ : ∃ j, k = j + 1 := ⟨k - 1, by simp at hk; omega⟩; rfl
      | cons x xs ih =>
        intro k hxs hk
        simp only [List.length_cons] at hk
        obtain ⟨k, rfl⟩ : ∃ j, k = j + 2 := ⟨k - 2, by omega⟩
        exact frzs_cons (hxs x (List.mem_cons_self ..) _ k) (ih (k + 1) (fun y hy => hxs y (List.mem_cons_of_mem _ hy)) (by omega))
    have h2 := frz_slice (H := He [(1, .cells (l.flatMap ColS.av))] nx) (n := (l.flatMap ColS.av).length + 4) (id := 0 + 1) (off := 0) (len := cs.length) (cap := cs.length) (es := 5) (ex := false) (cs := l.flatMap ColS.av) (l := l.flatMap ColS.av) (ys := l.flatMap ColS.av) rfl (seg_all _ (by rw [fm_len ColS.av 5 ColS.av_len, hll])) (this _ _ (fun x hx => by
      obtain ⟨a, _, ha⟩ := List.mem_flatMap.1 hx
      simp only [ColS.av, List.mem_cons, List.not_mem_nil, or_false] at ha
      rcases ha with rfl | rfl | rfl | rfl | rfl
      all_goals exact fun _ _ => rfl) (by omega))
    have h3 : colsAV l = .isl (l.flatMap ColS.av) cs.length := by rw [colsAV, hll]
    rw [h3]
    exact h2
  have hput : (He [(1, .cells (cs.flatMap ColS.av))] 2).put 1 (.cells ((cs.flatMap ColS.av).set (0 + j * 5 + 1) (.str (ftext v)))) = He [(1, .cells (((cs.set j { c with low := ftext v }).flatMap ColS.av)))] 2 := by
    have : (cs.flatMap ColS.av).set (0 + j * 5 + 1) (.str (ftext v)) = (cs.set j { c with low := ftext v }).flatMap ColS.av := by
      rw [Nat.zero_add]; exact fm_set ColS.av 5 ColS.av_len hx (by decide) rfl
    rw [this]
    rfl
  cases hq : isq c.low with
  | false =>
    rw [rdAV_none hq] at hread
    refine G_seq ?_
    refine K_run hN ?_; (repeat (first | refine K_v rfl rfl ?_ | refine K_g rfl rfl ?_ | refine K_n rfl rfl rfl rfl ?_ | refine K_n' rfl rfl rfl ?_ | refine K_s rfl ?_))
    refine K_v rfl (g_idx j rfl rfl rfl rfl rfl hj) ?_
    (repeat (first | refine K_v rfl (g_load rfl rfl rfl rfl rfl hcell) ?_ | refine K_v rfl rfl ?_ | refine K_g rfl rfl ?_ | refine K_n rfl rfl rfl rfl ?_ | refine K_n' rfl rfl rfl ?_ | refine K_s rfl ?_))
    (repeat (first | refine K_v rfl rfl ?_ | refine K_g rfl rfl ?_ | refine K_n rfl rfl rfl rfl ?_ | refine K_n' rfl rfl rfl ?_ | refine K_s rfl ?_ | refine K_c rfl rfl (hread _) ?_)); refine K_nil ?_
    refine K_run hN ?_; (repeat (first | refine K_v rfl rfl ?_ | refine K_g rfl rfl ?_ | refine K_n rfl rfl rfl rfl ?_ | refine K_n' rfl rfl rfl ?_ | refine K_s rfl ?_)); refine K_nil ?_
    refine G_if1 rfl ?_
    refine K_run1 hN ?_; (repeat (first | refine K_v rfl rfl ?_ | refine K_g rfl rfl ?_ | refine K_n rfl rfl rfl rfl ?_ | refine K_n' rfl rfl rfl ?_ | refine K_s rfl ?_ | refine K_c rfl rfl (htext _) ?_))
    refine K_v rfl (g_idx j rfl rfl rfl rfl rfl hj) ?_
    (repeat (first | refine K_v rfl rfl ?_ | refine K_g rfl rfl ?_ | refine K_n rfl rfl rfl rfl ?_ | refine K_n' rfl rfl rfl ?_ | refine K_s rfl ?_))
    refine K_s (g_store1 rfl rfl rfl rfl rfl rfl rfl (by
      show 0 + j * 5 + 1 < _
      rw [fm_len ColS.av 5 ColS.av_len]; omega)) ?_
    refine K_nil (G_pop ?_)
    refine K_run hN ?_; (repeat (first | refine K_v rfl rfl ?_ | refine K_g rfl rfl ?_ | refine K_n rfl rfl rfl rfl ?_ | refine K_n' rfl rfl rfl ?_ | refine K_s rfl ?_)); refine K_nil ?_
    refine G_ret (G_end rfl ?_)
    have := fin (cs.set j { c with low := ftext v }) (by rw [List.length_set]) 2
    rw [← hput] at this
    exact this
  | true =>
    rw [rdAV_some hq] at hread
    cases hlt : decide (qv c.low < v) with
    | false =>
      have e : decide (cmpR v (qv c.low) > 0) = false := by rw [cmp_gt, hlt]
      refine G_seq ?_
      refine K_run hN ?_; (repeat (first | refine K_v rfl rfl ?_ | refine K_g rfl rfl ?_ | refine K_n rfl rfl rfl rfl ?_ | refine K_n' rfl rfl rfl ?_ | refine K_s rfl ?_))
      refine K_v rfl (g_idx j rfl rfl rfl rfl rfl hj) ?_
      (repeat (first | refine K_v rfl (g_load rfl rfl rfl rfl rfl hcell) ?_ | refine K_v rfl rfl ?_ | refine K_g rfl rfl ?_ | refine K_n rfl rfl rfl rfl ?_ | refine K_n' rfl rfl rfl ?_ | refine K_s rfl ?_))
      (repeat (first | refine K_v rfl rfl ?_ | refine K_g rfl rfl ?_ | refine K_n rfl rfl rfl rfl ?_ | refine K_n' rfl rfl rfl ?_ | refine K_s rfl ?_ | refine K_c rfl rfl (hread _) ?_)); refine K_nil ?_
      refine K_run hN ?_; (repeat (first | refine K_b rfl rfl e ?_ | refine K_v rfl rfl ?_ | refine K_g rfl rfl ?_ | refine K_n rfl rfl rfl rfl ?_ | refine K_n' rfl rfl rfl ?_ | refine K_s rfl ?_ | refine K_c rfl rfl (hcmp _) ?_)); refine K_nil ?_
      refine G_if0 rfl (G_skip (G_pop ?_))
      refine K_run hN ?_; (repeat (first | refine K_v rfl rfl ?_ | refine K_g rfl rfl ?_ | refine K_n rfl rfl rfl rfl ?_ | refine K_n' rfl rfl rfl ?_ | refine K_s rfl ?_)); refine K_nil ?_
      exact G_ret (G_end rfl (fin cs rfl 2))
    | true =>
      have e : decide (cmpR v (qv c.low) > 0) = true := by rw [cmp_gt, hlt]
      refine G_seq ?_
      refine K_run hN ?_; (repeat (first | refine K_v rfl rfl ?_ | refine K_g rfl rfl ?_ | refine K_n rfl rfl rfl rfl ?_ | refine K_n' rfl rfl rfl ?_ | refine K_s rfl ?_))
      refine K_v rfl (g_idx j rfl rfl rfl rfl rfl hj) ?_
      (repeat (first | refine K_v rfl (g_load rfl rfl rfl rfl rfl hcell) ?_ | refine K_v rfl rfl ?_ | refine K_g rfl rfl ?_ | refine K_n rfl rfl rfl rfl ?_ | refine K_n' rfl rfl rfl ?_ | refine K_s rfl ?_))
      (repeat (first | refine K_v rfl rfl ?_ | refine K_g rfl rfl ?_ | refine K_n rfl rfl rfl rfl ?_ | refine K_n' rfl rfl rfl ?_ | refine K_s rfl ?_ | refine K_c rfl rfl (hread _) ?_)); refine K_nil ?_
      refine K_run hN ?_; (repeat (first | refine K_b rfl rfl e ?_ | refine K_v rfl rfl ?_ | refine K_g rfl rfl ?_ | refine K_n rfl rfl rfl rfl ?_ | refine K_n' rfl rfl rfl ?_ | refine K_s rfl ?_ | refine K_c rfl rfl (hcmp _) ?_)); refine K_nil ?_
      refine G_if1 rfl ?_
      refine K_run1 hN ?_; (repeat (first | refine K_v rfl rfl ?_ | refine K_g rfl rfl ?_ | refine K_n rfl rfl rfl rfl ?_ | refine K_n' rfl rfl rfl ?_ | refine K_s rfl ?_ | refine K_c rfl rfl (htext _) ?_))
      refine K_v rfl (g_idx j rfl rfl rfl rfl rfl hj) ?_
      (repeat (first | refine K_v rfl rfl ?_ | refine K_g rfl rfl ?_ | refine K_n rfl rfl rfl rfl ?_ | refine K_n' rfl rfl rfl ?_ | refine K_s rfl ?_))
      refine K_s (g_store1 rfl rfl rfl rfl rfl rfl rfl (by
        show 0 + j * 5 + 1 < _
        rw [fm_len ColS.av 5 ColS.av_len]; omega)) ?_
      refine K_nil (G_pop ?_)
      refine K_run hN ?_; (repeat (first | refine K_v rfl rfl ?_ | refine K_g rfl rfl ?_ | refine K_n rfl rfl rfl rfl ?_ | refine K_n' rfl rfl rfl ?_ | refine K_s rfl ?_)); refine K_nil ?_
      refine G_ret (G_end rfl ?_)
      have := fin (cs.set j { c with low := ftext v }) (by rw [List.length_set]) 2
      rw [← hput] at this
      exact this
end Go.Eng
end
section
namespace Go.Eng
open Go Go.RowKit Go.Proofs
set_option maxHeartbeats 8000000
set_option maxRecDepth 10000
/-- A column whose bounds cross. -/
def crossC (c : ColS) : Bool := isq c.low && isq c.up && decide (qv c.up < qv c.low)
def shownB (rows : List RowS) (floor : Rat) (all : Bool) (cols : List ColS) (dual : List (List UInt8)) : Bool :=
  cols.any crossC || (boundB ⟨cols, rows⟩ dual false && decide (0 < qv (boundS ⟨cols, rows⟩ dual false))) || (!all && boundB ⟨cols, rows⟩ dual true && decide (floor ≤ qv (boundS ⟨cols, rows⟩ dual true)))
theorem ftext_sh {q : Rat} (hn : Sm q.num.natAbs) (hd : Sm q.den) : Sh (ftext q) := by
  have h1 := ntext_bound hn
  have h2 := ntext_bound hd
  unfold Sh ftext
  cases decide (q.num < 0) <;> cases ntext q.den == [49] <;> simp <;> omega
theorem boundS_sh (l : LPS) (y : List (List UInt8)) (costs : Bool) : Sh (boundS l y costs) := by
  unfold boundS
  cases hb : boundB l y costs with
  | false => show (0 : Nat) < _; decide
  | true =>
    have hm : l.may = true := by
      simp only [boundB, boundIn, Bool.and_eq_true] at hb
      exact hb.1.2
    have := (outR_bt l (may_f hm) (ys := y.map qv) mem_qv_bt costs l.cols.length (may_f hm).nc).hq (by decide)
    exact ftext_sh this.n.sm this.d.sm
theorem Imp_iptr {xs ys : List AV} {o : Nat} (h : Imps xs ys) : Imp (.iptr xs o) (.iptr ys o) := fun ρ z v hv => by
  cases hv with | iptr _ _ b o' vs h1 h2 => exact .iptr ys o b o' vs (h.vrs h1) h2
theorem Imps_refl : ∀ xs : List AV, Imps xs xs
  | [] => .nil
  | x :: xs => .cons (Imp.refl x) (Imps_refl xs)
theorem sgn_gt (q : Rat) : decide (sgnR q > 0) = decide (0 < q) := by
  rw [decide_eq_decide]
  unfold sgnR
  split
  · exact ⟨fun h => absurd h (by decide), fun h => by grind⟩
  · split
    · exact ⟨fun h => absurd h (by decide), fun h => by grind⟩
    · exact ⟨fun _ => by grind, fun _ => by decide⟩
theorem leaf_shown_ans (cols cols' : List ColS) (rows : List RowS) (tree floorAV sn : AV) (floor : Rat) (all : Bool) (dual : List (List UInt8)) (hl : LPS.Sh ⟨cols, rows⟩) (h1 : cols.length ≤ 100000) (h2 : rows.length ≤ 100000) (hd : ∀ s ∈ dual, Sh s) (hdl : dual.length ≤ 10000000) (hf : IsQ floorAV floor) (hfq : Hq floor) (ht : tree.free = true) (H : Heap) :
    Ans cs0 F.leaf_cover_shown [.iptr [colsAV cols', rowsAV rows, tree, floorAV, .bool all, sn] 0, colsAV cols, strsAV dual] H fun x K => x = .bool (shownB rows floor all cols dual) ∧ K = H := by
  have hN := cz_ok
  refine Ans_imp (args' := [.iptr [colsAV cols', rowsAV rows, tree, floorAV, .bool all, .undef] 0, colsAV cols, strsAV dual]) (.cons (Imp_iptr (.cons (Imp.refl _) (.cons (Imp.refl _) (.cons (Imp.refl _) (.cons (Imp.refl _) (.cons (Imp.refl _) (.cons (fun _ _ v _ => .undef v) .nil))))))) (Imps_refl _)) ?_
  refine Ans_free gl0_free (Imp.refl _) (by
    have e1 : (colsAV cols').free = true := frees_fm ColS.av _ fun c _ => col_frees c
    have e2 : (colsAV cols).free = true := frees_fm ColS.av _ fun c _ => col_frees c
    have e3 : (rowsAV rows).free = true := frees_fm RowS.av _ fun r _ => row_frees r
    have e4 : (strsAV dual).free = true := strs_frees dual
    have e5 := hf.frees
    simp only [AV.frees, Bool.and_true] at e5
    show (((colsAV cols').free && ((rowsAV rows).free && (tree.free && (floorAV.free && (true && (true && true)))))) && ((colsAV cols).free && ((strsAV dual).free && true))) = true
    rw [e1, e2, e3, e4, e5, ht]; rfl) ?_ H
  have hb0 := prob_Bound_ans ⟨cols, rows⟩ hl (by simp only; omega) (by simp only; omega) dual hd hdl false
  have hb1 := prob_Bound_ans ⟨cols, rows⟩ hl (by simp only; omega) (by simp only; omega) dual hd hdl true
  have hr0 := leaf_read_ans _ (boundS_sh ⟨cols, rows⟩ dual false)
  have hr1 := leaf_read_ans _ (boundS_sh ⟨cols, rows⟩ dual true)
  unfold shownB
  refine G_body hN (fn := B.leaf_cover_shown) (sz := 85) rfl rfl rfl rfl rfl ?_
  refine K_run hN ?_; (repeat (first | refine K_v rfl rfl ?_ | refine K_g rfl rfl ?_ | refine K_n rfl rfl rfl rfl ?_ | refine K_n' rfl rfl rfl ?_ | refine K_s rfl ?_)); refine K_nil ?_
  refine G_mid (α := Nat) (fun nx => cols.any crossC = false) (fun _ => [(0, .iptr [colsAV cols', rowsAV rows, tree, floorAV, .bool all, .undef] 0), (1, colsAV cols), (2, strsAV dual)]) (fun nx => Hn nx) ?_ ?_
  · refine K_run hN ?_; (repeat (first | refine K_v rfl rfl ?_ | refine K_g rfl rfl ?_ | refine K_n rfl rfl rfl rfl ?_ | refine K_n' rfl rfl rfl ?_ | refine K_s rfl ?_)); refine K_nil ?_
    refine G_block ?_
    refine G_loop (α := Nat × Nat) (fun a => a.1 ≤ cols.length ∧ (cols.take a.1).any crossC = false) (fun a => cols.length - a.1) (fun a => [(0, .iptr [colsAV cols', rowsAV rows, tree, floorAV, .bool all, .undef] 0), (1, colsAV cols), (2, strsAV dual), (16, colsAV cols), (17, .int .i64 (cols.length : Nat)), (18, .int .i64 (a.1 : Nat))]) (fun a => Hn a.2)
      (0, 0) ⟨Nat.zero_le _, rfl⟩ (M1 rfl <| M1 rfl <| M1 rfl <| M1 rfl <| M1 rfl <| M1 rfl M0) (Hn_sub (Nat.le_refl _)) fun ⟨i, nx⟩ ⟨i1, i2⟩ => ?_
    simp only at i1 i2
    refine K_run hN ?_; (repeat (first | refine K_v rfl rfl ?_ | refine K_g rfl rfl ?_ | refine K_n rfl rfl rfl rfl ?_ | refine K_n' rfl rfl rfl ?_ | refine K_s rfl ?_)); refine K_nil ?_
    refine G_seq ?_
    by_cases hi : i < cols.length
    · refine K_if1 rfl (decide_eq_true (by omega)) (G_skip (G_pop ?_))
      have hx : cols[i]? = some cols[i] := List.getElem?_eq_getElem hi
      have hsh := hl.cols cols[i] (List.getElem_mem _)
      have hmem : cols[i] ∈ cols := List.getElem_mem _
      have htk : (cols.take (i + 1)).any crossC = ((cols.take i).any crossC || crossC cols[i]) := by rw [List.take_succ_eq_append_getElem hi, List.any_append, List.any_cons, List.any_nil, Bool.or_false]
      generalize cols[i] = c at *
      have hrl := leaf_read_ans c.low hsh.low
      have hru := leaf_read_ans c.up hsh.up
      have hcmp := fun H => frac_Frac_Cmp_ans (X := ext0) (Y := lies0) hN (.frac (qv c.low)) (.frac (qv c.up)) (qv_hq _) (qv_hq _) H
      have e1 : decide (cmpR (qv c.low) (qv c.up) > 0) = decide (qv c.up < qv c.low) := cmp_gt _ _
      refine G_seq (G_block ?_)
      refine K_run hN ?_
      refine K_v rfl (g_idxi i rfl rfl rfl rfl rfl hi) ?_
      refine K_v rfl (g_ldagg rfl rfl rfl rfl rfl (fm_seg ColS.av 5 ColS.av_len hx)) ?_
      (repeat (first | refine K_v rfl rfl ?_ | refine K_g rfl rfl ?_ | refine K_n rfl rfl rfl rfl ?_ | refine K_n' rfl rfl rfl ?_ | refine K_s rfl ?_))
      refine K_s (g_stbox rfl rfl rfl rfl rfl rfl (T.get_set_same _ _ _) rfl) ?_
      refine K_nil ?_
      refine G_unbox 8 nx c.av [(0, .iptr [colsAV cols', rowsAV rows, tree, floorAV, .bool all, .undef] 0), (1, colsAV cols), (2, strsAV dual), (16, colsAV cols), (17, .int .i64 (cols.length : Nat)), (18, .int .i64 (i : Nat))] (nx + 1) rfl (T.get_set_same _ _ _) (M1 rfl <| M1 rfl <| M1 rfl <| M1 rfl <| M1 rfl <| M1 rfl M0) (Nat.le_refl _) ?_
      have hcr : crossC c = (isq c.low && isq c.up && decide (qv c.up < qv c.low)) := rfl
      cases hq1 : isq c.low <;> cases hq2 : isq c.up <;> cases hlt : decide (qv c.up < qv c.low) <;> rw [hlt] at e1 <;> rw [hq1, hq2, hlt] at hcr <;>
        (first | rw [rdAV_none hq1] at hrl | rw [rdAV_some hq1] at hrl) <;> (first | rw [rdAV_none hq2] at hru | rw [rdAV_some hq2] at hru) <;>
        (refine K_draw hN mixed (by rfl) ?_; (repeat (first | refine KD_q rfl rfl rfl ?_ | refine KD_qg rfl rfl rfl rfl rfl ?_ | refine KD_n rfl rfl rfl rfl ?_ | refine KD_n' rfl rfl rfl ?_ | refine KD_c rfl rfl rfl (hrl _) ?_ | refine KD_cg rfl rfl rfl rfl rfl (hrl _) ?_ | refine KD_c rfl rfl rfl (hru _) ?_ | refine KD_cg rfl rfl rfl rfl rfl (hru _) ?_)); refine KD_nil ?_
         refine K_run hN ?_; (repeat (first | refine K_b rfl rfl e1 ?_ | refine K_v rfl rfl ?_ | refine K_g rfl rfl ?_ | refine K_n rfl rfl rfl rfl ?_ | refine K_n' rfl rfl rfl ?_ | refine K_s rfl ?_ | refine K_c rfl rfl (hcmp _) ?_)); refine K_nil ?_) <;>
        first
        | (refine G_if0 rfl (G_skip ?_)
           refine G_popb (G_pop ?_)
           refine K_run1 hN ?_
           refine K_i rfl rfl (wi64 (b := ((i + 1 : Nat) : Int)) (by omega) (by omega) (by omega)) ?_
           (repeat (first | refine K_v rfl rfl ?_ | refine K_g rfl rfl ?_ | refine K_n rfl rfl rfl rfl ?_ | refine K_n' rfl rfl rfl ?_ | refine K_s rfl ?_)); refine K_nil ?_
           exact G_again (i + 1, nx + 1) ⟨hi, by rw [htk, i2, hcr]; rfl⟩ (by simp only; omega) (M1 rfl <| M1 rfl <| M1 rfl <| M1 rfl <| M1 rfl <| M1 rfl M0) (Heap.Sub.refl _))
        | (refine G_if1 rfl ?_
           have hany : cols.any crossC = true := List.any_eq_true.2 ⟨c, hmem, hcr⟩
           refine K_run hN ?_; (repeat (first | refine K_v rfl rfl ?_ | refine K_g rfl rfl ?_ | refine K_n rfl rfl rfl rfl ?_ | refine K_n' rfl rfl rfl ?_ | refine K_s rfl ?_)); refine K_nil ?_
           exact G_ret (LP_ret (MP_ret (G_end rfl (Frz_bool (by rw [hany]; rfl))))))
    · refine K_if0 rfl (decide_eq_false (by omega)) ?_
      obtain rfl : i = cols.length := by omega
      rw [List.take_length] at i2
      exact G_exit (G_pops (G_leave (G_popx (G_done nx i2 (M1 rfl <| M1 rfl <| M1 rfl M0) (Heap.Sub.refl _)))))
  · intro nx hno
    rw [hno, Bool.false_or]
    refine K_run hN ?_; (repeat (first | refine K_v rfl rfl ?_ | refine K_g rfl rfl ?_ | refine K_n rfl rfl rfl rfl ?_ | refine K_n' rfl rfl rfl ?_ | refine K_s rfl ?_))
    refine K_s (g_stbox rfl rfl rfl rfl rfl rfl (T.get_set_same _ _ _) rfl) ?_
    refine K_nil ?_
    refine G_unbox 11 nx [colsAV cols, rowsAV rows] [(0, .iptr [colsAV cols', rowsAV rows, tree, floorAV, .bool all, .undef] 0), (1, colsAV cols), (2, strsAV dual)] (nx + 1) rfl (T.get_set_same _ _ _) (M1 rfl <| M1 rfl <| M1 rfl M0) (Nat.le_refl _) ?_
    refine G_mid (α := Unit) (fun _ => (boundB ⟨cols, rows⟩ dual false && decide (0 < qv (boundS ⟨cols, rows⟩ dual false))) = false) (fun _ => [(0, .iptr [colsAV cols', rowsAV rows, tree, floorAV, .bool all, .undef] 0), (1, colsAV cols), (2, strsAV dual), (11, .iptr [colsAV cols, rowsAV rows] 0)]) (fun _ => Hn (nx + 1)) ?_ ?_
    · generalize boundS ⟨cols, rows⟩ dual false = s at *
      have hsg := fun H => frac_Frac_Sign_ans (X := ext0) (Y := lies0) hN (rdAV_q s) (qv_hq s).n.sm H
      have e1 := sgn_gt (qv s)
      cases hB : boundB ⟨cols, rows⟩ dual false with
      | false =>
        rw [hB] at hb0
        refine K_run hN ?_; (repeat (first | refine K_v rfl rfl ?_ | refine K_g rfl rfl ?_ | refine K_n rfl rfl rfl rfl ?_ | refine K_n' rfl rfl rfl ?_ | refine K_s rfl ?_ | refine K_c rfl rfl (hb0 _) ?_)); refine K_nil ?_
        refine K_run hN ?_; (repeat (first | refine K_v rfl rfl ?_ | refine K_g rfl rfl ?_ | refine K_n rfl rfl rfl rfl ?_ | refine K_n' rfl rfl rfl ?_ | refine K_s rfl ?_)); refine K_nil ?_
        refine G_if0 rfl (G_skip ?_)
        exact G_done () rfl (M1 rfl <| M1 rfl <| M1 rfl <| M1 rfl M0) (Heap.Sub.refl _)
      | true =>
        rw [hB] at hb0
        cases hlt : decide (0 < qv s) with
        | false =>
          rw [hlt] at e1
          refine K_run hN ?_; (repeat (first | refine K_v rfl rfl ?_ | refine K_g rfl rfl ?_ | refine K_n rfl rfl rfl rfl ?_ | refine K_n' rfl rfl rfl ?_ | refine K_s rfl ?_ | refine K_c rfl rfl (hb0 _) ?_)); refine K_nil ?_
          refine K_run hN ?_; (repeat (first | refine K_b rfl rfl e1 ?_ | refine K_v rfl rfl ?_ | refine K_g rfl rfl ?_ | refine K_n rfl rfl rfl rfl ?_ | refine K_n' rfl rfl rfl ?_ | refine K_s rfl ?_ | refine K_c rfl rfl (hr0 _) ?_ | refine K_c rfl rfl (hsg _) ?_)); refine K_nil ?_
          refine G_if0 rfl (G_skip ?_)
          exact G_done () rfl (M1 rfl <| M1 rfl <| M1 rfl <| M1 rfl M0) (Heap.Sub.refl _)
        | true =>
          rw [hlt] at e1
          refine K_run hN ?_; (repeat (first | refine K_v rfl rfl ?_ | refine K_g rfl rfl ?_ | refine K_n rfl rfl rfl rfl ?_ | refine K_n' rfl rfl rfl ?_ | refine K_s rfl ?_ | refine K_c rfl rfl (hb0 _) ?_)); refine K_nil ?_
          refine K_run hN ?_; (repeat (first | refine K_b rfl rfl e1 ?_ | refine K_v rfl rfl ?_ | refine K_g rfl rfl ?_ | refine K_n rfl rfl rfl rfl ?_ | refine K_n' rfl rfl rfl ?_ | refine K_s rfl ?_ | refine K_c rfl rfl (hr0 _) ?_ | refine K_c rfl rfl (hsg _) ?_)); refine K_nil ?_
          refine G_if1 rfl ?_
          refine K_run hN ?_; (repeat (first | refine K_v rfl rfl ?_ | refine K_g rfl rfl ?_ | refine K_n rfl rfl rfl rfl ?_ | refine K_n' rfl rfl rfl ?_ | refine K_s rfl ?_)); refine K_nil ?_
          exact G_ret (MP_ret (G_end rfl (Frz_bool rfl)))
    · rintro ⟨⟩ h0
      rw [h0, Bool.false_or]
      generalize boundS ⟨cols, rows⟩ dual true = s at *
      have hcmp := fun H => frac_Frac_Cmp_ans (X := ext0) (Y := lies0) hN (rdAV_q s) hf (qv_hq s) hfq H
      cases all with
      | true =>
        refine K_run hN ?_; (repeat (first | refine K_v rfl rfl ?_ | refine K_g rfl rfl ?_ | refine K_n rfl rfl rfl rfl ?_ | refine K_n' rfl rfl rfl ?_ | refine K_s rfl ?_ | refine K_c rfl rfl (hb1 _) ?_)); refine K_nil ?_
        refine K_draw hN mixed (by rfl) ?_; (repeat (first | refine KD_q rfl rfl rfl ?_ | refine KD_qg rfl rfl rfl rfl rfl ?_ | refine KD_n rfl rfl rfl rfl ?_ | refine KD_n' rfl rfl rfl ?_)); refine KD_nil ?_
        exact G_ret (G_end rfl (Frz_bool rfl))
      | false =>
        cases hB : boundB ⟨cols, rows⟩ dual true with
        | false =>
          rw [hB] at hb1
          refine K_run hN ?_; (repeat (first | refine K_v rfl rfl ?_ | refine K_g rfl rfl ?_ | refine K_n rfl rfl rfl rfl ?_ | refine K_n' rfl rfl rfl ?_ | refine K_s rfl ?_ | refine K_c rfl rfl (hb1 _) ?_)); refine K_nil ?_
          refine K_draw hN mixed (by rfl) ?_; (repeat (first | refine KD_q rfl rfl rfl ?_ | refine KD_qg rfl rfl rfl rfl rfl ?_ | refine KD_n rfl rfl rfl rfl ?_ | refine KD_n' rfl rfl rfl ?_)); refine KD_nil ?_
          exact G_ret (G_end rfl (Frz_bool rfl))
        | true =>
          rw [hB] at hb1
          refine K_run hN ?_; (repeat (first | refine K_v rfl rfl ?_ | refine K_g rfl rfl ?_ | refine K_n rfl rfl rfl rfl ?_ | refine K_n' rfl rfl rfl ?_ | refine K_s rfl ?_ | refine K_c rfl rfl (hb1 _) ?_)); refine K_nil ?_
          refine K_draw hN mixed (by rfl) ?_; (repeat (first | refine KD_q rfl rfl rfl ?_ | refine KD_qg rfl rfl rfl rfl rfl ?_ | refine KD_n rfl rfl rfl rfl ?_ | refine KD_n' rfl rfl rfl ?_ | refine KD_c rfl rfl rfl (hr1 _) ?_ | refine KD_cg rfl rfl rfl rfl rfl (hr1 _) ?_ | refine KD_c rfl rfl rfl (hcmp _) ?_ | refine KD_cg rfl rfl rfl rfl rfl (hcmp _) ?_)); refine KD_nil ?_
          exact G_ret (G_end rfl (Frz_bool (cmp_ge _ _)))
end Go.Eng
end
