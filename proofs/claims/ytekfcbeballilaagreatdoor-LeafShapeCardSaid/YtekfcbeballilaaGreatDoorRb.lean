import Derived.Test.YtekfcbeballilaaGreatDoorRa
section
namespace Go.Eng.R
open Go Go.RowKit Go.Proofs
set_option maxHeartbeats 8000000
set_option maxRecDepth 10000
variable {X : ExtF} {Y : LiesF}
def KN (L : List Nat) : Heap := ⟨T.of [(0, .cells (L.map i64c))], 1, .nil⟩
theorem KN_get (L : List Nat) : (KN L).t.get 0 = some (.cells (L.map i64c)) := rfl
theorem KN_put {L : List Nat} {i z : Nat} : Heap.Sub (KN (L.set i z)) ((KN L).put 0 (.cells ((L.map i64c).set i (i64c z)))) :=
  HS1' (Nat.le_refl _) (T.get_set_same _ _ _) (by rw [List.map_set])
theorem repl_i64 (c : Nat) : repl c [.int .i64 0] = (List.replicate c 0).map i64c := by
  simp [repl, i64c]
theorem KN_frz {D : List Nat} (h : Dg D) : Frz (KN D) (.slice 0 0 (digs (val D)).length D.length true 1) (nT (val D)) := by
  obtain ⟨q1, q2, _⟩ := digs_len_le h
  unfold nT
  refine .slice (cs := D.map i64c) (l := (digs (val D)).map i64c) (KN_get _) ?_ (frzs_c _ _)
  conv => rhs; rw [q2]
  simp only [seg, List.drop_zero, Nat.mul_one]
  rw [List.length_take, List.length_map, Nat.min_eq_left q1, List.map_take]
  have : Nat.beq (digs (val D)).length (digs (val D)).length = true := by simp
  rw [this]; rfl
theorem ref1_Mul_ans (hN : CxOk (cz X Y)) (a b : Nat) (ha : Sr a) (hb : Sr b) (H : Heap) : Ans (cz X Y) F.ref1_Mul [nT a, nT b] H fun x K => x = nT (a * b) ∧ K = H := by
  have hfr : AV.frees [nT a, nT b] = true := by simp [AV.frees, nT_free]
  refine Ans_free gl0_free (Imp.refl (nT (a * b))) hfr ?_ H
  unfold Sr at ha hb
  rw [show nT a = .isl ((digs a).map i64c) (digs a).length from rfl, show nT b = .isl ((digs b).map i64c) (digs b).length from rfl]
  have va := val_digs a
  have vb := val_digs b
  have da := digs_dg a
  have db := digs_dg b
  have la1 := lt_pow_len a
  have lb1 := lt_pow_len b
  generalize digs a = la at *
  generalize digs b = lb at *
  refine G_body hN (fn := B.ref1_Mul) (sz := 102) rfl rfl rfl rfl rfl ?_
  refine G_run hN (G_v rfl rfl <| G_nil) ?_
  refine G_run hN (G_v rfl rfl <| G_v rfl rfl <| G_v rfl rfl <| G_v rfl rfl <| G_v rfl (g_int (b := ((la.length + lb.length : Nat) : Int)) rfl (wi64 (by omega) (by omega) (by omega))) <| G_v rfl (g_int (b := ((la.length + lb.length + 1 : Nat) : Int)) rfl (wi64 (by omega) (by omega) (by omega))) <| G_v rfl (g_make (la.length + lb.length + 1) (la.length + lb.length + 1) rfl rfl rfl rfl rfl rfl rfl (Nat.le_refl _) (by omega) (by show 8 * _ ≤ _; omega)) <| G_v rfl rfl <| G_nil) ?_
  refine G_subH (KN (List.replicate (la.length + lb.length + 1) 0)) (HS1' (Nat.le_refl _) rfl (by rw [← repl_i64])) ?_
  generalize hn : la.length + lb.length + 1 = n at *
  refine G_mid (α := List Nat) (fun L => MI la lb la.length 0 L) (fun _ => [(5, .slice 0 0 n n true 1)]) (fun L => KN L) ?_ ?_
  · refine G_run hN (G_v rfl rfl <| G_v rfl rfl <| G_v rfl rfl <| G_nil) ?_
    refine G_block ?_ -- 0
    refine G_loop (α := Nat × List Nat) (fun x => x.1 ≤ la.length ∧ MI la lb x.1 0 x.2) (fun x => la.length - x.1) (fun x => [(0, .isl (la.map i64c) la.length), (1, .isl (lb.map i64c) lb.length), (5, .slice 0 0 n n true 1), (17, .int .i64 (la.length : Nat)), (18, .int .i64 (x.1 : Nat))]) (fun x => KN x.2)
      (0, List.replicate n 0) ⟨Nat.zero_le _, ⟨by simp [hn], by simp [val, val_zeros], fun k => by rw [repl_getD]; exact Nat.zero_le _, fun k _ => by rw [repl_getD]; exact Nat.zero_le _⟩⟩ (M1 rfl <| M1 rfl <| M1 rfl <| M1 rfl <| M1 rfl M0) (Heap.Sub.refl _) fun ⟨i, L⟩ ⟨i1, i2⟩ => ?_
    simp only at i1 i2
    rcases Nat.lt_or_eq_of_le i1 with hi | rfl
    · refine G_run hN (G_v rfl (g_bool (b := true) rfl (decide_eq_true (by omega))) <| G_nil) ?_
      refine G_seq ?_
      refine G_if1 rfl (G_skip (G_pop ?_))
      refine G_mid (α := List Nat) (fun L => MI la lb i lb.length L) (fun _ => [(0, .isl (la.map i64c) la.length), (1, .isl (lb.map i64c) lb.length), (5, .slice 0 0 n n true 1), (17, .int .i64 (la.length : Nat)), (18, .int .i64 (i : Nat))]) (fun L => KN L) ?_ ?_
      · refine G_block ?_ -- 1
        refine G_run hN (G_v rfl rfl <| G_v rfl rfl <| G_nil) ?_
        refine G_run hN (G_v rfl rfl <| G_v rfl rfl <| G_v rfl rfl <| G_nil) ?_
        refine G_block ?_ -- 2
        refine G_loop (α := Nat × List Nat) (fun x => x.1 ≤ lb.length ∧ MI la lb i x.1 x.2) (fun x => lb.length - x.1) (fun x => [(0, .isl (la.map i64c) la.length), (1, .isl (lb.map i64c) lb.length), (5, .slice 0 0 n n true 1), (6, .int .i64 (i : Nat)), (17, .int .i64 (la.length : Nat)), (18, .int .i64 (i : Nat)), (22, .int .i64 (lb.length : Nat)), (23, .int .i64 (x.1 : Nat))]) (fun x => KN x.2)
          (0, L) ⟨Nat.zero_le _, i2⟩ (M1 rfl <| M1 rfl <| M1 rfl <| M1 rfl <| M1 rfl <| M1 rfl <| M1 rfl <| M1 rfl M0) (Heap.Sub.refl _) fun ⟨j, L⟩ ⟨j1, j2⟩ => ?_
        simp only at j1 j2
        rcases Nat.lt_or_eq_of_le j1 with hj | rfl
        · have hl := j2.len
          obtain ⟨x, hx⟩ : ∃ x, x = L.getD (i + j) 0 + la.getD i 0 * lb.getD j 0 := ⟨_, rfl⟩
          obtain ⟨hxb, hst⟩ := j2.step hi hj da db hx
          have hw : L.getD (i + j + 1) 0 ≤ 20006 := by
            refine Nat.le_trans (j2.b1 (i + j + 1)) ?_
            split <;> split <;> omega
          have h1b : ((L.set (i + j) x).map i64c)[0 + (i + j + 1)]? = some (i64c (L.getD (i + j + 1) 0)) := by
            rw [Nat.zero_add, i64_at (by simp; omega), getD_set2 _ _ _ _ (by omega), if_neg (by omega)]
          have h1a : ((L.set (i + j) x).map i64c)[0 + (i + j)]? = some (i64c x) := by
            rw [Nat.zero_add, i64_at (by simp; omega), getD_set2 _ _ _ _ (by omega), if_pos rfl]
          refine G_run hN (G_v rfl (g_bool (b := true) rfl (decide_eq_true (by omega))) <| G_nil) ?_
          refine G_seq ?_
          refine G_if1 rfl (G_skip (G_pop ?_))
          refine G_seq ?_
          refine G_block ?_ -- 3
          refine G_run hN (G_v rfl rfl <| G_v rfl rfl <| G_nil) ?_
          refine G_drawF hN mixed 0 (E_q 0 1 rfl rfl rfl rfl rfl rfl trivial <| E_q 0 2 rfl rfl rfl rfl rfl rfl trivial <| E_q 0 3 rfl rfl rfl rfl rfl rfl trivial <| E_q 6 4 rfl rfl rfl rfl rfl (g_int (b := ((i + j : Nat) : Int)) rfl (wi64 (by omega) (by omega) (by omega))) trivial <| E_q 15 5 rfl rfl rfl rfl rfl (g_idx1 (i + j) rfl rfl rfl rfl rfl rfl (by omega)) trivial <| E_q 31 6 rfl rfl rfl rfl rfl (g_load (cs := L.map i64c) (off := 0 + (i + j)) rfl rfl rfl rfl rfl (by rw [Nat.zero_add]; exact i64_at (by omega))) trivial <| E_q 0 7 rfl rfl rfl rfl rfl rfl trivial <| E_q 0 8 rfl rfl rfl rfl rfl rfl trivial <| E_q 192 9 rfl rfl rfl rfl rfl (g_ati i rfl rfl rfl rfl rfl rfl hi) trivial <| E_q 448 10 rfl rfl rfl rfl rfl (g_load (cs := la.map i64c) (off := i) rfl rfl rfl rfl rfl (i64_at hi)) trivial <| E_q 0 11 rfl rfl rfl rfl rfl rfl trivial <| E_q 0 12 rfl rfl rfl rfl rfl rfl trivial <| E_q 3072 13 rfl rfl rfl rfl rfl (g_ati j rfl rfl rfl rfl rfl rfl hj) trivial <| E_q 7168 14 rfl rfl rfl rfl rfl (g_load (cs := lb.map i64c) (off := j) rfl rfl rfl rfl rfl (i64_at hj)) trivial <| E_q 16320 15 rfl rfl rfl rfl rfl (g_int (b := ((la.getD i 0 * lb.getD j 0 : Nat) : Int)) rfl (wi64 (Int.natCast_mul _ _).symm (by omega) (by omega))) trivial <| E_q 32767 16 rfl rfl rfl rfl rfl (g_int (b := ((x : Nat) : Int)) rfl (wi64 (by rw [hx]; exact (Int.natCast_add _ _).symm) (by omega) (by omega))) trivial <| E_q 65535 17 rfl rfl rfl rfl rfl (g_idx1 (i + j) rfl rfl rfl rfl rfl rfl (by omega)) trivial <| E_s 131071 18 131072 131071 rfl rfl rfl rfl rfl rfl rfl (g_store1 (cs := L.map i64c) rfl rfl rfl rfl rfl rfl (KN_get L) (by rw [List.length_map]; omega)) (.ord rfl) <| E_nil rfl) ?_
          refine G_subH (KN (L.set (i + j) x)) (by rw [Nat.zero_add]; exact KN_put) ?_
          refine G_drawF hN mixed 0 (E_q 0 1 rfl rfl rfl rfl rfl rfl trivial <| E_q 0 2 rfl rfl rfl rfl rfl rfl trivial <| E_q 0 3 rfl rfl rfl rfl rfl rfl trivial <| E_q 6 4 rfl rfl rfl rfl rfl (g_int (b := ((i + j : Nat) : Int)) rfl (wi64 (by omega) (by omega) (by omega))) trivial <| E_q 14 5 rfl rfl rfl rfl rfl (g_int (b := ((i + j + 1 : Nat) : Int)) rfl (wi64 (by omega) (by omega) (by omega))) trivial <| E_q 31 6 rfl rfl rfl rfl rfl (g_idx1 (i + j + 1) rfl rfl rfl rfl rfl rfl (by omega)) trivial <| E_q 63 7 rfl rfl rfl rfl rfl (g_load (cs := (L.set (i + j) x).map i64c) (off := 0 + (i + j + 1)) (x := i64c (L.getD (i + j + 1) 0)) rfl rfl rfl rfl rfl h1b) trivial <| E_q 0 8 rfl rfl rfl rfl rfl rfl trivial <| E_q 0 9 rfl rfl rfl rfl rfl rfl trivial <| E_q 0 10 rfl rfl rfl rfl rfl rfl trivial <| E_q 768 11 rfl rfl rfl rfl rfl (g_int (b := ((i + j : Nat) : Int)) rfl (wi64 (by omega) (by omega) (by omega))) trivial <| E_q 1920 12 rfl rfl rfl rfl rfl (g_idx1 (i + j) rfl rfl rfl rfl rfl rfl (by omega)) trivial <| E_q 3968 13 rfl rfl rfl rfl rfl (g_load (cs := (L.set (i + j) x).map i64c) (off := 0 + (i + j)) (x := i64c x) rfl rfl rfl rfl rfl h1a) trivial <| E_q 8064 14 rfl rfl rfl rfl rfl (g_int (b := ((x / 10000 : Nat) : Int)) rfl (wi64 rfl (by omega) (by omega))) trivial <| E_q 16383 15 rfl rfl rfl rfl rfl (g_int (b := ((L.getD (i + j + 1) 0 + x / 10000 : Nat) : Int)) rfl (wi64 (Int.natCast_add _ _).symm (by omega) (by omega))) trivial <| E_q 32767 16 rfl rfl rfl rfl rfl (g_idx1 (i + j + 1) rfl rfl rfl rfl rfl rfl (by omega)) trivial <| E_s 65535 17 65536 65535 rfl rfl rfl rfl rfl rfl rfl (g_store1 (cs := (L.set (i + j) x).map i64c) rfl rfl rfl rfl rfl rfl (KN_get _) (by rw [List.length_map, List.length_set]; omega)) (.ord rfl) <| E_nil rfl) ?_
          refine G_subH (KN ((L.set (i + j) x).set (i + j + 1) (L.getD (i + j + 1) 0 + x / 10000))) (by rw [Nat.zero_add]; exact KN_put) ?_
          have h2a : (((L.set (i + j) x).set (i + j + 1) (L.getD (i + j + 1) 0 + x / 10000)).map i64c)[0 + (i + j)]? = some (i64c x) := by
            rw [Nat.zero_add, i64_at (by simp; omega), getD_set2 _ _ _ _ (by simp; omega), if_neg (by omega), getD_set2 _ _ _ _ (by omega), if_pos rfl]
          have f3 : ((L.set (i + j) x).set (i + j + 1) (L.getD (i + j + 1) 0 + x / 10000)).set (i + j) (x % 10000) = (L.set (i + j) (x % 10000)).set (i + j + 1) (L.getD (i + j + 1) 0 + x / 10000) := by
            rw [List.set_comm _ _ (by omega), List.set_set]
          refine G_run1 hN (G_v rfl rfl <| G_v rfl rfl <| G_v rfl rfl <| G_v rfl (g_int (b := ((i + j : Nat) : Int)) rfl (wi64 (by omega) (by omega) (by omega))) <| G_v rfl rfl <| G_v rfl rfl <| G_v rfl rfl <| G_v rfl (g_int (b := ((i + j : Nat) : Int)) rfl (wi64 (by omega) (by omega) (by omega))) <| G_v rfl (g_idx1 (i + j) rfl rfl rfl rfl rfl rfl (by omega)) <| G_v rfl (g_load (cs := ((L.set (i + j) x).set (i + j + 1) (L.getD (i + j + 1) 0 + x / 10000)).map i64c) (off := 0 + (i + j)) (x := i64c x) rfl rfl rfl rfl rfl h2a) <| G_v rfl (g_int (b := ((x % 10000 : Nat) : Int)) rfl rfl) <| G_v rfl (g_idx1 (i + j) rfl rfl rfl rfl rfl rfl (by omega)) <| G_s (g_store1 (cs := ((L.set (i + j) x).set (i + j + 1) (L.getD (i + j + 1) 0 + x / 10000)).map i64c) rfl rfl rfl rfl rfl rfl (KN_get _) (by simp; omega)) <| G_nil) ?_
          refine G_popb (G_pop ?_)
          refine G_subH (KN (((L.set (i + j) x).set (i + j + 1) (L.getD (i + j + 1) 0 + x / 10000)).set (i + j) (x % 10000))) (by rw [Nat.zero_add]; exact KN_put) ?_
          rw [f3]
          refine G_run1 hN (G_v rfl (g_int (b := ((j + 1 : Nat) : Int)) rfl (wi64 (by omega) (by omega) (by omega))) <| G_v rfl rfl <| G_nil) ?_
          exact G_again (j + 1, _) ⟨by simp only; omega, hst⟩ (by simp only; omega) (M1 rfl <| M1 rfl <| M1 rfl <| M1 rfl <| M1 rfl <| M1 rfl <| M1 rfl <| M1 rfl M0) (Heap.Sub.refl _)
        · refine G_run hN (G_v rfl (g_bool (b := false) rfl (decide_eq_false (by omega))) <| G_nil) ?_
          refine G_seq ?_
          refine G_if0 rfl ?_
          exact G_exit (G_pops (G_leave (G_popx (G_popb (G_done L j2 (M1 rfl <| M1 rfl <| M1 rfl <| M1 rfl <| M1 rfl M0) (Heap.Sub.refl _))))))
      · intro L hL
        refine G_run1 hN (G_v rfl (g_int (b := ((i + 1 : Nat) : Int)) rfl (wi64 (by omega) (by omega) (by omega))) <| G_v rfl rfl <| G_nil) ?_
        exact G_again (i + 1, L) ⟨by simp only; omega, hL.row⟩ (by simp only; omega) (M1 rfl <| M1 rfl <| M1 rfl <| M1 rfl <| M1 rfl M0) (Heap.Sub.refl _)
    · refine G_run hN (G_v rfl (g_bool (b := false) rfl (decide_eq_false (by omega))) <| G_nil) ?_
      refine G_seq ?_
      refine G_if0 rfl ?_
      exact G_exit (G_pops (G_leave (G_popx (G_done L i2 (M1 rfl M0) (Heap.Sub.refl _)))))
  · intro L hL
    have hv : val L = a * b := by
      rw [hL.v, List.take_length, va, vb]
      simp [val]
    have hni : NI n 0 (a * b) L := ⟨by rw [hL.len, hn], hv, fun k hk => absurd hk (Nat.not_lt_zero _), fun k => by
      have := hL.b1 k
      rw [if_neg (by omega)] at this
      split at this <;> split <;> omega⟩
    refine G_mid (α := List Nat) (fun L => L.length = n ∧ Dg L ∧ val L = a * b) (fun _ => [(5, .slice 0 0 n n true 1)]) (fun L => KN L) ?_ ?_
    · refine G_run hN (G_v rfl rfl <| G_nil) ?_
      refine G_block ?_ -- 4
      refine G_loop (α := Nat × List Nat) (fun x => x.1 < n ∧ NI n x.1 (a * b) x.2) (fun x => n - x.1) (fun x => [(5, .slice 0 0 n n true 1), (8, .int .i64 (x.1 : Nat))]) (fun x => KN x.2)
        (0, L) ⟨by omega, hni⟩ (M1 rfl <| M1 rfl M0) (Heap.Sub.refl _) fun ⟨t, L⟩ ⟨t1, t2⟩ => ?_
      simp only at t1 t2
      have hl := t2.len
      have hi0 := t2.hi t
      have hi1 := t2.hi (t + 1)
      rw [if_pos rfl] at hi0
      rw [if_neg (by omega)] at hi1
      refine G_seq ?_
      by_cases ht : t + 1 < n
      · have hst := t2.step ht
        refine G_run hN (G_v rfl rfl <| G_v rfl (g_int (b := ((t + 1 : Nat) : Int)) rfl (wi64 (by omega) (by omega) (by omega))) <| G_v rfl rfl <| G_v rfl rfl <| G_v rfl (g_bool (b := true) rfl (decide_eq_true (by omega))) <| G_nil) ?_
        refine G_if1 rfl (G_skip (G_pop ?_))
        refine G_seq ?_
        refine G_block ?_ -- 5
        refine G_drawF hN mixed 0 (E_q 0 1 rfl rfl rfl rfl rfl rfl trivial <| E_q 0 2 rfl rfl rfl rfl rfl rfl trivial <| E_q 2 3 rfl rfl rfl rfl rfl (g_int (b := ((t + 1 : Nat) : Int)) rfl (wi64 (by omega) (by omega) (by omega))) trivial <| E_q 7 4 rfl rfl rfl rfl rfl (g_idx1 (t + 1) rfl rfl rfl rfl rfl rfl (by omega)) trivial <| E_q 15 5 rfl rfl rfl rfl rfl (g_load (cs := L.map i64c) (off := 0 + (t + 1)) rfl rfl rfl rfl rfl (by rw [Nat.zero_add]; exact i64_at (by omega))) trivial <| E_q 0 6 rfl rfl rfl rfl rfl rfl trivial <| E_q 0 7 rfl rfl rfl rfl rfl rfl trivial <| E_q 96 8 rfl rfl rfl rfl rfl (g_idx1 (t) rfl rfl rfl rfl rfl rfl (by omega)) trivial <| E_q 224 9 rfl rfl rfl rfl rfl (g_load (cs := L.map i64c) (off := 0 + (t)) rfl rfl rfl rfl rfl (by rw [Nat.zero_add]; exact i64_at (by omega))) trivial <| E_q 480 10 rfl rfl rfl rfl rfl (g_int (b := ((L.getD t 0 / 10000 : Nat) : Int)) rfl (wi64 rfl (by omega) (by omega))) trivial <| E_q 1023 11 rfl rfl rfl rfl rfl (g_int (b := ((L.getD (t + 1) 0 + L.getD t 0 / 10000 : Nat) : Int)) rfl (wi64 (Int.natCast_add _ _).symm (by omega) (by omega))) trivial <| E_q 2047 12 rfl rfl rfl rfl rfl (g_idx1 (t + 1) rfl rfl rfl rfl rfl rfl (by omega)) trivial <| E_s 4095 13 4096 4095 rfl rfl rfl rfl rfl rfl rfl (g_store1 (cs := L.map i64c) rfl rfl rfl rfl rfl rfl (KN_get L) (by rw [List.length_map]; omega)) (.ord rfl) <| E_nil rfl) ?_
        refine G_subH (KN (L.set (t + 1) (L.getD (t + 1) 0 + L.getD t 0 / 10000))) (by rw [Nat.zero_add]; exact KN_put) ?_
        have h1a : ((L.set (t + 1) (L.getD (t + 1) 0 + L.getD t 0 / 10000)).map i64c)[0 + t]? = some (i64c (L.getD t 0)) := by
          rw [Nat.zero_add, i64_at (by simp; omega), getD_set2 _ _ _ _ (by omega), if_neg (by omega)]
        refine G_run1 hN (G_v rfl rfl <| G_v rfl rfl <| G_v rfl rfl <| G_v rfl rfl <| G_v rfl (g_idx1 (t) rfl rfl rfl rfl rfl rfl (by omega)) <| G_v rfl (g_load (cs := (L.set (t + 1) (L.getD (t + 1) 0 + L.getD t 0 / 10000)).map i64c) (off := 0 + t) (x := i64c (L.getD t 0)) rfl rfl rfl rfl rfl h1a) <| G_v rfl (g_int (b := ((L.getD t 0 % 10000 : Nat) : Int)) rfl rfl) <| G_v rfl (g_idx1 (t) rfl rfl rfl rfl rfl rfl (by omega)) <| G_s (g_store1 (cs := (L.set (t + 1) (L.getD (t + 1) 0 + L.getD t 0 / 10000)).map i64c) rfl rfl rfl rfl rfl rfl (KN_get _) (by simp; omega)) <| G_nil) ?_
        refine G_popb (G_pop ?_)
        refine G_subH (KN ((L.set (t + 1) (L.getD (t + 1) 0 + L.getD t 0 / 10000)).set t (L.getD t 0 % 10000))) (by rw [Nat.zero_add]; exact KN_put) ?_
        refine G_run1 hN (G_v rfl rfl <| G_v rfl (g_int (b := ((t + 1 : Nat) : Int)) rfl (wi64 (by omega) (by omega) (by omega))) <| G_v rfl rfl <| G_nil) ?_
        exact G_again (t + 1, _) ⟨by simp only; omega, hst⟩ (by simp only; omega) (M1 rfl <| M1 rfl M0) (Heap.Sub.refl _)
      · refine G_run hN (G_v rfl rfl <| G_v rfl (g_int (b := ((t + 1 : Nat) : Int)) rfl (wi64 (by omega) (by omega) (by omega))) <| G_v rfl rfl <| G_v rfl rfl <| G_v rfl (g_bool (b := false) rfl (decide_eq_false (by omega))) <| G_nil) ?_
        refine G_if0 rfl ?_
        have ht2 : t = n - 1 := by omega
        have hlast : L.getD t 0 = 0 := by
          have hsp := val_take_succ L t
          rw [List.take_of_length_le (by omega), t2.v] at hsp
          rcases Nat.eq_zero_or_pos (L.getD t 0) with h | h
          · exact h
          · exfalso
            have h1 : a * b < BB ^ t := by
              rw [show t = la.length + lb.length by omega, Nat.pow_add]
              exact Nat.mul_lt_mul_of_lt_of_le la1 (Nat.le_of_lt lb1) (Nat.pow_pos (by decide))
            have h2 : BB ^ t * 1 ≤ BB ^ t * L.getD t 0 := Nat.mul_le_mul_left _ h
            omega
        have hdg : Dg L := fun d hd => by
          obtain ⟨k, hk, rfl⟩ := List.getElem_of_mem hd
          have e : L.getD k 0 = L[k] := by rw [List.getD_eq_getElem?_getD, List.getElem?_eq_getElem hk]; rfl
          rcases Nat.lt_or_ge k t with h | h
          · have := t2.lo k h
            simp only [BB]; omega
          · have : k = t := by omega
            subst this
            simp only [BB]; omega
        exact G_exit (G_pops (G_leave (G_popx (G_done L ⟨hl, hdg, t2.v⟩ (M1 rfl M0) (Heap.Sub.refl _)))))
    · rintro D ⟨h1, h2, h3⟩
      have htr := ref1_trim_pre hN (L := D) (l := D) h2 (by rw [List.take_length]) (id := 0) (n := n) (cap := n) (ex := true) (H := KN D) (KN_get _) h1.symm (Nat.le_refl _) (by omega)
      refine G_run hN (G_v rfl rfl <| G_c rfl rfl htr <| G_v rfl rfl <| G_nil) ?_
      refine G_ret (G_end rfl ?_)
      have := KN_frz h2
      rw [h1, h3] at this
      rw [h3]
      exact this
end Go.Eng.R
end
section
namespace Go.Eng.R
open Go Go.RowKit Go.Proofs
set_option maxHeartbeats 4000000
set_option maxRecDepth 10000
variable {X : ExtF} {Y : LiesF}
theorem ref1_trim_isl (hN : CxOk (cz X Y)) {l : List Nat} (hl : Dg l) (hb : l.length ≤ 281474976710656) (H : Heap) :
    Ans (cz X Y) F.ref1_trim [.isl (l.map i64c) l.length] H fun x K => x = nT (val l) ∧ K = H := by
  refine G_body hN (fn := B.ref1_trim) (sz := 21) rfl rfl rfl rfl rfl ?_
  refine G_run hN (G_v rfl rfl <| G_nil) ?_
  refine G_run hN (G_v rfl rfl <| G_v rfl rfl <| G_v rfl rfl <| G_nil) ?_
  refine G_mid (α := Unit) (fun _ => True) (fun _ => [(0, .isl (l.map i64c) l.length), (3, .int .i64 ((digs (val l)).length : Nat))]) (fun _ => H) (G_block ?_) fun _ _ => ?_
  · refine G_loop (α := Nat) (fun k => (digs (val l)).length ≤ k ∧ k ≤ l.length) (fun k => k) (fun k => [(0, .isl (l.map i64c) l.length), (3, .int .i64 (k : Nat))]) (fun _ => H) l.length ⟨(digs_len_le hl).1, Nat.le_refl _⟩ (M1 rfl <| M1 rfl M0) (Heap.Sub.refl H) fun k ⟨i1, i2⟩ => ?_
    obtain ⟨p1, p2⟩ := down_stop hl i1 i2
    refine G_seq ?_
    rcases Nat.eq_zero_or_pos k with hk | hk
    · refine G_run hN (G_v rfl rfl <| G_v rfl (g_bool (b := false) rfl (by simp; omega)) <| G_v rfl rfl <| G_n rfl rfl rfl rfl <| G_n rfl rfl rfl rfl <| G_n rfl rfl rfl rfl <| G_n rfl rfl rfl rfl <| G_n rfl rfl rfl rfl <| G_n rfl rfl rfl rfl <| G_v rfl rfl <| G_nil) ?_
      refine G_if0 rfl ?_
      refine G_exit (G_pops (G_leave (G_popx ?_)))
      exact G_done () trivial (M1 rfl <| M2 rfl (by rw [p2 (by omega)]) M0) (Heap.Sub.refl H)
    · refine G_run hN (G_v rfl rfl <| G_v rfl (g_bool (b := true) rfl (by simp; omega)) <| G_v rfl rfl <| G_g rfl rfl <| G_v rfl rfl <| G_g rfl rfl <| G_v rfl rfl <| G_g rfl rfl <| G_v rfl (g_int (b := ((k - 1 : Nat) : Int)) rfl (wi64 (by omega) (by omega) (by omega))) <|
        G_g rfl rfl <| G_v rfl (g_ati (k - 1) rfl rfl rfl rfl rfl rfl (by omega)) <| G_g rfl rfl <| G_v rfl (g_load (cs := l.map i64c) (off := k - 1) rfl rfl rfl rfl rfl (i64_at (by omega))) <| G_g rfl rfl <| G_v rfl rfl <| G_v rfl rfl <| G_nil) ?_
      refine G_if rfl (fun hc => ?_) (fun hc => ?_)
      · have h0 : l.getD (k - 1) 0 = 0 := by simpa using hc
        refine G_skip (G_pop (G_block ?_))
        refine G_run1 hN (G_v rfl rfl <| G_v rfl rfl <| G_v rfl rfl <| G_nil) ?_
        refine G_popb (G_again (k - 1) ⟨p1 ⟨hk, h0⟩, by omega⟩ (by omega) (M1 rfl <| M2 rfl (by rw [IntWalk.i64_in _ (by omega)]; congr 1; omega) M0) (Heap.Sub.refl H))
      · have h0 : ¬ l.getD (k - 1) 0 = 0 := by simpa using hc
        refine G_exit (G_pops (G_leave (G_popx ?_)))
        exact G_done () trivial (M1 rfl <| M2 rfl (by rw [p2 (by omega)]) M0) (Heap.Sub.refl H)
  · have := (digs_len_le hl).1
    refine G_run hN (G_v rfl rfl <| G_v rfl rfl <| G_v rfl (g_cuti (digs (val l)).length rfl rfl rfl rfl rfl (by omega)) <| G_v rfl rfl <| G_nil) ?_
    refine G_ret (G_end rfl ⟨?_, rfl⟩)
    have q2 := (digs_len_le hl).2.1
    show AV.isl ((l.map i64c).take ((digs (val l)).length * 1)) _ = _
    rw [Nat.mul_one, ← List.map_take, ← q2]
    rfl
end Go.Eng.R
end
section
namespace Go.Eng.R
open Go Go.RowKit Go.Proofs
set_option maxHeartbeats 8000000
set_option maxRecDepth 10000
theorem g_appnew {cx : Cx} {m : List (Nat × AV)} {H : Heap} {a b : Operand} {t u : TypeId} {id off len cap es el mm : Nat} {v : AV} {dx : TypeDesc} {inf : TypeInfo} {zs news cs olds : List AV}
    (ha : rd cx m a = some (.slice id off len cap true es)) (hb : rd cx m b = some v) (hu : cx.D.und t = some (.slice el)) (hx : cx.D.und u = some dx) (hd : srcD dx = true) (hi : cx.D.inf el = some inf) (hz : zeroOf cx.D el = some zs) (hs : srcCells H inf.size v = some (news, mm)) (he : Nat.beq es inf.size = true) (ho : allOne news = true) (hg : H.t.get id = some (.cells cs)) (h1 : cap < len + mm) (h2 : seg cs off (len * inf.size) = some olds) (hr : roomOk (len + mm) inf.bytes = true) :
    sop cx m H (.call ⟨.builtin .append, #[a, b], #[t, u]⟩) = some (.val (.slice H.nx 0 (len + mm) (len + mm) false inf.size) (H.allocE (.cells (olds ++ news)) (some el))) := by
  have e1 : Nat.ble (len + mm) cap = false := by
    cases h : Nat.ble (len + mm) cap with
    | false => rfl
    | true => have := Nat.le_of_ble_eq_true h; omega
  simp only [sop, rds, ha, hb, aBuiltin, aAppend, hu, hx, hd, hi, hz, hs, cond_true, he, ho, Bool.and_self, hg, e1, cond_false, h2, hr, newR]
def KP (Q : List Nat) (p : Nat) : Heap := ⟨T.of [(0, .cells (Q.map i64c))], p, .nil⟩
theorem KP_sub {Q : List Nat} {p : Nat} {X : Heap} (hn : X.nx ≤ p) (hg : X.t.get 0 = some (.cells (Q.map i64c))) : Heap.Sub (KP Q p) X := HS1 hn hg
theorem KP_get (Q : List Nat) (p : Nat) : (KP Q p).t.get 0 = some (.cells (Q.map i64c)) := rfl
theorem nT_one {d : Nat} (h0 : 0 < d) (h : d < 10000) : nT d = .isl [i64c d] 1 := by
  have : digs d = [d] := by
    rw [digs_pos h0, Nat.mod_eq_of_lt h, Nat.div_eq_of_lt h, digs_zero]
  rw [nT, this]; rfl
theorem allOne_c : ∀ l : List Nat, allOne (l.map i64c) = true
  | [] => rfl
  | _ :: l => by simp [allOne, AV.one, i64c, allOne_c l]
variable {X : ExtF} {Y : LiesF}
/-- A digit laid before a number. -/
theorem dig_cons (d r : Nat) (h : d < 10000) : Dg (d :: digs r) ∧ val (d :: digs r) = d + 10000 * r := ⟨Dg.cons.2 ⟨h, digs_dg r⟩, by simp only [val, val_digs, BB]⟩
/-- The look for a digit. -/
theorem bis {b r lo hi mid : Nat} (h1 : b * lo ≤ r) (h2 : r < b * hi) (hm : mid = (lo + hi) / 2) (hlt : lo + 1 < hi) : lo < mid ∧ mid < hi ∧ (b * mid ≤ r → b * mid ≤ r ∧ r < b * hi) ∧ (¬ b * mid ≤ r → b * lo ≤ r ∧ r < b * mid) := by
  refine ⟨by omega, by omega, fun h => ⟨h, h2⟩, fun h => ⟨h1, by omega⟩⟩
theorem bis_end {b r lo hi : Nat} (h1 : b * lo ≤ r) (h2 : r < b * hi) (hlt : hi ≤ lo + 1) : r / b = lo := by
  have hb : 0 < b := by
    rcases Nat.eq_zero_or_pos b with rfl | h
    · omega
    · exact h
  have h3 : b * hi ≤ b * (lo + 1) := Nat.mul_le_mul_left _ hlt
  exact (Nat.div_eq_iff hb).2 ⟨by rw [Nat.mul_comm]; exact h1, by rw [Nat.mul_add, Nat.mul_comm b lo] at h3; omega⟩
end Go.Eng.R
end
