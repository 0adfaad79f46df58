import Derived.Test.YtekfcbeballilaaGreatDoorRb
import Derived.Test.YtekfcbeballilaaGreatDoorTa
section
namespace Go.Eng.R
open Go Go.RowKit Go.Proofs
set_option maxHeartbeats 8000000
set_option maxRecDepth 10000
variable {X : ExtF} {Y : LiesF}
structure DI (la : List Nat) (b k : Nat) (Q : List Nat) (r : Nat) : Prop where
  le : k ≤ la.length
  len : Q.length = la.length
  dg : Dg Q
  z : ∀ j, j < k → Q.getD j 0 = 0
  v : val (la.drop k) = b * val (Q.drop k) + r
  lt : r < b
theorem DI.pre {la Q : List Nat} {b k r : Nat} (h : DI la b k Q r) (hk : 0 < k) : val (la.drop (k - 1)) = b * (10000 * val (Q.drop k)) + (la.getD (k - 1) 0 + 10000 * r) ∧ val (Q.drop (k - 1)) = 10000 * val (Q.drop k) := by
  have hle := h.le
  have hl := h.len
  have e1 := drop_getD la (i := k - 1) (by omega)
  have e2 := drop_getD Q (i := k - 1) (by omega)
  rw [show k - 1 + 1 = k by omega] at e1 e2
  rw [e1, e2, val, val, h.z _ (by omega), h.v]
  simp only [BB]
  constructor
  · grind
  · omega
theorem DI.low {la Q : List Nat} {b k r : Nat} (h : DI la b k Q r) (hk : 0 < k) (hr : la.getD (k - 1) 0 + 10000 * r < b) : DI la b (k - 1) Q (la.getD (k - 1) 0 + 10000 * r) := by
  obtain ⟨h1, h2⟩ := h.pre hk
  exact ⟨by have := h.le; omega, h.len, h.dg, fun j hj => h.z j (by omega), by rw [h1, h2], hr⟩
theorem DI.high {la Q : List Nat} {b k r q : Nat} (h : DI la b k Q r) (hk : 0 < k) (hq : (la.getD (k - 1) 0 + 10000 * r) / b = q) (hq1 : q < 10000) : DI la b (k - 1) (Q.set (k - 1) q) (la.getD (k - 1) 0 + 10000 * r - b * q) := by
  obtain ⟨h1, h2⟩ := h.pre hk
  have hle := h.le
  have hl := h.len
  have hb : 0 < b := by have := h.lt; omega
  generalize hx : la.getD (k - 1) 0 + 10000 * r = x at *
  have hdm := Nat.div_add_mod x b
  have hml := Nat.mod_lt x hb
  rw [hq] at hdm
  have hxq : x - b * q = x % b := by omega
  refine ⟨by omega, by simp [hl], h.dg.set (by simpa [BB] using hq1) _, fun j hj => ?_, ?_, by rw [hxq]; exact hml⟩
  · rw [getD_set2 _ _ _ _ (by omega), if_neg (by omega)]
    exact h.z j (by omega)
  · have e2 := drop_getD (Q.set (k - 1) q) (i := k - 1) (by simp; omega)
    rw [show k - 1 + 1 = k by omega, getD_set2 _ _ _ _ (by omega), if_pos rfl, drop_set_lt _ (show k - 1 < k by omega)] at e2
    rw [e2, h1, val]
    simp only [BB]
    rw [Nat.mul_add]
    omega
theorem len_mul (b x : Nat) (h : x < b * 10000) : (digs x).length ≤ (digs b).length + 1 := by
  refine len_le_of_lt (Nat.lt_trans h ?_)
  rw [Nat.pow_succ]
  exact Nat.mul_lt_mul_of_pos_right (lt_pow_len b) (by decide)
theorem fzc {H : Heap} {ds : List Nat} : ∀ l : List Nat, FZ H ds true (l.map i64c) (l.map i64c)
  | [] => .nil
  | _ :: l => .cons .same (fzc l)
/-- A digit's row and a number, joined. -/
theorem app1 {m : List (Nat × AV)} {a b : Operand} {t u : TypeId} {el : Nat} {dx : TypeDesc} {inf : TypeInfo} {zs : List AV} {Q : List Nat} {p d r : Nat} (hp : 1 ≤ p) (hr : (digs r).length ≤ 1000000)
    (ha : rd (cz X Y) m a = some (.slice p 0 1 1 true 1)) (hb : rd (cz X Y) m b = some (nT r)) (hu : (cz X Y).D.und t = some (.slice el)) (hx : (cz X Y).D.und u = some dx) (hd : srcD dx = true) (hi : (cz X Y).D.inf el = some inf) (hz : zeroOf (cz X Y).D el = some zs) (h1 : inf.size = 1) (h8 : inf.bytes = 8) :
    ∃ y H', sop (cz X Y) m ((KP Q p).alloc (.cells [i64c d])) (.call ⟨.builtin .append, #[a, b], #[t, u]⟩) = some (.val y H') ∧ FZ H' [p, p + 1] false [y] [.isl ((d :: digs r).map i64c) ((digs r).length + 1)] ∧ H'.nx ≤ p + 2 ∧ H'.t.get 0 = some (.cells (Q.map i64c)) := by
  have hg : ((KP Q p).alloc (.cells [i64c d])).t.get p = some (.cells [i64c d]) := T.get_set_same _ _ _
  have hg0 : ((KP Q p).alloc (.cells [i64c d])).t.get 0 = some (.cells (Q.map i64c)) := (T.get_set_ne _ _ (show (0 : Nat) ≠ p by omega)).trans (KP_get Q p)
  have hsrc : srcCells ((KP Q p).alloc (.cells [i64c d])) inf.size (nT r) = some ((digs r).map i64c, (digs r).length) := by rw [h1]; exact src_c _ _
  rcases Nat.eq_zero_or_pos (digs r).length with h0 | h0
  · have hdr : digs r = [] := List.eq_nil_of_length_eq_zero h0
    refine ⟨_, _, g_append (H := (KP Q p).alloc (.cells [i64c d])) ha hb hu hx hd hi hz hsrc (by rw [h1]; rfl) (allOne_c _) hg (by rw [h0]; exact Nat.le_refl 1) (by rw [h1, h0]; exact Nat.le_refl _), ?_, ?_, ?_⟩
    · rw [hdr]
      refine .slice (cs := [i64c d]) (l := [i64c d]) (List.Mem.head _) ?_ rfl (.cons .same .nil)
      exact put_get _ _ _
    · show p + 1 ≤ p + 2; omega
    · exact (T.get_set_ne _ _ (show (0 : Nat) ≠ p by omega)).trans hg0
  · refine ⟨_, _, g_appnew (H := (KP Q p).alloc (.cells [i64c d])) (olds := [i64c d]) ha hb hu hx hd hi hz hsrc (by rw [h1]; rfl) (allOne_c _) hg (by omega) (by rw [h1]; rfl) (by rw [h8]; simp only [roomOk, Bool.and_eq_true, Nat.ble_eq]; exact ⟨by omega, by omega⟩), ?_, ?_, ?_⟩
    · rw [h1, Nat.add_comm 1]
      refine .slice (cs := (d :: digs r).map i64c) (l := (d :: digs r).map i64c) (List.Mem.tail _ (List.Mem.head _)) ?_ (seg_i64 (d :: digs r) rfl) ?_
      · exact T.get_set_same _ _ _
      · exact fzc _
    · show p + 1 + 1 ≤ p + 2; omega
    · exact (T.get_set_ne _ _ (by show 0 ≠ p + 1; omega)).trans hg0
theorem ref1_Div_ans (hN : CxOk (cz X Y)) (a b : Nat) (ha : Sr a) (hb : (digs b).length ≤ 999998) (hb0 : 0 < b) (H : Heap) : Ans (cz X Y) F.ref1_Div [nT a, nT b] H fun x K => x = .tuple [nT (a / b), nT (a % b)] ∧ K = H := by
  have hfr : AV.frees [nT a, nT b] = true := by simp [AV.frees, nT_free]
  refine Ans_free gl0_free (Imp.refl (.tuple [nT (a / b), nT (a % b)])) hfr ?_ H
  unfold Sr at ha
  rw [show nT a = .isl ((digs a).map i64c) (digs a).length from rfl]
  have va := val_digs a
  have da := digs_dg a
  generalize digs a = la at *
  have hsb : Sr b := by unfold Sr; omega
  refine G_body hN (fn := B.ref1_Div) (sz := 64) rfl rfl rfl rfl rfl ?_
  refine G_run hN (G_v rfl rfl <| G_v rfl rfl <| G_nil) ?_
  refine G_run hN (G_v rfl rfl <| G_v rfl rfl <| G_v rfl (g_make la.length la.length rfl rfl rfl rfl rfl rfl rfl (Nat.le_refl _) (by omega) (by show 8 * _ ≤ _; omega)) <| G_v rfl rfl <| G_nil) ?_
  refine G_subH (KP (List.replicate la.length 0) 1) (KP_sub (Nat.le_refl _) (by rw [← repl_i64]; rfl)) ?_
  refine G_run hN (G_v rfl rfl <| G_nil) ?_
  refine G_mid (α := List Nat × Nat × Nat) (fun x => DI la b 0 x.1 x.2.1) (fun x => [(6, .slice 0 0 la.length la.length true 1), (7, nT x.2.1)]) (fun x => KP x.1 x.2.2) ?_ ?_
  · refine G_run hN (G_v rfl rfl <| G_v rfl rfl <| G_v rfl (g_int (b := (la.length : Int) - 1) rfl (wi64 rfl (by omega) (by omega))) <| G_v rfl rfl <| G_nil) ?_
    refine G_block ?_ -- 0
    refine G_loop (α := Nat × List Nat × Nat × Nat) (fun x => DI la b x.1 x.2.1 x.2.2.1 ∧ 1 ≤ x.2.2.2) (fun x => x.1) (fun x => [(0, .isl (la.map i64c) la.length), (1, nT b), (6, .slice 0 0 la.length la.length true 1), (7, nT x.2.2.1), (8, .int .i64 ((x.1 : Nat) - 1 : Int))]) (fun x => KP x.2.1 x.2.2.2)
      (la.length, List.replicate la.length 0, 0, 1) ⟨⟨Nat.le_refl _, by simp, Dg.replicate _, fun j _ => repl_getD _ _, by simp [val], hb0⟩, Nat.le_refl _⟩ (M1 rfl <| M1 rfl <| M1 rfl <| M3 rfl Imp.nilsl <| M1 rfl M0) (Heap.Sub.refl _) fun ⟨k, Q, r, p⟩ ⟨i1, i2⟩ => ?_
    simp only at i1 i2
    have hle := i1.le
    refine G_seq ?_
    rcases Nat.eq_zero_or_pos k with rfl | hk
    · refine G_run hN (G_v rfl rfl <| G_v rfl (g_bool (b := false) rfl rfl) <| G_nil) ?_
      refine G_if0 rfl ?_
      exact G_exit (G_pops (G_leave (G_popx (G_done (Q, r, p) i1 (M1 rfl <| M1 rfl M0) (Heap.Sub.refl _)))))
    · refine G_run hN (G_v rfl rfl <| G_v rfl (g_bool (b := true) rfl (decide_eq_true (by omega))) <| G_nil) ?_
      refine G_if1 rfl (G_skip (G_pop ?_))
      have hki : k - 1 < la.length := by omega
      have hd : la.getD (k - 1) 0 < 10000 := da.get _
      have hpre := i1.pre hk
      have hlow := i1.low hk
      have hhigh := fun q => i1.high (q := q) hk
      have hrb := i1.lt
      have hdb : (digs r).length ≤ (digs b).length := len_le_of_lt (Nat.lt_trans hrb (lt_pow_len b))
      generalize hd0 : la.getD (k - 1) 0 = d at *
      refine G_seq ?_
      refine G_block ?_ -- 1
      -- the rest, with the next digit
      have hdc := dig_cons d r hd
      generalize hx : d + 10000 * r = x at *
      have hxb : x < b * 10000 := by omega
      have sx : Sr x := by have := len_mul b x hxb; unfold Sr; omega
      have hla0 : ((la.map i64c)[k - 1]? : Option AV) = some (i64c d) := by rw [i64_at hki, hd0]
      refine G_mid (α := Unit) (fun _ => True) (fun _ => [(0, .isl (la.map i64c) la.length), (1, nT b), (6, .slice 0 0 la.length la.length true 1), (7, nT x), (8, .int .i64 ((k : Nat) - 1 : Int))]) (fun _ => KP Q (p + 2)) ?_ ?_
      · have htrim := ref1_trim_isl hN hdc.1 (by simp only [List.length_cons]; omega)
        rw [hdc.2] at htrim
        refine G_weak [(0, .isl (la.map i64c) la.length), (1, nT b), (6, .slice 0 0 la.length la.length true 1), (7, nT r), (8, .int .i64 ((k : Nat) - 1 : Int))] (M1 rfl <| M1 rfl <| M1 rfl <| M1 rfl <| M1 rfl M0) ?_
        obtain ⟨y, H', h1, h2, h3, h4⟩ := app1 (X := X) (Y := Y) (t := 45) (u := 45) (a := .tmp 26) (b := .tmp 27) (Q := Q) (p := p) (d := d) (r := r) (m := [(27, nT r), (26, .slice p 0 1 1 true 1), (25, i64c d), (24, .iptr (la.map i64c) (k - 1)), (23, .int .i64 ((k : Nat) - 1 : Int)), (22, .isl (la.map i64c) la.length), (0, .isl (la.map i64c) la.length), (1, nT b), (6, .slice 0 0 la.length la.length true 1), (7, nT r), (8, .int .i64 ((k : Nat) - 1 : Int))]) i2 (by omega) rfl rfl rfl rfl rfl rfl rfl rfl rfl
        refine G_run1 hN (G_v rfl rfl <| G_v rfl rfl <| G_v rfl (g_ati (k - 1) rfl rfl rfl rfl rfl (by omega) hki) <| G_v rfl (g_load (cs := la.map i64c) (off := k - 1) rfl rfl rfl rfl rfl hla0) <| G_v rfl rfl <| G_v rfl rfl <| G_v rfl h1 <| G_c rfl rfl (Ans_freeze [p, p + 1] (.cons h2 .nil) (htrim _)) <| G_v rfl rfl <| G_nil) ?_
        refine G_done () trivial (M1 rfl <| M1 rfl <| M1 rfl <| M1 rfl <| M1 rfl M0) (KP_sub (by rw [dels_nx]; exact h3) ?_)
        rw [dels_get, if_neg (by simp; omega)]
        exact h4
      · rintro ⟨⟩ _
        have hcmp := ref1_Cmp_ans (X := X) (Y := Y) hN x b sx hsb (KP Q (p + 2))
        refine G_seq ?_
        by_cases hxl : x < b
        · rw [if_pos hxl] at hcmp
          refine G_run hN (G_v rfl rfl <| G_v rfl rfl <| G_c rfl rfl hcmp <| G_v rfl rfl <| G_nil) ?_
          refine G_if1 rfl ?_
          refine G_exit (G_pops (G_popx (G_pop ?_)))
          refine G_run1 hN (G_v rfl rfl <| G_v rfl (g_int (b := ((k - 1 : Nat) : Int) - 1) rfl (wi64 (by omega) (by omega) (by omega))) <| G_v rfl rfl <| G_nil) ?_
          exact G_again (k - 1, Q, x, p + 2) ⟨hlow hxl, by simp only; omega⟩ (by simp only; omega) (M1 rfl <| M1 rfl <| M1 rfl <| M1 rfl <| M1 rfl M0) (Heap.Sub.refl _)
        · rw [if_neg hxl] at hcmp
          refine G_run hN (G_v rfl rfl <| G_v rfl rfl <| G_c rfl rfl hcmp <| G_v rfl (g_bool (b := false) rfl (decide_eq_false (by split <;> omega))) <| G_nil) ?_
          refine G_if0 rfl (G_skip (G_pop ?_))
          refine G_run hN (G_v rfl rfl <| G_v rfl rfl <| G_nil) ?_
          have hmul : ∀ mid, 0 < mid → mid < 10000 → ∀ H, Ans (cz X Y) F.ref1_Mul [nT b, .isl [i64c mid] 1] H fun u K => u = nT (b * mid) ∧ K = H := fun mid m0 m1 H => by
            have sm : Sr mid := by unfold Sr; have := len_mul 1 mid (by omega); have : (digs 1).length = 1 := rfl; omega
            have := ref1_Mul_ans (X := X) (Y := Y) hN b mid hsb sm H
            rw [nT_one m0 m1] at this
            exact this
          have hfz : ∀ (p' mid : Nat), FZ ((KP Q p').alloc (.cells [i64c mid])) [p'] true [nT b, .slice p' 0 1 1 true 1] [nT b, .isl [i64c mid] 1] := fun p' mid =>
            .cons .same (.cons (.slice (cs := [i64c mid]) (l := [i64c mid]) (List.Mem.head _) (T.get_set_same _ _ _) rfl (.cons .same .nil)) .nil)
          have hsub : ∀ (Q : List Nat) (p' mid : Nat), 1 ≤ p' → Heap.Sub (KP Q (p' + 1)) (((KP Q p').alloc (.cells [i64c mid])).dels [p']) := fun Q p' mid hp' => KP_sub (by rw [dels_nx]; exact Nat.le_refl _) (by
            rw [dels_get, if_neg (by simp; omega)]
            exact (T.get_set_ne _ _ (show (0 : Nat) ≠ p' by omega)).trans (KP_get Q p'))
          refine G_mid (α := Nat) (fun p' => 1 ≤ p') (fun _ => [(0, .isl (la.map i64c) la.length), (1, nT b), (6, .slice 0 0 la.length la.length true 1), (7, nT x), (8, .int .i64 ((k : Nat) - 1 : Int)), (9, .int .i64 (x / b : Nat))]) (fun p' => KP Q p') ?_ ?_
          · refine G_block ?_ -- 2
            refine G_loop (α := Nat × Nat × Nat) (fun y => b * y.1 ≤ x ∧ x < b * y.2.1 ∧ 1 ≤ y.1 ∧ y.1 < y.2.1 ∧ y.2.1 ≤ 10000 ∧ 1 ≤ y.2.2) (fun y => y.2.1 - y.1) (fun y => [(0, .isl (la.map i64c) la.length), (1, nT b), (6, .slice 0 0 la.length la.length true 1), (7, nT x), (8, .int .i64 ((k : Nat) - 1 : Int)), (9, .int .i64 (y.1 : Nat)), (10, .int .i64 (y.2.1 : Nat))]) (fun y => KP Q y.2.2)
              (1, 10000, p + 2) ⟨by simp only; omega, by simp only; omega, Nat.le_refl _, by simp, Nat.le_refl _, by simp only; omega⟩ (M1 rfl <| M1 rfl <| M1 rfl <| M1 rfl <| M1 rfl <| M1 rfl <| M1 rfl M0) (Heap.Sub.refl _) fun ⟨lo, hi, p'⟩ ⟨j1, j2, j3, j4, j5, j6⟩ => ?_
            simp only at j1 j2 j3 j4 j5 j6
            refine G_seq ?_
            by_cases hlt : lo + 1 < hi
            · obtain ⟨mid, hm⟩ : ∃ mid, mid = (lo + hi) / 2 := ⟨_, rfl⟩
              obtain ⟨m1, m2, m3, m4⟩ := bis j1 j2 hm hlt
              have sbm : Sr (b * mid) := by
                have := len_mul b (b * mid) (Nat.mul_lt_mul_of_pos_left (by omega) hb0)
                unfold Sr; omega
              refine G_run hN (G_v rfl rfl <| G_v rfl rfl <| G_v rfl (g_int (b := (hi : Int) - lo) rfl (wi64 rfl (by omega) (by omega))) <| G_v rfl (g_bool (b := true) rfl (decide_eq_true (by omega))) <| G_nil) ?_
              refine G_if1 rfl (G_skip (G_pop ?_))
              refine G_block ?_ -- 3
              refine G_run hN (G_v rfl rfl <| G_v rfl rfl <| G_v rfl (g_int (b := ((lo + hi : Nat) : Int)) rfl (wi64 (by show (lo : Int) + (hi : Int) = _; omega) (by omega) (by omega))) <| G_v rfl (g_int (b := ((mid : Nat) : Int)) rfl (wi64 (by rw [hm]; rfl) (by omega) (by omega))) <| G_v rfl rfl <| G_nil) ?_
              by_cases hle2 : b * mid ≤ x
              · have hle3 : (if b * mid < x then (-1 : Int) else if x < b * mid then 1 else 0) ≤ 0 := by
                  split
                  · omega
                  · rw [if_neg (by omega)]; omega
                refine G_run hN (G_v rfl rfl <| G_v rfl rfl <| G_v rfl rfl <| G_c rfl rfl (Ans_freeze [p'] (hfz p' mid) (hmul mid (by omega) (by omega) _)) <| G_v rfl rfl <| G_c rfl rfl (ref1_Cmp_ans hN (b * mid) x sbm sx _) <| G_v rfl (g_bool (b := true) rfl (decide_eq_true hle3)) <| G_nil) ?_
                refine G_if1 rfl ?_
                refine G_run1 hN (G_v rfl rfl <| G_v rfl rfl <| G_nil) ?_
                refine G_popb ?_
                exact G_again (mid, hi, p' + 1) ⟨(m3 hle2).1, (m3 hle2).2, by simp only; omega, m2, j5, by simp only; omega⟩ (by simp only; omega) (M1 rfl <| M1 rfl <| M1 rfl <| M1 rfl <| M1 rfl <| M1 rfl <| M1 rfl M0) (hsub Q p' mid j6)
              · refine G_run hN (G_v rfl rfl <| G_v rfl rfl <| G_v rfl rfl <| G_c rfl rfl (Ans_freeze [p'] (hfz p' mid) (hmul mid (by omega) (by omega) _)) <| G_v rfl rfl <| G_c rfl rfl (ref1_Cmp_ans hN (b * mid) x sbm sx _) <| G_v rfl (g_bool (b := false) rfl (decide_eq_false (by rw [if_neg (by omega), if_pos (by omega)]; omega))) <| G_nil) ?_
                refine G_if0 rfl ?_
                refine G_run1 hN (G_v rfl rfl <| G_v rfl rfl <| G_nil) ?_
                refine G_popb ?_
                exact G_again (lo, mid, p' + 1) ⟨(m4 hle2).1, (m4 hle2).2, j3, m1, by simp only; omega, by simp only; omega⟩ (by simp only; omega) (M1 rfl <| M1 rfl <| M1 rfl <| M1 rfl <| M1 rfl <| M1 rfl <| M1 rfl M0) (hsub Q p' mid j6)
            · refine G_run hN (G_v rfl rfl <| G_v rfl rfl <| G_v rfl (g_int (b := (hi : Int) - lo) rfl (wi64 rfl (by omega) (by omega))) <| G_v rfl (g_bool (b := false) rfl (decide_eq_false (by omega))) <| G_nil) ?_
              refine G_if0 rfl ?_
              have hq := bis_end j1 j2 (by omega)
              exact G_exit (G_pops (G_leave (G_popx (G_done p' j6 (M1 rfl <| M1 rfl <| M1 rfl <| M1 rfl <| M1 rfl <| M2 rfl (by rw [hq]) M0) (Heap.Sub.refl _)))))
          · intro p' hp'
            have hq1 : x / b < 10000 := (Nat.div_lt_iff_lt_mul hb0).2 (by rw [Nat.mul_comm]; exact hxb)
            have hq0 : 0 < x / b := Nat.div_pos (by omega) hb0
            have hbq : b * (x / b) ≤ x := Nat.mul_div_le x b
            have hh := hhigh (x / b) rfl hq1
            have hql := i1.len
            generalize x / b = q at *
            refine G_run hN (G_v rfl rfl <| G_v rfl rfl <| G_v rfl rfl <| G_v rfl (g_idx1 (k - 1) rfl rfl rfl rfl rfl (by omega) hki) <| G_s (g_store1 (cs := Q.map i64c) rfl rfl rfl rfl rfl rfl (KP_get Q p') (by rw [List.length_map]; omega)) <| G_nil) ?_
            refine G_subH (KP (Q.set (k - 1) q) p') (by
              rw [Nat.zero_add]
              refine KP_sub (Nat.le_refl _) ?_
              rw [List.map_set]
              exact put_get _ _ _) ?_
            have hfz2 : FZ ((KP (Q.set (k - 1) q) p').alloc (.cells [i64c q])) [p'] true [nT b, .slice p' 0 1 1 true 1] [nT b, .isl [i64c q] 1] :=
              .cons .same (.cons (.slice (cs := [i64c q]) (l := [i64c q]) (List.Mem.head _) (T.get_set_same _ _ _) rfl (.cons .same .nil)) .nil)
            refine G_run1 hN (G_v rfl rfl <| G_v rfl rfl <| G_v rfl rfl <| G_v rfl rfl <| G_c rfl rfl (Ans_freeze [p'] hfz2 (hmul q hq0 hq1 _)) <| G_c rfl rfl (ref1_Sub_ans hN x (b * q) sx hbq _) <| G_v rfl rfl <| G_nil) ?_
            refine G_popb (G_pop ?_)
            refine G_run1 hN (G_v rfl rfl <| G_v rfl (g_int (b := ((k - 1 : Nat) : Int) - 1) rfl (wi64 (by omega) (by omega) (by omega))) <| G_v rfl rfl <| G_nil) ?_
            exact G_again (k - 1, Q.set (k - 1) q, x - b * q, p' + 1) ⟨hh, by simp only; omega⟩ (by simp only; omega) (M1 rfl <| M1 rfl <| M1 rfl <| M1 rfl <| M1 rfl M0) (hsub _ p' q hp')
  · rintro ⟨Q, r, p⟩ hI
    replace hI : DI la b 0 Q r := hI
    have hv := hI.v
    simp only [List.drop_zero] at hv
    rw [va] at hv
    have hq : a / b = val Q := by
      rw [hv, Nat.mul_add_div hb0, Nat.div_eq_of_lt hI.lt, Nat.add_zero]
    have hr : a % b = r := by rw [hv, Nat.mul_add_mod, Nat.mod_eq_of_lt hI.lt]
    have hlq := hI.len
    have htr := ref1_trim_pre hN (L := Q) (l := Q) hI.dg (by rw [List.take_length]) (id := 0) (n := la.length) (cap := la.length) (ex := true) (H := KP Q p) (KP_get _ _) hlq.symm (Nat.le_refl _) (by omega)
    refine G_run hN (G_v rfl rfl <| G_c rfl rfl htr <| G_v rfl rfl <| G_v rfl rfl <| G_v rfl rfl <| G_nil) ?_
    refine G_ret (G_end rfl ?_)
    rw [hq, hr]
    refine .tuple (.cons ?_ (.cons (.isl (frees_i64 _)) .nil))
    obtain ⟨q1, q2, _⟩ := digs_len_le hI.dg
    refine .slice (cs := Q.map i64c) (l := (digs (val Q)).map i64c) (KP_get _ _) ?_ (frzs_c _ _)
    conv => rhs; rw [q2]
    simp only [seg, List.drop_zero, Nat.mul_one]
    rw [List.length_take, List.length_map, Nat.min_eq_left q1, List.map_take]
    have : Nat.beq (digs (val Q)).length (digs (val Q)).length = true := by simp
    rw [this]; rfl
end Go.Eng.R
end
section
namespace Go.Eng
open Go.RowKit
/-- What a function hands back, cells among them. -/
def resC (D : Tab) (m : List (Nat × AV)) (H : Heap) : List ResultVar → Option (List AV)
  | [] => some []
  | .tmp t :: rs => match lq m t, resC D m H rs with
    | some x, some xs => some (x :: xs)
    | _, _ => none
  | .cell a t :: rs => match lq m a with
    | some v => match aLoad D H t v, resC D m H rs with
      | some x, some xs => some (x :: xs)
      | _, _ => none
    | none => none
theorem resC_ok {D : Tab} {m : List (Nat × AV)} {H : Heap} {sz : Nat} : ∀ {rs : List ResultVar} {xs : List AV}, resC D m H rs = some xs → resA D ⟨sz, T.of m⟩ H rs = some xs
  | [], xs, h => by cases h; rfl
  | .tmp t :: rs, xs, h => by
    simp only [resC] at h
    split at h
    · rename_i h1 h2
      cases h
      simp only [resA, T.of_get, h1, resC_ok h2]
    · cases h
  | .cell a t :: rs, xs, h => by
    simp only [resC] at h
    split at h
    · rename_i v h0
      split at h
      · rename_i h1 h2
        cases h
        simp only [resA, Env.get, T.of_get, h0, h1, resC_ok h2]
      · cases h
    · cases h
section
variable {cx : Cx} {m : List (Nat × AV)} {H : Heap} {sz : Nat} {k : List Fr}
theorem G_endc {rs : List ResultVar} {R : AV → Heap → Prop} {xs : List AV} (hm : resC cx.D m H rs = some xs) (h : R (wrapR xs) H) : CG cx (Fin cx rs R) k .ret sz m H :=
  ⟨Cn_ret ⟨.inr rfl, xs, resC_ok hm, h⟩⟩
end
end Go.Eng
end
section
namespace Go.Eng.R
open Go Go.RowKit Go.Proofs
set_option maxHeartbeats 8000000
set_option maxRecDepth 10000
variable {X : ExtF} {Y : LiesF}
def St (n : Nat) : Prop := (digs n).length ≤ 999998
theorem St.sr {n : Nat} (h : St n) : Sr n := Nat.le_trans h (by omega)
theorem St.le {a b : Nat} (h : St b) (hab : a ≤ b) : St a := by
  unfold St at *
  exact Nat.le_trans (len_le_of_lt (Nat.lt_of_le_of_lt hab (lt_pow_len b))) h
theorem digs_zero_iff (n : Nat) : (digs n).length = 0 ↔ n = 0 := by
  rcases Nat.eq_zero_or_pos n with rfl | h
  · rfl
  · have := (digs_last h).2
    omega
theorem ref1_Gcd_ans (hN : CxOk (cz X Y)) (a b : Nat) (ha : St a) (hb : St b) (H : Heap) : Ans (cz X Y) F.ref1_Gcd [nT a, nT b] H fun x K => x = nT (Nat.gcd a b) ∧ K = H := by
  refine G_body hN (fn := B.ref1_Gcd) (sz := 19) rfl rfl rfl rfl rfl ?_
  refine G_run hN (G_v rfl rfl <| G_nil) ?_
  refine G_mid (α := Unit) (fun _ => True) (fun _ => [(0, nT (Nat.gcd a b))]) (fun _ => H) ?_ ?_
  · refine G_block ?_
    refine G_loop (α := Nat × Nat) (fun x => St x.1 ∧ St x.2 ∧ Nat.gcd x.1 x.2 = Nat.gcd a b) (fun x => x.2) (fun x => [(0, nT x.1), (1, nT x.2)]) (fun _ => H) (a, b) ⟨ha, hb, rfl⟩ (M1 rfl <| M1 rfl M0) (Heap.Sub.refl H) fun ⟨u, v⟩ ⟨i1, i2, i3⟩ => ?_
    simp only at i1 i2 i3
    refine G_seq ?_
    rcases Nat.eq_zero_or_pos v with rfl | h0
    · refine G_run hN (G_v rfl rfl <| G_v rfl rfl <| G_v rfl (g_bool (b := false) rfl rfl) <| G_nil) ?_
      refine G_if0 rfl ?_
      exact G_exit (G_pops (G_leave (G_popx (G_done () trivial (M2 rfl (by rw [← i3, Nat.gcd_zero_right]) M0) (Heap.Sub.refl H)))))
    · have hl := (digs_last h0).2
      refine G_run hN (G_v rfl rfl <| G_v rfl rfl <| G_v rfl (g_bool (b := true) rfl (decide_eq_true (by show ((digs v).length : Int) > 0; omega))) <| G_nil) ?_
      refine G_if1 rfl (G_skip (G_pop ?_))
      refine G_block ?_
      refine G_run hN (G_v rfl rfl <| G_v rfl rfl <| G_c rfl rfl (ref1_Div_ans hN u v i1.sr i2 h0 _) <| G_v rfl rfl <| G_v rfl rfl <| G_v rfl rfl <| G_v rfl rfl <| G_v rfl rfl <| G_nil) ?_
      refine G_run1 hN (G_v rfl rfl <| G_v rfl rfl <| G_v rfl rfl <| G_v rfl rfl <| G_nil) ?_
      exact G_popb (G_again (v, u % v) ⟨i2, i2.le (Nat.le_of_lt (Nat.mod_lt _ h0)), by rw [← i3, Nat.gcd_comm u v, Nat.gcd_rec v u]; exact Nat.gcd_comm _ _⟩ (Nat.mod_lt _ h0) (M1 rfl <| M1 rfl M0) (Heap.Sub.refl H))
  · rintro ⟨⟩ _
    refine G_run hN (G_v rfl rfl <| G_v rfl rfl <| G_nil) ?_
    exact G_ret (G_end rfl ⟨rfl, rfl⟩)
theorem Frz_agg {H : Heap} {xs ys : List AV} (h : Frzs H xs ys) : Frz H (.agg xs) (.agg ys) := by
  obtain ⟨n, hn⟩ := h
  exact ⟨n + 1, by simp only [frz, hn]⟩
/-- A reference's fraction. -/
def qT (n : Bool) (a b : Nat) : AV := .agg [.bool n, nT a, nT b]
theorem ref1_Frac_ans (hN : CxOk (cz X Y)) (n : Bool) (a b : Nat) (H : Heap) : Ans (cz X Y) F.ref1_Frac [.bool n, nT a, nT b] H fun x K => x = qT (n && decide (0 < a)) a b ∧ K = H := by
  refine Ans_free gl0_free (Imp.refl (qT (n && decide (0 < a)) a b)) (by simp [AV.frees, AV.free, nT_free]) ?_ H
  refine G_body hN (fn := B.ref1_Frac) (sz := 16) rfl rfl rfl rfl rfl ?_
  refine G_run hN (G_v rfl rfl <| G_nil) ?_
  have hd : decide (((digs a).length : Int) > 0) = decide (0 < a) := by
    rw [decide_eq_decide]
    have := digs_zero_iff a
    omega
  cases n with
  | true =>
    refine G_run hN (G_v rfl rfl <| G_v rfl rfl <| G_g rfl rfl <| G_v rfl rfl <| G_g rfl rfl <| G_v rfl rfl <| G_g rfl rfl <| G_v rfl (g_bool (b := decide (0 < a)) rfl hd) <| G_v rfl rfl <| G_v rfl rfl <| G_v rfl rfl <| G_v rfl rfl <| G_s rfl <| G_nil) ?_
    exact G_ret (G_endc rfl (Frz_agg (.cons (.bool _) (.cons (.isl (frees_i64 _)) (.cons (.isl (frees_i64 _)) .nil)))))
  | false =>
    refine G_run hN (G_v rfl rfl <| G_v rfl rfl <| G_n rfl rfl rfl rfl <| G_n rfl rfl rfl rfl <| G_n rfl rfl rfl rfl <| G_v rfl rfl <| G_v rfl rfl <| G_v rfl rfl <| G_v rfl rfl <| G_s rfl <| G_nil) ?_
    exact G_ret (G_endc rfl (Frz_agg (.cons (.bool _) (.cons (.isl (frees_i64 _)) (.cons (.isl (frees_i64 _)) .nil)))))
end Go.Eng.R
end
section
namespace Go.Eng.R
open Go Go.RowKit Go.Proofs
set_option maxHeartbeats 8000000
set_option maxRecDepth 10000
variable {X : ExtF} {Y : LiesF}
theorem qT_free (n : Bool) (a b : Nat) : AV.frees [qT n a b] = true := by simp [AV.frees, AV.free, qT, nT_free]
theorem ref1_Low_ans (hN : CxOk (cz X Y)) (n : Bool) (a b : Nat) (ha : St a) (hb : St b) (hb0 : 0 < b) (H : Heap) : Ans (cz X Y) F.ref1_Q_Low [qT n a b] H fun x K => x = qT (n && decide (0 < a / Nat.gcd a b)) (a / Nat.gcd a b) (b / Nat.gcd a b) ∧ K = H := by
  have hg0 : 0 < Nat.gcd a b := Nat.gcd_pos_of_pos_right _ hb0
  have hgs : St (Nat.gcd a b) := hb.le (Nat.gcd_le_right _ hb0)
  refine Ans_free gl0_free (Imp.refl (qT (n && decide (0 < a / Nat.gcd a b)) (a / Nat.gcd a b) (b / Nat.gcd a b))) (qT_free n a b) ?_ H
  refine G_body hN (fn := B.ref1_Q_Low) (sz := 32) rfl rfl rfl rfl rfl ?_
  refine G_run hN (G_v rfl rfl <| G_v rfl rfl <| G_nil) ?_
  refine G_run hN (G_v rfl rfl <| G_v rfl rfl <| G_v rfl rfl <| G_v rfl rfl <| G_c rfl rfl (ref1_Gcd_ans hN a b ha hb _) <| G_v rfl rfl <| G_nil) ?_
  refine G_run hN (G_v rfl rfl <| G_v rfl rfl <| G_v rfl rfl <| G_c rfl rfl (ref1_Div_ans hN a _ ha.sr hgs hg0 _) <| G_v rfl rfl <| G_v rfl rfl <| G_v rfl rfl <| G_v rfl rfl <| G_v rfl rfl <| G_nil) ?_
  refine G_run hN (G_v rfl rfl <| G_v rfl rfl <| G_v rfl rfl <| G_c rfl rfl (ref1_Div_ans hN b _ hb.sr hgs hg0 _) <| G_v rfl rfl <| G_v rfl rfl <| G_v rfl rfl <| G_v rfl rfl <| G_v rfl rfl <| G_nil) ?_
  refine G_run hN (G_v rfl rfl <| G_v rfl rfl <| G_v rfl rfl <| G_v rfl rfl <| G_c rfl rfl (ref1_Frac_ans hN n (a / Nat.gcd a b) (b / Nat.gcd a b) _) <| G_s rfl <| G_nil) ?_
  exact G_ret (G_endc rfl (Frz_agg (.cons (.bool _) (.cons (.isl (frees_i64 _)) (.cons (.isl (frees_i64 _)) .nil)))))
theorem ref1_Whole_ans (hN : CxOk (cz X Y)) (n : Bool) (a b : Nat) (ha : St a) (hb : St b) (hb0 : 0 < b) (H : Heap) : Ans (cz X Y) F.ref1_Q_Whole [qT n a b] H fun x K => x = .bool (b / Nat.gcd a b == 1) ∧ K = H := by
  refine Ans_free gl0_free (Imp.refl _) (qT_free n a b) ?_ H
  have hbs : St (b / Nat.gcd a b) := hb.le (Nat.div_le_self _ _)
  have hc := fun H => ref1_Cmp_ans (X := X) (Y := Y) hN (b / Nat.gcd a b) 1 hbs.sr (hb.sr |> fun h => (hb.le hb0).sr) H
  rw [nT_one (d := 1) (by decide) (by decide)] at hc
  refine G_body hN (fn := B.ref1_Q_Whole) (sz := 9) rfl rfl rfl rfl rfl ?_
  refine G_run hN (G_v rfl rfl <| G_v rfl rfl <| G_nil) ?_
  generalize hx : b / Nat.gcd a b = x at *
  have hlow := fun H => ref1_Low_ans (X := X) (Y := Y) hN n a b ha hb hb0 H
  rw [hx] at hlow
  refine G_run hN (G_v rfl rfl <| G_c rfl rfl (hlow _) <| G_v rfl rfl <| G_v rfl rfl <| G_c rfl rfl (Ans_freeze (args' := [nT x, .isl [i64c 1] 1]) [1] (.cons .same (.cons (.slice (cs := [i64c 1]) (l := [i64c 1]) (List.Mem.head _) rfl rfl (.cons .same .nil)) .nil)) (hc _)) <| G_v rfl (g_bool (b := (x == 1)) rfl ?_) <| G_v rfl rfl <| G_nil) ?_
  · rw [Bool.eq_iff_iff]
    simp only [beq_iff_eq]
    split
    · simp; omega
    · split
      · simp; omega
      · simp; omega
  · exact G_ret (G_end rfl (.bool _))
end Go.Eng.R
end
section
namespace Go.Eng.R
open Go.RowKit
set_option maxHeartbeats 8000000
/-- From place k on, read in groups of four. -/
structure GI (s : List UInt8) (k : Nat) (R : List Nat) (g e : Nat) : Prop where
  le : k ≤ s.length
  all : ∀ b ∈ s.drop k, isDg b.toNat = true
  dg : Dg R
  e4 : e < 4
  len : 4 * R.length + e = s.length - k
  lt : g < 10 ^ e
  v : dval (s.drop k) = val R + BB ^ R.length * g
theorem dval_cons (b : UInt8) (l : List UInt8) : dval (b :: l) = (b.toNat - 48) * 10 ^ l.length + dval l := by
  have := dval_app [b] l
  simpa [dval] using this
theorem pow_four (R : Nat) (e : Nat) : BB ^ R * 10 ^ e = 10 ^ (4 * R + e) := by
  rw [show BB = 10 ^ 4 from rfl, ← Nat.pow_mul, ← Nat.pow_add]
/-- One letter more. -/
theorem GI.step {s : List UInt8} {k : Nat} {R : List Nat} {g e : Nat} {c : UInt8} (h : GI s k R g e) (hk : 0 < k) (hc : s[k - 1]? = some c) (hd : isDg c.toNat = true) :
    s.drop (k - 1) = c :: s.drop k ∧ g + (c.toNat - 48) * 10 ^ e < 10 ^ (e + 1) ∧ dval (s.drop (k - 1)) = val R + BB ^ R.length * (g + (c.toNat - 48) * 10 ^ e) ∧ ∀ b ∈ s.drop (k - 1), isDg b.toNat = true := by
  have hle := h.le
  have e1 : s.drop (k - 1) = c :: s.drop k := by
    have h2 := List.drop_eq_getElem_cons (l := s) (i := k - 1) (by omega)
    rw [show k - 1 + 1 = k by omega] at h2
    rw [h2]
    congr 1
    have h3 := List.getElem?_eq_getElem (l := s) (i := k - 1) (by omega)
    rw [h3] at hc
    exact Option.some.inj hc
  have hcd := hd
  simp only [isDg, Bool.and_eq_true, Nat.ble_eq] at hcd
  refine ⟨e1, ?_, ?_, ?_⟩
  · have hg := h.lt
    have h9 : (c.toNat - 48) * 10 ^ e ≤ 9 * 10 ^ e := Nat.mul_le_mul_right _ (by omega)
    rw [Nat.pow_succ]
    omega
  · rw [e1, dval_cons, h.v, List.length_drop, ← h.len, ← pow_four]
    generalize BB ^ R.length = P
    generalize 10 ^ e = Q
    grind
  · rw [e1]
    intro b hb
    rcases List.mem_cons.1 hb with rfl | hb
    · exact hd
    · exact h.all b hb
theorem GI.more {s : List UInt8} {k : Nat} {R : List Nat} {g e : Nat} {c : UInt8} (h : GI s k R g e) (hk : 0 < k) (hc : s[k - 1]? = some c) (hd : isDg c.toNat = true) (he : e + 1 < 4) : GI s (k - 1) R (g + (c.toNat - 48) * 10 ^ e) (e + 1) := by
  obtain ⟨_, h2, h3, h4⟩ := h.step hk hc hd
  have := h.len
  have := h.le
  exact ⟨by omega, h4, h.dg, he, by omega, h2, h3⟩
/-- A group is full. -/
theorem GI.full {s : List UInt8} {k : Nat} {R : List Nat} {g : Nat} {c : UInt8} (h : GI s k R g 3) (hk : 0 < k) (hc : s[k - 1]? = some c) (hd : isDg c.toNat = true) : GI s (k - 1) (R ++ [g + (c.toNat - 48) * 10 ^ 3]) 0 0 := by
  obtain ⟨_, h2, h3, h4⟩ := h.step hk hc hd
  have := h.len
  have := h.le
  refine ⟨by omega, h4, Dg.append.2 ⟨h.dg, Dg.cons.2 ⟨by simpa [BB] using h2, Dg.nil⟩⟩, by omega, by simp; omega, by simp, ?_⟩
  rw [h3, val_append]
  simp [val]
/-- The last group: its worth. -/
theorem GI.last {s : List UInt8} {R : List Nat} {g e : Nat} {c : UInt8} (h : GI s 1 R g e) (hc : s[0]? = some c) (hd : isDg c.toNat = true) : Dg (R ++ [g + (c.toNat - 48) * 10 ^ e]) ∧ val (R ++ [g + (c.toNat - 48) * 10 ^ e]) = dval s ∧ ∀ b ∈ s, isDg b.toNat = true := by
  obtain ⟨_, h2, h3, h4⟩ := h.step (by decide) hc hd
  simp only [Nat.sub_self, List.drop_zero] at h3 h4
  have he := h.e4
  have h5 : 10 ^ (e + 1) ≤ 10 ^ 4 := Nat.pow_le_pow_right (by decide) (by omega)
  refine ⟨Dg.append.2 ⟨h.dg, Dg.cons.2 ⟨Nat.lt_of_lt_of_le h2 h5, Dg.nil⟩⟩, ?_, h4⟩
  rw [h3, val_append]
  simp [val]
end Go.Eng.R
end
section
namespace Go.Eng.R
open Go Go.RowKit Go.Proofs
set_option maxHeartbeats 8000000
set_option maxRecDepth 10000
theorem g_appdrop {cx : Cx} {m : List (Nat × AV)} {H : Heap} {a b : Operand} {t u : TypeId} {id off len cap es el mm : Nat} {v : AV} {dx : TypeDesc} {inf : TypeInfo} {zs news cs olds : List AV}
    (ha : rd cx m a = some (.slice id off len cap false es)) (hb : rd cx m b = some v) (hu : cx.D.und t = some (.slice el)) (hx : cx.D.und u = some dx) (hd : srcD dx = true) (hi : cx.D.inf el = some inf) (hz : zeroOf cx.D el = some zs) (hs : srcCells H inf.size v = some (news, mm)) (he : Nat.beq es inf.size = true) (ho : allOne news = true) (hg : H.t.get id = some (.cells cs)) (h1 : cap < len + mm) (h2 : seg cs off (len * inf.size) = some olds) (hr : roomOk (len + mm) inf.bytes = true) :
    sop cx m H (.call ⟨.builtin .append, #[a, b], #[t, u]⟩) = some (.val (.slice H.nx 0 (len + mm) (len + mm) false inf.size) ((H.drop id).allocE (.cells (olds ++ news)) (tagOf H id off el))) := by
  have e1 : Nat.ble (len + mm) cap = false := by
    cases h : Nat.ble (len + mm) cap with
    | false => rfl
    | true => have := Nat.le_of_ble_eq_true h; omega
  simp only [sop, rds, ha, hb, aBuiltin, aAppend, hu, hx, hd, hi, hz, hs, cond_true, he, ho, Bool.and_self, hg, e1, cond_false, h2, hr, newR]
theorem allocE_get (H : Heap) (ob : Ob) (o : Option TypeId) : (H.allocE ob o).t.get H.nx = some ob ∧ (H.allocE ob o).nx = H.nx + 1 := by
  cases o with
  | none => exact ⟨T.get_set_same _ _ _, rfl⟩
  | some e => exact ⟨T.get_set_same _ _ _, rfl⟩
/-- The groups so far: a row that may be written, or none. -/
def tv : List Nat → Nat → AV
  | [], _ => .nilsl
  | _ :: R, q => .slice q 0 (R.length + 1) (R.length + 1) false 1
def hv : List Nat → Nat → Nat → Heap
  | [], _, p => ⟨.nil, p, .nil⟩
  | x :: R, q, p => ⟨T.of [(q, .cells ((x :: R).map i64c))], p, .nil⟩
variable {X : ExtF} {Y : LiesF}
theorem app2 {m : List (Nat × AV)} {a b : Operand} {t u : TypeId} {el : Nat} {dx : TypeDesc} {inf : TypeInfo} {zs : List AV} {R : List Nat} {q p g : Nat} (hq : q < p) (hR : R.length ≤ 1000000)
    (ha : rd (cz X Y) m a = some (tv R q)) (hb : rd (cz X Y) m b = some (.slice p 0 1 1 true 1)) (hu : (cz X Y).D.und t = some (.slice el)) (hx : (cz X Y).D.und u = some dx) (hd : srcD dx = true) (hi : (cz X Y).D.inf el = some inf) (hz : zeroOf (cz X Y).D el = some zs) (h1 : inf.size = 1) (h8 : inf.bytes = 8) :
    ∃ H', sop (cz X Y) m ((hv R q p).alloc (.cells [i64c g])) (.call ⟨.builtin .append, #[a, b], #[t, u]⟩) = some (.val (tv (R ++ [g]) (p + 1)) H') ∧ Heap.Sub (hv (R ++ [g]) (p + 1) (p + 2)) H' := by
  have hnx : (hv R q p).nx = p := by cases R <;> rfl
  have hgp : ((hv R q p).alloc (.cells [i64c g])).t.get p = some (.cells [i64c g]) := by
    show (T.set (hv R q p).t (hv R q p).nx (.cells [i64c g])).get p = _
    rw [hnx]
    exact T.get_set_same _ _ _
  have hsrc : srcCells ((hv R q p).alloc (.cells [i64c g])) inf.size (.slice p 0 1 1 true 1) = some ([i64c g], 1) := by
    rw [h1]
    simp only [srcCells, hgp]
    rfl
  have hnx1 : ((hv R q p).alloc (.cells [i64c g])).nx = p + 1 := by show (hv R q p).nx + 1 = p + 1; rw [hnx]
  cases R with
  | nil =>
    have h := g_appnil (cx := cz X Y) (m := m) (H := (hv [] q p).alloc (.cells [i64c g])) (a := a) (b := b) ha hb hu hx hd hi hz hsrc (by decide) (by rw [h8]; decide)
    rw [h1, hnx1] at h
    obtain ⟨a1, a2⟩ := allocE_get ((hv [] q p).alloc (.cells [i64c g])) (.cells [i64c g]) (some el)
    rw [hnx1] at a1 a2
    exact ⟨_, h, HS1 (nx := p + 2) (id := p + 1) (ob := .cells [i64c g]) (by rw [a2]; exact Nat.le_refl _) a1⟩
  | cons x R =>
    have hgq : ((hv (x :: R) q p).alloc (.cells [i64c g])).t.get q = some (.cells ((x :: R).map i64c)) := (T.get_set_ne _ _ (show q ≠ p by omega)).trans (by simp [hv, T.of, T.get_set_same])
    have hs2 : seg ((x :: R).map i64c) 0 ((R.length + 1) * inf.size) = some ((x :: R).map i64c) := by rw [h1]; exact seg_i64 (x :: R) rfl
    have h := g_appdrop (cx := cz X Y) (m := m) (H := (hv (x :: R) q p).alloc (.cells [i64c g])) (a := a) (b := b) ha hb hu hx hd hi hz hsrc (by rw [h1]; rfl) rfl hgq (by omega) hs2 (by rw [h8]; simp only [roomOk, Bool.and_eq_true, Nat.ble_eq]; simp only [List.length_cons] at hR; exact ⟨by omega, by omega⟩)
    rw [h1] at h
    have hd2 : (((hv (x :: R) q p).alloc (.cells [i64c g])).drop q).nx = p + 1 := hnx1
    obtain ⟨a1, a2⟩ := allocE_get (((hv (x :: R) q p).alloc (.cells [i64c g])).drop q) (.cells ((x :: R).map i64c ++ [i64c g])) (tagOf ((hv (x :: R) q p).alloc (.cells [i64c g])) q 0 el)
    rw [hd2] at a1 a2
    refine ⟨_, ?_, HS1 (nx := p + 2) (id := p + 1) (ob := .cells ((x :: (R ++ [g])).map i64c)) (by rw [a2]; exact Nat.le_refl _) (by rw [a1]; simp)⟩
    rw [h, hnx1]
    simp [tv]
end Go.Eng.R
end
