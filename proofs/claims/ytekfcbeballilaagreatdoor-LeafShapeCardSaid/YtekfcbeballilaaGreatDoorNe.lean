import Derived.Test.YtekfcbeballilaaGreatDoorNd
section
namespace Go.Eng
open Go Go.RowKit Go.Proofs
set_option maxHeartbeats 4000000
set_option maxRecDepth 10000
/-- The divisor, its top bit moved up. -/
theorem top_shift {b lb d s : Nat} (hb : 0 < b) (hlb : (digs b).length = lb) (hd : (digs b).getD (lb - 1) 0 = d) (hs0 : 32 - bl d = s) : d ≠ 0 ∧ s ≤ 31 ∧ BB ^ (lb - 1) * 2 ^ s ≤ b * 2 ^ s ∧ b * 2 ^ s < BB ^ lb ∧ (digs (b * 2 ^ s)).length = lb := by
  obtain ⟨q1, q2⟩ := digs_last hb
  rw [hlb, hd] at q1
  rw [hlb] at q2
  have hD : d < 2 ^ 32 := by have : (digs b).getD (lb - 1) 0 < BB := (digs_dg b).get (lb - 1); rw [hd] at this; simpa [BB] using this
  obtain ⟨p2, p3, p4⟩ := bl_pos (Nat.pos_of_ne_zero q1)
  have p1 := bl_lt hD
  have e := val_take_succ (digs b) (lb - 1)
  rw [show lb - 1 + 1 = (digs b).length by omega, List.take_length, val_digs, hd] at e
  have h1 : val ((digs b).take (lb - 1)) < BB ^ (lb - 1) := val_mono_pow ((digs_dg b).take _) (by simp; omega)
  generalize val ((digs b).take (lb - 1)) = E at *
  have hs : s ≤ 31 := by omega
  have hpow : 2 ^ bl d * 2 ^ s = BB := by rw [← Nat.pow_add, show BB = 2 ^ 32 from rfl]; congr 1; omega
  have h2 : BB ^ (lb - 1) ≤ b := by
    have := Nat.mul_le_mul_left (BB ^ (lb - 1)) (show 1 ≤ d from Nat.pos_of_ne_zero q1)
    omega
  have h3 : b * 2 ^ s < BB ^ lb := by
    have h4 : b < BB ^ (lb - 1) * 2 ^ bl d := by
      have := Nat.mul_le_mul_left (BB ^ (lb - 1)) (show d + 1 ≤ 2 ^ bl d from p4)
      rw [Nat.mul_add, Nat.mul_one] at this
      omega
    have h5 := Nat.mul_lt_mul_of_pos_right h4 (Nat.two_pow_pos s)
    rw [Nat.mul_assoc, hpow, ← Nat.pow_succ, show (lb - 1).succ = lb by omega] at h5
    exact h5
  refine ⟨q1, hs, Nat.mul_le_mul_right _ h2, h3, ?_⟩
  have h6 := len_le_of_lt h3
  rcases Nat.lt_or_ge (digs (b * 2 ^ s)).length lb with h7 | h7
  · exfalso
    have h8 := lt_pow_len (b * 2 ^ s)
    have h9 : BB ^ (digs (b * 2 ^ s)).length ≤ BB ^ (lb - 1) := Nat.pow_le_pow_right (by decide) (by omega)
    have h10 : b * 1 ≤ b * 2 ^ s := Nat.mul_le_mul_left _ (Nat.two_pow_pos s)
    omega
  · omega
theorem high_zero {L : List Nat} (hd : Dg L) {k n : Nat} (h : val (L.drop k) < BB ^ n) : ∀ j, k + n ≤ j → L.getD j 0 = 0 := by
  intro j hj
  have e : L.getD j 0 = (L.drop k).getD (j - k) 0 := by rw [getD_drop]; congr 1; omega
  have h1 := digs_len_le (hd.drop k)
  rw [e]
  exact h1.2.2 _ (by have := len_le_of_lt h; omega)
theorem val_take_high {L : List Nat} {n : Nat} (h : ∀ j, n ≤ j → L.getD j 0 = 0) : val (L.take n) = val L := by
  refine val_ext _ _ fun j => ?_
  rcases Nat.lt_or_ge j n with hj | hj
  · rw [List.getD_eq_getElem?_getD, List.getElem?_take, if_pos hj, ← List.getD_eq_getElem?_getD]
  · rw [h j hj]; exact getD_ge (by simp; omega)
theorem FZ_u32 {H : Heap} {ds : List Nat} : ∀ {l : List Nat}, FZ H ds true (l.map u32) (l.map u32)
  | [] => .nil
  | _ :: _ => .cons .same FZ_u32
theorem src_isl (H : Heap) (l : List Nat) : srcCells H 1 (.isl (l.map u32) l.length) = some (l.map u32, l.length) := by
  simp [srcCells]
theorem HS1' {H : Heap} {nx id : Nat} {ob ob' : Ob} (hn : H.nx ≤ nx) (h : H.t.get id = some ob) (e : ob = ob') : Heap.Sub ⟨T.of [(id, ob')], nx, .nil⟩ H := e ▸ HS1 hn h
/-- A row of digits, another row of digits. -/
def K2 (L q : List Nat) (nx : Nat) : Heap := ⟨T.of [(0, .cells (L.map u32)), (nx, .cells (q.map u32))], nx + 1, .nil⟩
section
variable {cx : Cx} {m : List (Nat × AV)} {H : Heap}
theorem g_cut2 {t : TypeId} {a b c : Operand} {id off len cap es el : Nat} {ex : Bool} {k1 k2 : IntKind} {i j : Int} {inf : TypeInfo} (lo hi : Nat)
    (ha : rd cx m a = some (.slice id off len cap ex es)) (hb : rd cx m b = some (.int k1 i)) (hc : rd cx m c = some (.int k2 j)) (hu : cx.D.und t = some (.slice el)) (hi' : cx.D.inf el = some inf) (hz : Nat.beq es inf.size = true) (hs : inf.size = 1) (h1 : i = lo) (h2 : j = hi) (h3 : lo ≤ hi) (h4 : hi ≤ cap) :
    sop cx m H (.slice t a (some b) (some c) none) = some (.val (.slice id (off + lo) (hi - lo) (cap - lo) ex es) H) := by
  subst h1; subst h2
  rw [hs] at hz
  have g1 : 0 ≤ (hi : Int) ∧ (hi : Int) ≤ (cap : Int) := by omega
  have g2 : 0 ≤ (lo : Int) ∧ (lo : Int) ≤ (hi : Int) := by omega
  simp only [sop, ha, rdo, hb, hc, aSlice, hu, hi', bd, g1, g2, and_self, if_true, Int.toNat_natCast, hz, cond_true, Option.map_some, valR, hs, Nat.mul_one]
end
section
variable {X : ExtF} {Y : LiesF}
/-- What 'of' leaves, the new place by its number. -/
def ofP (H : Heap) (p id k cap : Nat) (ex : Bool) : Heap := ⟨H.t.set p (.cells [.slice id 0 k cap ex 1]), p + 1, H.e.set p (Ty.nat_Nat, some 1)⟩
theorem nat_of_at (hN : CxOk (cz X Y)) {L l : List Nat} (hl : Dg l) (hL : L.take l.length = l) {id n cap : Nat} {ex : Bool} {H : Heap} (p : Nat) (hp : H.nx = p) (hg : H.t.get id = some (.cells (L.map u32))) (hn : n = l.length) (hc : n ≤ cap) (hb : l.length ≤ 281474976710656) :
    Ans (cz X Y) F.nat_of [.slice id 0 n cap ex 1] H fun x K => x = .ptr p 0 ∧ K = ofP H p id (digs (val l)).length cap ex := by
  subst hp
  exact nat_of_pre hN hl hL hg hn hc hb
theorem nat_Div_long (hN : CxOk (cz X Y)) (a b : Nat) (ha : Sm a) (hb : Sm b) (hab : b ≤ a) (h2 : 2 ≤ (digs b).length) (H : Heap) : Ans (cz X Y) F.nat_Nat_Div [.num a, .num b] H fun x K => x = .tuple [.num (a / b), .num (a % b), .bool true] ∧ K = H := by
  refine Ans_free gl0_free (.tuple (.cons (Imp.num' (a / b)) (.cons (Imp.refl (.num (a % b))) (.cons (Imp.refl _) .nil)))) rfl ?_ H
  have hb0 : 0 < b := by
    rcases Nat.eq_zero_or_pos b with h | h
    · subst h; simp [digs_zero] at h2
    · exact h
  obtain ⟨q1, s1, s2, s3, s4⟩ := top_shift hb0 rfl rfl rfl
  have hs' := hb
  have ha' := ha
  unfold Sm at ha hb
  generalize hlb : (digs b).length = lb at *
  generalize hla : (digs a).length = la at *
  have hD : (digs b).getD (lb - 1) 0 < 4294967296 := (digs_dg b).get _
  have p1 : bl ((digs b).getD (lb - 1) 0) ≤ 32 := bl_lt (by simpa using hD)
  generalize hde : (digs b).getD (lb - 1) 0 = d at *
  have p0 := (bl_pos (Nat.pos_of_ne_zero q1)).1
  generalize hse : 32 - bl d = s at *
  generalize hVe : b * 2 ^ s = V at *
  generalize hAe : a * 2 ^ s = A at *
  have hV0 : 0 < V := by rw [← hVe]; exact Nat.mul_pos hb0 (Nat.two_pow_pos s)
  have hAB : A / V = a / b ∧ A % V = a % b * 2 ^ s := by
    rw [← hAe, ← hVe]
    exact ⟨Nat.mul_div_mul_right _ _ (Nat.two_pow_pos s), Nat.mul_mod_mul_right _ _ _⟩
  have hlle : lb ≤ la := by
    rw [← hlb, ← hla]
    exact len_le_of_lt (Nat.lt_of_le_of_lt hab (lt_pow_len a))
  have haB : a < BB ^ la := by rw [← hla]; exact lt_pow_len a
  have hA1 : A < BB ^ la * 2 ^ s := by rw [← hAe]; exact Nat.mul_lt_mul_of_pos_right haB (Nat.two_pow_pos s)
  have hs31 : 2 ^ s ≤ BB := by rw [show BB = 2 ^ 32 from rfl]; exact Nat.pow_le_pow_right (by decide) (by omega)
  have hA2 : A < BB ^ (la + 1) := by rw [Nat.pow_succ]; exact Nat.lt_of_lt_of_le hA1 (Nat.mul_le_mul_left _ hs31)
  have hlA : (digs A).length ≤ la + 1 := len_le_of_lt hA2
  have hlA' : la ≤ (digs A).length := by
    rcases Nat.lt_or_ge (digs A).length la with h | h
    · exfalso
      have h1 := lt_pow_len A
      have h3 : (digs a).length ≤ (digs A).length := by
        refine len_le_of_lt (Nat.lt_of_le_of_lt ?_ h1)
        rw [← hAe]
        exact Nat.le_mul_of_pos_right _ (Nat.two_pow_pos s)
      omega
    · exact h
  refine G_body hN (fn := B.nat_Nat_Div) (sz := 119) rfl rfl rfl rfl rfl ?_
  refine G_run hN (G_v rfl rfl <| G_v rfl rfl <| G_v rfl rfl <| G_nil) ?_
  refine G_run hN (G_v rfl rfl <| G_c rfl rfl (nat_Nat_digits_ans hN b _) <| G_v rfl rfl <| G_nil) ?_
  refine G_seq (G_block ?_)
  refine G_run hN (G_v rfl rfl <| G_v rfl rfl <| G_v rfl (g_bool (b := false) rfl (by rw [beq_eq_false_iff_ne]; omega)) <| G_v rfl rfl <| G_nil) ?_
  refine G_if0 rfl ?_
  refine G_run hN (G_v rfl rfl <| G_v rfl rfl <| G_c rfl rfl (nat_Nat_Cmp_ans hN a b ha' hs' _) <| G_v rfl (g_bool (b := false) rfl (by rw [if_neg (by omega)]; split <;> rfl)) <| G_v rfl rfl <| G_nil) ?_
  refine G_if0 rfl ?_
  refine G_run hN (G_v rfl rfl <| G_v rfl rfl <| G_v rfl (g_bool (b := false) rfl (by rw [beq_eq_false_iff_ne]; omega)) <| G_v rfl rfl <| G_nil) ?_
  refine G_if0 rfl ?_
  refine G_skip (G_popb (G_pop ?_))
  refine G_run hN (G_v rfl rfl <| G_v rfl rfl <| G_v rfl rfl <| G_v rfl (g_int (b := ((lb - 1 : Nat) : Int)) rfl (wi64 (by omega) (by omega) (by omega))) <| G_v rfl (g_idxi1 (lb - 1) rfl rfl rfl rfl rfl rfl (by omega)) <| G_v rfl (g_to (g_loadi rfl rfl rfl rfl (by omega)) (y := .int .u32 (d : Nat)) (by rw [hde])) <| G_v rfl (g_int (b := (d : Nat)) rfl (w64 rfl (by omega))) <| G_c rfl rfl (bits_Len_ans hN d (by omega) _) <|
    G_v rfl (g_int (b := (s : Nat)) rfl (wi64 (by omega) (by omega) (by omega))) <| G_v rfl rfl <| G_nil) ?_
  refine G_run hN (G_v rfl rfl <| G_v rfl rfl <| G_c rfl rfl (nat_up_tree' hN b s hs' (by omega) _) <| G_v rfl rfl <| G_v rfl rfl <| G_v rfl rfl <| G_v rfl rfl <| G_nil) ?_
  refine G_weak [(0, numTree a), (7, .isl ((digs V).map u32) lb), (10, .int .i64 (s : Nat))] (M3 rfl (Imp.num a) <| M2 rfl (by rw [hVe, s4]) <| M1 rfl M0) ?_
  have hz : zeroOf (cz X Y).D 189 = some [.int .u32 0] := rfl
  refine G_drawF hN mixed 1 (E_q 0 1 rfl rfl rfl rfl rfl rfl (.ord rfl) <| E_q 1 2 rfl rfl rfl rfl rfl rfl (.ord rfl) <| E_q 3 3 rfl rfl rfl rfl rfl rfl (.ord rfl) <| E_q 7 4 rfl rfl rfl rfl rfl rfl (.ord rfl) <| E_q 15 5 rfl rfl rfl rfl rfl rfl (.ord rfl) <| E_q 31 6 rfl rfl rfl rfl rfl rfl (.ord rfl) <|
    E_f 63 7 1 rfl rfl rfl rfl rfl rfl (f_make 0 (la + 2) rfl rfl rfl rfl rfl rfl (wi64 (by omega) (by omega) (by omega)) (by omega) (by omega) (by show 4 * (la + 2) ≤ _; omega)) <| E_q 0 8 rfl rfl rfl rfl rfl rfl (.ord rfl) <| E_q 0 9 rfl rfl rfl rfl rfl rfl (.ord rfl) <|
    E_c 384 10 512 384 rfl rfl rfl rfl rfl rfl rfl rfl rfl (nat_up_tree hN a s ha' (by omega) _) ⟨.inl rfl, .inl rfl, .inr rfl, .inr rfl, .inr rfl, .inr rfl, .inr rfl, .inr rfl, trivial⟩ <| E_q 896 11 rfl rfl rfl rfl rfl rfl (.ord rfl) <| E_q 1920 12 rfl rfl rfl rfl rfl rfl (.ord rfl) <| E_q 3968 13 rfl rfl rfl rfl rfl rfl (.ord rfl) <|
    E_l 8191 14 8704 8191 rfl rfl rfl rfl rfl rfl rfl rfl (g_append (inf := Tryz.t189) (news := (digs (a * 2 ^ s)).map u32) (mm := (digs (a * 2 ^ s)).length) (cs := repl (la + 2) [.int .u32 0]) rfl rfl rfl rfl rfl rfl rfl (src_isl _ _) rfl (allOne_u32 _) rfl (by rw [hAe]; omega) (by rw [hAe, repl_u32]; simp [show Tryz.t189.size = 1 from rfl]; omega)) (.ord rfl) <| E_q 16383 15 rfl rfl rfl rfl rfl rfl (.ord rfl) <| E_nil rfl) ?_
  have hL0 : (pdig A (la + 2)).length = la + 2 := pdig_len (Nat.lt_of_lt_of_le hA2 (Nat.pow_le_pow_right (by decide) (by omega)))
  refine G_weakH [(0, numTree a), (7, .isl ((digs V).map u32) lb), (10, .int .i64 (s : Nat)), (11, .slice 0 0 (digs A).length (la + 2) true 1)] ⟨T.of [(0, .cells ((pdig A (la + 2)).map u32))], 1, .nil⟩ (M1 rfl <| M1 rfl <| M1 rfl <| M2 rfl (by rw [hAe, Nat.zero_add]; rfl) M0) (HS1' (Nat.le_refl _) rfl ?_) ?_
  · congr 1
    rw [hAe, repl_u32, putAt_eq _ _ _ (by simp; omega)]
    simp only [Nat.zero_mul, Nat.zero_add, List.take_zero, List.nil_append, List.length_map, ← List.map_drop, ← List.map_append, List.drop_replicate]
    rfl
  -- one digit more, if it lacks
  refine G_mid (α := List Nat × Nat) (fun x => x.1.length = la + 2 ∧ Dg x.1 ∧ val x.1 = A ∧ (x.2 = 1 ∨ x.2 = 2)) (fun _ => [(7, .isl ((digs V).map u32) lb), (10, .int .i64 (s : Nat)), (11, .slice 0 0 (la + 1) (la + 2) true 1)]) (fun x => ⟨T.of [(0, .cells (x.1.map u32))], x.2, .nil⟩) (G_block ?_) ?_
  · refine G_loop (α := Nat × List Nat × Nat) (fun x => x.2.1.length = la + 2 ∧ Dg x.2.1 ∧ val x.2.1 = A ∧ (x.1 = (digs A).length ∧ x.2.2 = 1 ∨ x.1 = la + 1 ∧ x.2.2 = 2)) (fun x => la + 1 - x.1) (fun x => [(0, numTree a), (7, .isl ((digs V).map u32) lb), (10, .int .i64 (s : Nat)), (11, .slice 0 0 x.1 (la + 2) true 1)]) (fun x => ⟨T.of [(0, .cells (x.2.1.map u32))], x.2.2, .nil⟩)
      ((digs A).length, pdig A (la + 2), 1) ⟨hL0, pdig_dg _ _, pdig_val _ _, .inl ⟨rfl, rfl⟩⟩ (M1 rfl <| M1 rfl <| M1 rfl <| M1 rfl M0) (Heap.Sub.refl _) fun ⟨n, L, nx⟩ ⟨i1, i2, i3, i4⟩ => ?_
    simp only at i1 i2 i3 i4
    refine G_seq ?_
    refine G_run hN (G_v rfl rfl <| G_v rfl rfl <| G_v rfl rfl <| G_v rfl rfl <| G_v rfl rfl <| G_v rfl rfl <| G_v rfl (g_int (b := (la : Nat)) rfl (by rw [hla])) <| G_v rfl rfl <| G_nil) ?_
    refine G_if rfl (fun hc => ?_) (fun hc => ?_)
    · have hn : n ≤ la := by have := of_decide_eq_true hc; simp only at this; omega
      obtain ⟨hn1, rfl⟩ : n = (digs A).length ∧ nx = 1 := by omega
      have hnl : n = la := by omega
      subst hnl
      have hA0 : A < BB ^ n := by rw [hn1]; exact lt_pow_len A
      have hL : L.getD n 0 = 0 := high_zero i2 (k := 0) (n := n) (by rw [List.drop_zero, i3]; exact hA0) n (by omega)
      refine G_skip (G_pop (G_block ?_))
      refine G_run1 hN (G_v rfl rfl <| G_v rfl rfl <| G_v rfl (g_append (inf := Tryz.t189) (news := [u32 0]) (mm := 1) (cs := L.map u32) rfl rfl rfl rfl rfl rfl rfl rfl rfl rfl rfl (by simp only; omega) (by simp [show Tryz.t189.size = 1 from rfl]; omega)) <| G_v rfl rfl <| G_nil) ?_
      refine G_popb (G_again (n + 1, L.set n 0, 2) ⟨by simp only [List.length_set]; exact i1, i2.set (by decide) _, ?_, .inr ⟨rfl, rfl⟩⟩ (by simp only; omega) (M1 rfl <| M1 rfl <| M1 rfl <| M1 rfl M0) (HS1' (Nat.le_refl _) rfl ?_))
      · have e := val_set L n 0 (by omega)
        rw [hL] at e
        simp only at e ⊢
        omega
      · simp only [putAt, show Tryz.t189.size = 1 from rfl, Nat.mul_one, Nat.zero_add, map_set_u32]
    · have hn : n = la + 1 := by have := of_decide_eq_false hc; simp only at this; omega
      subst hn
      exact G_exit (G_pops (G_leave (G_popx (G_done (L, nx) ⟨i1, i2, i3, by simp only; omega⟩ (M1 rfl <| M1 rfl <| M1 rfl M0) (Heap.Sub.refl _)))))
  rintro ⟨L, nx⟩ ⟨l1, l2, l3, l4⟩
  simp only at l1 l2 l3 l4
  generalize hnq : la + 1 - lb = nq
  have hVl : (digs V).length = lb := s4
  have hvV := val_digs V
  have dV := digs_dg V
  have hvt : 0 < (digs V).getD (lb - 1) 0 := by
    have := (digs_last hV0).1
    rw [hVl] at this
    omega
  have hVp := lt_pow_len V
  rw [hVl] at hVp
  have hfin : val (L.drop nq) < V := by
    have e := val_split' L nq
    rw [l3] at e
    have hP : 0 < BB ^ nq := Nat.pow_pos (by decide)
    refine Nat.lt_of_mul_lt_mul_left (a := BB ^ nq) ?_
    have h1 : BB ^ nq * (BB ^ (lb - 1) * 2 ^ s) ≤ BB ^ nq * V := Nat.mul_le_mul_left _ s2
    rw [← Nat.mul_assoc, ← Nat.pow_add, show nq + (lb - 1) = la by omega] at h1
    omega
  rcases l4 with rfl | rfl
  · refine G_run hN (G_v rfl rfl <| G_v rfl rfl <| G_v rfl rfl <| G_v rfl rfl <| G_v rfl (g_int (b := (nq : Nat)) rfl (wi64 (by omega) (by omega) (by omega))) <| G_v rfl (g_makeu nq rfl rfl rfl rfl rfl rfl rfl rfl rfl (by omega)) <| G_v rfl rfl <| G_nil) ?_
    refine G_mid (α := List Nat × List Nat) (fun x => x.1.length = la + 2 ∧ Dg x.1 ∧ x.2.length = nq ∧ Dg x.2 ∧ val x.2 = a / b ∧ val x.1 = a % b * 2 ^ s ∧ val x.1 < BB ^ la) (fun _ => [(10, .int .i64 (s : Nat)), (11, .slice 0 0 (la + 1) (la + 2) true 1), (12, .slice 1 0 nq nq true 1)]) (fun x => K2 x.1 x.2 1) ?_ ?_
    · refine G_run hN (G_v rfl rfl <| G_v rfl rfl <| G_v rfl (g_int (b := (nq : Int) - 1) rfl (wi64 rfl (by omega) (by omega))) <| G_v rfl rfl <| G_nil) ?_
      refine G_block ?_
      refine G_loop (α := Nat × List Nat × List Nat) (fun x => x.1 ≤ nq ∧ x.2.1.length = la + 2 ∧ Dg x.2.1 ∧ x.2.2.length = nq ∧ Dg x.2.2 ∧ val (x.2.1.drop x.1) < V ∧ A = val (x.2.2.drop x.1) * BB ^ x.1 * V + val x.2.1) (fun x => x.1)
        (fun x => [(7, .isl ((digs V).map u32) lb), (10, .int .i64 (s : Nat)), (11, .slice 0 0 (la + 1) (la + 2) true 1), (12, .slice 1 0 nq nq true 1), (13, .int .i64 ((x.1 : Int) - 1))]) (fun x => K2 x.2.1 x.2.2 1)
        (nq, L, List.replicate nq 0) ⟨Nat.le_refl _, l1, l2, by simp, Dg.replicate _, hfin, by simp only; rw [List.drop_of_length_le (by simp)]; simp [val, l3]⟩ (M1 rfl <| M1 rfl <| M1 rfl <| M1 rfl <| M1 rfl M0) (Heap.Sub.of (Nat.le_refl _) ⟨⟨_, rfl, ObSub.refl _⟩, ⟨_, rfl, ObSub.refl _⟩, trivial⟩) fun ⟨k, L', q⟩ ⟨i1, i2, i3, i4, i5, i6, i7⟩ => ?_
      simp only at i1 i2 i3 i4 i5 i6 i7
      refine G_seq ?_
      refine G_run hN (G_v rfl rfl <| G_v rfl rfl <| G_nil) ?_
      refine G_if rfl (fun hc => ?_) (fun hc => ?_)
      · obtain ⟨i, rfl⟩ : ∃ i, k = i + 1 := ⟨k - 1, by have := of_decide_eq_true hc; simp only at this; omega⟩
        have hz1 : ∀ j, i + (lb + 1) ≤ j → L'.getD j 0 = 0 := fun j hj => high_zero i3 (k := i + 1) (n := lb) (Nat.lt_trans i6 hVp) j (by omega)
        have hU : val ((L'.drop i).take (lb + 1)) = val (L'.drop i) := val_take_high fun j hj => by rw [getD_drop]; exact hz1 _ (by omega)
        have hUd : val (L'.drop i) = L'.getD i 0 + BB * val (L'.drop (i + 1)) := by rw [drop_getD L' (by omega), val]
        have hUb : val (L'.drop i) < BB * V := by
          rw [hUd]
          have h1 : L'.getD i 0 < BB := i3.get i
          have h2 : BB * (val (L'.drop (i + 1)) + 1) ≤ BB * V := Nat.mul_le_mul_left _ i6
          rw [Nat.mul_add] at h2
          omega
        have hst := nat_step_ans (X := X) (Y := Y) hN (L := L') (bd := digs V) (id := 0) (off := 0 + i) (n := lb) (cap := la + 2 - i) (ex := true) (H := K2 L' q 1) rfl i3 dV hVl h2 (by omega) (by omega) hvt (by rw [Nat.zero_add, hU, hvV]; exact hUb)
        rw [Nat.zero_add, hU, hvV] at hst
        generalize hL2 : L'.take i ++ pdig (val (L'.drop i) % V) (lb + 1) ++ L'.drop (i + (lb + 1)) = L2 at hst
        have hmod : val (L'.drop i) % V < V := Nat.mod_lt _ hV0
        have hpl : (pdig (val (L'.drop i) % V) (lb + 1)).length = lb + 1 := pdig_len (Nat.lt_trans hmod (Nat.lt_of_lt_of_le hVp (Nat.pow_le_pow_right (by decide) (by omega))))
        have e1 : L2.length = la + 2 := by rw [← hL2]; simp [hpl]; omega
        have e2 : Dg L2 := by rw [← hL2]; exact Dg.append.2 ⟨Dg.append.2 ⟨i3.take _, pdig_dg _ _⟩, i3.drop _⟩
        have hzd : val (L'.drop (i + (lb + 1))) = 0 := by
          have := val_ext (L'.drop (i + (lb + 1))) [] fun j => by rw [getD_drop, hz1 _ (by omega)]; simp
          simpa [val] using this
        have e3 : L2.drop i = pdig (val (L'.drop i) % V) (lb + 1) ++ L'.drop (i + (lb + 1)) := by
          rw [← hL2, List.append_assoc, List.drop_append]
          have : (L'.take i).length = i := by simp; omega
          rw [this, Nat.sub_self, List.drop_zero, List.drop_of_length_le (by omega), List.nil_append]
        have e4 : val (L2.drop i) = val (L'.drop i) % V := by rw [e3, val_append, pdig_val, hzd, Nat.mul_zero, Nat.add_zero]
        have e5 : L2.take i = L'.take i := by
          rw [← hL2, List.append_assoc, List.take_append]
          have : (L'.take i).length = i := by simp; omega
          rw [this, Nat.sub_self, List.take_zero, List.append_nil, List.take_of_length_le (by omega)]
        have hqB : val (L'.drop i) / V < BB := (Nat.div_lt_iff_lt_mul hV0).2 hUb
        refine G_skip (G_pop ?_)
        refine G_seq (G_block ?_)
        refine G_run1 hN (G_v rfl rfl <| G_v rfl rfl <| G_v rfl rfl <| G_v rfl rfl <| G_v rfl rfl <| G_v rfl rfl <| G_v rfl rfl <| G_v rfl (g_int (b := ((i + lb : Nat) : Int)) rfl (wi64 (by simp only; omega) (by omega) (by omega))) <| G_v rfl (g_int (b := ((i + lb + 1 : Nat) : Int)) rfl (wi64 (by omega) (by omega) (by omega))) <|
          G_v rfl (g_to (g_cut2 i (i + lb + 1) rfl rfl rfl rfl rfl rfl rfl (by simp only; omega) rfl (by omega) (by omega)) (y := .slice 0 i (lb + 1) (la + 2 - i) true 1) (by rw [Nat.zero_add, show i + lb + 1 - i = lb + 1 by omega])) <| G_v rfl rfl <| G_c rfl rfl hst <| G_v rfl (g_idx1 i rfl rfl rfl rfl rfl (by simp only; omega) (by omega)) <| G_s (g_storeu (l := q) rfl rfl rfl rfl rfl (by omega)) <| G_nil) ?_
        refine G_popb (G_pop ?_)
        refine G_run1 hN (G_v rfl rfl <| G_v rfl (g_int (b := (i : Int) - 1) rfl (wi64 (by simp only; omega) (by omega) (by omega))) <| G_v rfl rfl <| G_nil) ?_
        refine G_again (i, L2, q.set (0 + i) (val (L'.drop i) / V)) ⟨by simp only; omega, e1, e2, by simp only [List.length_set]; exact i4, i5.set hqB _, by simp only; rw [e4]; exact hmod, ?_⟩ (by simp only; omega)
          (M1 rfl <| M1 rfl <| M1 rfl <| M1 rfl <| M1 rfl M0) (Heap.Sub.of (Nat.le_refl _) ⟨⟨_, rfl, ObSub.refl _⟩, ⟨_, rfl, ObSub.refl _⟩, trivial⟩)
        simp only [Nat.zero_add]
        have g1 := val_split' L2 i
        rw [e4, e5] at g1
        have g2 := val_split' L' i
        have g3 := Nat.div_add_mod (val (L'.drop i)) V
        rw [drop_getD (q.set i _) (by simp; omega), getD_set (by omega), drop_set_lt _ (by omega), val, g1, i7, g2, Nat.pow_succ]
        generalize val (L'.drop i) = u at *
        generalize u / V = x at *
        generalize u % V = y at *
        generalize val (q.drop (i + 1)) = p at *
        generalize val (L'.take i) = w at *
        generalize BB ^ i = P at *
        rw [← g3]
        grind
      · have hk : k = 0 := by have := of_decide_eq_false hc; simp only at this; omega
        subst hk
        rw [List.drop_zero] at i6
        rw [List.drop_zero, Nat.pow_zero, Nat.mul_one] at i7
        have g1 : A / V = val q := by rw [i7, Nat.mul_comm, Nat.mul_add_div hV0, Nat.div_eq_of_lt i6, Nat.add_zero]
        have g2 : A % V = val L' := by rw [i7, Nat.mul_comm, Nat.mul_add_mod, Nat.mod_eq_of_lt i6]
        refine G_exit (G_pops (G_leave (G_popx (G_done (L', q) ⟨i2, i3, i4, i5, by simp only; rw [← g1]; exact hAB.1, by simp only; rw [← g2]; exact hAB.2, ?_⟩ (M1 rfl <| M1 rfl <| M1 rfl M0) (Heap.Sub.refl _)))))
        exact Nat.lt_trans i6 (Nat.lt_of_lt_of_le hVp (Nat.pow_le_pow_right (by decide) hlle))
    · rintro ⟨L', q⟩ ⟨i2, i3, i4, i5, i6, i7, i8⟩
      simp only at i2 i3 i4 i5 i6 i7 i8
      have hzL : ∀ j, la + 1 ≤ j → L'.getD j 0 = 0 := fun j hj => high_zero i3 (k := 0) (n := la) (by rw [List.drop_zero]; exact i8) j (by omega)
      have hvt' : val (L'.take (la + 1)) = a % b * 2 ^ s := by rw [val_take_high hzL, i7]
      have hlt : (L'.take (la + 1)).length = la + 1 := by simp; omega
      have hSm : Sm (a % b * 2 ^ s) := by
        have : (digs (a % b * 2 ^ s)).length ≤ la := len_le_of_lt (by rw [← i7]; exact i8)
        unfold Sm; omega
      have hdn : a % b * 2 ^ s / 2 ^ s = a % b := Nat.mul_div_cancel _ (Nat.two_pow_pos s)
      have hdown := fun H => nat_Nat_down_ans (X := X) (Y := Y) hN (a % b * 2 ^ s) s hSm (by omega) H
      rw [hdn] at hdown
      have dt : Dg (L'.take (la + 1)) := i3.take _
      have hdl := (digs_len_le dt).1
      have hdt := (digs_len_le dt).2.1
      refine G_run hN (G_v rfl rfl <| G_c rfl rfl (nat_of_at hN (L := q) (l := q) i5 (List.take_length) 2 rfl rfl i4.symm (Nat.le_refl _) (by omega)) <| G_v rfl rfl <| G_c rfl rfl (nat_of_at hN (L := L') (l := L'.take (la + 1)) dt (by rw [hlt]) 3 rfl rfl hlt.symm (by omega) (by omega)) <| G_v rfl rfl <|
        G_c rfl rfl (Ans_freeze (args' := [numTree (a % b * 2 ^ s), .int .i64 (s : Nat)]) [3, 0] (.cons (FZ.ptr (cs := [.slice 0 0 (digs (val (L'.take (la + 1)))).length (la + 2) true 1]) (ys := [.isl ((digs (a % b * 2 ^ s)).map u32) (digs (a % b * 2 ^ s)).length]) (List.Mem.head _) rfl (.cons (by
          rw [hvt']
          refine FZ.slice (cs := L'.map u32) (l := (digs (a % b * 2 ^ s)).map u32) (List.Mem.tail _ (List.Mem.head _)) rfl ?_ FZ_u32
          rw [seg_take _ _ _ (by rw [hvt'] at hdl; simp; omega), List.drop_zero, Nat.mul_one, ← List.map_take]
          congr 2
          rw [hvt'] at hdt hdl
          rw [List.take_take, Nat.min_eq_left (by omega)] at hdt
          exact hdt.symm) .nil)) (.cons .same .nil)) (Ans_imp (.cons (Imp.num' _) (.cons (Imp.refl _) .nil)) (hdown _))) <| G_v rfl rfl <| G_v rfl rfl <| G_v rfl rfl <| G_nil) ?_
      refine G_ret (G_end rfl (Frz.tuple (.cons ?_ (.cons (.num _) (.cons (.bool _) .nil)))))
      exact frz_num (id := 1) (p := 2) (cap := nq) (ex := true) rfl rfl i5 rfl |>.imp fun k hk => by rw [hk, i6]
  · refine G_run hN (G_v rfl rfl <| G_v rfl rfl <| G_v rfl rfl <| G_v rfl rfl <| G_v rfl (g_int (b := (nq : Nat)) rfl (wi64 (by omega) (by omega) (by omega))) <| G_v rfl (g_makeu nq rfl rfl rfl rfl rfl rfl rfl rfl rfl (by omega)) <| G_v rfl rfl <| G_nil) ?_
    refine G_mid (α := List Nat × List Nat) (fun x => x.1.length = la + 2 ∧ Dg x.1 ∧ x.2.length = nq ∧ Dg x.2 ∧ val x.2 = a / b ∧ val x.1 = a % b * 2 ^ s ∧ val x.1 < BB ^ la) (fun _ => [(10, .int .i64 (s : Nat)), (11, .slice 0 0 (la + 1) (la + 2) true 1), (12, .slice 2 0 nq nq true 1)]) (fun x => K2 x.1 x.2 2) ?_ ?_
    · refine G_run hN (G_v rfl rfl <| G_v rfl rfl <| G_v rfl (g_int (b := (nq : Int) - 1) rfl (wi64 rfl (by omega) (by omega))) <| G_v rfl rfl <| G_nil) ?_
      refine G_block ?_
      refine G_loop (α := Nat × List Nat × List Nat) (fun x => x.1 ≤ nq ∧ x.2.1.length = la + 2 ∧ Dg x.2.1 ∧ x.2.2.length = nq ∧ Dg x.2.2 ∧ val (x.2.1.drop x.1) < V ∧ A = val (x.2.2.drop x.1) * BB ^ x.1 * V + val x.2.1) (fun x => x.1)
        (fun x => [(7, .isl ((digs V).map u32) lb), (10, .int .i64 (s : Nat)), (11, .slice 0 0 (la + 1) (la + 2) true 1), (12, .slice 2 0 nq nq true 1), (13, .int .i64 ((x.1 : Int) - 1))]) (fun x => K2 x.2.1 x.2.2 2)
        (nq, L, List.replicate nq 0) ⟨Nat.le_refl _, l1, l2, by simp, Dg.replicate _, hfin, by simp only; rw [List.drop_of_length_le (by simp)]; simp [val, l3]⟩ (M1 rfl <| M1 rfl <| M1 rfl <| M1 rfl <| M1 rfl M0) (Heap.Sub.of (Nat.le_refl _) ⟨⟨_, rfl, ObSub.refl _⟩, ⟨_, rfl, ObSub.refl _⟩, trivial⟩) fun ⟨k, L', q⟩ ⟨i1, i2, i3, i4, i5, i6, i7⟩ => ?_
      simp only at i1 i2 i3 i4 i5 i6 i7
      refine G_seq ?_
      refine G_run hN (G_v rfl rfl <| G_v rfl rfl <| G_nil) ?_
      refine G_if rfl (fun hc => ?_) (fun hc => ?_)
      · obtain ⟨i, rfl⟩ : ∃ i, k = i + 1 := ⟨k - 1, by have := of_decide_eq_true hc; simp only at this; omega⟩
        have hz1 : ∀ j, i + (lb + 1) ≤ j → L'.getD j 0 = 0 := fun j hj => high_zero i3 (k := i + 1) (n := lb) (Nat.lt_trans i6 hVp) j (by omega)
        have hU : val ((L'.drop i).take (lb + 1)) = val (L'.drop i) := val_take_high fun j hj => by rw [getD_drop]; exact hz1 _ (by omega)
        have hUd : val (L'.drop i) = L'.getD i 0 + BB * val (L'.drop (i + 1)) := by rw [drop_getD L' (by omega), val]
        have hUb : val (L'.drop i) < BB * V := by
          rw [hUd]
          have h1 : L'.getD i 0 < BB := i3.get i
          have h2 : BB * (val (L'.drop (i + 1)) + 1) ≤ BB * V := Nat.mul_le_mul_left _ i6
          rw [Nat.mul_add] at h2
          omega
        have hst := nat_step_ans (X := X) (Y := Y) hN (L := L') (bd := digs V) (id := 0) (off := 0 + i) (n := lb) (cap := la + 2 - i) (ex := true) (H := K2 L' q 2) rfl i3 dV hVl h2 (by omega) (by omega) hvt (by rw [Nat.zero_add, hU, hvV]; exact hUb)
        rw [Nat.zero_add, hU, hvV] at hst
        generalize hL2 : L'.take i ++ pdig (val (L'.drop i) % V) (lb + 1) ++ L'.drop (i + (lb + 1)) = L2 at hst
        have hmod : val (L'.drop i) % V < V := Nat.mod_lt _ hV0
        have hpl : (pdig (val (L'.drop i) % V) (lb + 1)).length = lb + 1 := pdig_len (Nat.lt_trans hmod (Nat.lt_of_lt_of_le hVp (Nat.pow_le_pow_right (by decide) (by omega))))
        have e1 : L2.length = la + 2 := by rw [← hL2]; simp [hpl]; omega
        have e2 : Dg L2 := by rw [← hL2]; exact Dg.append.2 ⟨Dg.append.2 ⟨i3.take _, pdig_dg _ _⟩, i3.drop _⟩
        have hzd : val (L'.drop (i + (lb + 1))) = 0 := by
          have := val_ext (L'.drop (i + (lb + 1))) [] fun j => by rw [getD_drop, hz1 _ (by omega)]; simp
          simpa [val] using this
        have e3 : L2.drop i = pdig (val (L'.drop i) % V) (lb + 1) ++ L'.drop (i + (lb + 1)) := by
          rw [← hL2, List.append_assoc, List.drop_append]
          have : (L'.take i).length = i := by simp; omega
          rw [this, Nat.sub_self, List.drop_zero, List.drop_of_length_le (by omega), List.nil_append]
        have e4 : val (L2.drop i) = val (L'.drop i) % V := by rw [e3, val_append, pdig_val, hzd, Nat.mul_zero, Nat.add_zero]
        have e5 : L2.take i = L'.take i := by
          rw [← hL2, List.append_assoc, List.take_append]
          have : (L'.take i).length = i := by simp; omega
          rw [this, Nat.sub_self, List.take_zero, List.append_nil, List.take_of_length_le (by omega)]
        have hqB : val (L'.drop i) / V < BB := (Nat.div_lt_iff_lt_mul hV0).2 hUb
        refine G_skip (G_pop ?_)
        refine G_seq (G_block ?_)
        refine G_run1 hN (G_v rfl rfl <| G_v rfl rfl <| G_v rfl rfl <| G_v rfl rfl <| G_v rfl rfl <| G_v rfl rfl <| G_v rfl rfl <| G_v rfl (g_int (b := ((i + lb : Nat) : Int)) rfl (wi64 (by simp only; omega) (by omega) (by omega))) <| G_v rfl (g_int (b := ((i + lb + 1 : Nat) : Int)) rfl (wi64 (by omega) (by omega) (by omega))) <|
          G_v rfl (g_to (g_cut2 i (i + lb + 1) rfl rfl rfl rfl rfl rfl rfl (by simp only; omega) rfl (by omega) (by omega)) (y := .slice 0 i (lb + 1) (la + 2 - i) true 1) (by rw [Nat.zero_add, show i + lb + 1 - i = lb + 1 by omega])) <| G_v rfl rfl <| G_c rfl rfl hst <| G_v rfl (g_idx1 i rfl rfl rfl rfl rfl (by simp only; omega) (by omega)) <| G_s (g_storeu (l := q) rfl rfl rfl rfl rfl (by omega)) <| G_nil) ?_
        refine G_popb (G_pop ?_)
        refine G_run1 hN (G_v rfl rfl <| G_v rfl (g_int (b := (i : Int) - 1) rfl (wi64 (by simp only; omega) (by omega) (by omega))) <| G_v rfl rfl <| G_nil) ?_
        refine G_again (i, L2, q.set (0 + i) (val (L'.drop i) / V)) ⟨by simp only; omega, e1, e2, by simp only [List.length_set]; exact i4, i5.set hqB _, by simp only; rw [e4]; exact hmod, ?_⟩ (by simp only; omega)
          (M1 rfl <| M1 rfl <| M1 rfl <| M1 rfl <| M1 rfl M0) (Heap.Sub.of (Nat.le_refl _) ⟨⟨_, rfl, ObSub.refl _⟩, ⟨_, rfl, ObSub.refl _⟩, trivial⟩)
        simp only [Nat.zero_add]
        have g1 := val_split' L2 i
        rw [e4, e5] at g1
        have g2 := val_split' L' i
        have g3 := Nat.div_add_mod (val (L'.drop i)) V
        rw [drop_getD (q.set i _) (by simp; omega), getD_set (by omega), drop_set_lt _ (by omega), val, g1, i7, g2, Nat.pow_succ]
        generalize val (L'.drop i) = u at *
        generalize u / V = x at *
        generalize u % V = y at *
        generalize val (q.drop (i + 1)) = p at *
        generalize val (L'.take i) = w at *
        generalize BB ^ i = P at *
        rw [← g3]
        grind
      · have hk : k = 0 := by have := of_decide_eq_false hc; simp only at this; omega
        subst hk
        rw [List.drop_zero] at i6
        rw [List.drop_zero, Nat.pow_zero, Nat.mul_one] at i7
        have g1 : A / V = val q := by rw [i7, Nat.mul_comm, Nat.mul_add_div hV0, Nat.div_eq_of_lt i6, Nat.add_zero]
        have g2 : A % V = val L' := by rw [i7, Nat.mul_comm, Nat.mul_add_mod, Nat.mod_eq_of_lt i6]
        refine G_exit (G_pops (G_leave (G_popx (G_done (L', q) ⟨i2, i3, i4, i5, by simp only; rw [← g1]; exact hAB.1, by simp only; rw [← g2]; exact hAB.2, ?_⟩ (M1 rfl <| M1 rfl <| M1 rfl M0) (Heap.Sub.refl _)))))
        exact Nat.lt_trans i6 (Nat.lt_of_lt_of_le hVp (Nat.pow_le_pow_right (by decide) hlle))
    · rintro ⟨L', q⟩ ⟨i2, i3, i4, i5, i6, i7, i8⟩
      simp only at i2 i3 i4 i5 i6 i7 i8
      have hzL : ∀ j, la + 1 ≤ j → L'.getD j 0 = 0 := fun j hj => high_zero i3 (k := 0) (n := la) (by rw [List.drop_zero]; exact i8) j (by omega)
      have hvt' : val (L'.take (la + 1)) = a % b * 2 ^ s := by rw [val_take_high hzL, i7]
      have hlt : (L'.take (la + 1)).length = la + 1 := by simp; omega
      have hSm : Sm (a % b * 2 ^ s) := by
        have : (digs (a % b * 2 ^ s)).length ≤ la := len_le_of_lt (by rw [← i7]; exact i8)
        unfold Sm; omega
      have hdn : a % b * 2 ^ s / 2 ^ s = a % b := Nat.mul_div_cancel _ (Nat.two_pow_pos s)
      have hdown := fun H => nat_Nat_down_ans (X := X) (Y := Y) hN (a % b * 2 ^ s) s hSm (by omega) H
      rw [hdn] at hdown
      have dt : Dg (L'.take (la + 1)) := i3.take _
      have hdl := (digs_len_le dt).1
      have hdt := (digs_len_le dt).2.1
      refine G_run hN (G_v rfl rfl <| G_c rfl rfl (nat_of_at hN (L := q) (l := q) i5 (List.take_length) 3 rfl rfl i4.symm (Nat.le_refl _) (by omega)) <| G_v rfl rfl <| G_c rfl rfl (nat_of_at hN (L := L') (l := L'.take (la + 1)) dt (by rw [hlt]) 4 rfl rfl hlt.symm (by omega) (by omega)) <| G_v rfl rfl <|
        G_c rfl rfl (Ans_freeze (args' := [numTree (a % b * 2 ^ s), .int .i64 (s : Nat)]) [4, 0] (.cons (FZ.ptr (cs := [.slice 0 0 (digs (val (L'.take (la + 1)))).length (la + 2) true 1]) (ys := [.isl ((digs (a % b * 2 ^ s)).map u32) (digs (a % b * 2 ^ s)).length]) (List.Mem.head _) rfl (.cons (by
          rw [hvt']
          refine FZ.slice (cs := L'.map u32) (l := (digs (a % b * 2 ^ s)).map u32) (List.Mem.tail _ (List.Mem.head _)) rfl ?_ FZ_u32
          rw [seg_take _ _ _ (by rw [hvt'] at hdl; simp; omega), List.drop_zero, Nat.mul_one, ← List.map_take]
          congr 2
          rw [hvt'] at hdt hdl
          rw [List.take_take, Nat.min_eq_left (by omega)] at hdt
          exact hdt.symm) .nil)) (.cons .same .nil)) (Ans_imp (.cons (Imp.num' _) (.cons (Imp.refl _) .nil)) (hdown _))) <| G_v rfl rfl <| G_v rfl rfl <| G_v rfl rfl <| G_nil) ?_
      refine G_ret (G_end rfl (Frz.tuple (.cons ?_ (.cons (.num _) (.cons (.bool _) .nil)))))
      exact frz_num (id := 2) (p := 3) (cap := nq) (ex := true) rfl rfl i5 rfl |>.imp fun k hk => by rw [hk, i6]
end
end Go.Eng
end
section
namespace Go.Eng
open Go Go.RowKit Go.Proofs
set_option maxHeartbeats 4000000
set_option maxRecDepth 10000
theorem Sm.le {a b : Nat} (h : Sm b) (hab : a ≤ b) : Sm a := by
  unfold Sm at *
  exact Nat.le_trans (len_le_of_lt (Nat.lt_of_le_of_lt hab (lt_pow_len b))) h
theorem tz_Sm {a : Nat} (h : Sm a) : tz a ≤ 35184372088832 := by
  unfold Sm at h
  rcases Nat.eq_zero_or_pos a with rfl | h0
  · rw [tz_zero]; omega
  · have := lt_pow_len a
    rw [show BB = 2 ^ 32 from rfl, ← Nat.pow_mul] at this
    have := tz_lt h0 this
    omega
/-- Odd is what is left without the noughts. -/
def odp (n : Nat) : Nat := n / 2 ^ tz n
theorem odp_eq {n : Nat} (h : 0 < n) : n = 2 ^ tz n * odp n ∧ odp n % 2 = 1 := by
  obtain ⟨m, hm⟩ := tz_form h
  have : odp n = 2 * m + 1 := by
    unfold odp
    conv => lhs; lhs; rw [hm]
    exact Nat.mul_div_cancel_left _ (Nat.two_pow_pos _)
  rw [this]
  exact ⟨hm, by omega⟩
theorem odp_pos {n : Nat} (h : 0 < n) : 0 < odp n := by
  have := (odp_eq h).2
  omega
theorem odp_le (n : Nat) : odp n ≤ n := Nat.div_le_self _ _
theorem cop_two {b : Nat} (hb : b % 2 = 1) (t : Nat) : Nat.gcd (2 ^ t) b = 1 := by
  have h : Nat.Coprime 2 b := by
    show Nat.gcd 2 b = 1
    rw [Nat.gcd_rec, hb]
    rfl
  exact Nat.Coprime.pow_left t h
theorem gcd_odp {a b : Nat} (ha : 0 < a) (hb : b % 2 = 1) : Nat.gcd (odp a) b = Nat.gcd a b := by
  conv => rhs; rw [(odp_eq ha).1]
  exact (Nat.Coprime.gcd_mul_left_cancel _ (cop_two hb _)).symm
theorem gcd_twos {a b : Nat} (ha : 0 < a) (hb : 0 < b) : Nat.gcd a b = Nat.gcd (odp a) (odp b) * 2 ^ min (tz a) (tz b) := by
  obtain ⟨a1, a2⟩ := odp_eq ha
  obtain ⟨b1, b2⟩ := odp_eq hb
  generalize odp a = x at *
  generalize odp b = y at *
  generalize tz a = s at *
  generalize tz b = t at *
  rcases Nat.le_total s t with h | h
  · rw [Nat.min_eq_left h, a1, b1, show 2 ^ t = 2 ^ s * 2 ^ (t - s) by rw [← Nat.pow_add]; congr 1; omega, Nat.mul_assoc, Nat.gcd_mul_left, Nat.mul_comm]
    congr 1
    rw [Nat.gcd_comm x, Nat.Coprime.gcd_mul_left_cancel _ (cop_two a2 _), Nat.gcd_comm]
  · rw [Nat.min_eq_right h, a1, b1, show 2 ^ s = 2 ^ t * 2 ^ (s - t) by rw [← Nat.pow_add]; congr 1; omega, Nat.mul_assoc, Nat.gcd_mul_left, Nat.mul_comm]
    congr 1
    exact Nat.Coprime.gcd_mul_left_cancel _ (cop_two b2 _)
section
variable {X : ExtF} {Y : LiesF}
theorem nat_Nat_Div_ans (hN : CxOk (cz X Y)) (a b : Nat) (ha : Sm a) (hb : Sm b) (hb0 : 0 < b) (H : Heap) : Ans (cz X Y) F.nat_Nat_Div [.num a, .num b] H fun x K => x = .tuple [.num (a / b), .num (a % b), .bool true] ∧ K = H := by
  rcases Nat.lt_or_ge a b with h | h
  · rw [Nat.div_eq_of_lt h, Nat.mod_eq_of_lt h]
    exact nat_Div_less hN a b ha hb h H
  · have := (digs_last hb0).2
    rcases Nat.lt_or_ge (digs b).length 2 with h2 | h2
    · exact nat_Div_short hN a b ha hb h hb0 (by omega) H
    · exact nat_Div_long hN a b ha hb h h2 H
theorem nat_shifts_ans (hN : CxOk (cz X Y)) (a b : Nat) (ha : Sm a) (hb : Sm b) (ha0 : 0 < a) (hb0 : 0 < b) (H : Heap) : Ans (cz X Y) F.nat_shifts [.num a, .num b] H fun x K => x = .num (Nat.gcd a b) ∧ K = H := by
  have ta := tz_Sm ha
  have tb := tz_Sm hb
  generalize hby : min (tz a) (tz b) = by_
  refine G_body hN (fn := B.nat_shifts) (sz := 77) rfl rfl rfl rfl rfl ?_
  refine G_run hN (G_v rfl rfl <| G_nil) ?_
  refine G_run hN (G_v rfl rfl <| G_c rfl rfl (nat_Nat_Twos_ans hN a ha _) <| G_v rfl rfl <| G_c rfl rfl (nat_Nat_Twos_ans hN b hb _) <| G_v rfl (g_int (b := (by_ : Nat)) rfl (by split <;> omega)) <| G_v rfl rfl <| G_nil) ?_
  refine G_run hN (G_v rfl rfl <| G_v rfl rfl <| G_c rfl rfl (nat_Nat_Twos_ans hN a ha _) <| G_c rfl rfl (nat_Nat_down_ans hN a (tz a) ha (by omega) _) <| G_v rfl rfl <| G_v rfl rfl <| G_c rfl rfl (nat_Nat_Twos_ans hN b hb _) <| G_c rfl rfl (nat_Nat_down_ans hN b (tz b) hb (by omega) _) <| G_v rfl rfl <| G_v rfl rfl <| G_nil) ?_
  refine G_block ?_
  have main : Nat.gcd a b = Nat.gcd (odp a) (odp b) * 2 ^ by_ := by rw [← hby]; exact gcd_twos ha0 hb0
  refine G_loop (α := Nat × Nat) (fun x => 0 < x.1 ∧ 0 < x.2 ∧ x.1 % 2 = 1 ∧ x.2 % 2 = 1 ∧ Sm x.1 ∧ Sm x.2 ∧ Nat.gcd x.1 x.2 = Nat.gcd (odp a) (odp b)) (fun x => x.1 + x.2) (fun x => [(0, .num x.1), (1, .num x.2), (5, .int .i64 (by_ : Nat))]) (fun _ => H)
    (odp a, odp b) ⟨odp_pos ha0, odp_pos hb0, (odp_eq ha0).2, (odp_eq hb0).2, ha.le (odp_le a), hb.le (odp_le b), rfl⟩ (M1 rfl <| M1 rfl <| M1 rfl M0) (Heap.Sub.refl H) fun ⟨u, v⟩ ⟨i1, i2, i3, i4, i5, i6, i7⟩ => ?_
  simp only at i1 i2 i3 i4 i5 i6 i7
  refine G_block ?_
  refine G_mid (α := Nat × Nat) (fun x => x.2 < x.1 ∧ x.1 + x.2 = u + v ∧ 0 < x.2 ∧ x.1 % 2 = 1 ∧ x.2 % 2 = 1 ∧ Sm x.1 ∧ Sm x.2 ∧ Nat.gcd x.1 x.2 = Nat.gcd (odp a) (odp b)) (fun x => [(0, .num x.1), (1, .num x.2), (5, .int .i64 (by_ : Nat))]) (fun _ => H) ?_ ?_
  · refine G_run hN (G_v rfl rfl <| G_v rfl rfl <| G_c rfl rfl (nat_Nat_Cmp_ans hN u v i5 i6 _) <| G_nil) ?_
    refine G_block ?_
    rcases Nat.lt_trichotomy u v with h | h | h
    · refine G_run hN (G_v rfl (g_bool (b := false) rfl (by rw [if_pos h]; rfl)) <| G_v rfl rfl <| G_nil) ?_
      refine G_if0 rfl ?_
      refine G_run hN (G_v rfl (g_bool (b := true) rfl (by rw [if_pos h]; rfl)) <| G_v rfl rfl <| G_nil) ?_
      refine G_if1 rfl ?_
      refine G_run1 hN (G_v rfl rfl <| G_v rfl rfl <| G_v rfl rfl <| G_v rfl rfl <| G_nil) ?_
      exact G_popb (G_done (v, u) ⟨h, by simp only; omega, i1, i4, i3, i6, i5, by simp only; rw [Nat.gcd_comm]; exact i7⟩ (M1 rfl <| M1 rfl <| M1 rfl M0) (Heap.Sub.refl H))
    · subst h
      refine G_run hN (G_v rfl (g_bool (b := true) rfl (by rw [if_neg (by omega), if_neg (by omega)]; rfl)) <| G_v rfl rfl <| G_nil) ?_
      refine G_if1 rfl ?_
      refine G_run hN (G_v rfl rfl <| G_v rfl rfl <| G_c rfl rfl (nat_Nat_up_ans hN u by_ i5 (by omega) _) <| G_v rfl rfl <| G_nil) ?_
      refine G_ret (MP_ret (LP_ret (G_end rfl ⟨?_, rfl⟩)))
      rw [main, ← i7, Nat.gcd_self]; rfl
    · refine G_run hN (G_v rfl (g_bool (b := false) rfl (by rw [if_neg (by omega), if_pos h]; rfl)) <| G_v rfl rfl <| G_nil) ?_
      refine G_if0 rfl ?_
      refine G_run hN (G_v rfl (g_bool (b := false) rfl (by rw [if_neg (by omega), if_pos h]; rfl)) <| G_v rfl rfl <| G_nil) ?_
      refine G_if0 rfl ?_
      exact G_skip (G_popb (G_done (u, v) ⟨h, rfl, i2, i3, i4, i5, i6, i7⟩ (M1 rfl <| M1 rfl <| M1 rfl M0) (Heap.Sub.refl H)))
  · rintro ⟨x, y⟩ ⟨j1, j2, j3, j4, j5, j6, j7, j8⟩
    simp only at j1 j2 j3 j4 j5 j6 j7 j8
    have hd0 : 0 < x - y := by omega
    have hd : Sm (x - y) := j6.le (by omega)
    have hg : Nat.gcd (odp (x - y)) y = Nat.gcd (odp a) (odp b) := by
      rw [gcd_odp hd0 j5, ← j8, Nat.gcd_sub_self_left (by omega)]
    have hr := odp_le (x - y)
    have hodd := (odp_eq hd0).2
    have hpos := odp_pos hd0
    have hsm : Sm (odp (x - y)) := hd.le hr
    refine G_run hN (G_v rfl rfl <| G_v rfl rfl <| G_c rfl rfl (by have := nat_Nat_Less_ans (X := X) (Y := Y) hN x y j6 j7 H; rw [if_neg (by omega)] at this; exact this) <| G_v rfl rfl <| G_v rfl rfl <| G_v rfl rfl <| G_v rfl rfl <| G_v rfl rfl <| G_nil) ?_
    refine G_run hN (G_v rfl rfl <| G_v rfl rfl <| G_c rfl rfl (nat_Nat_Twos_ans hN (x - y) hd _) <| G_c rfl rfl (nat_Nat_down_ans hN (x - y) (tz (x - y)) hd (by have := tz_Sm hd; omega) _) <| G_v rfl rfl <| G_nil) ?_
    refine G_weak [(0, numTree (odp (x - y))), (1, numTree y), (5, .int .i64 (by_ : Nat))] (M3 rfl (Imp.num _) <| M3 rfl (Imp.num _) <| M1 rfl M0) ?_
    have again : CG (cz X Y) (LP (cz X Y) (Fin (cz X Y) B.nat_shifts.results.toList fun x K => x = .num (Nat.gcd a b) ∧ K = H) [.block 0] 77 (fun x : Nat × Nat => 0 < x.1 ∧ 0 < x.2 ∧ x.1 % 2 = 1 ∧ x.2 % 2 = 1 ∧ Sm x.1 ∧ Sm x.2 ∧ Nat.gcd x.1 x.2 = Nat.gcd (odp a) (odp b)) (fun x => x.1 + x.2) (fun x => [(0, .num x.1), (1, .num x.2), (5, .int .i64 (by_ : Nat))]) (fun _ => H) (u, v)) [] .normal 77 [(0, numTree (odp (x - y))), (1, numTree y), (5, .int .i64 (by_ : Nat))] H :=
      G_again (odp (x - y), y) ⟨hpos, j3, hodd, j5, hsm, j7, hg⟩ (by simp only; omega) (M3 rfl (Imp.num' _) <| M3 rfl (Imp.num' _) <| M1 rfl M0) (Heap.Sub.refl H)
    have word : ∀ n : Nat, (digs n).length ≤ 2 → n < BB * BB := fun n hn => by
      have := Nat.lt_of_lt_of_le (lt_pow_len n) (Nat.pow_le_pow_right (n := BB) (by decide) hn)
      simpa [Nat.pow_succ] using this
    rcases Nat.lt_or_ge 2 (digs (odp (x - y))).length with hl | hl
    · refine G_run hN (G_v rfl rfl <| G_v rfl rfl <| G_v rfl rfl <| G_v rfl rfl <| G_v rfl rfl <| G_v rfl (g_bool (b := false) rfl (decide_eq_false (by omega))) <| G_v rfl rfl <| G_n rfl rfl rfl rfl <| G_n rfl rfl rfl rfl <| G_n rfl rfl rfl rfl <| G_n rfl rfl rfl rfl <| G_n rfl rfl rfl rfl <| G_n rfl rfl rfl rfl <| G_v rfl rfl <| G_nil) ?_
      refine G_if0 rfl (G_skip (G_popb ?_))
      exact G_again (odp (x - y), y) ⟨hpos, j3, hodd, j5, hsm, j7, hg⟩ (by simp only; omega) (M3 rfl (Imp.num' _) <| M3 rfl (Imp.num' _) <| M1 rfl M0) (Heap.Sub.refl H)
    · rcases Nat.lt_or_ge 2 (digs y).length with hl2 | hl2
      · refine G_run hN (G_v rfl rfl <| G_v rfl rfl <| G_v rfl rfl <| G_v rfl rfl <| G_v rfl rfl <| G_v rfl (g_bool (b := true) rfl (decide_eq_true (by omega))) <| G_v rfl rfl <| G_g rfl rfl <| G_v rfl rfl <| G_g rfl rfl <| G_v rfl rfl <| G_g rfl rfl <| G_v rfl rfl <| G_g rfl rfl <| G_v rfl rfl <| G_g rfl rfl <| G_v rfl rfl <| G_g rfl rfl <| G_v rfl (g_bool (b := false) rfl (decide_eq_false (by omega))) <| G_v rfl rfl <| G_nil) ?_
        refine G_if0 rfl (G_skip (G_popb ?_))
        exact G_again (odp (x - y), y) ⟨hpos, j3, hodd, j5, hsm, j7, hg⟩ (by simp only; omega) (M3 rfl (Imp.num' _) <| M3 rfl (Imp.num' _) <| M1 rfl M0) (Heap.Sub.refl H)
      · refine G_run hN (G_v rfl rfl <| G_v rfl rfl <| G_v rfl rfl <| G_v rfl rfl <| G_v rfl rfl <| G_v rfl (g_bool (b := true) rfl (decide_eq_true (by omega))) <| G_v rfl rfl <| G_g rfl rfl <| G_v rfl rfl <| G_g rfl rfl <| G_v rfl rfl <| G_g rfl rfl <| G_v rfl rfl <| G_g rfl rfl <| G_v rfl rfl <| G_g rfl rfl <| G_v rfl rfl <| G_g rfl rfl <| G_v rfl (g_bool (b := true) rfl (decide_eq_true (by omega))) <| G_v rfl rfl <| G_nil) ?_
        refine G_if1 rfl ?_
        have w1 := word _ hl
        have w2 := word _ hl2
        have hgl : Nat.gcd (odp (x - y)) y < BB * BB := Nat.lt_of_le_of_lt (Nat.gcd_le_right _ j3) w2
        refine G_weak [(0, .num (odp (x - y))), (1, .num y), (5, .int .i64 (by_ : Nat))] (M3 rfl (Imp.num' _) <| M3 rfl (Imp.num' _) <| M1 rfl M0) ?_
        refine G_run hN (G_v rfl rfl <| G_c rfl rfl (by have := nat_Nat_Word_ans (X := X) (Y := Y) hN (odp (x - y)) hsm H; rw [if_pos w1] at this; exact this) <| G_v rfl rfl <| G_v rfl rfl <| G_v rfl rfl <| G_v rfl rfl <| G_v rfl rfl <| G_nil) ?_
        refine G_run hN (G_v rfl rfl <| G_c rfl rfl (by have := nat_Nat_Word_ans (X := X) (Y := Y) hN y j7 H; rw [if_pos w2] at this; exact this) <| G_v rfl rfl <| G_v rfl rfl <| G_v rfl rfl <| G_v rfl rfl <| G_v rfl rfl <| G_nil) ?_
        refine G_run hN (G_v rfl rfl <| G_v rfl rfl <| G_c rfl rfl (nat_common_ans hN _ _ (by simp only [BB] at w1; omega) (by simp only [BB] at w2; omega) _) <| G_c rfl rfl (nat_Of_ans hN _ hgl _) <| G_v rfl rfl <| G_c rfl rfl (nat_Nat_up_ans hN _ by_ (j7.le (Nat.gcd_le_right _ j3)) (by omega) _) <| G_v rfl rfl <| G_nil) ?_
        refine G_ret (LP_ret (G_end rfl ⟨?_, rfl⟩))
        rw [main, ← hg]; rfl
end
end Go.Eng
end
section
namespace Go.Eng
open Go Go.RowKit Go.Proofs
set_option maxHeartbeats 4000000
set_option maxRecDepth 10000
variable {X : ExtF} {Y : LiesF}
theorem nat_Word_yes (hN : CxOk (cz X Y)) {a : Nat} (ha : Sm a) (h : a < BB * BB) (H : Heap) : Ans (cz X Y) F.nat_Nat_Word [.num a] H fun x K => x = .tuple [.int .u64 a, .bool true] ∧ K = H := by
  have := nat_Nat_Word_ans (X := X) (Y := Y) hN a ha H; rw [if_pos h] at this; exact this
theorem nat_Word_no (hN : CxOk (cz X Y)) {a : Nat} (ha : Sm a) (h : ¬ a < BB * BB) (H : Heap) : Ans (cz X Y) F.nat_Nat_Word [.num a] H fun x K => x = .tuple [.int .u64 0, .bool false] ∧ K = H := by
  have := nat_Nat_Word_ans (X := X) (Y := Y) hN a ha H; rw [if_neg h] at this; exact this
theorem digs_zero_iff (n : Nat) : (digs n).length = 0 ↔ n = 0 := by
  rcases Nat.eq_zero_or_pos n with rfl | h
  · rfl
  · have := (digs_last h).2
    omega
theorem nat_Word_ex (hN : CxOk (cz X Y)) {a : Nat} (ha : Sm a) : ∃ (w : Nat) (c : Bool), ∀ H : Heap, Ans (cz X Y) F.nat_Nat_Word [.num a] H fun x K => x = .tuple [.int .u64 w, .bool c] ∧ K = H := by
  by_cases h : a < BB * BB
  · exact ⟨_, _, nat_Word_yes hN ha h⟩
  · exact ⟨0, _, nat_Word_no hN ha h⟩
theorem nat_Nat_Gcd_ans (hN : CxOk (cz X Y)) (a b : Nat) (ha : Sm a) (hb : Sm b) (H : Heap) : Ans (cz X Y) F.nat_Nat_Gcd [.num a, .num b] H fun x K => x = .num (Nat.gcd a b) ∧ K = H := by
  refine G_body hN (fn := B.nat_Nat_Gcd) (sz := 60) rfl rfl rfl rfl rfl ?_
  refine G_run hN (G_v rfl rfl <| G_nil) ?_
  refine G_run hN (G_v rfl rfl <| G_v rfl rfl <| G_v rfl rfl <| G_v rfl rfl <| G_nil) ?_
  refine G_block ?_ -- 0
  refine G_loop (α := Nat × Nat) (fun x => Sm x.1 ∧ Sm x.2 ∧ Nat.gcd x.1 x.2 = Nat.gcd a b) (fun x => x.2) (fun x => [(5, .num x.1), (6, .num x.2)]) (fun _ => H)
    (a, b) ⟨ha, hb, rfl⟩ (M1 rfl <| M1 rfl M0) (Heap.Sub.refl H) fun ⟨u, v⟩ ⟨i1, i2, i3⟩ => ?_
  simp only at i1 i2 i3
  refine G_block ?_ -- 1
  by_cases hw : u < BB * BB ∧ v < BB * BB
  · have hgl : Nat.gcd u v < BB * BB := by
      rcases Nat.eq_zero_or_pos v with rfl | h
      · rw [Nat.gcd_zero_right]; exact hw.1
      · exact Nat.lt_of_le_of_lt (Nat.gcd_le_right _ h) hw.2
    refine G_run hN (G_v rfl rfl <| G_c rfl rfl (nat_Word_yes hN i1 hw.1 _) <| G_v rfl rfl <| G_v rfl rfl <| G_v rfl rfl <| G_v rfl rfl <| G_v rfl rfl <| G_nil) ?_
    refine G_run hN (G_v rfl rfl <| G_c rfl rfl (nat_Word_yes hN i2 hw.2 _) <| G_v rfl rfl <| G_v rfl rfl <| G_v rfl rfl <| G_v rfl rfl <| G_v rfl rfl <| G_nil) ?_
    refine G_seq ?_
    refine G_run hN (G_v rfl rfl <| G_v rfl rfl <| G_g rfl rfl <| G_v rfl rfl <| G_v rfl rfl <| G_nil) ?_
    refine G_if1 rfl ?_
    have w1 := hw.1; have w2 := hw.2
    refine G_run hN (G_v rfl rfl <| G_v rfl rfl <| G_c rfl rfl (nat_common_ans hN _ _ (by simp only [BB] at w1; omega) (by simp only [BB] at w2; omega) _) <| G_c rfl rfl (nat_Of_ans hN _ hgl _) <| G_v rfl rfl <| G_nil) ?_
    refine G_ret (LP_ret (G_end rfl ⟨?_, rfl⟩))
    rw [← i3]; rfl
  have rest : u < BB * BB ∧ ¬ v < BB * BB ∨ ¬ u < BB * BB := by omega
  rcases rest with ⟨h1, h2⟩ | h1
  · refine G_run hN (G_v rfl rfl <| G_c rfl rfl (nat_Word_yes hN i1 h1 _) <| G_v rfl rfl <| G_v rfl rfl <| G_v rfl rfl <| G_v rfl rfl <| G_v rfl rfl <| G_nil) ?_
    refine G_run hN (G_v rfl rfl <| G_c rfl rfl (nat_Word_no hN i2 h2 _) <| G_v rfl rfl <| G_v rfl rfl <| G_v rfl rfl <| G_v rfl rfl <| G_v rfl rfl <| G_nil) ?_
    refine G_seq ?_
    refine G_run hN (G_v rfl rfl <| G_v rfl rfl <| G_g rfl rfl <| G_v rfl rfl <| G_v rfl rfl <| G_nil) ?_
    refine G_if0 rfl (G_skip (G_pop ?_))
    refine G_weak [(5, .num u), (6, .num v)] (M1 rfl <| M1 rfl M0) ?_
    refine G_seq ?_
    rcases Nat.eq_zero_or_pos v with h0 | h0
    · subst h0
      refine G_run hN (G_v rfl rfl <| G_c rfl rfl (nat_Nat_digits_ans hN _ _) <| G_v rfl rfl <| G_v rfl (g_bool (b := true) rfl rfl) <| G_nil) ?_
      refine G_if1 rfl ?_
      refine G_run hN (G_v rfl rfl <| G_c rfl rfl (nat_Nat_digits_ans hN _ _) <| G_c rfl rfl (nat_of_isl hN (digs_dg u) rfl (by unfold Sm at i1; omega) _) <| G_v rfl rfl <| G_nil) ?_
      refine G_ret (LP_ret (G_end rfl ⟨?_, rfl⟩))
      rw [val_digs, ← i3, Nat.gcd_zero_right]; rfl
    · have hl0 := (digs_last h0).2
      refine G_run hN (G_v rfl rfl <| G_c rfl rfl (nat_Nat_digits_ans hN _ _) <| G_v rfl rfl <| G_v rfl (g_bool (b := false) rfl (decide_eq_false (by omega))) <| G_nil) ?_
      refine G_if0 rfl (G_skip (G_pop ?_))
      refine G_seq ?_
      by_cases hl : (digs u).length = (digs v).length
      · refine G_run hN (G_v rfl rfl <| G_c rfl rfl (nat_Nat_digits_ans hN _ _) <| G_v rfl rfl <| G_v rfl rfl <| G_c rfl rfl (nat_Nat_digits_ans hN _ _) <| G_v rfl rfl <| G_v rfl (g_bool (b := false) rfl (by simp only [hl]; simp)) <| G_nil) ?_
        refine G_if0 rfl (G_skip (G_pop ?_))
        have hu0 : 0 < u := by
          rcases Nat.eq_zero_or_pos u with rfl | h
          · rw [(digs_zero_iff 0).2 rfl] at hl; omega
          · exact h
        refine G_run hN (G_v rfl rfl <| G_v rfl rfl <| G_c rfl rfl (nat_shifts_ans hN u v i1 i2 hu0 h0 _) <| G_v rfl rfl <| G_nil) ?_
        refine G_ret (LP_ret (G_end rfl ⟨?_, rfl⟩))
        rw [← i3]; rfl
      · refine G_run hN (G_v rfl rfl <| G_c rfl rfl (nat_Nat_digits_ans hN _ _) <| G_v rfl rfl <| G_v rfl rfl <| G_c rfl rfl (nat_Nat_digits_ans hN _ _) <| G_v rfl rfl <| G_v rfl (g_bool (b := true) rfl (by simp; omega)) <| G_nil) ?_
        refine G_if1 rfl ?_
        refine G_run hN (G_v rfl rfl <| G_v rfl rfl <| G_c rfl rfl (nat_Nat_Div_ans hN u v i1 i2 h0 _) <| G_v rfl rfl <| G_v rfl rfl <| G_v rfl rfl <| G_v rfl rfl <| G_v rfl rfl <| G_v rfl rfl <| G_v rfl rfl <| G_nil) ?_
        refine G_run hN (G_v rfl rfl <| G_v rfl rfl <| G_v rfl rfl <| G_v rfl rfl <| G_nil) ?_
        refine G_exit (G_pops (G_popx ?_))
        exact G_again (v, u % v) ⟨i2, i2.le (Nat.le_of_lt (Nat.mod_lt _ h0)), by rw [← i3, Nat.gcd_comm u v, Nat.gcd_rec v u]; exact Nat.gcd_comm _ _⟩ (Nat.mod_lt _ h0) (M1 rfl <| M1 rfl M0) (Heap.Sub.refl H)
  · obtain ⟨w2, c2, h2⟩ := nat_Word_ex (X := X) (Y := Y) hN i2
    refine G_run hN (G_v rfl rfl <| G_c rfl rfl (nat_Word_no hN i1 h1 _) <| G_v rfl rfl <| G_v rfl rfl <| G_v rfl rfl <| G_v rfl rfl <| G_v rfl rfl <| G_nil) ?_
    refine G_run hN (G_v rfl rfl <| G_c rfl rfl (h2 _) <| G_v rfl rfl <| G_v rfl rfl <| G_v rfl rfl <| G_v rfl rfl <| G_v rfl rfl <| G_nil) ?_
    refine G_seq ?_
    refine G_run hN (G_v rfl rfl <| G_v rfl rfl <| G_n rfl rfl rfl rfl <| G_v rfl rfl <| G_nil) ?_
    refine G_if0 rfl (G_skip (G_pop ?_))
    refine G_weak [(5, .num u), (6, .num v)] (M1 rfl <| M1 rfl M0) ?_
    refine G_seq ?_
    rcases Nat.eq_zero_or_pos v with h0 | h0
    · subst h0
      refine G_run hN (G_v rfl rfl <| G_c rfl rfl (nat_Nat_digits_ans hN _ _) <| G_v rfl rfl <| G_v rfl (g_bool (b := true) rfl rfl) <| G_nil) ?_
      refine G_if1 rfl ?_
      refine G_run hN (G_v rfl rfl <| G_c rfl rfl (nat_Nat_digits_ans hN _ _) <| G_c rfl rfl (nat_of_isl hN (digs_dg u) rfl (by unfold Sm at i1; omega) _) <| G_v rfl rfl <| G_nil) ?_
      refine G_ret (LP_ret (G_end rfl ⟨?_, rfl⟩))
      rw [val_digs, ← i3, Nat.gcd_zero_right]; rfl
    · have hl0 := (digs_last h0).2
      refine G_run hN (G_v rfl rfl <| G_c rfl rfl (nat_Nat_digits_ans hN _ _) <| G_v rfl rfl <| G_v rfl (g_bool (b := false) rfl (decide_eq_false (by omega))) <| G_nil) ?_
      refine G_if0 rfl (G_skip (G_pop ?_))
      refine G_seq ?_
      by_cases hl : (digs u).length = (digs v).length
      · refine G_run hN (G_v rfl rfl <| G_c rfl rfl (nat_Nat_digits_ans hN _ _) <| G_v rfl rfl <| G_v rfl rfl <| G_c rfl rfl (nat_Nat_digits_ans hN _ _) <| G_v rfl rfl <| G_v rfl (g_bool (b := false) rfl (by simp only [hl]; simp)) <| G_nil) ?_
        refine G_if0 rfl (G_skip (G_pop ?_))
        have hu0 : 0 < u := by
          rcases Nat.eq_zero_or_pos u with rfl | h
          · rw [(digs_zero_iff 0).2 rfl] at hl; omega
          · exact h
        refine G_run hN (G_v rfl rfl <| G_v rfl rfl <| G_c rfl rfl (nat_shifts_ans hN u v i1 i2 hu0 h0 _) <| G_v rfl rfl <| G_nil) ?_
        refine G_ret (LP_ret (G_end rfl ⟨?_, rfl⟩))
        rw [← i3]; rfl
      · refine G_run hN (G_v rfl rfl <| G_c rfl rfl (nat_Nat_digits_ans hN _ _) <| G_v rfl rfl <| G_v rfl rfl <| G_c rfl rfl (nat_Nat_digits_ans hN _ _) <| G_v rfl rfl <| G_v rfl (g_bool (b := true) rfl (by simp; omega)) <| G_nil) ?_
        refine G_if1 rfl ?_
        refine G_run hN (G_v rfl rfl <| G_v rfl rfl <| G_c rfl rfl (nat_Nat_Div_ans hN u v i1 i2 h0 _) <| G_v rfl rfl <| G_v rfl rfl <| G_v rfl rfl <| G_v rfl rfl <| G_v rfl rfl <| G_v rfl rfl <| G_v rfl rfl <| G_nil) ?_
        refine G_run hN (G_v rfl rfl <| G_v rfl rfl <| G_v rfl rfl <| G_v rfl rfl <| G_nil) ?_
        refine G_exit (G_pops (G_popx ?_))
        exact G_again (v, u % v) ⟨i2, i2.le (Nat.le_of_lt (Nat.mod_lt _ h0)), by rw [← i3, Nat.gcd_comm u v, Nat.gcd_rec v u]; exact Nat.gcd_comm _ _⟩ (Nat.mod_lt _ h0) (M1 rfl <| M1 rfl M0) (Heap.Sub.refl H)
end Go.Eng
end
