import Derived.Test.YtekfcbeballilaaGreatDoorNb
section
namespace Go.Eng
open Go Go.RowKit Go.Proofs
set_option maxHeartbeats 1000000
set_option maxRecDepth 10000
section
variable {X : ExtF} {Y : LiesF}
theorem mixed : (cz X Y).P.follows .mixedOrders = true := rfl
theorem nat_common_ans (hN : CxOk (cz X Y)) (a b : Nat) (ha : a < 18446744073709551616) (hb : b < 18446744073709551616) (H : Heap) : Ans (cz X Y) F.nat_common [.int .u64 a, .int .u64 b] H fun x K => x = .int .u64 (Nat.gcd a b : Nat) ∧ K = H := by
  refine Ans_free gl0_free (Imp.refl _) rfl ?_ H
  refine G_body hN (fn := B.nat_common) (sz := 12) rfl rfl rfl rfl rfl ?_
  refine G_run hN (G_v rfl rfl <| G_nil) ?_
  refine G_mid (α := Unit) (fun _ => True) (fun _ => [(0, .int .u64 (Nat.gcd a b : Nat))]) (fun _ => H0) ?_ ?_
  · refine G_block ?_
    refine G_loop (α := Nat × Nat) (fun x => Nat.gcd x.1 x.2 = Nat.gcd a b ∧ x.1 < 18446744073709551616 ∧ x.2 < 18446744073709551616) (fun x => x.2) (fun x => [(0, .int .u64 (x.1 : Nat)), (1, .int .u64 (x.2 : Nat))]) (fun _ => H0)
      (a, b) ⟨rfl, ha, hb⟩ (M1 rfl <| M1 rfl M0) (Heap.Sub.refl _) fun ⟨u, v⟩ ⟨i1, i2, i3⟩ => ?_
    simp only at i1 i2 i3
    refine G_seq ?_
    refine G_run hN (G_v rfl rfl <| G_v rfl rfl <| G_nil) ?_
    refine G_if rfl (fun hc => ?_) (fun hc => ?_)
    · have hv : 0 < v := by have := bne_iff_ne.1 hc; simp only at this; omega
      refine G_skip (G_pop (G_block ?_))
      refine G_draw1 hN mixed (by rfl) (D_q rfl rfl rfl <| D_q rfl rfl rfl <| D_q rfl rfl rfl <| D_q rfl rfl (g_rem64 (n := u) (d := v) rfl rfl hv) <| D_q rfl rfl rfl <| D_q rfl rfl rfl <| D_nil) ?_
      refine G_popb (G_again (v, u % v) ⟨?_, i3, ?_⟩ (Nat.mod_lt _ hv) (M1 rfl <| M1 rfl M0) (Heap.Sub.refl _))
      · rw [← i1, Nat.gcd_comm u v, Nat.gcd_rec v u]
        exact Nat.gcd_comm _ _
      · have := Nat.mod_lt u hv
        simp only; omega
    · have hv : v = 0 := by have := bne_eq_false_iff_eq.1 hc; simp only at this; omega
      refine G_exit (G_pops (G_leave (G_popx (G_done () trivial (M2 rfl ?_ M0) (Heap.Sub.refl _)))))
      rw [← i1, hv, Nat.gcd_zero_right]
  · intro _ _
    refine G_run hN (G_v rfl rfl <| G_v rfl rfl <| G_nil) ?_
    exact G_ret (G_end rfl (.int _ _))
/-- Digits divided by a small number. -/
theorem short_step {v y rest d P : Nat} (h : v * y + rest = P) : ((rest * BB + d) / y + BB * v) * y + (rest * BB + d) % y = d + BB * P := by
  have e : y * ((rest * BB + d) / y) + (rest * BB + d) % y = rest * BB + d := Nat.div_add_mod _ _
  subst h
  generalize (rest * BB + d) / y = p at *
  generalize (rest * BB + d) % y = q at *
  grind
theorem nat_short_isl (hN : CxOk (cz X Y)) {l : List Nat} (hl : Dg l) (hb : l.length ≤ 1099511627776) (y : Nat) (hy : 0 < y) (hyb : y ≤ BB) (H : Heap) : Ans (cz X Y) F.nat_short [.isl (l.map u32) l.length, .int .u64 y] H fun x K => x = .tuple [.slice H.nx 0 l.length l.length true 1, .int .u64 (val l % y : Nat)] ∧ K = H.alloc (.cells ((pdig (val l / y) l.length).map u32)) := by
  generalize hn : l.length = n at *
  have hyb' : y ≤ 4294967296 := hyb
  refine G_body hN (fn := B.nat_short) (sz := 39) rfl rfl rfl rfl rfl ?_
  refine G_run hN (G_v rfl rfl <| G_v rfl rfl <| G_nil) ?_
  refine G_run hN (G_v rfl rfl <| G_v rfl rfl <| G_v rfl (g_makeu n rfl rfl rfl rfl rfl rfl rfl rfl rfl (by omega)) <| G_v rfl rfl <| G_nil) ?_
  refine G_run hN (G_v rfl rfl <| G_nil) ?_
  refine G_mid (α := Unit) (fun _ => True) (fun _ => [(6, .slice H.nx 0 n n true 1), (7, .int .u64 (val l % y : Nat))]) (fun _ => H.alloc (.cells ((pdig (val l / y) n).map u32))) ?_ ?_
  · refine G_run hN (G_v rfl rfl <| G_v rfl rfl <| G_v rfl (g_int (b := (n : Int) - 1) rfl (wi64 rfl (by omega) (by omega))) <| G_v rfl rfl <| G_nil) ?_
    refine G_block ?_
    refine G_loop (α := Nat × List Nat × Nat) (fun x => x.1 ≤ n ∧ x.2.1.length = n ∧ Dg x.2.1 ∧ x.2.2 < y ∧ val (x.2.1.drop x.1) * y + x.2.2 = val (l.drop x.1)) (fun x => x.1) (fun x => [(0, .isl (l.map u32) n), (1, .int .u64 y), (6, .slice H.nx 0 n n true 1), (7, .int .u64 (x.2.2 : Nat)), (8, .int .i64 ((x.1 : Int) - 1))]) (fun x => H.alloc (.cells (x.2.1.map u32)))
      (n, List.replicate n 0, 0) ⟨Nat.le_refl _, by simp, Dg.replicate _, hy, by simp only; rw [List.drop_of_length_le (by simp), List.drop_of_length_le (by omega)]; simp [val]⟩ (M1 rfl <| M1 rfl <| M1 rfl <| M1 rfl <| M1 rfl M0) (Heap.Sub.refl _) fun ⟨i, q, rest⟩ ⟨i1, i2, i3, i4, i5⟩ => ?_
    simp only at i1 i2 i3 i4 i5
    refine G_seq ?_
    refine G_run hN (G_v rfl rfl <| G_v rfl rfl <| G_nil) ?_
    refine G_if rfl (fun hc => ?_) (fun hc => ?_)
    · obtain ⟨j, rfl⟩ : ∃ j, i = j + 1 := ⟨i - 1, by have := of_decide_eq_true hc; simp only at this; omega⟩
      have hD : l.getD j 0 < 4294967296 := hl.get j
      have hrb : rest * 4294967296 + l.getD j 0 < y * 4294967296 := by
        have : (rest + 1) * 4294967296 ≤ y * 4294967296 := Nat.mul_le_mul_right _ i4
        omega
      generalize hde : l.getD j 0 = d at *
      have hor : rest * 4294967296 ||| d = rest * 4294967296 + d := by rw [Nat.or_comm, or_add (k := 32) (by simpa using hD), Nat.add_comm]
      generalize hR : rest * BB + d = R
      have hR' : rest * 4294967296 + d = R := hR
      rw [hR'] at hor hrb
      have hq : R / y < BB := by rw [Nat.div_lt_iff_lt_mul hy]; simp only [BB]; omega
      refine G_skip (G_pop ?_)
      refine G_seq (G_block ?_)
      refine G_run hN (G_v rfl rfl <| G_v rfl (g_shl (s := 32) (n := rest) (p := 4294967296) rfl rfl rfl (by decide) rfl (by omega)) <| G_v rfl rfl <| G_v rfl rfl <| G_v rfl (g_idxi1 j rfl rfl rfl rfl rfl (by simp only; omega) (by omega)) <| G_v rfl (g_to (g_loadi rfl rfl rfl rfl (by omega)) (y := .int .u32 (d : Nat)) (by rw [hde])) <|
        G_v rfl (g_int (b := (d : Nat)) rfl (w64 rfl (by omega))) <| G_v rfl (g_int (b := (R : Nat)) rfl (by rw [or64 (by omega) (by omega), hor])) <| G_v rfl rfl <| G_nil) ?_
      refine G_run hN (G_v rfl rfl <| G_v rfl rfl <| G_v rfl rfl <| G_v rfl rfl <| G_v rfl (g_quo64 (n := R) (d := y) rfl rfl hy (by omega)) <| G_v rfl (g_int (b := ((R / y : Nat) : Int)) rfl (by rw [wm32 (b := R / y) rfl, Nat.mod_eq_of_lt hq])) <|
        G_v rfl (g_idx1 j rfl rfl rfl rfl rfl (by simp only; omega) (by omega)) <| G_s (g_storeu (l := q) rfl rfl rfl rfl (by simp only [Heap.alloc, T.get_set_same]) (by omega)) <| G_nil) ?_
      refine G_run1 hN (G_v rfl rfl <| G_v rfl rfl <| G_v rfl (g_rem64 (n := R) (d := y) rfl rfl hy) <| G_v rfl rfl <| G_nil) ?_
      refine G_popb (G_pop ?_)
      refine G_run1 hN (G_v rfl rfl <| G_v rfl (g_int (b := (j : Int) - 1) rfl (wi64 (by simp only; omega) (by omega) (by omega))) <| G_v rfl rfl <| G_nil) ?_
      refine G_again (j, q.set (0 + j) (R / y), R % y) ⟨by simp only; omega, by simp only [List.length_set]; omega, i3.set hq _, Nat.mod_lt _ hy, ?_⟩ (by simp only; omega)
        (M1 rfl <| M1 rfl <| M1 rfl <| M1 rfl <| M1 rfl M0) (HS_put _ _ _)
      simp only [Nat.zero_add]
      rw [drop_getD (q.set j _) (by simp; omega), getD_set (by omega), drop_set_lt _ (by omega), drop_getD l (by omega), val, val, hde]
      rw [← hR]
      exact short_step i5
    · have hi : i = 0 := by have := of_decide_eq_false hc; simp only at this; omega
      subst hi
      rw [List.drop_zero, List.drop_zero] at i5
      have e1 : val q = val l / y := by
        rw [← i5, Nat.mul_comm, Nat.mul_add_div hy, Nat.div_eq_of_lt i4, Nat.add_zero]
      have e2 : rest = val l % y := by
        rw [← i5, Nat.mul_comm, Nat.mul_add_mod, Nat.mod_eq_of_lt i4]
      refine G_exit (G_pops (G_leave (G_popx (G_done () trivial (M1 rfl <| M2 rfl (by rw [e2]) M0) ?_))))
      rw [← e1, ← i2, pdig_eq i3]
      exact Heap.Sub.refl _
  · intro _ _
    refine G_run hN (G_v rfl rfl <| G_v rfl rfl <| G_v rfl rfl <| G_v rfl rfl <| G_nil) ?_
    exact G_ret (G_end rfl ⟨rfl, rfl⟩)
end
end Go.Eng
end
section
namespace Go.Eng
open Go Go.RowKit Go.Proofs
theorem HS_put2 (H : Heap) (id : Nat) (ob ob' : Ob) : Heap.Sub (H.put id ob') ((H.put id ob).put id ob') := by
  refine ⟨Nat.le_refl _, fun j o h => ⟨o, ?_, ObSub.refl o⟩, fun j p h => h⟩
  simp only [Heap.put, T.get_set] at h ⊢
  split
  · rename_i hi; rw [if_pos hi] at h; exact h
  · rename_i hi; rw [if_neg hi] at h; exact h
theorem HS_put1 {H : Heap} {id : Nat} {ob : Ob} (hg : H.t.get id = some ob) : Heap.Sub (H.put id ob) H := by
  refine ⟨Nat.le_refl _, fun j o h => ⟨o, ?_, ObSub.refl o⟩, fun j p h => h⟩
  simp only [Heap.put, T.get_set] at h
  split at h
  · rename_i hi; subst hi; cases h; exact hg
  · exact h
theorem put_get (H : Heap) (id : Nat) (ob : Ob) : (H.put id ob).t.get id = some ob := by simp only [Heap.put, T.get_set_same]
theorem aconv_int {D : Tab} {P : Program} {H : Heap} {s d : TypeId} {ds : TypeDesc} {k k' : IntKind} {n n' : Int} (hs : D.und s = some ds) (hd : D.und d = some (.int k)) (h : k.wrap n = n') : aConv D P H s d (.int k' n) = some (.int k n') := by
  simp only [aConv, hs, hd, h]
theorem drop_set_add (L : List Nat) (off i d : Nat) : (L.set (off + i) d).drop off = (L.drop off).set i d := by
  rw [List.drop_set, if_neg (by omega)]; congr 1; omega
theorem take_set_ge (L : List Nat) {off i d : Nat} (h : off ≤ i) : (L.set i d).take off = L.take off := by
  rw [List.take_set]
  exact List.set_eq_of_length_le (by simp; omega)
theorem drop_eq_getD {L L' : List Nat} {i j : Nat} (h : L'.drop i = L.drop i) (hj : i ≤ j) : L'.getD j 0 = L.getD j 0 := by
  have : (L'.drop i).getD (j - i) 0 = (L.drop i).getD (j - i) 0 := by rw [h]
  rw [getD_drop, getD_drop, show i + (j - i) = j by omega] at this
  exact this
theorem drop_more {L L' : List Nat} {i j : Nat} (h : L'.drop i = L.drop i) (hj : i ≤ j) : L'.drop j = L.drop j := by
  have : (L'.drop i).drop (j - i) = (L.drop i).drop (j - i) := by rw [h]
  rw [List.drop_drop, List.drop_drop, show i + (j - i) = j by omega] at this
  exact this
theorem seg_final {L L' : List Nat} {off n R : Nat} (h1 : L'.length = L.length) (h2 : L'.take off = L.take off) (h3 : L'.drop (off + n) = L.drop (off + n)) (hd : Dg L') (hv : val ((L'.drop off).take n) = R) (hle : off + n ≤ L.length) : L' = L.take off ++ pdig R n ++ L.drop (off + n) := by
  have e1 : (L'.drop off).take n = pdig R n := by
    have hl : ((L'.drop off).take n).length = n := by simp; omega
    have := pdig_eq ((hd.drop off).take n)
    rw [hl, hv] at this
    exact this.symm
  rw [← e1, ← h2, ← h3, ← List.drop_drop, List.append_assoc, List.take_append_drop, List.take_append_drop]
/-- The first guess is not too small. -/
theorem knuth_ge {U V TWO v1 P q : Nat} (hU : U < (TWO + 1) * P) (hV : v1 * P ≤ V) (hv : 0 < v1) (hq : TWO / v1 ≤ q) : U / V ≤ q := by
  rcases Nat.eq_zero_or_pos P with rfl | hP
  · simp at hU
  have hV0 : 0 < V := Nat.lt_of_lt_of_le (Nat.mul_pos hv hP) hV
  have h1 : TWO + 1 ≤ (TWO / v1 + 1) * v1 := by
    have := Nat.lt_div_mul_add (a := TWO) hv
    have e := Nat.div_add_mod TWO v1
    have := Nat.mod_lt TWO hv
    rw [Nat.add_mul, Nat.one_mul, Nat.mul_comm]
    omega
  have h2 : U < (TWO / v1 + 1) * V := by
    calc U < (TWO + 1) * P := hU
      _ ≤ (TWO / v1 + 1) * v1 * P := Nat.mul_le_mul_right _ h1
      _ = (TWO / v1 + 1) * (v1 * P) := Nat.mul_assoc _ _ _
      _ ≤ (TWO / v1 + 1) * V := Nat.mul_le_mul_left _ hV
  have := (Nat.div_lt_iff_lt_mul hV0).2 h2
  omega
/-- While the second digit says that the guess is too great it is. -/
theorem knuth_down {U V TWO v1 v2 u2 P q r B : Nat} (hU : U < (TWO * B + u2 + 1) * P) (hV : (v1 * B + v2) * P ≤ V) (hq : q * v1 + r = TWO) (hr : r * B + u2 < q * v2) : U / V < q := by
  have h1 : TWO * B + u2 + 1 ≤ q * (v1 * B + v2) := by
    rw [← hq, Nat.add_mul, Nat.mul_add, Nat.mul_assoc]; omega
  have h2 : U < q * V := by
    calc U < (TWO * B + u2 + 1) * P := hU
      _ ≤ q * (v1 * B + v2) * P := Nat.mul_le_mul_right _ h1
      _ = q * ((v1 * B + v2) * P) := Nat.mul_assoc _ _ _
      _ ≤ q * V := Nat.mul_le_mul_left _ hV
  rcases Nat.eq_zero_or_pos V with rfl | hV0
  · simp at h2
  · exact (Nat.div_lt_iff_lt_mul hV0).2 h2
/-- When the second digit has nothing against it, the guess is at most one too great. -/
theorem knuth_le {U V TWO v1 v2 u2 P q r B W : Nat} (hU : (TWO * B + u2) * P ≤ U) (hV : V = (v1 * B + v2) * P + W) (hW : W < P) (hv : 0 < v1) (hqB : q < B) (hq : q * v1 + r = TWO) (hr : q * v2 ≤ r * B + u2) : q ≤ U / V + 1 := by
  have h1 : q * (v1 * B + v2) ≤ TWO * B + u2 := by
    rw [← hq, Nat.add_mul, Nat.mul_add, Nat.mul_assoc]; omega
  have h2 : q * ((v1 * B + v2) * P) ≤ U := by
    rw [← Nat.mul_assoc]
    exact Nat.le_trans (Nat.mul_le_mul_right _ h1) hU
  have h3 : q * W ≤ B * P := Nat.mul_le_mul (by omega) (by omega)
  have h4 : B * P ≤ V := by
    rw [hV, Nat.add_mul]
    have : 1 * (B * P) ≤ v1 * (B * P) := Nat.mul_le_mul_right _ hv
    rw [Nat.one_mul, ← Nat.mul_assoc] at this
    omega
  have hV0 : 0 < V := by
    rcases Nat.eq_zero_or_pos V with h | h
    · rw [h] at h4
      have : 0 < B * P := Nat.mul_pos (by omega) (by omega)
      omega
    · exact h
  have h5 : q * V ≤ U + V := by
    rw [hV, Nat.mul_add, ← hV]
    omega
  rcases Nat.eq_zero_or_pos q with rfl | hq0
  · exact Nat.zero_le _
  · have : (q - 1) * V ≤ U := by rw [Nat.sub_mul, Nat.one_mul]; omega
    have := (Nat.le_div_iff_mul_le hV0).2 this
    omega
theorem sub_step {p r q c A y w P c1 d w' low : Nat} (h : p + q * r = A + P * (c + w)) (a : Nat) (hc : c1 = c + q * y) (hl : low = c1 % BB) (e : d + (low + w) = a + BB * w') : p + P * d + q * (r + P * y) = A + P * a + P * BB * (c1 / BB + w') := by
  have e2 : c1 % BB + BB * (c1 / BB) = c1 := Nat.mod_add_div _ _
  rw [← hl] at e2
  generalize c1 / BB = x at *
  subst hc
  have : P * (d + (low + w) + BB * x) = P * (a + BB * w' + BB * x) := by rw [e]
  have h3 : P * (low + BB * x) = P * (c + q * y) := by rw [e2]
  grind
end Go.Eng
end
section
namespace Go.Eng
open Go Go.RowKit Go.Proofs
set_option maxHeartbeats 4000000
set_option maxRecDepth 10000
section
variable {X : ExtF} {Y : LiesF}
theorem nat_step_ans (hN : CxOk (cz X Y)) {L bd : List Nat} {id off n cap : Nat} {ex : Bool} {H : Heap} (hg : H.t.get id = some (.cells (L.map u32))) (dL : Dg L) (dB : Dg bd) (hn : bd.length = n) (h2 : 2 ≤ n) (hle : off + (n + 1) ≤ L.length) (hb : L.length ≤ 10995116277760)
    (hv1 : 0 < bd.getD (n - 1) 0) (hU : val ((L.drop off).take (n + 1)) < BB * val bd) :
    Ans (cz X Y) F.nat_step [.slice id off (n + 1) cap ex 1, .isl (bd.map u32) n] H fun x K => x = .int .u32 (val ((L.drop off).take (n + 1)) / val bd : Nat) ∧
      K = H.put id (.cells ((L.take off ++ pdig (val ((L.drop off).take (n + 1)) % val bd) (n + 1) ++ L.drop (off + (n + 1))).map u32)) := by
  generalize hUe : val ((L.drop off).take (n + 1)) = U at *
  generalize hVe : val bd = V at *
  generalize hun : L.getD (off + n) 0 = un
  generalize hu1 : L.getD (off + (n - 1)) 0 = u1
  generalize hu2 : L.getD (off + (n - 2)) 0 = u2
  generalize hv1e : bd.getD (n - 1) 0 = v1 at *
  generalize hv2e : bd.getD (n - 2) 0 = v2
  have bn : un < 4294967296 := hun ▸ dL.get _
  have b1 : u1 < 4294967296 := hu1 ▸ dL.get _
  have b2 : u2 < 4294967296 := hu2 ▸ dL.get _
  have c1 : v1 < 4294967296 := hv1e ▸ dB.get _
  have c2 : v2 < 4294967296 := hv2e ▸ dB.get _
  generalize hT : un * 4294967296 + u1 = TWO
  have bT : TWO < 18446744073709551616 := by omega
  have eT : TWO = un * BB + u1 := by simp only [BB]; omega
  -- the numbers by their tops
  have dD := dL.drop off
  have eU : ∃ U0, U0 < BB ^ (n - 2) ∧ U = U0 + (TWO * BB + u2) * BB ^ (n - 2) := by
    refine ⟨val ((L.drop off).take (n - 2)), val_mono_pow (dD.take _) (by simp; omega), ?_⟩
    rw [← hUe, show n + 1 = (n - 2) + 1 + 1 + 1 by omega, val_take_succ, val_take_succ, val_take_succ, getD_drop, getD_drop, getD_drop, hu2, show off + (n - 2 + 1) = off + (n - 1) by omega, hu1, show off + (n - 2 + 1 + 1) = off + n by omega, hun, eT, Nat.pow_succ, Nat.pow_succ]
    grind
  have eV : ∃ V0, V0 < BB ^ (n - 2) ∧ V = (v1 * BB + v2) * BB ^ (n - 2) + V0 := by
    refine ⟨val (bd.take (n - 2)), val_mono_pow (dB.take _) (by simp; omega), ?_⟩
    have := val_take_all bd (n := n) (by omega)
    rw [← hVe, ← this]
    conv => lhs; rw [show n = (n - 2) + 1 + 1 by omega]
    rw [val_take_succ, val_take_succ, hv2e, show n - 2 + 1 = n - 1 by omega, hv1e, show n - 1 = (n - 2) + 1 by omega, Nat.pow_succ]
    grind
  obtain ⟨U0, hU0, eU⟩ := eU
  obtain ⟨V0, hV0, eV⟩ := eV
  have hP : 0 < BB ^ (n - 2) := Nat.pow_pos (by decide)
  have hPn : BB ^ (n - 1) = BB ^ (n - 2) * BB := by rw [← Nat.pow_succ]; congr 1; omega
  have kU1 : U < (TWO + 1) * BB ^ (n - 1) := by
    rw [eU, hPn]
    have : (u2 + 1) * BB ^ (n - 2) ≤ BB * BB ^ (n - 2) := Nat.mul_le_mul_right _ b2
    grind
  have kV1 : v1 * BB ^ (n - 1) ≤ V := by rw [eV, hPn]; grind
  have kU2 : U < (TWO * BB + u2 + 1) * BB ^ (n - 2) := by rw [eU]; grind
  have kU3 : (TWO * BB + u2) * BB ^ (n - 2) ≤ U := by rw [eU]; exact Nat.le_add_left _ _
  have kV2 : (v1 * BB + v2) * BB ^ (n - 2) ≤ V := by rw [eV]; exact Nat.le_add_right _ _
  have hVp : 0 < V := by
    have : 0 < BB ^ (n - 1) := Nat.pow_pos (by decide)
    have := Nat.mul_pos hv1 this
    omega
  have hVn : V < BB ^ n := by rw [← hVe]; exact val_mono_pow dB (by omega)
  have hQ : U / V < BB := (Nat.div_lt_iff_lt_mul hVp).2 hU
  refine G_body hN (fn := B.nat_step) (sz := 171) rfl rfl rfl rfl rfl ?_
  refine G_run hN (G_v rfl rfl <| G_nil) ?_
  refine G_run hN (G_v rfl rfl <| G_v rfl rfl <| G_v rfl rfl <| G_nil) ?_
  have idx : ∀ j, j ≤ n → off + j < L.length := fun j hj => by omega
  refine G_draw hN mixed (by rfl) (D_q rfl rfl rfl <| D_q rfl rfl rfl <| D_q rfl rfl (g_idx1 n rfl rfl rfl rfl rfl rfl (by omega)) <| D_q rfl rfl (g_to (g_loadu rfl hg rfl rfl rfl (idx n (by omega))) (y := .int .u32 (un : Nat)) (by rw [hun])) <| D_cv rfl rfl (aconv_int (n' := (un : Nat)) rfl rfl (w64 rfl (by omega))) <| D_q rfl rfl (g_shl (s := 32) (n := un) (p := 4294967296) rfl rfl rfl (by decide) rfl (by omega)) <|
    D_q rfl rfl rfl <| D_q rfl rfl rfl <| D_q rfl rfl (g_int (b := ((n - 1 : Nat) : Int)) rfl (wi64 (by omega) (by omega) (by omega))) <| D_q rfl rfl (g_idx1 (n - 1) rfl rfl rfl rfl rfl rfl (by omega)) <| D_q rfl rfl (g_to (g_loadu rfl hg rfl rfl rfl (idx (n - 1) (by omega))) (y := .int .u32 (u1 : Nat)) (by rw [hu1])) <| D_cv rfl rfl (aconv_int (n' := (u1 : Nat)) rfl rfl (w64 rfl (by omega))) <|
    D_q rfl rfl (g_int (b := (TWO : Nat)) rfl (by rw [or64 (by omega) (by omega), Nat.or_comm, or_add (k := 32) (by simpa using b1)]; simp only [Nat.reducePow]; omega)) <| D_q rfl rfl rfl <| D_nil) ?_
  -- the guess
  have hg0 : TWO / v1 * v1 ≤ TWO := Nat.div_mul_le_self _ _
  have kg := knuth_ge (q := TWO / v1) kU1 kV1 hv1 (Nat.le_refl _)
  have hg0' : TWO / v1 < 18446744073709551616 := Nat.lt_of_le_of_lt (Nat.div_le_self _ _) bT
  generalize hgd : TWO / v1 = g0 at hg0 kg hg0'
  generalize hq0 : min g0 4294967295 = q0
  have hq0g : q0 ≤ g0 := by omega
  have hq0b : q0 < 4294967296 := by omega
  have hq0m : q0 * v1 ≤ TWO := Nat.le_trans (Nat.mul_le_mul_right _ hq0g) hg0
  have hQ' : U / V < 4294967296 := hQ
  have hq0Q : U / V ≤ q0 := by omega
  refine G_run hN (G_v rfl rfl <| G_v rfl rfl <| G_v rfl rfl <| G_v rfl (g_int (b := ((n - 1 : Nat) : Int)) rfl (wi64 (by omega) (by omega) (by omega))) <| G_v rfl (g_idxi1 (n - 1) rfl rfl rfl rfl rfl rfl (by omega)) <| G_v rfl (g_to (g_loadi rfl rfl rfl rfl (by omega)) (y := .int .u32 (v1 : Nat)) (by rw [hv1e])) <| G_v rfl (g_int (b := (v1 : Nat)) rfl (w64 rfl (by omega))) <|
    G_v rfl (g_to (g_quo64 (n := TWO) (d := v1) rfl rfl hv1 bT) (y := .int .u64 (g0 : Nat)) (by rw [hgd])) <| G_v rfl (g_int (b := (q0 : Nat)) rfl (by split <;> omega)) <| G_v rfl rfl <| G_nil) ?_
  refine G_run hN (G_v rfl rfl <| G_v rfl rfl <| G_v rfl rfl <| G_v rfl rfl <| G_v rfl (g_int (b := ((n - 1 : Nat) : Int)) rfl (wi64 (by omega) (by omega) (by omega))) <| G_v rfl (g_idxi1 (n - 1) rfl rfl rfl rfl rfl rfl (by omega)) <| G_v rfl (g_to (g_loadi rfl rfl rfl rfl (by omega)) (y := .int .u32 (v1 : Nat)) (by rw [hv1e])) <| G_v rfl (g_int (b := (v1 : Nat)) rfl (w64 rfl (by omega))) <|
    G_v rfl (g_int (b := ((q0 * v1 : Nat) : Int)) rfl (w64 (by simp) (by omega))) <| G_v rfl (g_int (b := ((TWO - q0 * v1 : Nat) : Int)) rfl (w64 (by omega) (by omega))) <| G_v rfl rfl <| G_nil) ?_
  refine G_mid (α := Nat) (fun q => U / V ≤ q ∧ q ≤ U / V + 1 ∧ q < 4294967296) (fun q => [(0, .slice id off (n + 1) cap ex 1), (1, .isl (bd.map u32) n), (5, .int .i64 (n : Nat)), (7, .int .u64 (q : Nat))]) (fun _ => H) (G_block ?_) ?_
  · refine G_loop (α := Nat × Nat) (fun x => x.1 * v1 + x.2 = TWO ∧ U / V ≤ x.1 ∧ x.1 < 4294967296) (fun x => x.1) (fun x => [(0, .slice id off (n + 1) cap ex 1), (1, .isl (bd.map u32) n), (5, .int .i64 (n : Nat)), (7, .int .u64 (x.1 : Nat)), (8, .int .u64 (x.2 : Nat))]) (fun _ => H)
      (q0, TWO - q0 * v1) ⟨by simp only; omega, hq0Q, hq0b⟩ (M1 rfl <| M1 rfl <| M1 rfl <| M1 rfl <| M1 rfl M0) (Heap.Sub.refl H) fun ⟨q, r⟩ ⟨i1, i2, i3⟩ => ?_
    simp only at i1 i2 i3
    have hrT : r < 18446744073709551616 := by omega
    refine G_seq ?_
    rcases Nat.lt_or_ge 4294967295 r with hr | hr
    · refine G_draw hN mixed (by rfl) (D_q rfl rfl rfl <| D_q rfl rfl (g_bool (b := false) rfl (decide_eq_false (by simp only; omega))) <| D_q rfl rfl rfl <| D_n rfl rfl rfl rfl <| D_n rfl rfl rfl rfl <| D_n rfl rfl rfl rfl <| D_n rfl rfl rfl rfl <| D_n rfl rfl rfl rfl <| D_n rfl rfl rfl rfl <| D_n rfl rfl rfl rfl <| D_n rfl rfl rfl rfl <| D_n rfl rfl rfl rfl <| D_n rfl rfl rfl rfl <| D_n rfl rfl rfl rfl <| D_n rfl rfl rfl rfl <| D_n rfl rfl rfl rfl <| D_n rfl rfl rfl rfl <| D_n rfl rfl rfl rfl <| D_n rfl rfl rfl rfl <| D_n rfl rfl rfl rfl <| D_n rfl rfl rfl rfl <| D_q rfl rfl rfl <| D_nil) ?_
      refine G_if0 rfl (G_exit (G_pops (G_leave (G_popx (G_done q ⟨i2, ?_, i3⟩ (M1 rfl <| M1 rfl <| M1 rfl <| M1 rfl M0) (Heap.Sub.refl H))))))
      refine knuth_le (B := BB) kU3 eV hV0 hv1 i3 i1 ?_
      have h1 : q * v2 ≤ BB * BB := Nat.mul_le_mul (Nat.le_of_lt i3) (Nat.le_of_lt c2)
      have h2 : BB * BB ≤ r * BB := Nat.mul_le_mul_right _ hr
      omega
    · have hqv : q * v2 ≤ 18446744065119617025 := by
        have := Nat.mul_le_mul (show q ≤ 4294967295 by omega) (show v2 ≤ 4294967295 by omega)
        omega
      generalize hqve : q * v2 = qv at hqv
      refine G_draw hN mixed (by rfl) (D_q rfl rfl rfl <| D_q rfl rfl (g_bool (b := true) rfl (decide_eq_true (by simp only; omega))) <| D_q rfl rfl rfl <| D_qg rfl rfl rfl rfl rfl <| D_qg rfl rfl rfl rfl rfl <| D_qg rfl rfl rfl rfl rfl <| D_qg rfl rfl rfl rfl (g_int (b := ((n - 2 : Nat) : Int)) rfl (wi64 (by omega) (by omega) (by omega))) <| D_qg rfl rfl rfl rfl (g_idxi1 (n - 2) rfl rfl rfl rfl rfl rfl (by omega)) <|
        D_qg rfl rfl rfl rfl (g_to (g_loadi rfl rfl rfl rfl (by omega)) (y := .int .u32 (v2 : Nat)) (by rw [hv2e])) <| D_cvg rfl rfl rfl rfl (aconv_int (n' := (v2 : Nat)) rfl rfl (w64 rfl (by omega))) <| D_qg rfl rfl rfl rfl (g_int (b := (qv : Nat)) rfl (w64 (by simp only [← hqve]; simp) (by omega))) <| D_qg rfl rfl rfl rfl rfl <| D_qg rfl rfl rfl rfl (g_shl (s := 32) (n := r) (p := 4294967296) rfl rfl rfl (by decide) rfl (by omega)) <|
        D_qg rfl rfl rfl rfl rfl <| D_qg rfl rfl rfl rfl rfl <| D_qg rfl rfl rfl rfl (g_int (b := ((n - 2 : Nat) : Int)) rfl (wi64 (by omega) (by omega) (by omega))) <| D_qg rfl rfl rfl rfl (g_idx1 (n - 2) rfl rfl rfl rfl rfl rfl (by omega)) <| D_qg rfl rfl rfl rfl (g_to (g_loadu rfl hg rfl rfl rfl (idx (n - 2) (by omega))) (y := .int .u32 (u2 : Nat)) (by rw [hu2])) <| D_cvg rfl rfl rfl rfl (aconv_int (n' := (u2 : Nat)) rfl rfl (w64 rfl (by omega))) <|
        D_qg rfl rfl rfl rfl (g_int (b := ((r * 4294967296 + u2 : Nat) : Int)) rfl (by rw [or64 (by omega) (by omega), Nat.or_comm, or_add (k := 32) (by simpa using b2), Nat.add_comm])) <| D_qg rfl rfl rfl rfl rfl <| D_q rfl rfl rfl <| D_nil) ?_
      refine G_if rfl (fun hc => ?_) (fun hc => ?_)
      · have hlt : r * 4294967296 + u2 < qv := by have := of_decide_eq_true hc; omega
        have hlt' : r * BB + u2 < q * v2 := by rw [hqve]; exact hlt
        have hq1 : 0 < q := by
          rcases Nat.eq_zero_or_pos q with h | h
          · rw [h] at hlt'; omega
          · exact h
        refine G_skip (G_pop (G_block ?_))
        refine G_run hN (G_v rfl rfl <| G_v rfl (g_int (b := ((q - 1 : Nat) : Int)) rfl (w64 (by simp only; omega) (by omega))) <| G_v rfl rfl <| G_nil) ?_
        refine G_run1 hN (G_v rfl rfl <| G_v rfl rfl <| G_v rfl rfl <| G_v rfl (g_int (b := ((n - 1 : Nat) : Int)) rfl (wi64 (by omega) (by omega) (by omega))) <| G_v rfl (g_idxi1 (n - 1) rfl rfl rfl rfl rfl rfl (by omega)) <| G_v rfl (g_to (g_loadi rfl rfl rfl rfl (by omega)) (y := .int .u32 (v1 : Nat)) (by rw [hv1e])) <| G_v rfl (g_int (b := (v1 : Nat)) rfl (w64 rfl (by omega))) <|
          G_v rfl (g_int (b := ((r + v1 : Nat) : Int)) rfl (w64 (by simp only; omega) (by omega))) <| G_v rfl rfl <| G_nil) ?_
        have := knuth_down (B := BB) kU2 kV2 i1 hlt'
        refine G_popb (G_again (q - 1, r + v1) ⟨?_, by simp only; omega, by simp only; omega⟩ (by simp only; omega) (M1 rfl <| M1 rfl <| M1 rfl <| M1 rfl <| M1 rfl M0) (Heap.Sub.refl H))
        simp only
        have e1 : q * v1 = (q - 1) * v1 + v1 := by rw [Nat.sub_mul, Nat.one_mul]; have := Nat.mul_le_mul_right v1 hq1; omega
        omega
      · have hlt : qv ≤ r * 4294967296 + u2 := by have := of_decide_eq_false hc; omega
        refine G_exit (G_pops (G_leave (G_popx (G_done q ⟨i2, ?_, i3⟩ (M1 rfl <| M1 rfl <| M1 rfl <| M1 rfl M0) (Heap.Sub.refl H)))))
        exact knuth_le (B := BB) kU3 eV hV0 hv1 i3 i1 (by rw [hqve]; exact hlt)
  intro q ⟨q1, q2, q3⟩
  refine G_run hN (G_v rfl rfl <| G_v rfl rfl <| G_nil) ?_
  have hsl : ∀ {L' : List Nat}, L'.length = L.length → ∀ j, j ≤ n → off + j < L'.length := fun h j hj => by omega
  refine G_mid (α := List Nat × Nat × Nat) (fun y => y.1.length = L.length ∧ Dg y.1 ∧ y.1.take off = L.take off ∧ y.1.drop (off + n) = L.drop (off + n) ∧ y.2.1 < BB ∧ y.2.2 < 2 ∧ val ((y.1.drop off).take n) + q * V = val ((L.drop off).take n) + BB ^ n * (y.2.1 + y.2.2))
    (fun y => [(0, .slice id off (n + 1) cap ex 1), (1, .isl (bd.map u32) n), (5, .int .i64 (n : Nat)), (7, .int .u64 (q : Nat)), (9, .int .u64 (y.2.1 : Nat)), (10, .int .i64 (-(y.2.2 : Nat)))]) (fun y => H.put id (.cells (y.1.map u32))) ?_ ?_
  · refine G_run hN (G_v rfl rfl <| G_v rfl rfl <| G_v rfl rfl <| G_nil) ?_
    refine G_block ?_
    refine G_loop (α := Nat × List Nat × Nat × Nat) (fun x => x.1 ≤ n ∧ x.2.1.length = L.length ∧ Dg x.2.1 ∧ x.2.1.take off = L.take off ∧ x.2.1.drop (off + x.1) = L.drop (off + x.1) ∧ x.2.2.1 < BB ∧ x.2.2.2 < 2 ∧ val ((x.2.1.drop off).take x.1) + q * val (bd.take x.1) = val ((L.drop off).take x.1) + BB ^ x.1 * (x.2.2.1 + x.2.2.2)) (fun x => n - x.1)
      (fun x => [(0, .slice id off (n + 1) cap ex 1), (1, .isl (bd.map u32) n), (5, .int .i64 (n : Nat)), (7, .int .u64 (q : Nat)), (9, .int .u64 (x.2.2.1 : Nat)), (10, .int .i64 (-(x.2.2.2 : Nat))), (82, .isl (bd.map u32) n), (83, .int .i64 (n : Nat)), (84, .int .i64 (x.1 : Nat))]) (fun x => H.put id (.cells (x.2.1.map u32)))
      (0, L, 0, 0) ⟨by omega, rfl, dL, rfl, rfl, by simp [BB], by simp, by simp [val]⟩ (M1 rfl <| M1 rfl <| M1 rfl <| M1 rfl <| M1 rfl <| M1 rfl <| M1 rfl <| M1 rfl <| M1 rfl M0) (HS_put1 hg) fun ⟨i, L', c, w⟩ ⟨i1, i2, i3, i4, i5, i6, i7, i8⟩ => ?_
    simp only at i1 i2 i3 i4 i5 i6 i7 i8
    refine G_run hN (G_v rfl rfl <| G_nil) ?_
    refine G_seq ?_
    refine G_if rfl (fun hc => ?_) (fun hc => ?_)
    · have hi : i < n := by have := of_decide_eq_true hc; simp only at this; omega
      generalize hae : L.getD (off + i) 0 = av
      have hae' : L'.getD (off + i) 0 = av := by rw [drop_eq_getD i5 (Nat.le_refl _)]; exact hae
      generalize hye : bd.getD i 0 = y
      have ba : av < 4294967296 := hae ▸ dL.get _
      have by_ : y < 4294967296 := hye ▸ dB.get _
      have i6' : c < 4294967296 := i6
      have hqy : q * y ≤ 18446744065119617025 := by
        have := Nat.mul_le_mul (show q ≤ 4294967295 by omega) (show y ≤ 4294967295 by omega)
        omega
      generalize hqye : q * y = qy at hqy
      generalize hce : c + qy = cc
      have hccb : cc < 18446744073709551616 := by omega
      have hlow : cc % BB < 4294967296 := Nat.mod_lt _ (by decide)
      generalize hlowe : cc % BB = low at hlow
      obtain ⟨d, w', e1, e2, e3, e4, e5⟩ := borrow _ _ _ ba hlow i7
      refine G_skip (G_pop ?_)
      refine G_seq (G_block ?_)
      refine G_run hN (G_v rfl rfl <| G_v rfl (g_idxi1 i rfl rfl rfl rfl rfl rfl hi) <| G_v rfl (g_to (g_loadi rfl rfl rfl rfl (by omega)) (y := .int .u32 (y : Nat)) (by rw [hye])) <| G_v rfl rfl <| G_v rfl rfl <| G_nil) ?_
      refine G_run hN (G_v rfl rfl <| G_v rfl rfl <| G_v rfl rfl <| G_v rfl (g_int (b := (y : Nat)) rfl (w64 rfl (by omega))) <| G_v rfl (g_int (b := (qy : Nat)) rfl (w64 (by rw [← hqye]; simp) (by omega))) <| G_v rfl (g_int (b := (cc : Nat)) rfl (w64 (by simp only; omega) (by omega))) <| G_v rfl rfl <| G_nil) ?_
      refine G_run hN (G_v rfl rfl <| G_v rfl rfl <| G_v rfl rfl <| G_v rfl (g_idx1 i rfl rfl rfl rfl rfl rfl (by omega)) <| G_v rfl (g_to (g_loadu (l := L') rfl (put_get _ _ _) rfl rfl rfl (hsl i2 i (by omega))) (y := .int .u32 (av : Nat)) (by rw [hae'])) <| G_v rfl (g_int (b := (av : Nat)) rfl (wi64 rfl (by omega) (by omega))) <|
        G_v rfl rfl <| G_v rfl (g_int (b := (low : Nat)) rfl (by rw [wm32 (b := cc) rfl, hlowe])) <| G_v rfl (g_int (b := (low : Nat)) rfl (wi64 rfl (by omega) (by omega))) <| G_v rfl (g_int (b := (av : Int) - low) rfl (wi64 rfl (by omega) (by omega))) <| G_v rfl (g_int (b := -(w : Int) + ((av : Int) - low)) rfl (wi64 rfl (by omega) (by omega))) <| G_v rfl rfl <| G_nil) ?_
      refine G_run hN (G_v rfl rfl <| G_v rfl rfl <| G_v rfl rfl <| G_v rfl (g_int rfl e4) <| G_v rfl (g_idx1 i rfl rfl rfl rfl rfl rfl (by omega)) <| G_s (g_storeu (l := L') rfl rfl rfl rfl (put_get _ _ _) (hsl i2 i (by omega))) <| G_nil) ?_
      refine G_run1 hN (G_v rfl rfl <| G_v rfl (g_shr (s := 32) (n := cc) (p := BB) rfl rfl rfl (by decide) rfl) <| G_v rfl rfl <| G_v rfl (g_int rfl e5) <| G_v rfl rfl <| G_v rfl rfl <| G_nil) ?_
      refine G_popb (G_pop ?_)
      refine G_run1 hN (G_v rfl (g_int (b := ((i + 1 : Nat) : Int)) rfl (wi64 (by omega) (by omega) (by omega))) <| G_v rfl rfl <| G_nil) ?_
      refine G_again (i + 1, L'.set (off + i) d, cc / BB, w') ⟨by simp only; omega, by simp only [List.length_set]; exact i2, i3.set e1 _, ?_, ?_, ?_, e2, ?_⟩ (by simp only; omega)
        (M1 rfl <| M1 rfl <| M1 rfl <| M1 rfl <| M1 rfl <| M1 rfl <| M1 rfl <| M1 rfl <| M1 rfl M0) (HS_put2 _ _ _ _)
      · simp only; rw [take_set_ge _ (by omega)]; exact i4
      · simp only; rw [drop_set_lt _ (by omega)]; exact drop_more i5 (by omega)
      · simp only [BB]; omega
      · simp only
        rw [drop_set_add, val_set_succ (by simp; omega), val_take_succ bd, val_take_succ (L.drop off), getD_drop, hae, hye, Nat.pow_succ]
        exact sub_step i8 av (by rw [hqye]; exact hce.symm) hlowe.symm e3
    · have hi : i = n := by have := of_decide_eq_false hc; simp only at this; omega
      subst hi
      refine G_exit (G_pops (G_leave (G_popx (G_done (L', c, w) ⟨i2, i3, i4, i5, i6, i7, ?_⟩ (M1 rfl <| M1 rfl <| M1 rfl <| M1 rfl <| M1 rfl <| M1 rfl M0) (Heap.Sub.refl _)))))
      rw [val_take_all bd (by omega), hVe] at i8
      exact i8
  rintro ⟨L', c, w⟩ ⟨i2, i3, i4, i5, i6, i7, i8⟩
  simp only at i2 i3 i4 i5 i6 i7 i8
  have i6' : c < 4294967296 := i6
  have hun' : L'.getD (off + n) 0 = un := by rw [drop_eq_getD i5 (Nat.le_refl _)]; exact hun
  have eUn : U = val ((L.drop off).take n) + BB ^ n * un := by rw [← hUe, val_take_succ, getD_drop, hun]
  have hA : val ((L'.drop off).take n) < BB ^ n := val_mono_pow ((i3.drop off).take n) (by simp; omega)
  have dmod := Nat.div_add_mod U V
  have dlt := Nat.mod_lt U hVp
  rcases Nat.lt_or_ge un (c + w) with hlt | hge
  · -- the guess was one too great
    have key : q = U / V + 1 ∧ c + w = un + 1 := by
      have h1 : val ((L'.drop off).take n) + q * V = U + BB ^ n * (c + w - un) := by
        rw [i8, eUn, Nat.add_assoc, ← Nat.mul_add]; congr 2; omega
      have h2 : BB ^ n * 1 ≤ BB ^ n * (c + w - un) := Nat.mul_le_mul_left _ (by omega)
      have h3 : U < q * V := by omega
      have h4 : U / V < q := (Nat.div_lt_iff_lt_mul hVp).2 h3
      have h5 : q = U / V + 1 := by omega
      refine ⟨h5, ?_⟩
      have h6 : q * V = V * (U / V) + V := by rw [h5, Nat.add_mul, Nat.one_mul, Nat.mul_comm]
      rcases Nat.lt_or_ge (un + 1) (c + w) with h | h
      · exfalso
        have : BB ^ n * 2 ≤ BB ^ n * (c + w - un) := Nat.mul_le_mul_left _ (by omega)
        omega
      · omega
    obtain ⟨hq, hcw⟩ := key
    have hR : U % V + BB ^ n = val ((L'.drop off).take n) + V := by
      have h1 : val ((L'.drop off).take n) + q * V = U + BB ^ n * (c + w - un) := by
        rw [i8, eUn, Nat.add_assoc, ← Nat.mul_add]; congr 2; omega
      have h6 : q * V = V * (U / V) + V := by rw [hq, Nat.add_mul, Nat.one_mul, Nat.mul_comm]
      rw [show c + w - un = 1 by omega, Nat.mul_one] at h1
      omega
    refine G_run hN (G_v rfl rfl <| G_v rfl rfl <| G_v rfl rfl <| G_v rfl (g_idx1 n rfl rfl rfl rfl rfl rfl (by omega)) <| G_v rfl (g_to (g_loadu (l := L') rfl (put_get _ _ _) rfl rfl rfl (hsl i2 n (by omega))) (y := .int .u32 (un : Nat)) (by rw [hun'])) <| G_v rfl (g_int (b := (un : Nat)) rfl (wi64 rfl (by omega) (by omega))) <| G_v rfl rfl <| G_v rfl (g_int (b := (c : Nat)) rfl (wi64 rfl (by omega) (by omega))) <|
      G_v rfl (g_int (b := (un : Int) - c) rfl (wi64 rfl (by omega) (by omega))) <| G_v rfl (g_int (b := -1) rfl (wi64 (by simp only; omega) (by omega) (by omega))) <| G_v rfl rfl <| G_nil) ?_
    refine G_run hN (G_v rfl rfl <| G_v rfl rfl <| G_v rfl rfl <| G_v rfl (g_int (b := ((4294967295 : Nat) : Int)) rfl rfl) <| G_v rfl (g_idx1 n rfl rfl rfl rfl rfl rfl (by omega)) <| G_s (g_storeu (l := L') rfl rfl rfl rfl (put_get _ _ _) (hsl i2 n (by omega))) <| G_nil) ?_
    refine G_seq ?_
    refine G_run hN (G_v rfl rfl <| G_v rfl (g_bool (b := false) rfl rfl) <| G_nil) ?_
    refine G_if0 rfl (G_skip (G_pop ?_))
    refine G_run hN (G_v rfl rfl <| G_nil) ?_
    generalize hL2 : L'.set (off + n) 4294967295 = L2
    have l2 : L2.length = L.length := by rw [← hL2, List.length_set]; exact i2
    have d2 : Dg L2 := by rw [← hL2]; exact i3.set (by decide) _
    have t2 : L2.take off = L.take off := by rw [← hL2, take_set_ge _ (by omega)]; exact i4
    have r2 : L2.drop (off + (n + 1)) = L.drop (off + (n + 1)) := by rw [← hL2, drop_set_lt _ (by omega)]; exact drop_more i5 (by omega)
    have g2 : L2.getD (off + n) 0 = 4294967295 := by rw [← hL2]; exact getD_set (hsl i2 n (Nat.le_refl _)) _
    have v2e : val ((L2.drop off).take n) = val ((L'.drop off).take n) := by rw [← hL2, drop_set_add, take_set]
    refine G_mid (α := List Nat) (fun y => y.length = L.length ∧ Dg y ∧ y.take off = L.take off ∧ y.drop (off + n) = L2.drop (off + n) ∧ val ((y.drop off).take n) = U % V)
      (fun _ => [(0, .slice id off (n + 1) cap ex 1), (1, .isl (bd.map u32) n), (5, .int .i64 (n : Nat)), (7, .int .u64 (q : Nat)), (13, .int .u64 1)]) (fun y => H.put id (.cells (y.map u32))) ?_ ?_
    · refine G_run hN (G_v rfl rfl <| G_v rfl rfl <| G_v rfl rfl <| G_nil) ?_
      refine G_block ?_
      refine G_loop (α := Nat × List Nat × Nat) (fun x => x.1 ≤ n ∧ x.2.1.length = L.length ∧ Dg x.2.1 ∧ x.2.1.take off = L.take off ∧ x.2.1.drop (off + x.1) = L2.drop (off + x.1) ∧ x.2.2 < 2 ∧ val ((x.2.1.drop off).take x.1) + BB ^ x.1 * x.2.2 = val ((L2.drop off).take x.1) + val (bd.take x.1)) (fun x => n - x.1)
        (fun x => [(0, .slice id off (n + 1) cap ex 1), (1, .isl (bd.map u32) n), (5, .int .i64 (n : Nat)), (7, .int .u64 (q : Nat)), (13, .int .u64 (x.2.2 : Nat)), (135, .isl (bd.map u32) n), (136, .int .i64 (n : Nat)), (137, .int .i64 (x.1 : Nat))]) (fun x => H.put id (.cells (x.2.1.map u32)))
        (0, L2, 0) ⟨by omega, l2, d2, t2, rfl, by simp, by simp [val]⟩ (M1 rfl <| M1 rfl <| M1 rfl <| M1 rfl <| M1 rfl <| M1 rfl <| M1 rfl <| M1 rfl M0) (HS_put2 _ _ _ _) fun ⟨i, L3, s⟩ ⟨j1, j2, j3, j4, j5, j6, j7⟩ => ?_
      simp only at j1 j2 j3 j4 j5 j6 j7
      refine G_run hN (G_v rfl rfl <| G_nil) ?_
      refine G_seq ?_
      refine G_if rfl (fun hc => ?_) (fun hc => ?_)
      · have hi : i < n := by have := of_decide_eq_true hc; simp only at this; omega
        generalize hae : L2.getD (off + i) 0 = av
        have hae' : L3.getD (off + i) 0 = av := by rw [drop_eq_getD j5 (Nat.le_refl _)]; exact hae
        generalize hye : bd.getD i 0 = y
        have ba : av < 4294967296 := hae ▸ d2.get _
        have by_ : y < 4294967296 := hye ▸ dB.get _
        refine G_skip (G_pop ?_)
        refine G_seq (G_block ?_)
        refine G_run hN (G_v rfl rfl <| G_v rfl (g_idxi1 i rfl rfl rfl rfl rfl rfl hi) <| G_v rfl (g_to (g_loadi rfl rfl rfl rfl (by omega)) (y := .int .u32 (y : Nat)) (by rw [hye])) <| G_v rfl rfl <| G_v rfl rfl <| G_nil) ?_
        refine G_run hN (G_v rfl rfl <| G_v rfl rfl <| G_v rfl rfl <| G_v rfl (g_idx1 i rfl rfl rfl rfl rfl rfl (by omega)) <| G_v rfl (g_to (g_loadu (l := L3) rfl (put_get _ _ _) rfl rfl rfl (hsl j2 i (by omega))) (y := .int .u32 (av : Nat)) (by rw [hae'])) <| G_v rfl (g_int (b := (av : Nat)) rfl (w64 rfl (by omega))) <|
          G_v rfl rfl <| G_v rfl (g_int (b := (y : Nat)) rfl (w64 rfl (by omega))) <| G_v rfl (g_int (b := ((av + y : Nat) : Int)) rfl (w64 (by omega) (by omega))) <| G_v rfl (g_int (b := ((s + (av + y) : Nat) : Int)) rfl (w64 (by simp only; omega) (by omega))) <| G_v rfl rfl <| G_nil) ?_
        refine G_run hN (G_v rfl rfl <| G_v rfl rfl <| G_v rfl rfl <| G_v rfl (g_int rfl (wm32 (b := s + (av + y)) rfl)) <| G_v rfl (g_idx1 i rfl rfl rfl rfl rfl rfl (by omega)) <| G_s (g_storeu (l := L3) rfl rfl rfl rfl (put_get _ _ _) (hsl j2 i (by omega))) <| G_nil) ?_
        refine G_run1 hN (G_v rfl rfl <| G_v rfl (g_shr (s := 32) (n := s + (av + y)) (p := BB) rfl rfl rfl (by decide) rfl) <| G_v rfl rfl <| G_nil) ?_
        refine G_popb (G_pop ?_)
        refine G_run1 hN (G_v rfl (g_int (b := ((i + 1 : Nat) : Int)) rfl (wi64 (by omega) (by omega) (by omega))) <| G_v rfl rfl <| G_nil) ?_
        refine G_again (i + 1, L3.set (off + i) ((s + (av + y)) % BB), (s + (av + y)) / BB) ⟨by simp only; omega, by simp only [List.length_set]; exact j2, j3.set (Nat.mod_lt _ (by decide)) _, ?_, ?_, ?_, ?_⟩ (by simp only; omega)
          (M1 rfl <| M1 rfl <| M1 rfl <| M1 rfl <| M1 rfl <| M1 rfl <| M1 rfl <| M1 rfl M0) (HS_put2 _ _ _ _)
        · simp only; rw [take_set_ge _ (by omega)]; exact j4
        · simp only; rw [drop_set_lt _ (by omega)]; exact drop_more j5 (by omega)
        · simp only [BB]; omega
        · simp only
          rw [drop_set_add, val_set_succ (by simp; omega), val_take_succ bd, val_take_succ (L2.drop off), getD_drop, hae, hye, Nat.pow_succ]
          exact add_step j7
      · have hi : i = n := by have := of_decide_eq_false hc; simp only at this; omega
        subst hi
        rw [val_take_all bd (by omega), hVe, v2e, ← hR] at j7
        have hA3 : val ((L3.drop off).take i) < BB ^ i := val_mono_pow ((j3.drop off).take i) (by simp; omega)
        have hs1 : s = 1 := by
          rcases (show s = 0 ∨ s = 1 by omega) with h | h
          · rw [h, Nat.mul_zero] at j7; omega
          · exact h
        subst hs1
        rw [Nat.mul_one] at j7
        exact G_exit (G_pops (G_leave (G_popx (G_done L3 ⟨j2, j3, j4, j5, by omega⟩ (M1 rfl <| M1 rfl <| M1 rfl <| M1 rfl <| M1 rfl M0) (Heap.Sub.refl _)))))
    · rintro L3 ⟨j2, j3, j4, j5, j6⟩
      have g3 : L3.getD (off + n) 0 = 4294967295 := by rw [drop_eq_getD j5 (Nat.le_refl _)]; exact g2
      refine G_run hN (G_v rfl rfl <| G_v rfl rfl <| G_v rfl (g_idx1 n rfl rfl rfl rfl rfl rfl (by omega)) <| G_v rfl (g_to (g_loadu (l := L3) rfl (put_get _ _ _) rfl rfl rfl (hsl j2 n (by omega))) (y := .int .u32 ((4294967295 : Nat) : Int)) (by rw [g3])) <| G_v rfl rfl <| G_v rfl (g_int (b := ((1 : Nat) : Int)) rfl rfl) <| G_v rfl (g_int (b := ((0 : Nat) : Int)) rfl rfl) <|
        G_v rfl (g_idx1 n rfl rfl rfl rfl rfl rfl (by omega)) <| G_s (g_storeu (l := L3) rfl rfl rfl rfl (put_get _ _ _) (hsl j2 n (by omega))) <| G_nil) ?_
      have fin : L3.set (off + n) 0 = L.take off ++ pdig (U % V) (n + 1) ++ L.drop (off + (n + 1)) := by
        refine seg_final (by rw [List.length_set]; exact j2) (by rw [take_set_ge _ (by omega)]; exact j4) (by rw [drop_set_lt _ (by omega)]; exact (drop_more j5 (by omega)).trans r2) (j3.set (by decide) _) ?_ (by omega)
        rw [drop_set_add, val_set_succ (by simp; omega), j6, Nat.mul_zero, Nat.add_zero]
      refine G_weakH [(7, .int .u64 (q : Nat))] (H.put id (.cells ((L3.set (off + n) 0).map u32))) (M1 rfl M0) (HS_put2 _ _ _ _) ?_
      refine G_run hN (G_v rfl rfl <| G_v rfl (g_int (b := ((U / V : Nat) : Int)) rfl (w64 (by omega) (by omega))) <| G_v rfl (g_int (b := ((U / V : Nat) : Int)) rfl (by rw [wm32 (b := U / V) rfl, Nat.mod_eq_of_lt hQ])) <| G_v rfl rfl <| G_nil) ?_
      exact G_ret (G_end rfl ⟨rfl, by rw [fin]⟩)
  · -- the guess was right
    have h1 : val ((L'.drop off).take n) + q * V + BB ^ n * (un - (c + w)) = U := by
      rw [i8, eUn, Nat.add_assoc, ← Nat.mul_add]; congr 2; omega
    have h2 : q ≤ U / V := (Nat.le_div_iff_mul_le hVp).2 (by omega)
    have hq : q = U / V := by omega
    have hR : val ((L'.drop off).take n) + BB ^ n * (un - (c + w)) = U % V := by
      have h6 : q * V = V * (U / V) := by rw [hq, Nat.mul_comm]
      omega
    refine G_run hN (G_v rfl rfl <| G_v rfl rfl <| G_v rfl rfl <| G_v rfl (g_idx1 n rfl rfl rfl rfl rfl rfl (by omega)) <| G_v rfl (g_to (g_loadu (l := L') rfl (put_get _ _ _) rfl rfl rfl (hsl i2 n (by omega))) (y := .int .u32 (un : Nat)) (by rw [hun'])) <| G_v rfl (g_int (b := (un : Nat)) rfl (wi64 rfl (by omega) (by omega))) <| G_v rfl rfl <| G_v rfl (g_int (b := (c : Nat)) rfl (wi64 rfl (by omega) (by omega))) <|
      G_v rfl (g_int (b := (un : Int) - c) rfl (wi64 rfl (by omega) (by omega))) <| G_v rfl (g_int (b := ((un - (c + w) : Nat) : Int)) rfl (wi64 (by simp only; omega) (by omega) (by omega))) <| G_v rfl rfl <| G_nil) ?_
    refine G_run hN (G_v rfl rfl <| G_v rfl rfl <| G_v rfl rfl <| G_v rfl (g_int (b := ((un - (c + w) : Nat) : Int)) rfl (by rw [wm32 (b := un - (c + w)) rfl, Nat.mod_eq_of_lt (by simp only [BB]; omega)])) <| G_v rfl (g_idx1 n rfl rfl rfl rfl rfl rfl (by omega)) <| G_s (g_storeu (l := L') rfl rfl rfl rfl (put_get _ _ _) (hsl i2 n (by omega))) <| G_nil) ?_
    have fin : L'.set (off + n) (un - (c + w)) = L.take off ++ pdig (U % V) (n + 1) ++ L.drop (off + (n + 1)) := by
      refine seg_final (by rw [List.length_set]; exact i2) (by rw [take_set_ge _ (by omega)]; exact i4) (by rw [drop_set_lt _ (by omega)]; exact drop_more i5 (by omega)) (i3.set (by simp only [BB]; omega) _) ?_ (by omega)
      rw [drop_set_add, val_set_succ (by simp; omega), hR]
    refine G_weakH [(7, .int .u64 (q : Nat)), (10, .int .i64 ((un - (c + w) : Nat) : Int))] (H.put id (.cells ((L'.set (off + n) (un - (c + w))).map u32))) (M1 rfl <| M1 rfl M0) (HS_put2 _ _ _ _) ?_
    refine G_seq ?_
    refine G_run hN (G_v rfl rfl <| G_v rfl (g_bool (b := true) rfl (decide_eq_true (by omega))) <| G_nil) ?_
    refine G_if1 rfl ?_
    refine G_run hN (G_v rfl rfl <| G_v rfl (g_int (b := (q : Nat)) rfl (by rw [wm32 (b := q) rfl, Nat.mod_eq_of_lt q3])) <| G_v rfl rfl <| G_nil) ?_
    exact G_ret (G_end rfl ⟨by rw [hq]; rfl, by rw [fin]⟩)
end
end Go.Eng
end
