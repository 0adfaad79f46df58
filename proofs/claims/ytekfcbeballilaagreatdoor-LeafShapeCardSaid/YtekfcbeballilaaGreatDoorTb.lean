import Derived.Test.YtekfcbeballilaaGreatDoorTa
section
namespace Go.Eng
open Go Go.RowKit Go.Proofs
set_option maxHeartbeats 4000000
set_option maxRecDepth 10000
theorem g_bytes {cx : Cx} {m : List (Nat × AV)} {H : Heap} {s d : TypeId} {o : Operand} {l : List UInt8} {e : TypeId}
    (ha : rd cx m o = some (.str l)) (hs : cx.D.und s = some .string) (hd : cx.D.und d = some (.slice e)) (he : cx.D.und e = some (.int .u8)) (hl : l.length ≤ 281474976710656) :
    sop cx m H (.convert s d o) = some (.val (.slice H.nx 0 l.length l.length false 1) (H.alloc (.cells (l.map u8)))) := by
  have h1 : Nat.ble l.length 281474976710656 = true := Nat.ble_eq_true_of_le hl
  simp only [sop, ha, aConv, aConvBytes, aConvU, hs, hd, he, h1, cond_true]
  rfl
theorem g_conv {cx : Cx} {m : List (Nat × AV)} {H : Heap} {s d : TypeId} {o : Operand} {k k' : IntKind} {n n' : Int} {ds : TypeDesc} (ha : rd cx m o = some (.int k' n)) (hs : cx.D.und s = some ds) (hd : cx.D.und d = some (.int k)) (h : k.wrap n = n') :
    sop cx m H (.convert s d o) = some (.val (.int k n') H) := by
  simp only [sop, ha, aconv_int hs hd h]
theorem u8_at {l : List UInt8} {i : Nat} {b : UInt8} (h : l[i]? = some b) : (l.map u8)[i]? = some (.int .u8 b.toNat) := by rw [List.getElem?_map, h]; rfl
theorem wi8 {a : Int} {b : Nat} (h : a = b) (hb : b < 256) : IntKind.u8.wrap a = b := by
  rw [h]
  simp [IntKind.wrap, IntKind.bits, IntKind.signed]
  omega
/-- The number that digits spell. -/
def dval (s : List UInt8) : Nat := s.foldl (fun n b => n * 10 + (b.toNat - 48)) 0
theorem dval_snoc (s : List UInt8) (b : UInt8) : dval (s ++ [b]) = dval s * 10 + (b.toNat - 48) := by simp [dval]
theorem dval_lt {s : List UInt8} (h : ∀ b ∈ s, isDg b.toNat = true) : dval s < 10 ^ s.length := by
  suffices ∀ (s : List UInt8) (n : Nat), (∀ b ∈ s, isDg b.toNat = true) → s.foldl (fun n b => n * 10 + (b.toNat - 48)) n < (n + 1) * 10 ^ s.length by simpa [dval] using this s 0 h
  intro s
  induction s with
  | nil => intro n _; simp
  | cons b l ih =>
    intro n h
    have h1 := ih (n * 10 + (b.toNat - 48)) fun x hx => h x (by simp [hx])
    have h2 := h b (by simp)
    simp only [isDg, Bool.and_eq_true, Nat.ble_eq] at h2
    simp only [List.foldl_cons, List.length_cons, Nat.pow_succ]
    refine Nat.lt_of_lt_of_le h1 ?_
    rw [Nat.mul_comm (10 ^ l.length) 10, ← Nat.mul_assoc]
    exact Nat.mul_le_mul_right _ (by omega)
theorem istrconv_ParseUint_dig (s : List UInt8) (h0 : s ≠ []) (h9 : s.length ≤ 9) (hd : ∀ b ∈ s, isDg b.toNat = true) (H : Heap) : Ans cs0 F.istrconv_ParseUint [.str s, .int .i64 10, .int .i64 32] H fun x K => x = .tuple [.int .u64 (dval s : Nat), .niliface] ∧ K = H := by
  refine Ans_free gl0_free (Imp.refl _) rfl ?_ H
  have hN := cz_ok
  refine G_body hN (fn := B.istrconv_ParseUint) (sz := 172) rfl rfl rfl rfl rfl ?_
  refine G_run hN (G_v rfl rfl <| G_v rfl rfl <| G_nil) ?_
  refine G_seq ?_
  refine G_run hN (G_v rfl rfl <| G_v rfl (g_bool (b := false) rfl (by simpa using h0)) <| G_nil) ?_
  refine G_if0 rfl (G_skip (G_pop ?_))
  refine G_run hN (G_v rfl rfl <| G_v rfl rfl <| G_v rfl rfl <| G_nil) ?_
  refine G_run hN (G_v rfl rfl <| G_v rfl rfl <| G_nil) ?_
  refine G_seq ?_
  refine G_block ?_ -- 0
  refine G_run hN (G_v rfl rfl <| G_v rfl rfl <| G_v rfl rfl <| G_g rfl rfl <| G_v rfl rfl <| G_g rfl rfl <| G_v rfl rfl <| G_v rfl rfl <| G_v rfl rfl <| G_nil) ?_
  refine G_if1 rfl (G_skip (G_popb (G_pop ?_)))
  refine G_seq ?_
  refine G_run hN (G_v rfl rfl <| G_v rfl rfl <| G_nil) ?_
  refine G_if0 rfl ?_
  refine G_run hN (G_v rfl rfl <| G_v rfl rfl <| G_v rfl rfl <| G_g rfl rfl <| G_v rfl rfl <| G_g rfl rfl <| G_v rfl rfl <| G_v rfl rfl <| G_nil) ?_
  refine G_if0 rfl (G_skip (G_pop ?_))
  refine G_run hN (G_v rfl rfl <| G_nil) ?_
  refine G_seq ?_
  refine G_run hN (G_v rfl rfl <| G_nil) ?_
  refine G_block ?_ -- 2
  refine G_run hN (G_v rfl rfl <| G_v rfl rfl <| G_nil) ?_
  refine G_if1 rfl ?_
  refine G_run1 hN (G_v rfl rfl <| G_nil) ?_
  refine G_popb (G_pop ?_)
  refine G_run hN (G_v rfl rfl <| G_v rfl rfl <| G_v rfl rfl <| G_v rfl rfl <| G_v rfl rfl <| G_nil) ?_
  refine G_run hN (G_v rfl rfl <| G_nil) ?_
  refine G_run hN (G_v rfl rfl <| G_nil) ?_
  refine G_mid (α := Unit) (fun _ => True) (fun _ => [(12, .bool false), (13, .int .u64 (dval s : Nat))]) (fun _ => H0.alloc (.cells (s.map u8))) ?_ ?_
  · refine G_run hN (G_v rfl rfl <| G_v rfl (g_bytes rfl rfl rfl rfl (by omega)) <| G_v rfl rfl <| G_v rfl rfl <| G_nil) ?_
    refine G_block ?_ -- 3
    refine G_loop (α := Nat) (fun i => i ≤ s.length) (fun i => s.length - i) (fun i => [(1, .int .i64 10), (8, .bool false), (10, .int .u64 1844674407370955162), (11, .int .u64 4294967295), (12, .bool false), (13, .int .u64 (dval (s.take i) : Nat)), (99, .slice 0 0 s.length s.length false 1), (100, .int .i64 (s.length : Nat)), (101, .int .i64 (i : Nat))]) (fun _ => H0.alloc (.cells (s.map u8)))
      0 (Nat.zero_le _) (M1 rfl <| M1 rfl <| M1 rfl <| M1 rfl <| M1 rfl <| M1 rfl <| M1 rfl <| M1 rfl <| M1 rfl <| M0) (Heap.Sub.refl _) fun i hi => ?_
    rcases Nat.lt_or_eq_of_le hi with hlt | rfl
    · have hx : s[i]? = some s[i] := List.getElem?_eq_getElem hlt
      have hb := hd _ (List.getElem_mem hlt)
      have hv : dval (s.take (i + 1)) = dval (s.take i) * 10 + (s[i].toNat - 48) := by rw [List.take_succ_eq_append_getElem hlt, dval_snoc]
      have hi10 : dval (s.take i) < 10 ^ 8 := Nat.lt_of_lt_of_le (dval_lt fun b hb => hd b (List.mem_of_mem_take hb)) (Nat.pow_le_pow_right (by decide) (by rw [List.length_take]; omega))
      generalize s[i] = b at *
      simp only [isDg, Bool.and_eq_true, Nat.ble_eq] at hb
      generalize hvv : dval (s.take i) = v at *
      have hv8 : v < 100000000 := by simpa using hi10
      refine G_run hN (G_v rfl (g_bool (b := true) rfl (decide_eq_true (by omega))) <| G_nil) ?_
      refine G_seq ?_
      refine G_if1 rfl (G_skip (G_pop ?_))
      refine G_seq ?_
      refine G_block ?_ -- 4
      refine G_run hN (G_v rfl (g_idx1 i rfl rfl rfl rfl rfl rfl hlt) <| G_v rfl (g_load (cs := s.map u8) (off := 0 + i) rfl rfl rfl rfl rfl (by rw [Nat.zero_add]; exact u8_at hx)) <| G_v rfl rfl <| G_nil) ?_
      refine G_run hN (G_v rfl rfl <| G_nil) ?_
      refine G_seq ?_
      refine G_block ?_ -- 5
      refine G_run hN (G_v rfl rfl <| G_v rfl (g_bool (b := false) rfl (beq_eq_false_iff_ne.2 (by omega))) <| G_v rfl rfl <| G_n rfl rfl rfl rfl <| G_v rfl rfl <| G_v rfl rfl <| G_nil) ?_
      refine G_if0 rfl ?_
      refine G_run hN (G_v rfl rfl <| G_v rfl (g_bool (b := true) rfl (decide_eq_true (by omega))) <| G_v rfl rfl <| G_g rfl rfl <| G_v rfl rfl <| G_g rfl rfl <| G_v rfl (g_bool (b := true) rfl (decide_eq_true (by omega))) <| G_v rfl rfl <| G_v rfl rfl <| G_nil) ?_
      refine G_if1 rfl ?_
      refine G_run1 hN (G_v rfl rfl <| G_v rfl (g_int (b := ((b.toNat - 48 : Nat) : Int)) rfl (wi8 (by omega) (by omega))) <| G_v rfl rfl <| G_nil) ?_
      refine G_popb (G_pop ?_)
      refine G_seq ?_
      refine G_run hN (G_v rfl rfl <| G_v rfl rfl <| G_v rfl rfl <| G_v rfl (g_bool (b := false) rfl (decide_eq_false (by show ¬ ((10 : Int) ≤ _); omega))) <| G_nil) ?_
      refine G_if0 rfl (G_skip (G_pop ?_))
      refine G_seq ?_
      refine G_run hN (G_v rfl rfl <| G_v rfl rfl <| G_v rfl (g_bool (b := false) rfl (decide_eq_false (by omega))) <| G_nil) ?_
      refine G_if0 rfl (G_skip (G_pop ?_))
      refine G_run hN (G_v rfl rfl <| G_v rfl rfl <| G_v rfl rfl <| G_v rfl (g_int (b := ((v * 10 : Nat) : Int)) rfl (w64 (by show (v : Int) * 10 = _; omega) (by omega))) <| G_v rfl rfl <| G_nil) ?_
      refine G_run hN (G_v rfl rfl <| G_v rfl rfl <| G_v rfl (g_conv (n' := ((b.toNat - 48 : Nat) : Int)) rfl rfl rfl (w64 rfl (by omega))) <| G_v rfl (g_int (b := ((v * 10 + (b.toNat - 48) : Nat) : Int)) rfl (w64 (by omega) (by omega))) <| G_v rfl rfl <| G_nil) ?_
      refine G_seq ?_
      refine G_run hN (G_v rfl rfl <| G_v rfl rfl <| G_v rfl (g_bool (b := false) rfl (decide_eq_false (by omega))) <| G_v rfl rfl <| G_g rfl rfl <| G_v rfl rfl <| G_g rfl rfl <| G_v rfl rfl <| G_g rfl rfl <| G_v rfl (g_bool (b := false) rfl (decide_eq_false (by omega))) <| G_v rfl rfl <| G_nil) ?_
      refine G_if0 rfl (G_skip (G_pop ?_))
      refine G_run1 hN (G_v rfl rfl <| G_v rfl rfl <| G_nil) ?_
      refine G_popb (G_pop ?_)
      refine G_run1 hN (G_v rfl (g_int (b := ((i + 1 : Nat) : Int)) rfl (wi64 (by omega) (by omega) (by omega))) <| G_v rfl rfl <| G_nil) ?_
      refine G_again (i + 1) (by omega) (by omega) (M1 rfl <| M1 rfl <| M1 rfl <| M1 rfl <| M1 rfl <| M2 rfl (by rw [hv]) <| M1 rfl <| M1 rfl <| M1 rfl <| M0) (Heap.Sub.refl _)
    · refine G_run hN (G_v rfl (g_bool (b := false) rfl (decide_eq_false (by omega))) <| G_nil) ?_
      refine G_seq ?_
      refine G_if0 rfl ?_
      refine G_exit (G_pops (G_leave (G_popx (G_done () trivial (M1 rfl <| M2 rfl (by rw [List.take_length]) <| M0) (Heap.Sub.refl _)))))
  · rintro ⟨⟩ _
    refine G_seq ?_
    refine G_run hN (G_v rfl rfl <| G_v rfl rfl <| G_n rfl rfl rfl rfl <| G_n rfl rfl rfl rfl <| G_n rfl rfl rfl rfl <| G_v rfl rfl <| G_nil) ?_
    refine G_if0 rfl (G_skip (G_pop ?_))
    refine G_run hN (G_v rfl rfl <| G_v rfl rfl <| G_v rfl rfl <| G_nil) ?_
    exact G_ret (G_end rfl ⟨10, rfl⟩)
theorem strconv_ParseUint_dig (s : List UInt8) (h0 : s ≠ []) (h9 : s.length ≤ 9) (hd : ∀ b ∈ s, isDg b.toNat = true) (H : Heap) : Ans cs0 F.strconv_ParseUint [.str s, .int .i64 10, .int .i64 32] H fun x K => x = .tuple [.int .u64 (dval s : Nat), .niliface] ∧ K = H := by
  have hN := cz_ok
  refine G_body hN (fn := B.strconv_ParseUint) (sz := 26) rfl rfl rfl rfl rfl ?_
  refine G_run hN (G_v rfl rfl <| G_v rfl rfl <| G_nil) ?_
  refine G_run hN (G_v rfl rfl <| G_v rfl rfl <| G_v rfl rfl <| G_c rfl rfl (istrconv_ParseUint_dig s h0 h9 hd _) <| G_v rfl rfl <| G_v rfl rfl <| G_v rfl rfl <| G_v rfl rfl <| G_v rfl rfl <| G_nil) ?_
  refine G_seq ?_
  refine G_run hN (G_v rfl rfl <| G_v rfl rfl <| G_nil) ?_
  refine G_if0 rfl (G_skip (G_pop ?_))
  refine G_run hN (G_v rfl rfl <| G_v rfl rfl <| G_v rfl rfl <| G_nil) ?_
  exact G_ret (G_end rfl ⟨rfl, rfl⟩)
end Go.Eng
end
section
namespace Go.Eng
open Go Go.RowKit Go.Proofs
set_option maxHeartbeats 4000000
set_option maxRecDepth 10000
theorem dval_app (a b : List UInt8) : dval (a ++ b) = dval a * 10 ^ b.length + dval b := by
  suffices ∀ (b : List UInt8) (n : Nat), b.foldl (fun n b => n * 10 + (b.toNat - 48)) n = n * 10 ^ b.length + dval b by
    rw [dval, List.foldl_append]; exact this b _
  intro b
  induction b with
  | nil => intro n; simp [dval]
  | cons c l ih =>
    intro n
    have h1 := ih (n * 10 + (c.toNat - 48))
    have h2 := ih (0 * 10 + (c.toNat - 48))
    have h3 : dval (c :: l) = l.foldl (fun n b => n * 10 + (b.toNat - 48)) (0 * 10 + (c.toNat - 48)) := rfl
    rw [h3, h2, List.foldl_cons, h1, List.length_cons, Nat.pow_succ]
    generalize 10 ^ l.length = P
    grind
theorem Sm_lt {n : Nat} (k : Nat) (h : n < BB ^ k) (hk : k ≤ 1099511627776) : Sm n := Nat.le_trans (len_le_of_lt h) hk
theorem pow_decS (k m : Nat) (h : 4 * k ≤ 32 * m) : 10 ^ k ≤ BB ^ m := by
  refine Nat.le_trans (Nat.pow_le_pow_left (show 10 ≤ 2 ^ 4 by decide) k) ?_
  rw [show BB = 2 ^ 32 from rfl, ← Nat.pow_mul, ← Nat.pow_mul]
  exact Nat.pow_le_pow_right (by decide) h
theorem pow_leS (a b : Nat) (h : a ≤ b) : 10 ^ a ≤ 10 ^ b := Nat.pow_le_pow_right (by decide) h
theorem Sm_dec {n k : Nat} (h : n < 10 ^ k) (hk : k ≤ 8000) : Sm n :=
  Sm_lt 1000 (Nat.lt_of_lt_of_le h (pow_decS k 1000 (by omega))) (by omega)
/-- Is it a number as nat.Get reads it? -/
def numOk (s : List UInt8) : Bool := !(s == []) && Nat.ble s.length 2000 && !(decide (1 < s.length) && s[0]? == some 48) && s.all fun b => isDg b.toNat
theorem numOk_iff {s : List UInt8} : numOk s = true ↔ s ≠ [] ∧ s.length ≤ 2000 ∧ ¬ (1 < s.length ∧ s[0]? = some 48) ∧ ∀ b ∈ s, isDg b.toNat = true := by
  simp only [numOk, Bool.and_eq_true, Bool.not_eq_true', Nat.ble_eq, List.all_eq_true, Bool.and_eq_false_iff, decide_eq_false_iff_not, beq_eq_false_iff_ne]
  constructor
  · rintro ⟨⟨⟨h1, h2⟩, h3⟩, h4⟩
    exact ⟨h1, h2, fun ⟨h5, h6⟩ => h3.elim (fun h => h h5) (fun h => h h6), h4⟩
  · rintro ⟨h1, h2, h3, h4⟩
    refine ⟨⟨⟨h1, h2⟩, ?_⟩, h4⟩
    by_cases h5 : 1 < s.length
    · exact .inr fun h6 => h3 ⟨h5, h6⟩
    · exact .inl h5
def numAV (s : List UInt8) : AV := bif numOk s then .tuple [.num (dval s), .bool true] else .tuple [.nilp, .bool false]
theorem nat_Get_ans (s : List UInt8) (hs : s.length < 9223372036854775808) (H : Heap) : Ans cs0 F.nat_Get [.str s] H fun x K => x = numAV s ∧ K = H := by
  have hN := cz_ok
  refine G_body hN (fn := B.nat_Get) (sz := 55) rfl rfl rfl rfl rfl ?_
  refine G_run hN (G_v rfl rfl <| G_v rfl rfl <| G_nil) ?_
  refine G_mid (α := Unit) (fun _ => numOk s = true) (fun _ => [(0, .str s)]) (fun _ => H) ?_ ?_
  · by_cases h1 : s = []
    · subst h1
      refine G_run hN (G_v rfl rfl <| G_v rfl rfl <| G_v rfl rfl <| G_n rfl rfl rfl rfl <| G_n rfl rfl rfl rfl <| G_n rfl rfl rfl rfl <| G_v rfl rfl <| G_v rfl rfl <| G_n rfl rfl rfl rfl <| G_n rfl rfl rfl rfl <| G_n rfl rfl rfl rfl <| G_n rfl rfl rfl rfl <| G_n' rfl rfl rfl <| G_n' rfl rfl rfl <| G_n' rfl rfl rfl <| G_n rfl rfl rfl rfl <| G_v rfl rfl <| G_v rfl rfl <| G_n rfl rfl rfl rfl <| G_n rfl rfl rfl rfl <| G_n rfl rfl rfl rfl <| G_v rfl rfl <| G_nil) ?_
      refine G_if1 rfl ?_
      refine G_run hN (G_v rfl rfl <| G_v rfl rfl <| G_nil) ?_
      exact G_ret (MP_ret (G_end rfl ⟨rfl, rfl⟩))
    · have e1 : (s == []) = false := by simpa using h1
      by_cases h2 : 2000 < s.length
      · have hno : numOk s = false := by
          cases h : numOk s with
          | false => rfl
          | true => have := (numOk_iff.1 h).2.1; omega
        refine G_run hN (G_v rfl rfl <| G_v rfl (g_bool (b := false) rfl e1) <| G_v rfl rfl <| G_g rfl rfl <| G_v rfl rfl <| G_g rfl rfl <| G_v rfl rfl <| G_g rfl rfl <| G_v rfl (g_bool (b := true) rfl (decide_eq_true (by omega))) <| G_v rfl rfl <| G_v rfl rfl <| G_n rfl rfl rfl rfl <| G_n rfl rfl rfl rfl <| G_n rfl rfl rfl rfl <| G_n rfl rfl rfl rfl <| G_n' rfl rfl rfl <| G_n' rfl rfl rfl <| G_n' rfl rfl rfl <| G_n rfl rfl rfl rfl <| G_v rfl rfl <| G_v rfl rfl <| G_n rfl rfl rfl rfl <| G_n rfl rfl rfl rfl <| G_n rfl rfl rfl rfl <| G_v rfl rfl <| G_nil) ?_
        refine G_if1 rfl ?_
        refine G_run hN (G_v rfl rfl <| G_v rfl rfl <| G_nil) ?_
        exact G_ret (MP_ret (G_end rfl ⟨by rw [numAV, hno]; rfl, rfl⟩))
      · by_cases h3 : 1 < s.length
        · obtain ⟨c, l, rfl⟩ := List.exists_cons_of_ne_nil h1
          by_cases h4 : c = 48
          · have hno : numOk (c :: l) = false := by
              cases h : numOk (c :: l) with
              | false => rfl
              | true => exact absurd ⟨h3, by rw [h4]; rfl⟩ (numOk_iff.1 h).2.2.1
            refine G_run hN (G_v rfl rfl <| G_v rfl (g_bool (b := false) rfl e1) <| G_v rfl rfl <| G_g rfl rfl <| G_v rfl rfl <| G_g rfl rfl <| G_v rfl rfl <| G_g rfl rfl <| G_v rfl (g_bool (b := false) rfl (decide_eq_false (by omega))) <| G_v rfl rfl <| G_v rfl rfl <| G_g rfl rfl <| G_v rfl rfl <| G_g rfl rfl <| G_v rfl rfl <| G_g rfl rfl <| G_v rfl (g_bool (b := true) rfl (decide_eq_true (by omega))) <| G_g rfl rfl <| G_v rfl rfl <| G_g rfl rfl <| G_v rfl rfl <| G_g rfl rfl <| G_v rfl (g_sidx (c := c) 0 rfl rfl rfl rfl rfl) <| G_g rfl rfl <| G_v rfl (g_bool (b := true) rfl (by rw [h4]; rfl)) <| G_g rfl rfl <| G_v rfl rfl <| G_v rfl rfl <| G_v rfl rfl <| G_n rfl rfl rfl rfl <| G_n rfl rfl rfl rfl <| G_n rfl rfl rfl rfl <| G_v rfl rfl <| G_nil) ?_
            refine G_if1 rfl ?_
            refine G_run hN (G_v rfl rfl <| G_v rfl rfl <| G_nil) ?_
            exact G_ret (MP_ret (G_end rfl ⟨by rw [numAV, hno]; rfl, rfl⟩))
          · have h48 : ¬ (c.toNat : Int) = 48 := fun h => h4 (by
              have : c.toNat = 48 := by omega
              exact UInt8.toNat_inj.1 this)
            have hyes : (!(trimL (trimR (c :: l)) == [])) = false → numOk (c :: l) = true := fun h => numOk_iff.2 ⟨h1, by omega, fun hh => h4 (by simpa using hh.2), trim_nil.1 (by simpa using h)⟩
            have hno : (!(trimL (trimR (c :: l)) == [])) = true → numOk (c :: l) = false := fun h => by
              cases hk : numOk (c :: l) with
              | false => rfl
              | true => have := trim_nil.2 (numOk_iff.1 hk).2.2.2; rw [this] at h; cases h
            generalize htb : (!(trimL (trimR (c :: l)) == [])) = tb
            refine G_run hN (G_v rfl rfl <| G_v rfl (g_bool (b := false) rfl e1) <| G_v rfl rfl <| G_g rfl rfl <| G_v rfl rfl <| G_g rfl rfl <| G_v rfl rfl <| G_g rfl rfl <| G_v rfl (g_bool (b := false) rfl (decide_eq_false (by omega))) <| G_v rfl rfl <| G_v rfl rfl <| G_g rfl rfl <| G_v rfl rfl <| G_g rfl rfl <| G_v rfl rfl <| G_g rfl rfl <| G_v rfl (g_bool (b := true) rfl (decide_eq_true (by omega))) <| G_g rfl rfl <| G_v rfl rfl <| G_g rfl rfl <| G_v rfl rfl <| G_g rfl rfl <| G_v rfl (g_sidx (c := c) 0 rfl rfl rfl rfl rfl) <| G_g rfl rfl <| G_v rfl (g_bool (b := false) rfl (beq_eq_false_iff_ne.2 h48)) <| G_g rfl rfl <| G_v rfl rfl <| G_v rfl rfl <| G_v rfl rfl <| G_g rfl rfl <| G_v rfl rfl <| G_g rfl rfl <| G_c rfl rfl (strings_Trim_dig _ hs _) <| G_g rfl rfl <| G_v rfl (g_bool (b := tb) rfl htb) <| G_v rfl rfl <| G_nil) ?_
            cases htt : tb with
            | false =>
              rw [htt] at htb
              refine G_if0 rfl (G_skip ?_)
              exact G_done () (hyes htb) (M1 rfl M0) (Heap.Sub.refl H)
            | true =>
              rw [htt] at htb
              refine G_if1 rfl ?_
              refine G_run hN (G_v rfl rfl <| G_v rfl rfl <| G_nil) ?_
              exact G_ret (MP_ret (G_end rfl ⟨by rw [numAV, hno htb]; rfl, rfl⟩))
        · have hyes : (!(trimL (trimR (s)) == [])) = false → numOk (s) = true := fun h => numOk_iff.2 ⟨h1, by omega, fun hh => h3 hh.1, trim_nil.1 (by simpa using h)⟩
          have hno : (!(trimL (trimR (s)) == [])) = true → numOk (s) = false := fun h => by
            cases hk : numOk (s) with
            | false => rfl
            | true => have := trim_nil.2 (numOk_iff.1 hk).2.2.2; rw [this] at h; cases h
          generalize htb : (!(trimL (trimR (s)) == [])) = tb
          refine G_run hN (G_v rfl rfl <| G_v rfl (g_bool (b := false) rfl e1) <| G_v rfl rfl <| G_g rfl rfl <| G_v rfl rfl <| G_g rfl rfl <| G_v rfl rfl <| G_g rfl rfl <| G_v rfl (g_bool (b := false) rfl (decide_eq_false (by omega))) <| G_v rfl rfl <| G_v rfl rfl <| G_g rfl rfl <| G_v rfl rfl <| G_g rfl rfl <| G_v rfl rfl <| G_g rfl rfl <| G_v rfl (g_bool (b := false) rfl (decide_eq_false (by omega))) <| G_g rfl rfl <| G_v rfl rfl <| G_n rfl rfl rfl rfl <| G_n rfl rfl rfl rfl <| G_n rfl rfl rfl rfl <| G_g rfl rfl <| G_v rfl rfl <| G_v rfl rfl <| G_v rfl rfl <| G_g rfl rfl <| G_v rfl rfl <| G_g rfl rfl <| G_c rfl rfl (strings_Trim_dig _ hs _) <| G_g rfl rfl <| G_v rfl (g_bool (b := tb) rfl htb) <| G_v rfl rfl <| G_nil) ?_
          cases htt : tb with
          | false =>
            rw [htt] at htb
            refine G_if0 rfl (G_skip ?_)
            exact G_done () (hyes htb) (M1 rfl M0) (Heap.Sub.refl H)
          | true =>
            rw [htt] at htb
            refine G_if1 rfl ?_
            refine G_run hN (G_v rfl rfl <| G_v rfl rfl <| G_nil) ?_
            exact G_ret (MP_ret (G_end rfl ⟨by rw [numAV, hno htb]; rfl, rfl⟩))
  · rintro ⟨⟩ ok
    obtain ⟨k1, k2, k3, k4⟩ := numOk_iff.1 ok
    have smd : ∀ i, Sm (dval (s.take i)) := fun i => Sm_dec (k := 2000) (Nat.lt_of_lt_of_le (dval_lt fun b hb => k4 b (List.mem_of_mem_take hb)) (pow_leS _ 2000 (by rw [List.length_take]; omega))) (by omega)
    refine G_run hN (G_c rfl rfl (nat_of_nil hN _) <| G_v rfl rfl <| G_nil) ?_
    refine G_mid (α := Unit) (fun _ => True) (fun _ => [(4, .num (dval s))]) (fun _ => H) ?_ ?_
    · refine G_run hN (G_v rfl rfl <| G_v rfl rfl <| G_v rfl (g_int (b := ((s.length % 9 : Nat) : Int)) rfl rfl) <| G_v rfl rfl <| G_nil) ?_
      refine G_block ?_ -- 0
      refine G_loop (α := Nat × Nat) (fun x => x.1 ≤ s.length ∧ x.2 ≤ 9 ∧ ((x.2 = 9 ∧ (s.length - x.1) % 9 = 0) ∨ (x.1 = 0 ∧ x.2 = s.length % 9))) (fun x => 2 * (s.length - x.1) + (9 - x.2)) (fun x => [(0, .str (s.drop x.1)), (4, .num (dval (s.take x.1))), (5, .int .i64 (x.2 : Nat))]) (fun _ => H)
        (0, s.length % 9) ⟨Nat.zero_le _, by omega, .inr ⟨rfl, rfl⟩⟩ (M1 rfl <| M1 rfl <| M1 rfl M0) (Heap.Sub.refl H) fun ⟨i, k⟩ ⟨i1, i2, i3⟩ => ?_
      simp only at i1 i2 i3
      refine G_seq ?_
      by_cases hend : i = s.length
      · subst hend
        refine G_run hN (G_v rfl rfl <| G_v rfl (g_bool (b := false) rfl (by simp)) <| G_nil) ?_
        refine G_if0 rfl ?_
        refine G_exit (G_pops (G_leave (G_popx (G_done () trivial (M2 rfl (by rw [List.take_length]) M0) (Heap.Sub.refl H)))))
      · refine G_run hN (G_v rfl rfl <| G_v rfl (g_bool (b := true) rfl (by simp; omega)) <| G_nil) ?_
        refine G_if1 rfl (G_skip (G_pop ?_))
        refine G_seq ?_
        refine G_block ?_ -- 1
        by_cases hk : k = 0
        · subst hk
          refine G_run hN (G_v rfl rfl <| G_v rfl (g_bool (b := false) rfl rfl) <| G_nil) ?_
          refine G_if0 rfl (G_skip (G_popb (G_pop ?_)))
          refine G_run1 hN (G_v rfl rfl <| G_nil) ?_
          exact G_again (i, 9) ⟨i1, by simp, .inl ⟨rfl, by simp only; omega⟩⟩ (by simp only; omega) (M1 rfl <| M1 rfl <| M1 rfl M0) (Heap.Sub.refl H)
        · have hki : i + k ≤ s.length := by omega
          have hpl : ((s.drop i).take k).length = k := by rw [List.length_take, List.length_drop]; omega
          have hpd : ∀ b ∈ (s.drop i).take k, isDg b.toNat = true := fun b hb => k4 b (List.mem_of_mem_drop (List.mem_of_mem_take hb))
          have htk : s.take (i + k) = s.take i ++ (s.drop i).take k := by rw [List.take_add]
          have hva : dval (s.take (i + k)) = dval (s.take i) * 1000000000 + dval ((s.drop i).take k) := by
            rw [htk, dval_app, hpl]
            rcases i3 with ⟨rfl, _⟩ | ⟨rfl, _⟩
            · rfl
            · simp [dval]
          have hne : (s.drop i).take k ≠ [] := fun h => by rw [h] at hpl; simp at hpl; omega
          have hp9 : dval ((s.drop i).take k) < 1000000000 := Nat.lt_of_lt_of_le (dval_lt hpd) (by rw [hpl]; exact Nat.pow_le_pow_right (n := 10) (by decide) i2)
          have s1 := smd i
          have s2 := smd (i + k)
          have hdd : (s.drop i).drop k = s.drop (i + k) := by rw [List.drop_drop]
          rw [hva] at s2
          refine G_run hN (G_v rfl rfl <| G_v rfl (g_bool (b := true) rfl (decide_eq_true (by omega))) <| G_nil) ?_
          refine G_if1 rfl ?_
          refine G_run hN (G_v rfl rfl <| G_v rfl rfl <| G_v rfl (g_sto k rfl rfl rfl rfl (by rw [List.length_drop]; omega)) <| G_c rfl rfl (strconv_ParseUint_dig _ hne (by omega) hpd _) <| G_v rfl rfl <| G_v rfl rfl <| G_v rfl rfl <| G_v rfl rfl <| G_v rfl rfl <| G_nil) ?_
          refine G_run hN (G_v rfl rfl <| G_c rfl rfl (nat_Of_ans hN 1000000000 (by decide) _) <| G_c rfl rfl (nat_Nat_Mul_ans hN _ _ s1 (Sm_dec (k := 10) (by decide) (by omega)) _) <| G_v rfl rfl <| G_c rfl rfl (nat_Of_ans hN _ (by simp only [BB]; omega) _) <| G_c rfl rfl (nat_Nat_Add_ans hN _ _ (s2.le (by omega)) (s2.le (by omega)) _) <| G_v rfl rfl <| G_nil) ?_
          refine G_run1 hN (G_v rfl rfl <| G_v rfl rfl <| G_v rfl (g_sfrom k rfl rfl rfl rfl (by rw [List.length_drop]; omega)) <| G_v rfl rfl <| G_nil) ?_
          refine G_popb (G_pop ?_)
          refine G_run1 hN (G_v rfl rfl <| G_nil) ?_
          exact G_again (i + k, 9) ⟨hki, by simp, .inl ⟨rfl, by simp only; omega⟩⟩ (by simp only; omega) (M2 rfl (by simp only [hdd]) <| M2 rfl (by simp only [hva]) <| M1 rfl M0) (Heap.Sub.refl H)
    · rintro ⟨⟩ _
      refine G_run hN (G_v rfl rfl <| G_v rfl rfl <| G_v rfl rfl <| G_nil) ?_
      exact G_ret (G_end rfl ⟨by rw [numAV, ok]; rfl, rfl⟩)
end Go.Eng
end
section
namespace Go.Eng
open Go Go.RowKit Go.Proofs
set_option maxHeartbeats 4000000
set_option maxRecDepth 10000
theorem G_subH {cx : Cx} {c : Code} {sz : Nat} {m : List (Nat × AV)} {H : Heap} {Q : AEx → Env → Heap → Prop} (K : Heap) (hk : Heap.Sub K H) (hw : WG cx c sz m K Q) : WG cx c sz m H Q := ⟨W_sub (Env.Sub.refl _) hk hw.w⟩
theorem setD2 {C : List AV} {L p r : Nat} {x y : AV} (hL : C.length = L) (h1 : p + 1 = r) (h2 : r < L) : ((C.set (0 + r) x).set (0 + p) y).drop p = y :: x :: C.drop (p + 2) := by
  rw [Nat.zero_add, Nat.zero_add]
  apply List.ext_getElem?
  intro j
  rw [List.getElem?_drop]
  match j with
  | 0 => simp [List.getElem?_set]; omega
  | 1 =>
    rw [List.getElem?_set, if_neg (by omega), List.getElem?_set, if_pos (by omega), if_pos (by omega)]
    rfl
  | j + 2 =>
    rw [List.getElem?_set, if_neg (by omega), List.getElem?_set, if_neg (by omega)]
    simp only [List.getElem?_cons_succ, List.getElem?_drop]
    congr 1
    omega
theorem w32 {a : Int} {b : Nat} (h : a = b) (hb : b < 4294967296) : IntKind.u32.wrap a = b := by rw [wm32 h]; simp only [BB]; omega
/-- k decimal digits. -/
def ptext : Nat → Nat → List UInt8
  | 0, _ => []
  | k + 1, n => UInt8.ofNat (48 + n / 10 ^ k % 10) :: ptext k n
theorem ptext_len : ∀ k n, (ptext k n).length = k
  | 0, _ => rfl
  | k + 1, n => by simp [ptext, ptext_len k n]
def dhi (q : Nat) : AV := u8 (UInt8.ofNat (48 + q / 10))
def dlo (q : Nat) : AV := u8 (UInt8.ofNat (48 + q % 10))
theorem ptext2 (k n q : Nat) (hq : n / 10 ^ k % 100 = q) (T : List AV) : (ptext (k + 2) n).map u8 ++ T = dhi q :: dlo q :: ((ptext k n).map u8 ++ T) := by
  have e1 : n / 10 ^ (k + 1) % 10 = q / 10 := by
    rw [Nat.pow_succ, ← Nat.div_div_eq_div_mul]
    generalize n / 10 ^ k = m at *
    omega
  have e2 : n / 10 ^ k % 10 = q % 10 := by omega
  simp only [ptext, List.map_cons, List.cons_append, e1, e2, dhi, dlo]
def smalls : List UInt8 := [48, 48, 48, 49, 48, 50, 48, 51, 48, 52, 48, 53, 48, 54, 48, 55, 48, 56, 48, 57, 49, 48, 49, 49, 49, 50, 49, 51, 49, 52, 49, 53, 49, 54, 49, 55, 49, 56, 49, 57, 50, 48, 50, 49, 50, 50, 50, 51, 50, 52, 50, 53, 50, 54, 50, 55, 50, 56, 50, 57, 51, 48, 51, 49, 51, 50, 51, 51, 51, 52, 51, 53, 51, 54, 51, 55, 51, 56, 51, 57, 52, 48, 52, 49, 52, 50, 52, 51, 52, 52, 52, 53, 52, 54, 52, 55, 52, 56, 52, 57, 53, 48, 53, 49, 53, 50, 53, 51, 53, 52, 53, 53, 53, 54, 53, 55, 53, 56, 53, 57, 54, 48, 54, 49, 54, 50, 54, 51, 54, 52, 54, 53, 54, 54, 54, 55, 54, 56, 54, 57, 55, 48, 55, 49, 55, 50, 55, 51, 55, 52, 55, 53, 55, 54, 55, 55, 55, 56, 55, 57, 56, 48, 56, 49, 56, 50, 56, 51, 56, 52, 56, 53, 56, 54, 56, 55, 56, 56, 56, 57, 57, 48, 57, 49, 57, 50, 57, 51, 57, 52, 57, 53, 57, 54, 57, 55, 57, 56, 57, 57]
theorem smalls_get : ∀ q, q < 100 → smalls[2 * q]? = some (UInt8.ofNat (48 + q / 10)) ∧ smalls[2 * q + 1]? = some (UInt8.ofNat (48 + q % 10)) := by decide +kernel
theorem hget (H : Heap) {id : Nat} (C : List AV) : (H.put id (.cells C)).t.get id = some (.cells C) := put_get H id _
/-- Digits so far: from place i on. -/
structure FI (n d L : Nat) (T : List AV) (i : Nat) (C : List AV) : Prop where
  len : C.length = L
  le : i ≤ d
  tl : C.drop i = (ptext (d - i) n).map u8 ++ T
theorem FI.two {n d L i p r q : Nat} {T C : List AV} (h : FI n d L T i C) (h1 : p + 1 = r) (h2 : r + 1 = i) (hd : d ≤ L) (hq : n / 10 ^ (d - i) % 100 = q) : FI n d L T p ((C.set (0 + r) (dlo q)).set (0 + p) (dhi q)) := by
  have h3 := h.le
  refine ⟨by simp [h.len], by omega, ?_⟩
  rw [setD2 h.len h1 (by omega), show p + 2 = i by omega, h.tl, show d - p = (d - i) + 2 by omega, ptext2 _ _ q hq]
theorem Ans_sub {cx : Cx} {f : FuncId} {args : List AV} {H : Heap} {Q Q' : AV → Heap → Prop} (h : Ans cx f args H Q) (hq : ∀ x K, Q x K → ∃ K', Heap.Sub K' K ∧ Q' x K') : Ans cx f args H Q' := fun ρ z pv w0 w vs hR hG hV => (h ρ z pv w0 w vs hR hG hV).mono fun en w' hp => by
  obtain ⟨u, ρ', z', x, H', h1, h2, h3, h4, h5⟩ := hp
  obtain ⟨K', k1, k2⟩ := hq x H' h5
  exact ⟨u, ρ', z', x, K', h1, h2.sub k1, h3, h4, k2⟩
theorem dv (n a b : Nat) : n / 10 ^ (a + b) = n / 10 ^ a / 10 ^ b := by rw [Nat.pow_add, Nat.div_div_eq_div_mul]
theorem istrconv_formatBase10_ans (hN : CxOk cs0) {id d cap : Nat} {ex : Bool} {H : Heap} {C : List AV} {L : Nat} (hg : H.t.get id = some (.cells C)) (hL : C.length = L) (hd : d ≤ L) (hL20 : L ≤ 64) (n : Nat) (hn : n < 10 ^ d) (hn64 : n < 1000000000) :
    Ans cs0 F.istrconv_formatBase10 [.slice id 0 d cap ex 1, .int .u64 n] H fun x K => x = .tuple [] ∧ K = H.put id (.cells ((ptext d n).map u8 ++ C.drop d)) := by
  refine Ans_sub (Q := fun x K => x = .tuple [] ∧ Heap.Sub (H.put id (.cells ((ptext d n).map u8 ++ C.drop d))) K) ?_ fun x K h => ⟨_, h.2, h.1, rfl⟩
  refine G_body hN (fn := B.istrconv_formatBase10) (sz := 167) rfl rfl rfl rfl rfl ?_
  refine G_run hN (G_v rfl rfl <| G_v rfl rfl <| G_v rfl rfl <| G_nil) ?_
  have hfi : FI n d L (C.drop d) d C := ⟨hL, Nat.le_refl _, by rw [Nat.sub_self]; rfl⟩
  generalize C.drop d = T at *
  refine G_subH (H.put id (.cells C)) (HS_put1 hg) ?_
  -- the eights
  refine G_mid (α := Nat × List AV) (fun x => FI n d L T x.1 x.2 ∧ n / 10 ^ (d - x.1) < 10 ^ x.1 ∧ x.1 < 8) (fun x => [(0, .slice id 0 d cap ex 1), (1, .int .u64 (n / 10 ^ (d - x.1) : Nat)), (4, .int .i64 (x.1 : Nat))]) (fun x => H.put id (.cells x.2)) ?_ ?_
  · refine G_block ?_
    refine G_loop (α := Nat × List AV) (fun x => FI n d L T x.1 x.2 ∧ n / 10 ^ (d - x.1) < 10 ^ x.1) (fun x => x.1) (fun x => [(0, .slice id 0 d cap ex 1), (1, .int .u64 (n / 10 ^ (d - x.1) : Nat)), (4, .int .i64 (x.1 : Nat))]) (fun x => H.put id (.cells x.2))
      (d, C) ⟨hfi, by simp only [Nat.sub_self]; simpa using hn⟩ (M1 rfl <| M2 rfl (by simp) <| M1 rfl M0) (Heap.Sub.refl _) fun ⟨i, CC⟩ ⟨i1, i2⟩ => ?_
    simp only at i1 i2
    have hCC := i1.len
    have hid := i1.le
    have hu : n / 10 ^ (d - i) < 1000000000 := Nat.lt_of_le_of_lt (Nat.div_le_self _ _) hn64
    refine G_seq ?_
    by_cases h8 : 8 ≤ i
    · refine G_run hN (G_v rfl rfl <| G_v rfl (g_bool (b := true) rfl (decide_eq_true (by omega))) <| G_nil) ?_
      refine G_if1 rfl (G_skip (G_pop ?_))
      refine G_block ?_
      generalize hU : n / 10 ^ (d - i) = u at *
      refine G_run hN (G_v rfl rfl <| G_v rfl rfl <| G_v rfl (g_int (b := ((u % 100000000 : Nat) : Int)) rfl (w32 (by show (u : Int).tmod 100000000 = _; rfl) (by omega))) <| G_v rfl rfl <| G_nil) ?_
      refine G_run hN (G_v rfl rfl <| G_v rfl (g_int (b := ((u / 100000000 : Nat) : Int)) rfl (w64 rfl (by omega))) <| G_v rfl rfl <| G_nil) ?_
      have d0 : n / 10 ^ (d - i) % 100 = u % 100000000 % 10000 % 100 := by rw [hU]; omega
      have d2 : n / 10 ^ (d - (i - 2)) % 100 = u % 100000000 % 10000 / 100 := by rw [show d - (i - 2) = (d - i) + 2 by omega, dv, hU]; omega
      have d4 : n / 10 ^ (d - (i - 4)) % 100 = u % 100000000 / 10000 % 100 := by rw [show d - (i - 4) = (d - i) + 4 by omega, dv, hU]; omega
      have d6 : n / 10 ^ (d - (i - 6)) % 100 = u % 100000000 / 10000 / 100 := by rw [show d - (i - 6) = (d - i) + 6 by omega, dv, hU]; omega
      have d8 : n / 10 ^ (d - (i - 8)) = u / 100000000 := by rw [show d - (i - 8) = (d - i) + 8 by omega, dv, hU]
      have d9 : u / 100000000 < 10 ^ (i - 8) := by
        refine Nat.div_lt_of_lt_mul ?_
        rw [show 100000000 = 10 ^ 8 by rfl, ← Nat.pow_add, show 8 + (i - 8) = i by omega]
        exact i2
      have hvlt : u % 100000000 < 100000000 := by omega
      generalize u % 100000000 = v at *
      refine G_run hN (G_v rfl rfl <| G_v rfl (g_int (b := ((v / 10000 : Nat) : Int)) rfl (w32 rfl (by omega))) <| G_v rfl rfl <| G_v rfl (g_int (b := ((v % 10000 : Nat) : Int)) rfl rfl) <| G_v rfl rfl <| G_v rfl rfl <| G_nil) ?_
      have hw1 : v / 10000 < 10000 := by omega
      have hw2 : v % 10000 < 10000 := by omega
      generalize v / 10000 = x6 at *
      generalize v % 10000 = x7 at *
      refine G_run hN (G_v rfl rfl <| G_v rfl (g_int (b := ((x7 / 100 : Nat) : Int)) rfl (w32 rfl (by omega))) <| G_v rfl (g_int (b := ((2 * (x7 / 100) : Nat) : Int)) rfl (w32 (by show ((x7 / 100 : Nat) : Int) * 2 = _; omega) (by omega))) <| G_v rfl rfl <| G_v rfl (g_int (b := ((x7 % 100 : Nat) : Int)) rfl rfl) <| G_v rfl (g_int (b := ((2 * (x7 % 100) : Nat) : Int)) rfl (w32 (by show ((x7 % 100 : Nat) : Int) * 2 = _; omega) (by omega))) <| G_v rfl rfl <| G_v rfl rfl <| G_nil) ?_
      refine G_run hN (G_v rfl rfl <| G_v rfl (g_int (b := ((x6 / 100 : Nat) : Int)) rfl (w32 rfl (by omega))) <| G_v rfl (g_int (b := ((2 * (x6 / 100) : Nat) : Int)) rfl (w32 (by show ((x6 / 100 : Nat) : Int) * 2 = _; omega) (by omega))) <| G_v rfl rfl <| G_v rfl (g_int (b := ((x6 % 100 : Nat) : Int)) rfl rfl) <| G_v rfl (g_int (b := ((2 * (x6 % 100) : Nat) : Int)) rfl (w32 (by show ((x6 % 100 : Nat) : Int) * 2 = _; omega) (by omega))) <| G_v rfl rfl <| G_v rfl rfl <| G_nil) ?_
      have q0 : x7 % 100 < 100 := by omega
      have q1 : x7 / 100 < 100 := by omega
      have q2 : x6 % 100 < 100 := by omega
      have q3 : x6 / 100 < 100 := by omega
      generalize x7 % 100 = y0 at *
      generalize x7 / 100 = y1 at *
      generalize x6 % 100 = y2 at *
      generalize x6 / 100 = y3 at *
      refine G_drawF hN mixed 0 (E_q 0 1 rfl rfl rfl rfl rfl rfl trivial <| E_q 0 2 rfl rfl rfl rfl rfl rfl trivial <| E_q 2 3 rfl rfl rfl rfl rfl rfl trivial <| E_q 0 4 rfl rfl rfl rfl rfl rfl trivial <| E_q 0 5 rfl rfl rfl rfl rfl rfl trivial <| E_q 16 6 rfl rfl rfl rfl rfl rfl trivial <| E_q 0 7 rfl rfl rfl rfl rfl rfl trivial <| E_q 64 8 rfl rfl rfl rfl rfl rfl trivial <| E_q 192 9 rfl rfl rfl rfl rfl (g_sidx (s := smalls) (2 * y0 + 1) rfl rfl rfl (w32 (by omega) (by omega)) (smalls_get _ (by omega)).2) trivial <| E_q 0 10 rfl rfl rfl rfl rfl rfl trivial <| E_q 512 11 rfl rfl rfl rfl rfl (g_sidx (s := smalls) (2 * y0) rfl rfl rfl rfl (smalls_get _ (by omega)).1) trivial <| E_q 455 12 rfl rfl rfl rfl rfl (g_idx1 (i - 1) rfl rfl rfl rfl rfl (wi64 (by omega) (by omega) (by omega)) (by omega)) trivial <| E_s 2503 13 4096 2503 rfl rfl rfl rfl rfl rfl rfl (g_store1 (cs := CC) rfl rfl rfl rfl rfl rfl (hget _ _) (by omega)) ⟨.inl rfl, .inr (aq_of rfl (sop_ok (g_sidx (s := smalls) (2 * y0) rfl rfl rfl rfl (smalls_get _ (by omega)).1))), .inr rfl, .inl rfl, .inl rfl, .inl rfl, .inr rfl, .inr rfl, .inr rfl, .inl rfl, .inl rfl, .inl rfl, trivial⟩ <| E_q 8191 14 rfl rfl rfl rfl rfl (g_idx1 (i - 2) rfl rfl rfl rfl rfl (wi64 (by omega) (by omega) (by omega)) (by omega)) (.ord rfl) <| E_s 16383 15 20480 16383 rfl rfl rfl rfl rfl rfl rfl (g_store1 (cs := CC.set (0 + (i - 1)) (dlo y0)) rfl rfl rfl rfl rfl rfl (hget _ _) (by simp; omega)) (.ord rfl) <| E_nil rfl) ?_
      have i1n := FI.two (p := i - 2) (r := i - 1) i1 (by omega) (by omega) hd (q := y0) (by first | assumption | omega)
      refine G_subH ((H.put id (.cells CC)).put id (.cells ((CC.set (0 + (i - 1)) (dlo y0)).set (0 + (i - 2)) (dhi y0)))) (HS_put2 _ _ _ _) (G_subH (H.put id (.cells ((CC.set (0 + (i - 1)) (dlo y0)).set (0 + (i - 2)) (dhi y0)))) (HS_put2 _ _ _ _) ?_)
      generalize ((CC.set (0 + (i - 1)) (dlo y0)).set (0 + (i - 2)) (dhi y0)) = CC' at i1n ⊢
      have CCl := i1n.len
      refine G_drawF hN mixed 0 (E_q 0 1 rfl rfl rfl rfl rfl rfl trivial <| E_q 0 2 rfl rfl rfl rfl rfl rfl trivial <| E_q 2 3 rfl rfl rfl rfl rfl rfl trivial <| E_q 0 4 rfl rfl rfl rfl rfl rfl trivial <| E_q 0 5 rfl rfl rfl rfl rfl rfl trivial <| E_q 16 6 rfl rfl rfl rfl rfl rfl trivial <| E_q 0 7 rfl rfl rfl rfl rfl rfl trivial <| E_q 64 8 rfl rfl rfl rfl rfl rfl trivial <| E_q 192 9 rfl rfl rfl rfl rfl (g_sidx (s := smalls) (2 * y1 + 1) rfl rfl rfl (w32 (by omega) (by omega)) (smalls_get _ (by omega)).2) trivial <| E_q 0 10 rfl rfl rfl rfl rfl rfl trivial <| E_q 512 11 rfl rfl rfl rfl rfl (g_sidx (s := smalls) (2 * y1) rfl rfl rfl rfl (smalls_get _ (by omega)).1) trivial <| E_q 455 12 rfl rfl rfl rfl rfl (g_idx1 (i - 3) rfl rfl rfl rfl rfl (wi64 (by omega) (by omega) (by omega)) (by omega)) trivial <| E_s 2503 13 4096 2503 rfl rfl rfl rfl rfl rfl rfl (g_store1 (cs := CC') rfl rfl rfl rfl rfl rfl (hget _ _) (by omega)) ⟨.inl rfl, .inr (aq_of rfl (sop_ok (g_sidx (s := smalls) (2 * y1) rfl rfl rfl rfl (smalls_get _ (by omega)).1))), .inr rfl, .inl rfl, .inl rfl, .inl rfl, .inr rfl, .inr rfl, .inr rfl, .inl rfl, .inl rfl, .inl rfl, trivial⟩ <| E_q 8191 14 rfl rfl rfl rfl rfl (g_idx1 (i - 4) rfl rfl rfl rfl rfl (wi64 (by omega) (by omega) (by omega)) (by omega)) (.ord rfl) <| E_s 16383 15 20480 16383 rfl rfl rfl rfl rfl rfl rfl (g_store1 (cs := CC'.set (0 + (i - 3)) (dlo y1)) rfl rfl rfl rfl rfl rfl (hget _ _) (by simp; omega)) (.ord rfl) <| E_nil rfl) ?_
      have i1nn := FI.two (p := i - 4) (r := i - 3) i1n (by omega) (by omega) hd (q := y1) (by first | assumption | omega)
      refine G_subH ((H.put id (.cells CC')).put id (.cells ((CC'.set (0 + (i - 3)) (dlo y1)).set (0 + (i - 4)) (dhi y1)))) (HS_put2 _ _ _ _) (G_subH (H.put id (.cells ((CC'.set (0 + (i - 3)) (dlo y1)).set (0 + (i - 4)) (dhi y1)))) (HS_put2 _ _ _ _) ?_)
      generalize ((CC'.set (0 + (i - 3)) (dlo y1)).set (0 + (i - 4)) (dhi y1)) = CC'' at i1nn ⊢
      have CC'l := i1nn.len
      refine G_drawF hN mixed 0 (E_q 0 1 rfl rfl rfl rfl rfl rfl trivial <| E_q 0 2 rfl rfl rfl rfl rfl rfl trivial <| E_q 2 3 rfl rfl rfl rfl rfl rfl trivial <| E_q 0 4 rfl rfl rfl rfl rfl rfl trivial <| E_q 0 5 rfl rfl rfl rfl rfl rfl trivial <| E_q 16 6 rfl rfl rfl rfl rfl rfl trivial <| E_q 0 7 rfl rfl rfl rfl rfl rfl trivial <| E_q 64 8 rfl rfl rfl rfl rfl rfl trivial <| E_q 192 9 rfl rfl rfl rfl rfl (g_sidx (s := smalls) (2 * y2 + 1) rfl rfl rfl (w32 (by omega) (by omega)) (smalls_get _ (by omega)).2) trivial <| E_q 0 10 rfl rfl rfl rfl rfl rfl trivial <| E_q 512 11 rfl rfl rfl rfl rfl (g_sidx (s := smalls) (2 * y2) rfl rfl rfl rfl (smalls_get _ (by omega)).1) trivial <| E_q 455 12 rfl rfl rfl rfl rfl (g_idx1 (i - 5) rfl rfl rfl rfl rfl (wi64 (by omega) (by omega) (by omega)) (by omega)) trivial <| E_s 2503 13 4096 2503 rfl rfl rfl rfl rfl rfl rfl (g_store1 (cs := CC'') rfl rfl rfl rfl rfl rfl (hget _ _) (by omega)) ⟨.inl rfl, .inr (aq_of rfl (sop_ok (g_sidx (s := smalls) (2 * y2) rfl rfl rfl rfl (smalls_get _ (by omega)).1))), .inr rfl, .inl rfl, .inl rfl, .inl rfl, .inr rfl, .inr rfl, .inr rfl, .inl rfl, .inl rfl, .inl rfl, trivial⟩ <| E_q 8191 14 rfl rfl rfl rfl rfl (g_idx1 (i - 6) rfl rfl rfl rfl rfl (wi64 (by omega) (by omega) (by omega)) (by omega)) (.ord rfl) <| E_s 16383 15 20480 16383 rfl rfl rfl rfl rfl rfl rfl (g_store1 (cs := CC''.set (0 + (i - 5)) (dlo y2)) rfl rfl rfl rfl rfl rfl (hget _ _) (by simp; omega)) (.ord rfl) <| E_nil rfl) ?_
      have i1nnn := FI.two (p := i - 6) (r := i - 5) i1nn (by omega) (by omega) hd (q := y2) (by first | assumption | omega)
      refine G_subH ((H.put id (.cells CC'')).put id (.cells ((CC''.set (0 + (i - 5)) (dlo y2)).set (0 + (i - 6)) (dhi y2)))) (HS_put2 _ _ _ _) (G_subH (H.put id (.cells ((CC''.set (0 + (i - 5)) (dlo y2)).set (0 + (i - 6)) (dhi y2)))) (HS_put2 _ _ _ _) ?_)
      generalize ((CC''.set (0 + (i - 5)) (dlo y2)).set (0 + (i - 6)) (dhi y2)) = CC''' at i1nnn ⊢
      have CC''l := i1nnn.len
      refine G_drawF hN mixed 0 (E_q 0 1 rfl rfl rfl rfl rfl rfl trivial <| E_q 0 2 rfl rfl rfl rfl rfl rfl trivial <| E_q 2 3 rfl rfl rfl rfl rfl rfl trivial <| E_q 0 4 rfl rfl rfl rfl rfl rfl trivial <| E_q 0 5 rfl rfl rfl rfl rfl rfl trivial <| E_q 16 6 rfl rfl rfl rfl rfl rfl trivial <| E_q 0 7 rfl rfl rfl rfl rfl rfl trivial <| E_q 64 8 rfl rfl rfl rfl rfl rfl trivial <| E_q 192 9 rfl rfl rfl rfl rfl (g_sidx (s := smalls) (2 * y3 + 1) rfl rfl rfl (w32 (by omega) (by omega)) (smalls_get _ (by omega)).2) trivial <| E_q 0 10 rfl rfl rfl rfl rfl rfl trivial <| E_q 512 11 rfl rfl rfl rfl rfl (g_sidx (s := smalls) (2 * y3) rfl rfl rfl rfl (smalls_get _ (by omega)).1) trivial <| E_q 455 12 rfl rfl rfl rfl rfl (g_idx1 (i - 7) rfl rfl rfl rfl rfl (wi64 (by omega) (by omega) (by omega)) (by omega)) trivial <| E_s 2503 13 4096 2503 rfl rfl rfl rfl rfl rfl rfl (g_store1 (cs := CC''') rfl rfl rfl rfl rfl rfl (hget _ _) (by omega)) ⟨.inl rfl, .inr (aq_of rfl (sop_ok (g_sidx (s := smalls) (2 * y3) rfl rfl rfl rfl (smalls_get _ (by omega)).1))), .inr rfl, .inl rfl, .inl rfl, .inl rfl, .inr rfl, .inr rfl, .inr rfl, .inl rfl, .inl rfl, .inl rfl, trivial⟩ <| E_q 8191 14 rfl rfl rfl rfl rfl (g_idx1 (i - 8) rfl rfl rfl rfl rfl (wi64 (by omega) (by omega) (by omega)) (by omega)) (.ord rfl) <| E_s 16383 15 20480 16383 rfl rfl rfl rfl rfl rfl rfl (g_store1 (cs := CC'''.set (0 + (i - 7)) (dlo y3)) rfl rfl rfl rfl rfl rfl (hget _ _) (by simp; omega)) (.ord rfl) <| E_nil rfl) ?_
      have i1nnnn := FI.two (p := i - 8) (r := i - 7) i1nnn (by omega) (by omega) hd (q := y3) (by first | assumption | omega)
      refine G_subH ((H.put id (.cells CC''')).put id (.cells ((CC'''.set (0 + (i - 7)) (dlo y3)).set (0 + (i - 8)) (dhi y3)))) (HS_put2 _ _ _ _) (G_subH (H.put id (.cells ((CC'''.set (0 + (i - 7)) (dlo y3)).set (0 + (i - 8)) (dhi y3)))) (HS_put2 _ _ _ _) ?_)
      generalize ((CC'''.set (0 + (i - 7)) (dlo y3)).set (0 + (i - 8)) (dhi y3)) = CC'''' at i1nnnn ⊢
      have CC'''l := i1nnnn.len
      refine G_run1 hN (G_v rfl rfl <| G_v rfl (g_int (b := ((i - 8 : Nat) : Int)) rfl (wi64 (by omega) (by omega) (by omega))) <| G_v rfl rfl <| G_nil) ?_
      refine G_popb (G_again (i - 8, CC'''') ⟨i1nnnn, by simp only; rw [d8]; exact d9⟩ (by simp only; omega) (M1 rfl <| M2 rfl (by simp only; rw [d8]) <| M1 rfl M0) (Heap.Sub.refl _))
    · refine G_run hN (G_v rfl rfl <| G_v rfl (g_bool (b := false) rfl (decide_eq_false (by omega))) <| G_nil) ?_
      refine G_if0 rfl ?_
      refine G_exit (G_pops (G_leave (G_popx (G_done (i, CC) ⟨i1, i2, by simp only; omega⟩ (M1 rfl <| M1 rfl <| M1 rfl M0) (Heap.Sub.refl _)))))
  · rintro ⟨i, CC⟩ ⟨i1, i2, i3⟩
    simp only at i1 i2 i3 ⊢
    have hCC := i1.len
    have hid := i1.le
    have p8 : 10 ^ i ≤ 10 ^ 7 := Nat.pow_le_pow_right (by decide) (by omega)
    have hu : n / 10 ^ (d - i) < 10000000 := Nat.lt_of_lt_of_le i2 p8
    refine G_run hN (G_v rfl rfl <| G_v rfl (g_conv (n' := ((n / 10 ^ (d - i) : Nat) : Int)) rfl rfl rfl (w32 rfl (by omega))) <| G_v rfl rfl <| G_nil) ?_
    refine G_mid (α := Nat × List AV) (fun x => FI n d L T x.1 x.2 ∧ n / 10 ^ (d - x.1) < 10 ^ x.1 ∧ x.1 < 4) (fun x => [(0, .slice id 0 d cap ex 1), (4, .int .i64 (x.1 : Nat)), (12, .int .u32 (n / 10 ^ (d - x.1) : Nat))]) (fun x => H.put id (.cells x.2)) ?_ ?_
    · by_cases h4 : 4 ≤ i
      · refine G_run hN (G_v rfl rfl <| G_v rfl (g_bool (b := true) rfl (decide_eq_true (by omega))) <| G_nil) ?_
        refine G_if1 rfl ?_
        generalize hU : n / 10 ^ (d - i) = u at *
        have d0 : n / 10 ^ (d - i) % 100 = u % 10000 % 100 := by rw [hU]; omega
        have d2 : n / 10 ^ (d - (i - 2)) % 100 = u % 10000 / 100 := by rw [show d - (i - 2) = (d - i) + 2 by omega, dv, hU]; omega
        have d8 : n / 10 ^ (d - (i - 4)) = u / 10000 := by rw [show d - (i - 4) = (d - i) + 4 by omega, dv, hU]
        have d9 : u / 10000 < 10 ^ (i - 4) := by
          refine Nat.div_lt_of_lt_mul ?_
          rw [show 10000 = 10 ^ 4 by rfl, ← Nat.pow_add, show 4 + (i - 4) = i by omega]
          exact i2
        refine G_run hN (G_v rfl rfl <| G_v rfl (g_int (b := ((u % 10000 : Nat) : Int)) rfl rfl) <| G_v rfl rfl <| G_nil) ?_
        refine G_run hN (G_v rfl rfl <| G_v rfl (g_int (b := ((u / 10000 : Nat) : Int)) rfl (w32 rfl (by omega))) <| G_v rfl rfl <| G_nil) ?_
        have hvlt : u % 10000 < 10000 := by omega
        generalize u % 10000 = x7 at *
        refine G_run hN (G_v rfl rfl <| G_v rfl (g_int (b := ((x7 / 100 : Nat) : Int)) rfl (w32 rfl (by omega))) <| G_v rfl (g_int (b := ((2 * (x7 / 100) : Nat) : Int)) rfl (w32 (by show ((x7 / 100 : Nat) : Int) * 2 = _; omega) (by omega))) <| G_v rfl rfl <| G_v rfl (g_int (b := ((x7 % 100 : Nat) : Int)) rfl rfl) <| G_v rfl (g_int (b := ((2 * (x7 % 100) : Nat) : Int)) rfl (w32 (by show ((x7 % 100 : Nat) : Int) * 2 = _; omega) (by omega))) <| G_v rfl rfl <| G_v rfl rfl <| G_nil) ?_
        have q0 : x7 % 100 < 100 := by omega
        have q1 : x7 / 100 < 100 := by omega
        generalize x7 % 100 = y0 at *
        generalize x7 / 100 = y1 at *
        refine G_drawF hN mixed 0 (E_q 0 1 rfl rfl rfl rfl rfl rfl trivial <| E_q 0 2 rfl rfl rfl rfl rfl rfl trivial <| E_q 2 3 rfl rfl rfl rfl rfl rfl trivial <| E_q 0 4 rfl rfl rfl rfl rfl rfl trivial <| E_q 0 5 rfl rfl rfl rfl rfl rfl trivial <| E_q 16 6 rfl rfl rfl rfl rfl rfl trivial <| E_q 0 7 rfl rfl rfl rfl rfl rfl trivial <| E_q 64 8 rfl rfl rfl rfl rfl rfl trivial <| E_q 192 9 rfl rfl rfl rfl rfl (g_sidx (s := smalls) (2 * y0 + 1) rfl rfl rfl (w32 (by omega) (by omega)) (smalls_get _ (by omega)).2) trivial <| E_q 0 10 rfl rfl rfl rfl rfl rfl trivial <| E_q 512 11 rfl rfl rfl rfl rfl (g_sidx (s := smalls) (2 * y0) rfl rfl rfl rfl (smalls_get _ (by omega)).1) trivial <| E_q 455 12 rfl rfl rfl rfl rfl (g_idx1 (i - 1) rfl rfl rfl rfl rfl (wi64 (by omega) (by omega) (by omega)) (by omega)) trivial <| E_s 2503 13 4096 2503 rfl rfl rfl rfl rfl rfl rfl (g_store1 (cs := CC) rfl rfl rfl rfl rfl rfl (hget _ _) (by omega)) ⟨.inl rfl, .inr (aq_of rfl (sop_ok (g_sidx (s := smalls) (2 * y0) rfl rfl rfl rfl (smalls_get _ (by omega)).1))), .inr rfl, .inl rfl, .inl rfl, .inl rfl, .inr rfl, .inr rfl, .inr rfl, .inl rfl, .inl rfl, .inl rfl, trivial⟩ <| E_q 8191 14 rfl rfl rfl rfl rfl (g_idx1 (i - 2) rfl rfl rfl rfl rfl (wi64 (by omega) (by omega) (by omega)) (by omega)) (.ord rfl) <| E_s 16383 15 20480 16383 rfl rfl rfl rfl rfl rfl rfl (g_store1 (cs := CC.set (0 + (i - 1)) (dlo y0)) rfl rfl rfl rfl rfl rfl (hget _ _) (by simp; omega)) (.ord rfl) <| E_nil rfl) ?_
        have i1n := FI.two (p := i - 2) (r := i - 1) i1 (by omega) (by omega) hd (q := y0) (by first | assumption | omega)
        refine G_subH ((H.put id (.cells CC)).put id (.cells ((CC.set (0 + (i - 1)) (dlo y0)).set (0 + (i - 2)) (dhi y0)))) (HS_put2 _ _ _ _) (G_subH (H.put id (.cells ((CC.set (0 + (i - 1)) (dlo y0)).set (0 + (i - 2)) (dhi y0)))) (HS_put2 _ _ _ _) ?_)
        generalize ((CC.set (0 + (i - 1)) (dlo y0)).set (0 + (i - 2)) (dhi y0)) = CC' at i1n ⊢
        have CCl := i1n.len
        refine G_drawF hN mixed 0 (E_q 0 1 rfl rfl rfl rfl rfl rfl trivial <| E_q 0 2 rfl rfl rfl rfl rfl rfl trivial <| E_q 2 3 rfl rfl rfl rfl rfl rfl trivial <| E_q 0 4 rfl rfl rfl rfl rfl rfl trivial <| E_q 0 5 rfl rfl rfl rfl rfl rfl trivial <| E_q 16 6 rfl rfl rfl rfl rfl rfl trivial <| E_q 0 7 rfl rfl rfl rfl rfl rfl trivial <| E_q 64 8 rfl rfl rfl rfl rfl rfl trivial <| E_q 192 9 rfl rfl rfl rfl rfl (g_sidx (s := smalls) (2 * y1 + 1) rfl rfl rfl (w32 (by omega) (by omega)) (smalls_get _ (by omega)).2) trivial <| E_q 0 10 rfl rfl rfl rfl rfl rfl trivial <| E_q 512 11 rfl rfl rfl rfl rfl (g_sidx (s := smalls) (2 * y1) rfl rfl rfl rfl (smalls_get _ (by omega)).1) trivial <| E_q 455 12 rfl rfl rfl rfl rfl (g_idx1 (i - 3) rfl rfl rfl rfl rfl (wi64 (by omega) (by omega) (by omega)) (by omega)) trivial <| E_s 2503 13 4096 2503 rfl rfl rfl rfl rfl rfl rfl (g_store1 (cs := CC') rfl rfl rfl rfl rfl rfl (hget _ _) (by omega)) ⟨.inl rfl, .inr (aq_of rfl (sop_ok (g_sidx (s := smalls) (2 * y1) rfl rfl rfl rfl (smalls_get _ (by omega)).1))), .inr rfl, .inl rfl, .inl rfl, .inl rfl, .inr rfl, .inr rfl, .inr rfl, .inl rfl, .inl rfl, .inl rfl, trivial⟩ <| E_q 8191 14 rfl rfl rfl rfl rfl (g_idx1 (i - 4) rfl rfl rfl rfl rfl (wi64 (by omega) (by omega) (by omega)) (by omega)) (.ord rfl) <| E_s 16383 15 20480 16383 rfl rfl rfl rfl rfl rfl rfl (g_store1 (cs := CC'.set (0 + (i - 3)) (dlo y1)) rfl rfl rfl rfl rfl rfl (hget _ _) (by simp; omega)) (.ord rfl) <| E_nil rfl) ?_
        have i1nn := FI.two (p := i - 4) (r := i - 3) i1n (by omega) (by omega) hd (q := y1) (by first | assumption | omega)
        refine G_subH ((H.put id (.cells CC')).put id (.cells ((CC'.set (0 + (i - 3)) (dlo y1)).set (0 + (i - 4)) (dhi y1)))) (HS_put2 _ _ _ _) (G_subH (H.put id (.cells ((CC'.set (0 + (i - 3)) (dlo y1)).set (0 + (i - 4)) (dhi y1)))) (HS_put2 _ _ _ _) ?_)
        generalize ((CC'.set (0 + (i - 3)) (dlo y1)).set (0 + (i - 4)) (dhi y1)) = CC'' at i1nn ⊢
        have CC'l := i1nn.len
        refine G_run1 hN (G_v rfl rfl <| G_v rfl (g_int (b := ((i - 4 : Nat) : Int)) rfl (wi64 (by omega) (by omega) (by omega))) <| G_v rfl rfl <| G_nil) ?_
        exact G_done (i - 4, CC'') ⟨i1nn, by simp only; rw [d8]; exact d9, by simp only; omega⟩ (M1 rfl <| M1 rfl <| M2 rfl (by simp only; rw [d8]) M0) (Heap.Sub.refl _)
      · refine G_run hN (G_v rfl rfl <| G_v rfl (g_bool (b := false) rfl (decide_eq_false (by omega))) <| G_nil) ?_
        refine G_if0 rfl (G_skip ?_)
        exact G_done (i, CC) ⟨i1, i2, by simp only; omega⟩ (M1 rfl <| M1 rfl <| M1 rfl M0) (Heap.Sub.refl _)
    · clear hu p8 i1 i2 i3 hid hCC
      clear CC i
      rintro ⟨i, CC⟩ ⟨i1, i2, i3⟩
      simp only at i1 i2 i3 ⊢
      have hCC := i1.len
      have hid := i1.le
      have p8 : 10 ^ i ≤ 10 ^ 3 := Nat.pow_le_pow_right (by decide) (by omega)
      have hu : n / 10 ^ (d - i) < 1000 := Nat.lt_of_lt_of_le i2 p8
      refine G_mid (α := Nat × List AV) (fun x => FI n d L T x.1 x.2 ∧ n / 10 ^ (d - x.1) < 10 ^ x.1 ∧ x.1 < 2) (fun x => [(0, .slice id 0 d cap ex 1), (4, .int .i64 (x.1 : Nat)), (12, .int .u32 (n / 10 ^ (d - x.1) : Nat))]) (fun x => H.put id (.cells x.2)) ?_ ?_
      · by_cases h4 : 2 ≤ i
        · refine G_run hN (G_v rfl rfl <| G_v rfl (g_bool (b := true) rfl (decide_eq_true (by omega))) <| G_nil) ?_
          refine G_if1 rfl ?_
          generalize hU : n / 10 ^ (d - i) = u at *
          have d0 : n / 10 ^ (d - i) % 100 = u % 100 := by rw [hU]
          have d8 : n / 10 ^ (d - (i - 2)) = u / 100 := by rw [show d - (i - 2) = (d - i) + 2 by omega, dv, hU]
          have d9 : u / 100 < 10 ^ (i - 2) := by
            refine Nat.div_lt_of_lt_mul ?_
            rw [show 100 = 10 ^ 2 by rfl, ← Nat.pow_add, show 2 + (i - 2) = i by omega]
            exact i2
          refine G_run hN (G_v rfl rfl <| G_v rfl (g_int (b := ((u % 100 : Nat) : Int)) rfl rfl) <| G_v rfl (g_int (b := ((2 * (u % 100) : Nat) : Int)) rfl (w32 (by show ((u % 100 : Nat) : Int) * 2 = _; omega) (by omega))) <| G_v rfl rfl <| G_nil) ?_
          refine G_run hN (G_v rfl rfl <| G_v rfl (g_int (b := ((u / 100 : Nat) : Int)) rfl (w32 rfl (by omega))) <| G_v rfl rfl <| G_nil) ?_
          have q0 : u % 100 < 100 := by omega
          generalize u % 100 = y0 at *
          refine G_drawF hN mixed 0 (E_q 0 1 rfl rfl rfl rfl rfl rfl trivial <| E_q 0 2 rfl rfl rfl rfl rfl rfl trivial <| E_q 2 3 rfl rfl rfl rfl rfl rfl trivial <| E_q 0 4 rfl rfl rfl rfl rfl rfl trivial <| E_q 0 5 rfl rfl rfl rfl rfl rfl trivial <| E_q 16 6 rfl rfl rfl rfl rfl rfl trivial <| E_q 0 7 rfl rfl rfl rfl rfl rfl trivial <| E_q 64 8 rfl rfl rfl rfl rfl rfl trivial <| E_q 192 9 rfl rfl rfl rfl rfl (g_sidx (s := smalls) (2 * y0 + 1) rfl rfl rfl (w32 (by omega) (by omega)) (smalls_get _ (by omega)).2) trivial <| E_q 0 10 rfl rfl rfl rfl rfl rfl trivial <| E_q 512 11 rfl rfl rfl rfl rfl (g_sidx (s := smalls) (2 * y0) rfl rfl rfl rfl (smalls_get _ (by omega)).1) trivial <| E_q 455 12 rfl rfl rfl rfl rfl (g_idx1 (i - 1) rfl rfl rfl rfl rfl (wi64 (by omega) (by omega) (by omega)) (by omega)) trivial <| E_s 2503 13 4096 2503 rfl rfl rfl rfl rfl rfl rfl (g_store1 (cs := CC) rfl rfl rfl rfl rfl rfl (hget _ _) (by omega)) ⟨.inl rfl, .inr (aq_of rfl (sop_ok (g_sidx (s := smalls) (2 * y0) rfl rfl rfl rfl (smalls_get _ (by omega)).1))), .inr rfl, .inl rfl, .inl rfl, .inl rfl, .inr rfl, .inr rfl, .inr rfl, .inl rfl, .inl rfl, .inl rfl, trivial⟩ <| E_q 8191 14 rfl rfl rfl rfl rfl (g_idx1 (i - 2) rfl rfl rfl rfl rfl (wi64 (by omega) (by omega) (by omega)) (by omega)) (.ord rfl) <| E_s 16383 15 20480 16383 rfl rfl rfl rfl rfl rfl rfl (g_store1 (cs := CC.set (0 + (i - 1)) (dlo y0)) rfl rfl rfl rfl rfl rfl (hget _ _) (by simp; omega)) (.ord rfl) <| E_nil rfl) ?_
          have i1n := FI.two (p := i - 2) (r := i - 1) i1 (by omega) (by omega) hd (q := y0) (by first | assumption | omega)
          refine G_subH ((H.put id (.cells CC)).put id (.cells ((CC.set (0 + (i - 1)) (dlo y0)).set (0 + (i - 2)) (dhi y0)))) (HS_put2 _ _ _ _) (G_subH (H.put id (.cells ((CC.set (0 + (i - 1)) (dlo y0)).set (0 + (i - 2)) (dhi y0)))) (HS_put2 _ _ _ _) ?_)
          generalize ((CC.set (0 + (i - 1)) (dlo y0)).set (0 + (i - 2)) (dhi y0)) = CC' at i1n ⊢
          have CCl := i1n.len
          refine G_run1 hN (G_v rfl rfl <| G_v rfl (g_int (b := ((i - 2 : Nat) : Int)) rfl (wi64 (by omega) (by omega) (by omega))) <| G_v rfl rfl <| G_nil) ?_
          exact G_done (i - 2, CC') ⟨i1n, by simp only; rw [d8]; exact d9, by simp only; omega⟩ (M1 rfl <| M1 rfl <| M2 rfl (by simp only; rw [d8]) M0) (Heap.Sub.refl _)
        · refine G_run hN (G_v rfl rfl <| G_v rfl (g_bool (b := false) rfl (decide_eq_false (by omega))) <| G_nil) ?_
          refine G_if0 rfl (G_skip ?_)
          exact G_done (i, CC) ⟨i1, i2, by simp only; omega⟩ (M1 rfl <| M1 rfl <| M1 rfl M0) (Heap.Sub.refl _)
      · clear hu p8 i1 i2 i3 hid hCC
        clear CC i
        rintro ⟨i, CC⟩ ⟨i1, i2, i3⟩
        simp only at i1 i2 i3 ⊢
        have hCC := i1.len
        have hid := i1.le
        have htl := i1.tl
        match i with
        | 0 =>
          refine G_run hN (G_v rfl rfl <| G_v rfl (g_bool (b := false) rfl rfl) <| G_nil) ?_
          refine G_if0 rfl (G_skip ?_)
          refine G_end' rfl ⟨rfl, ?_⟩
          have : CC = (ptext d n).map u8 ++ T := htl
          rw [this]; exact Heap.Sub.refl _
        | 1 =>
          have hu : n / 10 ^ (d - 1) < 10 := i2
          refine G_run hN (G_v rfl rfl <| G_v rfl (g_bool (b := true) rfl rfl) <| G_nil) ?_
          refine G_if1 rfl ?_
          refine G_run1 hN (G_v rfl rfl <| G_v rfl rfl <| G_v rfl (g_int (b := ((48 + n / 10 ^ (d - 1) : Nat) : Int)) rfl (w32 (by show (48 : Int) + _ = _; omega) (by omega))) <| G_v rfl (g_conv (n' := ((48 + n / 10 ^ (d - 1) : Nat) : Int)) rfl rfl rfl (wi8 rfl (by omega))) <| G_v rfl (g_idx1 0 rfl rfl rfl rfl rfl rfl (by omega)) <| G_s (g_store1 (cs := CC) rfl rfl rfl rfl rfl rfl (hget _ _) (by omega)) <| G_nil) ?_
          refine G_end' rfl ⟨rfl, ?_⟩
          have e1 : AV.int .u8 ((48 + n / 10 ^ (d - 1) : Nat) : Int) = u8 (UInt8.ofNat (48 + n / 10 ^ (d - 1) % 10)) := by
            unfold u8
            congr 2
            rw [UInt8.toNat_ofNat']
            generalize n / 10 ^ (d - 1) = w at hu ⊢
            omega
          have e2 : CC.set (0 + 0) (AV.int .u8 ((48 + n / 10 ^ (d - 1) : Nat) : Int)) = (ptext d n).map u8 ++ T := by
            obtain ⟨c, cs, rfl⟩ : ∃ c cs, CC = c :: cs := by
              cases CC with
              | nil => simp at hCC; omega
              | cons c cs => exact ⟨c, cs, rfl⟩
            have hd1 : d = (d - 1) + 1 := by omega
            have h2 : cs = (ptext (d - 1) n).map u8 ++ T := htl
            rw [e1, h2]
            conv => rhs; rw [hd1]
            rfl
          have := HS_put2 H id (.cells CC) (.cells (CC.set (0 + 0) (AV.int .u8 ((48 + n / 10 ^ (d - 1) : Nat) : Int))))
          rw [e2] at this
          rw [e2]
          exact this
end Go.Eng
end
