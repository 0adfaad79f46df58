import Derived.Test.YtekfcbeballilaaGreatDoorTb
section
namespace Go.Eng
open Go Go.RowKit Go.Proofs
set_option maxHeartbeats 4000000
set_option maxRecDepth 10000
def len8 : List UInt8 := [0, 1, 2, 2, 3, 3, 3, 3, 4, 4, 4, 4, 4, 4, 4, 4, 5, 5, 5, 5, 5, 5, 5, 5, 5, 5, 5, 5, 5, 5, 5, 5, 6, 6, 6, 6, 6, 6, 6, 6, 6, 6, 6, 6, 6, 6, 6, 6, 6, 6, 6, 6, 6, 6, 6, 6, 6, 6, 6, 6, 6, 6, 6, 6, 7, 7, 7, 7, 7, 7, 7, 7, 7, 7, 7, 7, 7, 7, 7, 7, 7, 7, 7, 7, 7, 7, 7, 7, 7, 7, 7, 7, 7, 7, 7, 7, 7, 7, 7, 7, 7, 7, 7, 7, 7, 7, 7, 7, 7, 7, 7, 7, 7, 7, 7, 7, 7, 7, 7, 7, 7, 7, 7, 7, 7, 7, 7, 7, 8, 8, 8, 8, 8, 8, 8, 8, 8, 8, 8, 8, 8, 8, 8, 8, 8, 8, 8, 8, 8, 8, 8, 8, 8, 8, 8, 8, 8, 8, 8, 8, 8, 8, 8, 8, 8, 8, 8, 8, 8, 8, 8, 8, 8, 8, 8, 8, 8, 8, 8, 8, 8, 8, 8, 8, 8, 8, 8, 8, 8, 8, 8, 8, 8, 8, 8, 8, 8, 8, 8, 8, 8, 8, 8, 8, 8, 8, 8, 8, 8, 8, 8, 8, 8, 8, 8, 8, 8, 8, 8, 8, 8, 8, 8, 8, 8, 8, 8, 8, 8, 8, 8, 8, 8, 8, 8, 8, 8, 8, 8, 8, 8, 8, 8, 8, 8, 8, 8, 8, 8, 8, 8, 8, 8, 8, 8, 8]
theorem len8_get : ∀ q, q < 256 → len8[q]? = some (UInt8.ofNat (bl q)) ∧ bl q < 256 := by decide +kernel
theorem math_bits_Len64_ans (n : Nat) (hn : n < 4294967296) (H : Heap) : Ans cs0 F.math_bits_Len64 [.int .u64 n] H fun x K => x = .int .i64 (bl n : Nat) ∧ K = H := by
  have hN := cz_ok
  refine G_body hN (fn := B.math_bits_Len64) (sz := 25) rfl rfl rfl rfl rfl ?_
  refine G_run hN (G_v rfl rfl <| G_nil) ?_
  refine G_seq ?_
  refine G_run hN (G_v rfl rfl <| G_v rfl (g_bool (b := false) rfl (decide_eq_false (by omega))) <| G_nil) ?_
  refine G_if0 rfl (G_skip (G_pop ?_))
  refine G_mid (α := Nat × Nat) (fun x => bl n = x.2 + bl x.1 ∧ x.1 < 65536 ∧ x.2 ≤ 16) (fun x => [(0, .int .u64 (x.1 : Nat)), (2, .int .i64 (x.2 : Nat))]) (fun _ => H) ?_ ?_
  · by_cases h : 65536 ≤ n
    · refine G_run hN (G_v rfl rfl <| G_v rfl (g_bool (b := true) rfl (decide_eq_true (by omega))) <| G_nil) ?_
      refine G_if1 rfl ?_
      refine G_run hN (G_v rfl rfl <| G_v rfl (g_shr (n := n) (s := 16) (p := 65536) rfl rfl rfl (by decide) rfl) <| G_v rfl rfl <| G_nil) ?_
      refine G_run1 hN (G_v rfl rfl <| G_v rfl (g_int (b := ((16 : Nat) : Int)) rfl rfl) <| G_v rfl rfl <| G_nil) ?_
      exact G_done (n / 65536, 16) ⟨by have := len_step (k := 16) (x := n) (n := 0) (N := bl n) (by simp) (by omega); simpa using this, by simp only; omega, by simp⟩ (M1 rfl <| M1 rfl M0) (Heap.Sub.refl H)
    · refine G_run hN (G_v rfl rfl <| G_v rfl (g_bool (b := false) rfl (decide_eq_false (by omega))) <| G_nil) ?_
      refine G_if0 rfl (G_skip ?_)
      exact G_done (n, 0) ⟨by simp, by simp only; omega, by simp⟩ (M1 rfl <| M1 rfl M0) (Heap.Sub.refl H)
  · rintro ⟨x, s⟩ ⟨i1, i2, i3⟩
    simp only at i1 i2 i3 ⊢
    refine G_mid (α := Nat × Nat) (fun x => bl n = x.2 + bl x.1 ∧ x.1 < 256 ∧ x.2 ≤ 24) (fun x => [(0, .int .u64 (x.1 : Nat)), (2, .int .i64 (x.2 : Nat))]) (fun _ => H) ?_ ?_
    · by_cases h : 256 ≤ x
      · refine G_run hN (G_v rfl rfl <| G_v rfl (g_bool (b := true) rfl (decide_eq_true (by omega))) <| G_nil) ?_
        refine G_if1 rfl ?_
        refine G_run hN (G_v rfl rfl <| G_v rfl (g_shr (n := x) (s := 8) (p := 256) rfl rfl rfl (by decide) rfl) <| G_v rfl rfl <| G_nil) ?_
        refine G_run1 hN (G_v rfl rfl <| G_v rfl (g_int (b := ((s + 8 : Nat) : Int)) rfl (wi64 (by omega) (by omega) (by omega))) <| G_v rfl rfl <| G_nil) ?_
        exact G_done (x / 256, s + 8) ⟨by have := len_step (k := 8) i1 (by omega); simpa using this, by simp only; omega, by simp only; omega⟩ (M1 rfl <| M1 rfl M0) (Heap.Sub.refl H)
      · refine G_run hN (G_v rfl rfl <| G_v rfl (g_bool (b := false) rfl (decide_eq_false (by omega))) <| G_nil) ?_
        refine G_if0 rfl (G_skip ?_)
        exact G_done (x, s) ⟨i1, by simp only; omega, by simp only; omega⟩ (M1 rfl <| M1 rfl M0) (Heap.Sub.refl H)
    · clear i1 i2 i3
      clear x s
      rintro ⟨x, s⟩ ⟨i1, i2, i3⟩
      simp only at i1 i2 i3 ⊢
      obtain ⟨h1, h2⟩ := len8_get x i2
      refine G_run hN (G_v rfl rfl <| G_v rfl rfl <| G_v rfl (g_conv (n' := (x : Int)) rfl rfl rfl (wi8 rfl i2)) <| G_v rfl (g_sidx (s := len8) x rfl rfl rfl rfl h1) <| G_v rfl (g_conv (n' := ((bl x : Nat) : Int)) rfl rfl rfl (wi64 (by rw [UInt8.toNat_ofNat']; omega) (by omega) (by omega))) <| G_v rfl (g_int (b := ((bl n : Nat) : Int)) rfl (wi64 (by omega) (by omega) (by omega))) <| G_v rfl rfl <| G_nil) ?_
      exact G_ret (G_end rfl ⟨rfl, rfl⟩)
end Go.Eng
end
section
namespace Go.Eng
open Go Go.RowKit Go.Proofs
set_option maxHeartbeats 4000000
set_option maxRecDepth 10000
theorem ints_get (k : IntKind) : ∀ (l : List Int) (i : Nat), (ints k l)[i]? = (l[i]?).map (AV.int k)
  | [], i => by simp [ints]
  | n :: l, 0 => by simp [ints]
  | n :: l, i + 1 => by simp [ints, ints_get k l i]
theorem pow10_get : ∀ k, k < 10 → pow10[k]? = some ((10 ^ k : Nat) : Int) := by decide
/-- How many decimal digits. -/
def ndigF : Nat → Nat → Nat
  | 0, _ => 1
  | f + 1, n => if n < 10 then 1 else ndigF f (n / 10) + 1
theorem ndigF_eq : ∀ (f n d : Nat), 10 ^ d ≤ n → n < 10 ^ (d + 1) → d ≤ f → ndigF f n = d + 1
  | 0, n, d, h1, h2, h3 => by
    obtain rfl : d = 0 := by omega
    rfl
  | f + 1, n, 0, h1, h2, _ => by
    rw [ndigF, if_pos (by simpa using h2)]
  | f + 1, n, d + 1, h1, h2, h3 => by
    have e1 : 10 ^ (d + 1) = 10 ^ d * 10 := Nat.pow_succ ..
    have e2 : 10 ^ (d + 1 + 1) = 10 ^ (d + 1) * 10 := Nat.pow_succ ..
    have : 0 < 10 ^ d := Nat.pow_pos (by decide)
    rw [ndigF, if_neg (by omega), ndigF_eq f (n / 10) d (by omega) (by omega) (by omega)]
def ndig (n : Nat) : Nat := ndigF n n
theorem pow10_gt : ∀ d, d < 10 ^ d
  | 0 => by decide
  | d + 1 => by have := pow10_gt d; rw [Nat.pow_succ]; omega
theorem ndig_eq {n d : Nat} (h1 : 10 ^ d ≤ n) (h2 : n < 10 ^ (d + 1)) : ndig n = d + 1 := ndigF_eq n n d h1 h2 (by have := pow10_gt d; omega)
/-- The decimal text. -/
def ntext (n : Nat) : List UInt8 := ptext (ndig n) n
theorem log_tab : ∀ k, k ≤ 30 → 1 ≤ k → 2 ^ k ≤ 10 ^ (k * 78913 / 262144 + 1) ∧ 10 ^ (k * 78913 / 262144 - 1) ≤ 2 ^ (k - 1) ∧ k * 78913 / 262144 < 10 := by decide
theorem g_aidxi1 {cx : Cx} {m : List (Nat × AV)} {H : Heap} {t : TypeId} {a b : Operand} {cs : List AV} {off len el : Nat} {kk : IntKind} {i : Int} {inf : TypeInfo} (n p : Nat)
    (ha : rd cx m a = some (.iptr cs off)) (hb : rd cx m b = some (.int kk i)) (hu : cx.D.und t = some (.array len el)) (hi : cx.D.inf el = some inf) (hz : inf.size = 1) (hn : i = n) (hl : n < len) (hp : off + n = p) :
    sop cx m H (.indexAddr t a b) = some (.val (.iptr cs p) H) := by
  subst hn hp
  have h2 : 0 ≤ (n : Int) ∧ (n : Int) < (len : Int) := by omega
  simp only [sop, ha, hb, aIndexAddr, hu, hi, h2, and_self, if_true, Int.toNat_natCast, valR, hz, Nat.mul_one]
theorem istrconv_log10_ans (k : Nat) (hk : k ≤ 30) (H : Heap) : Ans cs0 F.istrconv_log10Pow2 [.int .i64 (k : Nat)] H fun x K => x = .int .i64 (k * 78913 / 262144 : Nat) ∧ K = H := by
  have hN := cz_ok
  refine G_body hN (fn := B.istrconv_log10Pow2) (sz := 6) rfl rfl rfl rfl rfl ?_
  refine G_run hN (G_v rfl rfl <| G_nil) ?_
  refine G_run hN (G_v rfl rfl <| G_v rfl (g_int (b := ((k * 78913 : Nat) : Int)) rfl (wi64 (by show (k : Int) * 78913 = _; omega) (by omega) (by omega))) <| G_v rfl (g_shr (n := k * 78913) (s := 18) (p := 262144) rfl rfl rfl (by decide) rfl) <| G_v rfl rfl <| G_nil) ?_
  exact G_ret (G_end rfl ⟨rfl, rfl⟩)
theorem istrconv_bool2_ans (b : Bool) (H : Heap) : Ans cs0 F.istrconv_bool2_int [.bool b] H fun x K => x = .int .i64 (if b then 1 else 0 : Nat) ∧ K = H := by
  have hN := cz_ok
  refine G_body hN (fn := B.istrconv_bool2_int) (sz := 4) rfl rfl rfl rfl rfl ?_
  refine G_run hN (G_v rfl rfl <| G_nil) ?_
  refine G_seq ?_
  refine G_run hN (G_v rfl rfl <| G_nil) ?_
  cases b with
  | true =>
    refine G_if1 rfl ?_
    refine G_run hN (G_v rfl rfl <| G_nil) ?_
    exact G_ret (G_end rfl ⟨rfl, rfl⟩)
  | false =>
    refine G_if0 rfl (G_skip (G_pop ?_))
    refine G_run hN (G_v rfl rfl <| G_nil) ?_
    exact G_ret (G_end rfl ⟨rfl, rfl⟩)
theorem istrconv_numDigits_ans (n : Nat) (h0 : 0 < n) (hn : n < 1000000000) (H : Heap) : Ans cs0 F.istrconv_numDigits [.int .u64 n] H fun x K => x = .int .i64 (ndig n : Nat) ∧ K = H := by
  have hN := cz_ok
  obtain ⟨b1, b2, b3⟩ := bl_pos h0
  have b30 : bl n ≤ 30 := bl_lt (by have : n < 2 ^ 30 := by omega
                                    exact this)
  obtain ⟨l1, l2, l3⟩ := log_tab (bl n) b30 b1
  refine G_body hN (fn := B.istrconv_numDigits) (sz := 15) rfl rfl rfl rfl rfl ?_
  refine G_run hN (G_v rfl rfl <| G_nil) ?_
  refine G_run hN (G_v rfl rfl <| G_c rfl rfl (math_bits_Len64_ans n (by omega) _) <| G_c rfl rfl (istrconv_log10_ans _ b30 _) <| G_v rfl rfl <| G_nil) ?_
  generalize bl n * 78913 / 262144 = t at *
  have hx : (ints .u64 pow10)[t]? = some (.int .u64 ((10 ^ t : Nat) : Int)) := by rw [ints_get, pow10_get t l3]; rfl
  by_cases h : 10 ^ t ≤ n
  · have hd : ndig n = t + 1 := ndig_eq h (Nat.lt_of_lt_of_le b3 l1)
    refine G_run hN (G_v rfl rfl <| G_v rfl rfl <| G_v rfl rfl <| G_v rfl (g_aidxi1 t t rfl rfl rfl rfl rfl rfl (by omega) (by omega)) <| G_v rfl (g_load (cs := ints .u64 pow10) (off := t) rfl rfl rfl rfl rfl hx) <| G_v rfl (g_bool (b := true) rfl (decide_eq_true (by exact_mod_cast h))) <| G_c rfl rfl (istrconv_bool2_ans true _) <| G_v rfl (g_int (b := ((ndig n : Nat) : Int)) rfl (wi64 (by rw [hd]; rfl) (by omega) (by omega))) <| G_v rfl rfl <| G_nil) ?_
    exact G_ret (G_end rfl ⟨rfl, rfl⟩)
  · have ht0 : t ≠ 0 := fun h1 => by rw [h1] at h; simp at h; omega
    have hd : ndig n = t := by
      have := ndig_eq (n := n) (d := t - 1) (Nat.le_trans l2 b2) (by rw [show t - 1 + 1 = t by omega]; omega)
      omega
    refine G_run hN (G_v rfl rfl <| G_v rfl rfl <| G_v rfl rfl <| G_v rfl (g_aidxi1 t t rfl rfl rfl rfl rfl rfl (by omega) (by omega)) <| G_v rfl (g_load (cs := ints .u64 pow10) (off := t) rfl rfl rfl rfl rfl hx) <| G_v rfl (g_bool (b := false) rfl (decide_eq_false (fun h2 => h (by exact_mod_cast h2)))) <| G_c rfl rfl (istrconv_bool2_ans false _) <| G_v rfl (g_int (b := ((ndig n : Nat) : Int)) rfl (wi64 (by rw [hd]; simp) (by omega) (by omega))) <| G_v rfl rfl <| G_nil) ?_
    exact G_ret (G_end rfl ⟨rfl, rfl⟩)
end Go.Eng
end
section
namespace Go.Eng
open Go Go.RowKit Go.Proofs
set_option maxHeartbeats 4000000
set_option maxRecDepth 10000
def dig36 : List UInt8 := [48, 49, 50, 51, 52, 53, 54, 55, 56, 57, 97, 98, 99, 100, 101, 102, 103, 104, 105, 106, 107, 108, 109, 110, 111, 112, 113, 114, 115, 116, 117, 118, 119, 120, 121, 122]
theorem small1 : ∀ n, n < 10 → (dig36.drop n).take 1 = ntext n := by decide +kernel
theorem small2 : ∀ n, n < 100 → 10 ≤ n → (smalls.drop (2 * n)).take 2 = ntext n := by decide +kernel
theorem istrconv_small_ans (n : Nat) (hn : n < 100) (H : Heap) : Ans cs0 F.istrconv_small [.int .i64 n] H fun x K => x = .str (ntext n) ∧ K = H := by
  have hN := cz_ok
  refine G_body hN (fn := B.istrconv_small) (sz := 15) rfl rfl rfl rfl rfl ?_
  refine G_run hN (G_v rfl rfl <| G_nil) ?_
  refine G_seq ?_
  by_cases h : n < 10
  · refine G_run hN (G_v rfl rfl <| G_v rfl (g_bool (b := true) rfl (decide_eq_true (by omega))) <| G_nil) ?_
    refine G_if1 rfl ?_
    refine G_run hN (G_v rfl rfl <| G_v rfl rfl <| G_v rfl (g_int (b := ((n + 1 : Nat) : Int)) rfl (wi64 rfl (by omega) (by omega))) <| G_v rfl (g_scut (s := dig36) n (n + 1) rfl rfl rfl rfl rfl rfl (by omega) (by show n + 1 ≤ 36; omega)) <| G_v rfl rfl <| G_nil) ?_
    refine G_ret (G_end rfl ⟨?_, rfl⟩)
    show AV.str _ = _
    rw [show n + 1 - n = 1 by omega, small1 n h]
  · refine G_run hN (G_v rfl rfl <| G_v rfl (g_bool (b := false) rfl (decide_eq_false (by omega))) <| G_nil) ?_
    refine G_if0 rfl (G_skip (G_pop ?_))
    refine G_run hN (G_v rfl rfl <| G_v rfl (g_int (b := ((2 * n : Nat) : Int)) rfl (wi64 (by show (n : Int) * 2 = _; omega) (by omega) (by omega))) <| G_v rfl rfl <| G_v rfl (g_int (b := ((2 * n : Nat) : Int)) rfl (wi64 (by show (n : Int) * 2 = _; omega) (by omega) (by omega))) <| G_v rfl (g_int (b := ((2 * n + 2 : Nat) : Int)) rfl (wi64 (by show ((2 * n : Nat) : Int) + 2 = _; omega) (by omega) (by omega))) <| G_v rfl (g_scut (s := smalls) (2 * n) (2 * n + 2) rfl rfl rfl rfl rfl rfl (by omega) (by show 2 * n + 2 ≤ 200; omega)) <| G_v rfl rfl <| G_nil) ?_
    refine G_ret (G_end rfl ⟨?_, rfl⟩)
    show AV.str _ = _
    rw [show 2 * n + 2 - 2 * n = 2 by omega, small2 n hn (by omega)]
theorem g_acut {cx : Cx} {m : List (Nat × AV)} {H : Heap} {t : TypeId} {a b : Operand} {id len el : Nat} {cs : List AV} {kk : IntKind} {i : Int} {inf : TypeInfo} (n : Nat)
    (ha : rd cx m a = some (.ptr id 0)) (hb : rd cx m b = some (.int kk i)) (hu : cx.D.und t = some (.array len el)) (hi : cx.D.inf el = some inf) (hz : inf.size = 1) (hg : H.t.get id = some (.cells cs)) (hc : cs.length = len) (h0 : 0 < len) (hn : i = n) (hl : n ≤ len) :
    sop cx m H (.slice t a none (some b) none) = some (.val (.slice id 0 n len true 1) H) := by
  subst hn
  have h2 : 0 ≤ (n : Int) ∧ (n : Int) ≤ (len : Int) := by omega
  have h3 : Nat.blt 0 cs.length = true := by rw [hc]; simpa using h0
  have h4 : Nat.ble (0 + len * 1) cs.length = true := by rw [hc]; simp
  simp only [sop, ha, rdo, hb, aSlice, hu, hi, bd, hg, h2, and_self, if_true, Int.toNat_natCast, hz, h3, h4, Bool.and_self, cond_true, Option.map_some, valR, Nat.zero_mul, Nat.add_zero, Nat.sub_zero]
theorem toBytes_u8 : ∀ l : List UInt8, toBytes (l.map u8) = some l
  | [] => rfl
  | b :: l => by simp [toBytes, u8, toBytes_u8 l]
theorem g_cstr {cx : Cx} {m : List (Nat × AV)} {H : Heap} {s d e : TypeId} {o : Operand} {l : List UInt8} {T : List AV} {id cap : Nat} {ex : Bool}
    (ha : rd cx m o = some (.slice id 0 l.length cap ex 1)) (hs : cx.D.und s = some (.slice e)) (hd : cx.D.und d = some .string) (he : cx.D.und e = some (.int .u8)) (hg : H.t.get id = some (.cells (l.map u8 ++ T))) :
    sop cx m H (.convert s d o) = some (.val (.str l) H) := by
  have hseg : seg (l.map u8 ++ T) 0 (l.length * 1) = some (l.map u8) := by
    simp [seg]
  simp only [sop, ha, aConv, hs, hd, he, srcCells, hg, hseg, toBytes_u8, Option.map_some]
end Go.Eng
end
section
namespace Go.Eng
open Go Go.RowKit Go.Proofs
set_option maxHeartbeats 4000000
set_option maxRecDepth 10000
theorem ndig_ex : ∀ n, 0 < n → ∃ d, 10 ^ d ≤ n ∧ n < 10 ^ (d + 1) := by
  intro n
  induction n using Nat.strongRecOn with
  | _ n ih =>
    intro h
    by_cases h10 : n < 10
    · exact ⟨0, by simp; omega, by simpa using h10⟩
    · obtain ⟨d, h1, h2⟩ := ih (n / 10) (by omega) (by omega)
      refine ⟨d + 1, ?_, ?_⟩
      · rw [Nat.pow_succ]; omega
      · rw [Nat.pow_succ]; omega
theorem ndig_spec {n : Nat} (h : 0 < n) : 10 ^ (ndig n - 1) ≤ n ∧ n < 10 ^ ndig n ∧ 1 ≤ ndig n := by
  obtain ⟨d, h1, h2⟩ := ndig_ex n h
  rw [ndig_eq h1 h2]
  exact ⟨h1, h2, by omega⟩
theorem ndig_lt (n : Nat) : n < 10 ^ ndig n := by
  rcases Nat.eq_zero_or_pos n with rfl | h
  · exact Nat.pow_pos (by decide)
  · exact (ndig_spec h).2.1
theorem ndig_le {n d : Nat} (h : n < 10 ^ d) (hd : 1 ≤ d) : ndig n ≤ d := by
  rcases Nat.eq_zero_or_pos n with rfl | h0
  · exact hd
  · obtain ⟨h1, h2, h3⟩ := ndig_spec h0
    have := Nat.lt_of_le_of_lt h1 h
    have := (Nat.pow_lt_pow_iff_right (a := 10) (by decide)).1 this
    omega
theorem g_cstr' {cx : Cx} {m : List (Nat × AV)} {H : Heap} {s d e : TypeId} {o : Operand} {l : List UInt8} {T : List AV} {id cap k : Nat} {ex : Bool} (hk : l.length = k)
    (ha : rd cx m o = some (.slice id 0 k cap ex 1)) (hs : cx.D.und s = some (.slice e)) (hd : cx.D.und d = some .string) (he : cx.D.und e = some (.int .u8)) (hg : H.t.get id = some (.cells (l.map u8 ++ T))) :
    sop cx m H (.convert s d o) = some (.val (.str l) H) := by
  subst hk
  exact g_cstr ha hs hd he hg
theorem istrconv_FormatUint_ans (n : Nat) (hn : n < 1000000000) (H : Heap) : Ans cs0 F.istrconv_FormatUint [.int .u64 n, .int .i64 10] H fun x K => x = .str (ntext n) ∧ K = H := by
  have hN := cz_ok
  refine Ans_free gl0_free (Imp.refl _) rfl ?_ H
  refine G_body hN (fn := B.istrconv_FormatUint) (sz := 32) rfl rfl rfl rfl rfl ?_
  refine G_run hN (G_v rfl rfl <| G_nil) ?_
  refine G_seq ?_
  refine G_run hN (G_v rfl rfl <| G_v rfl (g_bool (b := true) rfl rfl) <| G_nil) ?_
  refine G_if1 rfl ?_
  refine G_seq ?_
  by_cases h : n < 100
  · refine G_run hN (G_v rfl rfl <| G_v rfl (g_bool (b := true) rfl (decide_eq_true (by omega))) <| G_nil) ?_
    refine G_if1 rfl ?_
    refine G_run hN (G_v rfl rfl <| G_v rfl (g_conv (n' := (n : Int)) rfl rfl rfl (wi64 rfl (by omega) (by omega))) <| G_c rfl rfl (istrconv_small_ans n h _) <| G_v rfl rfl <| G_nil) ?_
    exact G_ret (G_end rfl (.str _))
  · have hd9 : ndig n ≤ 9 := ndig_le (d := 9) (by omega) (by decide)
    have hC : (List.replicate 24 (AV.int .u8 0)).length = 24 := rfl
    have hlen : (ptext (ndig n) n).length = ndig n := ptext_len _ _
    refine G_run hN (G_v rfl rfl <| G_v rfl (g_bool (b := false) rfl (decide_eq_false (by omega))) <| G_nil) ?_
    refine G_if0 rfl (G_skip (G_pop ?_))
    refine G_run hN (G_v rfl rfl <| G_nil) ?_
    refine G_run hN (G_v rfl rfl <| G_c rfl rfl (istrconv_numDigits_ans n (by omega) hn _) <| G_v rfl rfl <| G_nil) ?_
    refine G_run hN (G_v rfl rfl <| G_v rfl (g_acut (cs := List.replicate 24 (AV.int .u8 0)) (ndig n) rfl rfl rfl rfl rfl rfl rfl (by decide) rfl (by omega)) <| G_v rfl rfl <| G_c rfl rfl (istrconv_formatBase10_ans hN (C := List.replicate 24 (AV.int .u8 0)) (L := 24) rfl rfl (by omega) (by omega) n (ndig_lt n) hn) <| G_nil) ?_
    refine G_run hN (G_v rfl rfl <| G_v rfl (g_acut (cs := (ptext (ndig n) n).map u8 ++ (List.replicate 24 (AV.int .u8 0)).drop (ndig n)) (ndig n) rfl rfl rfl rfl rfl (hget _ _) (by rw [List.length_append, List.length_map, hlen, List.length_drop, hC]; show _ = 24; omega) (by decide) rfl (by omega)) <| G_v rfl (g_cstr' hlen rfl rfl rfl rfl (hget _ _)) <| G_v rfl rfl <| G_nil) ?_
    exact G_ret (G_end rfl (.str _))
theorem strconv_FormatUint_ans (n : Nat) (hn : n < 1000000000) (H : Heap) : Ans cs0 F.strconv_FormatUint [.int .u64 n, .int .i64 10] H fun x K => x = .str (ntext n) ∧ K = H := by
  have hN := cz_ok
  refine G_body hN (fn := B.strconv_FormatUint) (sz := 8) rfl rfl rfl rfl rfl ?_
  refine G_run hN (G_v rfl rfl <| G_nil) ?_
  refine G_run hN (G_v rfl rfl <| G_v rfl rfl <| G_c rfl rfl (istrconv_FormatUint_ans n hn _) <| G_v rfl rfl <| G_nil) ?_
  exact G_ret (G_end rfl ⟨rfl, rfl⟩)
theorem strings_Repeat_0 (k : Nat) (hk : k ≤ 8) (H : Heap) : Ans cs0 F.strings_Repeat [.str [48], .int .i64 k] H fun x K => x = .str (List.replicate k 48) ∧ K = H := by
  match k, hk with
  | 0, _ => exact Ans_ev cz_ok cs0_sm mixed gl0_free (n := 1000) (m := 300) rfl (by kernel_rfl) H
  | 1, _ => exact Ans_ev cz_ok cs0_sm mixed gl0_free (n := 1000) (m := 300) rfl (by kernel_rfl) H
  | 2, _ => exact Ans_ev cz_ok cs0_sm mixed gl0_free (n := 1000) (m := 300) rfl (by kernel_rfl) H
  | 3, _ => exact Ans_ev cz_ok cs0_sm mixed gl0_free (n := 1000) (m := 300) rfl (by kernel_rfl) H
  | 4, _ => exact Ans_ev cz_ok cs0_sm mixed gl0_free (n := 1000) (m := 300) rfl (by kernel_rfl) H
  | 5, _ => exact Ans_ev cz_ok cs0_sm mixed gl0_free (n := 1000) (m := 300) rfl (by kernel_rfl) H
  | 6, _ => exact Ans_ev cz_ok cs0_sm mixed gl0_free (n := 1000) (m := 300) rfl (by kernel_rfl) H
  | 7, _ => exact Ans_ev cz_ok cs0_sm mixed gl0_free (n := 1000) (m := 300) rfl (by kernel_rfl) H
  | 8, _ => exact Ans_ev cz_ok cs0_sm mixed gl0_free (n := 1000) (m := 300) rfl (by kernel_rfl) H
end Go.Eng
end
section
namespace Go.Eng
open Go Go.RowKit Go.Proofs
set_option maxHeartbeats 4000000
set_option maxRecDepth 10000
theorem ptext_add : ∀ (j k n : Nat), ptext (j + k) n = ptext j (n / 10 ^ k) ++ ptext k n
  | 0, k, n => by simp [ptext]
  | j + 1, k, n => by
    rw [show j + 1 + k = (j + k) + 1 by omega, ptext, ptext, ptext_add j k n, ← dv, Nat.add_comm j k]
    rfl
theorem ptext_mod : ∀ (k n m : Nat), n % 10 ^ k = m % 10 ^ k → ptext k n = ptext k m
  | 0, _, _, _ => rfl
  | k + 1, n, m, h => by
    have h1 : n % 10 ^ k = m % 10 ^ k := by
      have e : ∀ x : Nat, x % 10 ^ k = x % 10 ^ (k + 1) % 10 ^ k := fun x => (Nat.mod_mod_of_dvd _ (Nat.pow_dvd_pow 10 (by omega))).symm
      rw [e n, e m, h]
    have h2 : n / 10 ^ k % 10 = m / 10 ^ k % 10 := by
      have e : ∀ x : Nat, x / 10 ^ k % 10 = x % 10 ^ (k + 1) / 10 ^ k := fun x => by rw [Nat.pow_succ, Nat.mod_mul_right_div_self]
      rw [e n, e m, h]
    rw [ptext, ptext, h2, ptext_mod k n m h1]
theorem ptext_zero : ∀ k, ptext k 0 = List.replicate k 48
  | 0 => rfl
  | k + 1 => by rw [ptext, ptext_zero k, List.replicate_succ]; simp
theorem ntext_pad {r : Nat} (h : r < 1000000000) : List.replicate (9 - ndig r) 48 ++ ntext r = ptext 9 r := by
  have hd : ndig r ≤ 9 := ndig_le (d := 9) (by omega) (by decide)
  have := ptext_add (9 - ndig r) (ndig r) r
  rw [show 9 - ndig r + ndig r = 9 by omega, Nat.div_eq_of_lt (ndig_lt r), ptext_zero] at this
  exact this.symm
theorem ntext_split {m : Nat} (h : 0 < m / 1000000000) : ntext m = ntext (m / 1000000000) ++ ptext 9 (m % 1000000000) := by
  obtain ⟨h1, h2, h3⟩ := ndig_spec h
  have hd : ndig m = ndig (m / 1000000000) + 9 := by
    generalize ndig (m / 1000000000) = d at *
    obtain ⟨c, rfl⟩ : ∃ c, d = c + 1 := ⟨d - 1, by omega⟩
    simp only [Nat.add_sub_cancel] at h1
    have e9 : (1000000000 : Nat) = 10 ^ 9 := rfl
    refine (ndig_eq (d := c + 9) ?_ ?_).trans (by omega)
    · rw [Nat.pow_add, ← e9]
      have := Nat.mul_le_of_le_div _ _ _ h1
      exact this
    · rw [show c + 9 + 1 = (c + 1) + 9 by omega, Nat.pow_add, ← e9]
      exact (Nat.div_lt_iff_lt_mul (by decide)).1 h2
  rw [ntext, hd, ptext_add]
  congr 1
  exact ptext_mod 9 _ _ (by simp)
theorem ntext_len (n : Nat) : (ntext n).length = ndig n := ptext_len _ _
theorem ndig_digs (a : Nat) (h : 0 < a) : ndig a ≤ 10 * (digs a).length := by
  refine ndig_le ?_ ?_
  · refine Nat.lt_of_lt_of_le (lt_pow_len a) ?_
    rw [Nat.pow_mul]
    exact Nat.pow_le_pow_left (by decide) _
  · have := (digs_last h).2; omega
theorem g_cat {cx : Cx} {m : List (Nat × AV)} {H : Heap} {t u : TypeId} {a b : Operand} {s r x : List UInt8} (ha : rd cx m a = some (.str s)) (hb : rd cx m b = some (.str r)) (hl : s.length + r.length ≤ 9223372036854775807) (hx : s ++ r = x) :
    sop cx m H (.binOp .add t a b u) = some (.val (.str x) H) := by
  have h1 : Nat.ble (s.length + r.length) 9223372036854775807 = true := Nat.ble_eq_true_of_le hl
  subst hx
  simp only [sop, ha, hb, aBin, aStr, h1, cond_true, valR]
theorem g_appnil {cx : Cx} {m : List (Nat × AV)} {H : Heap} {a b : Operand} {t u : TypeId} {el mm : Nat} {v : AV} {dx : TypeDesc} {inf : TypeInfo} {zs news : List AV}
    (ha : rd cx m a = some .nilsl) (hb : rd cx m b = some v) (hu : cx.D.und t = some (.slice el)) (hx : cx.D.und u = some dx) (hd : srcD dx = true) (hi : cx.D.inf el = some inf) (hz : zeroOf cx.D el = some zs) (hs : srcCells H inf.size v = some (news, mm)) (h0 : 0 < mm) (hr : roomOk mm inf.bytes = true) :
    sop cx m H (.call ⟨.builtin .append, #[a, b], #[t, u]⟩) = some (.val (.slice H.nx 0 mm mm false inf.size) (H.allocE (.cells news) (some el))) := by
  have e1 : Nat.beq mm 0 = false := by
    cases h : Nat.beq mm 0 with
    | false => rfl
    | true => have := Nat.eq_of_beq_eq_true h; omega
  simp only [sop, rds, ha, hb, aBuiltin, aAppend, hu, hx, hd, hi, hz, hs, cond_true, e1, cond_false, hr, newR]
theorem seg_u32 (l : List Nat) {n : Nat} (h : l.length = n) : seg (l.map u32) 0 (n * 1) = some (l.map u32) := by subst h; simp [seg]; exact List.take_of_length_le (by simp)
theorem nat_Nat_Text_ans (a : Nat) (ha : Sm a) (H : Heap) : Ans cs0 F.nat_Nat_Text [.num a] H fun x K => x = .str (ntext a) ∧ K = H := by
  have hN := cz_ok
  refine Ans_free gl0_free (Imp.refl _) rfl ?_ H
  refine G_body hN (fn := B.nat_Nat_Text) (sz := 41) rfl rfl rfl rfl rfl ?_
  refine G_run hN (G_v rfl rfl <| G_nil) ?_
  rcases Nat.eq_zero_or_pos a with h0 | h0
  · subst h0
    refine G_run hN (G_v rfl rfl <| G_c rfl rfl (nat_Nat_digits_ans hN 0 _) <| G_v rfl rfl <| G_v rfl rfl <| G_nil) ?_
    refine G_run hN (G_v rfl rfl <| G_nil) ?_
    refine G_mid (α := Unit) (fun _ => True) (fun _ => [(4, .str [])]) (fun _ => H0) ?_ ?_
    · refine G_block ?_
      refine G_loop (α := Unit) (fun _ => True) (fun _ => 0) (fun _ => [(3, .nilsl), (4, .str [])]) (fun _ => H0) () trivial (M1 rfl <| M1 rfl M0) (Heap.Sub.refl _) fun _ _ => ?_
      refine G_seq ?_
      refine G_run hN (G_v rfl rfl <| G_v rfl rfl <| G_v rfl (g_bool (b := false) rfl rfl) <| G_nil) ?_
      refine G_if0 rfl ?_
      exact G_exit (G_pops (G_leave (G_popx (G_done () trivial (M1 rfl M0) (Heap.Sub.refl _)))))
    · rintro ⟨⟩ _
      refine G_seq ?_
      refine G_run hN (G_v rfl rfl <| G_v rfl (g_bool (b := true) rfl rfl) <| G_nil) ?_
      refine G_if1 rfl ?_
      refine G_run hN (G_v rfl rfl <| G_nil) ?_
      exact G_ret (G_end rfl (.str _))
  · have hla := (digs_last h0).2
    have hla2 : (digs a).length ≤ 1099511627776 := ha
    refine G_run hN (G_v rfl rfl <| G_c rfl rfl (nat_Nat_digits_ans hN a _) <| G_v rfl (g_appnil (mm := (digs a).length) (news := (digs a).map u32) rfl rfl rfl rfl rfl rfl rfl (src_isl _ _) hla ?_) <| G_v rfl rfl <| G_nil) ?_
    · simp only [roomOk, Bool.and_eq_true, Nat.ble_eq]
      exact ⟨by show (2 * _ + 192) * 4 ≤ _; omega, by omega⟩
    refine G_run hN (G_v rfl rfl <| G_nil) ?_
    refine G_freeze [0] [(3, .isl ((digs a).map u32) (digs a).length), (4, .str [])] ⟨⟨_, _, rfl, FZ.slice (cs := (digs a).map u32) (l := (digs a).map u32) (List.Mem.head _) rfl (seg_u32 _ rfl) FZ_u32, Imp.refl _⟩, ⟨_, _, rfl, .same, Imp.refl _⟩, trivial⟩ ?_
    refine G_subH ⟨.nil, 1, .nil⟩ (Heap.Sub.of (l := []) (by rw [dels_nx]; exact Nat.le_refl _) trivial) ?_
    refine G_mid (α := Nat) (fun _ => True) (fun _ => [(4, .str (ntext a))]) (fun p => ⟨.nil, p, .nil⟩) ?_ ?_
    · refine G_block ?_
      refine G_loop (α := Nat × List UInt8 × Nat) (fun x => (digs x.1).length ≤ (digs a).length ∧ ((x.1 = 0 ∧ x.2.1 = ntext a) ∨ (0 < x.1 ∧ ntext x.1 ++ x.2.1 = ntext a))) (fun x => x.1) (fun x => [(3, .isl ((digs x.1).map u32) (digs x.1).length), (4, .str x.2.1)]) (fun x => ⟨.nil, x.2.2, .nil⟩) (a, [], 1) ⟨Nat.le_refl _, .inr ⟨h0, by simp⟩⟩ (M1 rfl <| M1 rfl M0) (Heap.Sub.refl _) fun ⟨m, acc, p⟩ ⟨i0, i1⟩ => ?_
      simp only at i0 i1
      refine G_seq ?_
      rcases i1 with ⟨rfl, rfl⟩ | ⟨hm, hacc⟩
      · refine G_run hN (G_v rfl rfl <| G_v rfl rfl <| G_v rfl (g_bool (b := false) rfl rfl) <| G_nil) ?_
        refine G_if0 rfl ?_
        exact G_exit (G_pops (G_leave (G_popx (G_done p trivial (M1 rfl M0) (Heap.Sub.refl _)))))
      · have hlm := (digs_last hm).2
        have hq : m / 1000000000 < BB ^ (digs m).length := Nat.lt_of_le_of_lt (Nat.div_le_self _ _) (lt_pow_len m)
        have hpl := pdig_len hq
        have hqd : (digs (m / 1000000000)).length ≤ (digs m).length := len_le_of_lt hq
        refine G_run hN (G_v rfl rfl <| G_v rfl rfl <| G_v rfl (g_bool (b := true) rfl (decide_eq_true (by show ((digs m).length : Int) > 0; omega))) <| G_nil) ?_
        refine G_if1 rfl (G_skip (G_pop ?_))
        refine G_block ?_
        have hsh := nat_short_isl hN (l := digs m) (digs_dg m) (by omega) 1000000000 (by decide) (by decide) ⟨.nil, p, .nil⟩
        rw [val_digs] at hsh
        refine G_run hN (G_v rfl rfl <| G_c rfl rfl hsh <| G_v rfl rfl <| G_v rfl rfl <| G_v rfl rfl <| G_v rfl rfl <| G_v rfl rfl <| G_nil) ?_
        refine G_freeze [p] [(4, .str acc), (5, .isl ((pdig (m / 1000000000) (digs m).length).map u32) (digs m).length), (6, .int .u64 (m % 1000000000 : Nat))] ⟨⟨_, _, rfl, .same, Imp.refl _⟩, ⟨_, _, rfl, FZ.slice (cs := (pdig (m / 1000000000) (digs m).length).map u32) (l := (pdig (m / 1000000000) (digs m).length).map u32) (List.Mem.head _) (T.get_set_same _ _ _) (seg_u32 _ hpl) FZ_u32, Imp.refl _⟩, ⟨_, _, rfl, .same, Imp.refl _⟩, trivial⟩ ?_
        refine G_subH ⟨.nil, p + 1, .nil⟩ (Heap.Sub.of (l := []) (by rw [dels_nx]; exact Nat.le_refl _) trivial) ?_
        have hof := nat_of_isl hN (pdig_dg (m / 1000000000) (digs m).length) (n := (digs m).length) hpl.symm (by omega) ⟨.nil, p + 1, .nil⟩
        rw [pdig_val] at hof
        refine G_run hN (G_v rfl rfl <| G_c rfl rfl (Ans_to (Imp.num _) hof) <| G_v rfl rfl <| G_v rfl rfl <| G_v rfl rfl <| G_v rfl rfl <| G_nil) ?_
        have hr : m % 1000000000 < 1000000000 := by omega
        refine G_run hN (G_v rfl rfl <| G_c rfl rfl (strconv_FormatUint_ans (m % 1000000000) hr _) <| G_v rfl rfl <| G_nil) ?_
        have hlr := ntext_len (m % 1000000000)
        have hd9 : ndig (m % 1000000000) ≤ 9 := ndig_le (d := 9) (by omega) (by decide)
        have hd1 : 1 ≤ ndig (m % 1000000000) := by
          rcases Nat.eq_zero_or_pos (m % 1000000000) with h | h
          · rw [h]; exact Nat.le_refl _
          · exact (ndig_spec h).2.2
        have hna := ndig_digs a h0
        have hla3 := ntext_len a
        have hal : acc.length ≤ 10995116277760 := by
          have := congrArg List.length hacc
          rw [List.length_append] at this
          omega
        refine G_mid (α := Unit) (fun _ => True) (fun _ => [(3, .isl ((digs (m / 1000000000)).map u32) (digs (m / 1000000000)).length), (4, .str acc), (7, .str (if 0 < m / 1000000000 then ptext 9 (m % 1000000000) else ntext (m % 1000000000)))]) (fun _ => ⟨.nil, p + 1, .nil⟩) ?_ ?_
        · by_cases hq0 : 0 < m / 1000000000
          · have hql := (digs_last hq0).2
            refine G_run hN (G_v rfl rfl <| G_v rfl rfl <| G_v rfl (g_bool (b := true) rfl (decide_eq_true (by omega))) <| G_nil) ?_
            refine G_if1 rfl ?_
            refine G_run1 hN (G_v rfl rfl <| G_v rfl rfl <| G_v rfl (g_int (b := ((9 - ndig (m % 1000000000) : Nat) : Int)) rfl (wi64 (by omega) (by omega) (by omega))) <| G_c rfl rfl (strings_Repeat_0 _ (by omega) _) <| G_v rfl rfl <| G_v rfl (g_cat (x := ptext 9 (m % 1000000000)) rfl rfl (by rw [List.length_replicate, hlr]; omega) (ntext_pad hr)) <| G_v rfl rfl <| G_nil) ?_
            exact G_done () trivial (M1 rfl <| M1 rfl <| M2 rfl (by rw [if_pos hq0]) M0) (Heap.Sub.refl _)
          · have hq1 : m / 1000000000 = 0 := by omega
            refine G_run hN (G_v rfl rfl <| G_v rfl rfl <| G_v rfl (g_bool (b := false) rfl (by rw [hq1]; rfl)) <| G_nil) ?_
            refine G_if0 rfl (G_skip ?_)
            exact G_done () trivial (M1 rfl <| M1 rfl <| M2 rfl (by rw [if_neg hq0]) M0) (Heap.Sub.refl _)
        · rintro ⟨⟩ _
          have hpiece : (if 0 < m / 1000000000 then ptext 9 (m % 1000000000) else ntext (m % 1000000000)).length ≤ 9 := by
            split
            · rw [ptext_len]; omega
            · omega
          refine G_run1 hN (G_v rfl rfl <| G_v rfl rfl <| G_v rfl (g_cat rfl rfl (by omega) rfl) <| G_v rfl rfl <| G_nil) ?_
          refine G_popb (G_again (m / 1000000000, _, p + 1) ⟨by simp only; omega, ?_⟩ (Nat.div_lt_self hm (by decide)) (M1 rfl <| M1 rfl M0) (Heap.Sub.refl _))
          simp only
          by_cases hq0 : 0 < m / 1000000000
          · refine .inr ⟨hq0, ?_⟩
            rw [if_pos hq0, ← List.append_assoc, ← ntext_split hq0, hacc]
          · refine .inl ⟨by omega, ?_⟩
            rw [if_neg hq0, ← hacc]
            congr 2
            omega
    · intro p _
      refine G_seq ?_
      have hne : (ntext a == []) = false := by
        have := ntext_len a
        have h2 := (ndig_spec h0).2.2
        cases hh : ntext a with
        | nil => rw [hh] at this; simp at this; omega
        | cons b l => rfl
      refine G_run hN (G_v rfl rfl <| G_v rfl (g_bool (b := false) rfl hne) <| G_nil) ?_
      refine G_if0 rfl (G_skip (G_pop ?_))
      refine G_run hN (G_v rfl rfl <| G_v rfl rfl <| G_nil) ?_
      exact G_ret (G_end rfl (.str _))
end Go.Eng
end
