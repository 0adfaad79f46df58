import Derived.Test.YtekfcbeballilaaGreatDoorSb
import Derived.Test.YtekfcbeballilaaGreatDoorNd
import Derived.Test.YtekfcbeballilaaGreatDoorNe
import Derived.Lib.MakeNoZero
import Derived.Lib.Bytealg
section
namespace Go.Eng
open Go Go.RowKit Go.Proofs
/-- What the functions without a body answer. -/
def ext0 : ExtF := fun f args H => match f, args with
  | 370, [x] => some (x, H)
  | 372, [.str s, .int .u8 c] => some (.int .i64 (Lib.indexByte s c.toNat.toUInt8), H)
  | 371, [.int .i64 (.ofNat n)] => cond (Nat.ble n 281474976710656) (some (.slice H.nx 0 n n false 1, H.allocT (.cells (List.replicate n .undef)) 5 none)) none
  | _, _ => none
theorem u247 : Tryz.prog.underlying 247 = some (.slice 5) := by kernel_rfl
theorem ext0_ok {cx : Cx} (hP : cx.P = Tryz.prog) (hX : cx.ext = ext0) : ∀ g args H x H', cx.ext g args H = some (x, H') → ∀ ρ z pv w0 w vs, Rel H ρ z pv w0 w → GlOk ρ z cx.gl → VRs ρ z args vs →
    ∃ u w' ρ', (callFunc g ⟨vs⟩).run cx.P w = .ok (.value u) w' ∧ Rel H' ρ' z pv w0 w' ∧ Ext ρ ρ' z z ∧ VR ρ' z x u := by
  intro g args H x H' h ρ z pv w0 w vs hR _ hV
  rw [hX] at h
  rw [hP]
  unfold ext0 at h
  split at h
  · cases h
    cases hV with | cons _ v _ vs hv hs =>
    cases hs
    refine ⟨v, w, ρ, ?_, hR, Ext.refl _ _, hv⟩
    rw [run_callFunc_extern (fn := Tryz.f370) (e := Extern.AbiNoEscape.same) Tryz.func370 (by kernel_rfl) (by kernel_rfl) (by kernel_rfl) (by kernel_rfl)]
    rfl
  · cases h
    cases hV with | cons _ v _ vs hv hs =>
    cases hs with | cons _ v2 _ vs hv2 hs =>
    cases hs
    cases hv
    cases hv2
    refine ⟨_, w, ρ, ?_, hR, Ext.refl _ _, .int .i64 _⟩
    rw [run_callFunc_extern (fn := Tryz.f372) (e := Extern.BytealgIndexByte.indexByte) Tryz.func372 (by kernel_rfl) (by kernel_rfl) (by kernel_rfl) (by kernel_rfl)]
    rw [Lib.run_indexByteString]
    rfl
  · rename_i n
    cases hn : Nat.ble n 281474976710656 with
    | false => rw [hn] at h; cases h
    | true =>
      rw [hn] at h
      cases h
      cases hV with | cons _ v _ vs hv hs =>
      cases hs
      cases hv
      obtain ⟨cs, h1, h2, _⟩ := Lib.run_makeNoZero (P := Tryz.prog) w #[3] 247 5 u247 n (Nat.le_of_ble_eq_true hn)
      have hv : VRs ρ z (List.replicate n .undef) (cs.toList.take n) := VRs.of_at (by simp; omega) fun i x v hx hv => by
        rw [List.getElem?_replicate] at hx
        split at hx
        · cases hx; exact .undef v
        · cases hx
      have hlen : (cs.toList.take n ++ cs.toList.drop n).length = cs.size := by rw [List.take_append_drop]; simp
      have hq := ((hR.drew (w.drawn + 1)).drew (w.drawn + 2)).alloc_cellsT (cs.toList.drop n) 5 (0, 0) (fun j _ hj => absurd hj (Nat.not_lt_zero _)) hv (k := none) (fun m hm => by cases hm)
      rw [hlen, List.take_append_drop, Array.toArray_toList] at hq
      have hfr := hR.fresh H.nx (Nat.le_refl _)
      refine ⟨_, _, _, ?_, hq, ?_, .slice _ 0 _ _ false 1 w.heap.size 0 cs.size cs.size _ (plSet_same _ _ _) (Nat.le_refl _) h2 (fun h => by cases h) (fun _ => rfl) (by omega)⟩
      · rw [run_callFunc_extern (fn := Tryz.f371) (e := Extern.BytealgMakeNoZero.makeNoZero #[3] #[247]) Tryz.func371 (by kernel_rfl) (by kernel_rfl) (by kernel_rfl) (by kernel_rfl)]
        have h1' : (Extern.BytealgMakeNoZero.makeNoZero #[3] #[247] #[.int .i64 (Int.ofNat n)]).run Tryz.prog w = _ := h1
        rw [h1']
        rfl
      · exact hR.ext_alloc _
  · cases h
end Go.Eng
end
section
namespace Go.Eng
set_option maxRecDepth 1000000
open Go Go.RowKit Go.Proofs
/-- Types that lie in others. -/
def lies0 : LiesF := fun e n off u => match e, n, off, u with
  | 290, 2, 0, 290 => true
  | 292, 3, 0, 290 => true
  | _, _, _, _ => false
theorem lies_a : liesAt Tryz.prog Tryz.prog.depth 290 (2 / Tryz.prog.cellsOf 290) 0 290 1 = true := by decide +kernel
theorem lies_b : liesAt Tryz.prog Tryz.prog.depth 292 (3 / Tryz.prog.cellsOf 292) 0 290 1 = true := by decide +kernel
theorem lies0_ok (e n off : Nat) (u : TypeId) (h : lies0 e n off u = true) : liesAt Tryz.prog Tryz.prog.depth e (n / Tryz.prog.cellsOf e) off u 1 = true := by
  unfold lies0 at h
  split at h
  · exact lies_a
  · exact lies_b
  · cases h
theorem cz_ok : CxOk (cz ext0 lies0) := ⟨(inferInstance : TabOk tab Tryz.prog), lies0_ok, ext0_ok rfl rfl, fn_ok⟩
end Go.Eng
end
section
namespace Go.Eng
open Go.RowKit
section
variable {cx : Cx} {m : List (Nat × AV)} {H : Heap}
theorem g_sfrom {t : TypeId} {a b : Operand} {s : List UInt8} {kk : IntKind} {i : Int} (n : Nat)
    (ha : rd cx m a = some (.str s)) (hb : rd cx m b = some (.int kk i)) (hu : cx.D.und t = some .string) (hn : i = n) (hl : n ≤ s.length) :
    sop cx m H (.slice t a (some b) none none) = some (.val (.str (s.drop n)) H) := by
  subst hn
  have h2 : 0 ≤ (n : Int) ∧ (n : Int) ≤ (s.length : Int) := by omega
  simp only [sop, ha, rdo, hb, aSlice, hu, bd, h2, and_self, if_true, Int.toNat_natCast, Option.map_some, valR]
  rw [List.take_of_length_le (by simp)]
theorem g_sto {t : TypeId} {a b : Operand} {s : List UInt8} {kk : IntKind} {i : Int} (n : Nat)
    (ha : rd cx m a = some (.str s)) (hb : rd cx m b = some (.int kk i)) (hu : cx.D.und t = some .string) (hn : i = n) (hl : n ≤ s.length) :
    sop cx m H (.slice t a none (some b) none) = some (.val (.str (s.take n)) H) := by
  subst hn
  have h2 : 0 ≤ (n : Int) ∧ (n : Int) ≤ (s.length : Int) := by omega
  simp only [sop, ha, rdo, hb, aSlice, hu, bd, h2, and_self, if_true, Int.toNat_natCast, Option.map_some, valR, List.drop_zero, Nat.sub_zero]
theorem g_scut {t : TypeId} {a b c : Operand} {s : List UInt8} {k1 k2 : IntKind} {i j : Int} (lo hi : Nat)
    (ha : rd cx m a = some (.str s)) (hb : rd cx m b = some (.int k1 i)) (hc : rd cx m c = some (.int k2 j)) (hu : cx.D.und t = some .string) (hn : i = lo) (hm : j = hi) (h1 : lo ≤ hi) (hl : hi ≤ s.length) :
    sop cx m H (.slice t a (some b) (some c) none) = some (.val (.str ((s.drop lo).take (hi - lo))) H) := by
  subst hn hm
  have h2 : 0 ≤ (hi : Int) ∧ (hi : Int) ≤ (s.length : Int) := by omega
  have h3 : 0 ≤ (lo : Int) ∧ (lo : Int) ≤ (hi : Int) := by omega
  simp only [sop, ha, rdo, hb, hc, aSlice, hu, bd, h2, h3, and_self, if_true, Int.toNat_natCast, Option.map_some, valR]
theorem g_sidx {t : TypeId} {a b : Operand} {s : List UInt8} {kk : IntKind} {i : Int} {c : UInt8} (n : Nat)
    (ha : rd cx m a = some (.str s)) (hb : rd cx m b = some (.int kk i)) (hu : cx.D.und t = some .string) (hn : i = n) (hl : s[n]? = some c) :
    sop cx m H (.index t a b) = some (.val (.int .u8 c.toNat) H) := by
  subst hn
  have h2 : 0 ≤ (n : Int) := by omega
  simp only [sop, ha, hb, aIndex, hu, h2, if_true, Int.toNat_natCast, hl, Option.map_some, valR]
end
end Go.Eng
end
section
namespace Go.Eng
open Go Go.RowKit Go.Proofs
set_option maxHeartbeats 4000000
set_option maxRecDepth 10000
/-- The seat's context. -/
noncomputable abbrev cs0 : Cx := cz ext0 lies0
theorem hpre (s p : List UInt8) : p.isPrefixOf s = (decide ((p.length : Int) ≤ s.length) && (s.take p.length == p)) := by
  rw [Bool.eq_iff_iff]
  simp only [Bool.and_eq_true, decide_eq_true_eq, beq_iff_eq, List.isPrefixOf_iff_prefix]
  constructor
  · intro h
    exact ⟨by have := h.length_le; omega, (List.prefix_iff_eq_take.1 h).symm⟩
  · rintro ⟨_, h⟩
    rw [← h]
    exact List.take_prefix _ _
theorem istringslite_HasPrefix_ans (s p : List UInt8) (H : Heap) : Ans cs0 F.istringslite_HasPrefix [.str s, .str p] H fun x K => x = .bool (p.isPrefixOf s) ∧ K = H := by
  refine G_body cz_ok (fn := B.istringslite_HasPrefix) (sz := 18) rfl rfl rfl rfl rfl ?_
  refine G_run cz_ok (G_v rfl rfl <| G_nil) ?_
  by_cases h : p.length ≤ s.length
  · refine G_run cz_ok (G_v rfl rfl <| G_v rfl rfl <| G_v rfl rfl <| G_v rfl rfl <| G_v rfl (g_bool (b := true) rfl (decide_eq_true (by omega))) <| G_v rfl rfl <| G_g rfl rfl <| G_v rfl rfl <| G_g rfl rfl <| G_v rfl rfl <| G_g rfl rfl <| G_v rfl rfl <| G_g rfl rfl <| G_v rfl (g_sto p.length rfl rfl rfl rfl h) <| G_g rfl rfl <| G_v rfl rfl <| G_g rfl rfl <| G_v rfl rfl <| G_v rfl rfl <| G_v rfl rfl <| G_nil) ?_
    refine G_ret (G_end rfl ⟨?_, rfl⟩)
    rw [hpre, decide_eq_true (by omega)]; rfl
  · refine G_run cz_ok (G_v rfl rfl <| G_v rfl rfl <| G_v rfl rfl <| G_v rfl rfl <| G_v rfl (g_bool (b := false) rfl (decide_eq_false (by omega))) <| G_v rfl rfl <| G_n rfl rfl rfl rfl <| G_n rfl rfl rfl rfl <| G_n rfl rfl rfl rfl <| G_n rfl rfl rfl rfl <| G_n rfl rfl rfl rfl <| G_n rfl rfl rfl rfl <| G_v rfl rfl <| G_v rfl rfl <| G_nil) ?_
    refine G_ret (G_end rfl ⟨?_, rfl⟩)
    rw [hpre, decide_eq_false (by omega)]; rfl
/-- What CutPrefix answers. -/
def cutPre (s p : List UInt8) : AV := bif p.isPrefixOf s then .tuple [.str (s.drop p.length), .bool true] else .tuple [.str s, .bool false]
theorem istringslite_CutPrefix_ans (s p : List UInt8) (H : Heap) : Ans cs0 F.istringslite_CutPrefix [.str s, .str p] H fun x K => x = cutPre s p ∧ K = H := by
  refine G_body cz_ok (fn := B.istringslite_CutPrefix) (sz := 15) rfl rfl rfl rfl rfl ?_
  refine G_run cz_ok (G_v rfl rfl <| G_v rfl rfl <| G_nil) ?_
  refine G_seq ?_
  have hc := istringslite_HasPrefix_ans s p H
  cases h : p.isPrefixOf s with
  | false =>
    rw [h] at hc
    refine G_run cz_ok (G_v rfl rfl <| G_v rfl rfl <| G_c rfl rfl hc <| G_v rfl rfl <| G_nil) ?_
    refine G_if1 rfl ?_
    refine G_run cz_ok (G_v rfl rfl <| G_v rfl rfl <| G_v rfl rfl <| G_nil) ?_
    refine G_ret (G_end rfl ⟨?_, rfl⟩)
    rw [cutPre, h]; rfl
  | true =>
    rw [h] at hc
    have hl : p.length ≤ s.length := (List.isPrefixOf_iff_prefix.1 h).length_le
    refine G_run cz_ok (G_v rfl rfl <| G_v rfl rfl <| G_c rfl rfl hc <| G_v rfl rfl <| G_nil) ?_
    refine G_if0 rfl (G_skip (G_pop ?_))
    refine G_run cz_ok (G_v rfl rfl <| G_v rfl rfl <| G_v rfl rfl <| G_v rfl (g_sfrom p.length rfl rfl rfl rfl hl) <| G_v rfl rfl <| G_v rfl rfl <| G_nil) ?_
    refine G_ret (G_end rfl ⟨?_, rfl⟩)
    rw [cutPre, h]; rfl
theorem strings_CutPrefix_ans (s p : List UInt8) (H : Heap) : Ans cs0 F.strings_CutPrefix [.str s, .str p] H fun x K => x = cutPre s p ∧ K = H := by
  refine G_body cz_ok (fn := B.strings_CutPrefix) (sz := 11) rfl rfl rfl rfl rfl ?_
  refine G_run cz_ok (G_v rfl rfl <| G_v rfl rfl <| G_nil) ?_
  have hc := istringslite_CutPrefix_ans s p H
  unfold cutPre at hc ⊢
  cases h : p.isPrefixOf s with
  | false =>
    rw [h] at hc
    refine G_run cz_ok (G_v rfl rfl <| G_v rfl rfl <| G_c rfl rfl hc <| G_v rfl rfl <| G_v rfl rfl <| G_v rfl rfl <| G_v rfl rfl <| G_nil) ?_
    exact G_ret (G_end rfl ⟨rfl, rfl⟩)
  | true =>
    rw [h] at hc
    refine G_run cz_ok (G_v rfl rfl <| G_v rfl rfl <| G_c rfl rfl hc <| G_v rfl rfl <| G_v rfl rfl <| G_v rfl rfl <| G_v rfl rfl <| G_nil) ?_
    exact G_ret (G_end rfl ⟨rfl, rfl⟩)
theorem istringslite_IndexByte_ans (s : List UInt8) (c : Nat) (H : Heap) : Ans cs0 F.istringslite_IndexByte [.str s, .int .u8 c] H fun x K => x = .int .i64 (Lib.indexByte s c.toUInt8) ∧ K = H := by
  refine G_body cz_ok (fn := B.istringslite_IndexByte) (sz := 8) rfl rfl rfl rfl rfl ?_
  refine G_run cz_ok (G_v rfl rfl <| G_nil) ?_
  refine G_run cz_ok (G_v rfl rfl <| G_v rfl rfl <| G_v rfl rfl <| G_v rfl rfl <| G_nil) ?_
  exact G_ret (G_end rfl ⟨rfl, rfl⟩)
end Go.Eng
end
section
namespace Go.Eng
open Go Go.RowKit Go.Proofs
set_option maxHeartbeats 4000000
set_option maxRecDepth 10000
theorem istringslite_Index_one (s : List UInt8) (c : UInt8) (H : Heap) : Ans cs0 F.istringslite_Index [.str s, .str [c]] H fun x K => x = .int .i64 (Lib.indexByte s c) ∧ K = H := by
  refine G_body cz_ok (fn := B.istringslite_Index) (sz := 143) rfl rfl rfl rfl rfl ?_
  refine G_run cz_ok (G_v rfl rfl <| G_nil) ?_
  refine G_run cz_ok (G_v rfl rfl <| G_v rfl rfl <| G_v rfl rfl <| G_nil) ?_
  refine G_seq ?_
  refine G_block ?_ -- 0
  cases h : ([c] == s) with
  | true =>
    refine G_run cz_ok (G_v rfl rfl <| G_v rfl rfl <| G_v rfl rfl <| G_g rfl rfl <| G_v rfl rfl <| G_g rfl rfl <| G_v rfl rfl <| G_g rfl rfl <| G_v rfl (g_bool (b := true) rfl h) <| G_v rfl rfl <| G_v rfl rfl <| G_nil) ?_
    refine G_if1 rfl ?_
    refine G_run cz_ok (G_v rfl rfl <| G_nil) ?_
    refine G_ret (G_end rfl ⟨?_, rfl⟩)
    have := eq_of_beq h
    rw [← this]
    simp [Lib.indexByte, wrapR]
  | false =>
    refine G_run cz_ok (G_v rfl rfl <| G_v rfl rfl <| G_v rfl rfl <| G_g rfl rfl <| G_v rfl rfl <| G_g rfl rfl <| G_v rfl rfl <| G_g rfl rfl <| G_v rfl (g_bool (b := false) rfl h) <| G_v rfl rfl <| G_v rfl rfl <| G_nil) ?_
    refine G_if0 rfl ?_
    refine G_run cz_ok (G_v rfl rfl <| G_v rfl (g_bool (b := true) rfl rfl) <| G_v rfl rfl <| G_nil) ?_
    refine G_if1 rfl ?_
    refine G_run cz_ok (G_v rfl rfl <| G_v rfl rfl <| G_v rfl (g_sidx (c := c) 0 rfl rfl rfl rfl rfl) <| G_c rfl rfl (istringslite_IndexByte_ans s c.toNat _) <| G_v rfl rfl <| G_nil) ?_
    refine G_ret (G_end rfl ⟨?_, rfl⟩)
    simp [wrapR]
/-- A text cut at a byte. -/
def cutAt (c : UInt8) : List UInt8 → List UInt8 × List UInt8 × Bool
  | [] => ([], [], false)
  | b :: l => if b == c then ([], l, true) else ((b :: (cutAt c l).1), (cutAt c l).2.1, (cutAt c l).2.2)
theorem cutAt_idx (c : UInt8) : ∀ s : List UInt8, (Lib.indexByte s c = -1 ∧ cutAt c s = (s, [], false)) ∨ ∃ n : Nat, n < s.length ∧ Lib.indexByte s c = n ∧ cutAt c s = (s.take n, s.drop (n + 1), true)
  | [] => .inl ⟨rfl, rfl⟩
  | b :: l => by
    unfold Lib.indexByte cutAt
    cases hb : b == c with
    | true => exact .inr ⟨0, by simp, by simp, by simp⟩
    | false =>
      rcases cutAt_idx c l with ⟨h1, h2⟩ | ⟨n, h0, h1, h2⟩
      · refine .inl ⟨?_, ?_⟩
        · simp [h1]
        · simp [h2]
      · refine .inr ⟨n + 1, by simpa using h0, ?_, ?_⟩
        · rw [h1]
          have : ¬ ((n : Int) == -1) = true := by simp
          simp [this]
        · simp [h2]
def cutAV (c : UInt8) (s : List UInt8) : AV := .tuple [.str (cutAt c s).1, .str (cutAt c s).2.1, .bool (cutAt c s).2.2]
theorem istringslite_Cut_one (s : List UInt8) (hs : s.length < 9223372036854775808) (c : UInt8) (H : Heap) : Ans cs0 F.istringslite_Cut [.str s, .str [c]] H fun x K => x = cutAV c s ∧ K = H := by
  refine G_body cz_ok (fn := B.istringslite_Cut) (sz := 23) rfl rfl rfl rfl rfl ?_
  refine G_run cz_ok (G_v rfl rfl <| G_v rfl rfl <| G_v rfl rfl <| G_nil) ?_
  refine G_seq ?_
  have hc := istringslite_Index_one s c H
  rcases cutAt_idx c s with ⟨h1, h2⟩ | ⟨n, h0, h1, h2⟩
  · rw [h1] at hc
    refine G_run cz_ok (G_v rfl rfl <| G_v rfl rfl <| G_c rfl rfl hc <| G_v rfl rfl <| G_nil) ?_
    refine G_run cz_ok (G_v rfl rfl <| G_v rfl (g_bool (b := false) rfl rfl) <| G_nil) ?_
    refine G_if0 rfl (G_skip (G_pop ?_))
    refine G_run cz_ok (G_v rfl rfl <| G_v rfl rfl <| G_v rfl rfl <| G_v rfl rfl <| G_nil) ?_
    refine G_ret (G_end rfl ⟨?_, rfl⟩)
    rw [cutAV, h2]; rfl
  · rw [h1] at hc
    refine G_run cz_ok (G_v rfl rfl <| G_v rfl rfl <| G_c rfl rfl hc <| G_v rfl rfl <| G_nil) ?_
    refine G_run cz_ok (G_v rfl rfl <| G_v rfl (g_bool (b := true) rfl (decide_eq_true (by omega))) <| G_nil) ?_
    refine G_if1 rfl ?_
    refine G_draw cz_ok mixed (by rfl) (D_q rfl rfl rfl <| D_q rfl rfl rfl <| D_q rfl rfl (g_sto n rfl rfl rfl rfl (by omega)) <| D_q rfl rfl rfl <| D_q rfl rfl rfl <| D_q rfl rfl rfl <| D_q rfl rfl rfl <| D_q rfl rfl (g_int (b := ((n + 1 : Nat) : Int)) rfl (wi64 (by simp) (by omega) (by omega))) <| D_q rfl rfl (g_sfrom (n + 1) rfl rfl rfl rfl (by omega)) <| D_q rfl rfl rfl <| D_q rfl rfl rfl <| D_q rfl rfl rfl <| D_nil) ?_
    refine G_ret (G_end rfl ⟨?_, rfl⟩)
    rw [cutAV, h2]; rfl
theorem strings_Cut_one (s : List UInt8) (hs : s.length < 9223372036854775808) (c : UInt8) (H : Heap) : Ans cs0 F.strings_Cut [.str s, .str [c]] H fun x K => x = cutAV c s ∧ K = H := by
  refine G_body cz_ok (fn := B.strings_Cut) (sz := 13) rfl rfl rfl rfl rfl ?_
  refine G_run cz_ok (G_v rfl rfl <| G_v rfl rfl <| G_v rfl rfl <| G_nil) ?_
  refine G_run cz_ok (G_v rfl rfl <| G_v rfl rfl <| G_c rfl rfl (istringslite_Cut_one s hs c _) <| G_v rfl rfl <| G_v rfl rfl <| G_v rfl rfl <| G_v rfl rfl <| G_v rfl rfl <| G_v rfl rfl <| G_nil) ?_
  exact G_ret (G_end rfl ⟨rfl, rfl⟩)
end Go.Eng
end
section
namespace Go.Eng
open Go Go.RowKit Go.Proofs
theorem Ans_evH {cx : Cx} (hN : CxOk cx) (hS : SmOk cx) (hm : cx.P.follows .mixedOrders = true) {f : FuncId} {args : List AV} {H H' : Heap} {x : AV} {n : Nat} (h : evCall (ev drawA cx n) cx f args H = some (x, H')) :
    Ans cx f args H fun y K => y = x ∧ K = H' := fun ρ z pv w0 w vs hR hG hV =>
  (evCall_ok hN hS (ev_ok hN hS (drawA_ok hm) n) f args H x H' h ρ z pv w0 w vs hR hG hV).mono fun en w' hp => by
    obtain ⟨u, ρ', z', h1, h2, h3, h4⟩ := hp
    exact ⟨u, ρ', z', x, H', h1, h2, h3, h4, rfl, rfl⟩
/-- A closed call's answer, made immutable. -/
def runF (cx : Cx) (n m : Nat) (f : FuncId) (args : List AV) : Option AV := match evCall (ev drawA cx n) cx f args H0 with
  | some (x, H) => frz H m x
  | none => none
theorem Ans_ev {cx : Cx} (hN : CxOk cx) (hS : SmOk cx) (hm : cx.P.follows .mixedOrders = true) (hg : ∀ g cells, cx.gl g = some cells → AV.frees cells = true) {f : FuncId} {args : List AV} {y : AV} {n m : Nat} (hf : AV.frees args = true) (h : runF cx n m f args = some y) (H : Heap) :
    Ans cx f args H fun x K => x = y ∧ K = H := by
  unfold runF at h
  split at h
  · rename_i x H1 he
    exact Ans_closed hg hf ((Ans_evH hN hS hm he).mono fun z K hz => ⟨m, by rw [hz.1, hz.2]; exact h⟩) H
  · cases h
theorem cs0_sm : SmOk cs0 := fun f args H x H' h => by cases h
def isDg (b : Nat) : Bool := Nat.ble 48 b && Nat.ble b 57
def setD : List AV := (List.range 256).map fun i => .bool (isDg i)
theorem strings_makeASCIISet_dig (H : Heap) : Ans cs0 F.strings_makeASCIISet [.str [48, 49, 50, 51, 52, 53, 54, 55, 56, 57]] H fun x K => x = .tuple [.agg setD, .bool true] ∧ K = H :=
  Ans_ev cz_ok cs0_sm mixed gl0_free (n := 1000) (m := 300) rfl (by kernel_rfl) H
end Go.Eng
end
section
namespace Go.Eng
open Go Go.RowKit Go.Proofs
set_option maxHeartbeats 4000000
set_option maxRecDepth 10000
theorem g_aidx1 {cx : Cx} {m : List (Nat × AV)} {H : Heap} {t : TypeId} {a b : Operand} {id off len el : Nat} {kk : IntKind} {i : Int} {inf : TypeInfo} (n p : Nat)
    (ha : rd cx m a = some (.ptr id off)) (hb : rd cx m b = some (.int kk i)) (hu : cx.D.und t = some (.array len el)) (hi : cx.D.inf el = some inf) (hz : inf.size = 1) (hn : i = n) (hl : n < len) (hp : off + n = p) :
    sop cx m H (.indexAddr t a b) = some (.val (.ptr id p) H) := by
  subst hn hp
  have h2 : 0 ≤ (n : Int) ∧ (n : Int) < (len : Int) := by omega
  simp only [sop, ha, hb, aIndexAddr, hu, hi, h2, and_self, if_true, Int.toNat_natCast, valR, hz, Nat.mul_one]
theorem setD_get (c : Nat) (h : c < 256) : setD[c]? = some (.bool (isDg c)) := by
  unfold setD
  rw [List.getElem?_map, List.getElem?_range h]; rfl
variable {H : Heap} {id : Nat}
theorem strings_contains_dig (hg : H.t.get id = some (.cells setD)) (c : Nat) (h : c < 256) : Ans cs0 F.strings_asciiSet_contains [.ptr id 0, .int .u8 c] H fun x K => x = .bool (isDg c) ∧ K = H := by
  refine G_body cz_ok (fn := B.strings_asciiSet_contains) (sz := 10) rfl rfl rfl rfl rfl ?_
  refine G_run cz_ok (G_v rfl rfl <| G_nil) ?_
  refine G_run cz_ok (G_v rfl rfl <| G_v rfl rfl <| G_v rfl rfl <| G_v rfl (g_aidx1 c c rfl rfl rfl rfl rfl rfl h (Nat.zero_add _)) <| G_v rfl (g_load (cs := setD) (off := c) rfl (by simp only [cellsAt, hg]) rfl rfl rfl (setD_get _ h)) <| G_v rfl rfl <| G_nil) ?_
  exact G_ret (G_end rfl ⟨rfl, rfl⟩)
def trimL (s : List UInt8) : List UInt8 := s.dropWhile fun b => isDg b.toNat
def trimR (s : List UInt8) : List UInt8 := (s.reverse.dropWhile fun b => isDg b.toNat).reverse
theorem strings_trimLeft_dig (hg : H.t.get id = some (.cells setD)) (s : List UInt8) : Ans cs0 F.strings_trimLeftASCII [.str s, .ptr id 0] H fun x K => x = .str (trimL s) ∧ K = H := by
  refine G_body cz_ok (fn := B.strings_trimLeftASCII) (sz := 16) rfl rfl rfl rfl rfl ?_
  refine G_run cz_ok (G_v rfl rfl <| G_nil) ?_
  refine G_mid (α := Unit) (fun _ => True) (fun _ => [(0, .str (trimL s))]) (fun _ => H) ?_ ?_
  · refine G_block ?_ -- 0
    refine G_loop (α := List UInt8) (fun t => trimL t = trimL s) (fun t => t.length) (fun t => [(0, .str t), (1, .ptr id 0)]) (fun _ => H) s rfl (M1 rfl <| M1 rfl M0) (Heap.Sub.refl H) fun t ht => ?_
    refine G_seq ?_
    match t, ht with
    | [], ht =>
      refine G_run cz_ok (G_v rfl rfl <| G_v rfl rfl <| G_v rfl (g_bool (b := false) rfl rfl) <| G_nil) ?_
      refine G_if0 rfl ?_
      refine G_exit (G_pops (G_leave (G_popx (G_done () trivial (M2 rfl (by rw [← ht]; rfl) M0) (Heap.Sub.refl H)))))
    | b :: l, ht =>
      refine G_run cz_ok (G_v rfl rfl <| G_v rfl rfl <| G_v rfl (g_bool (b := true) rfl (decide_eq_true (by simp only [List.length_cons]; omega))) <| G_nil) ?_
      refine G_if1 rfl (G_skip (G_pop ?_))
      refine G_block ?_ -- 1
      refine G_seq ?_
      cases hb : isDg b.toNat with
      | false =>
        have hc := strings_contains_dig hg b.toNat (by have := b.toNat_lt; omega)
        rw [hb] at hc
        refine G_run cz_ok (G_v rfl rfl <| G_v rfl rfl <| G_v rfl (g_sidx (c := b) 0 rfl rfl rfl rfl rfl) <| G_c rfl rfl hc <| G_v rfl rfl <| G_nil) ?_
        refine G_if1 rfl ?_
        refine G_exit (G_pops (G_popy rfl (G_leave (G_popx (G_done () trivial (M2 rfl (by rw [← ht, trimL, List.dropWhile_cons, hb]; rfl) M0) (Heap.Sub.refl H))))))
      | true =>
        have hc := strings_contains_dig hg b.toNat (by have := b.toNat_lt; omega)
        rw [hb] at hc
        refine G_run cz_ok (G_v rfl rfl <| G_v rfl rfl <| G_v rfl (g_sidx (c := b) 0 rfl rfl rfl rfl rfl) <| G_c rfl rfl hc <| G_v rfl rfl <| G_nil) ?_
        refine G_if0 rfl (G_skip (G_pop ?_))
        refine G_run1 cz_ok (G_v rfl rfl <| G_v rfl (g_sfrom 1 rfl rfl rfl rfl (by simp)) <| G_v rfl rfl <| G_nil) ?_
        refine G_popb (G_again l (by rw [← ht, trimL, trimL, List.dropWhile_cons, hb]; rfl) (by simp) (M1 rfl <| M1 rfl M0) (Heap.Sub.refl H))
  · rintro ⟨⟩ _
    refine G_run cz_ok (G_v rfl rfl <| G_v rfl rfl <| G_nil) ?_
    exact G_ret (G_end rfl ⟨rfl, rfl⟩)
theorem strings_trimRight_dig (hg : H.t.get id = some (.cells setD)) (s : List UInt8) (hs : s.length < 9223372036854775808) : Ans cs0 F.strings_trimRightASCII [.str s, .ptr id 0] H fun x K => x = .str (trimR s) ∧ K = H := by
  refine G_body cz_ok (fn := B.strings_trimRightASCII) (sz := 22) rfl rfl rfl rfl rfl ?_
  refine G_run cz_ok (G_v rfl rfl <| G_nil) ?_
  refine G_mid (α := Unit) (fun _ => True) (fun _ => [(0, .str (trimR s))]) (fun _ => H) ?_ ?_
  · refine G_block ?_ -- 0
    refine G_loop (α := List UInt8) (fun r => trimL r = trimL s.reverse ∧ r.length ≤ s.length) (fun t => t.length) (fun t => [(0, .str t.reverse), (1, .ptr id 0)]) (fun _ => H) s.reverse ⟨rfl, by simp⟩ (M2 rfl (by rw [List.reverse_reverse]) <| M1 rfl M0) (Heap.Sub.refl H) fun t ht => ?_
    refine G_seq ?_
    match t, ht with
    | [], ⟨ht, _⟩ =>
      refine G_run cz_ok (G_v rfl rfl <| G_v rfl rfl <| G_v rfl (g_bool (b := false) rfl rfl) <| G_nil) ?_
      refine G_if0 rfl ?_
      refine G_exit (G_pops (G_leave (G_popx (G_done () trivial (M2 rfl (by rw [trimR]; unfold trimL at ht; rw [← ht]; rfl) M0) (Heap.Sub.refl H)))))
    | b :: l, ⟨ht, hle⟩ =>
      have hlen : (b :: l).reverse.length = l.length + 1 := by simp
      have hx : (b :: l).reverse[l.length]? = some b := by simp
      have h63 : l.length + 1 ≤ s.length := by simpa using hle
      refine G_run cz_ok (G_v rfl rfl <| G_v rfl rfl <| G_v rfl (g_bool (b := true) rfl (decide_eq_true (by rw [hlen]; omega))) <| G_nil) ?_
      refine G_if1 rfl (G_skip (G_pop ?_))
      refine G_block ?_ -- 1
      refine G_seq ?_
      cases hb : isDg b.toNat with
      | false =>
        have hc := strings_contains_dig hg b.toNat (by have := b.toNat_lt; omega)
        rw [hb] at hc
        refine G_run cz_ok (G_v rfl rfl <| G_v rfl rfl <| G_v rfl rfl <| G_v rfl rfl <| G_v rfl (g_int (b := (l.length : Nat)) rfl (wi64 (by rw [hlen]; omega) (by omega) (by omega))) <| G_v rfl (g_sidx (c := b) l.length rfl rfl rfl rfl hx) <| G_c rfl rfl hc <| G_v rfl rfl <| G_nil) ?_
        refine G_if1 rfl ?_
        refine G_exit (G_pops (G_popy rfl (G_leave (G_popx (G_done () trivial (M2 rfl (by rw [trimR]; unfold trimL at ht; rw [← ht, List.dropWhile_cons, hb]; rfl) M0) (Heap.Sub.refl H))))))
      | true =>
        have hc := strings_contains_dig hg b.toNat (by have := b.toNat_lt; omega)
        rw [hb] at hc
        refine G_run cz_ok (G_v rfl rfl <| G_v rfl rfl <| G_v rfl rfl <| G_v rfl rfl <| G_v rfl (g_int (b := (l.length : Nat)) rfl (wi64 (by rw [hlen]; omega) (by omega) (by omega))) <| G_v rfl (g_sidx (c := b) l.length rfl rfl rfl rfl hx) <| G_c rfl rfl hc <| G_v rfl rfl <| G_nil) ?_
        refine G_if0 rfl (G_skip (G_pop ?_))
        refine G_run1 cz_ok (G_v rfl rfl <| G_v rfl rfl <| G_v rfl rfl <| G_v rfl (g_int (b := (l.length : Nat)) rfl (wi64 (by rw [hlen]; omega) (by omega) (by omega))) <| G_v rfl (g_sto l.length rfl rfl rfl rfl (by rw [hlen]; omega)) <| G_v rfl rfl <| G_nil) ?_
        refine G_popb (G_again l ⟨by rw [← ht, trimL, trimL, List.dropWhile_cons, hb]; rfl, by omega⟩ (by simp) (M2 rfl (by simp) <| M1 rfl M0) (Heap.Sub.refl H))
  · rintro ⟨⟩ _
    refine G_run cz_ok (G_v rfl rfl <| G_v rfl rfl <| G_nil) ?_
    exact G_ret (G_end rfl ⟨rfl, rfl⟩)
end Go.Eng
end
section
namespace Go.Eng
open Go Go.RowKit Go.Proofs
set_option maxHeartbeats 4000000
set_option maxRecDepth 10000
def dig10 : List UInt8 := [48, 49, 50, 51, 52, 53, 54, 55, 56, 57]
theorem strings_Trim_dig (s : List UInt8) (hs : s.length < 9223372036854775808) (H : Heap) : Ans cs0 F.strings_Trim [.str s, .str dig10] H fun x K => x = .str (trimL (trimR s)) ∧ K = H := by
  refine Ans_free gl0_free (Imp.refl _) rfl ?_ H
  refine G_body cz_ok (fn := B.strings_Trim) (sz := 43) rfl rfl rfl rfl rfl ?_
  refine G_run cz_ok (G_v rfl rfl <| G_nil) ?_
  refine G_seq ?_
  cases h0 : (s == []) with
  | true =>
    have := eq_of_beq h0
    subst this
    refine G_run cz_ok (G_v rfl rfl <| G_v rfl rfl <| G_v rfl rfl <| G_n rfl rfl rfl rfl <| G_n rfl rfl rfl rfl <| G_v rfl rfl <| G_nil) ?_
    refine G_if1 rfl ?_
    refine G_run cz_ok (G_v rfl rfl <| G_v rfl rfl <| G_nil) ?_
    exact G_ret (G_end rfl ⟨1, rfl⟩)
  | false =>
    refine G_run cz_ok (G_v rfl rfl <| G_v rfl (g_bool (b := false) rfl h0) <| G_v rfl rfl <| G_g rfl rfl <| G_v rfl rfl <| G_g rfl rfl <| G_v rfl rfl <| G_v rfl rfl <| G_nil) ?_
    refine G_if0 rfl (G_skip (G_pop ?_))
    refine G_seq ?_
    refine G_run cz_ok (G_v rfl rfl <| G_v rfl rfl <| G_v rfl rfl <| G_v rfl rfl <| G_n rfl rfl rfl rfl <| G_n rfl rfl rfl rfl <| G_n rfl rfl rfl rfl <| G_v rfl rfl <| G_nil) ?_
    refine G_if0 rfl (G_skip (G_pop ?_))
    refine G_seq ?_
    refine G_run cz_ok (G_v rfl rfl <| G_c rfl rfl (strings_makeASCIISet_dig _) <| G_v rfl rfl <| G_v rfl rfl <| G_v rfl rfl <| G_v rfl rfl <| G_s rfl <| G_v rfl rfl <| G_nil) ?_
    refine G_run cz_ok (G_v rfl rfl <| G_nil) ?_
    refine G_if1 rfl ?_
    refine G_run cz_ok (G_v rfl rfl <| G_c rfl rfl (strings_trimRight_dig (id := 0) (by kernel_rfl) s hs) <| G_c rfl rfl (strings_trimLeft_dig (id := 0) (by kernel_rfl) _) <| G_v rfl rfl <| G_nil) ?_
    exact G_ret (G_end rfl ⟨1, rfl⟩)
theorem dw_nil {α : Type} {p : α → Bool} : ∀ {l : List α}, l.dropWhile p = [] ↔ ∀ x ∈ l, p x = true
  | [] => by simp
  | a :: l => by
    rw [List.dropWhile_cons]
    cases h : p a with
    | true => simp [h, dw_nil (l := l)]
    | false => simp [h]
theorem dw_head {α : Type} {p : α → Bool} {y : α} {t : List α} : ∀ {l : List α}, l.dropWhile p = y :: t → p y = false
  | [], h => by simp at h
  | a :: l, h => by
    rw [List.dropWhile_cons] at h
    cases hp : p a with
    | true => rw [hp] at h; exact dw_head (by simpa using h)
    | false =>
      rw [hp] at h
      simp at h
      rw [← h.1]; exact hp
theorem trim_nil {s : List UInt8} : trimL (trimR s) = [] ↔ ∀ b ∈ s, isDg b.toNat = true := by
  unfold trimL trimR
  constructor
  · intro h x hx
    rw [dw_nil] at h
    by_cases hp : isDg x.toNat = true
    · exact hp
    · exfalso
      cases h2 : (s.reverse.dropWhile fun b => isDg b.toNat) with
      | nil =>
        rw [dw_nil] at h2
        exact hp (h2 x (by simpa using hx))
      | cons y l =>
        have h3 := dw_head h2
        have h4 := h y (by rw [h2]; simp)
        rw [h3] at h4
        cases h4
  · intro h
    have : (s.reverse.dropWhile fun b => isDg b.toNat) = [] := by
      rw [dw_nil]
      intro x hx
      exact h x (by simpa using hx)
    rw [this]
    rfl
end Go.Eng
end
