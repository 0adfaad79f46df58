import Derived.Test.YtekfcbeballilaaGreatDoorLd
import Derived.Test.YtekfcbeballilaaGreatDoorTie
import Derived.Test.YtekfcbeballilaaGreatDoorCards
import Derived.ChangeMaps5
import Derived.ProofKit
import Derived.OpenShut
import Derived.LaidMore
import Derived.Lay
import Derived.Carry
import Derived.Stop.Joined
section
namespace Go.Proofs.YtekfcbeballilaaGreatDoor
open Go Go.ChangeShapes Go.WideShapes Go.ChangeAt Go.RowKit
set_option maxHeartbeats 4000000
theorem own : ownKnob Tryz.prog.godebug = none := by kernel_rfl
/-- The numbers of the tables. -/
def db32 : List Int := [0, 1, 28, 2, 29, 14, 24, 3, 30, 22, 20, 15, 25, 17, 4, 8, 31, 27, 13, 23, 21, 19, 16, 7, 26, 12, 18, 6, 11, 5, 10, 9]
def db64 : List Int := [0, 1, 56, 2, 57, 49, 28, 3, 61, 58, 42, 50, 38, 29, 17, 4, 62, 47, 59, 36, 45, 43, 51, 22, 53, 39, 33, 30, 24, 18, 12, 5, 63, 55, 48, 27, 60, 41, 37, 16, 46, 35, 44, 21, 52, 32, 23, 11, 54, 26, 40, 15, 34, 20, 31, 10, 25, 14, 19, 9, 13, 8, 7, 6]
def p10 : List Int := Go.Eng.pow10
def laidL : List (String × DataW Unit) := [("math/bits.deBruijn32tab", Rows.laid_math_bits_deBruijn32tab), ("math/bits.deBruijn64tab", Rows.laid_math_bits_deBruijn64tab), ("internal/strconv.uint64pow10", Rows.laid_internal_strconv_uint64pow10), ("unicode/utf8.acceptRanges", Rows.laid_unicode_utf8_acceptRanges), ("strconv.ErrRange", Rows.laid_strconv_ErrRange), ("strconv.ErrSyntax", Rows.laid_strconv_ErrSyntax), ("unicode/utf8.first", Rows.laid_unicode_utf8_first)]
theorem d32 : Rows.laid_math_bits_deBruijn32tab = (.agg (db32.map fun n => .lit (.int .u8 n)) : DataW Unit) := rfl
theorem d64 : Rows.laid_math_bits_deBruijn64tab = (.agg (db64.map fun n => .lit (.int .u8 n)) : DataW Unit) := rfl
theorem dp10 : Rows.laid_internal_strconv_uint64pow10 = (.agg (p10.map fun n => .lit (.int .u64 n)) : DataW Unit) := rfl
/-- What the condition gives: the cells of the three tables. -/
theorem of_laid {W : World} (h : laidMetH Tryz.prog laidL W) : (∀ i, i < db32.length → W.cell? ⟨6, i, none⟩ = some (.int .u8 (db32.getD i 0))) ∧ (∀ i, i < db64.length → W.cell? ⟨7, i, none⟩ = some (.int .u8 (db64.getD i 0))) ∧ (∀ i, i < p10.length → W.cell? ⟨1, i, none⟩ = some (.int .u64 (p10.getD i 0))) := by
  rw [MakeChecks.laidMetH_plain _ _ _ (by kernel_rfl)] at h
  obtain ⟨ps, ⟨g0, t0, cs0, f0, q0, r0, hg0, ht0, hv0, hd0, ⟨g1, t1, cs1, f1, q1, r1, hg1, ht1, hv1, hd1, ⟨g2, t2, cs2, f2, q2, r2, hg2, ht2, hv2, hd2, _, _⟩, _⟩, _⟩, _, _⟩ := h
  obtain rfl := Option.some.inj ((show Tryz.prog.globalNamed "math/bits.deBruijn32tab" = some 6 by kernel_rfl).symm.trans hg0)
  obtain rfl := Option.some.inj ((show (Tryz.prog.globals[6]?).map (·.type) = some 459 by kernel_rfl).symm.trans ht0)
  obtain rfl := Option.some.inj ((show Tryz.prog.globalNamed "math/bits.deBruijn64tab" = some 7 by kernel_rfl).symm.trans hg1)
  obtain rfl := Option.some.inj ((show (Tryz.prog.globals[7]?).map (·.type) = some 460 by kernel_rfl).symm.trans ht1)
  obtain rfl := Option.some.inj ((show Tryz.prog.globalNamed "internal/strconv.uint64pow10" = some 1 by kernel_rfl).symm.trans hg2)
  obtain rfl := Option.some.inj ((show (Tryz.prog.globals[1]?).map (·.type) = some 423 by kernel_rfl).symm.trans ht2)
  refine ⟨fun r hr => ?_, fun r hr => ?_, fun r hr => ?_⟩
  · have hr0 : r < 32 := hr
    rw [d32] at hd0
    obtain ⟨xs, m, _, ex, _, hl, hel⟩ := DataW.trod_array Tryz.underlying459 hd0
    have c5 : Tryz.prog.cellsOf 5 = 1 := by kernel_rfl
    have hE := hel r hr0
    rw [c5, Nat.mul_one, List.getElem?_eq_getElem (by omega)] at hE
    obtain ⟨z, e1, e2, _⟩ := DataW.trod_int Tryz.underlying5 hE
    have hlen : db32.length = 32 := rfl
    have e3 : (xs.map (·.1)) = db32.map fun n => .lit (.int .u8 n) := (DataW.agg.inj (Prod.mk.inj ex).1).symm
    have e4 : (xs.map (·.1))[r]? = (db32.map fun n => (DataW.lit (.int .u8 n) : DataW Unit))[r]? := by rw [e3]
    rw [List.getElem?_map, List.getElem?_map, List.getElem?_eq_getElem (by omega : r < xs.length), List.getElem?_eq_getElem (by omega : r < db32.length), e2] at e4
    have hz : z = db32.getD r 0 := by
      simp only [Option.map_some, Option.some.injEq, DataW.lit.injEq, Lit.int.injEq, true_and] at e4
      rw [e4, List.getD, List.getElem?_eq_getElem (by omega : r < db32.length)]; rfl
    rw [World.var?_cell hg0 hv0 r, ← hz]
    have : cs0.toList[r]? = some (.int .u8 z) := by
      have h0 : ((cs0.toList.drop r).take 1)[0]? = some (.int .u8 z) := by rw [e1]; rfl
      simpa using h0
    simpa using this
  · have hr0 : r < 64 := hr
    rw [d64] at hd1
    obtain ⟨xs, m, _, ex, _, hl, hel⟩ := DataW.trod_array Tryz.underlying460 hd1
    have c5 : Tryz.prog.cellsOf 5 = 1 := by kernel_rfl
    have hE := hel r hr0
    rw [c5, Nat.mul_one, List.getElem?_eq_getElem (by omega)] at hE
    obtain ⟨z, e1, e2, _⟩ := DataW.trod_int Tryz.underlying5 hE
    have hlen : db64.length = 64 := rfl
    have e3 : (xs.map (·.1)) = db64.map fun n => .lit (.int .u8 n) := (DataW.agg.inj (Prod.mk.inj ex).1).symm
    have e4 : (xs.map (·.1))[r]? = (db64.map fun n => (DataW.lit (.int .u8 n) : DataW Unit))[r]? := by rw [e3]
    rw [List.getElem?_map, List.getElem?_map, List.getElem?_eq_getElem (by omega : r < xs.length), List.getElem?_eq_getElem (by omega : r < db64.length), e2] at e4
    have hz : z = db64.getD r 0 := by
      simp only [Option.map_some, Option.some.injEq, DataW.lit.injEq, Lit.int.injEq, true_and] at e4
      rw [e4, List.getD, List.getElem?_eq_getElem (by omega : r < db64.length)]; rfl
    rw [World.var?_cell hg1 hv1 r, ← hz]
    have : cs1.toList[r]? = some (.int .u8 z) := by
      have h0 : ((cs1.toList.drop r).take 1)[0]? = some (.int .u8 z) := by rw [e1]; rfl
      simpa using h0
    simpa using this
  · have hr0 : r < 20 := hr
    rw [dp10] at hd2
    obtain ⟨xs, m, _, ex, _, hl, hel⟩ := DataW.trod_array Tryz.underlying423 hd2
    have c5 : Tryz.prog.cellsOf 131 = 1 := by kernel_rfl
    have hE := hel r hr0
    rw [c5, Nat.mul_one, List.getElem?_eq_getElem (by omega)] at hE
    obtain ⟨z, e1, e2, _⟩ := DataW.trod_int Tryz.underlying131 hE
    have hlen : p10.length = 20 := rfl
    have e3 : (xs.map (·.1)) = p10.map fun n => .lit (.int .u64 n) := (DataW.agg.inj (Prod.mk.inj ex).1).symm
    have e4 : (xs.map (·.1))[r]? = (p10.map fun n => (DataW.lit (.int .u64 n) : DataW Unit))[r]? := by rw [e3]
    rw [List.getElem?_map, List.getElem?_map, List.getElem?_eq_getElem (by omega : r < xs.length), List.getElem?_eq_getElem (by omega : r < p10.length), e2] at e4
    have hz : z = p10.getD r 0 := by
      simp only [Option.map_some, Option.some.injEq, DataW.lit.injEq, Lit.int.injEq, true_and] at e4
      rw [e4, List.getD, List.getElem?_eq_getElem (by omega : r < p10.length)]; rfl
    rw [World.var?_cell hg2 hv2 r, ← hz]
    have : cs2.toList[r]? = some (.int .u64 z) := by
      have h0 : ((cs2.toList.drop r).take 1)[0]? = some (.int .u64 z) := by rw [e1]; rfl
      simpa using h0
    simpa using this
open Go.Eng in
/-- What stays: the three tables. -/
def zT (W : World) : Fz := fun b o => if b = 6 ∨ b = 7 ∨ b = 1 then W.cell? ⟨b, o, none⟩ else none
open Go.Eng in
theorem vrs_ints {ρ : Pl} {z : Fz} (k : IntKind) : ∀ l : List Int, VRs ρ z (ints k l) (l.map (.int k))
  | [] => .nil
  | n :: l => .cons _ _ _ _ (.int k n) (vrs_ints k l)
open Go.Eng in
theorem rel_start (W : World) : Rel H0 (fun _ => none) (zT W) ⟨fun _ => none, fun _ => False⟩ W W where
  below := Below.refl _ _
  fz b o v h := by
    unfold zT at h
    split at h
    · exact h
    · cases h
  live id ob h := by simp [H0, T.get] at h
  excl id id' ob ob' p p' h := by simp [H0, T.get] at h
  fresh id _ := rfl
  keep b x h := by cases h
  ty id e k h := by simp [H0, T.get] at h
  res id h := h.elim
open Go.Eng in
theorem gl_start {W : World} (h : laidMetH Tryz.prog laidL W) : GlOk (fun _ => none) (zT W) gl0 := by
  obtain ⟨h1, h2, h3⟩ := of_laid h
  have key : ∀ (g : Nat) (k : IntKind) (l : List Int), (g = 6 ∨ g = 7 ∨ g = 1) → (∀ i, i < l.length → W.cell? ⟨g, i, none⟩ = some (.int k (l.getD i 0))) → ∃ vs, VRs (fun _ => none) (zT W) (ints k l) vs ∧ ∀ (i : Nat) (v : Value), vs[i]? = some v → zT W g i = some v := fun g k l hg hl => by
    refine ⟨l.map (.int k), vrs_ints k l, fun i v hv => ?_⟩
    rw [List.getElem?_map] at hv
    cases hx : l[i]? with
    | none => rw [hx] at hv; cases hv
    | some n =>
      rw [hx] at hv
      cases hv
      have hi := (List.getElem?_eq_some_iff.1 hx).1
      rw [zT, if_pos hg, hl i hi, List.getD_eq_getElem?_getD, hx]; rfl
  intro g cells hg
  unfold gl0 at hg
  split at hg
  · cases hg; exact key 6 .u8 db32 (by omega) h1
  · cases hg; exact key 7 .u8 db64 (by omega) h2
  · cases hg; exact key 1 .u64 p10 (by omega) h3
  · cases hg
/-- Behind a call that wrote nothing old. -/
theorem post_of_below {H : Type} {enc : TypeId × Value → H} {P : Program} {f : Func} {s : ChangeSpec} {apart fresh handsOn again : Bool} {W W' : World} {args : Array Value} {v : Value} {ds gs : List (DataW H)} {before pa pv : List MemPlace}
    (hW : DataW.Whole enc P f.params.toList s.vars apart W args.toList ds gs before)
    (hres : ∀ (b : Nat) (sp : Nat → Bool) (hd : Bool), DataW.TrodAll enc P W' b sp hd f.resultTypes.toList (v.resultList f.resultTypes.size) (s.fn H (ds ++ gs)).results [])
    (hargs : ∀ sp : Nat → Bool, (∀ p ∈ before, sp p.block = true) → DataW.TrodAll enc P W' 0 sp true f.params.toList args.toList (s.fn H (ds ++ gs)).args pa)
    (hvars : ∀ sp : Nat → Bool, (∀ p ∈ before, sp p.block = true) → DataW.TrodVars enc P W' sp s.vars (s.fn H (ds ++ gs)).vars pv)
    (hps : before = pa ++ pv) (hb : Below W.heap.size W W')
    (hok : ∀ (j : Nat) (t : TypeId) (r : Value), f.resultTypes[j]? = some t → (v.resultList f.resultTypes.size)[j]? = some r → Value.okWide P W' .any 0 t r) :
    s.post enc P f apart fresh handsOn again W args v W' := by
  have hold : ∀ p ∈ before, (fun b => decide (b < W.heap.size)) p.block = true := fun p hp => by simpa using hW.lt p hp
  have hlt := hW.lt
  refine ⟨ds, gs, before, [], pa, pv, hW, hres _ _ _, hargs _ hold, hvars _ hold, World.keptBut_mono (fun p hp => ⟨hp, ?_⟩) (hb.frame (· ∈ before)), fun _ => ?_⟩
  · rw [hps, List.mem_append] at hp
    exact Or.inr hp
  · obtain ⟨_, _, _, _, _, hz, hn⟩ := hW
    refine ⟨hok, _, _, ([] ++ pa) ++ pv, ⟨[] ++ pa, pv, trodAll_append (hargs _ (fun _ _ => rfl)) (hres _ _ _), hvars _ (fun _ _ => rfl), rfl, ?_, ?_⟩, ?_⟩
    · intro b off hp
      have hin : MemPlace.cell b off ∈ before := by rw [hps]; simpa using hp
      rw [hb.frozen (hlt _ hin)]
      exact hz b off hin
    · intro ha
      have := hn ha
      rw [hps] at this
      simpa using this
    · intro p hp _
      rw [hps]
      simpa using hp
open Go.Eng in
set_option maxRecDepth 100000 in
theorem lifted (os : Os) (started : os.Started) (H : Type) (enc : TypeId × Value → H) :
    ReturnsInHanded {} Tryz.checked os 4 .any (fun w args => (Rows.leafShapeSpec.pre enc Tryz.prog Tryz.f4 [] false w args ∧ laidMetH Tryz.prog laidL w) ∧ sizedMet enc Tryz.prog Tryz.f4 (OpenSpec.ofChange Rows.leafShapeSpec) false w args)
      (Rows.leafShapeSpec.post enc Tryz.prog Tryz.f4 false true false false) := by
  refine returnsInHanded_of_change_and (C := Tryz.checked) (X := fun w _ => laidMetH Tryz.prog laidL w) (fun _ _ _ hh h => h.of_heap hh) own started (by kernel_rfl) Tryz.func4
    (ChangeSpec.witness_shaped (enc := enc) (C := Tryz.checked) (os := os) (X := fun w _ => laidMetH Tryz.prog laidL w) false (World.laidAll Tryz.prog os laidL) #[.int .i64 0, .string ⟨#[]⟩] 8 (World.laidAll_os _ _ _)
      (World.shaped_of_ZipB (by kernel_rfl) (by kernel_rfl)) (by kernel_rfl) (by kernel_rfl) (by kernel_rfl)
      (by rw [MakeChecks.laidMetH_plain _ _ _ (by kernel_rfl)]; exact laidMet_laidAll _ (by kernel_rfl) (by kernel_rfl))) ?_
  intro W base args ds gs before hval0 hW _ _ hL _
  have hval : ∀ (j : Nat) t v, Tryz.f4.params[j]? = some t → args[j]? = some v → Value.okWide Tryz.prog W .any base t v := hval0
  have hW' := hW
  obtain ⟨p, q, hA0, hV, rfl, _, _⟩ := hW
  have hA : DataW.TrodAll enc Tryz.prog W 0 (fun _ => true) true Tryz.f4.params.toList args.toList ds p := hA0
  rw [Tryz.params4] at hA hval
  obtain ⟨v0, v1, d0, d1, p0, p1, rfl, rfl, rfl, k0, k1⟩ := trodAll_two hA
  obtain ⟨rfl, rfl⟩ := trodVars_none hV
  obtain ⟨x, rfl, rfl, rfl, wx⟩ := open_int Tryz.underlying3 (hval 0 3 v0 rfl rfl) k0
  obtain ⟨s, rfl, rfl, rfl, hs⟩ := Go.ChangeMaps.open_string Tryz.underlying9 (hval 1 9 v1 rfl rfl) k1
  simp only [List.append_nil] at hW'
  have hrun := leafShape_ans x s.data.toList H0 (fun _ => none) (zT W) ⟨fun _ => none, fun _ => False⟩ W W [.int .i64 x, .string s] (rel_start W) (gl_start hL) (.cons _ _ _ _ (.int _ _) (.cons _ _ _ _ (.str _) .nil))
  refine Calls.mono hrun fun en W' hq => ?_
  obtain ⟨u, ρ', z', y, H', rfl, hR, _, hV', rfl, _⟩ := hq
  cases hV'
  exact ⟨_, rfl, post_of_below (pa := []) (pv := []) hW' (fun _ _ _ => trodAll_mk1 (shut_bool Tryz.underlying4 _)) (fun sp _ => trodAll_mk2 (shut_int Tryz.underlying3 wx) (Go.ChangeMaps.shut_string Tryz.underlying9 hs)) (fun _ _ => rfl) rfl hR.below (ok_one (by kernel_rfl) rfl (okWide_bool_mk Tryz.underlying4 _))⟩
end Go.Proofs.YtekfcbeballilaaGreatDoor
end
