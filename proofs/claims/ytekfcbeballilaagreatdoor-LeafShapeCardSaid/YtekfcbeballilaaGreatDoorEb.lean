import Derived.Test.YtekfcbeballilaaGreatDoorEa
import Derived.IntWalk
import Derived.Lib.Builder
import Derived.Laws.Strings
import Derived.Laws.IdiomStrings
section
namespace Go.Eng
open Go.RowKit
section
variable {P : Program} {D : Tab} [TabOk D P] {H : Heap} {ρ : Pl} {z : Fz} {w0 w : World} {pv : Pv}
inductive VRo (ρ : Pl) (z : Fz) : Option AV → Option Value → Prop
  | none : VRo ρ z none none
  | some {x : AV} {v : Value} : VR ρ z x v → VRo ρ z (some x) (some v)
theorem bd_run {x : AV} {v : Value} {d top n : Nat} (code : BoundsCode) (hx : VR ρ z x v) (h : bd (some x) d top = some n) : (Instr.sliceBound v top code).run P w = .ok n w ∧ n ≤ top := by
  unfold bd at h
  split at h
  · cases ‹_ = none›
  · rename_i k i heq
    cases heq
    cases hx
    split at h
    · rename_i hb
      cases h
      refine ⟨?_, by omega⟩
      simp [Instr.sliceBound, asIntOf, hb]
    · cases h
  · cases h
/-- The bounds, no greatest one given. -/
theorem bounds_run {lo hi : Option AV} {lv hv : Option Value} {isS : Bool} {len cap cap' l h : Nat} (hl : VRo ρ z lo lv) (hh : VRo ρ z hi hv) (h1 : bd hi len cap = some h) (h2 : bd lo 0 h = some l) (hc : cap ≤ cap') (hlen : len ≤ cap) :
    (Instr.sliceBounds isS len cap' lv hv none).run P w = .ok (l, h, cap') w ∧ l ≤ h ∧ h ≤ cap := by
  have hhi : ∃ (q : Nat), q = h ∧ h ≤ cap ∧ ∀ (code : BoundsCode), (match hv with | some v => Instr.sliceBound v cap' code | none => pure len : Sem Nat).run P w = .ok q w := by
    cases hh with
    | none => simp [bd] at h1; subst h1; exact ⟨len, rfl, hlen, fun _ => rfl⟩
    | some hx =>
      refine ⟨h, rfl, (bd_run (P := P) (w := w) .index hx h1).2, fun code => ?_⟩
      rename_i x0 v0
      have h1' : bd (some x0) len cap' = some h := by
        unfold bd at h1 ⊢
        split at h1
        · cases ‹_ = none›
        · rename_i k i heq
          cases heq
          split at h1
          · rename_i hb; cases h1; rw [if_pos ⟨hb.1, by omega⟩]
          · cases h1
        · cases h1
      exact (bd_run code hx h1').1
  obtain ⟨q, rfl, hcap, hrun⟩ := hhi
  have hlo : l ≤ q ∧ ∀ (code : BoundsCode), (match lv with | some v => Instr.sliceBound v q code | none => pure 0 : Sem Nat).run P w = .ok l w := by
    cases hl with
    | none => simp [bd] at h2; subst h2; exact ⟨Nat.zero_le _, fun _ => rfl⟩
    | some hx => exact ⟨(bd_run (P := P) (w := w) .index hx h2).2, fun code => (bd_run code hx h2).1⟩
  refine ⟨?_, hlo.1, hcap⟩
  unfold Instr.sliceBounds
  cases hh with
  | none =>
    have := hrun .index
    simp only at this
    cases hl with
    | none => have h3 := hlo.2 .index; simp only at h3; simp_all
    | some hx => have h3 := hlo.2; simp only at h3; simp_all [Result.andThen]
  | some hy =>
    simp only at hrun
    cases hl with
    | none => have h3 := hlo.2 .index; simp only at h3; simp_all [Result.andThen]
    | some hx => have h3 := hlo.2; simp only at h3; simp_all [Result.andThen]
/-- With a greatest one. -/
theorem bounds3_run {lo : Option AV} {x y : AV} {lv : Option Value} {v u : Value} {isS : Bool} {len cap cap' d1 d2 l h m : Nat} (hl : VRo ρ z lo lv) (hh : VR ρ z x v) (hm : VR ρ z y u) (h0 : bd (some y) d1 cap = some m) (h1 : bd (some x) d2 m = some h) (h2 : bd lo 0 h = some l) (hc : cap ≤ cap') :
    (Instr.sliceBounds isS len cap' lv (some v) (some u)).run P w = .ok (l, h, m) w ∧ l ≤ h ∧ h ≤ m ∧ m ≤ cap := by
  have h0' : bd (some y) d1 cap' = some m := by
    unfold bd at h0 ⊢
    split at h0
    · cases ‹_ = none›
    · rename_i k i heq
      cases heq
      split at h0
      · rename_i hb; cases h0; rw [if_pos ⟨hb.1, by omega⟩]
      · cases h0
    · cases h0
  have r0 := fun code => (bd_run (P := P) (w := w) code hm h0').1
  have r1 := fun code => (bd_run (P := P) (w := w) code hh h1).1
  refine ⟨?_, ?_, (bd_run (P := P) (w := w) .index hh h1).2, (bd_run (P := P) (w := w) .index hm h0).2⟩
  · unfold Instr.sliceBounds
    cases hl with
    | none => simp [bd] at h2; subst h2; simp [r0, r1, Result.andThen]
    | some hx => have r2 := fun code => (bd_run (P := P) (w := w) code hx h2).1; simp [r0, r1, r2, Result.andThen]
  · cases hl with
    | none => simp [bd] at h2; omega
    | some hx => exact (bd_run (P := P) (w := w) .index hx h2).2
theorem z2_run {lo hi : Option AV} {lv hv : Option Value} (isS : Bool) (cap' : Nat) (hl : VRo ρ z lo lv) (hh : VRo ρ z hi hv) (h : z2 lo hi = true) : (Instr.sliceBounds isS 0 cap' lv hv none).run P w = .ok (0, 0, cap') w := by
  unfold z2 at h
  split at h
  · rename_i h' l' h1 h2
    have e1 : h' = 0 := by
      cases hh with
      | none => simp [bd] at h1; omega
      | some hq => have := (bd_run (P := P) (w := w) .index hq h1).2; omega
    subst e1
    obtain ⟨r, e2, _⟩ := bounds_run (P := P) (w := w) (isS := isS) (cap' := cap') (len := 0) hl hh h1 h2 (Nat.zero_le _) (Nat.le_refl _)
    obtain rfl : l' = 0 := by omega
    exact r
  · cases h
theorem z3_run {lo hi : Option AV} {m : AV} {lv hv : Option Value} {u : Value} (isS : Bool) (len cap' : Nat) (hl : VRo ρ z lo lv) (hh : VRo ρ z hi hv) (hm : VR ρ z m u) (h : z3 lo hi m = true) :
    (Instr.sliceBounds isS len cap' lv hv (some u)).run P w = .ok (0, 0, 0) w := by
  unfold z3 at h
  split at h
  · cases h
  · cases hh with | some hh' =>
    split at h
    · rename_i m' h' l' h0 h1 h2
      have e0 : m' = 0 := by have := (bd_run (P := P) (w := w) .index hm h0).2; omega
      subst e0
      have e1 : h' = 0 := by have := (bd_run (P := P) (w := w) .index hh' h1).2; omega
      subst e1
      obtain ⟨r, e2, _⟩ := bounds3_run (P := P) (w := w) (isS := isS) (len := len) (cap' := cap') hl hh' hm h0 h1 h2 (Nat.zero_le _)
      obtain rfl : l' = 0 := by omega
      exact r
    · cases h
theorem sliceAt_slice {t : TypeId} {e : TypeId} (hd : D.und t = some (.slice e)) (x : Value) (lo hi mx : Option Value) : (Instr.sliceAt t x lo hi mx).run P w = (Instr.slice t x lo hi mx).run P w := by
  simp [Instr.sliceAt, run_und hd, Result.andThen]
theorem sliceAt_string {t : TypeId} (hd : D.und t = some .string) (x : Value) (lo hi mx : Option Value) : (Instr.sliceAt t x lo hi mx).run P w = (Instr.slice t x lo hi mx).run P w := by
  simp [Instr.sliceAt, run_und hd, Result.andThen]
theorem run_slice_slice {t e : TypeId} {inf : TypeInfo} (hd : D.und t = some (.slice e)) (hi : D.inf e = some inf) (A : Option Addr) (len cap l h m : Nat) (lv hv mv : Option Value)
    (hb : (Instr.sliceBounds true len cap lv hv mv).run P w = .ok (l, h, m) w) :
    (Instr.sliceAt t (.slice A len cap) lv hv mv).run P w = .ok (.slice (if m = l then A else A.map (·.add (l * inf.size))) (h - l) (m - l)) w := by
  rw [sliceAt_slice hd]
  simp [Instr.slice, run_und hd, Result.andThen, hb, run_sz hi]
theorem aSlice_ok {t : TypeId} {x y : AV} {v : Value} {lo hi mx : Option AV} {lv hv mv : Option Value} (hx : VR ρ z x v) (hl : VRo ρ z lo lv) (hh : VRo ρ z hi hv) (hm : VRo ρ z mx mv)
    (hR : Rel H ρ z pv w0 w) (ha : aSlice D H t x lo hi mx = some y) : ∃ u, (Instr.sliceAt t v lv hv mv).run P w = .ok u w ∧ VR ρ z y u := by
  unfold aSlice at ha
  split at ha
  · -- a string
    rename_i s hd
    split at ha
    · rename_i h h1
      cases hm
      cases hx
      cases h2 : bd lo 0 h with
      | none => simp [h2] at ha
      | some l =>
        simp only [h2, Option.map_some, Option.some.injEq] at ha
        subst ha
        obtain ⟨r, hlh, hhs⟩ := bounds_run (P := P) (w := w) (isS := false) hl hh h1 h2 (Nat.le_refl _) (Nat.le_refl _)
        refine ⟨.string (ByteArray.extract ⟨⟨s⟩⟩ l h), ?_, ?_⟩
        · rw [sliceAt_string hd]
          have r' : (Instr.sliceBounds false (ByteArray.size ⟨⟨s⟩⟩) (ByteArray.size ⟨⟨s⟩⟩) lv hv none).run P w = .ok (l, h, s.length) w := r
          simp [Instr.slice, run_und hd, Result.andThen, r']
        · have e : ByteArray.extract ⟨⟨s⟩⟩ l h = ⟨⟨(s.drop l).take (h - l)⟩⟩ := by
            apply ByteArray.ext
            apply Array.ext'
            simp [ByteArray.data_extract, List.extract_eq_take_drop]
          rw [e]
          exact .str _
    · cases ha
  · -- a slice
    rename_i e x' hd
    split at ha
    · cases ha
    · rename_i inf hinf
      split at ha
      · rename_i id off len cap ex es
        cases hm
        split at ha
        · rename_i h h1
          cases hes : Nat.beq es inf.size with
          | false => rw [hes] at ha; cases ha
          | true =>
          rw [hes, cond_true] at ha
          have hes := Nat.eq_of_beq_eq_true hes
          subst hes
          cases hx with | slice _ _ _ _ _ _ b o n rc A hp g1 g2 g3 g5 g6 =>
          cases h2 : bd lo 0 h with
          | none => simp [h2] at ha
          | some l =>
            simp only [h2, Option.map_some, Option.some.injEq] at ha
            subst ha
            obtain ⟨r, hlh, hhc⟩ := bounds_run (P := P) (w := w) (isS := true) hl hh h1 h2 g2 g1
            refine ⟨_, run_slice_slice hd hinf _ _ _ _ _ _ _ _ _ r, ?_⟩
            have hroom : o + (off + l * inf.size) + (rc - l) * inf.size ≤ n := by
              have e1 : rc * inf.size = l * inf.size + (rc - l) * inf.size := by rw [← Nat.add_mul]; congr 1; omega
              omega
            by_cases e : rc = l
            · rw [if_pos e]
              exact .slice _ _ _ _ _ _ b o n _ _ hp (by omega) (by omega) (fun hex => by have := g3 hex; omega) (fun h0 => by omega) hroom
            · rw [if_neg e]
              have hA := g5 (by omega)
              subst hA
              simp only [Option.map_some, add_mk]
              exact .slice _ _ _ _ _ _ b o n _ _ hp (by omega) (by omega) (fun hex => by have := g3 hex; omega) (fun h0 => by rw [Nat.add_assoc]) hroom
        · cases ha
      · rename_i id off len cap ex es m
        cases hm with | some hm' =>
        split at ha
        · cases ha
        · cases hh with | some hh' =>
          split at ha
          · cases ha
          · rename_i m' h0
            split at ha
            · cases ha
            · rename_i h h1
              cases hes : Nat.beq es inf.size with
              | false => rw [hes] at ha; cases ha
              | true =>
              rw [hes, cond_true] at ha
              have hes := Nat.eq_of_beq_eq_true hes
              subst hes
              cases hx with | slice _ _ _ _ _ _ b o n rc A hp g1 g2 g3 g5 g6 =>
              cases h2 : bd lo 0 h with
              | none => simp [h2] at ha
              | some l =>
                simp only [h2, Option.map_some, Option.some.injEq] at ha
                subst ha
                obtain ⟨r, hlh, hhm, hmc⟩ := bounds3_run (P := P) (w := w) (isS := true) (len := len) hl hh' hm' h0 h1 h2 g2
                refine ⟨_, run_slice_slice hd hinf _ _ _ _ _ _ _ _ _ r, ?_⟩
                have hroom : o + (off + l * inf.size) + (m' - l) * inf.size ≤ n := by
                  have e1 : m' * inf.size = l * inf.size + (m' - l) * inf.size := by rw [← Nat.add_mul]; congr 1; omega
                  have e2 : m' * inf.size ≤ rc * inf.size := Nat.mul_le_mul_right _ (by omega)
                  omega
                by_cases e : m' = l
                · rw [if_pos e]
                  exact .slice _ _ _ _ _ _ b o n _ _ hp (by omega) (by omega) (fun _ => rfl) (fun h0 => by omega) hroom
                · rw [if_neg e]
                  have hA := g5 (by omega)
                  subst hA
                  simp only [Option.map_some, add_mk]
                  exact .slice _ _ _ _ _ _ b o n _ _ hp (by omega) (by omega) (fun _ => rfl) (fun h0 => by rw [Nat.add_assoc]) hroom
      · rename_i cs len
        cases hm
        split at ha
        · rename_i h h1
          cases h2 : bd lo 0 h with
          | none => simp [h2] at ha
          | some l =>
            simp only [h2, Option.map_some, Option.some.injEq] at ha
            subst ha
            cases hx with
            | isl0 A c =>
              obtain ⟨r, hlh, hhc⟩ := bounds_run (P := P) (w := w) (isS := true) (cap' := c) hl hh h1 h2 (Nat.zero_le _) (Nat.le_refl _)
              obtain rfl : h = 0 := by omega
              obtain rfl : l = 0 := by omega
              refine ⟨_, run_slice_slice hd hinf _ _ _ _ _ _ _ _ _ r, ?_⟩
              simp
              exact .isl0 _ _
            | isl _ _ b o c vs hs hz hc =>
              obtain ⟨r, hlh, hhc⟩ := bounds_run (P := P) (w := w) (isS := true) hl hh h1 h2 hc (Nat.le_refl _)
              refine ⟨_, run_slice_slice hd hinf _ _ _ _ _ _ _ _ _ r, ?_⟩
              by_cases e : c = l
              · rw [if_pos e]
                obtain rfl : h = l := by omega
                simp
                exact .isl0 _ _
              · rw [if_neg e]
                simp only [Option.map_some, add_mk]
                refine .isl _ _ b _ _ ((vs.drop (l * inf.size)).take ((h - l) * inf.size)) ((hs.drop _).take _) (fun i u hu => ?_) (by omega)
                rw [List.getElem?_take] at hu
                split at hu
                · rw [List.getElem?_drop] at hu
                  rw [Nat.add_assoc]
                  exact hz _ _ hu
                · cases hu
        · cases ha
      · rename_i cs len m
        cases hm with | some hm' =>
        split at ha
        · rename_i hz3
          cases ha
          cases hx with
          | isl0 A c =>
            refine ⟨_, run_slice_slice hd hinf _ _ _ _ _ _ _ _ _ (z3_run true _ _ hl hh hm' hz3), ?_⟩
            simp
            exact .esl _
          | isl _ _ b o c vs hs hz hc =>
            refine ⟨_, run_slice_slice hd hinf _ _ _ _ _ _ _ _ _ (z3_run true _ _ hl hh hm' hz3), ?_⟩
            simp
            exact .esl _
        · cases ha
      · cases hm
        split at ha
        · rename_i hz2
          cases ha
          cases hx
          refine ⟨_, run_slice_slice hd hinf _ _ _ _ _ _ _ _ _ (z2_run true _ hl hh hz2), ?_⟩
          simp
          exact .nilsl
        · cases ha
      · cases hm with | some hm' =>
        split at ha
        · rename_i hz3
          cases ha
          cases hx
          refine ⟨_, run_slice_slice hd hinf _ _ _ _ _ _ _ _ _ (z3_run true _ _ hl hh hm' hz3), ?_⟩
          simp
          exact .nilsl
        · cases ha
      · cases hm
        split at ha
        · rename_i hz2
          cases ha
          cases hx
          refine ⟨_, run_slice_slice hd hinf _ _ _ _ _ _ _ _ _ (z2_run true _ hl hh hz2), ?_⟩
          simp
          exact .esl _
        · cases ha
      · cases hm with | some hm' =>
        split at ha
        · rename_i hz3
          cases ha
          cases hx
          refine ⟨_, run_slice_slice hd hinf _ _ _ _ _ _ _ _ _ (z3_run true _ _ hl hh hm' hz3), ?_⟩
          simp
          exact .esl _
        · cases ha
      · cases ha
  · -- an array behind its address
    rename_i n e id off hd
    split at ha
    · rename_i inf cs hinf hg
      cases hm
      split at ha
      · rename_i h h1
        cases hb : (Nat.blt 0 cs.length && Nat.ble (off + n * inf.size) cs.length) with
        | false => rw [hb] at ha; cases ha
        | true =>
        rw [hb, cond_true] at ha
        simp only [Bool.and_eq_true] at hb
        obtain ⟨hb0, hb⟩ := hb
        have hb0 : 0 < cs.length := by simpa [Nat.blt_eq] using hb0
        have hb := Nat.le_of_ble_eq_true hb
        cases hx with | ptr _ _ b o N hp =>
        cases h2 : bd lo 0 h with
        | none => simp [h2] at ha
        | some l =>
          simp only [h2, Option.map_some, Option.some.injEq] at ha
          subst ha
          obtain ⟨r, hlh, hhc⟩ := bounds_run (P := P) (w := w) (isS := false) hl hh h1 h2 (Nat.le_refl _) (Nat.le_refl _)
          refine ⟨.slice (some (if n = l then ⟨b, o + off, none⟩ else (⟨b, o + off, none⟩ : Addr).add (l * inf.size))) (h - l) (n - l), ?_, ?_⟩
          · simp [Instr.sliceAt, Instr.sureAddr, run_und hd, Result.andThen, r, run_sz hinf]
          · have hroom : o + (off + l * inf.size) + (n - l) * inf.size ≤ N := by
              have e1 : n * inf.size = l * inf.size + (n - l) * inf.size := by rw [← Nat.add_mul]; congr 1; omega
              have := hR.len_le hg hp
              omega
            by_cases e : n = l
            · rw [if_pos e]
              exact .slice _ _ _ _ _ _ b o N _ _ hp (by omega) (by omega) (fun _ => rfl) (fun h0 => by omega) hroom
            · rw [if_neg e, add_mk]
              exact .slice _ _ _ _ _ _ b o N _ _ hp (by omega) (by omega) (fun _ => rfl) (fun h0 => by rw [Nat.add_assoc]) hroom
      · cases ha
    · cases ha
  · cases ha
end
end Go.Eng
end
section
namespace Go.Eng
open Go.RowKit
/-- What an operation that yields a value leaves. -/
def Out (H : Heap) (y : AV) (ρ : Pl) (z : Fz) (pv : Pv) (w0 : World) (r : Result Value) : Prop :=
  ∃ u w' ρ', r = .ok u w' ∧ Rel H ρ' z pv w0 w' ∧ Ext ρ ρ' z z ∧ VR ρ' z y u
def repl (c : Nat) (zs : List AV) : List AV := (List.replicate c zs).flatten
def replV (c : Nat) (zs : List Value) : List Value := (List.replicate c zs).flatten
def aBox (H : Heap) (t : TypeId) (x : AV) : Option (AV × Heap) := match x.cells with
  | some cs => some (.ptr H.nx 0, H.allocT (.cells cs) t (some cs.length))
  | none => none
/-- The cells of a type's zero value: as many as the type has. -/
def zeroOf (D : Tab) (t : TypeId) : Option (List AV) :=
  match D.inf t with
  | some i => match i.zero with
    | some v => match absV v with
      | some x => match x.cells with
        | some cs => cond (Nat.beq cs.length i.size) (some cs) none
        | none => none
      | none => none
    | none => none
  | none => none
def aAlloc (D : Tab) (H : Heap) (t : TypeId) : Option (AV × Heap) := match zeroOf D t with
  | some cs => some (.ptr H.nx 0, H.allocT (.cells cs) t (some cs.length))
  | none => none
def aFill (place : Nat → Option (Nat × Nat)) (cs : List AV) : List (Nat × AV) → Option (List AV)
  | [] => some cs
  | (i, x) :: rest =>
    match place i, x.cells with
    | some (off, size), some xs => cond (Nat.beq xs.length size && Nat.ble (off + xs.length) cs.length) (aFill place (putAt cs off xs) rest) none
    | _, _ => none
def placesOf (D : Tab) : List Field → Option (List (Nat × Nat))
  | [] => some []
  | f :: fs => match D.inf f.type, placesOf D fs with
    | some i, some l => some ((f.offset, i.size) :: l)
    | _, _ => none
def aBuild (D : Tab) (t : TypeId) (parts : List (Nat × AV)) : Option AV :=
  match zeroOf D t, D.und t with
  | some cs, some (.struct fs) => match placesOf D fs.toList with
    | some pl => (aFill (pl[·]?) cs parts).map .agg
    | none => none
  | some cs, some (.array _ e) => match D.inf e with
    | some i => (aFill (fun k => some (k * i.size, i.size)) cs parts).map .agg
    | none => none
  | _, _ => none
def aBuildSlice (D : Tab) (H : Heap) (t : TypeId) (len : Nat) (parts : List (Nat × AV)) : Option (AV × Heap) :=
  match D.und t with
  | some (.slice e) => match D.inf e, zeroOf D e with
    | some i, some zs => cond (Nat.ble (len * i.size) 16777216)
        (match aFill (fun k => some (k * i.size, i.size)) (repl len zs) parts with
          | some cs => some (.slice H.nx 0 len len true i.size, H.alloc (.cells cs))
          | none => none) none
    | _, _ => none
  | _ => none
def aMakeSlice (D : Tab) (H : Heap) (t : TypeId) (l c : AV) : Option (AV × Heap) :=
  match D.und t, l, c with
  | some (.slice e), .int _ l, .int _ c => match D.inf e, zeroOf D e with
    | some i, some zs => if 0 ≤ l ∧ l ≤ c ∧ c ≤ 281474976710656 ∧ (i.bytes : Int) * c ≤ 281474976710656 then
        some (.slice H.nx 0 l.toNat c.toNat true i.size, H.alloc (.cells (repl c.toNat zs))) else none
    | _, _ => none
  | _, _, _ => none
section
variable {P : Program} {D : Tab} [TabOk D P] {H : Heap} {ρ : Pl} {z : Fz} {w0 w : World} {pv : Pv}
theorem repl_length (c : Nat) (zs : List AV) : (repl c zs).length = c * zs.length := by
  induction c with
  | zero => simp [repl]
  | succ c ih => simp [repl, List.replicate_succ, Nat.succ_mul] at ih ⊢; omega
theorem replV_length (c : Nat) (zs : List Value) : (replV c zs).length = c * zs.length := by
  induction c with
  | zero => simp [replV]
  | succ c ih => simp [replV, List.replicate_succ, Nat.succ_mul] at ih ⊢; omega
theorem VRs.repl {zs : List AV} {vs : List Value} (h : VRs ρ z zs vs) (c : Nat) : VRs ρ z (repl c zs) (replV c vs) := by
  induction c with
  | zero => exact .nil
  | succ c ih => simp only [Eng.repl, replV, List.replicate_succ, List.flatten_cons] at ih ⊢; exact h.append ih
theorem replV_eq (vs : List Value) : ∀ c : Nat, replV c vs = (List.range (c * vs.length)).map fun i => (⟨vs⟩ : Array Value)[i % vs.length]! := by
  intro c
  induction c with
  | zero => simp [replV]
  | succ c ih =>
    have e : replV (c + 1) vs = vs ++ replV c vs := by simp [replV, List.replicate_succ]
    rw [e, ih]
    apply List.ext_getElem?
    intro i
    rcases Nat.eq_zero_or_pos vs.length with h0 | h0
    · have : vs = [] := List.eq_nil_of_length_eq_zero h0
      subst this
      simp
    · have hs : (c + 1) * vs.length = c * vs.length + vs.length := Nat.succ_mul _ _
      by_cases hi : i < vs.length
      · rw [List.getElem?_append_left hi]
        have : i < (c + 1) * vs.length := by omega
        simp [this, Nat.mod_eq_of_lt hi, hi]
      · rw [List.getElem?_append_right (by omega)]
        by_cases hj : i < (c + 1) * vs.length
        · have hj' : i - vs.length < c * vs.length := by omega
          have hm : (i - vs.length) % vs.length = i % vs.length := by
            conv => rhs; rw [show i = (i - vs.length) + vs.length by omega, Nat.add_mod_right]
          simp [hj, hj', hm]
        · have hj' : ¬ i - vs.length < c * vs.length := by omega
          simp [hj, hj']
theorem range_zero (vs : List Value) (s n c : Nat) (hs : vs.length = s) (hn : n = c * s) : ((Array.range n).map fun i => (⟨vs⟩ : Array Value)[i % (⟨vs⟩ : Array Value).size]!) = ⟨replV c vs⟩ := by
  subst hs; subst hn
  rw [replV_eq]
  apply Array.ext'
  simp
theorem zeroOf_ok {t : TypeId} {cs : List AV} (h : zeroOf D t = some cs) :
    ∃ i v vs, D.inf t = some i ∧ i.zero = some v ∧ v.cells = ⟨vs⟩ ∧ (∀ ρ z, VRs ρ z cs vs) ∧ cs.length = i.size ∧ vs.length = i.size := by
  unfold zeroOf at h
  split at h
  · rename_i i hi
    split at h
    · rename_i v hv
      split at h
      · rename_i x hx
        split at h
        · rename_i cs' hc
          cases hb : Nat.beq cs'.length i.size with
          | false => rw [hb] at h; cases h
          | true =>
            rw [hb] at h
            cases h
            have hb := Nat.eq_of_beq_eq_true hb
            obtain ⟨vs, h1, h2⟩ := (absV_VR (ρ := fun _ => none) (z := fun _ _ => none) hx).cells hc
            refine ⟨i, v, vs, hi, hv, h1, fun ρ z => ?_, hb, by rw [h2.length, hb]⟩
            exact h2.mono ⟨fun _ _ k => (by cases k), fun _ _ _ k => (by cases k)⟩
        · cases h
      · cases h
    · cases h
  · cases h
theorem run_zero {t : TypeId} {i : TypeInfo} {v : Value} (hi : D.inf t = some i) (hz : i.zero = some v) : (zeroValue t).run P w = .ok v w := by
  simp [zeroValue, run_inf hi, Result.andThen, hz]
theorem run_newRow (e : TypeId) (cs : Array Value) : (newRow e cs).run P w = .ok ⟨w.heap.size, 0, none⟩ (w.alloc (.cells cs e)) := by
  simp [newRow, Result.andThen]
theorem out_new (h : Rel H ρ z pv w0 w) {cs : List AV} {vs : List Value} (e : TypeId) (hv : VRs ρ z cs vs) :
    ∃ ρ', Rel (H.alloc (.cells cs)) ρ' z pv w0 (w.alloc (.cells ⟨vs⟩ e)) ∧ Ext ρ ρ' z z ∧ ρ' H.nx = some (w.heap.size, 0, vs.length) := by
  refine ⟨_, by simpa using h.alloc_cells [] e (0, 0) (fun j _ hj => absurd hj (Nat.not_lt_zero _)) hv, h.ext_alloc _, by simp [plSet]⟩
theorem out_newT (h : Rel H ρ z pv w0 w) {cs : List AV} {vs : List Value} (e : TypeId) (hv : VRs ρ z cs vs) {k : Option Nat} (hk : ∀ m, k = some m → vs.length = m) :
    ∃ ρ', Rel (H.allocT (.cells cs) e k) ρ' z pv w0 (w.alloc (.cells ⟨vs⟩ e)) ∧ Ext ρ ρ' z z ∧ ρ' H.nx = some (w.heap.size, 0, vs.length) := by
  refine ⟨_, by simpa using h.alloc_cellsT [] e (0, 0) (fun j _ hj => absurd hj (Nat.not_lt_zero _)) hv (k := k) (by simpa using hk), h.ext_alloc _, by simp [plSet]⟩
theorem aBox_ok (h : Rel H ρ z pv w0 w) {t : TypeId} {x y : AV} {v : Value} {H' : Heap} (hv : VR ρ z x v) (ha : aBox H t x = some (y, H')) : Out H' y ρ z pv w0 ((Instr.box t v).run P w) := by
  unfold aBox at ha
  split at ha
  · rename_i cs hc
    cases ha
    obtain ⟨vs, h1, h2⟩ := hv.cells hc
    obtain ⟨ρ', r1, r2, r3⟩ := out_newT h t h2 (k := some cs.length) (fun m hm => by cases hm; exact h2.length)
    refine ⟨.pointer (some ⟨w.heap.size, 0, none⟩), _, ρ', ?_, r1, r2, .ptr _ 0 _ 0 _ r3⟩
    simp [Instr.box, newVar, run_newRow, Result.andThen, h1]
  · cases ha
theorem aAlloc_ok (h : Rel H ρ z pv w0 w) {t : TypeId} {y : AV} {H' : Heap} (ha : aAlloc D H t = some (y, H')) : Out H' y ρ z pv w0 ((Instr.alloc t true (.tuple #[])).run P w) := by
  unfold aAlloc at ha
  split at ha
  · rename_i cs hc
    cases ha
    obtain ⟨i, v, vs, h1, h2, h3, h4, _, _⟩ := zeroOf_ok hc
    obtain ⟨ρ', r1, r2, r3⟩ := out_newT h t (h4 ρ z) (k := some cs.length) (fun m hm => by cases hm; exact (h4 ρ z).length)
    refine ⟨.pointer (some ⟨w.heap.size, 0, none⟩), _, ρ', ?_, r1, r2, .ptr _ 0 _ 0 _ r3⟩
    simp [Instr.alloc, run_zero h1 h2, newVar, run_newRow, Result.andThen, h3]
  · cases ha
def realPut (cs : Array Value) (i : Nat) : List Value → Array Value
  | [] => cs
  | v :: vs => realPut (cs.setIfInBounds i v) (i + 1) vs
theorem realPut_size (vs : List Value) : ∀ (cs : Array Value) (i : Nat), (realPut cs i vs).size = cs.size := by
  induction vs with
  | nil => intro cs i; rfl
  | cons v vs ih => intro cs i; simp [realPut, ih]
theorem VRs.putAt {xs : List AV} {vs : List Value} (hx : VRs ρ z xs vs) : ∀ {cs : List AV} {us : Array Value} (i : Nat), VRs ρ z cs us.toList → VRs ρ z (putAt cs i xs) (realPut us i vs).toList := by
  induction xs generalizing vs with
  | nil => intro cs us i h; cases hx; exact h
  | cons x xs ih =>
    intro cs us i h
    cases hx with | cons _ v _ vs hv hs =>
    refine ih hs (i + 1) ?_
    have := h.set i hv
    simpa using this
theorem foldl_put (off : Nat) : ∀ (vs : List Value) (k : Nat) (cs : Array Value), (vs.zipIdx k).foldl (fun cs (c, j) => cs.setIfInBounds (off + j) c) cs = realPut cs (off + k) vs
  | [], k, cs => rfl
  | v :: vs, k, cs => by
    simp only [List.zipIdx_cons, List.foldl_cons, realPut]
    exact foldl_put off vs (k + 1) _
theorem array_foldl_put (off : Nat) (vs : List Value) (cs : Array Value) : ((⟨vs⟩ : Array Value).zipIdx.foldl (fun cs (c, j) => cs.setIfInBounds (off + j) c) cs) = realPut cs off vs := by
  rw [← Array.foldl_toList]
  have := foldl_put off vs 0 cs
  simpa using this
inductive PR (ρ : Pl) (z : Fz) : List (Nat × AV) → List (Nat × Value) → Prop
  | nil : PR ρ z [] []
  | cons (i : Nat) (x : AV) (v : Value) (xs : List (Nat × AV)) (vs : List (Nat × Value)) : VR ρ z x v → PR ρ z xs vs → PR ρ z ((i, x) :: xs) ((i, v) :: vs)
theorem aFill_ok {place : Nat → Option (Nat × Nat)} {xs : List (Nat × AV)} {vs : List (Nat × Value)} (hx : PR ρ z xs vs) : ∀ {cs cs' : List AV} {us : Array Value}, VRs ρ z cs us.toList → aFill place cs xs = some cs' →
    ∃ us', Instr.fill place us vs = some us' ∧ VRs ρ z cs' us'.toList ∧ us'.size = us.size := by
  induction hx with
  | nil => intro cs cs' us h ha; simp [aFill] at ha; subst ha; exact ⟨us, rfl, h, rfl⟩
  | cons i x v xs vs hv _ ih =>
    intro cs cs' us h ha
    simp only [aFill] at ha
    split at ha
    · rename_i off size ys hp hys
      cases hb : (Nat.beq ys.length size && Nat.ble (off + ys.length) cs.length) with
      | false => rw [hb] at ha; cases ha
      | true =>
        rw [hb, cond_true] at ha
        simp only [Bool.and_eq_true] at hb
        have e1 := Nat.eq_of_beq_eq_true hb.1
        have e2 := Nat.le_of_ble_eq_true hb.2
        obtain ⟨ws, k1, k2⟩ := hv.cells hys
        have hl : ws.length = size := by rw [k2.length, e1]
        have hus : us.size = cs.length := by have := h.length; simpa using this
        obtain ⟨us', r1, r2, r3⟩ := ih (k2.putAt off h) ha
        refine ⟨us', ?_, r2, by rw [r3, realPut_size]⟩
        simp only [Instr.fill, hp, k1]
        rw [array_foldl_put, if_neg]
        · exact r1
        · simp [hl]
          omega
    · cases ha
theorem places_ok (w : World) : ∀ {fs : List Field} {pl : List (Nat × Nat)}, placesOf D fs = some pl → (fs.mapM (fun f => do pure (f.offset, ← sizeOf f.type) : Field → Sem (Nat × Nat))).run P w = .ok pl w
  | [], pl, h => by simp [placesOf] at h; subst h; rfl
  | f :: fs, pl, h => by
    simp only [placesOf] at h
    split at h
    · rename_i i l hi hl
      cases h
      have ih := places_ok w hl
      simp only [List.mapM_cons, Sem.run_bind, run_sz hi, Result.andThen, Sem.run_pure]
      rw [ih]
    · cases h
theorem aBuild_ok {t : TypeId} {parts : List (Nat × AV)} {vs : List (Nat × Value)} {y : AV} (hx : PR ρ z parts vs) (ha : aBuild D t parts = some y) :
    ∃ u, (Instr.build t ⟨vs⟩).run P w = .ok u w ∧ VR ρ z y u := by
  unfold aBuild at ha
  split at ha
  · rename_i cs fs hz hd
    split at ha
    · rename_i pl hpl
      cases hf : aFill (pl[·]?) cs parts with
      | none => simp [hf] at ha
      | some cs' =>
        simp only [hf, Option.map_some, Option.some.injEq] at ha
        subst ha
        obtain ⟨i, v, us, h1, h2, h3, h4, _, _⟩ := zeroOf_ok hz
        obtain ⟨us', r1, r2, _⟩ := aFill_ok (us := ⟨us⟩) hx (h4 ρ z) hf
        refine ⟨.agg us', ?_, .agg _ _ r2⟩
        have hp := places_ok (P := P) w hpl
        have hpa : (fs.mapM (fun f => do pure (f.offset, ← sizeOf f.type) : Field → Sem (Nat × Nat))).run P w = .ok ⟨pl⟩ w := by
          rw [Array.mapM_eq_mapM_toList]
          simp only [Sem.run_map, hp, Result.andThen]
        simp only [Instr.build, Sem.run_bind, run_zero h1 h2, run_und hd, Result.andThen, h3, hpa]
        have hpl' : (fun x : Nat => (⟨pl⟩ : Array (Nat × Nat))[x]?) = (fun x : Nat => pl[x]?) := by funext x; simp
        simp only [hpl', r1, Sem.run_pure]
    · cases ha
  · rename_i cs n e hz hd
    split at ha
    · rename_i inf hi
      cases hf : aFill (fun k => some (k * inf.size, inf.size)) cs parts with
      | none => simp [hf] at ha
      | some cs' =>
        simp only [hf, Option.map_some, Option.some.injEq] at ha
        subst ha
        obtain ⟨i, v, us, h1, h2, h3, h4, _, _⟩ := zeroOf_ok hz
        obtain ⟨us', r1, r2, _⟩ := aFill_ok (us := ⟨us⟩) hx (h4 ρ z) hf
        refine ⟨.agg us', ?_, .agg _ _ r2⟩
        simp [Instr.build, run_zero h1 h2, run_und hd, Result.andThen, h3, run_sz hi, r1]
    · cases ha
  · cases ha
theorem aBuildSlice_ok (h : Rel H ρ z pv w0 w) {t : TypeId} {len : Nat} {parts : List (Nat × AV)} {vs : List (Nat × Value)} {y : AV} {H' : Heap} (hx : PR ρ z parts vs) (ha : aBuildSlice D H t len parts = some (y, H')) :
    Out H' y ρ z pv w0 ((Instr.buildSlice t len ⟨vs⟩).run P w) := by
  unfold aBuildSlice at ha
  split at ha
  · rename_i e hd
    split at ha
    · rename_i i zs hi hz
      cases hb : Nat.ble (len * i.size) 16777216 with
      | false => rw [hb] at ha; cases ha
      | true =>
        rw [hb, cond_true] at ha
        have hb := Nat.le_of_ble_eq_true hb
        split at ha
        · rename_i cs hf
          cases ha
          obtain ⟨i', v, us, h1, h2, h3, h4, h5, h6⟩ := zeroOf_ok hz
          rw [hi] at h1
          cases h1
          obtain ⟨us', r1, r2, r3⟩ := aFill_ok (us := ⟨replV len us⟩) hx ((h4 ρ z).repl len) hf
          obtain ⟨ρ', q1, q2, q3⟩ := out_new h e r2
          have hsz : us'.toList.length = len * i.size := by simp only [Array.length_toList, r3]; simp [replV_length, h6]
          refine ⟨.slice (some ⟨w.heap.size, 0, none⟩) len len, _, ρ', ?_, q1, q2, .slice _ 0 len len true i.size _ 0 _ len _ q3 (Nat.le_refl _) (Nat.le_refl _) (fun _ => rfl) (fun _ => rfl) (by omega)⟩
          simp only [Instr.buildSlice, Sem.run_bind, run_und hd, Result.andThen, run_sz hi, if_neg (show ¬ len * i.size > 2 ^ 24 by omega)]
          by_cases h0 : len * i.size = 0
          · have e0 : replV len us = [] := List.eq_nil_of_length_eq_zero (by rw [replV_length, h6]; exact h0)
            rw [e0] at r1
            have e1 : ∀ f : Nat → Value, (Array.range (len * i.size)).map f = #[] := fun f => by rw [h0]; simp
            simp only [h0, if_true, Sem.run_bind, Sem.run_pure, Result.andThen]
            have e2 : ∀ f : Nat → Value, (Array.range 0).map f = #[] := fun f => by simp
            simp [e2, r1, Result.andThen, run_newRow]
          · have harr := range_zero us i.size _ len h6 rfl
            simp only [h0, if_false, Sem.run_bind, run_zero hi h2, Sem.run_pure, Result.andThen, h3, harr, r1]
            simp [run_newRow]
        · cases ha
    · cases ha
  · cases ha
end
end Go.Eng
end
section
namespace Go.Eng
open Go.RowKit
def srcD : TypeDesc → Bool
  | .slice _ | .string => true
  | _ => false
def u8 (b : UInt8) : AV := .int .u8 b.toNat
/-- What is appended, copied: its cells, how many elements. -/
def srcCells (H : Heap) (size : Nat) : AV → Option (List AV × Nat)
  | .isl cs len => cond (Nat.beq cs.length (len * size)) (some (cs, len)) none
  | .nilsl => some ([], 0)
  | .esl => some ([], 0)
  | .slice id off len _ _ _ => match H.t.get id with
    | some (.cells cs) => match seg cs off (len * size) with
      | some l => some (l, len)
      | none => none
    | _ => none
  | .str s => cond (Nat.beq size 1) (some (s.map u8, s.length)) none
  | _ => none
def roomOk (need bytes : Nat) : Bool := Nat.ble ((2 * need + 192) * bytes) 281474976710656 && Nat.ble need 281474976710656
/-- What is known of the element type of the array behind a slice that starts at a block's start. -/
def tagOf (H : Heap) (id off : Nat) (e : TypeId) : Option TypeId := match H.e.get id, off with
  | some (e', _), 0 => cond (Nat.beq e' e) (some e) none
  | _, _ => none
def Heap.allocE (H : Heap) (ob : Ob) : Option TypeId → Heap
  | some e => H.allocT ob e none
  | none => H.alloc ob
def aAppend (D : Tab) (H : Heap) (ts tx : TypeId) (s x : AV) : Option (AV × Heap) :=
  match D.und ts, D.und tx with
  | some (.slice e), some dx =>
    match D.inf e, zeroOf D e with
    | some inf, some _ =>
      match cond (srcD dx) (srcCells H inf.size x) none with
      | none => none
      | some (news, m) =>
        match s with
        | .nilsl => cond (Nat.beq m 0) (some (s, H)) (cond (roomOk m inf.bytes) (some (.slice H.nx 0 m m false inf.size, H.allocE (.cells news) (some e))) none)
        | .esl => cond (Nat.beq m 0) (some (s, H)) (cond (roomOk m inf.bytes) (some (.slice H.nx 0 m m false inf.size, H.allocE (.cells news) (some e))) none)
        | .slice id off len cap ex es =>
          cond (Nat.beq es inf.size && allOne news)
            (match H.t.get id with
            | some (.cells cs) =>
              cond (Nat.ble (len + m) cap)
                (cond (Nat.ble (off + (len + m) * inf.size) cs.length)
                  (some (.slice id off (len + m) cap ex es, H.put id (.cells (putAt cs (off + len * inf.size) news)))) none)
                (match seg cs off (len * inf.size) with
                | some olds => cond (roomOk (len + m) inf.bytes)
                    (some (.slice H.nx 0 (len + m) (len + m) false inf.size, cond ex (H.allocE (.cells (olds ++ news)) (some e)) ((H.drop id).allocE (.cells (olds ++ news)) (tagOf H id off e)))) none
                | none => none)
            | _ => none) none
        | _ => none
    | _, _ => none
  | _, _ => none
section
variable {P : Program} {D : Tab} [TabOk D P] {H : Heap} {ρ : Pl} {z : Fz} {w0 w : World} {pv : Pv}
theorem aMakeSlice_ok (h : Rel H ρ z pv w0 w) {t : TypeId} {x c y : AV} {xv cv : Value} {H' : Heap} (hx : VR ρ z x xv) (hc : VR ρ z c cv) (ha : aMakeSlice D H t x c = some (y, H')) :
    Out H' y ρ z pv w0 ((Instr.makeSlice t xv cv).run P w) := by
  unfold aMakeSlice at ha
  split at ha
  · rename_i e k1 l k2 c hd
    split at ha
    · rename_i i zs hi hz
      split at ha
      · rename_i hb
        cases ha
        cases hx
        cases hc
        obtain ⟨h0, h1, h2, h3⟩ := hb
        obtain ⟨i', v, us, g1, g2, g3, g4, g5, g6⟩ := zeroOf_ok hz
        rw [hi] at g1
        cases g1
        obtain ⟨ρ', q1, q2, q3⟩ := out_new h e ((g4 ρ z).repl c.toNat)
        have hrl : (replV c.toNat us).length = c.toNat * i.size := by rw [replV_length, g6]
        refine ⟨.slice (some ⟨w.heap.size, 0, none⟩) l.toNat c.toNat, _, ρ', ?_, q1, q2, .slice _ 0 _ _ true i.size _ 0 _ _ _ q3 (by omega) (Nat.le_refl _) (fun _ => rfl) (fun _ => rfl) (by omega)⟩
        have wl : IntKind.i64.wrap l = l := IntWalk.i64_in l (by omega)
        have wc : IntKind.i64.wrap c = c := IntWalk.i64_in c (by omega)
        have t1 : ¬ ((i.bytes : Int) * c > 2 ^ 48) := by omega
        have b1 : (decide (c < 0) || decide ((i.bytes : Int) * c > 2 ^ 48) || decide (l < 0) || decide (l > c)) = false := by simp; omega
        have n1 : ¬ c < 0 := by omega
        have n2 : ¬ l < 0 := by omega
        have n3 : ¬ l > c := by omega
        have hroom : ∀ (k : Unit → Sem Value), (askRoom (c.toNat * i.bytes) >>= k).run P w = (k ()).run P w := fun k => by
          unfold askRoom
          split <;> rfl
        have harr := range_zero us i.size _ c.toNat g6 rfl
        simp only [Instr.makeSlice, Sem.run_bind, run_und hd, Result.andThen, asInt, asIntOf, Sem.run_pure, run_inf hi, wl, wc, n1, n2, n3, t1, decide_false, Bool.or_false, Bool.false_eq_true, if_false]
        have hask : (askRoom (c.toNat * i.bytes)).run P w = .ok () w := by
          unfold askRoom; split <;> rfl
        simp only [hask, run_sz hi]
        by_cases z0 : c.toNat * i.size = 0
        · have e0 : replV c.toNat us = [] := List.eq_nil_of_length_eq_zero (by rw [hrl]; exact z0)
          have e1 : ∀ f : Nat → Value, (Array.range (c.toNat * i.size)).map f = #[] := fun f => by rw [z0]; simp
          simp only [z0, if_true, Sem.run_bind, Sem.run_pure, Result.andThen]
          have e2 : ∀ f : Nat → Value, (Array.range 0).map f = #[] := fun f => by simp
          simp [e2, run_newRow, e0]
        · simp only [z0, if_false, Sem.run_bind, run_zero hi g2, Sem.run_pure, Result.andThen, g3, harr]
          simp [run_newRow]
      · cases ha
    · cases ha
  · cases ha
theorem src_ok (h : Rel H ρ z pv w0 w) {size m : Nat} {x : AV} {v : Value} {cs : List AV} (hv : VR ρ z x v) (hs : srcCells H size x = some (cs, m)) :
    ∃ vs, VRs ρ z cs vs ∧ cs.length = m * size ∧ (∀ w, (Builtin.lenOf v).run P w = .ok m w) ∧ ∀ n, (Builtin.firstCells size m v).run P { w with drawn := n } = .ok ⟨vs⟩ { w with drawn := n } := by
  unfold srcCells at hs
  split at hs
  · rename_i cs' len
    cases hb : Nat.beq cs'.length (len * size) with
    | false => rw [hb] at hs; cases hs
    | true =>
      rw [hb] at hs
      cases hs
      have hb := Nat.eq_of_beq_eq_true hb
      cases hv with
      | isl0 A c =>
        refine ⟨[], .nil, by simp, fun _ => rfl, fun n => ?_⟩
        cases A <;> simp [Builtin.firstCells, loadCells, loadCellsFrom]
      | isl _ _ b o c vs hs hz hc =>
        refine ⟨vs, hs, hb, fun _ => rfl, fun n => ?_⟩
        have hl : vs.length = m * size := by rw [hs.length, hb]
        have := run_loadCells_list (P := P) { w with drawn := n } ⟨b, o, none⟩ vs (fun j u hj => by rw [add_mk]; exact h.fz _ _ _ (hz j u hj))
        rw [hl] at this
        simpa [Builtin.firstCells] using this
  · cases hs; cases hv
    exact ⟨[], .nil, by simp, fun _ => rfl, fun n => by simp [Builtin.firstCells]⟩
  · cases hs; cases hv with | esl A =>
    refine ⟨[], .nil, by simp, fun _ => rfl, fun n => ?_⟩
    cases A <;> simp [Builtin.firstCells, loadCells, loadCellsFrom]
  · rename_i id off len cap ex es
    split at hs
    · rename_i cs' hg
      split at hs
      · rename_i l hsg
        cases hs
        cases hv with | slice _ _ _ _ _ _ b o n rc A hp g1 g2 g3 g5 g6 =>
        have hl := (seg_some hsg).2
        let f : Nat → Value := fun j => (w.cell? ⟨b, o + off + j, none⟩).getD undef
        have hf : ∀ j, j < m * size → ∃ x u, cs[j]? = some x ∧ w.cell? ⟨b, o + off + j, none⟩ = some u ∧ VR ρ z x u := fun j hj => by
          obtain ⟨x, h1, h2⟩ := seg_at hsg hj
          obtain ⟨u, h3, _, h4⟩ := h.cell hg hp h2
          exact ⟨x, u, h1, by rw [Nat.add_assoc]; exact h3, h4⟩
        have hvs : VRs ρ z cs ((List.range (m * size)).map f) := VRs.of_at (by simp [hl]) fun j x u hx hu => by
          have hj : j < m * size := by have := (List.getElem?_eq_some_iff.1 hx).1; omega
          obtain ⟨x', u', h1, h2, h3⟩ := hf j hj
          rw [hx] at h1
          cases h1
          simp [hj, f, h2] at hu
          subst hu
          exact h3
        refine ⟨(List.range (m * size)).map f, hvs, hl, fun _ => rfl, fun nn => ?_⟩
        rcases Nat.eq_zero_or_pos (m * size) with h0 | h0
        · simp [Builtin.firstCells, h0, loadCells, loadCellsFrom]
        · have hm : 0 < m := Nat.pos_of_ne_zero fun e => by rw [e, Nat.zero_mul] at h0; exact absurd h0 (Nat.lt_irrefl _)
          have hA := g5 (by omega)
          subst hA
          have := run_loadCells (P := P) { w with drawn := nn } ⟨b, o + off, none⟩ (m * size) f (fun j hj => by
            obtain ⟨x, u, _, h2, _⟩ := hf j hj
            rw [add_mk]
            show w.cell? _ = _
            rw [h2]; simp [f, h2])
          simpa [Builtin.firstCells] using this
      · cases hs
    · cases hs
  · rename_i s
    cases hb : Nat.beq size 1 with
    | false => rw [hb] at hs; cases hs
    | true =>
      rw [hb] at hs
      cases hs
      have hb := Nat.eq_of_beq_eq_true hb
      subst hb
      cases hv
      refine ⟨s.map fun b => .int .u8 b.toNat, ?_, by simp, fun _ => rfl, fun n => ?_⟩
      · refine VRs.of_at (by simp) fun j x u hx hu => ?_
        simp only [List.getElem?_map] at hx hu
        cases hj : s[j]? with
        | none => simp [hj] at hx
        | some b =>
          simp only [hj, Option.map_some, Option.some.injEq] at hx hu
          subst hx; subst hu
          exact .int _ _
      · have : (ByteArray.extract ⟨⟨s⟩⟩ 0 s.length).data.map (fun b => Value.int .u8 b.toNat) = ⟨s.map fun b => Value.int .u8 b.toNat⟩ := by
          apply Array.ext'
          simp [ByteArray.data_extract, List.extract_eq_take_drop]
        simp only [Builtin.firstCells]
        rw [this]; rfl
  · cases hs
theorem growBy_le (n : Nat) : ∀ (r c : Nat), c ≤ 2 * n + 192 → Builtin.growBy n r c ≤ 2 * n + 192
  | 0, c, h => h
  | r + 1, c, h => by
    unfold Builtin.growBy
    split
    · exact h
    · exact growBy_le n r _ (by omega)
theorem nextslicecap_le {n c : Nat} (h : c < n) : Builtin.nextslicecap n c ≤ 2 * n + 192 := by
  unfold Builtin.nextslicecap
  split
  · omega
  · split
    · omega
    · exact growBy_le n 4 c (by omega)
/-- A new array, however large the tape makes it. -/
theorem run_append_new {ts tx ty e : TypeId} {inf : TypeInfo} {zv : Value} {zs : List Value} {dx : TypeDesc} (hd : D.und ts = some (.slice e)) (hdx : D.und tx = some dx) (hni : srcD dx = true)
    (hi : D.inf e = some inf) (hz : inf.zero = some zv) (hzc : zv.cells = ⟨zs⟩) (A : Option Addr) (len rc m : Nat) (x : Value) (olds news : List Value)
    (hlen : (Builtin.lenOf x).run P w = .ok m w) (hold : (Builtin.firstCells inf.size len (.slice A len rc)).run P w.drew = .ok ⟨olds⟩ w.drew)
    (hnew : (Builtin.firstCells inf.size m x).run P w.drew = .ok ⟨news⟩ w.drew) (hc : rc < len + m) (hr : roomOk (len + m) inf.bytes = true) :
    ∃ nc, len + m ≤ nc ∧ (Builtin.append_ #[ts, tx] ty #[.slice A len rc, x]).run P w =
      .ok (.slice (some ⟨w.heap.size, 0, none⟩) (len + m) nc) (w.drew.alloc (.cells ((olds ++ news) ++ replV (nc - (len + m)) zs).toArray e)) := by
  simp only [roomOk, Bool.and_eq_true] at hr
  have r1 := Nat.le_of_ble_eq_true hr.1
  have r2 := Nat.le_of_ble_eq_true hr.2
  have hnc : len + m ≤ grownCap w (len + m) rc e := by show _ ≤ (len + m) + _ % _; omega
  refine ⟨grownCap w (len + m) rc e, hnc, ?_⟩
  have hcap := nextslicecap_le hc
  have hnb : ¬ (281474976710656 < Builtin.nextslicecap (len + m) rc * inf.bytes) := by
    have := Nat.mul_le_mul_right inf.bytes hcap
    have h2 : 2 * (len + m) * inf.bytes ≤ (2 * (len + m) + 192) * inf.bytes := Nat.mul_le_mul_right _ (by omega)
    omega
  have hbig : ¬ (9223372036854775807 < ((len : Int) + (m : Int))) := by omega
  have hn : ¬ len + m ≤ rc := by omega
  have hzc' : ∀ k, Builtin.zeroCells zv.cells k = ⟨replV k zs⟩ := fun k => by
    rw [hzc]
    exact range_zero zs zs.length _ _ rfl (by simp)
  have hask : ∀ (k : Nat) (w : World), (askRoom k).run P w = .ok () w := fun k w => by unfold askRoom; split <;> rfl
  cases dx <;> first | (cases hni; done) | simp [Builtin.append_, run_und hd, run_und hdx, sizeOf, typeInfo, zeroValue, TabOk.inf (P := P) hi, hz, hlen, hn, hbig, hnb, Question.forced, hold, hnew, newRow, grownCap, hzc', hask]
/-- In the room that is there. -/
theorem run_append_fit {ts tx ty e : TypeId} {inf : TypeInfo} {dx : TypeDesc} (hd : D.und ts = some (.slice e)) (hdx : D.und tx = some dx) (hni : srcD dx = true)
    (hi : D.inf e = some inf) (A : Addr) (len rc m : Nat) (x : Value) (news : List Value) (w' : World)
    (hlen : (Builtin.lenOf x).run P w = .ok m w) (hnew : (Builtin.firstCells inf.size m x).run P w = .ok ⟨news⟩ w) (hc : len + m ≤ rc)
    (hst : (storeCells (A.add (len * inf.size)) news).run P w = .ok () w') :
    (Builtin.append_ #[ts, tx] ty #[.slice (some A) len rc, x]).run P w = .ok (.slice (some A) (len + m) rc) w' := by
  cases dx <;> first | (cases hni; done) | simp [Builtin.append_, run_und hd, run_und hdx, sizeOf, typeInfo, TabOk.inf (P := P) hi, hlen, hc, hnew, hst]
theorem run_append_zero {ts tx ty e : TypeId} {inf : TypeInfo} {dx : TypeDesc} (hd : D.und ts = some (.slice e)) (hdx : D.und tx = some dx) (hni : srcD dx = true)
    (hi : D.inf e = some inf) (A : Option Addr) (len rc : Nat) (x : Value)
    (hlen : (Builtin.lenOf x).run P w = .ok 0 w) (hnew : (Builtin.firstCells inf.size 0 x).run P w = .ok ⟨[]⟩ w) (hc : len ≤ rc) :
    (Builtin.append_ #[ts, tx] ty #[.slice A len rc, x]).run P w = .ok (.slice A len rc) w := by
  cases dx <;> first | (cases hni; done) | (cases A <;> simp [Builtin.append_, run_und hd, run_und hdx, sizeOf, typeInfo, TabOk.inf (P := P) hi, hlen, hc, hnew, storeCells])
/-- Stores behind the last cell that is known. -/
theorem Rel.pushes {id b o n : Nat} (hp : ρ id = some (b, o, n)) : ∀ (xs : List AV) (vs : List Value) (cs : List AV) (H : Heap) (w : World) (p j : Nat), Rel H ρ z pv w0 w → H.t.get id = some (.cells cs) → VRs ρ z xs vs → allOne xs = true →
    (xs = [] ∨ o + cs.length + xs.length ≤ n) → p + j = o + cs.length →
    ∃ H' w', (storeCells ⟨b, p, none⟩ vs j).run P w = .ok () w' ∧ Rel H' ρ z pv w0 w' ∧ (H'.nx = H.nx ∧ H'.e = H.e) ∧ (∀ k, H'.t.get k = (H.put id (.cells (cs ++ xs))).t.get k)
  | _, _, cs, H, w, p, j, h, hg, .nil, _, _, _ => by
    refine ⟨H, w, rfl, h, ⟨rfl, rfl⟩, fun k => ?_⟩
    simp only [List.append_nil, Heap.put, T.get_set]
    by_cases e : k = id
    · rw [if_pos e, e, hg]
    · rw [if_neg e]
  | x :: xs, v :: vs, cs, H, w, p, j, h, hg, .cons _ _ _ _ hx hs, h1, hl, hj => by
    simp only [allOne, Bool.and_eq_true] at h1
    have hl : o + cs.length + (xs.length + 1) ≤ n := by
      rcases hl with e | e
      · cases e
      · simpa using e
    obtain ⟨u, hc, hf⟩ := h.there hg hp (i := cs.length) (by omega)
    have hs1 := h.store_push hg hp (by omega) hx
    have hg' : (H.put id (.cells (cs ++ [x]))).t.get id = some (.cells (cs ++ [x])) := by simp [Heap.put, T.get_set]
    obtain ⟨H', w', r1, r2, r3, r4⟩ := Rel.pushes hp xs vs (cs ++ [x]) _ _ p (j + 1) hs1 hg' hs h1.2 (.inr (by simp; omega)) (by simp; omega)
    refine ⟨H', w', ?_, r2, r3, fun k => ?_⟩
    · have hadd : (⟨b, p, none⟩ : Addr).add j = ⟨b, o + cs.length, none⟩ := by rw [add_mk, hj]
      have hst : (_root_.Go.store ((⟨b, p, none⟩ : Addr).add j) v).run P w = Result.ok () (w.setCell ⟨b, o + cs.length, none⟩ v) := by
        rw [hadd, run_store P w _ v _ (hx.one h1.1), hc]
        simp [hf]
      simp only [storeCells, Sem.run_bind, hst, Result.andThen, r1]
    · rw [r4 k]
      simp only [Heap.put, T.get_set]
      by_cases e : k = id <;> simp [e]
theorem tagOf_some {H : Heap} {id off : Nat} {e e' : TypeId} (h : tagOf H id off e = some e') : e' = e ∧ off = 0 ∧ ∃ k, H.e.get id = some (e, k) := by
  unfold tagOf at h
  split at h
  · rename_i e2 k hk
    cases hb : Nat.beq e2 e with
    | false => rw [hb] at h; cases h
    | true =>
      rw [hb] at h
      cases h
      have := Nat.eq_of_beq_eq_true hb
      subst this
      exact ⟨rfl, rfl, k, hk⟩
  · cases h
/-- Into a new array. -/
theorem append_fresh (h : Rel H ρ z pv w0 w) {ts tx ty e : TypeId} {inf : TypeInfo} {zv : Value} {zs : List Value} {dx : TypeDesc} (hd : D.und ts = some (.slice e)) (hdx : D.und tx = some dx) (hni : srcD dx = true)
    (hi : D.inf e = some inf) (hz : inf.zero = some zv) (hzc : zv.cells = ⟨zs⟩) (hzl : zs.length = inf.size) (A : Option Addr) (len rc m : Nat) (x : Value) (olds news : List AV) (ov nv : List Value)
    (ho : VRs ρ z olds ov) (hn : VRs ρ z news nv) (hol : ov.length = len * inf.size) (hnl : nv.length = m * inf.size)
    (hlen : (Builtin.lenOf x).run P w = .ok m w) (hold : (Builtin.firstCells inf.size len (.slice A len rc)).run P w.drew = .ok ⟨ov⟩ w.drew)
    (hnew : (Builtin.firstCells inf.size m x).run P w.drew = .ok ⟨nv⟩ w.drew) (hc : rc < len + m) (hr : roomOk (len + m) inf.bytes = true) {tg : Option TypeId} (htg : ∀ e', tg = some e' → e' = e) :
    Out (H.allocE (.cells (olds ++ news)) tg) (.slice H.nx 0 (len + m) (len + m) false inf.size) ρ z pv w0 ((Builtin.append_ #[ts, tx] ty #[.slice A len rc, x]).run P w) := by
  obtain ⟨nc, h1, h2⟩ := run_append_new (ty := ty) hd hdx hni hi hz hzc A len rc m x ov nv hlen hold hnew hc hr
  have hq := (h.drew (w.drawn + 1)).alloc_cells (replV (nc - (len + m)) zs) e (0, 0) (fun j _ hj => absurd hj (Nat.not_lt_zero _)) (ho.append hn)
  have hq2 : Rel (H.allocE (.cells (olds ++ news)) tg) (plSet ρ H.nx (w.heap.size, 0, ((ov ++ nv) ++ replV (nc - (len + m)) zs).length)) z pv w0 (({ w with drawn := w.drawn + 1 } : World).alloc (.cells ((ov ++ nv) ++ replV (nc - (len + m)) zs).toArray e (0, 0))) := by
    cases tg with
    | none => exact hq
    | some e' =>
      obtain rfl := htg e' rfl
      exact hq.typed (plSet_same _ _ _) (heap_alloc_new { w with drawn := w.drawn + 1 } _) (by simp) (fun m hm => by cases hm)
  refine ⟨_, _, _, h2, hq2, h.ext_alloc _, .slice _ 0 _ _ false inf.size _ 0 _ nc _ (plSet_same _ _ _) (Nat.le_refl _) h1 (fun hh => by cases hh) (fun _ => rfl) ?_⟩
  rw [List.length_append, List.length_append, hol, hnl, replV_length, hzl, ← Nat.add_mul, ← Nat.add_mul]
  have : len + m + (nc - (len + m)) = nc := by omega
  rw [this]
  omega
theorem aAppend_ok (h : Rel H ρ z pv w0 w) {ts tx ty : TypeId} {s x y : AV} {sv xv : Value} {H' : Heap} (hs : VR ρ z s sv) (hx : VR ρ z x xv) (ha : aAppend D H ts tx s x = some (y, H')) :
    Out H' y ρ z pv w0 ((Builtin.append_ #[ts, tx] ty #[sv, xv]).run P w) := by
  unfold aAppend at ha
  split at ha
  · rename_i e dx hd hdx
    split at ha
    · rename_i inf zs0 hi hz
      obtain ⟨i', v, us, g1, g2, g3, g4, g5, g6⟩ := zeroOf_ok hz
      rw [hi] at g1
      cases g1
      split at ha
      · cases ha
      · rename_i news m hsrc
        have hni : srcD dx = true := by
          cases hb : srcD dx with
          | true => rfl
          | false => rw [hb] at hsrc; cases hsrc
        rw [hni, cond_true] at hsrc
        obtain ⟨vs, k1, k2, k3, k4⟩ := src_ok (P := P) h hx hsrc
        have k5 := k4 w.drawn
        have hvl : vs.length = m * inf.size := by rw [k1.length, k2]
        have nz : ∀ (A : Option Addr), (Builtin.firstCells inf.size 0 (.slice A 0 0)).run P w.drew = .ok ⟨[]⟩ w.drew := fun A => by
          cases A <;> simp [Builtin.firstCells, loadCells, loadCellsFrom]
        have empty : ∀ (A : Option Addr), cond (Nat.beq m 0) (some (s, H)) (cond (roomOk m inf.bytes) (some (AV.slice H.nx 0 m m false inf.size, H.allocE (.cells news) (some e))) none) = some (y, H') → VR ρ z s (.slice A 0 0) →
            Out H' y ρ z pv w0 ((Builtin.append_ #[ts, tx] ty #[.slice A 0 0, xv]).run P w) := fun A hh hv => by
          cases hb : Nat.beq m 0 with
          | true =>
            rw [hb] at hh
            cases hh
            have hb := Nat.eq_of_beq_eq_true hb
            subst hb
            have hv0 : vs = [] := List.eq_nil_of_length_eq_zero (by simpa using hvl)
            subst hv0
            exact ⟨_, w, ρ, run_append_zero hd hdx hni hi A 0 0 xv (k3 w) k5 (Nat.le_refl _), h, Ext.refl _ _, hv⟩
          | false =>
            rw [hb, cond_false] at hh
            cases hr : roomOk m inf.bytes with
            | false => rw [hr] at hh; cases hh
            | true =>
              rw [hr] at hh
              cases hh
              have hm : m ≠ 0 := fun e => by rw [e] at hb; cases hb
              have := append_fresh (ty := ty) h hd hdx hni hi g2 g3 g6 A 0 0 m xv [] news [] vs .nil k1 (by simp) hvl (k3 w) (nz A) (k4 _) (by omega) (by simpa using hr) (tg := some e) (fun e' he => by cases he; rfl)
              simpa using this
        split at ha
        · cases hs
          exact empty none ha .nilsl
        · cases hs with | esl A => exact empty A ha (.esl A)
        · rename_i id off len cap ex es
          cases hb : (Nat.beq es inf.size && allOne news) with
          | false => rw [hb] at ha; cases ha
          | true =>
          rw [hb, cond_true] at ha
          simp only [Bool.and_eq_true] at hb
          have hes := Nat.eq_of_beq_eq_true hb.1
          have hone := hb.2
          subst hes
          cases hs with | slice _ _ _ _ _ _ b o n rc A hp q1 q2 q3 q5 q6 =>
          split at ha
          · rename_i cs hg
            cases hle : Nat.ble (len + m) cap with
            | true =>
              rw [hle, cond_true] at ha
              have hle := Nat.le_of_ble_eq_true hle
              cases hfit : Nat.ble (off + (len + m) * inf.size) cs.length with
              | false => rw [hfit] at ha; cases ha
              | true =>
              rw [hfit] at ha
              cases ha
              have hfit := Nat.le_of_ble_eq_true hfit
              rw [Nat.add_mul] at hfit
              rcases Nat.eq_zero_or_pos rc with h0 | h0
              · -- nothing at all
                obtain rfl : len = 0 := by omega
                obtain rfl : m = 0 := by omega
                have hv0 : vs = [] := List.eq_nil_of_length_eq_zero (by simpa using hvl)
                subst hv0
                have hn0 : news = [] := List.eq_nil_of_length_eq_zero (by simpa using k2)
                subst hn0
                refine ⟨_, w, ρ, run_append_zero hd hdx hni hi (some A) 0 rc xv (k3 w) k5 (by omega), h.same rfl rfl fun k => ?_, Ext.refl _ _, .slice id off _ cap ex _ b o n rc A hp (by omega) q2 q3 q5 q6⟩
                simp only [putAt, Heap.put, T.get_set]
                by_cases e : k = id
                · rw [if_pos e, e, hg]
                · rw [if_neg e]
              · have hA := q5 h0
                subst hA
                obtain ⟨H2, w', r1, r2, r3, r4⟩ := Rel.stores (P := P) hp news vs cs H w (o + off + len * inf.size) (off + len * inf.size) 0 h hg k1 hone (by rw [k2]; omega) (by omega)
                refine ⟨_, w', ρ, run_append_fit hd hdx hni hi _ len rc m xv vs w' (k3 w) k5 (by omega) (by rw [add_mk]; exact r1), r2.same r3.1.symm r3.2.symm (fun k => (r4 k).symm), Ext.refl _ _, .slice id off _ cap ex _ b o n rc _ hp hle q2 q3 (fun _ => rfl) q6⟩
            | false =>
              rw [hle, cond_false] at ha
              have hgt : cap < len + m := by
                rcases Nat.lt_or_ge cap (len + m) with k | k
                · exact k
                · rw [Nat.ble_eq_true_of_le k] at hle; cases hle
              split at ha
              · rename_i olds hsg
                cases hr : roomOk (len + m) inf.bytes with
                | false => rw [hr] at ha; cases ha
                | true =>
                rw [hr, cond_true] at ha
                have hol := (seg_some hsg).2
                -- the old cells
                have hsl : srcCells H inf.size (.slice id off len cap ex inf.size) = some (olds, len) := by simp [srcCells, hg, hsg]
                obtain ⟨ov, o1, o2, _, o4⟩ := src_ok (P := P) h (.slice id off len cap ex inf.size b o n rc A hp q1 q2 q3 q5 q6) hsl
                have hovl : ov.length = len * inf.size := by rw [o1.length, o2]
                cases hex : ex with
                | true =>
                  rw [hex] at ha
                  cases ha
                  have hrc := q3 hex
                  exact append_fresh h hd hdx hni hi g2 g3 g6 (some A) len rc m xv olds news ov vs o1 k1 hovl hvl (k3 w) (o4 _) (k4 _) (by omega) hr (tg := some e) (fun e' he => by cases he; rfl)
                | false =>
                  rw [hex] at ha
                  cases ha
                  rcases Nat.lt_or_ge rc (len + m) with hlt | hge
                  · have hdr := h.drop id
                    have := append_fresh (ty := ty) hdr hd hdx hni hi g2 g3 g6 (some A) len rc m xv olds news ov vs o1 k1 hovl hvl (k3 w) (o4 _) (k4 _) hlt hr (tg := tagOf H id off e) (fun e' he => (tagOf_some he).1)
                    exact this
                  · -- in place, under a new name
                    have hrc0 : 0 < rc := by omega
                    have hA := q5 hrc0
                    subst hA
                    have hrn := h.rename hg hp off (len * inf.size)
                    have hE := h.ext_alloc (b, o + off, n)
                    have hold : (cs.drop off).take (len * inf.size) = olds := ((seg_some hsg).1).symm
                    rw [hold] at hrn
                    have hp' : plSet ρ H.nx (b, o + off, n) H.nx = some (b, o + off, n) := plSet_same _ _ _
                    have hg' : ((H.drop id).alloc (.cells olds)).t.get H.nx = some (.cells olds) := by simp [Heap.alloc, Heap.drop, T.get_set]
                    have hbound : o + off + olds.length + news.length ≤ n := by
                      have e1 : (len + m) * inf.size ≤ rc * inf.size := Nat.mul_le_mul_right _ hge
                      rw [Nat.add_mul] at e1
                      rw [hol, k2]
                      omega
                    obtain ⟨H2, w', r1, r2, r3, r4⟩ := Rel.pushes (P := P) hp' news vs olds _ w (o + off + len * inf.size) 0 hrn hg' (k1.mono hE) hone (.inr hbound) (by rw [hol]; omega)
                    have hsame : Rel ((H.drop id).alloc (.cells (olds ++ news))) (plSet ρ H.nx (b, o + off, n)) z pv w0 w' := r2.same (by rw [r3.1]; rfl) (by rw [r3.2]; rfl) (fun k => by
                      rw [r4 k]
                      by_cases e : k = H.nx <;> simp [Heap.alloc, Heap.put, Heap.drop, T.get_set, e])
                    have hfin : Rel ((H.drop id).allocE (.cells (olds ++ news)) (tagOf H id off e)) (plSet ρ H.nx (b, o + off, n)) z pv w0 w' := by
                      cases htg : tagOf H id off e with
                      | none => exact hsame
                      | some e' =>
                        obtain ⟨rfl, rfl, k, hk⟩ := tagOf_some htg
                        obtain ⟨b', n', real, fz, y1, y2, y3, _⟩ := hsame.ty id _ k hk
                        have y1' := y1
                        have hidn : id ≠ H.nx := fun hh => by
                          have := h.lt_nx hp; omega
                        rw [plSet_ne _ _ hidn, hp] at y1'
                        cases y1'
                        exact hsame.typed (show plSet ρ H.nx (b, 0 + 0, n) H.nx = some (b, 0, n) from plSet_same _ _ _) y2 y3 (fun m hm => by cases hm)
                    refine ⟨_, w', _, run_append_fit hd hdx hni hi _ len rc m xv vs w' (k3 w) k5 hge (by rw [add_mk]; exact r1), hfin, hE, .slice H.nx 0 _ _ false _ b (o + off) n rc _ hp' (Nat.le_refl _) hge (fun hh => by cases hh) (fun _ => by simp) (by omega)⟩
              · cases ha
          · cases ha
        · cases ha
    · cases ha
  · cases ha
end
end Go.Eng
end
section
namespace Go.Eng
open Go.RowKit
def aInt (op : BinOp) (k : IntKind) (a : Int) (k' : IntKind) (b : Int) : Option AV :=
  match op with
  | .shl => if b < 0 then none else some (.int k (k.wrap (a * 2 ^ (min b.toNat k.bits))))
  | .shr => if b < 0 then none else some (.int k (a.fdiv (2 ^ (min b.toNat k.bits))))
  | _ => if k ≠ k' then none else
    match op with
    | .add => some (.int k (k.wrap (a + b)))
    | .sub => some (.int k (k.wrap (a - b)))
    | .mul => some (.int k (k.wrap (a * b)))
    | .quo => if b = 0 then none else some (.int k (k.wrap (a.tdiv b)))
    | .rem => if b = 0 then none else some (.int k (a.tmod b))
    | .and => some (.int k (k.wrap (BitVec.ofInt k.bits a &&& BitVec.ofInt k.bits b).toNat))
    | .or => some (.int k (k.wrap (BitVec.ofInt k.bits a ||| BitVec.ofInt k.bits b).toNat))
    | .xor => some (.int k (k.wrap (BitVec.ofInt k.bits a ^^^ BitVec.ofInt k.bits b).toNat))
    | .andNot => some (.int k (k.wrap (BitVec.ofInt k.bits a &&& ~~~ BitVec.ofInt k.bits b).toNat))
    | .eql => some (.bool (a == b))
    | .neq => some (.bool (a != b))
    | .lss => some (.bool (a < b))
    | .leq => some (.bool (a ≤ b))
    | .gtr => some (.bool (a > b))
    | .geq => some (.bool (a ≥ b))
    | _ => none
def aStr (op : BinOp) (a b : List UInt8) : Option AV :=
  match op with
  | .add => cond (Nat.ble (a.length + b.length) 9223372036854775807) (some (.str (a ++ b))) none
  | .eql => some (.bool (a == b))
  | .neq => some (.bool (!(a == b)))
  | .lss => some (.bool (Op.bytesLess a b))
  | .leq => some (.bool (Op.bytesLess a b || a == b))
  | .gtr => some (.bool (!(Op.bytesLess a b || a == b)))
  | .geq => some (.bool (!Op.bytesLess a b))
  | _ => none
/-- Is it nil? Of kinds that may be. -/
def isNilA : AV → Option Bool
  | .nilp | .nilsl | .nilmap | .nilfunc | .niliface => some true
  | .ptr _ _ | .iptr _ _ | .num _ | .frac _ | .slice _ _ _ _ _ _ | .map _ | .func _ _ _ | .iface _ _ => some false
  | .isl cs _ => match cs with
    | [] => none
    | _ => some false
  | _ => none
/-- The kind that a value is of. -/
def fitsD : TypeDesc → AV → Bool
  | .pointer _, .nilp | .pointer _, .ptr _ _ | .pointer _, .iptr _ _ | .pointer _, .num _ | .pointer _, .frac _ => true
  | .slice _, .nilsl | .slice _, .slice _ _ _ _ _ _ | .slice _, .isl _ _ => true
  | .map _ _, .nilmap | .map _ _, .map _ => true
  | .func _ _ _, .nilfunc | .func _ _ _, .func _ _ _ => true
  | .interface _, .niliface | .interface _, .iface _ _ => true
  | _, _ => false
def aEqNil (D : Tab) (t : TypeId) (x y : AV) : Option Bool :=
  match D.und t, isNilA x, isNilA y with
  | some d, some a, some b => cond (fitsD d x && fitsD d y && (a != b)) (some false) none
  | _, _, _ => none
def ptrTo (D : Tab) (t : TypeId) : Bool := match D.und t with
  | some (.pointer te) => (D.inf te).isSome
  | _ => false
def aBin (D : Tab) (P : Program) (op : BinOp) (t : TypeId) (ox oy : Operand) (x y : AV) : Option AV :=
  match x, y with
  | .int k a, .int k' b => aInt op k a k' b
  | .str a, .str b => aStr op a b
  | .ptr a b, .ptr c d => cond (Nat.beq a c && Nat.beq b d && ptrTo D t) (match op with
    | .eql => some (.bool true)
    | .neq => some (.bool false)
    | _ => none) none
  | x, y =>
    match op, aEqNil D t x y with
    | .eql, some b => some (.bool b)
    | .neq, some b => some (.bool (!b))
    | _, _ => match concA x, concA y with
      | some a, some b => match pureOf P (do eqGuard op t ox oy a b; binOp op t a b) with
        | some v => absC v
        | none => none
      | _, _ => none
def aUn (op : UnOp) (x : AV) : Option AV :=
  match op, x with
  | .not, .bool b => some (.bool (!b))
  | .neg, .int k n => some (.int k (k.wrap (0 - n)))
  | .xor, .int k n => some (.int k (k.wrap (BitVec.ofInt k.bits (if k.signed then -1 else k.max) ^^^ BitVec.ofInt k.bits n).toNat))
  | _, _ => none
def toBytes : List AV → Option (List UInt8)
  | [] => some []
  | .int .u8 n :: xs => match toBytes xs with
    | some l => some (UInt8.ofNat n.toNat :: l)
    | none => none
  | _ => none
/-- Conversions that make no memory. -/
def aConv (D : Tab) (P : Program) (H : Heap) (s d : TypeId) (x : AV) : Option AV :=
  match D.und s, D.und d with
  | some _, some (.int k) => match x with
    | .int _ n => some (.int k (k.wrap n))
    | _ => none
  | some ds, some .string => match ds, x with
    | _, .str l => some (.str l)
    | _, .int k n => match pureOf P (convert s d (.int k n)) with
      | some v => absC v
      | none => none
    | .slice e, x => match D.und e with
      | some (.int .u8) => match srcCells H 1 x with
        | some (cs, _) => (toBytes cs).map .str
        | none => none
      | _ => none
    | _, _ => none
  | _, _ => none
def aConvBytes (D : Tab) (H : Heap) (s d : TypeId) (x : AV) : Option (AV × Heap) :=
  match D.und s, D.und d, x with
  | some .string, some (.slice e), .str l => match D.und e with
    | some (.int .u8) => cond (Nat.ble l.length 281474976710656) (some (.slice H.nx 0 l.length l.length false 1, H.alloc (.cells (l.map u8)))) none
    | _ => none
  | _, _, _ => none
def aLen (D : Tab) (H : Heap) (t : TypeId) (x : AV) : Option AV :=
  match D.und t with
  | some .string => match x with
    | .str s => some (.int .i64 s.length)
    | _ => none
  | some (.slice _) => match x with
    | .slice _ _ len _ _ _ => some (.int .i64 len)
    | .isl _ len => some (.int .i64 len)
    | .nilsl | .esl => some (.int .i64 0)
    | _ => none
  | some (.map _ _) => match x with
    | .nilmap => some (.int .i64 0)
    | .map id => match H.t.get id with
      | some (.map es _) => some (.int .i64 es.length)
      | _ => none
    | _ => none
  | some (.array n _) => some (.int .i64 n)
  | some (.pointer a) => match D.und a with
    | some (.array n _) => some (.int .i64 n)
    | _ => none
  | _ => none
def aCap (D : Tab) (t : TypeId) (x : AV) : Option AV :=
  match D.und t with
  | some (.slice _) => match x with
    | .slice _ _ _ cap true _ => some (.int .i64 cap)
    | .nilsl | .esl => some (.int .i64 0)
    | _ => none
  | _ => none
def aMax : List AV → Option AV
  | [.int k x] => some (.int k x)
  | [.int k x, .int _ y] => some (.int k (if y > x then y else x))
  | _ => none
def aMin : List AV → Option AV
  | [.int k x] => some (.int k x)
  | [.int k x, .int _ y] => some (.int k (if y < x then y else x))
  | _ => none
section
variable {P : Program} {D : Tab} [TabOk D P] {H : Heap} {ρ : Pl} {z : Fz} {w0 w : World} {pv : Pv}
theorem aInt_ok {op : BinOp} {k k' : IntKind} {a b : Int} {y : AV} (t : TypeId) (ha : aInt op k a k' b = some y) : ∃ u, (binOp op t (.int k a) (.int k' b)).run P w = .ok u w ∧ VR ρ z y u := by
  unfold aInt at ha
  by_cases hk : k = k'
  · subst hk
    cases op <;> simp only [ne_eq, not_true_eq_false, if_false] at ha
    case quo => split at ha <;> cases ha; rename_i hb; exact ⟨_, by simp [binOp, Op.intDiv, hb], .int _ _⟩
    case rem => split at ha <;> cases ha; rename_i hb; exact ⟨_, by simp [binOp, Op.intDiv, hb], .int _ _⟩
    case shl => split at ha <;> cases ha; rename_i hb; exact ⟨_, by simp [binOp, Op.shift, hb], .int _ _⟩
    case shr => split at ha <;> cases ha; rename_i hb; exact ⟨_, by simp [binOp, Op.shift, hb], .int _ _⟩
    all_goals (cases ha; first | refine ⟨_, ?_, .int _ _⟩ | refine ⟨_, ?_, .bool _⟩)
    all_goals simp [binOp, Op.intArith, Op.intBits, Op.intCmp]
  · cases op <;> simp only [ne_eq, hk, not_false_eq_true, if_true] at ha <;> try (cases ha; done)
    case shl => split at ha <;> cases ha; rename_i hb; exact ⟨_, by simp [binOp, Op.shift, hb], .int _ _⟩
    case shr => split at ha <;> cases ha; rename_i hb; exact ⟨_, by simp [binOp, Op.shift, hb], .int _ _⟩
theorem aStr_ok {op : BinOp} {a b : List UInt8} {y : AV} (t : TypeId) (ha : aStr op a b = some y) : ∃ u, (binOp op t (.string ⟨⟨a⟩⟩) (.string ⟨⟨b⟩⟩)).run P w = .ok u w ∧ VR ρ z y u := by
  unfold aStr at ha
  cases op <;> try (cases ha; done)
  case add =>
    cases hb : Nat.ble (a.length + b.length) 9223372036854775807 with
    | false => simp [hb] at ha
    | true =>
      simp only [hb, cond_true, Option.some.injEq] at ha
      subst ha
      have hb := Nat.le_of_ble_eq_true hb
      refine ⟨_, ?_, .str _⟩
      have hm : IntKind.i64.max = 9223372036854775807 := by decide
      have hsz : ¬ (((((⟨⟨a⟩⟩ : ByteArray).size + (⟨⟨b⟩⟩ : ByteArray).size : Nat)) : Int) > IntKind.i64.max) := by
        rw [hm]
        show ¬ (((a.length + b.length : Nat) : Int) > _)
        omega
      have e : (⟨⟨a⟩⟩ : ByteArray) ++ ⟨⟨b⟩⟩ = ⟨⟨a ++ b⟩⟩ := by
        apply ByteArray.ext
        apply Array.ext'
        simp [ByteArray.data_append]
      simp only [binOp, Op.stringOp, hsz, if_false, e, Sem.run_pure]
  all_goals
    cases ha
    refine ⟨_, ?_, .bool _⟩
    simp [binOp, Op.stringOp]
def nilSpec (b : Bool) : TypeDesc → Value → Prop
  | .pointer _, .pointer a => a.isNone = b
  | .slice _, .slice a _ _ => a.isNone = b
  | .map _ _, .map a => a.isNone = b
  | .func _ _ _, .nilFunc => b = true
  | .func _ _ _, .func _ _ _ => b = false
  | .interface _, .nilIface => b = true
  | .interface _, .iface _ _ => b = false
  | _, _ => False
theorem nil_ok {d : TypeDesc} {x : AV} {v : Value} {b : Bool} (hx : VR ρ z x v) (hb : isNilA x = some b) (hf : fitsD d x = true) : nilSpec b d v := by
  cases hx <;> simp only [isNilA] at hb <;> (try (cases hb; done)) <;> cases d <;> simp only [fitsD, Bool.false_eq_true] at hf <;> (try (cases hb; simp [nilSpec]; done))
  case isl.slice cells len bb o c vs hs hz hc e =>
    split at hb
    · cases hb
    · cases hb; simp [nilSpec]
  case num.pointer n hv e => unfold numTree at hv; cases hv; cases hb; simp [nilSpec]
  case frac.pointer q hv e => unfold fracTree at hv; cases hv; cases hb; simp [nilSpec]
/-- Values that '==' hands to the comparison by type. -/
def refV : Value → Bool
  | .pointer _ | .slice _ _ _ | .map _ | .func _ _ _ | .nilFunc | .iface _ _ | .nilIface => true
  | _ => false
theorem nilSpec_ref {b : Bool} {d : TypeDesc} {v : Value} (h : nilSpec b d v) : refV v = true := by
  cases d <;> cases v <;> first | rfl | exact h.elim
theorem binOp_eql_ref (t : TypeId) {v u : Value} (h : refV v = true) : binOp .eql t v u = (do pure (.bool (← Op.equal t v u))) := by
  cases v <;> first | (cases h; done) | (cases u <;> rfl)
theorem binOp_neq_ref (t : TypeId) {v u : Value} (h : refV v = true) : binOp .neq t v u = (do pure (.bool (!(← Op.equal t v u)))) := by
  cases v <;> first | (cases h; done) | (cases u <;> rfl)
theorem eqGuard_ref (op : BinOp) (t : TypeId) (ox oy : Operand) {v u : Value} (h : refV v = true) (hn : ¬ (v = .nilIface ∧ u = .nilIface)) : (eqGuard op t ox oy v u).run P w = .ok () w := by
  unfold eqGuard
  cases v <;> first | (cases h; done) | skip
  all_goals (cases u <;> first | exact absurd ⟨rfl, rfl⟩ hn | (cases op <;> rfl))
theorem equal_nil {t : TypeId} {d : TypeDesc} {v u : Value} {a b : Bool} (hd : D.und t = some d) (n1 : nilSpec a d v) (n2 : nilSpec b d u) (hne : a ≠ b) : (Op.equal t v u).run P w = .ok false w := by
  unfold Op.equal Op.maxDepth Op.equalIn
  rw [Sem.run_bind, run_und hd]
  cases d <;> cases v <;> (try (exact n1.elim)) <;> cases u <;> (try (exact n2.elim)) <;> simp only [nilSpec] at n1 n2
  case pointer.pointer.pointer e p q => cases p <;> cases q <;> simp at n1 n2 <;> subst n1 <;> subst n2 <;> first | exact absurd rfl hne | rfl
  case slice.slice.slice e p _ _ q _ _ => cases p <;> cases q <;> simp at n1 n2 <;> subst n1 <;> subst n2 <;> first | exact absurd rfl hne | rfl
  case map.map.map _ _ p q => cases p <;> cases q <;> simp at n1 n2 <;> subst n1 <;> subst n2 <;> first | exact absurd rfl hne | rfl
  all_goals (subst n1; subst n2; first | exact absurd rfl hne | rfl)
theorem aEqNil_ok {t : TypeId} {x y : AV} {v u : Value} {r : Bool} (hx : VR ρ z x v) (hy : VR ρ z y u) (ha : aEqNil D t x y = some r) (op : BinOp) (ox oy : Operand) :
    r = false ∧ (eqGuard op t ox oy v u).run P w = .ok () w ∧ (binOp .eql t v u).run P w = .ok (.bool false) w ∧ (binOp .neq t v u).run P w = .ok (.bool true) w := by
  unfold aEqNil at ha
  split at ha
  · rename_i d a b hd h1 h2
    cases hc : (fitsD d x && fitsD d y && (a != b)) with
    | false => rw [hc] at ha; cases ha
    | true =>
      rw [hc] at ha
      cases ha
      simp only [Bool.and_eq_true, bne_iff_ne, ne_eq] at hc
      obtain ⟨⟨f1, f2⟩, hne⟩ := hc
      have n1 := nil_ok hx h1 f1
      have n2 := nil_ok hy h2 f2
      have heq := equal_nil (P := P) (w := w) hd n1 n2 hne
      have hr := nilSpec_ref n1
      refine ⟨rfl, eqGuard_ref op t ox oy hr ?_, ?_, ?_⟩
      · rintro ⟨rfl, rfl⟩
        cases d <;> simp only [nilSpec] at n1 n2
        subst n1; subst n2
        exact hne rfl
      · rw [binOp_eql_ref t hr, Sem.run_bind, heq]; rfl
      · rw [binOp_neq_ref t hr, Sem.run_bind, heq]; rfl
  · cases ha
theorem ptr_same {t : TypeId} (a : Addr) (hp : ptrTo D t = true) : (binOp .eql t (.pointer (some a)) (.pointer (some a))).run P w = .ok (.bool true) w ∧ (binOp .neq t (.pointer (some a)) (.pointer (some a))).run P w = .ok (.bool false) w := by
  unfold ptrTo at hp
  split at hp
  · rename_i te hd
    obtain ⟨j, hj⟩ := Option.isSome_iff_exists.1 hp
    have h : ∀ d : Nat, (Op.equalIn (d + 1) t (.pointer (some a)) (.pointer (some a))).run P w = .ok true w := fun d => by
      simp [Op.equalIn, run_und hd, Result.andThen, run_sz hj, run_sameAddr_same]
    refine ⟨?_, Go.Lib.run_neq_ptr_same w a (TabOk.und hd) (TabOk.inf hj)⟩
    simp only [binOp]
    simp [Op.equal, Op.maxDepth, h 9999, Result.andThen]
  · cases hp
theorem aBin_ok {op : BinOp} {t : TypeId} {ox oy : Operand} {x y r : AV} {v u : Value} (hx : VR ρ z x v) (hy : VR ρ z y u) (ha : aBin D P op t ox oy x y = some r) :
    ∃ q, (do eqGuard op t ox oy v u; binOp op t v u : Sem Value).run P w = .ok q w ∧ VR ρ z r q := by
  unfold aBin at ha
  split at ha
  · rename_i k a k' b
    cases hx; cases hy
    obtain ⟨q, h1, h2⟩ := aInt_ok (P := P) (w := w) (ρ := ρ) (z := z) t ha
    refine ⟨q, ?_, h2⟩
    have hg : (eqGuard op t ox oy (.int k a) (.int k' b)).run P w = .ok () w := by unfold eqGuard; cases op <;> rfl
    rw [Sem.run_bind, hg]
    exact h1
  · rename_i a b
    cases hx; cases hy
    obtain ⟨q, h1, h2⟩ := aStr_ok (P := P) (w := w) (ρ := ρ) (z := z) t ha
    refine ⟨q, ?_, h2⟩
    have hg : (eqGuard op t ox oy (.string ⟨⟨a⟩⟩) (.string ⟨⟨b⟩⟩)).run P w = .ok () w := by unfold eqGuard; cases op <;> rfl
    rw [Sem.run_bind, hg]
    exact h1
  · rename_i a b c d
    cases hc : (Nat.beq a c && Nat.beq b d && ptrTo D t) with
    | false => rw [hc] at ha; cases ha
    | true =>
      rw [hc, cond_true] at ha
      simp only [Bool.and_eq_true] at hc
      obtain ⟨⟨c1, c2⟩, c3⟩ := hc
      have c1 := Nat.eq_of_beq_eq_true c1
      have c2 := Nat.eq_of_beq_eq_true c2
      subst c1; subst c2
      cases hx with | ptr _ _ b1 o1 n1 p1 =>
      cases hy with | ptr _ _ b2 o2 n2 p2 =>
      rw [p1] at p2
      cases p2
      obtain ⟨g1, g2⟩ := ptr_same (P := P) (w := w) (D := D) ⟨b1, o1 + b, none⟩ c3
      have hg : ∀ op, (eqGuard op t ox oy (.pointer (some ⟨b1, o1 + b, none⟩)) (.pointer (some ⟨b1, o1 + b, none⟩))).run P w = .ok () w := fun op => by unfold eqGuard; cases op <;> rfl
      cases op <;> simp only at ha <;> (try (cases ha; done))
      · cases ha
        exact ⟨_, by rw [Sem.run_bind, hg]; exact g1, .bool _⟩
      · cases ha
        exact ⟨_, by rw [Sem.run_bind, hg]; exact g2, .bool _⟩
  · split at ha
    · rename_i b hb
      cases ha
      obtain ⟨rfl, h1, h2, _⟩ := aEqNil_ok (P := P) (w := w) hx hy hb .eql ox oy
      exact ⟨.bool false, by rw [Sem.run_bind, h1]; exact h2, .bool _⟩
    · rename_i b hb
      cases ha
      obtain ⟨rfl, h1, _, h2⟩ := aEqNil_ok (P := P) (w := w) hx hy hb .neq ox oy
      exact ⟨.bool true, by rw [Sem.run_bind, h1]; exact h2, .bool _⟩
    · split at ha
      · rename_i a b h1 h2
        split at ha
        · rename_i q hq
          rw [concA_eq h1 hx, concA_eq h2 hy]
          exact ⟨q, pureOf_run hq w, absC_VR ha⟩
        · cases ha
      · cases ha
theorem aUn_ok {op : UnOp} {x r : AV} {v : Value} (hx : VR ρ z x v) (ha : aUn op x = some r) : ∃ q, (Op.unary op v).run P w = .ok q w ∧ VR ρ z r q := by
  unfold aUn at ha
  split at ha
  · cases ha; cases hx; exact ⟨_, rfl, .bool _⟩
  · cases ha; cases hx; exact ⟨_, by simp [Op.unary, Op.intArith], .int _ _⟩
  · cases ha; cases hx; exact ⟨_, by simp [Op.unary, Op.intBits], .int _ _⟩
  · cases ha
end
end Go.Eng
end
section
namespace Go.Eng
open Go.RowKit
def aClear (D : Tab) (H : Heap) (t : TypeId) (x : AV) : Option Heap :=
  match D.und t with
  | some (.slice e) => match x with
    | .nilsl | .esl => some H
    | .isl [] 0 => some H
    | .slice id off len _ _ es => match zeroOf D e, H.t.get id with
      | some zs, some (.cells cs) => cond (allOne zs && Nat.ble (off + len * zs.length) cs.length && Nat.beq zs.length es) (cond (Nat.beq len 0) (some H) (some (H.put id (.cells (putAt cs off (repl len zs)))))) none
      | _, _ => none
    | _ => none
  | some (.map _ _) => match x with
    | .nilmap => some H
    | .map id => match H.t.get id with
      | some (.map _ clock) => some (H.put id (.map [] clock))
      | _ => none
    | _ => none
  | _ => none
/-- Is it this key? -/
def sameK (D : Tab) (P : Program) (t : TypeId) (k e : AV) : Option Bool :=
  match D.und t, k, e with
  | some (.int _), .int j a, .int j' b => if j = j' then some (a == b) else none
  | some .string, .str a, .str b => some (a == b)
  | some (.struct _), k, e => match concA k, concA e with
    | some a, some b => pureOf P (Op.equal t a b)
    | _, _ => none
  | some (.array _ _), k, e => match concA k, concA e with
    | some a, some b => pureOf P (Op.equal t a b)
    | _, _ => none
  | _, _, _ => none
/-- The first entry of this key: how many stand before it. -/
def findK (D : Tab) (P : Program) (t : TypeId) (k : AV) : List ME → Nat → Option (Option (Nat × AV))
  | [], _ => some none
  | e :: es, i => match sameK D P t k e.k with
    | some true => some (some (i, e.v))
    | some false => findK D P t k es (i + 1)
    | none => none
def keyOk (D : Tab) (P : Program) (empty : Bool) (t : TypeId) (k : AV) : Bool :=
  match D.und t, k with
  | some (.int _), .int _ _ => true
  | some .string, .str _ => true
  | some (.struct _), k => match concA k with
    | some a => (pureOf P (Instr.checkKey empty 10000 t a)).isSome
    | none => false
  | some (.array _ _), k => match concA k with
    | some a => (pureOf P (Instr.checkKey empty 10000 t a)).isSome
    | none => false
  | _, _ => false
def aLookup (D : Tab) (P : Program) (H : Heap) (t : TypeId) (x ix : AV) (ok : Bool) : Option AV :=
  match D.und t with
  | some (.map key elem) =>
    match (match x with
      | .nilmap => some []
      | .map id => match H.t.get id with
        | some (.map es _) => some es
        | _ => none
      | _ => none : Option (List ME)) with
    | none => none
    | some es => cond (keyOk D P es.isEmpty key ix) (match findK D P key ix es 0 with
      | none => none
      | some (some (_, v)) => some (if ok then .tuple [v, .bool true] else v)
      | some none => match D.inf elem with
        | some i => match i.zero with
          | some zv => match absV zv with
            | some zx => some (if ok then .tuple [zx, .bool false] else zx)
            | none => none
          | none => none
        | none => none) none
  | _ => none
def aMapUpdate (D : Tab) (P : Program) (H : Heap) (t : TypeId) (x k y : AV) : Option Heap :=
  match D.und t, x with
  | some (.map key _), .map id => match H.t.get id with
    | some (.map es clock) => cond (keyOk D P false key k) (match findK D P key k es 0 with
      | none => none
      | some (some (i, _)) => match concA k, (es[i]?).map (fun e => concA e.k) with
        | some a, some (some b) => cond (Instr.sameBits 10000 b a) (some (H.put id (.map (es.modify i fun e => ⟨k, y, e.born⟩) clock))) none
        | _, _ => none
      | some none => some (H.put id (.map (es ++ [⟨k, y, clock⟩]) (clock + 1)))) none
    | _ => none
  | _, _ => none
section
variable {P : Program} {D : Tab} [TabOk D P] {H : Heap} {ρ : Pl} {z : Fz} {w0 w : World} {pv : Pv}
theorem toBytes_ok (f : Value → ByteArray → Sem (ForInStep ByteArray)) (hf : ∀ n s, f (.int .u8 n) s = pure (ForInStep.yield (s.push (UInt8.ofNat n.toNat)))) :
    ∀ {cs : List AV} {vs : List Value} {l : List UInt8}, VRs ρ z cs vs → toBytes cs = some l → ∀ s : ByteArray, (forIn vs s f).run P w = .ok ⟨⟨s.data.toList ++ l⟩⟩ w
  | _, _, l, .nil, h, s => by
    simp [toBytes] at h
    subst h
    simp
  | x :: xs, v :: vs, l, .cons _ _ _ _ hx hs, h, s => by
    unfold toBytes at h
    split at h
    · cases ‹x :: xs = []›
    · rename_i n xs' heq
      cases heq
      split at h
      · rename_i l' hl
        cases h
        cases hx
        have ih := toBytes_ok f hf hs hl (s.push (UInt8.ofNat n.toNat))
        simp only [List.forIn_cons, hf, Sem.run_bind, Sem.run_pure, Result.andThen]
        rw [ih]
        simp [ByteArray.push]
      · cases h
    · cases h
theorem aConv_ok (h : Rel H ρ z pv w0 w) {s d : TypeId} {x y : AV} {v : Value} (hx : VR ρ z x v) (ha : aConv D P H s d x = some y) : ∃ u, (convert s d v).run P w = .ok u w ∧ VR ρ z y u := by
  unfold aConv at ha
  split at ha
  · rename_i ds k hs hd
    split at ha
    · cases ha
      cases hx
      exact ⟨_, by simp [convert, run_und hs, run_und hd, Result.andThen, Conv.intToInt], .int _ _⟩
    · cases ha
  · rename_i ds hs hd
    split at ha
    · cases ha
      cases hx
      refine ⟨_, ?_, .str _⟩
      cases ds <;> simp [convert, run_und hs, run_und hd, Result.andThen]
    · split at ha
      · rename_i hq
        cases hx
        exact ⟨_, pureOf_run hq w, absC_VR ha⟩
      · cases ha
    · rename_i e x' _ _
      split at ha
      · rename_i he
        split at ha
        · rename_i cs m hsrc
          cases hb : toBytes cs with
          | none => simp [hb] at ha
          | some l =>
            simp only [hb, Option.map_some, Option.some.injEq] at ha
            subst ha
            obtain ⟨vs, h1, h2, h3, h4⟩ := src_ok (P := P) h hx hsrc
            have h5 := h4 w.drawn
            have h7 := h3 w
            refine ⟨.string ⟨⟨l⟩⟩, ?_, .str _⟩
            have hv : (∃ A n c, v = .slice A n c) ∨ ∃ q, v = .string q := by
              cases hx <;> simp only [srcCells] at hsrc <;> first | (cases hsrc; done) | exact .inl ⟨_, _, _, rfl⟩ | exact .inr ⟨_, rfl⟩
            rcases hv with ⟨A, n, c, rfl⟩ | ⟨q, rfl⟩
            · have hn : n = m := by simpa [Builtin.lenOf] using h7
              subst hn
              cases A with
              | none =>
                have hv0 : vs = [] := by simpa [Builtin.firstCells] using h5
                subst hv0
                cases h1
                simp [toBytes] at hb
                subst hb
                simp [convert, run_und hs, run_und hd, run_und he, Result.andThen, Conv.bytesToString]
                rfl
              | some a =>
                simp only [Builtin.firstCells, Nat.mul_one] at h5
                simp only [convert, Sem.run_bind, run_und hs, run_und hd, run_und he, Result.andThen, Conv.bytesToString]
                rw [h5]
                simp only [List.forIn_toArray]
                rw [toBytes_ok (P := P) _ (fun _ _ => rfl) h1 hb ByteArray.empty]
                simp
            · cases hx with
              | undef => simp [srcCells] at hsrc
              | num n v hv => unfold numTree at hv; cases hv
              | frac n v hv => unfold fracTree at hv; cases hv
              | str s' => exact (‹∀ (l : List UInt8), AV.str s' = AV.str l → False› s' rfl).elim
        · cases ha
      · cases ha
    · cases ha
  · cases ha
theorem aConvBytes_ok (h : Rel H ρ z pv w0 w) {s d : TypeId} {x y : AV} {v : Value} {H' : Heap} (hx : VR ρ z x v) (ha : aConvBytes D H s d x = some (y, H')) : Out H' y ρ z pv w0 ((convert s d v).run P w) := by
  unfold aConvBytes at ha
  split at ha
  · rename_i e l hs hd
    split at ha
    · rename_i he
      cases hb : Nat.ble l.length 281474976710656 with
      | false => rw [hb] at ha; cases ha
      | true =>
        rw [hb] at ha
        cases ha
        cases hx
        have hb := Nat.le_of_ble_eq_true hb
        let k := grownCap w l.length 0 e
        have hk : l.length ≤ k := by show _ ≤ l.length + _ % _; omega
        have hv : VRs ρ z (l.map u8) (l.map fun b => Value.int .u8 b.toNat) := VRs.of_at (by simp) fun j x u hx hu => by
          simp only [List.getElem?_map] at hx hu
          cases hj : l[j]? with
          | none => simp [hj] at hx
          | some b =>
            simp only [hj, Option.map_some, Option.some.injEq] at hx hu
            subst hx; subst hu
            exact .int _ _
        have hlen : ((l.map fun b => Value.int .u8 b.toNat) ++ List.replicate (k - l.length) (Value.int .u8 0)).length = k := by simp; omega
        have hq := (h.drew (w.drawn + 1)).alloc_cells (List.replicate (k - l.length) (.int .u8 0)) e (k, k + 1) (fun j a b => by rw [hlen]; exact a) hv
        have hrun : (convert s d (.string ⟨⟨l⟩⟩)).run P w = .ok (.slice (some ⟨w.heap.size, 0, none⟩) l.length k) (w.drew.alloc (.cells ((l.map fun b => Value.int .u8 b.toNat) ++ List.replicate (k - l.length) (Value.int .u8 0)).toArray e (k, k + 1))) := by
          have e1 : bytesRow ⟨⟨l⟩⟩ k = ((l.map fun b => Value.int .u8 b.toNat) ++ List.replicate (k - l.length) (Value.int .u8 0)).toArray := by
            apply Array.ext'
            simp [bytesRow]
            rfl
          have e2 := run_bytes_of_string (P := P) w s d e ⟨⟨l⟩⟩ (TabOk.und hs) (TabOk.und hd) (TabOk.und he)
          have e3 : grownCap w (ByteArray.size ⟨⟨l⟩⟩) 0 e = k := rfl
          rw [e3, e1] at e2
          rw [e2]
          congr 3
          · simp only [List.size_toArray, hlen]
        refine ⟨_, _, _, hrun, hq, h.ext_alloc _, .slice _ 0 _ _ false 1 _ 0 _ k _ (plSet_same _ _ _) (Nat.le_refl _) hk (fun hh => by cases hh) (fun _ => rfl) (by rw [hlen]; omega)⟩
    · cases ha
  · cases ha
theorem run_len_string {t ty : TypeId} (hd : D.und t = some .string) (s : ByteArray) : (Builtin.len_ #[t] ty #[.string s]).run P w = .ok (.int .i64 s.size) w := by
  simp [Builtin.len_, run_und hd, Result.andThen, goInt]
theorem aLen_ok (h : Rel H ρ z pv w0 w) {t ty : TypeId} {x y : AV} {v : Value} (hx : VR ρ z x v) (ha : aLen D H t x = some y) : ∃ u, (Builtin.len_ #[t] ty #[v]).run P w = .ok u w ∧ VR ρ z y u := by
  unfold aLen at ha
  split at ha
  · rename_i hd
    split at ha
    · cases ha; cases hx
      exact ⟨_, run_len_string hd _, .int _ _⟩
    · cases ha
  · rename_i e hd
    split at ha
    · cases ha; cases hx
      exact ⟨_, by simp [Builtin.len_, run_und hd, Result.andThen, goInt], .int _ _⟩
    · cases ha
      cases hx <;> exact ⟨_, by simp [Builtin.len_, run_und hd, Result.andThen, goInt], .int _ _⟩
    · cases ha; cases hx
      exact ⟨_, by simp [Builtin.len_, run_und hd, Result.andThen, goInt], .int _ _⟩
    · cases ha; cases hx
      exact ⟨_, by simp [Builtin.len_, run_und hd, Result.andThen, goInt], .int _ _⟩
    · cases ha
  · rename_i k e hd
    split at ha
    · cases ha; cases hx
      exact ⟨_, by simp [Builtin.len_, run_und hd, Result.andThen, goInt], .int _ _⟩
    · split at ha
      · rename_i es clock hg
        cases ha
        cases hx with | map id b o n hp =>
        obtain ⟨_, ⟨ents, h1, h2, h3, h4⟩, _⟩ := h.holds hg hp
        have hl : ents.length = es.length := by have := h2.length; simpa using this
        have hgo : (getObj b).run P w = .ok (.map ⟨ents⟩ clock) w := by simp [getObj, Sem.run, h1]
        exact ⟨_, by simp [Builtin.len_, run_und hd, Result.andThen, goInt, hgo, hl], .int _ _⟩
      · cases ha
    · cases ha
  · rename_i n e hd
    cases ha
    exact ⟨_, by simp [Builtin.len_, run_und hd, Result.andThen, goInt], .int _ _⟩
  · rename_i a hd
    split at ha
    · rename_i n e he
      cases ha
      exact ⟨_, by simp [Builtin.len_, run_und hd, run_und he, Result.andThen, goInt], .int _ _⟩
    · cases ha
  · cases ha
theorem aCap_ok {t ty : TypeId} {x y : AV} {v : Value} (hx : VR ρ z x v) (ha : aCap D t x = some y) : ∃ u, (Builtin.cap_ #[t] ty #[v]).run P w = .ok u w ∧ VR ρ z y u := by
  unfold aCap at ha
  split at ha
  · rename_i e hd
    split at ha
    · cases ha
      cases hx with | slice _ _ _ _ _ _ b o n rc A hp q1 q2 q3 q5 q6 =>
      have := q3 rfl
      subst this
      exact ⟨_, by simp [Builtin.cap_, run_und hd, Result.andThen, goInt], .int _ _⟩
    · cases ha; cases hx
      exact ⟨_, by simp [Builtin.cap_, run_und hd, Result.andThen, goInt], .int _ _⟩
    · cases ha; cases hx
      exact ⟨_, by simp [Builtin.cap_, run_und hd, Result.andThen, goInt], .int _ _⟩
    · cases ha
  · cases ha
theorem aMax_ok {t : Array TypeId} {ty : TypeId} {xs : List AV} {vs : List Value} {y : AV} (hx : VRs ρ z xs vs) (ha : aMax xs = some y) : ∃ u, (Builtin.max_ t ty ⟨vs⟩).run P w = .ok u w ∧ VR ρ z y u := by
  unfold aMax at ha
  split at ha
  · cases ha
    cases hx with | cons _ _ _ _ h1 h2 =>
    cases h1; cases h2
    exact ⟨_, by simp [Builtin.max_], .int _ _⟩
  · cases ha
    cases hx with | cons _ _ _ _ h1 h2 =>
    cases h2 with | cons _ _ _ _ h3 h4 =>
    cases h1; cases h3; cases h4
    exact ⟨_, by simp [Builtin.max_, Builtin.max2], .int _ _⟩
  · cases ha
theorem aMin_ok {t : Array TypeId} {ty : TypeId} {xs : List AV} {vs : List Value} {y : AV} (hx : VRs ρ z xs vs) (ha : aMin xs = some y) : ∃ u, (Builtin.min_ t ty ⟨vs⟩).run P w = .ok u w ∧ VR ρ z y u := by
  unfold aMin at ha
  split at ha
  · cases ha
    cases hx with | cons _ _ _ _ h1 h2 =>
    cases h1; cases h2
    exact ⟨_, by simp [Builtin.min_], .int _ _⟩
  · cases ha
    cases hx with | cons _ _ _ _ h1 h2 =>
    cases h2 with | cons _ _ _ _ h3 h4 =>
    cases h1; cases h3; cases h4
    exact ⟨_, by simp [Builtin.min_, Builtin.min2], .int _ _⟩
  · cases ha
end
end Go.Eng
end
section
namespace Go.Eng
open Go.RowKit
section
variable {P : Program} {D : Tab} [TabOk D P] {H : Heap} {ρ : Pl} {z : Fz} {w0 w : World} {pv : Pv}
/-- A map's block is written anew. -/
theorem Rel.putMap (h : Rel H ρ z pv w0 w) {id : Nat} {es es' : List ME} {c c' : Nat} {b o n : Nat} (hg : H.t.get id = some (.map es c)) (hp : ρ id = some (b, o, n)) {ents' : List MapEntry}
    (h1 : VRs ρ z (es'.map (·.k)) (ents'.map (·.key))) (h2 : VRs ρ z (es'.map (·.v)) (ents'.map (·.val))) (h3 : es'.map (·.born) = ents'.map (·.born)) :
    Rel (H.put id (.map es' c')) ρ z pv w0 { w with heap := w.heap.setIfInBounds b (.map ⟨ents'⟩ c') } := by
  have hlt := (h.holds hg hp).2.1.lt
  obtain ⟨_, ⟨ents, hm, _⟩, _⟩ := h.holds hg hp
  exact h.putOb hg hp _ (fun real e fz hh => by rw [hm] at hh; cases hh) ⟨ents', by simp [hlt], h1, h2, h3⟩
theorem run_getMap {b : Nat} {ents : List MapEntry} {c : Nat} (h : w.heap[b]? = some (.map ⟨ents⟩ c)) : (getObj b).run P w = .ok (.map ⟨ents⟩ c) w := by
  simp [getObj, Sem.run, h]
theorem run_setMap {b : Nat} {ents ents' : List MapEntry} {c c' : Nat} (h : w.heap[b]? = some (.map ⟨ents⟩ c)) : (setObj b (.map ⟨ents'⟩ c')).run P w = .ok () { w with heap := w.heap.setIfInBounds b (.map ⟨ents'⟩ c') } := by
  simp [setObj, Sem.run, h]
theorem sameK_ok {t : TypeId} {k e : AV} {kv ev : Value} {r : Bool} (hk : VR ρ z k kv) (he : VR ρ z e ev) (hs : sameK D P t k e = some r) :
    ∃ d, D.und t = some d ∧ ((Instr.sameNow d kv ev = some r ∧ (Op.equal t kv ev).run P w = .ok r w) ∨ (Instr.sameNow d kv ev = none ∧ (Op.equal t kv ev).run P w = .ok r w)) := by
  unfold sameK at hs
  split at hs
  · rename_i d j a j' b hd
    split at hs
    · rename_i hj
      cases hs
      subst hj
      cases hk; cases he
      refine ⟨_, hd, .inl ⟨by simp [Instr.sameNow], ?_⟩⟩
      unfold Op.equal Op.maxDepth Op.equalIn
      rw [Sem.run_bind, run_und hd]
      simp [Result.andThen]
    · cases hs
  · rename_i a b hd
    cases hs
    cases hk; cases he
    have hbe : ((⟨⟨a⟩⟩ : ByteArray) == ⟨⟨b⟩⟩) = (a == b) := by
      show ((⟨a⟩ : Array UInt8) == ⟨b⟩) = _
      simp
    refine ⟨_, hd, .inl ⟨by simp only [Instr.sameNow, hbe], ?_⟩⟩
    unfold Op.equal Op.maxDepth Op.equalIn
    rw [Sem.run_bind, run_und hd]
    simp only [Result.andThen, Sem.run_pure, hbe]
  · rename_i fs hd
    split at hs
    · rename_i a b h1 h2
      rw [concA_eq h1 hk, concA_eq h2 he]
      exact ⟨_, hd, .inr ⟨by simp [Instr.sameNow], pureOf_run hs w⟩⟩
    · cases hs
  · rename_i n e' hd
    split at hs
    · rename_i a b h1 h2
      rw [concA_eq h1 hk, concA_eq h2 he]
      exact ⟨_, hd, .inr ⟨by simp [Instr.sameNow], pureOf_run hs w⟩⟩
    · cases hs
  · cases hs
def FO (ρ : Pl) (z : Fz) (i : Nat) (es : List ME) (ents : List MapEntry) : Option (Nat × AV) → Option (Nat × Value) → Prop
  | none, none => True
  | some p, some q => p.1 = q.1 ∧ VR ρ z p.2 q.2 ∧ i ≤ p.1 ∧ ∃ e en, es[p.1 - i]? = some e ∧ ents[p.1 - i]? = some en
  | _, _ => False
theorem findAsking_ok {t : TypeId} {k : AV} {kv : Value} (hk : VR ρ z k kv) : ∀ (es : List ME) (ents : List MapEntry) (i : Nat) (r : Option (Nat × AV)), VRs ρ z (es.map (·.k)) (ents.map (·.key)) → VRs ρ z (es.map (·.v)) (ents.map (·.val)) →
    findK D P t k es i = some r → ∃ r', (Instr.findAsking t kv ents i).run P w = .ok r' w ∧ FO ρ z i es ents r r'
  | [], [], i, r, _, _, h => by simp [findK] at h; subst h; exact ⟨none, rfl, trivial⟩
  | e :: es, en :: ents, i, r, h1, h2, h => by
    cases h1 with | cons _ _ _ _ a1 a2 =>
    cases h2 with | cons _ _ _ _ b1 b2 =>
    simp only [findK] at h
    split at h
    · rename_i hs
      cases h
      obtain ⟨d, hd, hq⟩ := sameK_ok (w := w) hk a1 hs
      have heq : (Op.equal t kv en.key).run P w = .ok true w := by rcases hq with ⟨_, q⟩ | ⟨_, q⟩ <;> exact q
      exact ⟨some (i, en.val), by simp [Instr.findAsking, heq, Result.andThen], rfl, b1, Nat.le_refl _, e, en, by simp, by simp⟩
    · rename_i hs
      obtain ⟨d, hd, hq⟩ := sameK_ok (w := w) hk a1 hs
      have heq : (Op.equal t kv en.key).run P w = .ok false w := by rcases hq with ⟨_, q⟩ | ⟨_, q⟩ <;> exact q
      obtain ⟨r', q1, q2⟩ := findAsking_ok hk es ents (i + 1) r a2 b2 h
      refine ⟨r', by simp [Instr.findAsking, heq, Result.andThen, q1], ?_⟩
      cases r with
      | none => cases r' with
        | none => exact trivial
        | some p' => exact q2.elim
      | some p =>
        cases r' with
        | none => exact q2.elim
        | some p' =>
          obtain ⟨q3, q4, q5, e', en', q6, q7⟩ := q2
          refine ⟨q3, q4, by omega, e', en', ?_, ?_⟩
          · rw [show p.1 - i = (p.1 - (i + 1)) + 1 by omega]; simpa using q6
          · rw [show p.1 - i = (p.1 - (i + 1)) + 1 by omega]; simpa using q7
    · cases h
  | [], _ :: _, _, _, h1, _, _ => by cases h1
  | _ :: _, [], _, _, h1, _, _ => by cases h1
theorem findNow_ok {t : TypeId} {d : TypeDesc} (hd : D.und t = some d) {k : AV} {kv : Value} (hk : VR ρ z k kv) : ∀ (es : List ME) (ents : List MapEntry) (i : Nat) (r : Option (Nat × AV)), VRs ρ z (es.map (·.k)) (ents.map (·.key)) → VRs ρ z (es.map (·.v)) (ents.map (·.val)) →
    findK D P t k es i = some r → Instr.findNow d kv ents i = none ∨ ∃ r', Instr.findNow d kv ents i = some r' ∧ (Instr.findAsking t kv ents i).run P w = .ok r' w
  | [], [], i, r, _, _, _ => .inr ⟨none, rfl, rfl⟩
  | e :: es, en :: ents, i, r, h1, h2, h => by
    cases h1 with | cons _ _ _ _ a1 a2 =>
    cases h2 with | cons _ _ _ _ b1 b2 =>
    simp only [findK] at h
    split at h
    · rename_i hs
      obtain ⟨d', hd', hq⟩ := sameK_ok (w := w) hk a1 hs
      rw [hd] at hd'
      cases hd'
      rcases hq with ⟨q1, q2⟩ | ⟨q1, q2⟩
      · exact .inr ⟨some (i, en.val), by simp [Instr.findNow, q1], by simp [Instr.findAsking, q2, Result.andThen]⟩
      · exact .inl (by simp [Instr.findNow, q1])
    · rename_i hs
      obtain ⟨d', hd', hq⟩ := sameK_ok (w := w) hk a1 hs
      rw [hd] at hd'
      cases hd'
      rcases hq with ⟨q1, q2⟩ | ⟨q1, q2⟩
      · rcases findNow_ok hd hk es ents (i + 1) r a2 b2 h with q3 | ⟨r', q3, q4⟩
        · exact .inl (by simp [Instr.findNow, q1, q3])
        · exact .inr ⟨r', by simp [Instr.findNow, q1, q3], by simp [Instr.findAsking, q2, Result.andThen, q4]⟩
      · exact .inl (by simp [Instr.findNow, q1])
    · cases h
  | [], _ :: _, _, _, h1, _, _ => by cases h1
  | _ :: _, [], _, _, h1, _, _ => by cases h1
theorem findKey_ok {t : TypeId} {d : TypeDesc} (hd : D.und t = some d) {k : AV} {kv : Value} (hk : VR ρ z k kv) {es : List ME} {ents : List MapEntry} {r : Option (Nat × AV)} (h1 : VRs ρ z (es.map (·.k)) (ents.map (·.key))) (h2 : VRs ρ z (es.map (·.v)) (ents.map (·.val)))
    (h : findK D P t k es 0 = some r) : ∃ r', (Instr.findKey t kv ents).run P w = .ok r' w ∧ FO ρ z 0 es ents r r' := by
  obtain ⟨r', q1, q2⟩ := findAsking_ok (P := P) (w := w) hk es ents 0 r h1 h2 h
  have hrun : (Instr.findKey t kv ents).run P w = .ok r' w := by
    unfold Instr.findKey
    rw [Sem.run_bind, run_und hd]
    rcases findNow_ok (w := w) hd hk es ents 0 r h1 h2 h with q3 | ⟨r'', q3, q4⟩
    · simp only [Result.andThen, q3]
      exact q1
    · simp only [Result.andThen, q3]
      rw [q1] at q4
      cases q4
      rfl
  exact ⟨r', hrun, q2⟩
theorem keyOk_ok {empty : Bool} {t : TypeId} {k : AV} {kv : Value} (hk : VR ρ z k kv) (h : keyOk D P empty t k = true) : ∃ d, D.und t = some d ∧ (Instr.checkKey empty 10000 t kv).run P w = .ok () w := by
  unfold keyOk at h
  split at h
  · rename_i kk _ _ hd
    cases hk
    exact ⟨_, hd, by unfold Instr.checkKey; rw [Sem.run_bind, run_und hd]; rfl⟩
  · rename_i _ hd
    cases hk
    exact ⟨_, hd, by unfold Instr.checkKey; rw [Sem.run_bind, run_und hd]; rfl⟩
  · rename_i fs hd
    split at h
    · rename_i a ha
      rw [concA_eq ha hk]
      cases hp : pureOf P (Instr.checkKey empty 10000 t a) with
      | none => rw [hp] at h; cases h
      | some u => exact ⟨_, hd, pureOf_run hp w⟩
    · cases h
  · rename_i n e hd
    split at h
    · rename_i a ha
      rw [concA_eq ha hk]
      cases hp : pureOf P (Instr.checkKey empty 10000 t a) with
      | none => rw [hp] at h; cases h
      | some u => exact ⟨_, hd, pureOf_run hp w⟩
    · cases h
  · cases h
theorem allOne_repl : ∀ (c : Nat) {zs : List AV}, allOne zs = true → allOne (repl c zs) = true := by
  have app : ∀ {xs ys : List AV}, allOne xs = true → allOne ys = true → allOne (xs ++ ys) = true := by
    intro xs
    induction xs with
    | nil => intro ys _ h; exact h
    | cons x xs ih => intro ys h k; simp only [allOne, Bool.and_eq_true, List.cons_append] at h ⊢; exact ⟨h.1, ih h.2 k⟩
  intro c
  induction c with
  | zero => intro zs _; rfl
  | succ c ih => intro zs h; simp only [repl, List.replicate_succ, List.flatten_cons] at ih ⊢; exact app h (ih h)
theorem aClear_ok (h : Rel H ρ z pv w0 w) {t ty : TypeId} {x : AV} {v : Value} {H' : Heap} (hx : VR ρ z x v) (ha : aClear D H t x = some H') :
    ∃ w', (Builtin.clear_ #[t] ty #[v]).run P w = .ok (.tuple #[]) w' ∧ Rel H' ρ z pv w0 w' := by
  unfold aClear at ha
  split at ha
  · rename_i e hd
    split at ha
    · cases ha; cases hx
      exact ⟨w, by simp [Builtin.clear_, run_und hd, Result.andThen], h⟩
    · cases ha
      cases hx with | esl A =>
      cases A <;> exact ⟨w, by simp [Builtin.clear_, run_und hd, Result.andThen], h⟩
    · cases ha
      cases hx with
      | isl0 A c => cases A <;> exact ⟨w, by simp [Builtin.clear_, run_und hd, Result.andThen], h⟩
      | isl _ _ b o c vs hs hz hc => exact ⟨w, by simp [Builtin.clear_, run_und hd, Result.andThen], h⟩
    · rename_i id off len cap ex es
      split at ha
      · rename_i zs cs hz hg
        cases hb : (allOne zs && Nat.ble (off + len * zs.length) cs.length && Nat.beq zs.length es) with
        | false => rw [hb] at ha; cases ha
        | true =>
        rw [hb, cond_true] at ha
        simp only [Bool.and_eq_true] at hb
        obtain ⟨⟨b1, b2⟩, b3⟩ := hb
        have b2 := Nat.le_of_ble_eq_true b2
        cases hx with | slice _ _ _ _ _ _ b o n rc A hp q1 q2 q3 q5 q6 =>
        cases h0 : Nat.beq len 0 with
        | true =>
          rw [h0] at ha
          cases ha
          have h0 := Nat.eq_of_beq_eq_true h0
          subst h0
          exact ⟨w, by simp [Builtin.clear_, run_und hd, Result.andThen], h⟩
        | false =>
          rw [h0] at ha
          cases ha
          have hlen : len ≠ 0 := fun e => by rw [e] at h0; cases h0
          have hA := q5 (by omega)
          subst hA
          obtain ⟨i, zv, us, g1, g2, g3, g4, g5, g6⟩ := zeroOf_ok hz
          obtain ⟨H2, w', r1, r2, r3, r4⟩ := Rel.stores (P := P) hp (repl len zs) (replV len us) cs H w (o + off) off 0 h hg ((g4 ρ z).repl len) (allOne_repl len b1) (by rw [repl_length]; exact b2) rfl
          refine ⟨w', ?_, r2.same r3.1.symm r3.2.symm fun k => (r4 k).symm⟩
          have hzc : Builtin.zeroCells zv.cells len = ⟨replV len us⟩ := by
            rw [g3]
            exact range_zero us us.length _ _ rfl (by simp)
          cases len with
          | zero => exact absurd rfl hlen
          | succ len => simp [Builtin.clear_, run_und hd, Result.andThen, run_zero g1 g2, hzc, r1]
      · cases ha
    · cases ha
  · rename_i k e hd
    split at ha
    · cases ha; cases hx
      exact ⟨w, by simp [Builtin.clear_, run_und hd, Result.andThen], h⟩
    · split at ha
      · rename_i es clock hg
        cases ha
        cases hx with | map id b o n hp =>
        obtain ⟨_, ⟨ents, g1, g2, g3, g4⟩, _⟩ := h.holds hg hp
        refine ⟨_, ?_, h.putMap (ents' := []) hg hp .nil .nil rfl⟩
        simp only [Builtin.clear_]
        simp [run_und hd, Result.andThen, run_getMap g1, run_setMap g1]
      · cases ha
    · cases ha
  · cases ha
/-- A map's value and its entries. -/
def MapIs (w : World) (v : Value) (ents : List MapEntry) : Prop := (v = .map none ∧ ents = []) ∨ ∃ b clock, v = .map (some b) ∧ w.heap[b]? = some (.map ⟨ents⟩ clock)
theorem lookup_run {t key elem : TypeId} {v iv : Value} {ents : List MapEntry} (ok : Bool) (hd : D.und t = some (.map key elem)) (hv : MapIs w v ents) (hck : (Instr.checkKey ents.isEmpty 10000 key iv).run P w = .ok () w) :
    (∀ i u, (Instr.findKey key iv ents).run P w = .ok (some (i, u)) w → (Instr.lookup t v iv ok).run P w = .ok (if ok then .tuple #[u, .bool true] else u) w) ∧
    (∀ zv, (Instr.findKey key iv ents).run P w = .ok none w → (zeroValue elem).run P w = .ok zv w → (Instr.lookup t v iv ok).run P w = .ok (if ok then .tuple #[zv, .bool false] else zv) w) := by
  rcases hv with ⟨rfl, rfl⟩ | ⟨b, clock, rfl, hb⟩
  · have hck' : (Instr.checkKey true 10000 key iv).run P w = .ok () w := hck
    refine ⟨fun i u hf => ?_, fun zv hf hz => ?_⟩
    · simp [Instr.lookup, run_und hd, Result.andThen, hck', hf]
    · simp [Instr.lookup, run_und hd, Result.andThen, hck', hf, hz]
  · have hck' : (Instr.checkKey (Array.isEmpty ⟨ents⟩) 10000 key iv).run P w = .ok () w := by
      have : Array.isEmpty ⟨ents⟩ = ents.isEmpty := by cases ents <;> simp
      rw [this]; exact hck
    refine ⟨fun i u hf => ?_, fun zv hf hz => ?_⟩
    · simp only [Instr.lookup, Sem.run_bind, run_und hd, Result.andThen, run_getMap hb, hck', hf, Sem.run_pure]
    · simp only [Instr.lookup, Sem.run_bind, run_und hd, Result.andThen, run_getMap hb, hck', hf, hz, Sem.run_pure]
theorem aLookup_ok (h : Rel H ρ z pv w0 w) {t : TypeId} {x ix y : AV} {v iv : Value} {ok : Bool} (hx : VR ρ z x v) (hi : VR ρ z ix iv) (ha : aLookup D P H t x ix ok = some y) :
    ∃ u, (Instr.lookup t v iv ok).run P w = .ok u w ∧ VR ρ z y u := by
  unfold aLookup at ha
  split at ha
  · rename_i key elem hd
    split at ha
    · cases ha
    · rename_i es hes
      cases hk : keyOk D P es.isEmpty key ix with
      | false => rw [hk] at ha; cases ha
      | true =>
      rw [hk, cond_true] at ha
      obtain ⟨d, hd', hck⟩ := keyOk_ok (w := w) hi hk
      have hents : ∃ ents : List MapEntry, VRs ρ z (es.map (·.k)) (ents.map (·.key)) ∧ VRs ρ z (es.map (·.v)) (ents.map (·.val)) ∧ MapIs w v ents := by
        split at hes
        · cases hes; cases hx
          exact ⟨[], .nil, .nil, .inl ⟨rfl, rfl⟩⟩
        · split at hes
          · rename_i id _ es' clock hg
            cases hes
            cases hx with | map id b o n hp =>
            obtain ⟨_, ⟨ents, g1, g2, g3, g4⟩, _⟩ := h.holds hg hp
            exact ⟨ents, g2, g3, .inr ⟨b, clock, rfl, g1⟩⟩
          · cases hes
        · cases hes
      obtain ⟨ents, e1, e2, e3⟩ := hents
      have hemp : es.isEmpty = ents.isEmpty := by
        have := e1.length
        cases es <;> cases ents <;> simp_all
      rw [hemp] at hck
      obtain ⟨l1, l2⟩ := lookup_run (P := P) ok hd e3 hck
      split at ha
      · cases ha
      · rename_i j x' hf
        cases ha
        obtain ⟨r', q1, q2⟩ := findKey_ok (w := w) hd' hi e1 e2 hf
        cases r' with
        | none => exact q2.elim
        | some p =>
          obtain ⟨_, q3, _⟩ := q2
          refine ⟨_, l1 p.1 p.2 q1, ?_⟩
          cases ok
          · exact q3
          · exact .tuple _ _ (.cons _ _ _ _ q3 (.cons _ _ _ _ (.bool _) .nil))
      · rename_i hf
        obtain ⟨r', q1, q2⟩ := findKey_ok (w := w) hd' hi e1 e2 hf
        split at ha
        · rename_i i hinf
          split at ha
          · rename_i zv hz
            split at ha
            · rename_i zx hzx
              cases ha
              cases r' with
              | some p => exact q2.elim
              | none =>
                refine ⟨_, l2 zv q1 (run_zero hinf hz), ?_⟩
                cases ok
                · exact absV_VR hzx
                · exact .tuple _ _ (.cons _ _ _ _ (absV_VR hzx) (.cons _ _ _ _ (.bool _) .nil))
            · cases ha
          · cases ha
        · cases ha
  · cases ha
theorem aMapUpdate_ok (h : Rel H ρ z pv w0 w) {t : TypeId} {x k y : AV} {v kv u : Value} {H' : Heap} (hx : VR ρ z x v) (hk : VR ρ z k kv) (hy : VR ρ z y u) (ha : aMapUpdate D P H t x k y = some H') :
    ∃ w', (Instr.mapUpdate t v kv u).run P w = .ok () w' ∧ Rel H' ρ z pv w0 w' := by
  unfold aMapUpdate at ha
  split at ha
  · rename_i key elem id hd
    split at ha
    · rename_i es clock hg
      cases hko : keyOk D P false key k with
      | false => rw [hko] at ha; cases ha
      | true =>
      rw [hko, cond_true] at ha
      obtain ⟨d, hd', hck⟩ := keyOk_ok (w := w) hk hko
      cases hx with | map id b o n hp =>
      obtain ⟨_, ⟨ents, g1, g2, g3, g4⟩, _⟩ := h.holds hg hp
      split at ha
      · cases ha
      · rename_i i x' hf
        obtain ⟨r', q1, q2⟩ := findKey_ok (w := w) hd' hk g2 g3 hf
        cases r' with
        | none => exact q2.elim
        | some p =>
          obtain ⟨q3, q4, _, e, en, q5, q6⟩ := q2
          simp only [Nat.sub_zero] at q5 q6
          split at ha
          · rename_i a bb ha' hb'
            cases hsb : Instr.sameBits 10000 bb a with
            | false => rw [hsb] at ha; cases ha
            | true =>
            rw [hsb] at ha
            cases ha
            have hka := concA_eq ha' hk
            subst hka
            simp only at q3
            subst q3
            have hen : VR ρ z e.k en.key := g2.get (i := p.1) (by simp [q5]) (by simp [q6])
            simp only [q5, Option.map_some, Option.some.injEq] at hb'
            have hkb := concA_eq hb' hen
            refine ⟨_, ?_, h.putMap (ents' := ents.modify p.1 fun e => { e with key := kv, val := u }) hg hp ?_ ?_ ?_⟩
            · simp only [Instr.mapUpdate, Sem.run_bind, run_und hd, Result.andThen, run_getMap g1, hck, q1]
              have hkey : ((((⟨ents⟩ : Array MapEntry)[p.1]?).map (·.key)).getD kv) = en.key := by simp [q6]
              have hstay : (Instr.keyThatStays en.key kv).run P w = .ok kv w := by unfold Instr.keyThatStays; rw [hkb, hsb]; rfl
              have hmod : (⟨ents⟩ : Array MapEntry).modify p.1 (fun e => { e with key := kv, val := u }) = ⟨ents.modify p.1 fun e => { e with key := kv, val := u }⟩ := by simp
              simp only [hkey, hstay, hmod, run_setMap g1]
            · refine VRs.of_at ?_ fun j x v hx hv => ?_
              · have := g2.length; simpa using this
              · simp only [List.getElem?_map, List.getElem?_modify] at hx hv
                by_cases hj : p.1 = j
                · subst hj; simp [q5, q6] at hx hv; subst hx; subst hv; exact hk
                · simp only [hj, if_false] at hx hv
                  exact g2.get (i := j) (by simpa using hx) (by simpa using hv)
            · refine VRs.of_at ?_ fun j x v hx hv => ?_
              · have := g3.length; simpa using this
              · simp only [List.getElem?_map, List.getElem?_modify] at hx hv
                by_cases hj : p.1 = j
                · subst hj; simp [q5, q6] at hx hv; subst hx; subst hv; exact hy
                · simp only [hj, if_false] at hx hv
                  exact g3.get (i := j) (by simpa using hx) (by simpa using hv)
            · apply List.ext_getElem?
              intro j
              have := congrArg (·[j]?) g4
              simp only [List.getElem?_map, List.getElem?_modify] at this ⊢
              by_cases hj : p.1 = j
              · subst hj; simpa [q5, q6] using this
              · simpa [hj] using this
          · cases ha
      · rename_i hf
        cases ha
        obtain ⟨r', q1, q2⟩ := findKey_ok (w := w) hd' hk g2 g3 hf
        cases r' with
        | some p => exact q2.elim
        | none =>
          refine ⟨_, ?_, h.putMap (ents' := ents ++ [{ key := kv, val := u, born := clock }]) hg hp ?_ ?_ ?_⟩
          · simp only [Instr.mapUpdate, Sem.run_bind, run_und hd, Result.andThen, run_getMap g1, hck, q1]
            have hpush : (⟨ents⟩ : Array MapEntry).push { key := kv, val := u, born := clock } = ⟨ents ++ [{ key := kv, val := u, born := clock }]⟩ := by simp
            rw [hpush, run_setMap g1]
          · simp only [List.map_append, List.map_cons, List.map_nil]
            exact g2.append (.cons _ _ _ _ hk .nil)
          · simp only [List.map_append, List.map_cons, List.map_nil]
            exact g3.append (.cons _ _ _ _ hy .nil)
          · simp [g4]
    · cases ha
  · cases ha
def aRange (D : Tab) (H : Heap) (t : TypeId) (x : AV) : Option (AV × Heap) :=
  match D.und t, x with
  | some .string, .str s => some (.iter H.nx, H.alloc (.iter s 0))
  | _, _ => none
def aNext (H : Heap) (x : AV) (isS : Bool) : Option (AV × Heap) :=
  match x, isS with
  | .iter id, true => match H.t.get id with
    | some (.iter s pos) => cond (Nat.blt pos s.length)
        (some (.tuple [.bool true, .int .i64 pos, .int .i32 (Utf8.decode ⟨⟨s⟩⟩ pos).1], H.put id (.iter s (pos + (Utf8.decode ⟨⟨s⟩⟩ pos).2))))
        (some (.tuple [.bool false], H))
    | _ => none
  | _, _ => none
theorem aRange_ok (h : Rel H ρ z pv w0 w) {t : TypeId} {x y : AV} {v : Value} {H' : Heap} (hx : VR ρ z x v) (ha : aRange D H t x = some (y, H')) : Out H' y ρ z pv w0 ((Instr.range t v).run P w) := by
  unfold aRange at ha
  split at ha
  · rename_i s hd
    cases ha
    cases hx
    refine ⟨.pointer (some ⟨w.heap.size, 0, none⟩), w.alloc (.stringIter ⟨⟨s⟩⟩ 0), plSet ρ H.nx (w.heap.size, 0, 0), ?_, h.alloc _ _ _ (heap_alloc_new w _), h.ext_alloc _, .iter _ _ _ (plSet_same _ _ _)⟩
    simp [Instr.range, run_und hd, Result.andThen]
  · cases ha
theorem aNext_ok (h : Rel H ρ z pv w0 w) {ty : TypeId} {isS : Bool} {x y : AV} {v : Value} {H' : Heap} (hx : VR ρ z x v) (ha : aNext H x isS = some (y, H')) : Out H' y ρ z pv w0 ((Instr.next v isS ty).run P w) := by
  unfold aNext at ha
  split at ha
  · rename_i id
    split at ha
    · rename_i s pos hg
      cases hx with | iter _ b n hp =>
      obtain ⟨_, hh, _, _⟩ := h.holds hg hp
      have hlt : b < w.heap.size := (Array.getElem?_eq_some_iff.1 hh).1
      have hget : (getObj b).run P w = .ok (.stringIter ⟨⟨s⟩⟩ pos) w := by
        have hh' : w.heap[b]? = some (.stringIter ⟨⟨s⟩⟩ pos) := hh
        simp [getObj, Sem.run, hh']
      cases hb : Nat.blt pos s.length with
      | true =>
        rw [hb] at ha
        cases ha
        have hb : pos < s.length := by simpa [Nat.blt_eq] using hb
        refine ⟨_, { w with heap := w.heap.setIfInBounds b (.stringIter ⟨⟨s⟩⟩ (pos + (Utf8.decode ⟨⟨s⟩⟩ pos).2)) }, ρ, ?_, h.putOb hg hp _ (fun real e fz k => by rw [show w.heap[b]? = some (.stringIter ⟨⟨s⟩⟩ pos) from hh] at k; cases k) ?_, Ext.refl _ _, .tuple _ _ (.cons _ _ _ _ (.bool _) (.cons _ _ _ _ (.int _ _) (.cons _ _ _ _ (.int _ _) .nil)))⟩
        · have hset : (setObj b (.stringIter ⟨⟨s⟩⟩ (pos + (Utf8.decode ⟨⟨s⟩⟩ pos).2))).run P w = .ok () { w with heap := w.heap.setIfInBounds b (.stringIter ⟨⟨s⟩⟩ (pos + (Utf8.decode ⟨⟨s⟩⟩ pos).2)) } := by
            have hh' : w.heap[b]? = some (.stringIter ⟨⟨s⟩⟩ pos) := hh
            simp [setObj, Sem.run, hh']
          have hsz : pos < (⟨⟨s⟩⟩ : ByteArray).size := hb
          simp only [Instr.next, Sem.run_bind, hget, Result.andThen, if_pos hsz, hset, Sem.run_pure, goInt]
        · show _ = _
          simp [hlt]
      | false =>
        rw [hb] at ha
        cases ha
        have hb : ¬ pos < s.length := by
          intro hh
          have : Nat.blt pos s.length = true := by simpa [Nat.blt_eq] using hh
          rw [hb] at this; cases this
        refine ⟨_, w, ρ, ?_, h, Ext.refl _ _, .tuple _ _ (.cons _ _ _ _ (.bool _) .nil)⟩
        have hsz : ¬ pos < (⟨⟨s⟩⟩ : ByteArray).size := hb
        simp only [Instr.next, Sem.run_bind, hget, Result.andThen, if_neg hsz, Sem.run_pure]
    · cases ha
  · cases ha
def aMapEntry (D : Tab) (P : Program) (H : Heap) (t : TypeId) (x k : AV) : Option (AV × Heap) :=
  match D.und t, x with
  | some (.map key elem), .map id => match H.t.get id with
    | some (.map es clock) => cond (keyOk D P false key k) (match findK D P key k es 0, D.inf elem with
      | some none, some i => match i.zero with
        | some zv => match absV zv with
          | some zx => some (.tuple [zx, .int .i64 clock], H.put id (.map (es ++ [⟨k, zx, clock⟩]) (clock + 1)))
          | none => none
        | none => none
      | _, _ => none) none
    | _ => none
  | _, _ => none
def setBorn (y : AV) (born : Nat) : List ME → Option (List ME)
  | [] => none
  | e :: es => cond (Nat.beq e.born born) (some (⟨e.k, y, e.born⟩ :: es)) (match setBorn y born es with
    | some es' => some (e :: es')
    | none => none)
def aEntryStore (H : Heap) (x s y : AV) : Option Heap :=
  match x, s with
  | .map id, .int _ n => match H.t.get id with
    | some (.map es clock) => if 0 ≤ n then (match setBorn y n.toNat es with
      | some es' => some (H.put id (.map es' clock))
      | none => none) else none
    | _ => none
  | _, _ => none
theorem aMapEntry_ok (h : Rel H ρ z pv w0 w) {t : TypeId} {x k y : AV} {v kv : Value} {H' : Heap} (hx : VR ρ z x v) (hk : VR ρ z k kv) (ha : aMapEntry D P H t x k = some (y, H')) : Out H' y ρ z pv w0 ((Instr.mapEntry t v kv).run P w) := by
  unfold aMapEntry at ha
  split at ha
  · rename_i key elem id hd
    split at ha
    · rename_i es clock hg
      cases hko : keyOk D P false key k with
      | false => rw [hko] at ha; cases ha
      | true =>
      rw [hko, cond_true] at ha
      obtain ⟨d, hd', hck⟩ := keyOk_ok (w := w) hk hko
      cases hx with | map id b o n hp =>
      obtain ⟨_, ⟨ents, g1, g2, g3, g4⟩, _, _⟩ := h.holds hg hp
      split at ha
      · rename_i i hf hinf
        split at ha
        · rename_i zv hz
          split at ha
          · rename_i zx hzx
            cases ha
            obtain ⟨r', q1, q2⟩ := findKey_ok (w := w) hd' hk g2 g3 hf
            cases r' with
            | some p => exact q2.elim
            | none =>
              have hzr : VR ρ z zx zv := absV_VR hzx
              refine ⟨_, _, ρ, ?_, h.putMap (ents' := ents ++ [{ key := kv, val := zv, born := clock }]) hg hp ?_ ?_ ?_, Ext.refl _ _, .tuple _ _ (.cons _ _ _ _ hzr (.cons _ _ _ _ (.int _ _) .nil))⟩
              · have hpush : (⟨ents⟩ : Array MapEntry).push { key := kv, val := zv, born := clock } = ⟨ents ++ [{ key := kv, val := zv, born := clock }]⟩ := by simp
                simp only [Instr.mapEntry, Sem.run_bind, run_und hd, Result.andThen, run_getMap g1, hck, q1, run_zero hinf hz, hpush, run_setMap g1, Sem.run_pure, goInt]
              · simp only [List.map_append, List.map_cons, List.map_nil]
                exact g2.append (.cons _ _ _ _ hk .nil)
              · simp only [List.map_append, List.map_cons, List.map_nil]
                exact g3.append (.cons _ _ _ _ hzr .nil)
              · simp [g4]
          · cases ha
        · cases ha
      · cases ha
    · cases ha
  · cases ha
theorem setBorn_ok {y : AV} {u : Value} (hy : VR ρ z y u) (born : Nat) : ∀ (es : List ME) (ents : List MapEntry) (es' : List ME), VRs ρ z (es.map (·.k)) (ents.map (·.key)) → VRs ρ z (es.map (·.v)) (ents.map (·.val)) → es.map (·.born) = ents.map (·.born) → setBorn y born es = some es' →
    ∃ i, ents.findIdx? (fun e => (e.born : Int) == (born : Int)) = some i ∧ VRs ρ z (es'.map (·.k)) ((ents.modify i fun e => { e with val := u }).map (·.key)) ∧ VRs ρ z (es'.map (·.v)) ((ents.modify i fun e => { e with val := u }).map (·.val)) ∧ es'.map (·.born) = (ents.modify i fun e => { e with val := u }).map (·.born)
  | [], _, _, _, _, _, h => by simp [setBorn] at h
  | e :: es, [], _, h1, _, _, _ => by cases h1
  | e :: es, en :: ents, es', h1, h2, h3, h => by
    simp only [List.map_cons, List.cons.injEq] at h3
    obtain ⟨hb, hbs⟩ := h3
    cases h1 with | cons _ _ _ _ a1 a2 =>
    cases h2 with | cons _ _ _ _ b1 b2 =>
    simp only [setBorn] at h
    cases hq : Nat.beq e.born born with
    | true =>
      rw [hq] at h
      cases h
      have hq := Nat.eq_of_beq_eq_true hq
      refine ⟨0, ?_, ?_, ?_, ?_⟩
      · simp [List.findIdx?_cons, ← hb, hq]
      · simpa using VRs.cons _ _ _ _ a1 a2
      · simpa using VRs.cons _ _ _ _ hy b2
      · simp [hb, hbs]
    | false =>
      rw [hq, cond_false] at h
      have hne : e.born ≠ born := fun hh => by rw [hh, Nat.beq_refl] at hq; cases hq
      split at h
      · rename_i es2 hs
        cases h
        obtain ⟨i, q1, q2, q3, q4⟩ := setBorn_ok hy born es ents es2 a2 b2 hbs hs
        refine ⟨i + 1, ?_, ?_, ?_, ?_⟩
        · have : ¬ ((en.born : Int) = (born : Int)) := by rw [← hb]; omega
          simp [List.findIdx?_cons, this, q1]
        · simpa using VRs.cons _ _ _ _ a1 q2
        · simpa using VRs.cons _ _ _ _ b1 q3
        · simp [hb, q4]
      · cases h
theorem aEntryStore_ok (h : Rel H ρ z pv w0 w) {t : TypeId} {x s y : AV} {v sv u : Value} {H' : Heap} (hx : VR ρ z x v) (hs : VR ρ z s sv) (hy : VR ρ z y u) (ha : aEntryStore H x s y = some H') :
    ∃ w', (Instr.entryStore t v sv u).run P w = .ok () w' ∧ Rel H' ρ z pv w0 w' := by
  unfold aEntryStore at ha
  split at ha
  · rename_i id k n
    split at ha
    · rename_i es clock hg
      split at ha
      · rename_i hn
        split at ha
        · rename_i es' hb
          cases ha
          cases hx with | map id b o nn hp =>
          cases hs
          obtain ⟨_, ⟨ents, g1, g2, g3, g4⟩, _, _⟩ := h.holds hg hp
          obtain ⟨i, q1, q2, q3, q4⟩ := setBorn_ok hy n.toNat es ents es' g2 g3 g4 hb
          refine ⟨_, ?_, h.putMap (ents' := ents.modify i fun e => { e with val := u }) hg hp q2 q3 q4⟩
          have hnn : ((n.toNat : Nat) : Int) = n := by omega
          rw [hnn] at q1
          have hfi : (⟨ents⟩ : Array MapEntry).findIdx? (fun e => (e.born : Int) == n) = some i := by simpa using q1
          have hmod : (⟨ents⟩ : Array MapEntry).modify i (fun e => { e with val := u }) = ⟨ents.modify i fun e => { e with val := u }⟩ := by simp
          simp only [Instr.entryStore, Sem.run_bind, Sem.run_pure, run_getMap g1, Result.andThen, asInt, asIntOf, hfi, hmod, run_setMap g1]
        · cases ha
      · cases ha
    · cases ha
  · cases ha
end
end Go.Eng
end
