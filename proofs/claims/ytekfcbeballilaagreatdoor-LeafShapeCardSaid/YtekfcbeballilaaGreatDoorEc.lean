import Derived.Test.YtekfcbeballilaaGreatDoorEb
import Derived.Lib.UnsafeStr
import Derived.Lib.Builder
section
namespace Go.Eng
open Go.RowKit
/-- Pointers to unsafe.Pointer and back. 'lies': what is known of types that lie in others. -/
def aConvU (D : Tab) (lies : TypeId → Nat → Nat → TypeId → Bool) (H : Heap) (s d : TypeId) (x : AV) : Option AV :=
  match D.und s, D.und d, x with
  | some (.pointer t), some .unsafePointer, .ptr id off => match D.inf t, H.t.get id with
    | some j, some (.cells cs) => cond (Nat.blt 0 j.size && Nat.blt off cs.length) (some x) none
    | _, _ => none
  | some .unsafePointer, some (.pointer u), .ptr id off => match D.inf u, H.e.get id with
    | some _, some (e, some n) => cond (lies e n off u) (some x) none
    | _, _ => none
  | _, _, _ => none
def aSliceData : AV → Option AV
  | .nilsl => some .nilp
  | .slice id off _ cap _ _ => cond (Nat.blt 0 cap) (some (.ptr id off)) none
  | _ => none
def toBytesC : List AV → Option (List UInt8)
  | [] => some []
  | .int .u8 (.ofNat n) :: xs => cond (Nat.blt n 256) (match toBytesC xs with
    | some l => some (UInt8.ofNat n :: l)
    | none => none) none
  | _ => none
def aUnsafeString (D : Tab) (H : Heap) (pt : TypeId) (x n : AV) : Option (AV × Heap) :=
  match x, n with
  | .nilp, .int .i64 0 => some (.str [], H)
  | .ptr id off, .int .i64 (.ofNat n) => cond (Nat.beq n 0) (some (.str [], H))
      (match D.und pt, H.e.get id, H.t.get id with
      | some (.pointer e), some (e', _), some (.cells cs) => match D.inf e with
        | some i => cond (Nat.beq e e' && Nat.beq off 0 && Nat.beq i.size 1 && Nat.ble n cs.length && Nat.ble n 9223372036854775807) (match toBytesC (cs.take n) with
          | some l => some (.str l, H.drop id)
          | none => none) none
        | none => none
      | _, _, _ => none)
  | _, _ => none
def aCopy (D : Tab) (H : Heap) (dt : TypeId) (dst src : AV) : Option (AV × Heap) :=
  match D.und dt with
  | some (.slice e) => match D.inf e with
    | some inf => match srcCells H inf.size src with
      | some (news, m) => match dst with
        | .slice id off len _ _ es => cond (Nat.ble m len && Nat.beq es inf.size && allOne news)
            (match H.t.get id with
            | some (.cells cs) => cond (Nat.ble (off + m * inf.size) cs.length) (some (.int .i64 m, H.put id (.cells (putAt cs off news)))) none
            | _ => none) none
        | _ => none
      | none => none
    | none => none
  | _ => none
section
variable {P : Program} {D : Tab} [TabOk D P] {H : Heap} {ρ : Pl} {z : Fz} {w0 w : World} {pv : Pv}
theorem toBytesC_ok : ∀ {cs : List AV} {vs : List Value}, VRs ρ z cs vs → ∀ {l : List UInt8}, toBytesC cs = some l → l.length = vs.length ∧ ∀ (j : Nat) (x : UInt8), l[j]? = some x → vs[j]? = some (Value.int .u8 x.toNat)
  | _, _, .nil, l, h => by simp [toBytesC] at h; subst h; simp
  | _, _, .cons x v xs vs hx hs, l, h => by
    unfold toBytesC at h
    split at h
    · rename_i heq; cases heq
    · rename_i n ys heq
      cases heq
      cases hb : Nat.blt n 256 with
      | false => rw [hb] at h; cases h
      | true =>
        rw [hb, cond_true] at h
        split at h
        · rename_i l' hl
          cases h
          have hn : n < 256 := by simpa [Nat.blt_eq] using hb
          obtain ⟨h1, h2⟩ := toBytesC_ok hs hl
          cases hx
          refine ⟨by simp [h1], fun j y hy => ?_⟩
          cases j with
          | zero =>
            simp at hy
            subst hy
            simp [Nat.mod_eq_of_lt hn]
          | succ j => simpa using h2 j y (by simpa using hy)
        · cases h
    · cases h
theorem aConvU_ok (h : Rel H ρ z pv w0 w) {lies : TypeId → Nat → Nat → TypeId → Bool} (hl : ∀ e n off u, lies e n off u = true → liesAt P P.depth e (n / P.cellsOf e) off u 1 = true) {s d : TypeId} {x y : AV} {v : Value} (hv : VR ρ z x v)
    (ha : aConvU D lies H s d x = some y) : ∃ u, (convert s d v).run P w = .ok u w ∧ VR ρ z y u := by
  unfold aConvU at ha
  split at ha
  · rename_i t id off hs hd
    split at ha
    · rename_i j cs hj hg
      cases hb : (Nat.blt 0 j.size && Nat.blt off cs.length) with
      | false => rw [hb] at ha; cases ha
      | true =>
        rw [hb] at ha
        cases ha
        simp only [Bool.and_eq_true, Nat.blt_eq] at hb
        cases hv with | ptr _ _ b o n hp =>
        obtain ⟨_, ⟨real, el, fz, h3, _, _, h5⟩, _⟩ := h.holds hg hp
        obtain ⟨v', hv', _⟩ := h5 off _ (List.getElem?_eq_getElem hb.2)
        have hlt : o + off < real.size := (Array.getElem?_eq_some_iff.1 hv').1
        refine ⟨_, Go.Lib.run_to_unsafe w ⟨b, o + off, none⟩ (TabOk.und hs) (TabOk.und hd) (TabOk.inf hj) (by omega) (e := el) (cells := real.size) (by simp [World.shape?, h3]) hlt, .ptr _ _ b o n hp⟩
    · cases ha
  · rename_i u id off hs hd
    split at ha
    · rename_i j e n hj he
      cases hb : lies e n off u with
      | false => rw [hb] at ha; cases ha
      | true =>
        rw [hb] at ha
        cases ha
        cases hv with | ptr _ _ b o n' hp =>
        obtain ⟨b1, n1, real, fz, k1, k2, k3, k4⟩ := h.ty id e _ he
        rw [hp] at k1
        cases k1
        have hn := k4 n rfl
        refine ⟨_, Go.Lib.run_from_unsafe w ⟨b, 0 + off, none⟩ (TabOk.und hs) (TabOk.und hd) (TabOk.inf hj) (e := e) (cells := real.size) (by simp [World.shape?, k2]) ?_, .ptr _ _ b 0 _ hp⟩
        have := hl e n off u hb
        rw [k3, hn]
        simpa using this
    · cases ha
  · cases ha
theorem aSliceData_ok {ts : Array TypeId} {ty : TypeId} {x y : AV} {v : Value} (hv : VR ρ z x v) (ha : aSliceData x = some y) : ∃ u, (Builtin.unsafeSliceData_ ts ty #[v]).run P w = .ok u w ∧ VR ρ z y u := by
  unfold aSliceData at ha
  split at ha
  · cases ha
    cases hv
    exact ⟨_, Go.Lib.run_unsafeSliceData_nil w ts ty 0 0, .nilp⟩
  · rename_i id off len cap ex es
    cases hb : Nat.blt 0 cap with
    | false => rw [hb] at ha; cases ha
    | true =>
      rw [hb] at ha
      cases ha
      have hb : 0 < cap := by simpa [Nat.blt_eq] using hb
      cases hv with | slice _ _ _ _ _ _ b o n rc A hp q1 q2 q3 q5 q6 =>
      have hA := q5 (by omega)
      subst hA
      exact ⟨_, Go.Lib.run_unsafeSliceData_row w ts ty _ len rc (by omega), .ptr _ _ b o n hp⟩
  · cases ha
/-- Bytes that are frozen: the place is given up. -/
theorem Rel.freeze (h : Rel H ρ z pv w0 w) {id : Nat} {ob : Ob} {b o n : Nat} (hg : H.t.get id = some ob) (hp : ρ id = some (b, o, n)) (off k : Nat) : Rel (H.drop id) ρ z pv w0 (w.freeze ⟨b, off, none⟩ k) := by
  obtain ⟨hB, _, hz, hpv⟩ := h.holds hg hp
  have hd := h.drop id
  have hne : ∀ b', b' ≠ b → (w.freeze ⟨b, off, none⟩ k).heap[b']? = w.heap[b']? := fun b' hb => by
    unfold World.freeze
    split
    · rfl
    · simp only [Array.getElem?_modify]
      rw [if_neg (by omega)]
  have hcell : ∀ real e fz, w.heap[b]? = some (.cells real e fz) → ∃ fz', (w.freeze ⟨b, off, none⟩ k).heap[b]? = some (.cells real e fz') := fun real e fz hb => by
    unfold World.freeze
    split
    · exact ⟨fz, hb⟩
    · simp only [Array.getElem?_modify, if_true, hb, Option.map_some]
      exact ⟨_, rfl⟩
  have hlive : ∀ {i : Nat} {ob' : Ob}, (H.drop id).t.get i = some ob' → ∀ {p : Nat × Nat × Nat}, ρ i = some p → p.1 ≠ b := fun {i ob'} g {p} r => by
    simp only [Heap.drop, T.get_del] at g
    by_cases hi : i = id
    · rw [if_pos hi] at g; cases g
    · rw [if_neg hi] at g
      exact h.excl i id ob' ob _ _ g hg hi r hp
  refine ⟨Go.Lib.below_freeze h.below hB k, fun b1 o1 v hz1 => ?_, fun i ob' g => ?_, hd.excl, hd.fresh, fun b1 x hb => ?_, fun i e kk he => ?_, hd.res⟩
  · have hb : b1 ≠ b := fun hh => by subst hh; rw [hz o1] at hz1; cases hz1
    have := h.fz b1 o1 v hz1
    unfold World.cell? at this ⊢
    simp only [hne b1 hb]
    exact this
  · obtain ⟨b1, o1, n1, k1, k2, k3, k4⟩ := hd.live i ob' g
    exact ⟨b1, o1, n1, k1, k2, k3.mono (Ext.refl _ _) (hne b1 (hlive g k1)), k4⟩
  · have hbb : b1 ≠ b := fun hh => by subst hh; rw [hpv] at hb; cases hb
    exact ⟨(hne b1 hbb).trans (h.keep b1 x hb).1, (h.keep b1 x hb).2⟩
  · obtain ⟨b1, n1, real, fz, k1, k2, k3⟩ := hd.ty i e kk he
    by_cases hbb : b1 = b
    · subst hbb
      obtain ⟨fz', hf⟩ := hcell real e fz k2
      exact ⟨b1, n1, real, fz', k1, hf, k3⟩
    · exact ⟨b1, n1, real, fz, k1, (hne b1 hbb).trans k2, k3⟩
theorem aUnsafeString_ok (h : Rel H ρ z pv w0 w) {pt it ty : TypeId} {x n y : AV} {v u : Value} {H' : Heap} (hv : VR ρ z x v) (hu : VR ρ z n u) (ha : aUnsafeString D H pt x n = some (y, H')) :
    Out H' y ρ z pv w0 ((Builtin.unsafeString_ #[pt, it] ty #[v, u]).run P w) := by
  unfold aUnsafeString at ha
  split at ha
  · cases ha
    cases hv
    cases hu
    exact ⟨_, w, ρ, Go.Lib.run_unsafeString_none w pt it ty none, h, Ext.refl _ _, .str []⟩
  · rename_i id off n
    cases hv with | ptr _ _ b o nn hp =>
    cases hu
    cases h0 : Nat.beq n 0 with
    | true =>
      rw [h0] at ha
      cases ha
      have h0 := Nat.eq_of_beq_eq_true h0
      subst h0
      exact ⟨_, w, ρ, Go.Lib.run_unsafeString_none w pt it ty (some ⟨b, o + off, none⟩), h, Ext.refl _ _, .str []⟩
    | false =>
      rw [h0, cond_false] at ha
      split at ha
      · rename_i e e' k cs hd he hg
        split at ha
        · rename_i i hi
          cases hb : (Nat.beq e e' && Nat.beq off 0 && Nat.beq i.size 1 && Nat.ble n cs.length && Nat.ble n 9223372036854775807) with
          | false => rw [hb] at ha; cases ha
          | true =>
            rw [hb, cond_true] at ha
            split at ha
            · rename_i l hl
              cases ha
              simp only [Bool.and_eq_true] at hb
              obtain ⟨⟨⟨⟨b1, b2⟩, b3⟩, b4⟩, b5⟩ := hb
              have b1 := Nat.eq_of_beq_eq_true b1
              have b2 := Nat.eq_of_beq_eq_true b2
              have b3 := Nat.eq_of_beq_eq_true b3
              have b4 := Nat.le_of_ble_eq_true b4
              have b5 := Nat.le_of_ble_eq_true b5
              subst b1; subst b2
              obtain ⟨bb, n1, real, fz, k1, k2, k3, _⟩ := h.ty id e k he
              rw [hp] at k1
              cases k1
              obtain ⟨_, ⟨real', el, fz', g3, gn, _, g5⟩, _⟩ := h.holds hg hp
              rw [k2] at g3
              cases g3
              have hvs : ∃ vs : List Value, VRs ρ z (cs.take n) vs ∧ ∀ (j : Nat) (x : Value), vs[j]? = some x → real[j]? = some x := by
                refine ⟨real.toList.take (cs.take n).length, ?_, fun j x hj => ?_⟩
                · have hlen : (cs.take n).length ≤ real.size := by
                    rcases Nat.eq_zero_or_pos cs.length with hc | hc
                    · simp; omega
                    · obtain ⟨v', hv', _⟩ := g5 (cs.length - 1) _ (List.getElem?_eq_getElem (by omega))
                      have := (Array.getElem?_eq_some_iff.1 hv').1
                      simp; omega
                  refine VRs.of_at (by simp at hlen ⊢; omega) fun j x v hx hv => ?_
                  rw [List.getElem?_take] at hx
                  split at hx
                  · obtain ⟨v', hv', hr⟩ := g5 j x hx
                    rw [List.getElem?_take] at hv
                    split at hv
                    · simp at hv' hv
                      rw [hv'] at hv
                      cases hv
                      exact hr
                    · cases hv
                  · cases hx
                · rw [List.getElem?_take] at hj
                  split at hj
                  · simpa using hj
                  · cases hj
              obtain ⟨vs, v1, v2⟩ := hvs
              obtain ⟨l1, l2⟩ := toBytesC_ok v1 hl
              have hln : l.length = n := by rw [l1, v1.length]; simp; omega
              have hn0 : n ≠ 0 := fun hh => by subst hh; simp at h0
              have hle : l.length ≤ real.size := by
                rcases Nat.eq_zero_or_pos l.length with hc | hc
                · omega
                · have := l2 (l.length - 1) _ (List.getElem?_eq_getElem (by omega))
                  have := (Array.getElem?_eq_some_iff.1 (v2 _ _ this)).1
                  omega
              have hrun := Go.Lib.run_unsafeString_row (P := P) w pt it ty e (TabOk.und hd) (by simp [Program.cellsOf, TabOk.inf (P := P) hi, b3]) b real.size (by simp [World.shape?, k2]) l (fun hh => by subst hh; simp at hln; omega) hle (by omega)
                (fun j x hj => by
                  rw [add_mk]
                  have := v2 _ _ (l2 j x hj)
                  simp only [World.cell?, k2, Nat.zero_add]
                  exact this)
              rw [hln] at hrun
              exact ⟨_, _, ρ, hrun, h.freeze hg hp 0 n, Ext.refl _ _, .str l⟩
            · cases ha
        · cases ha
      · cases ha
  · cases ha
theorem aCopy_ok (h : Rel H ρ z pv w0 w) {dt st ty : TypeId} {x s y : AV} {v u : Value} {H' : Heap} (hv : VR ρ z x v) (hu : VR ρ z s u) (ha : aCopy D H dt x s = some (y, H')) :
    Out H' y ρ z pv w0 ((Builtin.copy_ #[dt, st] ty #[v, u]).run P w) := by
  unfold aCopy at ha
  split at ha
  · rename_i e hd
    split at ha
    · rename_i inf hi
      split at ha
      · rename_i news m hsrc
        split at ha
        · rename_i id off len cap ex es
          cases hb : (Nat.ble m len && Nat.beq es inf.size && allOne news) with
          | false => rw [hb] at ha; cases ha
          | true =>
            rw [hb, cond_true] at ha
            simp only [Bool.and_eq_true] at hb
            obtain ⟨⟨b1, b2⟩, b3⟩ := hb
            have b1 := Nat.le_of_ble_eq_true b1
            have b2 := Nat.eq_of_beq_eq_true b2
            subst b2
            split at ha
            · rename_i cs hg
              cases hc : Nat.ble (off + m * inf.size) cs.length with
              | false => rw [hc] at ha; cases ha
              | true =>
                rw [hc] at ha
                cases ha
                have hc := Nat.le_of_ble_eq_true hc
                obtain ⟨vs, k1, k2, k3, k4⟩ := src_ok (P := P) h hu hsrc
                have k5 := k4 w.drawn
                have hw : ({ w with drawn := w.drawn } : World) = w := rfl
                rw [hw] at k5
                have hmin : Nat.min m len = m := Nat.min_eq_left b1
                cases hv with | slice _ _ _ _ _ _ b o n rc A hp q1 q2 q3 q5 q6 =>
                have gi : ∀ w', (storeCells A vs).run P w = .ok () w' → (Builtin.copy_ #[dt, st] ty #[.slice (some A) len rc, u]).run P w = .ok (.int .i64 m) w' := fun w' hst => by
                  have hdef : Builtin.copy_ #[dt, st] ty #[.slice (some A) len rc, u] = (do
                      let .slice elem ← underlying dt | stuck "copy: slice type expected"
                      let n := Nat.min (← Builtin.lenOf u) len
                      let cells ← Builtin.firstCells (← sizeOf elem) n u
                      storeCells A cells.toList
                      pure (goInt n)) := rfl
                  rw [hdef]
                  simp only [Sem.run_bind, run_und hd, Result.andThen, k3 w, run_sz hi, hmin, k5, hst, Sem.run_pure]
                  rfl
                rcases Nat.eq_zero_or_pos rc with h0 | h0
                · obtain rfl : m = 0 := by omega
                  have hv0 : vs = [] := List.eq_nil_of_length_eq_zero (by rw [k1.length, k2]; simp)
                  have hn0 : news = [] := List.eq_nil_of_length_eq_zero (by rw [k2]; simp)
                  subst hv0; subst hn0
                  refine ⟨_, w, ρ, gi w rfl, h.same rfl rfl fun k => ?_, Ext.refl _ _, .int _ _⟩
                  simp only [putAt, Heap.put, T.get_set]
                  by_cases e : k = id
                  · rw [if_pos e, e, hg]
                  · rw [if_neg e]
                · have hA := q5 h0
                  subst hA
                  obtain ⟨H2, w', r1, r2, r3, r4⟩ := Rel.stores (P := P) hp news vs cs H w (o + off) off 0 h hg k1 b3 (by rw [k2]; exact hc) rfl
                  exact ⟨_, w', ρ, gi w' r1, r2.same r3.1.symm r3.2.symm (fun k => (r4 k).symm), Ext.refl _ _, .int _ _⟩
            · cases ha
        · cases ha
      · cases ha
    · cases ha
  · cases ha
end
end Go.Eng
end
section
namespace Go.Eng
open Go.RowKit
/-- What a run is given: the program, what calls of functions that are proved elsewhere answer, the package-level variables that are known. -/
structure Cx where
  P : Program
  D : Tab
  fn : T Func
  sm : FuncId → List AV → Heap → Option (AV × Heap)
  gl : Nat → Option (List AV)
  /-- functions without a body, of the model's own -/
  ext : FuncId → List AV → Heap → Option (AV × Heap)
  /-- types that lie in others -/
  lies : TypeId → Nat → Nat → TypeId → Bool
structure Env where
  sz : Nat
  t : T AV
inductive Res where
  | val (x : AV) (H : Heap)
  | skip (H : Heap)
  | enter (f : FuncId) (args : List AV)
def Env.get (e : Env) (i : Nat) : AV := match e.t.get i with
  | some x => x
  | none => .undef
def Env.put (e : Env) (d : Option Tmp) (x : AV) : Option Env := match d with
  | none => some e
  | some d => cond (Nat.blt d e.sz) (some ⟨e.sz, e.t.set d x⟩) none
def evalO (cx : Cx) (e : Env) : Operand → AV
  | .tmp t => e.get t
  | .const v => match absV v with
    | some x => x
    | none => .undef
  | .global g => match cx.gl g with
    | some cs => .iptr cs 0
    | none => .undef
  | .func f => .func (.func f) [] []
def evalOs (cx : Cx) (e : Env) : List Operand → List AV
  | [] => []
  | x :: xs => evalO cx e x :: evalOs cx e xs
def evalPs (cx : Cx) (e : Env) : List (Nat × Operand) → List (Nat × AV)
  | [] => []
  | (i, x) :: xs => (i, evalO cx e x) :: evalPs cx e xs
def evalOp (cx : Cx) (e : Env) : Option Operand → Option AV
  | none => none
  | some x => some (evalO cx e x)
def valR : Option AV → Heap → Option Res
  | some x, H => some (.val x H)
  | none, _ => none
def newR : Option (AV × Heap) → Option Res
  | some (x, H) => some (.val x H)
  | none => none
def skipR : Option Heap → Option Res
  | some H => some (.skip H)
  | none => none
def isPtrA : AV → Bool
  | .ptr _ _ | .iptr _ _ | .num _ | .frac _ => true
  | _ => false
def isIfaceD : TypeDesc → Bool
  | .interface _ => true
  | _ => false
def aBuiltin (cx : Cx) (H : Heap) (b : Builtin) (ts : List TypeId) (xs : List AV) : Option Res :=
  match b, ts, xs with
  | .append, [t, u], [s, x] => newR (aAppend cx.D H t u s x)
  | .len, [t], [x] => valR (aLen cx.D H t x) H
  | .cap, [t], [x] => valR (aCap cx.D t x) H
  | .clear, [t], [x] => match aClear cx.D H t x with
    | some H' => some (.val (.tuple []) H')
    | none => none
  | .unsafeSliceData, _, [x] => valR (aSliceData x) H
  | .unsafeString, [pt, _], [x, n] => newR (aUnsafeString cx.D H pt x n)
  | .copy, [dt, _], [x, y] => newR (aCopy cx.D H dt x y)
  | .max, _, xs => valR (aMax xs) H
  | .min, _, xs => valR (aMin xs) H
  | _, _, _ => none
def opMove (x : Operand) (cx : Cx) (e : Env) (H : Heap) : Option Res := some (.val (evalO cx e x) H)
def opAssign (x : Operand) (cx : Cx) (e : Env) (H : Heap) : Option Res := some (.val (evalO cx e x) H)
def opPick (c : Operand) (a : Operand) (b : Operand) (cx : Cx) (e : Env) (H : Heap) : Option Res := match evalO cx e c with
  | .bool true => some (.val (evalO cx e a) H)
  | .bool false => some (.val (evalO cx e b) H)
  | _ => none
def opAlloc (t : TypeId) (cx : Cx) (_ : Env) (H : Heap) : Option Res := newR (aAlloc cx.D H t)
def opBox (t : TypeId) (x : Operand) (cx : Cx) (e : Env) (H : Heap) : Option Res := newR (aBox H t (evalO cx e x))
def opBuild (t : TypeId) (ps : Array (Nat × Operand)) (cx : Cx) (e : Env) (H : Heap) : Option Res := valR (aBuild cx.D t (evalPs cx e ps.toList)) H
def opBuildSlice (t : TypeId) (n : Nat) (ps : Array (Nat × Operand)) (cx : Cx) (e : Env) (H : Heap) : Option Res := newR (aBuildSlice cx.D H t n (evalPs cx e ps.toList))
def opLoad (t : TypeId) (a : Operand) (cx : Cx) (e : Env) (H : Heap) : Option Res := valR (aLoad cx.D H t (evalO cx e a)) H
def opStore (t : TypeId) (a : Operand) (x : Operand) (cx : Cx) (e : Env) (H : Heap) : Option Res := skipR (aStore cx.D H t (evalO cx e a) (evalO cx e x))
def opNilCheck (x : Operand) (cx : Cx) (e : Env) (H : Heap) : Option Res := cond (isPtrA (evalO cx e x)) (some (.val (evalO cx e x) H)) none
def opBinOp (op : BinOp) (t : TypeId) (x : Operand) (y : Operand) (cx : Cx) (e : Env) (H : Heap) : Option Res := valR (aBin cx.D cx.P op t x y (evalO cx e x) (evalO cx e y)) H
def opUnOp (op : UnOp) (x : Operand) (cx : Cx) (e : Env) (H : Heap) : Option Res := valR (aUn op (evalO cx e x)) H
def opConvert (s : TypeId) (d : TypeId) (x : Operand) (cx : Cx) (e : Env) (H : Heap) : Option Res := match aConv cx.D cx.P H s d (evalO cx e x) with
    | some y => some (.val y H)
    | none => match aConvU cx.D cx.lies H s d (evalO cx e x) with
      | some y => some (.val y H)
      | none => newR (aConvBytes cx.D H s d (evalO cx e x))
def opMakeInterface (t : TypeId) (x : Operand) (cx : Cx) (e : Env) (H : Heap) : Option Res := match cx.D.und t with
  | some d => cond (isIfaceD d) none (some (.val (.iface t (evalO cx e x)) H))
  | none => none
def opMakeFunc (fn : Fn) (f : Array Operand) (c : Array Operand) (cx : Cx) (e : Env) (H : Heap) : Option Res := some (.val (.func fn (evalOs cx e f.toList) (evalOs cx e c.toList)) H)
def opMakeMap (r : Option Operand) (_ : Cx) (_ : Env) (H : Heap) : Option Res := match r with
  | some _ => none
  | none => some (.val (.map H.nx) (H.alloc (.map [] 0)))
def opMakeSlice (t : TypeId) (l : Operand) (c : Operand) (cx : Cx) (e : Env) (H : Heap) : Option Res := newR (aMakeSlice cx.D H t (evalO cx e l) (evalO cx e c))
def opSlice (t : TypeId) (x : Operand) (lo : Option Operand) (hi : Option Operand) (mx : Option Operand) (cx : Cx) (e : Env) (H : Heap) : Option Res := valR (aSlice cx.D H t (evalO cx e x) (evalOp cx e lo) (evalOp cx e hi) (evalOp cx e mx)) H
def opFieldAddr (s : TypeId) (x : Operand) (f : Nat) (cx : Cx) (e : Env) (H : Heap) : Option Res := valR (aFieldAddr cx.D s (evalO cx e x) f) H
def opField (t : TypeId) (x : Operand) (f : Nat) (cx : Cx) (e : Env) (H : Heap) : Option Res := valR (aField cx.D t (evalO cx e x) f) H
def opIndexAddr (t : TypeId) (x : Operand) (i : Operand) (cx : Cx) (e : Env) (H : Heap) : Option Res := valR (aIndexAddr cx.D t (evalO cx e x) (evalO cx e i)) H
def opIndex (t : TypeId) (x : Operand) (i : Operand) (cx : Cx) (e : Env) (H : Heap) : Option Res := valR (aIndex cx.D t (evalO cx e x) (evalO cx e i)) H
def opLookup (t : TypeId) (x : Operand) (i : Operand) (ok : Bool) (cx : Cx) (e : Env) (H : Heap) : Option Res := valR (aLookup cx.D cx.P H t (evalO cx e x) (evalO cx e i) ok) H
def opMapUpdate (t : TypeId) (m : Operand) (k : Operand) (x : Operand) (cx : Cx) (e : Env) (H : Heap) : Option Res := skipR (aMapUpdate cx.D cx.P H t (evalO cx e m) (evalO cx e k) (evalO cx e x))
def opInsert (t : TypeId) (m : Operand) (k : Operand) (x : Operand) (cx : Cx) (e : Env) (H : Heap) : Option Res := skipR (aMapUpdate cx.D cx.P H t (evalO cx e m) (evalO cx e k) (evalO cx e x))
def opRange (t : TypeId) (x : Operand) (cx : Cx) (e : Env) (H : Heap) : Option Res := newR (aRange cx.D H t (evalO cx e x))
def opNext (x : Operand) (b : Bool) (cx : Cx) (e : Env) (H : Heap) : Option Res := newR (aNext H (evalO cx e x) b)
def opMapEntry (t : TypeId) (m : Operand) (k : Operand) (cx : Cx) (e : Env) (H : Heap) : Option Res := newR (aMapEntry cx.D cx.P H t (evalO cx e m) (evalO cx e k))
def opEntryStore (m : Operand) (s : Operand) (x : Operand) (cx : Cx) (e : Env) (H : Heap) : Option Res := skipR (aEntryStore H (evalO cx e m) (evalO cx e s) (evalO cx e x))
def opExtract (t : Operand) (i : Nat) (cx : Cx) (e : Env) (H : Heap) : Option Res := match evalO cx e t with
  | .tuple xs => valR xs[i]? H
  | _ => none
def opCall (c : Call) (cx : Cx) (e : Env) (H : Heap) : Option Res := match c.callee with
  | .builtin b => aBuiltin cx H b c.argTypes.toList (evalOs cx e c.args.toList)
  | .value f => match evalO cx e f with
    | .func (.func g) first captured => match cx.fn.get g with
      | some fn => cond fn.body.isSome (some (.enter g (first ++ evalOs cx e c.args.toList ++ captured))) none
      | none => newR (cx.ext g (first ++ evalOs cx e c.args.toList ++ captured) H)
    | _ => none
  | .invoke _ _ => none
def opNone (_ : Cx) (_ : Env) (_ : Heap) : Option Res := none
def opFn : Op → Cx → Env → Heap → Option Res
  | .move x => opMove x
  | .assign x => opAssign x
  | .pick c a b => opPick c a b
  | .alloc t => opAlloc t
  | .box t x => opBox t x
  | .build t ps => opBuild t ps
  | .buildSlice t n ps => opBuildSlice t n ps
  | .load t a => opLoad t a
  | .store t a x => opStore t a x
  | .nilCheck x => opNilCheck x
  | .binOp op t x y _ => opBinOp op t x y
  | .unOp op _ x => opUnOp op x
  | .convert s d x => opConvert s d x
  | .makeInterface t x => opMakeInterface t x
  | .makeFunc fn f c => opMakeFunc fn f c
  | .makeMap _ r => opMakeMap r
  | .makeSlice t l c => opMakeSlice t l c
  | .slice t x lo hi mx => opSlice t x lo hi mx
  | .fieldAddr s x f => opFieldAddr s x f
  | .field t x f => opField t x f
  | .indexAddr t x i => opIndexAddr t x i
  | .index t x i => opIndex t x i
  | .lookup t x i ok => opLookup t x i ok
  | .mapUpdate t m k x => opMapUpdate t m k x
  | .insert t m k x => opInsert t m k x
  | .range t x => opRange t x
  | .next x b => opNext x b
  | .mapEntry t m k => opMapEntry t m k
  | .entryStore _ m s x => opEntryStore m s x
  | .extract t i => opExtract t i
  | .call c => opCall c
  | _ => opNone
def aop (cx : Cx) (e : Env) (H : Heap) (o : Oper) : Option Res := opFn o.op cx e H
/-- What is known of the package-level variables. -/
def GlOk (ρ : Pl) (z : Fz) (gl : Nat → Option (List AV)) : Prop :=
  ∀ g cells, gl g = some cells → ∃ vs, VRs ρ z cells vs ∧ ∀ (i : Nat) (v : Value), vs[i]? = some v → z g i = some v
/-- The tables are the program's. -/
structure CxOk (cx : Cx) : Prop where
  tab : TabOk cx.D cx.P
  lies : ∀ e n off u, cx.lies e n off u = true → liesAt cx.P cx.P.depth e (n / cx.P.cellsOf e) off u 1 = true
  ext : ∀ g args H x H', cx.ext g args H = some (x, H') → ∀ ρ z pv w0 w vs, Rel H ρ z pv w0 w → GlOk ρ z cx.gl → VRs ρ z args vs →
    ∃ u w' ρ', (callFunc g ⟨vs⟩).run cx.P w = .ok (.value u) w' ∧ Rel H' ρ' z pv w0 w' ∧ Ext ρ ρ' z z ∧ VR ρ' z x u
  fn : ∀ (f : Nat) (fn : Func), cx.fn.get f = some fn → cx.P.funcs[f]? = some fn ∧ ∀ args w, (callFunc f args).run cx.P w = .ok (.enter f args) w
structure ERel (e : Env) (ρ : Pl) (z : Fz) (a : Act) : Prop where
  size : a.tmps.size = e.sz
  defers : a.defers = []
  get : ∀ (i : Nat) (x : AV), e.t.get i = some x → ∃ v, a.tmps[i]? = some v ∧ VR ρ z x v
section
variable {cx : Cx} {e : Env} {H : Heap} {ρ ρ' : Pl} {z z' : Fz} {w0 w : World} {pv : Pv} {a : Act}
theorem GlOk.mono (x : Ext ρ ρ' z z') (h : GlOk ρ z cx.gl) : GlOk ρ' z' cx.gl := fun g cells hg =>
  let ⟨vs, h1, h2⟩ := h g cells hg
  ⟨vs, h1.mono x, fun i v hv => x.fz _ _ _ (h2 i v hv)⟩
theorem ERel.mono (x : Ext ρ ρ' z z') (h : ERel e ρ z a) : ERel e ρ' z' a :=
  ⟨h.size, h.defers, fun i y hy => let ⟨v, h1, h2⟩ := h.get i y hy; ⟨v, h1, h2.mono x⟩⟩
theorem ERel.put {d : Option Tmp} {x : AV} {v : Value} {e' : Env} (h : ERel e ρ z a) (hx : VR ρ z x v) (hp : e.put d x = some e') : ERel e' ρ z (a.put d v) := by
  cases d with
  | none => simp [Env.put] at hp; subst hp; exact h
  | some d =>
    simp only [Env.put] at hp
    cases hb : Nat.blt d e.sz with
    | false => rw [hb] at hp; cases hp
    | true =>
      rw [hb] at hp
      cases hp
      have hlt : d < a.tmps.size := by rw [h.size]; simpa [Nat.blt_eq] using hb
      refine ⟨by simp [Act.put, h.size], h.defers, fun i y hy => ?_⟩
      simp only [T.get_set] at hy
      by_cases hi : i = d
      · rw [if_pos hi] at hy
        cases hy
        subst hi
        exact ⟨v, by simp [Act.put, hlt], hx⟩
      · rw [if_neg hi] at hy
        obtain ⟨u, h1, h2⟩ := h.get i y hy
        exact ⟨u, by simp only [Act.put]; rw [Array.getElem?_setIfInBounds_ne (by omega)]; exact h1, h2⟩
theorem evalO_ok (hg : GlOk ρ z cx.gl) (he : ERel e ρ z a) (x : Operand) : VR ρ z (evalO cx e x) (a.eval x) := by
  cases x with
  | tmp t =>
    simp only [evalO, Env.get, Act.eval]
    cases h : e.t.get t with
    | none => exact .undef _
    | some y =>
      obtain ⟨v, h1, h2⟩ := he.get t y h
      simp only [Array.getD_eq_getD_getElem?, h1, Option.getD_some]
      exact h2
  | const v =>
    simp only [evalO, Act.eval]
    cases h : absV v with
    | none => exact .undef _
    | some y => exact absV_VR h
  | global g =>
    simp only [evalO, Act.eval]
    cases h : cx.gl g with
    | none => exact .undef _
    | some cs =>
      obtain ⟨vs, h1, h2⟩ := hg g cs h
      exact .iptr cs 0 g 0 vs h1 (fun i v hv => by rw [Nat.zero_add]; exact h2 i v hv)
  | func f => exact .func _ _ _ _ _ .nil .nil
theorem evalOs_ok (hg : GlOk ρ z cx.gl) (he : ERel e ρ z a) : ∀ xs : List Operand, VRs ρ z (evalOs cx e xs) (xs.map a.eval)
  | [] => .nil
  | x :: xs => .cons _ _ _ _ (evalO_ok hg he x) (evalOs_ok hg he xs)
theorem evalPs_ok (hg : GlOk ρ z cx.gl) (he : ERel e ρ z a) : ∀ xs : List (Nat × Operand), PR ρ z (evalPs cx e xs) (xs.map fun (i, x) => (i, a.eval x))
  | [] => .nil
  | (i, x) :: xs => .cons i _ _ _ _ (evalO_ok hg he x) (evalPs_ok hg he xs)
theorem evalOp_ok (hg : GlOk ρ z cx.gl) (he : ERel e ρ z a) (x : Option Operand) : VRo ρ z (evalOp cx e x) (x.map a.eval) := by
  cases x with
  | none => exact .none
  | some x => exact .some (evalO_ok hg he x)
/-- What one operation comes to. -/
def ResOk (cx : Cx) (ρ : Pl) (z : Fz) (pv : Pv) (w0 w : World) (r : Result Next) : Res → Prop
  | .val x H' => ∃ u w' ρ', r = .ok (.value u) w' ∧ Rel H' ρ' z pv w0 w' ∧ Ext ρ ρ' z z ∧ VR ρ' z x u
  | .skip H' => ∃ w', r = .ok .skip w' ∧ Rel H' ρ z pv w0 w'
  | .enter f args => ∃ vs fn c, r = .ok (.enter f ⟨vs⟩) w ∧ VRs ρ z args vs ∧ cx.fn.get f = some fn ∧ fn.body = some c
theorem resV {P : Program} {s : Sem Value} {x : AV} {u : Value} (h : Rel H ρ z pv w0 w) (hr : s.run P w = .ok u w) (hx : VR ρ z x u) : ResOk cx ρ z pv w0 w ((do pure (.value (← s)) : Sem Next).run P w) (.val x H) :=
  ⟨u, w, ρ, by rw [Sem.run_bind, hr]; rfl, h, Ext.refl _ _, hx⟩
theorem resN {P : Program} {s : Sem Value} {x : AV} {H' : Heap} (ho : Out H' x ρ z pv w0 (s.run P w)) : ResOk cx ρ z pv w0 w ((do pure (.value (← s)) : Sem Next).run P w) (.val x H') := by
  obtain ⟨u, w', ρ', h1, h2, h3, h4⟩ := ho
  exact ⟨u, w', ρ', by rw [Sem.run_bind, h1]; rfl, h2, h3, h4⟩
theorem resS {P : Program} {s : Sem Unit} {H' : Heap} {w' : World} (hr : s.run P w = .ok () w') (h : Rel H' ρ z pv w0 w') : ResOk cx ρ z pv w0 w ((do s; pure .skip : Sem Next).run P w) (.skip H') :=
  ⟨w', by rw [Sem.run_bind, hr]; rfl, h⟩
theorem aBuiltin_ok (hN : CxOk cx) (h : Rel H ρ z pv w0 w) {b : Builtin} {ts : List TypeId} {ty : TypeId} {cs : Array Bool} {xs : List AV} {vs : List Value} {r : Res} (hx : VRs ρ z xs vs) (ha : aBuiltin cx H b ts xs = some r) :
    ResOk cx ρ z pv w0 w ((builtin b ⟨ts⟩ ty cs ⟨vs⟩).run cx.P w) r := by
  haveI := hN.tab
  unfold aBuiltin at ha
  split at ha
  · rename_i t u s x
    cases hx with | cons _ sv _ _ h1 h2 =>
    cases h2 with | cons _ xv _ _ h3 h4 =>
    cases h4
    cases ho : aAppend cx.D H t u s x with
    | none => rw [ho] at ha; cases ha
    | some p =>
      obtain ⟨y, H'⟩ := p
      rw [ho] at ha
      cases ha
      exact resN (aAppend_ok h h1 h3 ho)
  · rename_i t x
    cases hx with | cons _ xv _ _ h1 h2 =>
    cases h2
    cases ho : aLen cx.D H t x with
    | none => rw [ho] at ha; cases ha
    | some y =>
      rw [ho] at ha
      cases ha
      obtain ⟨q, h3, h4⟩ := aLen_ok (P := cx.P) (ty := ty) h h1 ho
      exact resV h h3 h4
  · rename_i t x
    cases hx with | cons _ xv _ _ h1 h2 =>
    cases h2
    cases ho : aCap cx.D t x with
    | none => rw [ho] at ha; cases ha
    | some y =>
      rw [ho] at ha
      cases ha
      obtain ⟨q, h3, h4⟩ := aCap_ok (P := cx.P) (w := w) (ty := ty) h1 ho
      exact resV h h3 h4
  · rename_i t x
    cases hx with | cons _ xv _ _ h1 h2 =>
    cases h2
    split at ha
    · rename_i H' ho
      cases ha
      obtain ⟨w', h3, h4⟩ := aClear_ok (P := cx.P) (ty := ty) h h1 ho
      exact resN ⟨_, w', ρ, h3, h4, Ext.refl _ _, .tuple _ _ .nil⟩
    · cases ha
  · rename_i x
    cases hx with | cons _ xv _ _ h1 h2 =>
    cases h2
    cases ho : aSliceData x with
    | none => rw [ho] at ha; cases ha
    | some y =>
      rw [ho] at ha
      cases ha
      obtain ⟨q, h3, h4⟩ := aSliceData_ok (P := cx.P) (w := w) (ts := ⟨ts⟩) (ty := ty) h1 ho
      exact resV h h3 h4
  · rename_i pt it x n
    cases hx with | cons _ xv _ _ h1 h2 =>
    cases h2 with | cons _ nv _ _ h3 h4 =>
    cases h4
    cases ho : aUnsafeString cx.D H pt x n with
    | none => rw [ho] at ha; cases ha
    | some p =>
      obtain ⟨y, H'⟩ := p
      rw [ho] at ha
      cases ha
      exact resN (aUnsafeString_ok h h1 h3 ho)
  · rename_i dt st x y
    cases hx with | cons _ xv _ _ h1 h2 =>
    cases h2 with | cons _ yv _ _ h3 h4 =>
    cases h4
    cases ho : aCopy cx.D H dt x y with
    | none => rw [ho] at ha; cases ha
    | some p =>
      obtain ⟨y, H'⟩ := p
      rw [ho] at ha
      cases ha
      exact resN (aCopy_ok h h1 h3 ho)
  · cases ho : aMax xs with
    | none => rw [ho] at ha; cases ha
    | some y =>
      rw [ho] at ha
      cases ha
      obtain ⟨q, h3, h4⟩ := aMax_ok (P := cx.P) (w := w) (t := ⟨ts⟩) (ty := ty) hx ho
      exact resV h h3 h4
  · cases ho : aMin xs with
    | none => rw [ho] at ha; cases ha
    | some y =>
      rw [ho] at ha
      cases ha
      obtain ⟨q, h3, h4⟩ := aMin_ok (P := cx.P) (w := w) (t := ⟨ts⟩) (ty := ty) hx ho
      exact resV h h3 h4
  · cases ha
theorem aop_ok (hN : CxOk cx) (hg : GlOk ρ z cx.gl) (h : Rel H ρ z pv w0 w) (he : ERel e ρ z a) {o : Oper} {r : Res} (ha : aop cx e H o = some r) : ResOk cx ρ z pv w0 w ((execOp a.eval o).run cx.P w) r := by
  haveI := hN.tab
  obtain ⟨dst, op, type, pos, after, guard⟩ := o
  unfold aop at ha
  cases op <;> simp only [opFn, opNone, opMove, opAssign, opPick, opAlloc, opBox, opBuild, opBuildSlice, opLoad, opStore, opNilCheck, opBinOp, opUnOp, opConvert, opMakeInterface, opMakeFunc, opMakeMap, opMakeSlice, opSlice, opFieldAddr, opField, opIndexAddr, opIndex, opLookup, opMapUpdate, opInsert, opRange, opNext, opMapEntry, opEntryStore, opExtract, opCall] at ha <;> (try (cases ha; done)) <;> simp only [execOp]
  case move x => cases ha; exact ⟨_, w, ρ, rfl, h, Ext.refl _ _, evalO_ok hg he x⟩
  case assign x => cases ha; exact ⟨_, w, ρ, rfl, h, Ext.refl _ _, evalO_ok hg he x⟩
  case pick c x y =>
    have hc := evalO_ok hg he c
    split at ha
    · rename_i heq; cases ha; rw [heq] at hc
      generalize hv : a.eval c = cv at hc
      cases hc
      exact ⟨_, w, ρ, by simp [asBool], h, Ext.refl _ _, evalO_ok hg he x⟩
    · rename_i heq; cases ha; rw [heq] at hc
      generalize hv : a.eval c = cv at hc
      cases hc
      exact ⟨_, w, ρ, by simp [asBool], h, Ext.refl _ _, evalO_ok hg he y⟩
    · cases ha
  case alloc t =>
    cases ho : aAlloc cx.D H t with
    | none => rw [ho] at ha; cases ha
    | some p => obtain ⟨y, H'⟩ := p; rw [ho] at ha; cases ha; exact resN (aAlloc_ok h ho)
  case box t x =>
    cases ho : aBox H t (evalO cx e x) with
    | none => rw [ho] at ha; cases ha
    | some p => obtain ⟨y, H'⟩ := p; rw [ho] at ha; cases ha; exact resN (aBox_ok h (evalO_ok hg he x) ho)
  case build t ps =>
    cases ho : aBuild cx.D t (evalPs cx e ps.toList) with
    | none => rw [ho] at ha; cases ha
    | some y =>
      rw [ho] at ha; cases ha
      obtain ⟨q, h1, h2⟩ := aBuild_ok (P := cx.P) (w := w) (evalPs_ok hg he ps.toList) ho
      have hps : (ps.map fun (i, x) => (i, a.eval x)) = ⟨ps.toList.map fun (i, x) => (i, a.eval x)⟩ := by apply Array.ext'; simp
      rw [hps]
      exact resV h h1 h2
  case buildSlice t n ps =>
    cases ho : aBuildSlice cx.D H t n (evalPs cx e ps.toList) with
    | none => rw [ho] at ha; cases ha
    | some p =>
      obtain ⟨y, H'⟩ := p; rw [ho] at ha; cases ha
      have hps : (ps.map fun (i, x) => (i, a.eval x)) = ⟨ps.toList.map fun (i, x) => (i, a.eval x)⟩ := by apply Array.ext'; simp
      rw [hps]
      exact resN (aBuildSlice_ok h (evalPs_ok hg he ps.toList) ho)
  case load t x =>
    cases ho : aLoad cx.D H t (evalO cx e x) with
    | none => rw [ho] at ha; cases ha
    | some y => rw [ho] at ha; cases ha; obtain ⟨q, h1, h2⟩ := aLoad_ok (P := cx.P) h (evalO_ok hg he x) ho; exact resV h h1 h2
  case store t x y =>
    cases ho : aStore cx.D H t (evalO cx e x) (evalO cx e y) with
    | none => rw [ho] at ha; cases ha
    | some H' => rw [ho] at ha; cases ha; obtain ⟨q, h1, h2⟩ := aStore_ok (P := cx.P) h (evalO_ok hg he x) (evalO_ok hg he y) ho; exact resS h1 h2
  case nilCheck x =>
    have hx := evalO_ok hg he x
    cases hp : isPtrA (evalO cx e x) with
    | false => rw [hp] at ha; cases ha
    | true =>
      rw [hp] at ha
      cases ha
      refine ⟨a.eval x, w, ρ, ?_, h, Ext.refl _ _, hx⟩
      generalize a.eval x = v at hx ⊢
      generalize evalO cx e x = y at hx hp
      cases hx <;> (try (cases hp; done)) <;> (try rfl)
      case num n hv => unfold numTree at hv; cases hv; rfl
      case frac q hv => unfold fracTree at hv; cases hv; rfl
  case binOp op t x y ty =>
    cases ho : aBin cx.D cx.P op t x y (evalO cx e x) (evalO cx e y) with
    | none => rw [ho] at ha; cases ha
    | some r => rw [ho] at ha; cases ha; obtain ⟨q, h1, h2⟩ := aBin_ok (P := cx.P) (w := w) (evalO_ok hg he x) (evalO_ok hg he y) ho; exact resV h h1 h2
  case unOp op t x =>
    cases ho : aUn op (evalO cx e x) with
    | none => rw [ho] at ha; cases ha
    | some r => rw [ho] at ha; cases ha; obtain ⟨q, h1, h2⟩ := aUn_ok (P := cx.P) (w := w) (evalO_ok hg he x) ho; exact resV h h1 h2
  case convert s d x =>
    split at ha
    · rename_i y ho
      cases ha
      obtain ⟨q, h1, h2⟩ := aConv_ok (P := cx.P) h (evalO_ok hg he x) ho
      exact resV h h1 h2
    · split at ha
      · rename_i y ho
        cases ha
        obtain ⟨q, h1, h2⟩ := aConvU_ok (P := cx.P) h hN.lies (evalO_ok hg he x) ho
        exact resV h h1 h2
      · cases ho : aConvBytes cx.D H s d (evalO cx e x) with
        | none => rw [ho] at ha; cases ha
        | some p => obtain ⟨y, H'⟩ := p; rw [ho] at ha; cases ha; exact resN (aConvBytes_ok h (evalO_ok hg he x) ho)
  case makeInterface t x =>
    split at ha
    · rename_i d hd
      cases hi : isIfaceD d with
      | true => rw [hi] at ha; cases ha
      | false =>
        rw [hi] at ha
        cases ha
        refine resV h ?_ (.iface t _ _ (evalO_ok hg he x))
        unfold Instr.makeInterface
        rw [Sem.run_bind, run_und hd]
        cases d <;> first | (cases hi; done) | rfl
    · cases ha
  case makeFunc fn f c =>
    cases ha
    refine resV h (u := .func fn (f.map a.eval) (c.map a.eval)) rfl ?_
    have h1 := evalOs_ok hg he f.toList
    have h2 := evalOs_ok hg he c.toList
    have e1 : f.map a.eval = ⟨f.toList.map a.eval⟩ := by apply Array.ext'; simp
    have e2 : c.map a.eval = ⟨c.toList.map a.eval⟩ := by apply Array.ext'; simp
    rw [e1, e2]
    exact .func fn _ _ _ _ h1 h2
  case makeMap t r =>
    cases r with
    | some _ => cases ha
    | none =>
      cases ha
      refine resN ⟨.map (some w.heap.size), w.alloc (.map #[] 0), plSet ρ H.nx (w.heap.size, 0, 0), by simp [Instr.makeMap, Result.andThen], h.alloc _ _ _ ⟨[], heap_alloc_new w _, .nil, .nil, rfl⟩, h.ext_alloc _, .map _ _ 0 0 (plSet_same _ _ _)⟩
  case makeSlice t l c =>
    cases ho : aMakeSlice cx.D H t (evalO cx e l) (evalO cx e c) with
    | none => rw [ho] at ha; cases ha
    | some p => obtain ⟨y, H'⟩ := p; rw [ho] at ha; cases ha; exact resN (aMakeSlice_ok h (evalO_ok hg he l) (evalO_ok hg he c) ho)
  case slice t x lo hi mx =>
    cases ho : aSlice cx.D H t (evalO cx e x) (evalOp cx e lo) (evalOp cx e hi) (evalOp cx e mx) with
    | none => rw [ho] at ha; cases ha
    | some y => rw [ho] at ha; cases ha; obtain ⟨q, h1, h2⟩ := aSlice_ok (P := cx.P) (evalO_ok hg he x) (evalOp_ok hg he lo) (evalOp_ok hg he hi) (evalOp_ok hg he mx) h ho; exact resV h h1 h2
  case fieldAddr s x f =>
    cases ho : aFieldAddr cx.D s (evalO cx e x) f with
    | none => rw [ho] at ha; cases ha
    | some y => rw [ho] at ha; cases ha; obtain ⟨q, h1, h2⟩ := aFieldAddr_ok (P := cx.P) (w := w) (evalO_ok hg he x) ho; exact resV h h1 h2
  case field t x f =>
    cases ho : aField cx.D t (evalO cx e x) f with
    | none => rw [ho] at ha; cases ha
    | some y => rw [ho] at ha; cases ha; obtain ⟨q, h1, h2⟩ := aField_ok (P := cx.P) (w := w) (evalO_ok hg he x) ho; exact resV h h1 h2
  case indexAddr t x i =>
    cases ho : aIndexAddr cx.D t (evalO cx e x) (evalO cx e i) with
    | none => rw [ho] at ha; cases ha
    | some y => rw [ho] at ha; cases ha; obtain ⟨q, h1, h2⟩ := aIndexAddr_ok (P := cx.P) (w := w) (evalO_ok hg he x) (evalO_ok hg he i) ho; exact resV h h1 h2
  case index t x i =>
    cases ho : aIndex cx.D t (evalO cx e x) (evalO cx e i) with
    | none => rw [ho] at ha; cases ha
    | some y => rw [ho] at ha; cases ha; obtain ⟨q, h1, h2⟩ := aIndex_ok (P := cx.P) (w := w) (evalO_ok hg he x) (evalO_ok hg he i) ho; exact resV h h1 h2
  case lookup t x i ok =>
    cases ho : aLookup cx.D cx.P H t (evalO cx e x) (evalO cx e i) ok with
    | none => rw [ho] at ha; cases ha
    | some y => rw [ho] at ha; cases ha; obtain ⟨q, h1, h2⟩ := aLookup_ok (P := cx.P) h (evalO_ok hg he x) (evalO_ok hg he i) ho; exact resV h h1 h2
  case mapUpdate t m k x =>
    cases ho : aMapUpdate cx.D cx.P H t (evalO cx e m) (evalO cx e k) (evalO cx e x) with
    | none => rw [ho] at ha; cases ha
    | some H' => rw [ho] at ha; cases ha; obtain ⟨q, h1, h2⟩ := aMapUpdate_ok (P := cx.P) h (evalO_ok hg he m) (evalO_ok hg he k) (evalO_ok hg he x) ho; exact resS h1 h2
  case insert t m k x =>
    cases ho : aMapUpdate cx.D cx.P H t (evalO cx e m) (evalO cx e k) (evalO cx e x) with
    | none => rw [ho] at ha; cases ha
    | some H' => rw [ho] at ha; cases ha; obtain ⟨q, h1, h2⟩ := aMapUpdate_ok (P := cx.P) h (evalO_ok hg he m) (evalO_ok hg he k) (evalO_ok hg he x) ho; exact resS h1 h2
  case range t x =>
    cases ho : aRange cx.D H t (evalO cx e x) with
    | none => rw [ho] at ha; cases ha
    | some p => obtain ⟨y, H'⟩ := p; rw [ho] at ha; cases ha; exact resN (aRange_ok h (evalO_ok hg he x) ho)
  case next x b =>
    cases ho : aNext H (evalO cx e x) b with
    | none => rw [ho] at ha; cases ha
    | some p => obtain ⟨y, H'⟩ := p; rw [ho] at ha; cases ha; exact resN (aNext_ok h (evalO_ok hg he x) ho)
  case mapEntry t m k =>
    cases ho : aMapEntry cx.D cx.P H t (evalO cx e m) (evalO cx e k) with
    | none => rw [ho] at ha; cases ha
    | some p => obtain ⟨y, H'⟩ := p; rw [ho] at ha; cases ha; exact resN (aMapEntry_ok h (evalO_ok hg he m) (evalO_ok hg he k) ho)
  case entryStore t m s x =>
    cases ho : aEntryStore H (evalO cx e m) (evalO cx e s) (evalO cx e x) with
    | none => rw [ho] at ha; cases ha
    | some H' => rw [ho] at ha; cases ha; obtain ⟨q, h1, h2⟩ := aEntryStore_ok (P := cx.P) (t := t) h (evalO_ok hg he m) (evalO_ok hg he s) (evalO_ok hg he x) ho; exact resS h1 h2
  case extract t i =>
    have hx := evalO_ok hg he t
    split at ha
    · rename_i xs heq
      rw [heq] at hx
      cases ho : xs[i]? with
      | none => rw [ho] at ha; cases ha
      | some y =>
        rw [ho] at ha
        cases ha
        generalize a.eval t = tv at hx ⊢
        cases hx with | tuple _ vs hs =>
        obtain ⟨u, h1, h2⟩ := hs.at_ ho
        exact resV h (by simp [Instr.extract, h1]) h2
    · cases ha
  case call c =>
    obtain ⟨callee, args, argTypes⟩ := c
    cases callee with
    | builtin b =>
      simp only at ha
      have hx := evalOs_ok hg he args.toList
      have e1 : args.map a.eval = ⟨args.toList.map a.eval⟩ := by apply Array.ext'; simp
      have := aBuiltin_ok hN (ty := type) (cs := args.map fun | .const _ => true | _ => false) h hx ha
      simp only [resolve, Sem.run_bind, Sem.run_pure, Result.andThen, invoke, e1]
      exact this
    | value f =>
      simp only at ha
      have hf := evalO_ok hg he f
      split at ha
      · rename_i g first captured heq
        rw [heq] at hf
        split at ha
        · rename_i fn hfn
          cases hb : fn.body.isSome with
          | false => rw [hb] at ha; cases ha
          | true =>
            rw [hb] at ha
            cases ha
            have hx := evalOs_ok hg he args.toList
            have e1 : args.map a.eval = ⟨args.toList.map a.eval⟩ := by apply Array.ext'; simp
            generalize hfv : a.eval f = fv at hf
            cases hf with | func _ _ _ fs cs h1 h2 =>
            obtain ⟨c, hc⟩ := Option.isSome_iff_exists.1 hb
            refine ⟨fs ++ args.toList.map a.eval ++ cs, fn, c, ?_, (h1.append hx).append h2, hfn, hc⟩
            simp only [resolve, hfv, Deferred.ofValue, Sem.run_bind, Sem.run_pure, Result.andThen, invoke, e1]
            have := (hN.fn _ _ hfn).2 (⟨fs⟩ ++ ⟨args.toList.map a.eval⟩ ++ ⟨cs⟩) w
            simpa using this
        · cases ho : cx.ext g (first ++ evalOs cx e args.toList ++ captured) H with
          | none => rw [ho] at ha; cases ha
          | some p =>
            obtain ⟨y, H'⟩ := p
            rw [ho] at ha
            cases ha
            have hx := evalOs_ok hg he args.toList
            have e1 : args.map a.eval = ⟨args.toList.map a.eval⟩ := by apply Array.ext'; simp
            generalize hfv : a.eval f = fv at hf
            cases hf with | func _ _ _ fs cs h1 h2 =>
            obtain ⟨u, w', ρ', k1, k2, k3, k4⟩ := hN.ext g _ H y H' ho ρ z pv w0 w _ h hg ((h1.append hx).append h2)
            refine ⟨u, w', ρ', ?_, k2, k3, k4⟩
            simp only [resolve, hfv, Deferred.ofValue, Sem.run_bind, Sem.run_pure, Result.andThen, invoke, e1]
            simpa using k1
      · cases ha
    | invoke r m => cases ha
end
end Go.Eng
end
section
namespace Go.Eng
open Go.RowKit
abbrev CallF := FuncId → List AV → Heap → Option (AV × Heap)
/-- Is this operation carried out? -/
def wantedA (ops : Array Oper) (e : Env) (o : Oper) : Option Bool :=
  match o.guard with
  | none => some true
  | some (j, want) => match (ops[j]?).bind (·.dst) with
    | none => some false
    | some d => match e.t.get d with
      | some (.bool b) => some (b == want)
      | some (.tuple []) => some false
      | _ => none
/-- What an operation leaves, its call done. -/
def step1 (call : CallF) (cx : Cx) (e : Env) (H : Heap) (o : Oper) : Option (AV × Heap) :=
  match aop cx e H o with
  | some (.val x H') => some (x, H')
  | some (.skip H') => some (.tuple [], H')
  | some (.enter f args) => call f args H
  | none => none
def runOps (call : CallF) (cx : Cx) (ops : Array Oper) : List Oper → Env → Heap → Option (Env × Heap)
  | [], e, H => some (e, H)
  | o :: rest, e, H =>
    match wantedA ops e o with
    | none => none
    | some false => match e.put o.dst (.tuple []) with
      | some e' => runOps call cx ops rest e' H
      | none => none
    | some true => match step1 call cx e H o with
      | some (x, H') => match e.put o.dst x with
        | some e' => runOps call cx ops rest e' H'
        | none => none
      | none => none
/-- Calls that 'call' answers answer so. -/
def CallOk (cx : Cx) (call : CallF) : Prop :=
  ∀ f args H x H', call f args H = some (x, H') → ∀ ρ z pv w0 w vs, Rel H ρ z pv w0 w → GlOk ρ z cx.gl → VRs ρ z args vs →
    Calls cx.P f ⟨vs⟩ w fun e w' => ∃ u ρ' z', e = .returned u ∧ Rel H' ρ' z' pv w0 w' ∧ Ext ρ ρ' z z' ∧ VR ρ' z' x u
/-- All of a state. -/
structure SRel (cx : Cx) (e : Env) (H : Heap) (ρ : Pl) (z : Fz) (pv : Pv) (w0 : World) (a : Act) (w : World) : Prop where
  rel : Rel H ρ z pv w0 w
  env : ERel e ρ z a
  gl : GlOk ρ z cx.gl
section
variable {cx : Cx} {e : Env} {H : Heap} {ρ : Pl} {z : Fz} {w0 w : World} {pv : Pv} {a : Act} {call : CallF}
theorem wantedA_ok {ops : Array Oper} {o : Oper} {b : Bool} (he : ERel e ρ z a) (h : wantedA ops e o = some b) : Region.wanted o (yielded ops a.tmps) = b := by
  unfold wantedA at h
  unfold Region.wanted
  cases hg : o.guard with
  | none => rw [hg] at h; simp at h; subst h; rfl
  | some gw =>
    obtain ⟨j, want⟩ := gw
    rw [hg] at h
    simp only at h ⊢
    unfold yielded
    cases hd : (ops[j]?).bind (·.dst) with
    | none => rw [hd] at h; simp at h; subst h; rfl
    | some d =>
      rw [hd] at h
      simp only at h
      simp only [Option.bind_some]
      split at h
      · rename_i b' hb
        cases h
        obtain ⟨v, h1, h2⟩ := he.get d _ hb
        cases h2
        rw [h1]
        rfl
      · rename_i hb
        cases h
        obtain ⟨v, h1, h2⟩ := he.get d _ hb
        cases h2 with | tuple _ vs hs =>
        cases hs
        rw [h1]
        rfl
      · cases h
/-- One operation in a region. -/
theorem step1_ok (hN : CxOk cx) (hC : CallOk cx call) {Q : Exit → Act → World → Prop} {K : Act → World → Prop} {o : Oper} {x : AV} {H' : Heap} {e' : Env} (h : SRel cx e H ρ z pv w0 a w) (hs : step1 call cx e H o = some (x, H')) (hp : e.put o.dst x = some e')
    (hK : ∀ ρ' z' a' w', Ext ρ ρ' z z' → SRel cx e' H' ρ' z' pv w0 a' w' → K a' w') : o.wp cx.P a w K Q := by
  unfold step1 at hs
  split at hs
  · rename_i y H1 ha
    cases hs
    obtain ⟨u, w', ρ', h1, h2, h3, h4⟩ := aop_ok hN h.gl h.rel h.env ha
    unfold Oper.wp
    rw [h1, Oper.upon_value]
    exact hK ρ' z _ _ h3 ⟨h2, (h.env.mono h3).put h4 hp, h.gl.mono h3⟩
  · rename_i H1 ha
    cases hs
    obtain ⟨w', h1, h2⟩ := aop_ok hN h.gl h.rel h.env ha
    unfold Oper.wp
    rw [h1, Oper.upon_skip]
    exact hK ρ z _ _ (Ext.refl _ _) ⟨h2, h.env.put (.tuple _ _ .nil) hp, h.gl⟩
  · rename_i f args ha
    obtain ⟨vs, fn, c, h1, h2, _, _⟩ := aop_ok hN h.gl h.rel h.env ha
    unfold Oper.wp
    rw [h1, Oper.upon_enter]
    refine (hC f args H x H' hs ρ z pv w0 w vs h.rel h.gl h2).mono fun en w' hq => ?_
    obtain ⟨u, ρ', z', rfl, q1, q2, q3⟩ := hq
    exact hK ρ' z' _ _ q2 ⟨q1, (h.env.mono q2).put q3 hp, h.gl.mono q2⟩
  · cases hs
theorem runOps_ok (hN : CxOk cx) (hC : CallOk cx call) {ops : Array Oper} {Q : Exit → Act → World → Prop} : ∀ (l : List Oper) (k : Nat) (e : Env) (H : Heap) (ρ : Pl) (z : Fz) (a : Act) (w : World) (e' : Env) (H' : Heap),
    (∀ j, l[j]? = ops[k + j]?) → SRel cx e H ρ z pv w0 a w → runOps call cx ops l e H = some (e', H') →
    (∀ ρ' z' a' w', Ext ρ ρ' z z' → SRel cx e' H' ρ' z' pv w0 a' w' → Q .normal a' w') → wpOps cx.P ops Q (List.range' k l.length) a w
  | [], k, e, H, ρ, z, a, w, e', H', _, h, hr, hQ => by
    simp only [runOps, Option.some.injEq, Prod.mk.injEq] at hr
    obtain ⟨rfl, rfl⟩ := hr
    exact hQ ρ z a w (Ext.refl _ _) h
  | o :: l, k, e, H, ρ, z, a, w, e', H', hl, h, hr, hQ => by
    have h0 : ops[k]? = some o := by simpa using (hl 0).symm
    have hl' : ∀ j, l[j]? = ops[k + 1 + j]? := fun j => by have := hl (j + 1); simpa [Nat.add_assoc, Nat.add_comm 1 j] using this
    simp only [List.length_cons, List.range'_succ, wpOps, h0]
    simp only [runOps] at hr
    split at hr
    · cases hr
    · rename_i hw
      split at hr
      · rename_i e1 hp
        rw [wantedA_ok h.env hw]
        simp only [Bool.false_eq_true, if_false]
        exact runOps_ok hN hC l (k + 1) e1 H ρ z _ w e' H' hl' ⟨h.rel, h.env.put (.tuple _ _ .nil) hp, h.gl⟩ hr hQ
      · cases hr
    · rename_i hw
      split at hr
      · rename_i x H1 hs
        split at hr
        · rename_i e1 hp
          rw [wantedA_ok h.env hw]
          simp only [if_true]
          refine .inl (step1_ok hN hC h hs hp fun ρ' z' a' w' hx hS => ?_)
          exact runOps_ok hN hC l (k + 1) e1 H1 ρ' z' a' w' e' H' hl' hS hr fun ρ2 z2 a2 w2 hx2 hS2 => hQ ρ2 z2 a2 w2 (hx.trans hx2) hS2
        · cases hr
      · cases hr
theorem region_ok (hN : CxOk cx) (hC : CallOk cx call) {id : Nat} {ops : Array Oper} {Q : Exit → Act → World → Prop} {e' : Env} {H' : Heap} (h : SRel cx e H ρ z pv w0 a w) (hr : runOps call cx ops ops.toList e H = some (e', H'))
    (hQ : ∀ ρ' z' a' w', Ext ρ ρ' z z' → SRel cx e' H' ρ' z' pv w0 a' w' → Q .normal a' w') : (Code.region id ops false).wp cx.P Q a w := by
  refine wp_region ?_
  have := runOps_ok hN hC (ops := ops) (Q := Q) ops.toList 0 e H ρ z a w e' H' (fun j => by simp) h hr hQ
  rw [List.range_eq_range']
  simpa using this
end
inductive AEx where
  | normal
  | exit (id : Nat)
  | ret
def resA (D : Tab) (e : Env) (H : Heap) : List ResultVar → Option (List AV)
  | [] => some []
  | .tmp t :: rs => match e.t.get t, resA D e H rs with
    | some x, some xs => some (x :: xs)
    | _, _ => none
  | .cell a t :: rs => match aLoad D H t (e.get a), resA D e H rs with
    | some x, some xs => some (x :: xs)
    | _, _ => none
def wrapR : List AV → AV
  | [x] => x
  | xs => .tuple xs
def argsT : Nat → List AV → T AV → T AV
  | _, [], t => t
  | i, x :: xs, t => argsT (i + 1) xs (t.set i x)
abbrev EvF := Code → Env → Heap → Option (AEx × Env × Heap)
/-- A call: answered elsewhere, or its body run. -/
def evCall (ev : EvF) (cx : Cx) : CallF := fun f args H =>
  match cx.sm f args H with
  | some r => some r
  | none => match cx.fn.get f with
    | some fn => match fn.body with
      | some c => match ev c ⟨max args.length fn.ntmps, argsT 0 args .nil⟩ H with
        | some (.normal, e, H') => match resA cx.D e H' fn.results.toList with
          | some xs => some (wrapR xs, H')
          | none => none
        | some (.ret, e, H') => match resA cx.D e H' fn.results.toList with
          | some xs => some (wrapR xs, H')
          | none => none
        | _ => none
      | none => none
    | none => none
/-- The run. 'draw': what a region that draws its order comes to. -/
def ev (draw : CallF → Cx → Array Oper → Env → Heap → Option (Env × Heap)) (cx : Cx) : Nat → EvF
  | 0 => fun _ _ _ => none
  | n + 1 => fun c e H =>
    match c with
    | .skip => some (.normal, e, H)
    | .region _ ops d => match (match d with
        | true => draw (evCall (ev draw cx n) cx) cx ops e H
        | false => runOps (evCall (ev draw cx n) cx) cx ops ops.toList e H) with
      | some (e', H') => some (.normal, e', H')
      | none => none
    | .seq x y => match ev draw cx n x e H with
      | some (.normal, e', H') => ev draw cx n y e' H'
      | r => r
    | .cond c x y => match evalO cx e c with
      | .bool true => ev draw cx n x e H
      | .bool false => ev draw cx n y e H
      | _ => none
    | .block id c => match ev draw cx n c e H with
      | some (.exit id', e', H') => cond (Nat.beq id' id) (some (.normal, e', H')) (some (.exit id', e', H'))
      | r => r
    | .loop c => match ev draw cx n c e H with
      | some (.normal, e', H') => ev draw cx n (.loop c) e' H'
      | r => r
    | .exit id => some (.exit id, e, H)
    | .ret => some (.ret, e, H)
    | _ => none
def AEx.real : AEx → Exit
  | .normal => .normal
  | .exit id => .exit id
  | .ret => .ret
/-- A post of the engine's. -/
def Post (cx : Cx) (ρ : Pl) (z : Fz) (pv : Pv) (w0 : World) (r : AEx × Env × Heap) (x : Exit) (a : Act) (w : World) : Prop :=
  x = r.1.real ∧ ∃ ρ' z', Ext ρ ρ' z z' ∧ SRel cx r.2.1 r.2.2 ρ' z' pv w0 a w
/-- What is asked of the function for regions that draw. -/
def DrawOk (draw : CallF → Cx → Array Oper → Env → Heap → Option (Env × Heap)) (P : Program) : Prop :=
  ∀ cx call id ops e H e' H' ρ z pv w0 a w, cx.P = P → CxOk cx → CallOk cx call → draw call cx ops e H = some (e', H') → SRel cx e H ρ z pv w0 a w →
    (Code.region id ops true).wp P (Post cx ρ z pv w0 (.normal, e', H')) a w
/-- What is answered elsewhere is answered rightly. -/
def SmOk (cx : Cx) : Prop := CallOk cx cx.sm
section
variable {cx : Cx} {draw : CallF → Cx → Array Oper → Env → Heap → Option (Env × Heap)}
theorem argsT_get : ∀ (xs : List AV) (i : Nat) (t : T AV) (j : Nat), (argsT i xs t).get j = if i ≤ j ∧ j < i + xs.length then xs[j - i]? else t.get j
  | [], i, t, j => by simp only [argsT, List.length_nil]; rw [if_neg (by omega)]
  | x :: xs, i, t, j => by
    simp only [argsT, argsT_get xs (i + 1), T.get_set, List.length_cons]
    by_cases h1 : i + 1 ≤ j ∧ j < i + 1 + xs.length
    · rw [if_pos h1, if_pos (by omega), show j - i = (j - (i + 1)) + 1 by omega, List.getElem?_cons_succ]
    · rw [if_neg h1]
      by_cases h2 : j = i
      · subst h2; rw [if_pos rfl, if_pos (by omega)]; simp
      · rw [if_neg h2, if_neg (by omega)]
theorem env_init {ρ : Pl} {z : Fz} {args : List AV} {vs : List Value} (n : Nat) (h : VRs ρ z args vs) :
    ERel ⟨max args.length n, argsT 0 args .nil⟩ ρ z { tmps := (⟨vs⟩ : Array Value) ++ Array.replicate (n - (⟨vs⟩ : Array Value).size) undef, defers := [] } := by
  have hl := h.length
  refine ⟨?_, rfl, fun i x hx => ?_⟩
  · simp [hl]; omega
  · rw [argsT_get] at hx
    split at hx
    · rename_i hi
      simp only [Nat.sub_zero] at hx
      obtain ⟨v, h1, h2⟩ := h.at_ hx
      have hlt : i < vs.length := (List.getElem?_eq_some_iff.1 h1).1
      refine ⟨v, ?_, h2⟩
      rw [Array.getElem?_append_left (by simpa using hlt)]
      simpa using h1
    · simp [T.get] at hx
theorem results_ok (P : Program) {D : Tab} [TabOk D P] {e : Env} {H : Heap} {ρ : Pl} {z : Fz} {w0 w : World} {pv : Pv} {a : Act} (h : Rel H ρ z pv w0 w) (he : ERel e ρ z a) : ∀ (rs : List ResultVar) (xs : List AV), resA D e H rs = some xs →
    ∃ vs, (rs.mapM (fun
      | .tmp t => pure (a.tmps.getD t undef)
      | .cell ad t => do loadVar t (← asAddr (a.tmps.getD ad undef)) : ResultVar → Sem Value)).run P w = .ok vs w ∧ VRs ρ z xs vs
  | [], xs, hr => by simp [resA] at hr; subst hr; exact ⟨[], rfl, .nil⟩
  | .tmp t :: rs, xs, hr => by
    simp only [resA] at hr
    split at hr
    · rename_i x ys h1 h2
      cases hr
      obtain ⟨v, g1, g2⟩ := he.get t x h1
      obtain ⟨vs, g3, g4⟩ := results_ok P h he rs ys h2
      refine ⟨v :: vs, ?_, .cons _ _ _ _ g2 g4⟩
      simp only [List.mapM_cons, Sem.run_bind, Sem.run_pure, Result.andThen]
      rw [g3]
      simp [g1]
    · cases hr
  | .cell ad t :: rs, xs, hr => by
    simp only [resA] at hr
    split at hr
    · rename_i x ys h1 h2
      cases hr
      obtain ⟨vs, g3, g4⟩ := results_ok P h he rs ys h2
      have hv : VR ρ z (e.get ad) (a.tmps.getD ad undef) := by
        have := evalO_ok (cx := ⟨P, D, .nil, fun _ _ _ => none, fun _ => none, fun _ _ _ => none, fun _ _ _ _ => false⟩) (fun _ _ k => by cases k) he (.tmp ad)
        exact this
      obtain ⟨u, k1, k2⟩ := aLoad_ok (P := P) h hv h1
      refine ⟨u :: vs, ?_, .cons _ _ _ _ k2 g4⟩
      have hld : (do loadVar t (← asAddr (a.tmps.getD ad undef)) : Sem Value).run P w = .ok u w := by
        generalize a.tmps.getD ad undef = q at hv k1 ⊢
        unfold Instr.loadAt Instr.sureAddr at k1
        cases q with
        | pointer p => cases p with
          | none => simp at k1
          | some ad' => simpa [asAddr] using k1
        | _ => simp at k1
      simp only [Sem.run_bind, Result.andThen] at hld
      simp only [List.mapM_cons, Sem.run_bind, Result.andThen, hld, g3, Sem.run_pure]
    · cases hr
theorem results_run {P : Program} {D : Tab} [TabOk D P] {e : Env} {H : Heap} {ρ : Pl} {z : Fz} {w0 w : World} {pv : Pv} {a : Act} {fn : Func} {xs : List AV} (h : Rel H ρ z pv w0 w) (he : ERel e ρ z a) (hr : resA D e H fn.results.toList = some xs) :
    ∃ u, (results fn a.tmps).run P w = .ok u w ∧ VR ρ z (wrapR xs) u := by
  obtain ⟨vs, h1, h2⟩ := results_ok P h he _ xs hr
  have hm : (fn.results.mapM (fun
      | .tmp t => pure (a.tmps.getD t undef)
      | .cell ad t => do loadVar t (← asAddr (a.tmps.getD ad undef)) : ResultVar → Sem Value)).run P w = .ok ⟨vs⟩ w := by
    rw [Array.mapM_eq_mapM_toList, Sem.run_map, h1]
    rfl
  have hrun : (results fn a.tmps).run P w = .ok (if h : (⟨vs⟩ : Array Value).size = 1 then (⟨vs⟩ : Array Value)[0] else .tuple ⟨vs⟩) w := by
    have hu : results fn a.tmps = (do
      let vs ← fn.results.mapM (fun
        | .tmp t => pure (a.tmps.getD t undef)
        | .cell ad t => do loadVar t (← asAddr (a.tmps.getD ad undef)) : ResultVar → Sem Value)
      pure (if h : vs.size = 1 then vs[0] else .tuple vs)) := rfl
    rw [hu, Sem.run_bind, hm]
    rfl
  refine ⟨_, hrun, ?_⟩
  cases h2 with
  | nil => exact .tuple _ _ .nil
  | cons x v xs vs hx hs =>
    cases hs with
    | nil => exact hx
    | cons y u ys us hy hs => exact .tuple _ _ (.cons _ _ _ _ hx (.cons _ _ _ _ hy hs))
/-- From the head of a round on. -/
def LoopWp (P : Program) (c : Code) (Q : Exit → Act → World → Prop) (a : Act) (w : World) : Prop :=
  ∀ (b : Frame) (k : List Item) (cs : List Frame), ∃ e a' w', Q e a' w' ∧ Arrives P (lone (b.at a (.code c :: .inLoop c :: k)) cs w) b k cs e a' w'
theorem LoopWp.wp {P : Program} {c : Code} {Q : Exit → Act → World → Prop} {a : Act} {w : World} (h : LoopWp P c Q a w) : (Code.loop c).wp P Q a w := fun b k cs =>
  let ⟨e, a', w', hq, harr⟩ := h b k cs
  ⟨e, a', w', hq, .of_steps (.one step_loop) harr⟩
theorem LoopWp.round {P : Program} {c : Code} {Q : Exit → Act → World → Prop} {a : Act} {w : World} (h : c.wp P (Exit.then (LoopWp P c Q) Q) a w) : LoopWp P c Q a w := fun b k cs => by
  obtain ⟨e, a₁, w₁, hq, harr⟩ := h b (.inLoop c :: k) cs
  cases e with
  | normal =>
    obtain ⟨e₂, a₂, w₂, hq₂, harr₂⟩ := hq b k cs
    exact ⟨e₂, a₂, w₂, hq₂, .of_steps (Steps.trans harr (.one step_inLoop)) harr₂⟩
  | exit id => exact ⟨_, a₁, w₁, hq, .pass (x := .inLoop c) rfl (fun _ _ => .inl (by simp)) harr⟩
  | goto l => exact ⟨_, a₁, w₁, hq, .pass (x := .inLoop c) rfl (fun _ _ => .inl (by simp)) harr⟩
  | ret => exact ⟨_, a₁, w₁, hq, .pass (x := .inLoop c) rfl (fun _ _ => .inl (by simp)) harr⟩
  | panic ch => exact ⟨_, a₁, w₁, hq, .pass (x := .inLoop c) rfl (fun _ _ => .inl (by simp)) harr⟩
  | outgrown => exact ⟨_, a₁, w₁, hq, .pass (x := .inLoop c) rfl (fun _ _ => .inl (by simp)) harr⟩
/-- A code's run is sound. -/
def EvOk (cx : Cx) (f : EvF) : Prop :=
  ∀ c e H r, f c e H = some r → ∀ ρ z pv w0 a w, SRel cx e H ρ z pv w0 a w → c.wp cx.P (Post cx ρ z pv w0 r) a w ∧ ∀ c', c = .loop c' → LoopWp cx.P c' (Post cx ρ z pv w0 r) a w
theorem Post.more {ρ ρ' : Pl} {z z' : Fz} {pv : Pv} {w0 : World} {r : AEx × Env × Heap} {x : Exit} {a : Act} {w : World} (hx : Ext ρ ρ' z z') (h : Post cx ρ' z' pv w0 r x a w) : Post cx ρ z pv w0 r x a w := by
  obtain ⟨h1, ρ2, z2, h2, h3⟩ := h
  exact ⟨h1, ρ2, z2, hx.trans h2, h3⟩
theorem evCall_ok (hN : CxOk cx) (hS : SmOk cx) {f : EvF} (hf : EvOk cx f) : CallOk cx (evCall f cx) := by
  haveI := hN.tab
  intro g args H x H' hc ρ z pv w0 w vs hR hG hV
  unfold evCall at hc
  split at hc
  · rename_i y hy
    cases hc
    exact hS g args H x H' hy ρ z pv w0 w vs hR hG hV
  · split at hc
    · rename_i fn hfn
      split at hc
      · rename_i c hbody
        have hE := env_init fn.ntmps hV
        have fin : ∀ (ex : AEx) (e : Env) (H2 : Heap) (xs : List AV), (ex = .normal ∨ ex = .ret) → f c ⟨max args.length fn.ntmps, argsT 0 args .nil⟩ H = some (ex, e, H2) → resA cx.D e H2 fn.results.toList = some xs →
            Calls cx.P g ⟨vs⟩ w fun e w' => ∃ u ρ' z', e = .returned u ∧ Rel H2 ρ' z' pv w0 w' ∧ Ext ρ ρ' z z' ∧ VR ρ' z' (wrapR xs) u := fun ex e H2 xs hex hrun hres => by
          refine calls_of_wp (hN.fn _ _ hfn).1 hbody (wp_mono (hf c _ H _ hrun ρ z pv w0 _ w ⟨hR, hE, hG⟩).1 fun x' a' w' hp => ?_)
          obtain ⟨hx, ρ', z', h1, h2⟩ := hp
          obtain ⟨u, k1, k2⟩ := results_run (P := cx.P) h2.rel h2.env hres
          rcases hex with rfl | rfl
          · subst hx
            exact ⟨h2.env.defers, u, k1, u, ρ', z', rfl, h2.rel, h1, k2⟩
          · subst hx
            exact ⟨h2.env.defers, u, k1, u, ρ', z', rfl, h2.rel, h1, k2⟩
        split at hc
        · rename_i e H2 hrun
          split at hc
          · rename_i xs hres
            cases hc
            exact fin _ _ _ _ (.inl rfl) hrun hres
          · cases hc
        · rename_i e H2 hrun
          split at hc
          · rename_i xs hres
            cases hc
            exact fin _ _ _ _ (.inr rfl) hrun hres
          · cases hc
        · cases hc
      · cases hc
    · cases hc
/-- THE ENGINE IS SOUND. -/
theorem ev_ok (hN : CxOk cx) (hS : SmOk cx) (hD : DrawOk draw cx.P) : ∀ n, EvOk cx (ev draw cx n) := by
  intro n
  induction n with
  | zero => intro c e H r h; simp [ev] at h
  | succ n ih =>
    have hC := evCall_ok hN hS ih
    intro c e H r hr ρ z pv w0 a w hR
    have here : ∀ (x : AEx), Post cx ρ z pv w0 (x, e, H) x.real a w := fun x => ⟨rfl, ρ, z, Ext.refl _ _, hR⟩
    have noLoop : (∀ c', c ≠ .loop c') → c.wp cx.P (Post cx ρ z pv w0 r) a w → c.wp cx.P (Post cx ρ z pv w0 r) a w ∧ ∀ c', c = .loop c' → LoopWp cx.P c' (Post cx ρ z pv w0 r) a w :=
      fun h1 h2 => ⟨h2, fun c' hc => absurd hc (h1 c')⟩
    cases c with
    | skip => simp only [ev, Option.some.injEq] at hr; subst hr; exact noLoop (fun _ => by simp) (wp_skip (here .normal))
    | exit id => simp only [ev, Option.some.injEq] at hr; subst hr; exact noLoop (fun _ => by simp) (wp_exit (here (.exit id)))
    | ret => simp only [ev, Option.some.injEq] at hr; subst hr; exact noLoop (fun _ => by simp) (wp_ret (here .ret))
    | region id ops d =>
      refine noLoop (fun _ => by simp) ?_
      simp only [ev] at hr
      cases d with
      | true =>
        simp only at hr
        split at hr
        · rename_i e' H' hd
          cases hr
          exact hD cx _ id ops e H e' H' ρ z pv w0 a w rfl hN hC hd hR
        · cases hr
      | false =>
        simp only at hr
        split at hr
        · rename_i e' H' hd
          cases hr
          exact region_ok hN hC hR hd fun ρ' z' a' w' hx hS' => ⟨rfl, ρ', z', hx, hS'⟩
        · cases hr
    | seq x y =>
      refine noLoop (fun _ => by simp) (wp_seq ?_)
      simp only [ev] at hr
      split at hr
      · rename_i e1 H1 hx
        refine wp_mono (ih x e H _ hx ρ z pv w0 a w hR).1 fun x' a' w' hp => ?_
        obtain ⟨h0, ρ', z', h1, h2⟩ := hp
        subst h0
        exact wp_mono (ih y e1 H1 _ hr ρ' z' pv w0 a' w' h2).1 fun _ _ _ hq => hq.more h1
      · rename_i hne
        refine wp_mono (ih x e H _ hr ρ z pv w0 a w hR).1 fun x' a' w' hp => ?_
        obtain ⟨ex, e1, H1⟩ := r
        obtain ⟨h0, h1⟩ := hp
        cases ex with
        | normal => exact absurd hr (hne e1 H1)
        | exit id => subst h0; exact ⟨rfl, h1⟩
        | ret => subst h0; exact ⟨rfl, h1⟩
    | cond o x y =>
      refine noLoop (fun _ => by simp) ?_
      simp only [ev] at hr
      have ho := evalO_ok hR.gl hR.env o
      split at hr
      · rename_i hb
        rw [hb] at ho
        generalize hv : a.eval o = v at ho
        cases ho
        exact wp_cond_true hv (ih x e H r hr ρ z pv w0 a w hR).1
      · rename_i hb
        rw [hb] at ho
        generalize hv : a.eval o = v at ho
        cases ho
        exact wp_cond_false hv (ih y e H r hr ρ z pv w0 a w hR).1
      · cases hr
    | block id c =>
      refine noLoop (fun _ => by simp) (wp_block ?_)
      simp only [ev] at hr
      split at hr
      · rename_i id' e1 H1 hx
        refine wp_mono (ih c e H _ hx ρ z pv w0 a w hR).1 fun x' a' w' hp => ?_
        obtain ⟨h0, h1⟩ := hp
        subst h0
        simp only [AEx.real, Exit.inBlock]
        cases hid : Nat.beq id' id with
        | true =>
          rw [hid] at hr
          cases hr
          rw [if_pos (Nat.eq_of_beq_eq_true hid)]
          exact ⟨rfl, h1⟩
        | false =>
          rw [hid] at hr
          cases hr
          have hne : id' ≠ id := fun e => by subst e; rw [Nat.beq_refl] at hid; cases hid
          rw [if_neg hne]
          exact ⟨rfl, h1⟩
      · rename_i hne
        refine wp_mono (ih c e H _ hr ρ z pv w0 a w hR).1 fun x' a' w' hp => ?_
        obtain ⟨ex, e1, H1⟩ := r
        obtain ⟨h0, h1⟩ := hp
        cases ex with
        | exit id' => exact absurd hr (hne id' e1 H1)
        | normal => subst h0; exact ⟨rfl, h1⟩
        | ret => subst h0; exact ⟨rfl, h1⟩
    | loop c =>
      have key : LoopWp cx.P c (Post cx ρ z pv w0 r) a w := by
        refine LoopWp.round ?_
        simp only [ev] at hr
        split at hr
        · rename_i e1 H1 hx
          refine wp_mono (ih c e H _ hx ρ z pv w0 a w hR).1 fun x' a' w' hp => ?_
          obtain ⟨h0, ρ', z', h1, h2⟩ := hp
          subst h0
          have := (ih (.loop c) e1 H1 r hr ρ' z' pv w0 a' w' h2).2 c rfl
          exact fun b k cs => let ⟨e, a2, w2, q1, q2⟩ := this b k cs; ⟨e, a2, w2, q1.more h1, q2⟩
        · rename_i hne
          refine wp_mono (ih c e H _ hr ρ z pv w0 a w hR).1 fun x' a' w' hp => ?_
          obtain ⟨ex, e1, H1⟩ := r
          obtain ⟨h0, h1⟩ := hp
          cases ex with
          | normal => exact absurd hr (hne e1 H1)
          | exit id => subst h0; exact ⟨rfl, h1⟩
          | ret => subst h0; exact ⟨rfl, h1⟩
      exact ⟨key.wp, fun c' hc => by cases hc; exact key⟩
    | rangeFunc f p x y => simp [ev] at hr
    | scope c => simp [ev] at hr
    | label l => simp [ev] at hr
    | goto l => simp [ev] at hr
    | refuse s => simp [ev] at hr
end
/-- Of every entry of a table. -/
def TAll {α : Type} (Q : Nat → α → Prop) : (Nat → Nat) → T α → Prop
  | _, .nil => True
  | f, .node l r v => (match v with | some x => Q (f 0) x | none => True) ∧ TAll Q (fun j => f (2 * j + 1)) l ∧ TAll Q (fun j => f (2 * j + 2)) r
theorem TAll.get {α : Type} {Q : Nat → α → Prop} : ∀ {t : T α} {f : Nat → Nat}, TAll Q f t → ∀ (k : Nat) (x : α), t.get k = some x → Q (f k) x
  | .nil, _, _, _, _, h => by simp [T.get] at h
  | .node l r v, f, h, k, x, hk => by
    obtain ⟨h1, h2, h3⟩ := h
    cases k with
    | zero =>
      simp only [T.get] at hk
      subst hk
      exact h1
    | succ k =>
      simp only [T.get, T.cond_beq] at hk
      split at hk
      · have := TAll.get h2 (k / 2) x hk
        have e : 2 * (k / 2) + 1 = k + 1 := by omega
        rw [e] at this
        exact this
      · have := TAll.get h3 (k / 2) x hk
        have e : 2 * (k / 2) + 2 = k + 1 := by omega
        rw [e] at this
        exact this
end Go.Eng
end
section
namespace Go.Eng
open Go.RowKit
mutual
def AV.same : AV → AV → Bool
  | .undef, .undef => true
  | .bool a, .bool b => cond a b (!b)
  | .int k a, .int k' b => decide (k = k') && decide (a = b)
  | .str a, .str b => decide (a = b)
  | .nilp, .nilp => true
  | .ptr a b, .ptr c d => Nat.beq a c && Nat.beq b d
  | .iptr a b, .iptr c d => AV.sames a c && Nat.beq b d
  | .nilsl, .nilsl => true
  | .esl, .esl => true
  | .slice a b c d e f, .slice a' b' c' d' e' f' => decide (a = a' ∧ b = b' ∧ c = c' ∧ d = d' ∧ e = e' ∧ f = f')
  | .isl a b, .isl c d => AV.sames a c && Nat.beq b d
  | .nilmap, .nilmap => true
  | .map a, .map b => Nat.beq a b
  | .nilfunc, .nilfunc => true
  | .func (.func f) a b, .func (.func g) c d => Nat.beq f g && (AV.sames a c && AV.sames b d)
  | .niliface, .niliface => true
  | .iface t x, .iface u y => Nat.beq t u && AV.same x y
  | .agg a, .agg b => AV.sames a b
  | .tuple a, .tuple b => AV.sames a b
  | .num a, .num b => Nat.beq a b
  | .frac a, .frac b => decide (a = b)
  | _, _ => false
  termination_by structural x => x
def AV.sames : List AV → List AV → Bool
  | [], [] => true
  | x :: xs, y :: ys => AV.same x y && AV.sames xs ys
  | _, _ => false
  termination_by structural x => x
end
mutual
theorem AV.same_eq : ∀ {x y : AV}, AV.same x y = true → x = y
  | .undef, y, h => by cases y <;> simp_all [AV.same]
  | .bool a, y, h => by cases y <;> cases a <;> simp_all [AV.same]
  | .int k a, y, h => by cases y <;> simp_all [AV.same]
  | .str a, y, h => by cases y <;> simp_all [AV.same]
  | .nilp, y, h => by cases y <;> simp_all [AV.same]
  | .ptr a b, y, h => by cases y <;> simp_all [AV.same]
  | .iptr a b, y, h => by
    cases y <;> simp [AV.same] at h
    rename_i c d
    rw [AV.sames_eq h.1, h.2]
  | .nilsl, y, h => by cases y <;> simp_all [AV.same]
  | .esl, y, h => by cases y <;> simp_all [AV.same]
  | .slice .., y, h => by cases y <;> simp_all [AV.same]
  | .isl a b, y, h => by
    cases y <;> simp [AV.same] at h
    rename_i c d
    rw [AV.sames_eq h.1, h.2]
  | .nilmap, y, h => by cases y <;> simp_all [AV.same]
  | .map a, y, h => by cases y <;> simp_all [AV.same]
  | .iter a, y, h => by cases y <;> simp_all [AV.same]
  | .nilfunc, y, h => by cases y <;> simp_all [AV.same]
  | .func (.func f) a b, .func (.func g) c d, h => by
    simp [AV.same] at h
    rw [h.1, AV.sames_eq h.2.1, AV.sames_eq h.2.2]
  | .func (.func f) a b, .func (.method g) c d, h => by simp [AV.same] at h
  | .func (.func f) a b, .func (.methodOf g g') c d, h => by simp [AV.same] at h
  | .func (.func f) a b, .undef, h | .func (.func f) a b, .bool _, h | .func (.func f) a b, .int _ _, h | .func (.func f) a b, .str _, h | .func (.func f) a b, .nilp, h | .func (.func f) a b, .ptr _ _, h | .func (.func f) a b, .iptr _ _, h | .func (.func f) a b, .nilsl, h | .func (.func f) a b, .esl, h | .func (.func f) a b, .slice .., h | .func (.func f) a b, .isl _ _, h | .func (.func f) a b, .nilmap, h | .func (.func f) a b, .map _, h | .func (.func f) a b, .iter _, h | .func (.func f) a b, .nilfunc, h | .func (.func f) a b, .niliface, h | .func (.func f) a b, .iface _ _, h | .func (.func f) a b, .agg _, h | .func (.func f) a b, .tuple _, h | .func (.func f) a b, .num _, h | .func (.func f) a b, .frac _, h => by simp [AV.same] at h
  | .func (.method f) a b, y, h => by cases y <;> simp_all [AV.same]
  | .func (.methodOf f g) a b, y, h => by cases y <;> simp_all [AV.same]
  | .niliface, y, h => by cases y <;> simp_all [AV.same]
  | .iface t x, y, h => by
    cases y <;> simp [AV.same] at h
    rename_i c d
    rw [AV.same_eq h.2, h.1]
  | .agg a, y, h => by
    cases y <;> simp [AV.same] at h
    rw [AV.sames_eq h]
  | .tuple a, y, h => by
    cases y <;> simp [AV.same] at h
    rw [AV.sames_eq h]
  | .num a, y, h => by cases y <;> simp_all [AV.same]
  | .frac a, y, h => by cases y <;> simp_all [AV.same]
theorem AV.sames_eq : ∀ {x y : List AV}, AV.sames x y = true → x = y
  | [], y, h => by cases y <;> simp_all [AV.sames]
  | x :: xs, y, h => by
    cases y <;> simp [AV.sames] at h
    rw [AV.same_eq h.1, AV.sames_eq h.2]
end
/-- What a call answers. -/
def Ans (cx : Cx) (f : FuncId) (args : List AV) (H : Heap) (Q : AV → Heap → Prop) : Prop :=
  ∀ ρ z pv w0 w vs, Rel H ρ z pv w0 w → GlOk ρ z cx.gl → VRs ρ z args vs →
    Calls cx.P f ⟨vs⟩ w fun en w' => ∃ u ρ' z' x H', en = .returned u ∧ Rel H' ρ' z' pv w0 w' ∧ Ext ρ ρ' z z' ∧ VR ρ' z' x u ∧ Q x H'
/-- What an operation comes to, its call done. -/
def SL (cx : Cx) (e : Env) (H : Heap) (o : Oper) (x : AV) (H' : Heap) : Prop := match aop cx e H o with
  | some (.val y K) => y = x ∧ K = H'
  | some (.skip K) => x = .tuple [] ∧ K = H'
  | some (.enter f args) => Ans cx f args H fun y K => y = x ∧ K = H'
  | none => False
theorem SL_of {cx : Cx} {call : CallF} (hC : CallOk cx call) {e : Env} {H H' : Heap} {o : Oper} {x : AV} (h : step1 call cx e H o = some (x, H')) : SL cx e H o x H' := by
  unfold step1 at h
  unfold SL
  split at h
  · rename_i ha; (try rw [ha]); cases h; exact ⟨rfl, rfl⟩
  · rename_i ha; (try rw [ha]); cases h; exact ⟨rfl, rfl⟩
  · rename_i f args ha
    try rw [ha]
    exact fun ρ z pv w0 w vs hR hG hV => (hC f args H x H' h ρ z pv w0 w vs hR hG hV).mono fun en w' hp => by
      obtain ⟨u, ρ', z', h1, h2, h3, h4⟩ := hp
      exact ⟨u, ρ', z', x, H', h1, h2, h3, h4, rfl, rfl⟩
  · cases h
def onlyT (e : Env) : List Tmp → T AV → T AV
  | [], t => t
  | k :: ks, t => match e.t.get k with
    | some x => onlyT e ks (t.set k x)
    | none => onlyT e ks t
def Env.look (e : Env) (ks : List Tmp) : Env := ⟨e.sz, onlyT e ks .nil⟩
theorem onlyT_get (e : Env) : ∀ (ks : List Tmp) (t : T AV) (j : Nat) (y : AV), (onlyT e ks t).get j = some y → t.get j = some y ∨ (j ∈ ks ∧ e.t.get j = some y)
  | [], t, j, y, h => .inl h
  | k :: ks, t, j, y, h => by
    simp only [onlyT] at h
    split at h
    · rename_i x hx
      rcases onlyT_get e ks _ j y h with h1 | h1
      · rw [T.get_set] at h1
        by_cases hj : j = k
        · rw [if_pos hj] at h1; cases h1; subst hj; exact .inr ⟨List.mem_cons_self, hx⟩
        · rw [if_neg hj] at h1; exact .inl h1
      · exact .inr ⟨List.mem_cons_of_mem _ h1.1, h1.2⟩
    · rcases onlyT_get e ks _ j y h with h1 | h1
      · exact .inl h1
      · exact .inr ⟨List.mem_cons_of_mem _ h1.1, h1.2⟩
theorem Env.look_get {e : Env} {ks : List Tmp} {j : Nat} {y : AV} (h : (e.look ks).t.get j = some y) : j ∈ ks ∧ e.t.get j = some y := by
  rcases onlyT_get e ks .nil j y h with h1 | h1
  · simp [T.get] at h1
  · exact h1
def isF : Op → Bool
  | .alloc _ | .buildSlice .. | .makeSlice .. => true
  | _ => false
def isQ : Op → Bool
  | .move _ | .assign _ | .pick .. | .build .. | .load .. | .nilCheck _ | .binOp .. | .unOp .. | .makeInterface .. | .makeFunc .. | .slice .. | .fieldAddr .. | .field .. | .indexAddr .. | .index .. | .lookup .. | .extract .. | .convert .. => true
  | .call c => match c.callee with
    | .builtin .len | .builtin .cap | .builtin .max | .builtin .min => true
    | _ => false
  | _ => false
def onlyVal : Option Res → Option AV
  | some (.val x _) => some x
  | _ => none
/-- A quiet operation's value. -/
def aq (cx : Cx) (e : Env) (H : Heap) (o : Oper) : Option AV := match o.op with
  | .convert s d x => aConv cx.D cx.P H s d (evalO cx e x)
  | _ => onlyVal (aop cx e H o)
/-- What a new place holds, and the value that speaks of it. -/
def newCells (id : Nat) : Option (AV × Heap) → Option (AV × List AV)
  | some (x, H) => match H.t.get id with
    | some (.cells cs) => some (x, cs)
    | _ => none
  | none => none
def aFl (cx : Cx) (e : Env) (o : Oper) (id : Nat) : Option (AV × List AV) := match o.op with
  | .alloc t => newCells id (aAlloc cx.D ⟨.nil, id, .nil⟩ t)
  | .buildSlice t n ps => newCells id (aBuildSlice cx.D ⟨.nil, id, .nil⟩ t n (evalPs cx e ps.toList))
  | .makeSlice t l c => newCells id (aMakeSlice cx.D ⟨.nil, id, .nil⟩ t (evalO cx e l) (evalO cx e c))
  | _ => none
structure QE where
  i : Nat
  b : Nat
  o : Oper
  e : Env
  x : AV
structure FE where
  i : Nat
  id : Nat
  cs : List AV
structure RE where
  i : Nat
  d : Option Tmp
  ts : List Tmp
structure HE where
  i : Nat
  H : Heap
  ld : Nat
structure DS where
  i : Nat
  e : Env
  H : Heap
  lm : Nat
  id : Nat
  al : List FE
  ld : Nat
  hs : List HE
  qs : List QE
  bs : T Nat
  rs : List RE
def bit (m n : Nat) : Bool := Nat.beq (Nat.land (Nat.shiftRight m n) 1) 1
theorem bit_eq (m n : Nat) : bit m n = m.testBit n := by
  have e : bit m n = Nat.beq ((m >>> n) &&& 1) 1 := rfl
  rw [e, Nat.testBit, Nat.and_comm]
  have := Nat.one_and_eq_mod_two (m >>> n)
  rcases Nat.mod_two_eq_zero_or_one (m >>> n) with h | h <;> simp [this, h] <;> rfl
def tOf : Operand → List Tmp → List Tmp
  | .tmp t, l => t :: l
  | _, l => l
def tOfs : List Operand → List Tmp
  | [] => []
  | x :: xs => tOf x (tOfs xs)
def tOfo : Option Operand → List Tmp → List Tmp
  | some x, l => tOf x l
  | none, l => l
def tOfp : List (Nat × Operand) → List Tmp
  | [] => []
  | (_, x) :: xs => tOf x (tOfp xs)
/-- The temporaries that an operation reads. -/
def readsOp : Op → List Tmp
  | .move x | .assign x | .load _ x | .nilCheck x | .unOp _ _ x | .convert _ _ x | .makeInterface _ x | .fieldAddr _ x _ | .field _ x _ | .range _ x | .next x _ | .extract x _ | .box _ x => tOf x []
  | .pick a b c => tOf a (tOf b (tOf c []))
  | .store _ a v | .binOp _ _ a v _ | .makeSlice _ a v | .indexAddr _ a v | .index _ a v | .lookup _ a v _ | .mapEntry _ a v => tOf a (tOf v [])
  | .build _ ps | .buildSlice _ _ ps => tOfp ps.toList
  | .makeFunc _ a b => tOfs a.toList ++ tOfs b.toList
  | .slice _ x l h m => tOf x (tOfo l (tOfo h (tOfo m [])))
  | .mapUpdate _ m k v | .entryStore _ m k v | .insert _ m k v => tOf m (tOf k (tOf v []))
  | .call c => match c.callee with
    | .value f => tOf f (tOfs c.args.toList)
    | _ => tOfs c.args.toList
  | _ => []
def reads (ops : Array Oper) (o : Oper) : List Tmp := match o.guard with
  | none => readsOp o.op
  | some (j, _) => match (ops[j]?).bind (·.dst) with
    | some d => d :: readsOp o.op
    | none => readsOp o.op
/-- What must stand before, as a set of places. -/
def bmask (bs : T Nat) (i : Nat) : List Edge → Nat → Option Nat
  | [], m => some m
  | e :: es, m => cond (Region.binds .any e)
      (cond (Nat.blt e.on i) (match bs.get e.on with
        | some b => bmask bs i es (Nat.lor (Nat.lor m b) (Nat.shiftLeft 1 e.on))
        | none => none) none)
      (bmask bs i es m)
def off : Option Tmp → List Tmp → Bool
  | none, _ => true
  | some _, [] => true
  | some d, t :: ts => !(Nat.beq t d) && off (some d) ts
def apartD : Option Tmp → Option Tmp → Bool
  | some a, some b => !(Nat.beq a b)
  | _, _ => true
def clash (b : Nat) (d : Option Tmp) (ts : List Tmp) : List RE → Bool
  | [] => true
  | r :: rs => ((bit b r.i || (off r.d ts && off d r.ts)) && apartD r.d d) && clash b d ts rs
def landL : List FE → Heap → Heap
  | [], H => H
  | f :: fs, H => landL fs (H.put f.id (.cells f.cs))
/-- The places of its own that must stand before and have not landed yet. -/
def sel (b ld : Nat) (al : List FE) : List FE := al.filter fun f => bit b f.i && !(bit ld f.i)
def rest (ld : Nat) (al : List FE) : List FE := al.filter fun f => !(bit ld f.i)
def again (cx : Cx) (H : Heap) (o : Oper) (e : Env) (x : AV) : Bool := match aq cx e H o with
  | some y => AV.same x y
  | none => false
def chkH (cx : Cx) (b : Nat) (o : Oper) (e : Env) (x : AV) (al : List FE) : List HE → Bool
  | [] => true
  | h :: hs => (bit b h.i || again cx (landL (sel b h.ld al) h.H) o e x) && chkH cx b o e x al hs
def chkQ (cx : Cx) (b : Nat) (H : Heap) (ld : Nat) (al : List FE) : List QE → Bool
  | [] => true
  | q :: qs => (bit b q.i || again cx (landL (sel q.b ld al) H) q.o q.e q.x) && chkQ cx b H ld al qs
def putSkip (ops : Array Oper) (o : Oper) (s : DS) (b : Nat) : Option DS := match s.e.put o.dst (.tuple []) with
  | some e' => some ⟨s.i + 1, e', s.H, s.lm, s.id, s.al, s.ld, s.hs, s.qs, s.bs.set s.i b, ⟨s.i, o.dst, reads ops o⟩ :: s.rs⟩
  | none => none
def putF (cx : Cx) (ops : Array Oper) (o : Oper) (s : DS) (b : Nat) (er : Env) : Option DS := match aFl cx er o s.id with
  | some (x, cs) => match s.e.put o.dst x with
    | some e' => some ⟨s.i + 1, e', s.H, s.lm, s.id + 1, ⟨s.i, s.id, cs⟩ :: s.al, s.ld, s.hs, s.qs, s.bs.set s.i b, ⟨s.i, o.dst, reads ops o⟩ :: s.rs⟩
    | none => none
  | none => none
def putQ (cx : Cx) (ops : Array Oper) (o : Oper) (s : DS) (b : Nat) (er : Env) : Option DS := match aq cx er (landL (sel b s.ld s.al) s.H) o with
  | some x => cond (chkH cx b o er x s.al s.hs) (match s.e.put o.dst x with
    | some e' => some ⟨s.i + 1, e', s.H, s.lm, s.id, s.al, s.ld, s.hs, ⟨s.i, b, o, er, x⟩ :: s.qs, s.bs.set s.i b, ⟨s.i, o.dst, reads ops o⟩ :: s.rs⟩
    | none => none) none
  | none => none
def putL (call : CallF) (cx : Cx) (ops : Array Oper) (o : Oper) (s : DS) (b : Nat) (er : Env) : Option DS :=
  cond (Nat.beq (Nat.land s.lm b) s.lm) (match step1 call cx er (landL (sel b s.ld s.al) s.H) o with
    | some (x, H') => cond (chkQ cx b H' (Nat.lor s.ld b) s.al s.qs) (match s.e.put o.dst x with
      | some e' => some ⟨s.i + 1, e', H', Nat.lor s.lm (Nat.shiftLeft 1 s.i), s.id, s.al, Nat.lor s.ld b, ⟨s.i, s.H, s.ld⟩ :: s.hs, s.qs, s.bs.set s.i b, ⟨s.i, o.dst, reads ops o⟩ :: s.rs⟩
      | none => none) none
    | none => none) none
def stepD (call : CallF) (cx : Cx) (ops : Array Oper) (o : Oper) (s : DS) : Option DS :=
  match bmask s.bs s.i o.after.toList 0 with
  | none => none
  | some b => cond (clash b o.dst (reads ops o) s.rs)
    (match wantedA ops (s.e.look (reads ops o)) o with
      | none => none
      | some false => putSkip ops o s b
      | some true => cond (isF o.op) (putF cx ops o s b (s.e.look (reads ops o)))
          (cond (isQ o.op) (putQ cx ops o s b (s.e.look (reads ops o))) (putL call cx ops o s b (s.e.look (reads ops o))))) none
def runD (call : CallF) (cx : Cx) (ops : Array Oper) : List Oper → DS → Option DS
  | [], s => some s
  | o :: l, s => match stepD call cx ops o s with
    | some s' => runD call cx ops l s'
    | none => none
def drawA : CallF → Cx → Array Oper → Env → Heap → Option (Env × Heap) := fun call cx ops e H =>
  match runD call cx ops ops.toList ⟨0, e, ⟨H.t, H.nx + ops.size, H.e⟩, 0, H.nx, [], 0, [], [], .nil, []⟩ with
  | some s => some (s.e, landL (rest s.ld s.al) s.H)
  | none => none
end Go.Eng
end
