import Derived.Test.YtekfcbeballilaaGreatDoorEd
section
namespace Go.Eng
open Go.RowKit
mutual
/-- No place of the heap is spoken of. -/
def AV.free : AV → Bool
  | .ptr _ _ | .slice _ _ _ _ _ _ | .map _ | .iter _ => false
  | .iptr cs _ => AV.frees cs
  | .isl cs _ => AV.frees cs
  | .func _ a b => AV.frees a && AV.frees b
  | .iface _ x => AV.free x
  | .agg cs => AV.frees cs
  | .tuple cs => AV.frees cs
  | _ => true
  termination_by structural x => x
def AV.frees : List AV → Bool
  | [] => true
  | x :: xs => AV.free x && AV.frees xs
  termination_by structural x => x
end
theorem frees_u32 : ∀ l : List Nat, AV.frees (l.map u32) = true
  | [] => rfl
  | _ :: l => by simp [AV.frees, AV.free, u32, frees_u32 l]
section
variable {ρ ρ' : Pl} {z : Fz}
mutual
theorem VR.free : ∀ {x : AV} {v : Value}, VR ρ z x v → x.free = true → VR ρ' z x v
  | _, _, .undef v, _ => .undef v
  | _, _, .bool b, _ => .bool b
  | _, _, .int k n, _ => .int k n
  | _, _, .str s, _ => .str s
  | _, _, .nilp, _ => .nilp
  | _, _, .ptr id off b o n h, hf => by simp [AV.free] at hf
  | _, _, .iptr cells off b o vs h hz, hf => .iptr cells off b o vs (VRs.free h (by simpa [AV.free] using hf)) hz
  | _, _, .nilsl, _ => .nilsl
  | _, _, .esl A, _ => .esl A
  | _, _, .slice id off len cap ex es b o n rc A h h1 h2 h3 h5 h6, hf => by simp [AV.free] at hf
  | _, _, .isl0 A c, _ => .isl0 A c
  | _, _, .isl cells len b o c vs h hz hc, hf => .isl cells len b o c vs (VRs.free h (by simpa [AV.free] using hf)) hz hc
  | _, _, .nilmap, _ => .nilmap
  | _, _, .map id b o n h, hf => by simp [AV.free] at hf
  | _, _, .iter id b n h, hf => by simp [AV.free] at hf
  | _, _, .nilfunc, _ => .nilfunc
  | _, _, .func fn f c fs cs h1 h2, hf => by
    simp [AV.free] at hf
    exact .func fn f c fs cs (VRs.free h1 hf.1) (VRs.free h2 hf.2)
  | _, _, .niliface, _ => .niliface
  | _, _, .iface t x v h, hf => .iface t x v (VR.free h (by simpa [AV.free] using hf))
  | _, _, .agg cs vs h, hf => .agg cs vs (VRs.free h (by simpa [AV.free] using hf))
  | _, _, .tuple cs vs h, hf => .tuple cs vs (VRs.free h (by simpa [AV.free] using hf))
  | _, _, .num n v h, _ => .num n v (VR.free h (by simp [numTree, AV.free, AV.frees, frees_u32]))
  | _, _, .frac q v h, _ => .frac q v (VR.free h (by simp [fracTree, AV.free, AV.frees]))
theorem VRs.free : ∀ {xs : List AV} {vs : List Value}, VRs ρ z xs vs → AV.frees xs = true → VRs ρ' z xs vs
  | _, _, .nil, _ => .nil
  | _, _, .cons x v xs vs h hs, hf => by
    simp [AV.frees] at hf
    exact .cons x v xs vs (VR.free h hf.1) (VRs.free hs hf.2)
end
end
/-- The empty heap. -/
def H0 : Heap := ⟨.nil, 0, .nil⟩
section
variable {H H1 : Heap} {ρ ρ1 : Pl} {z z1 : Fz} {pv pv1 : Pv} {w0 w w1 : World}
/-- All blocks that the heap speaks of, and those that are kept. -/
noncomputable def Pv.all (H : Heap) (ρ : Pl) (pv : Pv) (w : World) : Pv :=
  ⟨fun b => open Classical in if (∃ id ob o n, H.t.get id = some ob ∧ ρ id = some (b, o, n)) ∨ (∃ x, pv b = some x) then w.heap[b]? else none, fun _ => False⟩
theorem Rel.empty (h : Rel H ρ z pv w0 w) : Rel H0 (fun _ => none) z (Pv.all H ρ pv w) w w := by
  refine ⟨Below.refl _ w, h.fz, fun id ob g => by simp [H0, T.get] at g, fun id id' ob ob' p p' g => by simp [H0, T.get] at g, fun _ _ => rfl, fun b x hb => ?_, fun id e k he => by simp [H0, T.get] at he, fun i hi => by cases hi⟩
  simp only [Pv.all] at hb
  split at hb
  · rename_i hc
    refine ⟨hb, fun o => ?_⟩
    rcases hc with ⟨id, ob, o', n, h1, h2⟩ | ⟨y, h1⟩
    · exact (h.holds h1 h2).2.2.1 o
    · exact (h.keep b y h1).2 o
  · cases hb
/-- Freeze whatever is new. -/
def frozeNew (z : Fz) (w0 w : World) : Fz := fun b o => match z b o with
  | some v => some v
  | none => if w0.heap.size ≤ b then w.cell? ⟨b, o, none⟩ else none
/-- Back to the caller's heap, the new blocks frozen. -/
theorem Rel.back (h : Rel H ρ z pv w0 w) (hE : ∀ b o v, z b o = some v → z1 b o = some v) (h1 : Rel H1 ρ1 z1 (Pv.all H ρ pv w) w w1) :
    Rel H ρ (frozeNew z1 w w1) pv w0 w1 ∧ Ext ρ ρ z (frozeNew z1 w w1) := by
  have hX : Ext ρ ρ z (frozeNew z1 w w1) := ⟨fun _ _ k => k, fun b o v k => by simp only [frozeNew, hE b o v k]⟩
  have blk : ∀ b, b < w.heap.size → w1.heap[b]? = w.heap[b]? := fun b hb => h1.below.block b hb
  have prot : ∀ {b x}, (Pv.all H ρ pv w) b = some x → ∀ o, frozeNew z1 w w1 b o = none := fun {b x} hb o => by
    have h2 := (h1.keep b x hb).2 o
    have hlt : b < w.heap.size := by
      simp only [Pv.all] at hb
      split at hb
      · exact (Array.getElem?_eq_some_iff.1 hb).1
      · cases hb
    simp only [frozeNew, h2]
    rw [if_neg (by omega)]
  have isall : ∀ {b}, b < w.heap.size → ((∃ id ob o n, H.t.get id = some ob ∧ ρ id = some (b, o, n)) ∨ (∃ x, pv b = some x)) → ∃ x, (Pv.all H ρ pv w) b = some x := fun {b} hb hc => by
    refine ⟨w.heap[b], ?_⟩
    simp only [Pv.all]
    rw [if_pos hc]
    simp [hb]
  refine ⟨⟨?_, fun b o v hz => ?_, fun id ob g => ?_, h.excl, h.fresh, fun b x hb => ?_, fun id e k he => ?_, h.res⟩, hX⟩
  · have := h.below.size
    exact h.below.trans ⟨h1.below.os, h1.below.tape, h1.below.output, by have := h1.below.size; omega, fun k hk => h1.below.block k (by omega)⟩
  · simp only [frozeNew] at hz
    split at hz
    · rename_i v' hv'
      cases hz
      exact h1.fz b o v hv'
    · split at hz
      · exact hz
      · cases hz
  · obtain ⟨b, o, n, k1, k2, k3, k4, k5⟩ := h.live id ob g
    have hlt := k3.lt
    obtain ⟨x, hx⟩ := isall hlt (.inl ⟨id, ob, o, n, g, k1⟩)
    exact ⟨b, o, n, k1, k2, k3.mono hX (blk b hlt), prot hx, k5⟩
  · obtain ⟨k1, k2⟩ := h.keep b x hb
    have hlt := (Array.getElem?_eq_some_iff.1 k1).1
    obtain ⟨y, hy⟩ := isall hlt (.inr ⟨x, hb⟩)
    exact ⟨(blk b hlt).trans k1, prot hy⟩
  · obtain ⟨b, n, real, fz, k1, k2, k3⟩ := h.ty id e k he
    have hlt := (Array.getElem?_eq_some_iff.1 k2).1
    exact ⟨b, n, real, fz, k1, (blk b hlt).trans k2, k3⟩
end
mutual
/-- 'frz n H x': x with the cells of the places that it speaks of in place of their names. -/
def frz (H : Heap) : Nat → AV → Option AV
  | 0, _ => none
  | n + 1, x => match x with
    | .ptr id off => match H.t.get id with
      | some (.cells cs) => match frzs H n cs with
        | some ys => some (.iptr ys off)
        | none => none
      | _ => none
    | .slice id off len _ _ es => match H.t.get id with
      | some (.cells cs) => match seg cs off (len * es) with
        | some l => match frzs H n l with
          | some ys => some (.isl ys len)
          | none => none
        | none => none
      | _ => none
    | .iptr cs off => cond (AV.frees cs) (some (.iptr cs off)) none
    | .isl cs len => cond (AV.frees cs) (some (.isl cs len)) none
    | .iface t y => match frz H n y with
      | some y' => some (.iface t y')
      | none => none
    | .agg cs => match frzs H n cs with
      | some ys => some (.agg ys)
      | none => none
    | .tuple cs => match frzs H n cs with
      | some ys => some (.tuple ys)
      | none => none
    | x => cond x.free (some x) none
  termination_by structural n => n
def frzs (H : Heap) : Nat → List AV → Option (List AV)
  | 0, _ => none
  | n + 1, xs => match xs with
    | [] => some []
    | x :: xs => match frz H n x, frzs H n xs with
      | some y, some ys => some (y :: ys)
      | _, _ => none
  termination_by structural n => n
end
section
variable {H1 : Heap} {ρ1 ρ2 : Pl} {z1 : Fz} {pv1 : Pv} {w w1 : World}
theorem Rel.cells_vs (h1 : Rel H1 ρ1 z1 pv1 w w1) {id b o n : Nat} {cs : List AV} (hg : H1.t.get id = some (.cells cs)) (hp : ρ1 id = some (b, o, n)) (off k : Nat) (hk : ((cs.drop off).take k).length = k ∨ off = 0 ∧ k = cs.length) :
    ∃ vs, VRs ρ1 z1 ((cs.drop off).take k) vs ∧ ∀ (i : Nat) (v : Value), vs[i]? = some v → frozeNew z1 w w1 b (o + off + i) = some v := by
  obtain ⟨hB, ⟨real, e, fz, h3, _, h4, h5⟩, h6, _⟩ := h1.holds hg hp
  have hlen : ((cs.drop off).take k).length = k := by
    rcases hk with hk | ⟨rfl, rfl⟩
    · exact hk
    · simp
  have hin : ∀ (i : Nat) (x : AV), ((cs.drop off).take k)[i]? = some x → ∃ v, real[o + off + i]? = some v ∧ VR ρ1 z1 x v := fun i x hx => by
    rw [List.getElem?_take] at hx
    split at hx
    · rw [List.getElem?_drop] at hx
      obtain ⟨v, hv, hr⟩ := h5 _ x hx
      exact ⟨v, by rw [Nat.add_assoc]; exact hv, hr⟩
    · cases hx
  have hsz : k = 0 ∨ o + off + k ≤ real.size := by
    rcases Nat.eq_zero_or_pos k with h0 | h0
    · exact .inl h0
    · obtain ⟨v, hv, _⟩ := hin (k - 1) _ (List.getElem?_eq_getElem (by omega))
      have := (Array.getElem?_eq_some_iff.1 hv).1
      exact .inr (by omega)
  refine ⟨(real.toList.drop (o + off)).take k, VRs.of_at ?_ fun i x v hx hv => ?_, fun i v hv => ?_⟩
  · rw [hlen]
    rcases hsz with h0 | h0
    · subst h0; simp
    · simp; omega
  · obtain ⟨v', hv', hr⟩ := hin i x hx
    rw [List.getElem?_take] at hv
    split at hv
    · rw [List.getElem?_drop] at hv
      simp only [Array.getElem?_toList] at hv
      rw [hv'] at hv
      cases hv
      exact hr
    · cases hv
  · rw [List.getElem?_take] at hv
    split at hv
    · rw [List.getElem?_drop] at hv
      simp only [Array.getElem?_toList] at hv
      simp only [frozeNew, h6]
      rw [if_pos hB]
      simp [World.cell?, h3, hv]
    · cases hv
theorem frz_ok (h1 : Rel H1 ρ1 z1 pv1 w w1) : ∀ n, (∀ x v y, frz H1 n x = some y → VR ρ1 z1 x v → VR ρ2 (frozeNew z1 w w1) y v) ∧ (∀ xs vs ys, frzs H1 n xs = some ys → VRs ρ1 z1 xs vs → VRs ρ2 (frozeNew z1 w w1) ys vs) := by
  have hX : Ext ρ2 ρ2 z1 (frozeNew z1 w w1) := ⟨fun _ _ k => k, fun b o v k => by simp only [frozeNew, k]⟩
  intro n
  induction n with
  | zero => exact ⟨fun x v y h => by simp [frz] at h, fun xs vs ys h => by simp [frzs] at h⟩
  | succ n ih =>
    obtain ⟨ih1, ih2⟩ := ih
    have fr : ∀ {x : AV} {v : Value} {y : AV}, cond x.free (some x) none = some y → VR ρ1 z1 x v → VR ρ2 (frozeNew z1 w w1) y v := fun {x v y} h hv => by
      cases hf : x.free with
      | false => rw [hf] at h; cases h
      | true =>
        rw [hf] at h
        cases h
        exact (hv.free hf).mono hX
    refine ⟨fun x v y h hv => ?_, fun xs vs ys h hv => ?_⟩
    · unfold frz at h
      split at h
      · rename_i id off
        split at h
        · rename_i cs hg
          split at h
          · rename_i ys hys
            cases h
            cases hv with | ptr _ _ b o nn hp =>
            obtain ⟨vs, k1, k2⟩ := h1.cells_vs hg hp 0 cs.length (.inr ⟨rfl, rfl⟩)
            simp only [List.drop_zero, List.take_length, Nat.add_zero] at k1 k2
            exact .iptr ys off b o vs (ih2 _ _ _ hys k1) k2
          · cases h
        · cases h
      · rename_i id off len cap ex es
        split at h
        · rename_i cs hg
          split at h
          · rename_i l hl
            split at h
            · rename_i ys hys
              cases h
              obtain ⟨hl1, hl2⟩ := seg_some hl
              cases hv with | slice _ _ _ _ _ _ b o nn rc A hp q1 q2 q3 q5 q6 =>
              rcases Nat.eq_zero_or_pos rc with h0 | h0
              · obtain rfl : len = 0 := by omega
                have hln : l = [] := List.eq_nil_of_length_eq_zero (by simpa using hl2)
                subst hln
                subst h0
                have : ys = [] := by
                  have := (ih2 _ _ _ hys .nil).length
                  exact List.eq_nil_of_length_eq_zero (by simpa using this.symm)
                subst this
                exact .isl0 _ _
              · have hA := q5 h0
                subst hA
                obtain ⟨vs, k1, k2⟩ := h1.cells_vs hg hp off (len * es) (.inl (by rw [← hl1]; exact hl2))
                rw [← hl1] at k1
                exact .isl ys len b (o + off) rc vs (ih2 _ _ _ hys k1) k2 (by omega)
            · cases h
          · cases h
        · cases h
      · rename_i cs off
        cases hf : AV.frees cs with
        | false => rw [hf] at h; cases h
        | true => rw [hf] at h; cases h; exact (hv.free (by simpa [AV.free] using hf)).mono hX
      · rename_i cs len
        cases hf : AV.frees cs with
        | false => rw [hf] at h; cases h
        | true => rw [hf] at h; cases h; exact (hv.free (by simpa [AV.free] using hf)).mono hX
      · rename_i t y'
        split at h
        · rename_i y2 hy
          cases h
          cases hv with | iface _ _ v hv => exact .iface _ _ _ (ih1 _ _ _ hy hv)
        · cases h
      · rename_i cs
        split at h
        · rename_i ys hys
          cases h
          cases hv with | agg _ vs hs => exact .agg _ _ (ih2 _ _ _ hys hs)
        · cases h
      · rename_i cs
        split at h
        · rename_i ys hys
          cases h
          cases hv with | tuple _ vs hs => exact .tuple _ _ (ih2 _ _ _ hys hs)
        · cases h
      · exact fr h hv
    · unfold frzs at h
      split at h
      · cases h; cases hv; exact .nil
      · rename_i x xs
        split at h
        · rename_i y ys hy hys
          cases h
          cases hv with | cons _ v _ vs hx hs => exact .cons _ _ _ _ (ih1 _ _ _ hy hx) (ih2 _ _ _ hys hs)
        · cases h
end
/-- A CALL IN THE EMPTY HEAP: what it answers there, made immutable, it answers everywhere. -/
theorem CallOk.closed {cx : Cx} {call : CallF} (hC : CallOk cx call) (hgl : ∀ g cells, cx.gl g = some cells → AV.frees cells = true) {f : FuncId} {args : List AV} {x y : AV} {H1 : Heap} {n : Nat} (hf : AV.frees args = true) (hc : call f args H0 = some (x, H1)) (hz : frz H1 n x = some y) :
    ∀ H ρ z pv w0 w vs, Rel H ρ z pv w0 w → GlOk ρ z cx.gl → VRs ρ z args vs → Calls cx.P f ⟨vs⟩ w fun e w' => ∃ u ρ' z', e = .returned u ∧ Rel H ρ' z' pv w0 w' ∧ Ext ρ ρ' z z' ∧ VR ρ' z' y u := by
  intro H ρ z pv w0 w vs hR hG hV
  have hE := hR.empty
  have hG0 : GlOk (fun _ => none) z cx.gl := fun g cells hg => by
    obtain ⟨us, h1, h2⟩ := hG g cells hg
    exact ⟨us, h1.free (hgl g cells hg), h2⟩
  refine (hC f args H0 x H1 hc _ z _ w w vs hE hG0 (hV.free hf)).mono fun e w' hq => ?_
  obtain ⟨u, ρ', z', rfl, q1, q2, q3⟩ := hq
  obtain ⟨k1, k2⟩ := hR.back q2.fz q1
  exact ⟨u, ρ, _, rfl, k1, k2, (frz_ok q1 n).1 _ _ _ hz q3⟩
end Go.Eng
end
section
namespace Go.Eng
open Go.RowKit
def WPost (cx : Cx) (ρ : Pl) (z : Fz) (pv : Pv) (w0 : World) (Q : AEx → Env → Heap → Prop) (x : Exit) (a : Act) (w : World) : Prop :=
  ∃ ax e H ρ' z', x = ax.real ∧ Ext ρ ρ' z z' ∧ SRel cx e H ρ' z' pv w0 a w ∧ Q ax e H
/-- From the state (e, H) on the code comes to Q. -/
def W (cx : Cx) (c : Code) (e : Env) (H : Heap) (Q : AEx → Env → Heap → Prop) : Prop :=
  ∀ ρ z pv w0 a w, SRel cx e H ρ z pv w0 a w → c.wp cx.P (WPost cx ρ z pv w0 Q) a w
/-- From the head of a round on. -/
def WLoop (cx : Cx) (c : Code) (e : Env) (H : Heap) (Q : AEx → Env → Heap → Prop) : Prop :=
  ∀ ρ z pv w0 a w, SRel cx e H ρ z pv w0 a w → LoopWp cx.P c (WPost cx ρ z pv w0 Q) a w
section
variable {cx : Cx} {e : Env} {H : Heap} {Q Q' : AEx → Env → Heap → Prop}
theorem WPost.more {ρ ρ' : Pl} {z z' : Fz} {pv : Pv} {w0 : World} {x : Exit} {a : Act} {w : World} (hx : Ext ρ ρ' z z') (h : WPost cx ρ' z' pv w0 Q x a w) : WPost cx ρ z pv w0 Q x a w := by
  obtain ⟨ax, e, H, ρ2, z2, h1, h2, h3⟩ := h
  exact ⟨ax, e, H, ρ2, z2, h1, hx.trans h2, h3⟩
theorem WPost.mono {ρ : Pl} {z : Fz} {pv : Pv} {w0 : World} {x : Exit} {a : Act} {w : World} (hq : ∀ ax e H, Q ax e H → Q' ax e H) (h : WPost cx ρ z pv w0 Q x a w) : WPost cx ρ z pv w0 Q' x a w := by
  obtain ⟨ax, e, H, ρ2, z2, h1, h2, h3, h4⟩ := h
  exact ⟨ax, e, H, ρ2, z2, h1, h2, h3, hq _ _ _ h4⟩
theorem W.mono {c : Code} (hq : ∀ ax e H, Q ax e H → Q' ax e H) (h : W cx c e H Q) : W cx c e H Q' := fun ρ z pv w0 a w hS => wp_mono (h ρ z pv w0 a w hS) fun _ _ _ => WPost.mono hq
theorem W_skip (h : Q .normal e H) : W cx .skip e H Q := fun ρ z _pv _w0 _a _w hS => wp_skip ⟨.normal, e, H, ρ, z, rfl, Ext.refl _ _, hS, h⟩
theorem W_exit {id : Nat} (h : Q (.exit id) e H) : W cx (.exit id) e H Q := fun ρ z _pv _w0 _a _w hS => wp_exit ⟨.exit id, e, H, ρ, z, rfl, Ext.refl _ _, hS, h⟩
theorem W_ret (h : Q .ret e H) : W cx .ret e H Q := fun ρ z _pv _w0 _a _w hS => wp_ret ⟨.ret, e, H, ρ, z, rfl, Ext.refl _ _, hS, h⟩
theorem W_seq {x y : Code} (h : W cx x e H fun ax e H => match ax with
    | .normal => W cx y e H Q
    | ax => Q ax e H) : W cx (.seq x y) e H Q := fun ρ z pv w0 a w hS => wp_seq (wp_mono (h ρ z pv w0 a w hS) fun ex a' w' hp => by
  obtain ⟨ax, e', H', ρ', z', h1, h2, h3, h4⟩ := hp
  subst h1
  cases ax with
  | normal => exact wp_mono (h4 ρ' z' pv w0 a' w' h3) fun _ _ _ hq => hq.more h2
  | exit id => exact ⟨.exit id, e', H', ρ', z', rfl, h2, h3, h4⟩
  | ret => exact ⟨.ret, e', H', ρ', z', rfl, h2, h3, h4⟩)
theorem W_cond {o : Operand} {x y : Code} {b : Bool} (hb : evalO cx e o = .bool b) (h : W cx (cond b x y) e H Q) : W cx (.cond o x y) e H Q := fun ρ z pv w0 a w hS => by
  have ho := evalO_ok hS.gl hS.env o
  rw [hb] at ho
  generalize hv : a.eval o = v at ho
  cases ho
  cases b with
  | true => exact wp_cond_true hv (h ρ z pv w0 a w hS)
  | false => exact wp_cond_false hv (h ρ z pv w0 a w hS)
theorem W_block {id : Nat} {c : Code} (h : W cx c e H fun ax e H => match ax with
    | .exit id' => Q (if id' = id then .normal else .exit id') e H
    | ax => Q ax e H) : W cx (.block id c) e H Q := fun ρ z pv w0 a w hS => wp_block (wp_mono (h ρ z pv w0 a w hS) fun ex a' w' hp => by
  obtain ⟨ax, e', H', ρ', z', h1, h2, h3, h4⟩ := hp
  subst h1
  cases ax with
  | normal => exact ⟨.normal, e', H', ρ', z', rfl, h2, h3, h4⟩
  | ret => exact ⟨.ret, e', H', ρ', z', rfl, h2, h3, h4⟩
  | exit id' =>
    simp only [AEx.real, Exit.inBlock]
    by_cases hid : id' = id
    · rw [if_pos hid]
      simp only [if_pos hid] at h4
      exact ⟨.normal, e', H', ρ', z', rfl, h2, h3, h4⟩
    · rw [if_neg hid]
      simp only [if_neg hid] at h4
      exact ⟨.exit id', e', H', ρ', z', rfl, h2, h3, h4⟩)
theorem WLoop.round {c : Code} (h : W cx c e H fun ax e H => match ax with
    | .normal => WLoop cx c e H Q
    | ax => Q ax e H) : WLoop cx c e H Q := fun ρ z pv w0 a w hS => LoopWp.round (wp_mono (h ρ z pv w0 a w hS) fun ex a' w' hp => by
  obtain ⟨ax, e', H', ρ', z', h1, h2, h3, h4⟩ := hp
  subst h1
  cases ax with
  | normal => exact fun b k cs => let ⟨e, a2, w2, q1, q2⟩ := h4 ρ' z' pv w0 a' w' h3 b k cs; ⟨e, a2, w2, q1.more h2, q2⟩
  | exit id => exact ⟨.exit id, e', H', ρ', z', rfl, h2, h3, h4⟩
  | ret => exact ⟨.ret, e', H', ρ', z', rfl, h2, h3, h4⟩)
theorem W_loop {c : Code} (h : WLoop cx c e H Q) : W cx (.loop c) e H Q := fun ρ z pv w0 a w hS => (h ρ z pv w0 a w hS).wp
/-- A region's operations, in the text's order. -/
def WOps (cx : Cx) (ops : Array Oper) : List Oper → Env → Heap → (Env → Heap → Prop) → Prop
  | [], e, H, K => K e H
  | o :: l, e, H, K => match wantedA ops e o with
    | none => False
    | some false => match e.put o.dst (.tuple []) with
      | some e' => WOps cx ops l e' H K
      | none => False
    | some true => match aop cx e H o with
      | some (.val x H') => match e.put o.dst x with
        | some e' => WOps cx ops l e' H' K
        | none => False
      | some (.skip H') => match e.put o.dst (.tuple []) with
        | some e' => WOps cx ops l e' H' K
        | none => False
      | some (.enter f args) => Ans cx f args H fun x H' => match e.put o.dst x with
        | some e' => WOps cx ops l e' H' K
        | none => False
      | none => False
theorem WOps_ok (hN : CxOk cx) {ops : Array Oper} {QQ : Exit → Act → World → Prop} {K : Env → Heap → Prop} {pv : Pv} {w0 : World} {ρ0 : Pl} {z0 : Fz} (hQ : ∀ ρ z a w e H, Ext ρ0 ρ z0 z → SRel cx e H ρ z pv w0 a w → K e H → QQ .normal a w) :
    ∀ (l : List Oper) (k : Nat) (e : Env) (H : Heap) (ρ : Pl) (z : Fz) (a : Act) (w : World), (∀ j, l[j]? = ops[k + j]?) → Ext ρ0 ρ z0 z → SRel cx e H ρ z pv w0 a w → WOps cx ops l e H K → wpOps cx.P ops QQ (List.range' k l.length) a w
  | [], k, e, H, ρ, z, a, w, _, hx, h, hr => hQ ρ z a w e H hx h hr
  | o :: l, k, e, H, ρ, z, a, w, hl, hx, h, hr => by
    have h0 : ops[k]? = some o := by simpa using (hl 0).symm
    have hl' : ∀ j, l[j]? = ops[k + 1 + j]? := fun j => by have := hl (j + 1); simpa [Nat.add_assoc, Nat.add_comm 1 j] using this
    simp only [List.length_cons, List.range'_succ, wpOps, h0]
    simp only [WOps] at hr
    split at hr
    · cases hr
    · rename_i hw
      split at hr
      · rename_i e1 hp
        rw [wantedA_ok h.env hw]
        simp only [Bool.false_eq_true, if_false]
        exact WOps_ok hN hQ l (k + 1) e1 H ρ z _ w hl' hx ⟨h.rel, h.env.put (.tuple _ _ .nil) hp, h.gl⟩ hr
      · cases hr
    · rename_i hw
      rw [wantedA_ok h.env hw]
      simp only [if_true]
      refine .inl ?_
      split at hr
      · rename_i x H1 ha
        split at hr
        · rename_i e1 hp
          obtain ⟨u, w', ρ', h1, h2, h3, h4⟩ := aop_ok hN h.gl h.rel h.env ha
          unfold Oper.wp
          rw [h1, Oper.upon_value]
          exact WOps_ok hN hQ l (k + 1) e1 H1 ρ' z _ w' hl' (hx.trans h3) ⟨h2, (h.env.mono h3).put h4 hp, h.gl.mono h3⟩ hr
        · cases hr
      · rename_i H1 ha
        split at hr
        · rename_i e1 hp
          obtain ⟨w', h1, h2⟩ := aop_ok hN h.gl h.rel h.env ha
          unfold Oper.wp
          rw [h1, Oper.upon_skip]
          exact WOps_ok hN hQ l (k + 1) e1 H1 ρ z _ w' hl' hx ⟨h2, h.env.put (.tuple _ _ .nil) hp, h.gl⟩ hr
        · cases hr
      · rename_i f args ha
        obtain ⟨vs, fn, c, h1, h2, _, _⟩ := aop_ok hN h.gl h.rel h.env ha
        unfold Oper.wp
        rw [h1, Oper.upon_enter]
        refine (hr ρ z pv w0 w vs h.rel h.gl h2).mono fun en w' hq => ?_
        obtain ⟨u, ρ', z', x, H1, rfl, q1, q2, q3, q4⟩ := hq
        split at q4
        · rename_i e1 hp
          exact WOps_ok hN hQ l (k + 1) e1 H1 ρ' z' _ w' hl' (hx.trans q2) ⟨q1, (h.env.mono q2).put q3 hp, h.gl.mono q2⟩ q4
        · cases q4
      · cases hr
theorem W_region (hN : CxOk cx) {id : Nat} {ops : Array Oper} (h : WOps cx ops ops.toList e H (Q .normal)) : W cx (.region id ops false) e H Q := fun ρ z pv w0 a w hS => by
  refine wp_region ?_
  have := WOps_ok (QQ := WPost cx ρ z pv w0 Q) (ρ0 := ρ) (z0 := z) (pv := pv) (w0 := w0) hN (fun ρ' z' a' w' e' H' hx hS' hk => ⟨.normal, e', H', ρ', z', rfl, hx, hS', hk⟩) ops.toList 0 e H ρ z a w (fun j => by simp) (Ext.refl _ _) hS h
  rw [List.range_eq_range']
  simpa using this
theorem Ans.mono {f : FuncId} {args : List AV} {R R' : AV → Heap → Prop} (hq : ∀ x H, R x H → R' x H) (h : Ans cx f args H R) : Ans cx f args H R' := fun ρ z pv w0 w vs hR hG hV => (h ρ z pv w0 w vs hR hG hV).mono fun en w' hp => by
  obtain ⟨u, ρ', z', x, H', h1, h2, h3, h4, h5⟩ := hp
  exact ⟨u, ρ', z', x, H', h1, h2, h3, h4, hq _ _ h5⟩
theorem Ans_body (hN : CxOk cx) {f : FuncId} {args : List AV} {fn : Func} {c : Code} {R : AV → Heap → Prop} (hfn : cx.fn.get f = some fn) (hc : fn.body = some c)
    (h : W cx c ⟨max args.length fn.ntmps, argsT 0 args .nil⟩ H fun ax e H' => (ax = .normal ∨ ax = .ret) ∧ ∃ xs, resA cx.D e H' fn.results.toList = some xs ∧ R (wrapR xs) H') : Ans cx f args H R := fun ρ z pv w0 w vs hR hG hV => by
  haveI := hN.tab
  refine calls_of_wp (hN.fn _ _ hfn).1 hc (wp_mono (h ρ z pv w0 _ w ⟨hR, env_init fn.ntmps hV, hG⟩) fun x' a' w' hp => ?_)
  obtain ⟨ax, e', H', ρ', z', h1, h2, h3, hex, xs, hres, hq⟩ := hp
  obtain ⟨u, k1, k2⟩ := results_run (P := cx.P) h3.rel h3.env hres
  rcases hex with rfl | rfl
  · subst h1; exact ⟨h3.env.defers, u, k1, u, ρ', z', _, H', rfl, h3.rel, h2, k2, hq⟩
  · subst h1; exact ⟨h3.env.defers, u, k1, u, ρ', z', _, H', rfl, h3.rel, h2, k2, hq⟩
/-- A call that sees nothing of the heap. -/
theorem Ans_closed (hgl : ∀ g cells, cx.gl g = some cells → AV.frees cells = true) {f : FuncId} {args : List AV} {y : AV} (hf : AV.frees args = true) (h : Ans cx f args H0 fun x H1 => ∃ n, frz H1 n x = some y) (H : Heap) :
    Ans cx f args H fun x K => x = y ∧ K = H := fun ρ z pv w0 w vs hR hG hV => by
  have hG0 : GlOk (fun _ => none) z cx.gl := fun g cells hg => by
    obtain ⟨us, h1, h2⟩ := hG g cells hg
    exact ⟨us, h1.free (hgl g cells hg), h2⟩
  refine (h _ z _ w w vs hR.empty hG0 (hV.free hf)).mono fun en w' hq => ?_
  obtain ⟨u, ρ', z', x, H1, rfl, q1, q2, q3, n, hz⟩ := hq
  obtain ⟨k1, k2⟩ := hR.back q2.fz q1
  exact ⟨u, ρ, _, y, H, rfl, k1, k2, (frz_ok q1 n).1 _ _ _ hz q3, rfl, rfl⟩
end
end Go.Eng
end
section
namespace Go.Eng
open Go.RowKit
/-- Whatever x speaks of y speaks of. -/
def Imp (x y : AV) : Prop := ∀ ρ z v, VR ρ z x v → VR ρ z y v
theorem Imp.refl (x : AV) : Imp x x := fun _ _ _ h => h
theorem Imp.num (n : Nat) : Imp (.num n) (numTree n) := fun _ _ _ h => by cases h with | num _ _ h => exact h
theorem Imp.num' (n : Nat) : Imp (numTree n) (.num n) := fun _ _ _ h => .num n _ h
theorem Imp.frac (q : Rat) : Imp (.frac q) (fracTree q) := fun _ _ _ h => by cases h with | frac _ _ h => exact h
theorem Imp.frac' (q : Rat) : Imp (fracTree q) (.frac q) := fun _ _ _ h => .frac q _ h
theorem Imp.trans {x y u : AV} (h : Imp x y) (k : Imp y u) : Imp x u := fun ρ z v hv => k ρ z v (h ρ z v hv)
/-- A table by its entries. -/
def T.of {α : Type} : List (Nat × α) → T α
  | [] => .nil
  | (k, x) :: l => (T.of l).set k x
def lk {α : Type} : List (Nat × α) → Nat → Option α
  | [], _ => none
  | (k, x) :: l, j => if j = k then some x else lk l j
theorem T.get_of {α : Type} : ∀ (l : List (Nat × α)) (j : Nat), (T.of l).get j = lk l j
  | [], _ => rfl
  | (k, x) :: l, j => by simp only [T.of, lk, T.get_set, T.get_of l]
structure Env.Sub (e' e : Env) : Prop where
  sz : e'.sz = e.sz
  get : ∀ j y, e'.t.get j = some y → ∃ x, e.t.get j = some x ∧ Imp x y
theorem Env.Sub.refl (e : Env) : Env.Sub e e := ⟨rfl, fun _ y h => ⟨y, h, Imp.refl y⟩⟩
def hasE (t : T AV) : List (Nat × AV) → Prop
  | [] => True
  | (k, y) :: l => (∃ x, t.get k = some x ∧ Imp x y) ∧ hasE t l
theorem hasE_get {t : T AV} : ∀ {l : List (Nat × AV)}, hasE t l → ∀ j y, lk l j = some y → ∃ x, t.get j = some x ∧ Imp x y
  | [], _, j, y, h => by simp [lk] at h
  | (k, x) :: l, hh, j, y, h => by
    simp only [lk] at h
    split at h
    · rename_i hj
      cases h
      subst hj
      exact hh.1
    · exact hasE_get hh.2 j y h
theorem Env.Sub.of {sz : Nat} {l : List (Nat × AV)} {e : Env} (h1 : sz = e.sz) (h : hasE e.t l) : Env.Sub ⟨sz, T.of l⟩ e :=
  ⟨h1, fun j y hy => hasE_get h j y (by rw [← T.get_of]; exact hy)⟩
def ObSub : Ob → Ob → Prop
  | .cells cs', .cells cs => ∀ (i : Nat) (y : AV), cs'[i]? = some y → ∃ x, cs[i]? = some x ∧ Imp x y
  | a, b => a = b
theorem ObSub.refl (a : Ob) : ObSub a a := by
  cases a with
  | cells cs => exact fun i y h => ⟨y, h, Imp.refl y⟩
  | map es c => rfl
  | iter s p => rfl
structure Heap.Sub (H' H : Heap) : Prop where
  nx : H.nx ≤ H'.nx
  t : ∀ id ob, H'.t.get id = some ob → ∃ ob0, H.t.get id = some ob0 ∧ ObSub ob ob0
  e : ∀ id p, H'.e.get id = some p → H.e.get id = some p
theorem Heap.Sub.refl (H : Heap) : Heap.Sub H H := ⟨Nat.le_refl _, fun _ ob h => ⟨ob, h, ObSub.refl ob⟩, fun _ _ h => h⟩
def hasO (t : T Ob) : List (Nat × Ob) → Prop
  | [] => True
  | (k, y) :: l => (∃ x, t.get k = some x ∧ ObSub y x) ∧ hasO t l
theorem hasO_get {t : T Ob} : ∀ {l : List (Nat × Ob)}, hasO t l → ∀ j y, lk l j = some y → ∃ x, t.get j = some x ∧ ObSub y x
  | [], _, j, y, h => by simp [lk] at h
  | (k, x) :: l, hh, j, y, h => by
    simp only [lk] at h
    split at h
    · rename_i hj
      cases h
      subst hj
      exact hh.1
    · exact hasO_get hh.2 j y h
theorem Heap.Sub.of {nx : Nat} {l : List (Nat × Ob)} {H : Heap} (h1 : H.nx ≤ nx) (h : hasO H.t l) : Heap.Sub ⟨T.of l, nx, .nil⟩ H :=
  ⟨h1, fun j y hy => hasO_get h j y (by rw [← T.get_of]; exact hy), fun _ _ h => by simp [T.get] at h⟩
section
variable {cx : Cx} {e e' : Env} {H H' : Heap} {ρ : Pl} {z : Fz} {pv : Pv} {w0 w : World} {a : Act} {Q : AEx → Env → Heap → Prop}
theorem ERel.sub (h : ERel e ρ z a) (hs : Env.Sub e' e) : ERel e' ρ z a :=
  ⟨by rw [h.size, hs.sz], h.defers, fun i y hy => by
    obtain ⟨x, h1, h2⟩ := hs.get i y hy
    obtain ⟨v, h3, h4⟩ := h.get i x h1
    exact ⟨v, h3, h2 _ _ _ h4⟩⟩
theorem Holds.sub {b o n : Nat} {ob ob0 : Ob} (h : Holds ρ z w b o n ob0) (hs : ObSub ob ob0) : Holds ρ z w b o n ob := by
  cases ob with
  | cells cs' =>
    cases ob0 with
    | cells cs =>
      obtain ⟨real, el, fz, h1, h2, h3, h4⟩ := h
      refine ⟨real, el, fz, h1, h2, h3, fun i x hx => ?_⟩
      obtain ⟨y, h5, h6⟩ := hs i x hx
      obtain ⟨v, h7, h8⟩ := h4 i y h5
      exact ⟨v, h7, h6 _ _ _ h8⟩
    | map es c => cases hs
    | iter s p => cases hs
  | map es c => cases ob0 <;> first | (cases hs; exact h) | cases hs
  | iter s p => cases ob0 <;> first | (cases hs; exact h) | cases hs
theorem Rel.sub (h : Rel H ρ z pv w0 w) (hs : Heap.Sub H' H) : Rel H' ρ z pv w0 w := by
  refine ⟨h.below, h.fz, fun id ob hg => ?_, fun id id' ob ob' p p' g1 g2 => ?_, fun id hid => h.fresh id (by have := hs.nx; omega), h.keep, fun id el k he => h.ty id el k (hs.e _ _ he), fun id hr => ?_⟩
  · obtain ⟨ob0, h1, h2⟩ := hs.t id ob hg
    obtain ⟨b, o, n, h3, h4, h5, h6⟩ := h.live id ob0 h1
    exact ⟨b, o, n, h3, h4, h5.sub h2, h6⟩
  · obtain ⟨ob0, h1, _⟩ := hs.t id ob g1
    obtain ⟨ob1, h2, _⟩ := hs.t id' ob' g2
    exact h.excl id id' ob0 ob1 p p' h1 h2
  · have := h.res id hr
    have := hs.nx
    exact ⟨(h.res id hr).1, by omega⟩
theorem SRel.sub (h : SRel cx e H ρ z pv w0 a w) (he : Env.Sub e' e) (hh : Heap.Sub H' H) : SRel cx e' H' ρ z pv w0 a w := ⟨h.rel.sub hh, h.env.sub he, h.gl⟩
theorem W_sub {c : Code} (he : Env.Sub e' e) (hh : Heap.Sub H' H) (h : W cx c e' H' Q) : W cx c e H Q := fun ρ z pv w0 a w hS => h ρ z pv w0 a w (hS.sub he hh)
theorem WLoop_sub {c : Code} (he : Env.Sub e' e) (hh : Heap.Sub H' H) (h : WLoop cx c e' H' Q) : WLoop cx c e H Q := fun ρ z pv w0 a w hS => h ρ z pv w0 a w (hS.sub he hh)
inductive Imps : List AV → List AV → Prop
  | nil : Imps [] []
  | cons {x y : AV} {xs ys : List AV} : Imp x y → Imps xs ys → Imps (x :: xs) (y :: ys)
theorem Imps.vrs {xs ys : List AV} (h : Imps xs ys) : ∀ {vs : List Value}, VRs ρ z xs vs → VRs ρ z ys vs := by
  induction h with
  | nil => exact fun h => h
  | cons h _ ih => exact fun k => by cases k with | cons _ v _ vs k1 k2 => exact .cons _ _ _ _ (h _ _ _ k1) (ih k2)
theorem Ans_imp {f : FuncId} {args args' : List AV} {R : AV → Heap → Prop} (hi : Imps args args') (h : Ans cx f args' H R) : Ans cx f args H R := fun ρ z pv w0 w vs hR hG hV => h ρ z pv w0 w vs hR hG (hi.vrs hV)
theorem Ans_to {f : FuncId} {args : List AV} {x y : AV} {K : Heap} (hi : Imp x y) (h : Ans cx f args H fun u L => u = x ∧ L = K) : Ans cx f args H fun u L => u = y ∧ L = K := fun ρ z pv w0 w vs hR hG hV => (h ρ z pv w0 w vs hR hG hV).mono fun en w' hp => by
  obtain ⟨u, ρ', z', x', H', h1, h2, h3, h4, rfl, rfl⟩ := hp
  exact ⟨u, ρ', z', y, _, h1, h2, h3, hi _ _ _ h4, rfl, rfl⟩
inductive Fr where
  | seq (y : Code)
  | block (id : Nat)
def Cn (cx : Cx) (R : AEx → Env → Heap → Prop) : List Fr → AEx → Env → Heap → Prop
  | [], ax, e, H => R ax e H
  | .seq y :: k, .normal, e, H => W cx y e H (Cn cx R k)
  | .seq _ :: k, .exit i, e, H => Cn cx R k (.exit i) e H
  | .seq _ :: k, .ret, e, H => Cn cx R k .ret e H
  | .block id :: k, .exit i, e, H => Cn cx R k (if i = id then .normal else .exit i) e H
  | .block _ :: k, .normal, e, H => Cn cx R k .normal e H
  | .block _ :: k, .ret, e, H => Cn cx R k .ret e H
variable {R : AEx → Env → Heap → Prop} {k : List Fr}
theorem S_seq {x y : Code} (h : W cx x e H (Cn cx R (.seq y :: k))) : W cx (.seq x y) e H (Cn cx R k) := by
  refine W_seq (h.mono fun ax e H hq => ?_)
  cases ax <;> exact hq
theorem S_block {c : Code} {id : Nat} (h : W cx c e H (Cn cx R (.block id :: k))) : W cx (.block id c) e H (Cn cx R k) := by
  refine W_block (h.mono fun ax e H hq => ?_)
  cases ax <;> exact hq
theorem S_ops (hN : CxOk cx) {id : Nat} {ops : Array Oper} (h : ∀ KK : Env → Heap → Prop, (∀ e' H', Cn cx R k .normal e' H' → KK e' H') → WOps cx ops ops.toList e H KK) : W cx (.region id ops false) e H (Cn cx R k) :=
  W_region hN (h _ fun _ _ hk => hk)
theorem S_ops_seq (hN : CxOk cx) {id : Nat} {ops : Array Oper} {y : Code} (h : ∀ KK : Env → Heap → Prop, (∀ e' H', W cx y e' H' (Cn cx R k) → KK e' H') → WOps cx ops ops.toList e H KK) : W cx (.seq (.region id ops false) y) e H (Cn cx R k) :=
  S_seq (S_ops hN h)
/-- A loop by its invariant: 'E a', 'K a': the state at a round's head. -/
theorem WLoop_ind {α : Type} {c : Code} (E : α → Env) (K : α → Heap) (I : α → Prop) (m : α → Nat)
    (step : ∀ a, I a → W cx c (E a) (K a) (fun ax e H => match ax with
      | .normal => ∃ b, I b ∧ m b < m a ∧ Env.Sub (E b) e ∧ Heap.Sub (K b) H
      | ax => Q ax e H)) : ∀ a, I a → WLoop cx c (E a) (K a) Q := by
  have main : ∀ n a, m a < n → I a → WLoop cx c (E a) (K a) Q := by
    intro n
    induction n with
    | zero => intro a h; omega
    | succ n ih =>
      intro a hm ha
      refine WLoop.round ((step a ha).mono fun ax e H hq => ?_)
      cases ax with
      | normal =>
        obtain ⟨b, h1, h2, h3, h4⟩ := hq
        exact WLoop_sub h3 h4 (ih b (by omega) h1)
      | exit id => exact hq
      | ret => exact hq
  exact fun a ha => main (m a + 1) a (by omega) ha
theorem S_loop {α : Type} {c : Code} (E : α → Env) (K : α → Heap) (I : α → Prop) (m : α → Nat) (a : α) (ha : I a) (he : Env.Sub (E a) e) (hh : Heap.Sub (K a) H)
    (step : ∀ a, I a → W cx c (E a) (K a) (Cn cx (fun ax e H => match ax with
      | .normal => ∃ b, I b ∧ m b < m a ∧ Env.Sub (E b) e ∧ Heap.Sub (K b) H
      | ax => Cn cx R k ax e H) [])) : W cx (.loop c) e H (Cn cx R k) :=
  W_sub he hh (W_loop (WLoop_ind E K I m step a ha))
end
end Go.Eng
end
section
namespace Go.Eng
abbrev BB : Nat := 4294967296
def val : List Nat → Nat
  | [] => 0
  | d :: l => d + BB * val l
/-- Digits are digits. -/
def Dg (l : List Nat) : Prop := ∀ d ∈ l, d < BB
theorem dig_more : ∀ (f n : Nat), n ≤ f → ∀ g, n ≤ g → dig f n = dig g n
  | 0, n, h, g, hg => by
    obtain rfl : n = 0 := by omega
    cases g <;> simp [dig]
  | f + 1, 0, h, g, hg => by cases g <;> simp [dig]
  | f + 1, n + 1, h, 0, hg => by omega
  | f + 1, n + 1, h, g + 1, hg => by
    simp only [dig]
    rw [dig_more f ((n + 1) / 4294967296) (by omega) g (by omega)]
theorem digs_zero : digs 0 = [] := rfl
theorem digs_pos {n : Nat} (h : 0 < n) : digs n = (n % BB) :: digs (n / BB) := by
  obtain ⟨m, rfl⟩ : ∃ m, n = m + 1 := ⟨n - 1, by omega⟩
  show dig (m + 1) (m + 1) = _
  simp only [dig]
  rw [digs, dig_more m _ (by simp only [BB]; omega) ((m + 1) / BB) (Nat.le_refl _)]
theorem val_digs (n : Nat) : val (digs n) = n := by
  induction n using Nat.strongRecOn with
  | _ n ih =>
    rcases Nat.eq_zero_or_pos n with rfl | h
    · rfl
    · rw [digs_pos h, val, ih (n / BB) (by simp only [BB]; omega)]
      simp only [BB]; omega
theorem digs_dg (n : Nat) : Dg (digs n) := by
  induction n using Nat.strongRecOn with
  | _ n ih =>
    rcases Nat.eq_zero_or_pos n with rfl | h
    · intro d hd; simp [digs_zero] at hd
    · intro d hd
      rw [digs_pos h, List.mem_cons] at hd
      rcases hd with rfl | hd
      · exact Nat.mod_lt _ (by decide)
      · exact ih (n / BB) (by simp only [BB]; omega) d hd
theorem Dg.cons {d : Nat} {l : List Nat} : Dg (d :: l) ↔ d < BB ∧ Dg l := by simp [Dg]
theorem Dg.nil : Dg [] := by simp [Dg]
theorem Dg.append {l k : List Nat} : Dg (l ++ k) ↔ Dg l ∧ Dg k := by
  simp only [Dg, List.mem_append]
  exact ⟨fun h => ⟨fun d hd => h d (.inl hd), fun d hd => h d (.inr hd)⟩, fun h d hd => hd.elim (h.1 d) (h.2 d)⟩
theorem Dg.take {l : List Nat} (h : Dg l) (n : Nat) : Dg (l.take n) := fun d hd => h d (List.mem_of_mem_take hd)
theorem Dg.drop {l : List Nat} (h : Dg l) (n : Nat) : Dg (l.drop n) := fun d hd => h d (List.mem_of_mem_drop hd)
theorem Dg.get {l : List Nat} (h : Dg l) (i : Nat) : l.getD i 0 < BB := by
  rw [List.getD_eq_getElem?_getD]
  cases hx : l[i]? with
  | none => simp [BB]
  | some d => exact h d (List.mem_of_getElem? hx)
theorem Dg.set {l : List Nat} (h : Dg l) {x : Nat} (hx : x < BB) (i : Nat) : Dg (l.set i x) := fun d hd => by
  rcases List.mem_or_eq_of_mem_set hd with h1 | h1
  · exact h d h1
  · exact h1 ▸ hx
theorem Dg.replicate (n : Nat) : Dg (List.replicate n 0) := fun d hd => by rw [List.eq_of_mem_replicate hd]; decide
theorem val_append (l k : List Nat) : val (l ++ k) = val l + BB ^ l.length * val k := by
  induction l with
  | nil => simp [val]
  | cons d l ih => simp only [List.cons_append, val, ih, List.length_cons, Nat.pow_succ]; grind
theorem val_zeros (n : Nat) : val (List.replicate n 0) = 0 := by
  induction n with
  | zero => rfl
  | succ n ih => simp [List.replicate_succ, val, ih]
theorem val_lt {l : List Nat} (h : Dg l) : val l < BB ^ l.length := by
  induction l with
  | nil => simp [val]
  | cons d l ih =>
    obtain ⟨h1, h2⟩ := Dg.cons.1 h
    have := ih h2
    simp only [val, List.length_cons, Nat.pow_succ]
    generalize BB ^ l.length = p at *
    simp only [BB] at *
    omega
theorem digs_len_le {l : List Nat} (h : Dg l) : (digs (val l)).length ≤ l.length ∧ digs (val l) = l.take (digs (val l)).length ∧ ∀ i, (digs (val l)).length ≤ i → l.getD i 0 = 0 := by
  induction l with
  | nil => simp [val, digs_zero]
  | cons d l ih =>
    obtain ⟨h1, h2⟩ := Dg.cons.1 h
    obtain ⟨i1, i2, i3⟩ := ih h2
    rcases Nat.eq_zero_or_pos (val (d :: l)) with h0 | h0
    · rw [h0, digs_zero]
      refine ⟨by simp, by simp, fun i _ => ?_⟩
      have hd : d = 0 := by simp only [val] at h0; omega
      have hv : val l = 0 := by simp only [val, BB] at h0; omega
      rw [hv, digs_zero] at i3
      cases i with
      | zero => simpa using hd
      | succ i => simpa using i3 i (by simp)
    · have e1 : val (d :: l) % BB = d := by simp only [val, BB] at *; omega
      have e2 : val (d :: l) / BB = val l := by simp only [val, BB] at *; omega
      rw [digs_pos h0, e1, e2]
      refine ⟨by simpa using i1, by simp only [List.length_cons, List.take_succ_cons]; rw [← i2], fun i hi => ?_⟩
      cases i with
      | zero => simp at hi
      | succ i => simpa using i3 i (by simpa using hi)
theorem digs_last {n : Nat} (h : 0 < n) : (digs n).getD ((digs n).length - 1) 0 ≠ 0 ∧ 0 < (digs n).length := by
  induction n using Nat.strongRecOn with
  | _ n ih =>
    rw [digs_pos h]
    refine ⟨?_, by simp⟩
    rcases Nat.eq_zero_or_pos (n / BB) with h0 | h0
    · rw [h0, digs_zero]
      have : n < BB := by simp only [BB] at *; omega
      simp [Nat.mod_eq_of_lt this]; omega
    · obtain ⟨i1, i2⟩ := ih (n / BB) (by simp only [BB] at *; omega) h0
      simp only [List.length_cons, Nat.add_sub_cancel]
      obtain ⟨k, hk⟩ : ∃ k, (digs (n / BB)).length = k + 1 := ⟨(digs (n / BB)).length - 1, by omega⟩
      rw [hk] at i1 ⊢
      simpa using i1
end Go.Eng
end
