import Derived.Test.YtekfcbeballilaaGreatDoorEc
section
namespace Go.Eng
open Go.RowKit
theorem onlyVal_some {a : Option AV} {H : Heap} {x : AV} (h : onlyVal (valR a H) = some x) : a = some x := by
  cases a with
  | none => cases h
  | some y => simpa [onlyVal, valR] using h
theorem run_val {P : Program} {s : Sem Value} {u : Value} {w w' : World} (h : s.run P w = .ok u w') : ((do pure (.value (← s))) : Sem Next).run P w = .ok (.value u) w' := by
  rw [Sem.run_bind, h]; rfl
/-- A quiet operation leaves the world as it is. -/
theorem aq_run {cx : Cx} {e : Env} {H : Heap} {ρ : Pl} {z : Fz} {pv : Pv} {w0 w : World} {a : Act} (hN : CxOk cx) (hg : GlOk ρ z cx.gl) (h : Rel H ρ z pv w0 w) (he : ERel e ρ z a) {o : Oper} {x : AV} (hq : isQ o.op = true) (ha : aq cx e H o = some x) :
    ∃ u, (execOp a.eval o).run cx.P w = .ok (.value u) w ∧ VR ρ z x u := by
  haveI := hN.tab
  have fin : ∀ {s : Sem Value}, (∃ u, s.run cx.P w = .ok u w ∧ VR ρ z x u) → ∃ u, ((do pure (.value (← s))) : Sem Next).run cx.P w = .ok (.value u) w ∧ VR ρ z x u := fun ⟨u, h1, h2⟩ => ⟨u, run_val h1, h2⟩
  obtain ⟨dst, op, type, pos, after, guard⟩ := o
  cases op <;> simp only [isQ] at hq <;> (try (cases hq; done)) <;> simp only [aq, aop, opFn] at ha <;> simp only [execOp]
  case move y => simp only [opMove, onlyVal, Option.some.injEq] at ha; subst ha; exact ⟨_, rfl, evalO_ok hg he y⟩
  case assign y => simp only [opAssign, onlyVal, Option.some.injEq] at ha; subst ha; exact ⟨_, rfl, evalO_ok hg he y⟩
  case pick c b d =>
    have hc := evalO_ok hg he c
    unfold opPick at ha
    split at ha
    · rename_i heq; rw [heq] at hc; cases ha
      generalize hv : a.eval c = cv at hc
      cases hc
      exact ⟨_, by simp [asBool], evalO_ok hg he b⟩
    · rename_i heq; rw [heq] at hc; cases ha
      generalize hv : a.eval c = cv at hc
      cases hc
      exact ⟨_, by simp [asBool], evalO_ok hg he d⟩
    · cases ha
  case build t ps =>
    unfold opBuild at ha
    obtain ⟨q, h1, h2⟩ := aBuild_ok (P := cx.P) (w := w) (evalPs_ok hg he ps.toList) (onlyVal_some ha)
    have hps : (ps.map fun (i, x) => (i, a.eval x)) = ⟨ps.toList.map fun (i, x) => (i, a.eval x)⟩ := by apply Array.ext'; simp
    rw [hps]
    exact fin ⟨q, h1, h2⟩
  case load t y => unfold opLoad at ha; exact fin (aLoad_ok (P := cx.P) h (evalO_ok hg he y) (onlyVal_some ha))
  case nilCheck y =>
    have hy := evalO_ok hg he y
    unfold opNilCheck at ha
    cases hp : isPtrA (evalO cx e y) with
    | false => rw [hp] at ha; cases ha
    | true =>
      rw [hp] at ha
      cases ha
      refine ⟨a.eval y, ?_, hy⟩
      generalize a.eval y = v at hy ⊢
      generalize evalO cx e y = q at hy hp
      cases hy <;> (try (cases hp; done)) <;> (try rfl)
      case num n hv => unfold numTree at hv; cases hv; rfl
      case frac q hv => unfold fracTree at hv; cases hv; rfl
  case binOp op t y z' ty => unfold opBinOp at ha; exact fin (aBin_ok (P := cx.P) (w := w) (evalO_ok hg he y) (evalO_ok hg he z') (onlyVal_some ha))
  case unOp op t y => unfold opUnOp at ha; exact fin (aUn_ok (P := cx.P) (w := w) (evalO_ok hg he y) (onlyVal_some ha))
  case convert s d y => exact fin (aConv_ok (P := cx.P) h (evalO_ok hg he y) ha)
  case makeInterface t y =>
    unfold opMakeInterface at ha
    split at ha
    · rename_i d hd
      cases hi : isIfaceD d with
      | true => rw [hi] at ha; cases ha
      | false =>
        rw [hi] at ha
        cases ha
        refine fin ⟨_, ?_, .iface t _ _ (evalO_ok hg he y)⟩
        unfold Instr.makeInterface
        rw [Sem.run_bind, run_und hd]
        cases d <;> first | (cases hi; done) | rfl
    · cases ha
  case makeFunc fn f c =>
    cases ha
    refine fin ⟨.func fn (f.map a.eval) (c.map a.eval), rfl, ?_⟩
    have h1 := evalOs_ok hg he f.toList
    have h2 := evalOs_ok hg he c.toList
    have e1 : f.map a.eval = ⟨f.toList.map a.eval⟩ := by apply Array.ext'; simp
    have e2 : c.map a.eval = ⟨c.toList.map a.eval⟩ := by apply Array.ext'; simp
    rw [e1, e2]
    exact .func fn _ _ _ _ h1 h2
  case slice t y lo hi mx => unfold opSlice at ha; exact fin (aSlice_ok (P := cx.P) (evalO_ok hg he y) (evalOp_ok hg he lo) (evalOp_ok hg he hi) (evalOp_ok hg he mx) h (onlyVal_some ha))
  case fieldAddr s y f => unfold opFieldAddr at ha; exact fin (aFieldAddr_ok (P := cx.P) (w := w) (evalO_ok hg he y) (onlyVal_some ha))
  case field t y f => unfold opField at ha; exact fin (aField_ok (P := cx.P) (w := w) (evalO_ok hg he y) (onlyVal_some ha))
  case indexAddr t y i => unfold opIndexAddr at ha; exact fin (aIndexAddr_ok (P := cx.P) (w := w) (evalO_ok hg he y) (evalO_ok hg he i) (onlyVal_some ha))
  case index t y i => unfold opIndex at ha; exact fin (aIndex_ok (P := cx.P) (w := w) (evalO_ok hg he y) (evalO_ok hg he i) (onlyVal_some ha))
  case lookup t y i ok => unfold opLookup at ha; exact fin (aLookup_ok (P := cx.P) h (evalO_ok hg he y) (evalO_ok hg he i) (onlyVal_some ha))
  case extract t i =>
    have hy := evalO_ok hg he t
    unfold opExtract at ha
    split at ha
    · rename_i xs heq
      rw [heq] at hy
      have ho := onlyVal_some ha
      generalize a.eval t = tv at hy ⊢
      cases hy with | tuple _ vs hs =>
      obtain ⟨u, h1, h2⟩ := hs.at_ ho
      exact fin ⟨u, by simp [Instr.extract, h1], h2⟩
    · cases ha
  case call c =>
    obtain ⟨callee, args, argTypes⟩ := c
    unfold opCall at ha
    cases callee with
    | value f => simp at hq
    | invoke r m => simp at hq
    | builtin b =>
      simp only at ha hq
      have hx := evalOs_ok hg he args.toList
      have e1 : args.map a.eval = ⟨args.toList.map a.eval⟩ := by apply Array.ext'; simp
      simp only [resolve, Sem.run_bind, Sem.run_pure, Result.andThen, invoke, e1]
      generalize args.toList.map a.eval = vs at hx
      generalize evalOs cx e args.toList = xs at hx ha
      obtain ⟨ts⟩ := argTypes
      cases b <;> simp at hq
      case len =>
        rcases ts with _ | ⟨t, _ | ⟨t2, ts⟩⟩ <;> (try (simp [aBuiltin, onlyVal] at ha; done))
        rcases xs with _ | ⟨y, _ | ⟨y2, xs⟩⟩ <;> (try (simp [aBuiltin, onlyVal] at ha; done))
        cases hx with | cons _ xv _ _ h1 h2 =>
        cases h2
        exact fin (aLen_ok (P := cx.P) (ty := type) h h1 (onlyVal_some ha))
      case cap =>
        rcases ts with _ | ⟨t, _ | ⟨t2, ts⟩⟩ <;> (try (simp [aBuiltin, onlyVal] at ha; done))
        rcases xs with _ | ⟨y, _ | ⟨y2, xs⟩⟩ <;> (try (simp [aBuiltin, onlyVal] at ha; done))
        cases hx with | cons _ xv _ _ h1 h2 =>
        cases h2
        exact fin (aCap_ok (P := cx.P) (w := w) (ty := type) h1 (onlyVal_some ha))
      case max =>
        simp only [aBuiltin] at ha
        exact fin (aMax_ok (P := cx.P) (w := w) (t := ⟨ts⟩) (ty := type) hx (onlyVal_some ha))
      case min =>
        simp only [aBuiltin] at ha
        exact fin (aMin_ok (P := cx.P) (w := w) (t := ⟨ts⟩) (ty := type) hx (onlyVal_some ha))
section
variable {cx : Cx} {e : Env} {ρ : Pl} {z : Fz} {w : World} {a : Act}
/-- A new block, and what speaks of it. -/
def NewOk (ρ : Pl) (z : Fz) (w : World) (id : Nat) (x : AV) (cs : List AV) (r : Result Value) : Prop :=
  ∃ vs el u, r = .ok u (w.alloc (.cells ⟨vs⟩ el)) ∧ VRs ρ z cs vs ∧ ∀ ρ' : Pl, ρ' id = some (w.heap.size, 0, vs.length) → VR ρ' z x u
theorem newCells_alloc {id : Nat} {x y : AV} {cs cs' : List AV} (h : newCells id (some (y, (⟨.nil, id, .nil⟩ : Heap).alloc (.cells cs'))) = some (x, cs)) : x = y ∧ cs = cs' := by
  simp only [newCells, Heap.alloc, T.get_set, if_pos, Option.some.injEq, Prod.mk.injEq] at h
  exact ⟨h.1.symm, h.2.symm⟩
theorem aFl_ok (hN : CxOk cx) (hg : GlOk ρ z cx.gl) (he : ERel e ρ z a) {o : Oper} {id : Nat} {x : AV} {cs : List AV} (h : aFl cx e o id = some (x, cs)) :
    ∃ r : Result Value, NewOk ρ z w id x cs r ∧ (execOp a.eval o).run cx.P w = r.andThen (fun v w => .ok (.value v) w) := by
  haveI := hN.tab
  obtain ⟨dst, op, type, pos, after, guard⟩ := o
  unfold aFl at h
  cases op <;> simp only at h <;> (try (cases h; done)) <;> simp only [execOp]
  case alloc t =>
    refine ⟨_, ?_, Sem.run_bind ..⟩
    unfold aAlloc at h
    split at h
    · rename_i cs' hc
      obtain ⟨rfl, rfl⟩ := newCells_alloc h
      obtain ⟨i, v, vs, h1, h2, h3, h4, _, _⟩ := zeroOf_ok hc
      refine ⟨vs, t, .pointer (some ⟨w.heap.size, 0, none⟩), ?_, h4 ρ z, fun ρ' hp => .ptr _ 0 _ 0 _ hp⟩
      simp [Instr.alloc, run_zero h1 h2, newVar, run_newRow, Result.andThen, h3]
    · cases h
  case buildSlice t len ps =>
    have hps : (ps.map fun (i, x) => (i, a.eval x)) = ⟨ps.toList.map fun (i, x) => (i, a.eval x)⟩ := by apply Array.ext'; simp
    rw [hps]
    have hx := evalPs_ok hg he ps.toList
    generalize ps.toList.map (fun (i, x) => (i, a.eval x)) = vs at hx
    generalize evalPs cx e ps.toList = parts at h hx
    refine ⟨_, ?_, Sem.run_bind ..⟩
    unfold aBuildSlice at h
    split at h
    · rename_i e hd
      split at h
      · rename_i i zs hi hz
        cases hb : Nat.ble (len * i.size) 16777216 with
        | false => rw [hb] at h; cases h
        | true =>
          rw [hb, cond_true] at h
          have hb := Nat.le_of_ble_eq_true hb
          split at h
          · rename_i cs hf
            obtain ⟨rfl, rfl⟩ := newCells_alloc h
            obtain ⟨i', v, us, h1, h2, h3, h4, h5, h6⟩ := zeroOf_ok hz
            rw [hi] at h1
            cases h1
            obtain ⟨us', r1, r2, r3⟩ := aFill_ok (us := ⟨replV len us⟩) hx ((h4 ρ z).repl len) hf
            have hsz : us'.toList.length = len * i.size := by simp only [Array.length_toList, r3]; simp [replV_length, h6]
            refine ⟨us'.toList, e, .slice (some ⟨w.heap.size, 0, none⟩) len len, ?_, r2, fun ρ' q3 => .slice _ 0 len len true i.size _ 0 _ len _ q3 (Nat.le_refl _) (Nat.le_refl _) (fun _ => rfl) (fun _ => rfl) (by omega)⟩
            simp only [Instr.buildSlice, Sem.run_bind, run_und hd, Result.andThen, run_sz hi, if_neg (show ¬ len * i.size > 2 ^ 24 by omega)]
            by_cases h0 : len * i.size = 0
            · have e0 : replV len us = [] := List.eq_nil_of_length_eq_zero (by rw [replV_length, h6]; exact h0)
              rw [e0] at r1
              have e1 : ∀ f : Nat → Value, (Array.range (len * i.size)).map f = #[] := fun f => by rw [h0]; simp
              simp only [h0, if_true, Sem.run_bind, Sem.run_pure, Result.andThen]
              have e2 : ∀ f : Nat → Value, (Array.range 0).map f = #[] := fun f => by simp
              simp [e2, r1, Result.andThen, run_newRow]
            · have harr := range_zero us i.size _ len h6 rfl
              simp only [h0, if_false, Sem.run_bind, run_zero hi h2, Sem.run_pure, Result.andThen, h3, harr, r1]
              simp [run_newRow]
          · cases h
      · cases h
    · cases h
  case makeSlice t l c =>
    have hx := evalO_ok hg he l
    have hc := evalO_ok hg he c
    generalize a.eval l = xv at hx ⊢
    generalize a.eval c = cv at hc ⊢
    generalize evalO cx e l = xa at h hx
    generalize evalO cx e c = ca at h hc
    refine ⟨_, ?_, Sem.run_bind ..⟩
    unfold aMakeSlice at h
    split at h
    · rename_i e k1 l k2 c hd
      split at h
      · rename_i i zs hi hz
        split at h
        · rename_i hb
          obtain ⟨rfl, rfl⟩ := newCells_alloc h
          cases hx
          cases hc
          obtain ⟨h0, h1, h2, h3⟩ := hb
          obtain ⟨i', v, us, g1, g2, g3, g4, g5, g6⟩ := zeroOf_ok hz
          rw [hi] at g1
          cases g1
          have hrl : (replV c.toNat us).length = c.toNat * i.size := by rw [replV_length, g6]
          refine ⟨replV c.toNat us, e, .slice (some ⟨w.heap.size, 0, none⟩) l.toNat c.toNat, ?_, (g4 ρ z).repl c.toNat, fun ρ' q3 => .slice _ 0 _ _ true i.size _ 0 _ _ _ q3 (by omega) (Nat.le_refl _) (fun _ => rfl) (fun _ => rfl) (by omega)⟩
          have wl : IntKind.i64.wrap l = l := IntWalk.i64_in l (by omega)
          have wc : IntKind.i64.wrap c = c := IntWalk.i64_in c (by omega)
          have t1 : ¬ ((i.bytes : Int) * c > 2 ^ 48) := by omega
          have n1 : ¬ c < 0 := by omega
          have n2 : ¬ l < 0 := by omega
          have n3 : ¬ l > c := by omega
          have harr := range_zero us i.size _ c.toNat g6 rfl
          simp only [Instr.makeSlice, Sem.run_bind, run_und hd, Result.andThen, asInt, asIntOf, Sem.run_pure, run_inf hi, wl, wc, n1, n2, n3, t1, decide_false, Bool.or_false, Bool.false_eq_true, if_false]
          have hask : (askRoom (c.toNat * i.bytes)).run cx.P w = .ok () w := by
            unfold askRoom; split <;> rfl
          simp only [hask, run_sz hi]
          by_cases z0 : c.toNat * i.size = 0
          · have e0 : replV c.toNat us = [] := List.eq_nil_of_length_eq_zero (by rw [hrl]; exact z0)
            simp only [z0, if_true, Sem.run_bind, Sem.run_pure, Result.andThen]
            have e2 : ∀ f : Nat → Value, (Array.range 0).map f = #[] := fun f => by simp
            simp [e2, run_newRow, e0]
          · simp only [z0, if_false, Sem.run_bind, run_zero hi g2, Sem.run_pure, Result.andThen, g3, harr]
            simp [run_newRow]
        · cases h
      · cases h
    · cases h
end
section
variable {H : Heap} {ρ : Pl} {z : Fz} {w0 w : World} {pv : Pv}
/-- A block more to protect, a name less that is kept. -/
def Pv.more (pv : Pv) (b : Nat) (o : Obj) (id : Nat) : Pv := ⟨fun b' => if b' = b then some o else pv b', fun i => pv.rv i ∧ i ≠ id⟩
def Pv.less (pv : Pv) (b : Nat) : Pv := ⟨fun b' => if b' = b then none else pv b', pv.rv⟩
/-- A place of its own, made while others run: its block is protected. -/
theorem Rel.float (h : Rel H ρ z pv w0 w) (o : Obj) {id : Nat} (n : Nat) (hid : ρ id = none) (hlt : id < H.nx) :
    Rel H (plSet ρ id (w.heap.size, 0, n)) z (pv.more w.heap.size o id) w0 (w.alloc o) ∧ Ext ρ (plSet ρ id (w.heap.size, 0, n)) z z := by
  have hE : Ext ρ (plSet ρ id (w.heap.size, 0, n)) z z := ⟨fun i p hp => by
    have : i ≠ id := fun hh => by subst hh; rw [hid] at hp; cases hp
    rw [plSet_ne _ _ this]; exact hp, fun _ _ _ k => k⟩
  have hp := h.push o
  have hg : ∀ {i : Nat} {ob : Ob}, H.t.get i = some ob → i ≠ id := fun {i ob} g hh => by
    obtain ⟨b, o', n', h1, _⟩ := h.live i ob g
    subst hh; rw [hid] at h1; cases h1
  refine ⟨⟨hp.below, hp.fz, fun i ob g => ?_, fun i j ob ob' p p' g1 g2 hne r1 r2 => ?_, fun i hi => ?_, fun b x hb => ?_, fun i el k he => (let ⟨b, n', real, fz, k1, k2⟩ := hp.ty i el k he; ⟨b, n', real, fz, hE.pl _ _ k1, k2⟩), fun i hi => ?_⟩, hE⟩
  · obtain ⟨b, o', n', h1, h2, h3, h4, h5⟩ := h.live i ob g
    have hb := h3.lt
    obtain ⟨b2, o2, n2, k1, k2, k3, k4, k5⟩ := hp.live i ob g
    rw [h1] at k1
    cases k1
    refine ⟨b, o', n', by rw [plSet_ne _ _ (hg g)]; exact h1, h2, k3.mono hE rfl, h4, ?_⟩
    simp only [Pv.more]
    rw [if_neg (by omega)]; exact h5
  · rw [plSet_ne _ _ (hg g1)] at r1
    rw [plSet_ne _ _ (hg g2)] at r2
    exact h.excl i j ob ob' p p' g1 g2 hne r1 r2
  · rw [plSet_ne _ _ (by omega)]; exact h.fresh i hi
  · simp only [Pv.more] at hb
    by_cases hbb : b = w.heap.size
    · rw [if_pos hbb] at hb
      cases hb
      subst hbb
      exact ⟨heap_alloc_new w _, h.fz_none⟩
    · rw [if_neg hbb] at hb
      exact hp.keep b x hb
  · obtain ⟨h1, h2⟩ := hi
    rw [plSet_ne _ _ h2]
    exact h.res i h1
/-- A protected block that has a name becomes a place. -/
theorem Rel.land (h : Rel H ρ z pv w0 w) {id b n : Nat} {o : Obj} {ob : Ob} (hb : pv b = some o) (hid : ρ id = some (b, 0, n)) (hB : w0.heap.size ≤ b) (hh : Holds ρ z w b 0 n ob) :
    Rel (H.put id ob) ρ z (pv.less b) w0 w := by
  have other : ∀ {i : Nat} {ob' : Ob} {p : Nat × Nat × Nat}, H.t.get i = some ob' → ρ i = some p → p.1 ≠ b := fun {i ob' p} g r hh => by
    obtain ⟨b1, o1, n1, k1, _, _, _, k5⟩ := h.live i ob' g
    rw [k1] at r
    cases r
    simp only at hh
    subst hh
    rw [k5] at hb; cases hb
  refine ⟨h.below, h.fz, fun i ob' g => ?_, fun i j ob1 ob2 p p' g1 g2 hne r1 r2 => ?_, h.fresh, fun b' x hb' => ?_, h.ty, fun i hi => h.res i hi⟩
  · simp only [Heap.put, T.get_set] at g
    by_cases hi : i = id
    · rw [if_pos hi] at g
      cases g
      subst hi
      exact ⟨b, 0, n, hid, hB, hh, (h.keep b o hb).2, by simp [Pv.less]⟩
    · rw [if_neg hi] at g
      obtain ⟨b1, o1, n1, k1, k2, k3, k4, k5⟩ := h.live i ob' g
      refine ⟨b1, o1, n1, k1, k2, k3, k4, ?_⟩
      simp only [Pv.less]
      split
      · rfl
      · exact k5
  · simp only [Heap.put, T.get_set] at g1 g2
    by_cases hi : i = id
    · rw [if_neg (by omega)] at g2
      rw [hi, hid] at r1
      cases r1
      exact fun hh => other g2 r2 hh.symm
    · rw [if_neg hi] at g1
      by_cases hj : j = id
      · rw [hj, hid] at r2
        cases r2
        exact other g1 r1
      · rw [if_neg hj] at g2
        exact h.excl i j ob1 ob2 p p' g1 g2 hne r1 r2
  · simp only [Pv.less] at hb'
    split at hb'
    · cases hb'
    · exact h.keep b' x hb'
/-- Names more that are kept. -/
theorem Rel.reserve (h : Rel H ρ z pv w0 w) (n : Nat) : Rel ⟨H.t, H.nx + n, H.e⟩ ρ z ⟨pv.blk, fun i => pv.rv i ∨ (H.nx ≤ i ∧ i < H.nx + n)⟩ w0 w :=
  ⟨h.below, h.fz, h.live, h.excl, fun i hi => h.fresh i (by simp only at hi; omega), h.keep, h.ty, fun i hi => by
    rcases hi with hi | hi
    · obtain ⟨h1, h2⟩ := h.res i hi
      exact ⟨h1, by simp only; omega⟩
    · exact ⟨h.fresh i hi.1, hi.2⟩⟩
/-- Fewer names kept, the same blocks. -/
theorem Rel.weaken (h : Rel H ρ z pv w0 w) {pv' : Pv} (hb : ∀ b, pv' b = pv b) (hr : ∀ i, pv'.rv i → pv.rv i) : Rel H ρ z pv' w0 w :=
  ⟨h.below, h.fz, fun i ob g => by
    obtain ⟨b, o, n, h1, h2, h3, h4, h5⟩ := h.live i ob g
    exact ⟨b, o, n, h1, h2, h3, h4, by rw [hb]; exact h5⟩, h.excl, h.fresh, fun b x hx => h.keep b x (by rw [← hb]; exact hx), h.ty, fun i hi => h.res i (hr i hi)⟩
end
/-- One operation in a region, with the value that it leaves. -/
theorem step1_val {cx : Cx} {e : Env} {H : Heap} {ρ : Pl} {z : Fz} {pv : Pv} {w0 w : World} {a : Act} (hN : CxOk cx) {Q : Exit → Act → World → Prop} {K : Act → World → Prop} {o : Oper} {x : AV} {H' : Heap}
    (hR : Rel H ρ z pv w0 w) (he : ERel e ρ z a) (hg : GlOk ρ z cx.gl) (hs : SL cx e H o x H')
    (hK : ∀ ρ' z' u w', Ext ρ ρ' z z' → Rel H' ρ' z' pv w0 w' → VR ρ' z' x u → K (a.put o.dst u) w') : o.wp cx.P a w K Q := by
  unfold SL at hs
  split at hs
  · rename_i y H1 ha
    obtain ⟨rfl, rfl⟩ := hs
    obtain ⟨u, w', ρ', h1, h2, h3, h4⟩ := aop_ok hN hg hR he ha
    unfold Oper.wp
    rw [h1, Oper.upon_value]
    exact hK ρ' z _ _ h3 h2 h4
  · rename_i H1 ha
    obtain ⟨rfl, rfl⟩ := hs
    obtain ⟨w', h1, h2⟩ := aop_ok hN hg hR he ha
    unfold Oper.wp
    rw [h1, Oper.upon_skip]
    exact hK ρ z _ _ (Ext.refl _ _) h2 (.tuple _ _ .nil)
  · rename_i f args ha
    obtain ⟨vs, fn, c, h1, h2, _, _⟩ := aop_ok hN hg hR he ha
    unfold Oper.wp
    rw [h1, Oper.upon_enter]
    refine (hs ρ z pv w0 w vs hR hg h2).mono fun en w' hq => ?_
    obtain ⟨u, ρ', z', y, K1, rfl, q1, q2, q3, rfl, rfl⟩ := hq
    exact hK ρ' z' _ _ q2 q1 q3
  · exact hs.elim
end Go.Eng
end
section
namespace Go.Eng
open Go.RowKit
theorem again_ok {cx : Cx} {H : Heap} {o : Oper} {e : Env} {x : AV} (h : again cx H o e x = true) : aq cx e H o = some x := by
  unfold again at h
  split at h
  · rename_i y hy
    rw [hy, AV.same_eq h]
  · cases h
theorem chkH_ok {cx : Cx} {b : Nat} {o : Oper} {e : Env} {x : AV} {al : List FE} : ∀ {hs : List HE}, chkH cx b o e x al hs = true → ∀ h ∈ hs, bit b h.i = true ∨ aq cx e (landL (sel b h.ld al) h.H) o = some x
  | [], _, r, hr => by cases hr
  | r :: rs, h, r', hr => by
    simp only [chkH, Bool.and_eq_true, Bool.or_eq_true] at h
    rcases List.mem_cons.1 hr with rfl | hr
    · exact h.1.imp id again_ok
    · exact chkH_ok h.2 r' hr
theorem chkQ_ok {cx : Cx} {b : Nat} {H : Heap} {ld : Nat} {al : List FE} : ∀ {qs : List QE}, chkQ cx b H ld al qs = true → ∀ q ∈ qs, bit b q.i = true ∨ aq cx q.e (landL (sel q.b ld al) H) q.o = some q.x
  | [], _, r, hr => by cases hr
  | r :: rs, h, r', hr => by
    simp only [chkQ, Bool.and_eq_true, Bool.or_eq_true] at h
    rcases List.mem_cons.1 hr with rfl | hr
    · exact h.1.imp id again_ok
    · exact chkQ_ok h.2 r' hr
inductive SC (call : CallF) (cx : Cx) (ops : Array Oper) (o : Oper) (s s' : DS) (b : Nat) (x : AV) (cs : List AV) : Nat → Prop
  | skip (hw : wantedA ops (s.e.look (reads ops o)) o = some false) (hx : x = .tuple []) (hH : s'.H = s.H) (hlm : s'.lm = s.lm) (hid : s'.id = s.id) (hal : s'.al = s.al) (hld : s'.ld = s.ld) (hhs : s'.hs = s.hs) (hqs : s'.qs = s.qs) :
      SC call cx ops o s s' b x cs 0
  | float (hw : wantedA ops (s.e.look (reads ops o)) o = some true) (hf : aFl cx (s.e.look (reads ops o)) o s.id = some (x, cs)) (hH : s'.H = s.H) (hlm : s'.lm = s.lm) (hid : s'.id = s.id + 1) (hal : s'.al = ⟨s.i, s.id, cs⟩ :: s.al)
      (hld : s'.ld = s.ld) (hhs : s'.hs = s.hs) (hqs : s'.qs = s.qs) : SC call cx ops o s s' b x cs 1
  | quiet (hw : wantedA ops (s.e.look (reads ops o)) o = some true) (hq : isQ o.op = true) (ha : aq cx (s.e.look (reads ops o)) (landL (sel b s.ld s.al) s.H) o = some x) (hc : ∀ h ∈ s.hs, bit b h.i = true ∨ aq cx (s.e.look (reads ops o)) (landL (sel b h.ld s.al) h.H) o = some x)
      (hH : s'.H = s.H) (hlm : s'.lm = s.lm) (hid : s'.id = s.id) (hal : s'.al = s.al) (hld : s'.ld = s.ld) (hhs : s'.hs = s.hs) (hqs : s'.qs = ⟨s.i, b, o, s.e.look (reads ops o), x⟩ :: s.qs) : SC call cx ops o s s' b x cs 2
  | loud (hw : wantedA ops (s.e.look (reads ops o)) o = some true) (hm : Nat.beq (Nat.land s.lm b) s.lm = true) (hs : SL cx (s.e.look (reads ops o)) (landL (sel b s.ld s.al) s.H) o x s'.H)
      (hc : ∀ q ∈ s.qs, bit b q.i = true ∨ aq cx q.e (landL (sel q.b (Nat.lor s.ld b) s.al) s'.H) q.o = some q.x) (hlm : s'.lm = Nat.lor s.lm (Nat.shiftLeft 1 s.i)) (hid : s'.id = s.id) (hal : s'.al = s.al) (hld : s'.ld = Nat.lor s.ld b) (hhs : s'.hs = ⟨s.i, s.H, s.ld⟩ :: s.hs) (hqs : s'.qs = s.qs) :
      SC call cx ops o s s' b x cs 3
structure SF (call : CallF) (cx : Cx) (ops : Array Oper) (o : Oper) (s s' : DS) (b : Nat) (x : AV) (cs : List AV) (k : Nat) : Prop where
  mask : bmask s.bs s.i o.after.toList 0 = some b
  clash : clash b o.dst (reads ops o) s.rs = true
  i : s'.i = s.i + 1
  put : s.e.put o.dst x = some s'.e
  bs : s'.bs = s.bs.set s.i b
  rs : s'.rs = ⟨s.i, o.dst, reads ops o⟩ :: s.rs
  sc : SC call cx ops o s s' b x cs k
theorem stepD_facts {call : CallF} {cx : Cx} {ops : Array Oper} {o : Oper} {s s' : DS} (hC : CallOk cx call) (h : stepD call cx ops o s = some s') : ∃ b x cs k, SF call cx ops o s s' b x cs k := by
  unfold stepD at h
  split at h
  · cases h
  · rename_i b hb
    cases hc : clash b o.dst (reads ops o) s.rs with
    | false => rw [hc] at h; cases h
    | true =>
      rw [hc, cond_true] at h
      split at h
      · cases h
      · rename_i hw
        unfold putSkip at h
        split at h
        · rename_i e' he
          cases h
          exact ⟨b, _, [], 0, hb, hc, rfl, he, rfl, rfl, .skip hw rfl rfl rfl rfl rfl rfl rfl rfl⟩
        · cases h
      · rename_i hw
        cases hF : isF o.op with
        | true =>
          rw [hF, cond_true] at h
          unfold putF at h
          split at h
          · rename_i x cs hf
            split at h
            · rename_i e' he
              cases h
              exact ⟨b, _, cs, 1, hb, hc, rfl, he, rfl, rfl, .float hw hf rfl rfl rfl rfl rfl rfl rfl⟩
            · cases h
          · cases h
        | false =>
          rw [hF, cond_false] at h
          cases hq : isQ o.op with
          | true =>
            rw [hq, cond_true] at h
            unfold putQ at h
            split at h
            · rename_i x ha
              cases hch : chkH cx b o (s.e.look (reads ops o)) x s.al s.hs with
              | false => rw [hch] at h; cases h
              | true =>
                rw [hch, cond_true] at h
                split at h
                · rename_i e' he
                  cases h
                  exact ⟨b, _, [], 2, hb, hc, rfl, he, rfl, rfl, .quiet hw hq ha (chkH_ok hch) rfl rfl rfl rfl rfl rfl rfl⟩
                · cases h
            · cases h
          | false =>
            rw [hq, cond_false] at h
            unfold putL at h
            cases hm : Nat.beq (Nat.land s.lm b) s.lm with
            | false => rw [hm] at h; cases h
            | true =>
              rw [hm, cond_true] at h
              split at h
              · rename_i x H' hs
                cases hch : chkQ cx b H' (Nat.lor s.ld b) s.al s.qs with
                | false => rw [hch] at h; cases h
                | true =>
                  rw [hch, cond_true] at h
                  split at h
                  · rename_i e' he
                    cases h
                    exact ⟨b, _, [], 3, hb, hc, rfl, he, rfl, rfl, .loud hw hm (SL_of hC hs) (chkQ_ok hch) rfl rfl rfl rfl rfl rfl⟩
                  · cases h
              · cases h
theorem runD_trace {call : CallF} {cx : Cx} {ops : Array Oper} : ∀ (l : List Oper) (s s' : DS), runD call cx ops l s = some s' →
    ∃ σ : Nat → DS, σ 0 = s ∧ σ l.length = s' ∧ ∀ j o, l[j]? = some o → stepD call cx ops o (σ j) = some (σ (j + 1))
  | [], s, s', h => by
    simp only [runD, Option.some.injEq] at h
    exact ⟨fun _ => s, rfl, h, fun j o hj => by simp at hj⟩
  | o :: l, s, s', h => by
    simp only [runD] at h
    split at h
    · rename_i s1 h1
      obtain ⟨σ, g0, g1, g2⟩ := runD_trace l s1 s' h
      refine ⟨fun j => match j with | 0 => s | j + 1 => σ j, rfl, g1, fun j o' hj => ?_⟩
      cases j with
      | zero => simp at hj; subst hj; simp only [g0]; exact h1
      | succ j => exact g2 j o' (by simpa using hj)
    · cases h
/-- All that is known of a run. -/
structure Plan (call : CallF) (cx : Cx) (ops : Array Oper) (e0 : Env) (H0 : Heap) (id0 : Nat) (σ : Nat → DS) (B : Nat → Nat) (X : Nat → AV) (C : Nat → List AV) (K : Nat → Nat) : Prop where
  zero : σ 0 = ⟨0, e0, H0, 0, id0, [], 0, [], [], .nil, []⟩
  st : ∀ j o, ops[j]? = some o → SF call cx ops o (σ j) (σ (j + 1)) (B j) (X j) (C j) (K j)
theorem plan_of {call : CallF} {cx : Cx} {ops : Array Oper} {e0 : Env} {H0 : Heap} {id0 : Nat} {s' : DS} (hC : CallOk cx call) (h : runD call cx ops ops.toList ⟨0, e0, H0, 0, id0, [], 0, [], [], .nil, []⟩ = some s') :
    ∃ σ B X C K, Plan call cx ops e0 H0 id0 σ B X C K ∧ σ ops.size = s' := by
  obtain ⟨σ, g0, g1, g2⟩ := runD_trace _ _ _ h
  have hex : ∀ j, ∃ q : Nat × AV × List AV × Nat, ∀ o, ops[j]? = some o → SF call cx ops o (σ j) (σ (j + 1)) q.1 q.2.1 q.2.2.1 q.2.2.2 := fun j => by
    cases ho : ops[j]? with
    | none => exact ⟨(0, .undef, [], 0), fun o hh => by cases hh⟩
    | some o =>
      obtain ⟨b, x, cs, k, hf⟩ := stepD_facts hC (g2 j o (by simpa using ho))
      exact ⟨(b, x, cs, k), fun o' hh => by cases hh; exact hf⟩
  obtain ⟨q, hq⟩ := Classical.axiomOfChoice hex
  exact ⟨σ, fun j => (q j).1, fun j => (q j).2.1, fun j => (q j).2.2.1, fun j => (q j).2.2.2, ⟨g0, fun j o ho => hq j o ho⟩, by simpa using g1⟩
theorem bmask_ok {bs : T Nat} {i : Nat} : ∀ (es : List Edge) (m b : Nat), bmask bs i es m = some b → (∀ e ∈ es, Region.binds .any e = true → e.on < i) ∧
    ∀ t, bit b t = true → bit m t = true ∨ ∃ e ∈ es, Region.binds .any e = true ∧ (t = e.on ∨ ∃ b', bs.get e.on = some b' ∧ bit b' t = true)
  | [], m, b, h => by simp [bmask] at h; subst h; exact ⟨by simp, fun t ht => .inl ht⟩
  | e :: es, m, b, h => by
    simp only [bmask] at h
    cases hb : Region.binds .any e with
    | false =>
      rw [hb, cond_false] at h
      obtain ⟨h1, h2⟩ := bmask_ok es m b h
      refine ⟨fun e' he hbe => ?_, fun t ht => ?_⟩
      · rcases List.mem_cons.1 he with rfl | he
        · rw [hb] at hbe; cases hbe
        · exact h1 e' he hbe
      · rcases h2 t ht with k | ⟨e', k1, k2⟩
        · exact .inl k
        · exact .inr ⟨e', List.mem_cons_of_mem _ k1, k2⟩
    | true =>
      rw [hb, cond_true] at h
      cases hl : Nat.blt e.on i with
      | false => rw [hl] at h; cases h
      | true =>
        rw [hl, cond_true] at h
        split at h
        · rename_i b1 hb1
          obtain ⟨h1, h2⟩ := bmask_ok es _ b h
          refine ⟨fun e' he hbe => ?_, fun t ht => ?_⟩
          · rcases List.mem_cons.1 he with rfl | he
            · simpa [Nat.blt_eq] using hl
            · exact h1 e' he hbe
          · rcases h2 t ht with k | ⟨e', k1, k2⟩
            · rw [bit_eq] at k
              have k' : ((m ||| b1) ||| (1 <<< e.on)).testBit t = true := k
              rw [Nat.testBit_or, Nat.testBit_or, Nat.shiftLeft_eq, Nat.one_mul, Nat.testBit_two_pow] at k'
              simp only [Bool.or_eq_true, decide_eq_true_eq] at k'
              rcases k' with (k' | k') | k'
              · exact .inl (by rw [bit_eq]; exact k')
              · exact .inr ⟨e, List.mem_cons_self, hb, .inr ⟨b1, hb1, by rw [bit_eq]; exact k'⟩⟩
              · exact .inr ⟨e, List.mem_cons_self, hb, .inl k'.symm⟩
            · exact .inr ⟨e', List.mem_cons_of_mem _ k1, k2⟩
        · cases h
theorem off_ok {d : Tmp} : ∀ {ts : List Tmp}, off (some d) ts = true → d ∉ ts
  | [], _ => by simp
  | t :: ts, h => by
    simp only [off, Bool.and_eq_true, Bool.not_eq_true'] at h
    have h1 : t ≠ d := fun hh => by subst hh; simp at h
    have h2 := off_ok h.2
    simp only [List.mem_cons, not_or]
    exact ⟨fun hh => h1 hh.symm, h2⟩
theorem apartD_ok {a b : Tmp} (h : apartD (some a) (some b) = true) : a ≠ b := fun hh => by subst hh; simp [apartD] at h
theorem clash_ok {b : Nat} {d : Option Tmp} {ts : List Tmp} : ∀ {rs : List RE}, clash b d ts rs = true → ∀ r ∈ rs, (bit b r.i = true ∨ (off r.d ts = true ∧ off d r.ts = true)) ∧ apartD r.d d = true
  | [], _, r, hr => by cases hr
  | r :: rs, h, r', hr => by
    simp only [clash, Bool.and_eq_true, Bool.or_eq_true] at h
    rcases List.mem_cons.1 hr with rfl | hr
    · exact h.1
    · exact clash_ok h.2 r' hr
section
variable {call : CallF} {cx : Cx} {ops : Array Oper} {e0 : Env} {H0 : Heap} {id0 : Nat} {σ : Nat → DS} {B : Nat → Nat} {X : Nat → AV} {C : Nat → List AV} {K : Nat → Nat}
theorem at_lt {i : Nat} (h : i < ops.size) : ∃ o, ops[i]? = some o := ⟨ops[i], by simp [h]⟩
theorem lt_of_at {i : Nat} {o : Oper} (h : ops[i]? = some o) : i < ops.size := (Array.getElem?_eq_some_iff.1 h).1
theorem put_some {e e' : Env} {d : Option Tmp} {x : AV} (h : e.put d x = some e') : e'.sz = e.sz ∧ (∀ t, d = some t → t < e.sz) ∧ ∀ t, e'.t.get t = if d = some t then some x else e.t.get t := by
  cases d with
  | none => simp [Env.put] at h; subst h; simp
  | some d =>
    simp only [Env.put] at h
    cases hb : Nat.blt d e.sz with
    | false => rw [hb] at h; cases h
    | true =>
      rw [hb] at h
      cases h
      refine ⟨rfl, fun t ht => by cases ht; simpa [Nat.blt_eq] using hb, fun t => ?_⟩
      simp only [T.get_set, Option.some.injEq]
      by_cases ht : t = d
      · subst ht; simp
      · rw [if_neg ht, if_neg (fun hh => ht hh.symm)]
variable (p : Plan call cx ops e0 H0 id0 σ B X C K)
 include p
theorem Plan.idx : ∀ j, j ≤ ops.size → (σ j).i = j
  | 0, _ => by rw [p.zero]
  | j + 1, h => by
    obtain ⟨o, ho⟩ := at_lt (i := j) (ops := ops) (by omega)
    rw [(p.st j o ho).i, Plan.idx j (by omega)]
theorem Plan.bs : ∀ j, j ≤ ops.size → ∀ i, (σ j).bs.get i = if i < j then some (B i) else none
  | 0, _, i => by rw [p.zero]; simp [T.get]
  | j + 1, h, i => by
    obtain ⟨o, ho⟩ := at_lt (i := j) (ops := ops) (by omega)
    rw [(p.st j o ho).bs, p.idx j (by omega), T.get_set, Plan.bs j (by omega)]
    by_cases hij : i = j
    · subst hij; simp
    · rw [if_neg hij]
      by_cases h1 : i < j
      · rw [if_pos h1, if_pos (by omega)]
      · rw [if_neg h1, if_neg (by omega)]
theorem Plan.after_lt {j : Nat} {o : Oper} (ho : ops[j]? = some o) {e : Edge} (he : e ∈ o.after) (hb : Region.binds .any e = true) : e.on < j := by
  have := (bmask_ok _ _ _ (p.st j o ho).mask).1 e (by simpa using he) hb
  rw [p.idx j (by have := lt_of_at ho; omega)] at this
  exact this
theorem Plan.bit_on {j : Nat} {o : Oper} (ho : ops[j]? = some o) {t : Nat} (ht : bit (B j) t = true) :
    ∃ e ∈ o.after, Region.binds .any e = true ∧ (t = e.on ∨ bit (B e.on) t = true) := by
  have hj := lt_of_at ho
  rcases (bmask_ok _ _ _ (p.st j o ho).mask).2 t ht with k | ⟨e, k1, k2, k3⟩
  · rw [bit_eq] at k; simp at k
  · refine ⟨e, by simpa using k1, k2, k3.imp id fun ⟨b', h1, h2⟩ => ?_⟩
    rw [p.bs j (by omega)] at h1
    split at h1
    · cases h1; exact h2
    · cases h1
/-- What must stand before is listed. -/
theorem Plan.before {L : Nat → Prop} (hD : ∀ j o, ops[j]? = some o → L j → ∀ e ∈ o.after, Region.binds .any e = true → L e.on) :
    ∀ (n j : Nat) (o : Oper), j < n → ops[j]? = some o → (∀ e ∈ o.after, Region.binds .any e = true → L e.on) → ∀ t, bit (B j) t = true → L t ∧ t < j
  | 0, j, _, h, _, _, _, _ => by omega
  | n + 1, j, o, h, ho, hL, t, ht => by
    obtain ⟨e, h1, h2, h3⟩ := p.bit_on ho ht
    have hlt := p.after_lt ho h1 h2
    rcases h3 with rfl | h3
    · exact ⟨hL e h1 h2, hlt⟩
    · obtain ⟨o', ho'⟩ := at_lt (i := e.on) (ops := ops) (by have := lt_of_at ho; omega)
      obtain ⟨k1, k2⟩ := Plan.before hD n e.on o' (by omega) ho' (hD e.on o' ho' (hL e h1 h2)) t h3
      exact ⟨k1, by omega⟩
theorem Plan.bit_lt {j : Nat} (hj : j < ops.size) {t : Nat} (ht : bit (B j) t = true) : t < j := by
  obtain ⟨o, ho⟩ := at_lt hj
  exact (p.before (L := fun _ => True) (fun _ _ _ _ _ _ _ => trivial) (j + 1) j o (by omega) ho (fun _ _ _ => trivial) t ht).2
theorem Plan.rs : ∀ j, j ≤ ops.size → ∀ i o, i < j → ops[i]? = some o → (⟨i, o.dst, reads ops o⟩ : RE) ∈ (σ j).rs
  | 0, _, i, o, h, _ => by omega
  | j + 1, h, i, o, hi, ho => by
    obtain ⟨o', ho'⟩ := at_lt (i := j) (ops := ops) (by omega)
    rw [(p.st j o' ho').rs, p.idx j (by omega)]
    by_cases hij : i = j
    · subst hij; rw [ho] at ho'; cases ho'; exact List.mem_cons_self
    · exact List.mem_cons_of_mem _ (Plan.rs j (by omega) i o (by omega) ho)
theorem Plan.pair {i j : Nat} {oi oj : Oper} (hij : i < j) (hi : ops[i]? = some oi) (hj : ops[j]? = some oj) :
    (∀ t, oi.dst = some t → t ∈ reads ops oj → bit (B j) i = true) ∧ (∀ t, oj.dst = some t → t ∈ reads ops oi → bit (B j) i = true) ∧ (∀ t, oi.dst = some t → oj.dst ≠ some t) := by
  obtain ⟨h1, h2⟩ := clash_ok (p.st j oj hj).clash _ (p.rs j (by have := lt_of_at hj; omega) i oi hij hi)
  simp only at h1 h2
  refine ⟨fun t ht hr => ?_, fun t ht hr => ?_, fun t ht hh => ?_⟩
  · rcases h1 with h1 | h1
    · exact h1
    · rw [ht] at h1; exact absurd hr (off_ok h1.1)
  · rcases h1 with h1 | h1
    · exact h1
    · rw [ht] at h1; exact absurd hr (off_ok h1.2)
  · rw [ht, hh] at h2; exact apartD_ok h2 rfl
theorem Plan.sz : ∀ j, j ≤ ops.size → (σ j).e.sz = e0.sz
  | 0, _ => by rw [p.zero]
  | j + 1, h => by
    obtain ⟨o, ho⟩ := at_lt (i := j) (ops := ops) (by omega)
    rw [(put_some (p.st j o ho).put).1, Plan.sz j (by omega)]
theorem Plan.env : ∀ j, j ≤ ops.size → ∀ t y, (σ j).e.t.get t = some y →
    (∃ i o, i < j ∧ ops[i]? = some o ∧ o.dst = some t ∧ y = X i) ∨ ((∀ i o, i < j → ops[i]? = some o → o.dst ≠ some t) ∧ e0.t.get t = some y)
  | 0, _, t, y, hy => by rw [p.zero] at hy; exact .inr ⟨fun i o h => by omega, hy⟩
  | j + 1, h, t, y, hy => by
    obtain ⟨o, ho⟩ := at_lt (i := j) (ops := ops) (by omega)
    rw [(put_some (p.st j o ho).put).2.2 t] at hy
    by_cases hd : o.dst = some t
    · rw [if_pos hd] at hy
      cases hy
      exact .inl ⟨j, o, by omega, ho, hd, rfl⟩
    · rw [if_neg hd] at hy
      rcases Plan.env j (by omega) t y hy with ⟨i, o', h1, h2⟩ | ⟨h1, h2⟩
      · exact .inl ⟨i, o', by omega, h2⟩
      · refine .inr ⟨fun i o' hi ho' => ?_, h2⟩
        by_cases hij : i = j
        · subst hij; rw [ho] at ho'; cases ho'; exact hd
        · exact h1 i o' (by omega) ho'
theorem Plan.heap {q : Nat} : ∀ j, q ≤ j → j ≤ ops.size → (∀ i, q ≤ i → i < j → K i ≠ 3) → (σ j).H = (σ q).H ∧ (σ j).ld = (σ q).ld
  | 0, h, _, _ => by have : q = 0 := by omega
                     rw [this]; exact ⟨rfl, rfl⟩
  | j + 1, h, hj, hk => by
    by_cases hq : q = j + 1
    · rw [hq]; exact ⟨rfl, rfl⟩
    · obtain ⟨o, ho⟩ := at_lt (i := j) (ops := ops) (by omega)
      have ih := Plan.heap j (by omega) (by omega) fun i h1 h2 => hk i h1 (by omega)
      have := hk j (by omega) (by omega)
      have hs := (p.st j o ho).sc
      generalize K j = k at *
      cases hs with
      | skip _ _ hH _ _ _ hld => rw [hH, hld]; exact ih
      | float _ _ hH _ _ _ hld => rw [hH, hld]; exact ih
      | quiet _ _ _ _ hH _ _ _ hld => rw [hH, hld]; exact ih
      | loud => omega
theorem Plan.ld : ∀ j, j ≤ ops.size → ∀ f, bit (σ j).ld f = true ↔ ∃ l, l < j ∧ K l = 3 ∧ bit (B l) f = true
  | 0, _, f => by rw [p.zero]; simp [bit_eq]
  | j + 1, h, f => by
    obtain ⟨o, ho⟩ := at_lt (i := j) (ops := ops) (by omega)
    have ih := Plan.ld j (by omega) f
    have hs := (p.st j o ho).sc
    have same : (σ (j + 1)).ld = (σ j).ld → K j ≠ 3 → (bit (σ (j + 1)).ld f = true ↔ ∃ l, l < j + 1 ∧ K l = 3 ∧ bit (B l) f = true) := fun he hk => by
      rw [he, ih]
      constructor
      · rintro ⟨l, h1, h2⟩; exact ⟨l, by omega, h2⟩
      · rintro ⟨l, h1, h2, h3⟩
        exact ⟨l, by rcases Nat.lt_or_ge l j with k | k; exact k; (have : l = j := by omega); subst this; exact absurd h2 hk, h2, h3⟩
    generalize hk : K j = k at hs
    cases hs with
    | skip _ _ _ _ _ _ hld => exact same hld (by omega)
    | float _ _ _ _ _ _ hld => exact same hld (by omega)
    | quiet _ _ _ _ _ _ _ _ hld => exact same hld (by omega)
    | loud _ _ _ _ _ _ _ hld =>
      have e : bit (Nat.lor (σ j).ld (B j)) f = (bit (σ j).ld f || bit (B j) f) := by
        rw [bit_eq, bit_eq, bit_eq]
        exact Nat.testBit_or _ _ _
      rw [hld, e, Bool.or_eq_true, ih]
      constructor
      · rintro (⟨l, h1, h2⟩ | h1)
        · exact ⟨l, by omega, h2⟩
        · exact ⟨j, by omega, hk, h1⟩
      · rintro ⟨l, h1, h2, h3⟩
        rcases Nat.lt_or_ge l j with k | k
        · exact .inl ⟨l, k, h2, h3⟩
        · have : l = j := by omega
          subst this; exact .inr h3
theorem Plan.lm : ∀ j, j ≤ ops.size → ∀ i, i < j → K i = 3 → bit (σ j).lm i = true
  | 0, _, i, h, _ => by omega
  | j + 1, h, i, hi, hk => by
    obtain ⟨o, ho⟩ := at_lt (i := j) (ops := ops) (by omega)
    have hs := (p.st j o ho).sc
    by_cases hij : i = j
    · subst hij
      rw [hk] at hs
      cases hs with
      | loud _ _ _ _ hlm =>
        rw [hlm, bit_eq, p.idx i (by omega)]
        have : ((σ i).lm ||| (1 <<< i)).testBit i = true := by simp [Nat.testBit_or, Nat.shiftLeft_eq]
        exact this
    · have ih := Plan.lm j (by omega) i (by omega) hk
      generalize K j = k at *
      cases hs with
      | skip _ _ _ hlm => rw [hlm]; exact ih
      | float _ _ _ hlm => rw [hlm]; exact ih
      | quiet _ _ _ _ _ hlm => rw [hlm]; exact ih
      | loud _ _ _ _ hlm =>
        rw [hlm, bit_eq]
        rw [bit_eq] at ih
        have : ((σ j).lm ||| (1 <<< (σ j).i)).testBit i = true := by simp [Nat.testBit_or, ih]
        exact this
theorem Plan.loud_order {i j : Nat} (hij : i < j) (hj : j < ops.size) (ki : K i = 3) (kj : K j = 3) : bit (B j) i = true := by
  obtain ⟨o, ho⟩ := at_lt hj
  have hs := (p.st j o ho).sc
  rw [kj] at hs
  cases hs with
  | loud _ hm =>
    have h1 := p.lm j (by omega) i hij ki
    have h2 : (σ j).lm &&& B j = (σ j).lm := Nat.eq_of_beq_eq_true hm
    rw [bit_eq] at h1 ⊢
    rw [← h2, Nat.testBit_and, Bool.and_eq_true] at h1
    exact h1.2
theorem Plan.hs : ∀ j, j ≤ ops.size → ∀ i, i < j → K i = 3 → (⟨i, (σ i).H, (σ i).ld⟩ : HE) ∈ (σ j).hs
  | 0, _, i, h, _ => by omega
  | j + 1, h, i, hi, hk => by
    obtain ⟨o, ho⟩ := at_lt (i := j) (ops := ops) (by omega)
    have hs := (p.st j o ho).sc
    by_cases hij : i = j
    · subst hij
      rw [hk] at hs
      cases hs with
      | loud _ _ _ _ _ _ _ _ hhs => rw [hhs, p.idx i (by omega)]; exact List.mem_cons_self
    · have ih := Plan.hs j (by omega) i (by omega) hk
      generalize K j = k at *
      cases hs with
      | skip _ _ _ _ _ _ _ hhs => rw [hhs]; exact ih
      | float _ _ _ _ _ _ _ hhs => rw [hhs]; exact ih
      | quiet _ _ _ _ _ _ _ _ _ hhs => rw [hhs]; exact ih
      | loud _ _ _ _ _ _ _ _ hhs => rw [hhs]; exact List.mem_cons_of_mem _ ih
theorem Plan.qs : ∀ j, j ≤ ops.size → ∀ i o, i < j → K i = 2 → ops[i]? = some o → (⟨i, B i, o, (σ i).e.look (reads ops o), X i⟩ : QE) ∈ (σ j).qs
  | 0, _, i, _, h, _, _ => by omega
  | j + 1, h, i, o', hi, hk, ho' => by
    obtain ⟨o, ho⟩ := at_lt (i := j) (ops := ops) (by omega)
    have hs := (p.st j o ho).sc
    by_cases hij : i = j
    · subst hij
      rw [ho] at ho'
      cases ho'
      rw [hk] at hs
      cases hs with
      | quiet _ _ _ _ _ _ _ _ _ _ hqs => rw [hqs, p.idx i (by omega)]; exact List.mem_cons_self
    · have ih := Plan.qs j (by omega) i o' (by omega) hk ho'
      generalize K j = k at *
      cases hs with
      | skip _ _ _ _ _ _ _ _ hqs => rw [hqs]; exact ih
      | float _ _ _ _ _ _ _ _ hqs => rw [hqs]; exact ih
      | quiet _ _ _ _ _ _ _ _ _ _ hqs => rw [hqs]; exact List.mem_cons_of_mem _ ih
      | loud _ _ _ _ _ _ _ _ _ hqs => rw [hqs]; exact ih
theorem Plan.ids : ∀ j, j ≤ ops.size → id0 ≤ (σ j).id ∧ (σ j).id ≤ id0 + j ∧ ∀ i, i < j → K i = 1 → (σ i).id < (σ j).id
  | 0, _ => by rw [p.zero]; exact ⟨Nat.le_refl _, Nat.le_refl _, fun i h => by omega⟩
  | j + 1, h => by
    obtain ⟨o, ho⟩ := at_lt (i := j) (ops := ops) (by omega)
    have hs := (p.st j o ho).sc
    obtain ⟨h1, h2, h3⟩ := Plan.ids j (by omega)
    generalize hk : K j = k at hs
    cases hs with
    | skip _ _ _ _ hid =>
      rw [hid]
      exact ⟨h1, by omega, fun i hi ki => if hij : i = j then by subst hij; omega else h3 i (by omega) ki⟩
    | float _ _ _ _ hid =>
      rw [hid]
      exact ⟨by omega, by omega, fun i hi ki => if hij : i = j then by subst hij; omega else by have := h3 i (by omega) ki; omega⟩
    | quiet _ _ _ _ _ _ hid =>
      rw [hid]
      exact ⟨h1, by omega, fun i hi ki => if hij : i = j then by subst hij; omega else h3 i (by omega) ki⟩
    | loud _ _ _ _ _ hid =>
      rw [hid]
      exact ⟨h1, by omega, fun i hi ki => if hij : i = j then by subst hij; omega else h3 i (by omega) ki⟩
theorem Plan.id_ne {f g : Nat} (hf : f < ops.size) (hg : g < ops.size) (kf : K f = 1) (kg : K g = 1) (h : f ≠ g) : (σ f).id ≠ (σ g).id := by
  rcases Nat.lt_or_gt_of_ne h with h | h
  · have := (p.ids g (by omega)).2.2 f h kf; omega
  · have := (p.ids f (by omega)).2.2 g h kg; omega
/-- The places of their own so far. -/
theorem Plan.al : ∀ j, j ≤ ops.size →
    (∀ f ∈ (σ j).al, f.i < j ∧ K f.i = 1 ∧ f.id = (σ f.i).id ∧ f.cs = C f.i) ∧
    (∀ i, i < j → K i = 1 → (⟨i, (σ i).id, C i⟩ : FE) ∈ (σ j).al) ∧
    (σ j).al.Pairwise (fun f g => f.i ≠ g.i)
  | 0, _ => by rw [p.zero]; exact ⟨fun f hf => (by cases hf), fun i h => (by omega), List.Pairwise.nil⟩
  | j + 1, h => by
    obtain ⟨o, ho⟩ := at_lt (i := j) (ops := ops) (by omega)
    have hs := (p.st j o ho).sc
    obtain ⟨h1, h2, h3⟩ := Plan.al j (by omega)
    have same : (σ (j + 1)).al = (σ j).al → K j ≠ 1 → (∀ f ∈ (σ (j + 1)).al, f.i < j + 1 ∧ K f.i = 1 ∧ f.id = (σ f.i).id ∧ f.cs = C f.i) ∧
        (∀ i, i < j + 1 → K i = 1 → (⟨i, (σ i).id, C i⟩ : FE) ∈ (σ (j + 1)).al) ∧ (σ (j + 1)).al.Pairwise (fun f g => f.i ≠ g.i) := fun hal k1 => by
      rw [hal]
      refine ⟨fun f hf => ?_, fun i hi ki => ?_, h3⟩
      · obtain ⟨g1, g2⟩ := h1 f hf
        exact ⟨by omega, g2⟩
      · by_cases hij : i = j
        · subst hij; exact absurd ki k1
        · exact h2 i (by omega) ki
    generalize hk : K j = k at hs same
    cases hs with
    | skip _ _ _ _ _ hal => exact same hal (by omega)
    | quiet _ _ _ _ _ _ _ hal => exact same hal (by omega)
    | loud _ _ _ _ _ _ hal => exact same hal (by omega)
    | float _ _ _ _ _ hal =>
      rw [hal, p.idx j (by omega)]
      refine ⟨fun f hf => ?_, fun i hi ki => ?_, .cons (fun f hf => by have := (h1 f hf).1; simp only; omega) h3⟩
      · rcases List.mem_cons.1 hf with rfl | hf
        · exact ⟨by simp only; omega, hk, rfl, rfl⟩
        · obtain ⟨g1, g2⟩ := h1 f hf
          exact ⟨by omega, g2⟩
      · by_cases hij : i = j
        · subst hij; exact List.mem_cons_self
        · exact List.mem_cons_of_mem _ (h2 i (by omega) ki)
/-- What is asked for does not hang on the later ones. -/
theorem Plan.sel_same {j : Nat} (hj : j < ops.size) (ld : Nat) : ∀ m, j ≤ m → m ≤ ops.size → sel (B j) ld (σ m).al = sel (B j) ld (σ j).al
  | 0, h, _ => by have : j = 0 := by omega
                  subst this; rfl
  | m + 1, h, hm => by
    by_cases hq : j = m + 1
    · rw [hq]
    · obtain ⟨o, ho⟩ := at_lt (i := m) (ops := ops) (by omega)
      have ih := Plan.sel_same hj ld m (by omega) (by omega)
      have hs := (p.st m o ho).sc
      generalize K m = k at hs
      cases hs with
      | skip _ _ _ _ _ hal => rw [hal]; exact ih
      | quiet _ _ _ _ _ _ _ hal => rw [hal]; exact ih
      | loud _ _ _ _ _ _ hal => rw [hal]; exact ih
      | float _ _ _ _ _ hal =>
        rw [hal, p.idx m (by omega)]
        have hb : bit (B j) m = false := by
          cases hb : bit (B j) m with
          | false => rfl
          | true => have := p.bit_lt hj hb; omega
        unfold sel at ih ⊢
        rw [List.filter_cons_of_neg (by simp [hb])]
        exact ih
end
end Go.Eng
end
section
namespace Go.Eng
open Go.RowKit
def lst (L : Array Bool) (i : Nat) : Prop := L.getD i false = true
theorem lst_set {L : Array Bool} {j : Nat} (hj : j < L.size) (i : Nat) : lst (L.setIfInBounds j true) i ↔ lst L i ∨ i = j := by
  unfold lst
  by_cases h : j = i
  · subst h; simp [hj]
  · have : i ≠ j := fun hh => h hh.symm
    simp [Array.getElem?_setIfInBounds_ne h, this]
theorem lst_not {L : Array Bool} {j : Nat} (hj : j < L.size) : L.getD j true = false ↔ ¬ lst L j := by
  unfold lst
  simp [hj]
/-- The loud ones before 'p' do not wait for it. -/
def Un (B : Nat → Nat) (K : Nat → Nat) (p i : Nat) : Prop := ∀ l, l < p → K l = 3 → bit (B l) i = false
section
variable {call : CallF} {cx : Cx} {ops : Array Oper} {e0 : Env} {H0 : Heap} {id0 : Nat} {σ : Nat → DS} {B : Nat → Nat} {X : Nat → AV} {C : Nat → List AV} {K : Nat → Nat}
/-- The environment's part. -/
structure IE (ops : Array Oper) (X : Nat → AV) (e0 : Env) (L : Array Bool) (a : Act) (ρ : Pl) (z : Fz) : Prop where
  sz : L.size = ops.size
  down : ∀ j o, ops[j]? = some o → lst L j → ∀ e ∈ o.after, Region.binds .any e = true → lst L e.on
  asz : a.tmps.size = e0.sz
  adf : a.defers = []
  envX : ∀ j o t, ops[j]? = some o → lst L j → o.dst = some t → ∃ v, a.tmps[t]? = some v ∧ VR ρ z (X j) v
  env0 : ∀ t y, (∀ j o, ops[j]? = some o → lst L j → o.dst ≠ some t) → e0.t.get t = some y → ∃ v, a.tmps[t]? = some v ∧ VR ρ z y v
/-- The memory's part. -/
structure IM (cx : Cx) (ops : Array Oper) (σ : Nat → DS) (B : Nat → Nat) (C : Nat → List AV) (K : Nat → Nat) (ρ0 : Pl) (z0 : Fz) (pv : Pv) (w0 : World) (L : Array Bool) (w : World) (ρ : Pl) (z : Fz) (pv' : Pv) (p : Nat) : Prop where
  ple : p ≤ ops.size
  loud : ∀ l, l < ops.size → K l = 3 → (lst L l ↔ l < p)
  plast : p = 0 ∨ ∃ l, p = l + 1 ∧ K l = 3
  rel : Rel (σ p).H ρ z pv' w0 w
  ext : Ext ρ0 ρ z0 z
  gl : GlOk ρ z cx.gl
  yes : ∀ f, f < ops.size → K f = 1 → Un B K p f → lst L f → ∃ b n ob, ρ (σ f).id = some (b, 0, n) ∧ w0.heap.size ≤ b ∧ pv' b = some ob ∧ pv b = none ∧ ∀ w' : World, w'.heap[b]? = some ob → Holds ρ z w' b 0 n (.cells (C f))
  no : ∀ f, f < ops.size → K f = 1 → ¬ lst L f → pv'.rv (σ f).id
  dist : ∀ f g, f < ops.size → g < ops.size → K f = 1 → K g = 1 → Un B K p f → Un B K p g → lst L f → lst L g → f ≠ g → ∀ q q', ρ (σ f).id = some q → ρ (σ g).id = some q' → q.1 ≠ q'.1
  pvin : ∀ b x, pv b = some x → pv' b = some x
  pvout : ∀ b x, pv' b = some x → pv b = some x ∨ ∃ f, f < ops.size ∧ K f = 1 ∧ Un B K p f ∧ lst L f ∧ ∃ n, ρ (σ f).id = some (b, 0, n)
  rvin : ∀ i, pv.rv i → pv'.rv i
variable {ρ0 ρ ρ' : Pl} {z0 z z' : Fz} {pv pv' : Pv} {w0 w w' : World} {L : Array Bool} {a : Act} {q : Nat}
theorem IE.put (p : Plan call cx ops e0 H0 id0 σ B X C K) (I : IE ops X e0 L a ρ z) {j : Nat} {o : Oper} (ho : ops[j]? = some o) (hL : ¬ lst L j) (hr : ∀ e ∈ o.after, Region.binds .any e = true → lst L e.on)
    (hx : Ext ρ ρ' z z') {u : Value} (hu : VR ρ' z' (X j) u) : IE ops X e0 (L.setIfInBounds j true) (a.put o.dst u) ρ' z' := by
  have hj := lt_of_at ho
  have hjL : j < L.size := by rw [I.sz]; exact hj
  have hput := put_some (p.st j o ho).put
  have hd : ∀ t, o.dst = some t → t < a.tmps.size := fun t ht => by rw [I.asz, ← p.sz j (by omega)]; exact hput.2.1 t ht
  have keep : ∀ t, o.dst ≠ some t → (a.put o.dst u).tmps[t]? = a.tmps[t]? := fun t ht => by
    cases hdd : o.dst with
    | none => rfl
    | some d =>
      rw [hdd] at ht
      have : d ≠ t := fun hh => ht (by rw [hh])
      simp [Act.put, Array.getElem?_setIfInBounds_ne this]
  refine ⟨by simp [I.sz], fun i oi hi hl e he hb => ?_, ?_, ?_, fun i oi t hi hl ht => ?_, fun t y hn hy => ?_⟩
  · rw [lst_set hjL] at hl ⊢
    rcases hl with hl | rfl
    · exact .inl (I.down i oi hi hl e he hb)
    · rw [ho] at hi; cases hi; exact .inl (hr e he hb)
  · cases hdd : o.dst <;> simp [Act.put, I.asz]
  · cases hdd : o.dst <;> simp [Act.put, I.adf]
  · by_cases hij : i = j
    · subst hij
      rw [ho] at hi
      cases hi
      exact ⟨u, by rw [ht]; simp [Act.put, hd t ht], hu⟩
    · rw [lst_set hjL] at hl
      obtain ⟨v, h1, h2⟩ := I.envX i oi t hi (hl.resolve_right hij) ht
      refine ⟨v, ?_, h2.mono hx⟩
      rw [keep t]
      · exact h1
      · rcases Nat.lt_or_gt_of_ne hij with h | h
        · exact (p.pair h hi ho).2.2 t ht
        · exact fun hh => (p.pair h ho hi).2.2 t hh ht
  · obtain ⟨v, h1, h2⟩ := I.env0 t y (fun i oi hi hl => hn i oi hi ((lst_set hjL i).2 (.inl hl))) hy
    exact ⟨v, by rw [keep t (hn j o ho ((lst_set hjL j).2 (.inr rfl)))]; exact h1, h2.mono hx⟩
/-- What an operation reads when it is its turn. -/
theorem IE.here (p : Plan call cx ops e0 H0 id0 σ B X C K) (I : IE ops X e0 L a ρ z) {j : Nat} {o : Oper} (ho : ops[j]? = some o) (hL : ¬ lst L j) (hr : ∀ e ∈ o.after, Region.binds .any e = true → lst L e.on) :
    ERel ((σ j).e.look (reads ops o)) ρ z a := by
  have hj := lt_of_at ho
  refine ⟨by rw [I.asz]; exact (p.sz j (by omega)).symm, I.adf, fun t y hy => ?_⟩
  obtain ⟨h1, h2⟩ := Env.look_get hy
  rcases p.env j (by omega) t y h2 with ⟨i, oi, g1, g2, g3, rfl⟩ | ⟨g1, g2⟩
  · have hb := (p.pair g1 g2 ho).1 t g3 h1
    have := (p.before I.down (j + 1) j o (by omega) ho hr i hb).1
    exact I.envX i oi t g2 this g3
  · refine I.env0 t y (fun i oi hi hl hd => ?_) g2
    rcases Nat.lt_trichotomy i j with h | h | h
    · exact g1 i oi h hi hd
    · subst h; exact hL hl
    · have hb := (p.pair h ho hi).2.1 t hd h1
      exact hL (p.before I.down (i + 1) i oi (by omega) hi (I.down i oi hi hl) j hb).1
theorem landL_ok : ∀ (fs : List FE) (H : Heap) (pv' : Pv), Rel H ρ z pv' w0 w → (∀ f ∈ fs, ∃ b n ob, ρ f.id = some (b, 0, n) ∧ w0.heap.size ≤ b ∧ pv' b = some ob ∧ Holds ρ z w b 0 n (.cells f.cs)) →
    fs.Pairwise (fun f g => ∀ q q', ρ f.id = some q → ρ g.id = some q' → q.1 ≠ q'.1) →
    ∃ pv'' : Pv, Rel (landL fs H) ρ z pv'' w0 w ∧ pv''.rv = pv'.rv ∧ (∀ b x, pv'' b = some x → pv' b = some x ∧ ∀ f ∈ fs, ∀ n, ρ f.id ≠ some (b, 0, n)) ∧
      (∀ b x, pv' b = some x → (∀ f ∈ fs, ∀ n, ρ f.id ≠ some (b, 0, n)) → pv'' b = some x)
  | [], H, pv', h, _, _ => ⟨pv', h, rfl, fun b x hb => ⟨hb, fun f hf => by cases hf⟩, fun b x hb _ => hb⟩
  | f :: fs, H, pv', h, hf, hp => by
    obtain ⟨b, n, ob, h1, h2, h3, h4⟩ := hf f List.mem_cons_self
    have hl := h.land h3 h1 h2 h4
    cases hp with | cons hp1 hp2 =>
    obtain ⟨pv'', k1, k2, k3, k4⟩ := landL_ok fs _ _ hl (fun g hg => by
      obtain ⟨b', n', ob', g1, g2, g3, g4⟩ := hf g (List.mem_cons_of_mem _ hg)
      have hne : b' ≠ b := fun hh => hp1 g hg _ _ h1 g1 (by simp only; exact hh.symm)
      exact ⟨b', n', ob', g1, g2, by simp only [Pv.less]; rw [if_neg hne]; exact g3, g4⟩) hp2
    refine ⟨pv'', k1, k2, fun b' x hb => ?_, fun b' x hb hn => ?_⟩
    · obtain ⟨q1, q2⟩ := k3 b' x hb
      simp only [Pv.less] at q1
      split at q1
      · cases q1
      · rename_i hne
        refine ⟨q1, fun g hg n' => ?_⟩
        rcases List.mem_cons.1 hg with rfl | hg
        · rw [h1]; exact fun hh => by cases hh; exact hne rfl
        · exact q2 g hg n'
    · have hne : b' ≠ b := fun hh => by subst hh; exact hn f List.mem_cons_self n h1
      exact k4 b' x (by simp only [Pv.less]; rw [if_neg hne]; exact hb) fun g hg n' => hn g (List.mem_cons_of_mem _ hg) n'
/-- The memory's part under an operation that leaves the heap. -/
theorem IM.keep (hjs : L.size = ops.size) (I : IM cx ops σ B C K ρ0 z0 pv w0 L w ρ z pv' q) {j : Nat} (hj : j < ops.size) (hk1 : K j ≠ 1) (hk3 : K j ≠ 3) (hx : Ext ρ ρ' z z') (hR : Rel (σ q).H ρ' z' pv' w0 w') :
    IM cx ops σ B C K ρ0 z0 pv w0 (L.setIfInBounds j true) w' ρ' z' pv' q := by
  have hjL : j < L.size := by omega
  have back : ∀ {f}, K f = 1 → lst (L.setIfInBounds j true) f → lst L f := fun {f} kf hl => by
    rcases (lst_set hjL f).1 hl with h | rfl
    · exact h
    · exact absurd kf hk1
  refine ⟨I.ple, fun l hl kl => ?_, I.plast, hR, I.ext.trans hx, I.gl.mono hx, fun f hf kf hu hl => ?_, fun f hf kf hl => I.no f hf kf fun hh => hl ((lst_set hjL f).2 (.inl hh)), fun f g hf hg kf kg uf ug lf lg hne q1 q2 r1 r2 => ?_, I.pvin, fun b x hb => ?_, I.rvin⟩
  · rw [lst_set hjL, ← I.loud l hl kl]
    exact ⟨fun h => h.resolve_right fun hh => by subst hh; exact hk3 kl, .inl⟩
  · obtain ⟨b, n, ob, h1, h2, h3, h4, h5⟩ := I.yes f hf kf hu (back kf hl)
    exact ⟨b, n, ob, hx.pl _ _ h1, h2, h3, h4, fun w1 hw1 => (h5 w1 hw1).mono hx rfl⟩
  · obtain ⟨b, n, ob, h1, _⟩ := I.yes f hf kf uf (back kf lf)
    obtain ⟨b', n', ob', h1', _⟩ := I.yes g hg kg ug (back kg lg)
    rw [hx.pl _ _ h1] at r1
    rw [hx.pl _ _ h1'] at r2
    cases r1; cases r2
    exact I.dist f g hf hg kf kg uf ug (back kf lf) (back kg lg) hne _ _ h1 h1'
  · rcases I.pvout b x hb with h | ⟨f, h1, h2, h3, h4, n, h5⟩
    · exact .inl h
    · exact .inr ⟨f, h1, h2, h3, (lst_set hjL f).2 (.inl h4), n, hx.pl _ _ h5⟩
/-- A place of its own. -/
theorem IM.float (p : Plan call cx ops e0 H0 id0 σ B X C K) (hid : ∀ i, pv.rv i → i < id0) (IEn : IE ops X e0 L a ρ z) (I : IM cx ops σ B C K ρ0 z0 pv w0 L w ρ z pv' q) {j : Nat} {o : Oper} (ho : ops[j]? = some o) (hL : ¬ lst L j) (hk : K j = 1)
    {vs : List Value} {el : TypeId} (hv : VRs ρ z (C j) vs) :
    ∃ ρ' pv'', IM cx ops σ B C K ρ0 z0 pv w0 (L.setIfInBounds j true) (w.alloc (.cells ⟨vs⟩ el)) ρ' z pv'' q ∧ Ext ρ ρ' z z ∧ ρ' (σ j).id = some (w.heap.size, 0, vs.length) := by
  have hj := lt_of_at ho
  have hjL : j < L.size := by rw [IEn.sz]; exact hj
  obtain ⟨hn1, hn2⟩ := I.rel.res _ (I.no j hj hk hL)
  obtain ⟨hR, hE⟩ := I.rel.float (.cells ⟨vs⟩ el) vs.length hn1 hn2
  have hpv : ∀ {b x}, pv' b = some x → b ≠ w.heap.size := fun {b x} h hh => by
    subst hh; rw [I.rel.pv_none] at h; cases h
  have hUj : Un B K q j := fun l hl kl => by
    cases hb : bit (B l) j with
    | false => rfl
    | true =>
      have hln : l < ops.size := by have := I.ple; omega
      obtain ⟨ol, hol⟩ := at_lt hln
      exact absurd (p.before IEn.down (l + 1) l ol (by omega) hol (IEn.down l ol hol ((I.loud l hln kl).2 hl)) j hb).1 hL
  have back : ∀ {f}, f ≠ j → lst (L.setIfInBounds j true) f → lst L f := fun {f} hne hl => ((lst_set hjL f).1 hl).resolve_right hne
  refine ⟨_, _, ⟨I.ple, fun l hl kl => ?_, I.plast, hR, I.ext.trans hE, I.gl.mono hE, fun f hf kf hu hl => ?_, fun f hf kf hl => ?_, fun f g hf hg kf kg uf ug lf lg hne q1 q2 r1 r2 => ?_, fun b x hb => ?_, fun b x hb => ?_, fun i hi => ⟨I.rvin i hi, fun hh => ?_⟩⟩, hE, plSet_same _ _ _⟩
  · rw [lst_set hjL, ← I.loud l hl kl]
    exact ⟨fun h => h.resolve_right fun hh => by subst hh; omega, .inl⟩
  · by_cases hfj : f = j
    · subst hfj
      refine ⟨w.heap.size, vs.length, .cells ⟨vs⟩ el, plSet_same _ _ _, I.rel.below.size, by simp [Pv.more], ?_, fun w1 hw1 => ?_⟩
      · cases hp : pv w.heap.size with
        | none => rfl
        | some x => exact absurd rfl (hpv (I.pvin _ _ hp))
      · refine ⟨⟨vs⟩, el, (0, 0), hw1, rfl, fun j' _ h2 => absurd h2 (Nat.not_lt_zero _), fun i x hx => ?_⟩
        obtain ⟨v, k1, k2⟩ := hv.at_ hx
        exact ⟨v, by simpa using k1, k2.mono hE⟩
    · obtain ⟨b, n, ob, h1, h2, h3, h4, h5⟩ := I.yes f hf kf hu (back hfj hl)
      refine ⟨b, n, ob, hE.pl _ _ h1, h2, ?_, h4, fun w1 hw1 => (h5 w1 hw1).mono hE rfl⟩
      simp only [Pv.more]
      rw [if_neg (hpv h3)]; exact h3
  · have hfj : f ≠ j := fun hh => hl (by subst hh; exact (lst_set hjL f).2 (.inr rfl))
    exact ⟨I.no f hf kf fun hh => hl ((lst_set hjL f).2 (.inl hh)), p.id_ne hf hj kf hk hfj⟩
  · have old : ∀ {f}, f < ops.size → K f = 1 → Un B K q f → lst (L.setIfInBounds j true) f → f ≠ j → ∀ {q1 : Nat × Nat × Nat}, plSet ρ (σ j).id (w.heap.size, 0, vs.length) (σ f).id = some q1 → ρ (σ f).id = some q1 ∧ q1.1 ≠ w.heap.size := fun {f} hf kf uf lf hfj {q1} r => by
      obtain ⟨b, n, ob, h1, _, h3, _⟩ := I.yes f hf kf uf (back hfj lf)
      rw [hE.pl _ _ h1] at r
      cases r
      exact ⟨h1, hpv h3⟩
    by_cases hfj : f = j
    · subst hfj
      rw [plSet_same] at r1
      cases r1
      exact fun hh => (old hg kg ug lg (fun h => hne h.symm) r2).2 hh.symm
    · by_cases hgj : g = j
      · subst hgj
        rw [plSet_same] at r2
        cases r2
        exact (old hf kf uf lf hfj r1).2
      · exact I.dist f g hf hg kf kg uf ug (back hfj lf) (back hgj lg) hne _ _ (old hf kf uf lf hfj r1).1 (old hg kg ug lg hgj r2).1
  · have := I.pvin b x hb
    simp only [Pv.more]
    rw [if_neg (hpv this)]; exact this
  · simp only [Pv.more] at hb
    split at hb
    · rename_i hbb
      exact .inr ⟨j, hj, hk, hUj, (lst_set hjL j).2 (.inr rfl), vs.length, by rw [hbb]; exact plSet_same _ _ _⟩
    · rcases I.pvout b x hb with h | ⟨f, h1, h2, h3, h4, n, h5⟩
      · exact .inl h
      · exact .inr ⟨f, h1, h2, h3, (lst_set hjL f).2 (.inl h4), n, hE.pl _ _ h5⟩
  · have := hid i hi
    have := (p.ids j (by omega)).1
    omega
/-- Landing. -/
theorem IM.lands (_p : Plan call cx ops e0 H0 id0 σ B X C K) (I : IM cx ops σ B C K ρ0 z0 pv w0 L w ρ z pv' q) (fs : List FE) (H : Heap) (hR : Rel H ρ z pv' w0 w) (hfs : ∀ f ∈ fs, f.i < ops.size ∧ K f.i = 1 ∧ f.id = (σ f.i).id ∧ f.cs = C f.i ∧ Un B K q f.i ∧ lst L f.i)
    (hp : fs.Pairwise (fun f g => f.i ≠ g.i)) :
    ∃ pv'' : Pv, Rel (landL fs H) ρ z pv'' w0 w ∧ pv''.rv = pv'.rv ∧ (∀ b x, pv'' b = some x → pv' b = some x ∧ ∀ f ∈ fs, ∀ n, ρ f.id ≠ some (b, 0, n)) ∧
      (∀ b x, pv' b = some x → (∀ f ∈ fs, ∀ n, ρ f.id ≠ some (b, 0, n)) → pv'' b = some x) := by
  refine landL_ok fs H pv' hR (fun f hf => ?_) ?_
  · obtain ⟨h1, h2, h3, h4, h5, h6⟩ := hfs f hf
    obtain ⟨b, n, ob, k1, k2, k3, _, k5⟩ := I.yes f.i h1 h2 h5 h6
    exact ⟨b, n, ob, by rw [h3]; exact k1, k2, k3, by rw [h4]; exact k5 w (hR.keep b ob k3).1⟩
  · refine List.Pairwise.imp_of_mem (fun {f g} hf hg hne q1 q2 r1 r2 => ?_) hp
    obtain ⟨h1, h2, h3, h4, h5, h6⟩ := hfs f hf
    obtain ⟨g1, g2, g3, g4, g5, g6⟩ := hfs g hg
    rw [h3] at r1
    rw [g3] at r2
    exact I.dist f.i g.i h1 g1 h2 g2 h5 g5 h6 g6 hne q1 q2 r1 r2
end
end Go.Eng
end
section
namespace Go.Eng
open Go.RowKit
section
variable {call : CallF} {cx : Cx} {ops : Array Oper} {e0 : Env} {H0 : Heap} {id0 : Nat} {σ : Nat → DS} {B : Nat → Nat} {X : Nat → AV} {C : Nat → List AV} {K : Nat → Nat}
variable {ρ0 ρ ρ' : Pl} {z0 z z' : Fz} {pv pv' : Pv} {w0 w w' : World} {L : Array Bool} {a : Act} {q : Nat}
/-- No loud one stands between. -/
theorem IM.gap (p : Plan call cx ops e0 H0 id0 σ B X C K) (E : IE ops X e0 L a ρ z) (I : IM cx ops σ B C K ρ0 z0 pv w0 L w ρ z pv' q) {j : Nat} {o : Oper} (ho : ops[j]? = some o) (hk : K j = 3) (hL : ¬ lst L j)
    (hr : ∀ e ∈ o.after, Region.binds .any e = true → lst L e.on) : q ≤ j ∧ ∀ i, q ≤ i → i < j → K i ≠ 3 := by
  have hj := lt_of_at ho
  have h1 : ¬ j < q := fun h => hL ((I.loud j hj hk).2 h)
  refine ⟨by omega, fun i hi hij ki => ?_⟩
  have hb := p.loud_order hij hj ki hk
  have := (p.before E.down (j + 1) j o (by omega) ho hr i hb).1
  have := (I.loud i (by omega) ki).1 this
  omega
/-- What is asked for, and is not landed. -/
theorem IM.sels (p : Plan call cx ops e0 H0 id0 σ B X C K) (E : IE ops X e0 L a ρ z) {j m : Nat} {o : Oper} (ho : ops[j]? = some o) (hr : ∀ e ∈ o.after, Region.binds .any e = true → lst L e.on) (hm : m ≤ ops.size) :
    (∀ f ∈ sel (B j) (σ m).ld (σ j).al, f.i < ops.size ∧ K f.i = 1 ∧ f.id = (σ f.i).id ∧ f.cs = C f.i ∧ Un B K m f.i ∧ lst L f.i) ∧ (sel (B j) (σ m).ld (σ j).al).Pairwise (fun f g => f.i ≠ g.i) := by
  have hj := lt_of_at ho
  obtain ⟨f1, _, f3⟩ := p.al j (by omega)
  refine ⟨fun f hf => ?_, f3.filter _⟩
  obtain ⟨g1, g2⟩ := List.mem_filter.1 hf
  obtain ⟨k1, k2, k3, k4⟩ := f1 f g1
  simp only [Bool.and_eq_true, Bool.not_eq_true'] at g2
  refine ⟨by omega, k2, k3, k4, fun l hl kl => ?_, (p.before E.down (j + 1) j o (by omega) ho hr f.i g2.1).1⟩
  cases hb : bit (B l) f.i with
  | false => rfl
  | true =>
    have := (p.ld m hm f.i).2 ⟨l, hl, kl, hb⟩
    rw [g2.2] at this
    cases this
/-- The loud operation whose turn it is. -/
theorem IM.loud' (p : Plan call cx ops e0 H0 id0 σ B X C K) (E : IE ops X e0 L a ρ z) (I : IM cx ops σ B C K ρ0 z0 pv w0 L w ρ z pv' q) {j : Nat} {o : Oper} (ho : ops[j]? = some o) (hk : K j = 3) (hL : ¬ lst L j)
    (hr : ∀ e ∈ o.after, Region.binds .any e = true → lst L e.on) :
    ∃ pv'' : Pv, Rel (landL (sel (B j) (σ j).ld (σ j).al) (σ j).H) ρ z pv'' w0 w ∧ ∀ ρ' z' w', Ext ρ ρ' z z' → Rel (σ (j + 1)).H ρ' z' pv'' w0 w' → IM cx ops σ B C K ρ0 z0 pv w0 (L.setIfInBounds j true) w' ρ' z' pv'' (j + 1) := by
  have hj := lt_of_at ho
  have hjL : j < L.size := by rw [E.sz]; exact hj
  obtain ⟨hqj, hgap⟩ := I.gap p E ho hk hL hr
  obtain ⟨hH, hld⟩ := p.heap j hqj (by omega) hgap
  obtain ⟨_, f2, _⟩ := p.al j (by omega)
  have hss := IM.sels p E (m := q) ho hr I.ple
  rw [← hld] at hss
  obtain ⟨hfs, hpw⟩ := hss
  obtain ⟨pv'', hR, hrv, hout, hin⟩ := I.lands p (sel (B j) (σ j).ld (σ j).al) (σ j).H (by rw [hH]; exact I.rel) hfs hpw
  have up : ∀ {f}, Un B K (j + 1) f → Un B K q f := fun {f} hu l hl kl => hu l (by omega) kl
  have back : ∀ {f}, K f = 1 → lst (L.setIfInBounds j true) f → lst L f := fun {f} kf hl => by
    rcases (lst_set hjL f).1 hl with h | rfl
    · exact h
    · omega
  refine ⟨pv'', hR, fun ρ' z' w' hx hR' => ⟨by omega, fun l hl kl => ?_, .inr ⟨j, rfl, hk⟩, hR', I.ext.trans hx, I.gl.mono hx, fun f hf kf hu hl => ?_, fun f hf kf hl => ?_, fun f g hf hg kf kg uf ug lf lg hne q1 q2 r1 r2 => ?_, fun b x hb => ?_, fun b x hb => ?_, fun i hi => ?_⟩⟩
  · rw [lst_set hjL]
    rcases Nat.lt_trichotomy l j with h | h | h
    · have hb := p.loud_order h hj kl hk
      have := (p.before E.down (j + 1) j o (by omega) ho hr l hb).1
      exact ⟨fun _ => by omega, fun _ => .inl this⟩
    · exact ⟨fun _ => by omega, fun _ => .inr h⟩
    · refine ⟨fun hh => ?_, fun hh => by omega⟩
      rcases hh with hh | hh
      · have := (I.loud l hl kl).1 hh; omega
      · omega
  · obtain ⟨b, n, ob, h1, h2, h3, h4, h5⟩ := I.yes f hf kf (up hu) (back kf hl)
    refine ⟨b, n, ob, hx.pl _ _ h1, h2, hin b ob h3 fun g hg n' hh => ?_, h4, fun w1 hw1 => (h5 w1 hw1).mono hx rfl⟩
    obtain ⟨k1, k2, k3, k4, k5, k6⟩ := hfs g hg
    have hne : f ≠ g.i := fun hh => by
      have := (List.mem_filter.1 hg).2
      rw [← hh, hu j (by omega) hk] at this
      simp at this
    rw [k3] at hh
    exact I.dist f g.i hf k1 kf k2 (up hu) k5 (back kf hl) k6 hne _ _ h1 hh rfl
  · rw [hrv]
    exact I.no f hf kf fun hh => hl ((lst_set hjL f).2 (.inl hh))
  · obtain ⟨b, n, ob, h1, _⟩ := I.yes f hf kf (up uf) (back kf lf)
    obtain ⟨b', n', ob', h1', _⟩ := I.yes g hg kg (up ug) (back kg lg)
    rw [hx.pl _ _ h1] at r1
    rw [hx.pl _ _ h1'] at r2
    cases r1; cases r2
    exact I.dist f g hf hg kf kg (up uf) (up ug) (back kf lf) (back kg lg) hne _ _ h1 h1'
  · refine hin b x (I.pvin b x hb) fun g hg n hh => ?_
    obtain ⟨k1, k2, k3, k4, k5, k6⟩ := hfs g hg
    obtain ⟨b', n', ob', g1, _, _, g4, _⟩ := I.yes g.i k1 k2 k5 k6
    rw [k3, g1] at hh
    cases hh
    rw [g4] at hb; cases hb
  · obtain ⟨o1, o2⟩ := hout b x hb
    rcases I.pvout b x o1 with h | ⟨f, h1, h2, h3, h4, n, h5⟩
    · exact .inl h
    · refine .inr ⟨f, h1, h2, fun l hl kl => ?_, (lst_set hjL f).2 (.inl h4), n, hx.pl _ _ h5⟩
      by_cases hlq : l < q
      · exact h3 l hlq kl
      · by_cases hlj : l = j
        · subst hlj
          cases hb : bit (B l) f with
          | false => rfl
          | true =>
            have hfj := p.bit_lt hj hb
            have := f2 f hfj h2
            have hnl : bit (σ l).ld f = false := by
              cases hbb : bit (σ l).ld f with
              | false => rfl
              | true =>
                obtain ⟨l', g1, g2, g3⟩ := (p.ld l (by omega) f).1 hbb
                have := h3 l' (by
                  rcases Nat.lt_or_ge l' q with h | h
                  · exact h
                  · exact absurd g2 (hgap l' h g1)) g2
                rw [this] at g3; cases g3
            exact absurd h5 (o2 _ (List.mem_filter.2 ⟨this, by simp [hb, hnl]⟩) n)
        · exact absurd kl (hgap l (by omega) (by omega))
  · rw [hrv]; exact I.rvin i hi
/-- A quiet operation says the same wherever it stands. -/
theorem IM.quiet (p : Plan call cx ops e0 H0 id0 σ B X C K) (E : IE ops X e0 L a ρ z) (I : IM cx ops σ B C K ρ0 z0 pv w0 L w ρ z pv' q) {j : Nat} {o : Oper} (ho : ops[j]? = some o) (hk : K j = 2) (hL : ¬ lst L j)
    (hr : ∀ e ∈ o.after, Region.binds .any e = true → lst L e.on) :
    isQ o.op = true ∧ aq cx ((σ j).e.look (reads ops o)) (landL (sel (B j) (σ q).ld (σ j).al) (σ q).H) o = some (X j) := by
  have hj := lt_of_at ho
  have hs := (p.st j o ho).sc
  rw [hk] at hs
  cases hs with
  | quiet _ hq ha hc =>
    refine ⟨hq, ?_⟩
    rcases Nat.lt_or_ge j q with hlt | hge
    · rcases I.plast with h0 | ⟨l, rfl, kl⟩
      · omega
      · have hll : lst L l := (I.loud l (by have := I.ple; omega) kl).2 (by omega)
        have hln : l < ops.size := by have := I.ple; omega
        have hjl : j < l := by
          rcases Nat.lt_or_ge j l with h | h
          · exact h
          · have : j = l := by omega
            subst this; exact absurd hll hL
        obtain ⟨ol, hol⟩ := at_lt hln
        have hsl := (p.st l ol hol).sc
        rw [kl] at hsl
        cases hsl with
        | loud _ _ _ hcl _ _ _ hld =>
          rcases hcl _ (p.qs l (by omega) j o hjl hk ho) with h | h
          · exact absurd (p.before E.down (l + 1) l ol (by omega) hol (E.down l ol hol hll) j h).1 hL
          · rw [← hld] at h
            simp only at h
            rw [p.sel_same hj _ l (by omega) (by omega)] at h
            exact h
    · -- the first loud one from q on, if any, before j
      have aux : ∀ m, q + m ≤ j → (∀ i, q ≤ i → i < q + m → K i ≠ 3) → aq cx ((σ j).e.look (reads ops o)) (landL (sel (B j) (σ q).ld (σ j).al) (σ q).H) o = some (X j) ∨ ∀ i, q ≤ i → i < q + (j - q) → K i ≠ 3 := by
        intro m hm hno
        induction hd : j - (q + m) generalizing m with
        | zero => exact .inr fun i h1 h2 => hno i h1 (by omega)
        | succ d ih =>
          by_cases hkm : K (q + m) = 3
          · left
            rcases hc _ (p.hs j (by omega) (q + m) (by omega) hkm) with h | h
            · have := (p.before E.down (j + 1) j o (by omega) ho hr (q + m) h).1
              have := (I.loud (q + m) (by omega) hkm).1 this
              omega
            · obtain ⟨g1, g2⟩ := p.heap (q := q) (q + m) (by omega) (by omega) hno
              simp only [g1, g2] at h
              exact h
          · exact ih (m + 1) (by omega) (fun i h1 h2 => if hi : i = q + m then by rw [hi]; exact hkm else hno i h1 (by omega)) (by omega)
      rcases aux 0 (by omega) (fun i h1 h2 => by omega) with h | h
      · exact h
      · obtain ⟨g1, g2⟩ := p.heap (q := q) j hge (by omega) (fun i h1 h2 => h i h1 (by omega))
        rw [← g1, ← g2]
        exact ha
theorem count_set_lt {l : List Bool} {j : Nat} (hj : j < l.length) (h : l[j] = false) : (l.set j true).count false + 1 = l.count false := by
  induction l generalizing j with
  | nil => simp at hj
  | cons x xs ih =>
    cases j with
    | zero => simp at h; subst h; simp
    | succ j =>
      simp only [List.set_cons_succ, List.count_cons]
      have := ih (j := j) (by simpa using hj) (by simpa using h)
      omega
/-- A region that draws its order. -/
theorem sim (hN : CxOk cx) (p : Plan call cx ops e0 H0 id0 σ B X C K) (hid : ∀ i, pv.rv i → i < id0) {Q : Exit → Act → World → Prop}
    (hQ : ∀ L a w ρ z pv' q, IE ops X e0 L a ρ z → IM cx ops σ B C K ρ0 z0 pv w0 L w ρ z pv' q → (∀ i, i < ops.size → lst L i) → Q .normal a w) :
    ∀ (n : Nat) (L : Array Bool) (a : Act) (w : World) (ρ : Pl) (z : Fz) (pv' : Pv) (q : Nat), L.toList.count false ≤ n → IE ops X e0 L a ρ z → IM cx ops σ B C K ρ0 z0 pv w0 L w ρ z pv' q → wpAny cx.P .any ops Q n L a w := by
  have done : ∀ (L : Array Bool) (a : Act) (w : World) (ρ : Pl) (z : Fz) (pv' : Pv) (q : Nat), IE ops X e0 L a ρ z → IM cx ops σ B C K ρ0 z0 pv w0 L w ρ z pv' q → Region.ready .any ops L = [] → Q .normal a w := by
    intro L a w ρ z pv' q E I hr
    have all : ∀ n j, j < n → j < ops.size → lst L j := by
      intro n
      induction n with
      | zero => intro j h; omega
      | succ n ih =>
        intro j h hj
        rcases Classical.em (lst L j) with hh | hh
        · exact hh
        · obtain ⟨o, ho⟩ := at_lt hj
          have : j ∈ Region.ready .any ops L := mem_ready.2 ⟨(lst_not (by rw [E.sz]; exact hj)).2 hh, o, ho, fun e he hb => by
            have := p.after_lt ho he hb
            exact ih e.on (by omega) (by omega)⟩
          rw [hr] at this; cases this
    exact hQ L a w ρ z pv' q E I fun i hi => all (i + 1) i (by omega) hi
  intro n
  induction n with
  | zero =>
    intro L a w ρ z pv' q hc E I
    have all : ∀ j, j < ops.size → lst L j := fun j hj => by
      have h0 : L.toList.count false = 0 := by omega
      rw [List.count_eq_zero] at h0
      have hjL : j < L.size := by rw [E.sz]; exact hj
      unfold lst
      cases hb : L.getD j false with
      | true => rfl
      | false =>
        simp [hjL] at hb
        exact absurd (by rw [← hb]; exact Array.getElem_mem_toList hjL) h0
    refine ⟨?_, hQ L a w ρ z pv' q E I all⟩
    cases hr : Region.ready .any ops L with
    | nil => rfl
    | cons i is =>
      have : i ∈ Region.ready .any ops L := by rw [hr]; exact List.mem_cons_self
      obtain ⟨h1, o, ho, _⟩ := mem_ready.1 this
      exact absurd (all i (lt_of_at ho)) ((lst_not (by rw [E.sz]; exact lt_of_at ho)).1 h1)
  | succ n ih =>
    intro L a w ρ z pv' q hc E I
    refine ⟨done L a w ρ z pv' q E I, fun j hj => ?_⟩
    obtain ⟨h1, o, ho, hr⟩ := mem_ready.1 hj
    have hjn := lt_of_at ho
    have hjL : j < L.size := by rw [E.sz]; exact hjn
    have hL : ¬ lst L j := (lst_not hjL).1 h1
    have hcnt : (L.setIfInBounds j true).toList.count false ≤ n := by
      have hh : L.toList[j]'(by simpa using hjL) = false := by
        have : L.getD j true = false := h1
        simpa [hjL] using this
      have := count_set_lt (l := L.toList) (j := j) (by simpa using hjL) hh
      simp only [Array.toList_setIfInBounds]
      omega
    have hE := E.here p ho hL hr
    unfold wpOp
    rw [ho]
    simp only
    have hs := (p.st j o ho).sc
    generalize hk : K j = k at hs
    cases hs with
    | skip hw hx =>
      rw [wantedA_ok hE hw]
      simp only [Bool.false_eq_true, if_false]
      refine ih _ _ _ ρ z pv' q hcnt (E.put p ho hL hr (Ext.refl _ _) ?_) (I.keep E.sz hjn (by omega) (by omega) (Ext.refl _ _) I.rel)
      rw [hx]
      exact .tuple _ _ .nil
    | float hw hf =>
      rw [wantedA_ok hE hw]
      simp only [if_true]
      refine .inl ?_
      obtain ⟨r, ⟨vs, el, u, k1, k2, k3⟩, k4⟩ := aFl_ok (w := w) hN I.gl hE hf
      subst k1
      obtain ⟨ρ', pv'', I', hx, hid'⟩ := I.float p hid E ho hL hk (el := el) k2
      unfold Oper.wp
      rw [k4]
      simp only [Result.andThen, Oper.upon_value]
      exact ih _ _ _ ρ' z pv'' q hcnt (E.put p ho hL hr hx (k3 ρ' hid')) I'
    | quiet hw =>
      rw [wantedA_ok hE hw]
      simp only [if_true]
      refine .inl ?_
      obtain ⟨hq, ha⟩ := I.quiet p E ho hk hL hr
      obtain ⟨hfs, hpw⟩ := IM.sels p E (m := q) ho hr I.ple
      obtain ⟨pv'', hR, _⟩ := I.lands p _ _ I.rel hfs hpw
      obtain ⟨u, k1, k4⟩ := aq_run hN I.gl hR hE hq ha
      unfold Oper.wp
      rw [k1, Oper.upon_value]
      exact ih _ _ _ ρ z pv' q hcnt (E.put p ho hL hr (Ext.refl _ _) k4) (I.keep E.sz hjn (by omega) (by omega) (Ext.refl _ _) I.rel)
    | loud hw _ hst =>
      rw [wantedA_ok hE hw]
      simp only [if_true]
      refine .inl ?_
      obtain ⟨pv'', hR, hnext⟩ := I.loud' p E ho hk hL hr
      refine step1_val hN hR hE I.gl hst fun ρ' z' u w' hx hR' hu => ?_
      exact ih _ _ _ ρ' z' pv'' (j + 1) hcnt (E.put p ho hL hr hx hu) (hnext ρ' z' w' hx hR')
end
/-- Regions that draw their order come to what a plan says. -/
theorem plan_draw {cx : Cx} (hm : cx.P.follows .mixedOrders = true) (hN : CxOk cx) {call : CallF} {id : Nat} {ops : Array Oper} {e : Env} {H : Heap} {ρ : Pl} {z : Fz} {pv : Pv} {w0 w : World} {a : Act} {σ : Nat → DS} {B : Nat → Nat} {X : Nat → AV} {C : Nat → List AV} {K : Nat → Nat}
    (r : Nat) (hr : ∀ f, f < ops.size → K f = 1 → (σ f).id < H.nx + r) (p : Plan call cx ops e ⟨H.t, H.nx + r, H.e⟩ H.nx σ B X C K) (hS : SRel cx e H ρ z pv w0 a w) :
    (Code.region id ops true).wp cx.P (Post cx ρ z pv w0 (.normal, (σ ops.size).e, landL (rest (σ ops.size).ld (σ ops.size).al) (σ ops.size).H)) a w := by
  have hid : ∀ i, pv.rv i → i < H.nx := fun i hi => (hS.rel.res i hi).2
  refine wp_region_any hm (sim (ρ0 := ρ) (z0 := z) (w0 := w0) hN p hid (fun L a w1 ρ1 z1 pv' q E I all => ?_) ops.size _ a _ ρ z ⟨pv.blk, fun i => pv.rv i ∨ (H.nx ≤ i ∧ i < H.nx + r)⟩ 0 (by simp) ?_ ?_)
  · -- the end
    have hq : ∀ i, q ≤ i → i < ops.size → K i ≠ 3 := fun i hi hn ki => by
      have := (I.loud i hn ki).1 (all i hn)
      omega
    have hH : (σ ops.size).H = (σ q).H := (p.heap ops.size I.ple (Nat.le_refl _) hq).1
    obtain ⟨f1, f2, f3⟩ := p.al ops.size (Nat.le_refl _)
    have hfs : ∀ f ∈ rest (σ ops.size).ld (σ ops.size).al, f.i < ops.size ∧ K f.i = 1 ∧ f.id = (σ f.i).id ∧ f.cs = C f.i ∧ Un B K q f.i ∧ lst L f.i := fun f hf => by
      obtain ⟨g1, g2⟩ := List.mem_filter.1 hf
      obtain ⟨k1, k2, k3, k4⟩ := f1 f g1
      simp only [Bool.not_eq_true'] at g2
      refine ⟨k1, k2, k3, k4, fun l hl kl => ?_, all _ k1⟩
      cases hb : bit (B l) f.i with
      | false => rfl
      | true =>
        have := (p.ld ops.size (Nat.le_refl _) f.i).2 ⟨l, by have := I.ple; omega, kl, hb⟩
        rw [g2] at this; cases this
    obtain ⟨pv'', hR, hrv, hout, hin⟩ := I.lands p (rest (σ ops.size).ld (σ ops.size).al) (σ ops.size).H (by rw [hH]; exact I.rel) hfs (f3.filter _)
    refine ⟨rfl, ρ1, z1, I.ext, ⟨hR.weaken (fun b => ?_) (fun i hi => by rw [hrv]; exact I.rvin i hi), ⟨by rw [E.asz]; exact (p.sz _ (Nat.le_refl _)).symm, E.adf, fun t y hy => ?_⟩, I.gl⟩⟩
    · cases hb : pv b with
      | some x =>
        refine (hin b x (I.pvin b x hb) fun g hg n hh => ?_).symm
        obtain ⟨k1, k2, k3, k4, k5, k6⟩ := hfs g hg
        obtain ⟨b', n', ob', g1, _, _, g4, _⟩ := I.yes g.i k1 k2 k5 k6
        rw [k3, g1] at hh
        cases hh
        rw [g4] at hb; cases hb
      | none =>
        cases hb2 : pv'' b with
        | none => rfl
        | some x =>
          obtain ⟨o1, o2⟩ := hout b x hb2
          rcases I.pvout b x o1 with h | ⟨f, h1, h2, h3, h4, n, h5⟩
          · rw [hb] at h; cases h
          · have := f2 f h1 h2
            have hnl : bit (σ ops.size).ld f = false := by
              cases hbb : bit (σ ops.size).ld f with
              | false => rfl
              | true =>
                obtain ⟨l', g1, g2, g3⟩ := (p.ld ops.size (Nat.le_refl _) f).1 hbb
                have := h3 l' (by
                  rcases Nat.lt_or_ge l' q with h | h
                  · exact h
                  · exact absurd g2 (hq l' h g1)) g2
                rw [this] at g3; cases g3
            exact absurd h5 (o2 _ (List.mem_filter.2 ⟨this, by simp [hnl]⟩) n)
    · rcases p.env ops.size (Nat.le_refl _) t y hy with ⟨i, o, h1, h2, h3, rfl⟩ | ⟨h1, h2⟩
      · exact E.envX i o t h2 (all i h1) h3
      · exact E.env0 t y (fun i o ho _ => h1 i o (lt_of_at ho) ho) h2
  · -- the environment at the start
    have no : ∀ i, ¬ lst (Array.replicate ops.size false) i := fun i => by
      unfold lst
      by_cases h : i < ops.size <;> simp [h]
    exact ⟨by simp, fun j o ho hl => absurd hl (no j), hS.env.size, hS.env.defers, fun j o t ho hl => absurd hl (no j), fun t y _ hy => hS.env.get t y hy⟩
  · have no : ∀ i, ¬ lst (Array.replicate ops.size false) i := fun i => by
      unfold lst
      by_cases h : i < ops.size <;> simp [h]
    refine ⟨Nat.zero_le _, fun l _ _ => ⟨fun h => absurd h (no l), fun h => by omega⟩, .inl rfl, ?_, Ext.refl _ _, hS.gl, fun f _ _ _ hl => absurd hl (no f), fun f hf kf _ => ?_, fun f g _ _ _ _ _ _ hl => absurd hl (no f), fun b x hb => hb, fun b x hb => .inl hb, fun i hi => .inl hi⟩
    · rw [p.zero]
      exact (hS.rel.drew _).reserve r
    · exact .inr ⟨(p.ids f (by omega)).1, hr f hf kf⟩
/-- Regions that draw their order come to what 'drawA' says. -/
theorem drawA_ok {P : Program} (hm : P.follows .mixedOrders = true) : DrawOk drawA P := by
  intro cx call id ops e H e' H' ρ z pv w0 a w hP hN hC hd hS
  subst hP
  unfold drawA at hd
  split at hd
  · rename_i s' hrun
    cases hd
    obtain ⟨σ, B, X, C, K, p, hσ⟩ := plan_of hC hrun
    subst hσ
    refine plan_draw hm hN ops.size (fun f hf kf => ?_) p hS
    have h1 := (p.ids f (by omega))
    have h2 := (p.ids (f + 1) (by omega)).2.1
    have h3 := (p.ids (f + 1) (by omega)).2.2 f (by omega) kf
    omega
  · cases hd
end Go.Eng
end
