import Derived.Test.YtekfcbeballilaaGreatDoorEe
section
namespace Go.Eng
open Go.RowKit
/-- A region's operations run to 'r'; calls by what is proved of them. -/
def RunL (cx : Cx) (ops : Array Oper) : List Oper → Env → Heap → Env × Heap → Prop
  | [], e, H, r => r = (e, H)
  | o :: l, e, H, r => match wantedA ops e o with
    | none => False
    | some false => match e.put o.dst (.tuple []) with
      | some e' => RunL cx ops l e' H r
      | none => False
    | some true => match aop cx e H o with
      | some (.val x H') => match e.put o.dst x with
        | some e' => RunL cx ops l e' H' r
        | none => False
      | some (.skip H') => match e.put o.dst (.tuple []) with
        | some e' => RunL cx ops l e' H' r
        | none => False
      | some (.enter f args) => ∃ x H', Ans cx f args H (fun y K => y = x ∧ K = H') ∧ match e.put o.dst x with
        | some e' => RunL cx ops l e' H' r
        | none => False
      | none => False
section
variable {cx : Cx} {H : Heap} {e : Env} {R : AEx → Env → Heap → Prop} {k : List Fr}
theorem RunL_WOps {ops : Array Oper} {r : Env × Heap} {KK : Env → Heap → Prop} (hk : KK r.1 r.2) : ∀ (l : List Oper) (e : Env) (H : Heap), RunL cx ops l e H r → WOps cx ops l e H KK
  | [], e, H, h => by
    simp only [RunL] at h
    subst h
    exact hk
  | o :: l, e, H, h => by
    simp only [RunL] at h
    simp only [WOps]
    split at h
    · exact h.elim
    · rename_i hw
      rw [hw]
      split at h
      · rename_i hp
        simp only [hp]
        exact RunL_WOps hk l _ _ h
      · exact h.elim
    · rename_i hw
      rw [hw]
      simp only
      split at h
      · rename_i ha
        split at h
        · rename_i hp
          rw [ha]
          simp only [hp]
          exact RunL_WOps hk l _ _ h
        · exact h.elim
      · rename_i ha
        split at h
        · rename_i hp
          rw [ha]
          simp only [hp]
          exact RunL_WOps hk l _ _ h
        · exact h.elim
      · rename_i ha
        obtain ⟨x, H', h1, h2⟩ := h
        rw [ha]
        refine h1.mono fun y K hy => ?_
        obtain ⟨rfl, rfl⟩ := hy
        split at h2
        · rename_i hp
          rw [hp]
          exact RunL_WOps hk l _ _ h2
        · exact h2.elim
      · exact h.elim
theorem S_run (hN : CxOk cx) {id : Nat} {ops : Array Oper} {y : Code} (r : Env × Heap) (h : RunL cx ops ops.toList e H r) (hq : W cx y r.1 r.2 (Cn cx R k)) : W cx (.seq (.region id ops false) y) e H (Cn cx R k) :=
  S_ops_seq hN fun _ hK => RunL_WOps (hK _ _ hq) _ _ _ h
theorem S_run1 (hN : CxOk cx) {id : Nat} {ops : Array Oper} (r : Env × Heap) (h : RunL cx ops ops.toList e H r) (hq : Cn cx R k .normal r.1 r.2) : W cx (.region id ops false) e H (Cn cx R k) :=
  S_ops hN fun _ hK => RunL_WOps (hK _ _ hq) _ _ _ h
theorem Env.put_some {sz d : Nat} {t : T AV} {x : AV} (h : Nat.blt d sz = true) : (⟨sz, t⟩ : Env).put (some d) x = some ⟨sz, t.set d x⟩ := by
  simp only [Env.put, h, cond_true]
end
end Go.Eng
end
section
namespace Go.Eng
open Go.RowKit
/-- A table by its entries, the newest first. -/
def lq {α : Type} : List (Nat × α) → Nat → Option α
  | [], _ => none
  | (k, x) :: l, j => cond (Nat.beq k j) (some x) (lq l j)
theorem lq_lk {α : Type} : ∀ (l : List (Nat × α)) (j : Nat), lq l j = lk l j
  | [], _ => rfl
  | (k, x) :: l, j => by
    simp only [lq, lk, lq_lk l]
    by_cases h : j = k
    · subst h; simp
    · have : Nat.beq k j = false := by
        cases hb : Nat.beq k j
        · rfl
        · exact absurd (Nat.eq_of_beq_eq_true hb).symm h
      simp [this, h]
theorem T.of_get {α : Type} (l : List (Nat × α)) (j : Nat) : (T.of l).get j = lq l j := by rw [T.get_of, lq_lk]
def rd (cx : Cx) (m : List (Nat × AV)) : Operand → Option AV
  | .tmp t => lq m t
  | .const v => absV v
  | .global g => match cx.gl g with
    | some cs => some (.iptr cs 0)
    | none => none
  | .func f => some (.func (.func f) [] [])
def rds (cx : Cx) (m : List (Nat × AV)) : List Operand → Option (List AV)
  | [] => some []
  | x :: xs => match rd cx m x, rds cx m xs with
    | some v, some vs => some (v :: vs)
    | _, _ => none
def rdps (cx : Cx) (m : List (Nat × AV)) : List (Nat × Operand) → Option (List (Nat × AV))
  | [] => some []
  | (i, x) :: xs => match rd cx m x, rdps cx m xs with
    | some v, some vs => some ((i, v) :: vs)
    | _, _ => none
def rdo (cx : Cx) (m : List (Nat × AV)) : Option Operand → Option (Option AV)
  | none => some none
  | some x => match rd cx m x with
    | some v => some (some v)
    | none => none
section
variable {cx : Cx} {m : List (Nat × AV)} {sz : Nat} {H H' : Heap}
theorem rd_ok {o : Operand} {x : AV} (h : rd cx m o = some x) : evalO cx ⟨sz, T.of m⟩ o = x := by
  cases o with
  | tmp t => simp only [rd] at h; simp only [evalO, Env.get, T.of_get, h]
  | const v => simp only [rd] at h; simp only [evalO, h]
  | global g =>
    simp only [rd] at h
    simp only [evalO]
    split at h
    · rename_i cs hc; cases h; rw [hc]
    · cases h
  | func f => cases h; rfl
theorem rds_ok : ∀ {os : List Operand} {xs : List AV}, rds cx m os = some xs → evalOs cx ⟨sz, T.of m⟩ os = xs
  | [], xs, h => by cases h; rfl
  | o :: os, xs, h => by
    simp only [rds] at h
    split at h
    · rename_i h1 h2
      cases h
      simp only [evalOs, rd_ok h1, rds_ok h2]
    · cases h
theorem rdps_ok : ∀ {os : List (Nat × Operand)} {xs : List (Nat × AV)}, rdps cx m os = some xs → evalPs cx ⟨sz, T.of m⟩ os = xs
  | [], xs, h => by cases h; rfl
  | (i, o) :: os, xs, h => by
    simp only [rdps] at h
    split at h
    · rename_i h1 h2
      cases h
      simp only [evalPs, rd_ok h1, rdps_ok h2]
    · cases h
theorem rdo_ok {o : Option Operand} {x : Option AV} (h : rdo cx m o = some x) : evalOp cx ⟨sz, T.of m⟩ o = x := by
  cases o with
  | none => cases h; rfl
  | some o =>
    simp only [rdo] at h
    split at h
    · rename_i h1; cases h; simp only [evalOp, rd_ok h1]
    · cases h
end
/-- A row, made plain. -/
def plain : List AV → Option (List AV)
  | [] => some []
  | x :: xs => match plain xs with
    | some ys => some (x :: ys)
    | none => none
theorem plain_eq : ∀ {xs ys : List AV}, plain xs = some ys → xs = ys
  | [], ys, h => by cases h; rfl
  | x :: xs, ys, h => by
    simp only [plain] at h
    split at h
    · rename_i h1; cases h; rw [plain_eq h1]
    · cases h
/-- An operation, its operands read first. -/
def sop (cx : Cx) (m : List (Nat × AV)) (H : Heap) : Op → Option Res
  | .move x => match rd cx m x with
    | some v => some (.val v H)
    | none => none
  | .assign x => match rd cx m x with
    | some v => some (.val v H)
    | none => none
  | .pick c a b => match rd cx m c with
    | some (.bool true) => (match rd cx m a with
      | some v => some (.val v H)
      | none => none)
    | some (.bool false) => (match rd cx m b with
      | some v => some (.val v H)
      | none => none)
    | _ => none
  | .alloc t => newR (aAlloc cx.D H t)
  | .box t x => match rd cx m x with
    | some v => newR (aBox H t v)
    | none => none
  | .build t ps => match rdps cx m ps.toList with
    | some vs => (match aBuild cx.D t vs with
      | some (.agg cs) => (match plain cs with
        | some ds => some (.val (.agg ds) H)
        | none => none)
      | _ => none)
    | none => none
  | .buildSlice t n ps => match rdps cx m ps.toList with
    | some vs => newR (aBuildSlice cx.D H t n vs)
    | none => none
  | .load t a => match rd cx m a with
    | some v => valR (aLoad cx.D H t v) H
    | none => none
  | .store t a x => match rd cx m a, rd cx m x with
    | some v, some u => skipR (aStore cx.D H t v u)
    | _, _ => none
  | .nilCheck x => match rd cx m x with
    | some v => cond (isPtrA v) (some (.val v H)) none
    | none => none
  | .binOp op t x y _ => match rd cx m x, rd cx m y with
    | some v, some u => valR (aBin cx.D cx.P op t x y v u) H
    | _, _ => none
  | .unOp op _ x => match rd cx m x with
    | some v => valR (aUn op v) H
    | none => none
  | .convert s d x => match rd cx m x with
    | some v => (match aConv cx.D cx.P H s d v with
      | some y => some (.val y H)
      | none => match aConvU cx.D cx.lies H s d v with
        | some y => some (.val y H)
        | none => newR (aConvBytes cx.D H s d v))
    | none => none
  | .makeInterface t x => match rd cx m x with
    | some v => (match cx.D.und t with
      | some d => cond (isIfaceD d) none (some (.val (.iface t v) H))
      | none => none)
    | none => none
  | .makeFunc fn f c => match rds cx m f.toList, rds cx m c.toList with
    | some a, some b => some (.val (.func fn a b) H)
    | _, _ => none
  | .makeMap _ r => match r with
    | some _ => none
    | none => some (.val (.map H.nx) (H.alloc (.map [] 0)))
  | .makeSlice t l c => match rd cx m l, rd cx m c with
    | some a, some b => newR (aMakeSlice cx.D H t a b)
    | _, _ => none
  | .slice t x lo hi mx => match rd cx m x, rdo cx m lo, rdo cx m hi, rdo cx m mx with
    | some v, some a, some b, some c => valR (aSlice cx.D H t v a b c) H
    | _, _, _, _ => none
  | .fieldAddr s x f => match rd cx m x with
    | some v => valR (aFieldAddr cx.D s v f) H
    | none => none
  | .field t x f => match rd cx m x with
    | some v => valR (aField cx.D t v f) H
    | none => none
  | .indexAddr t x i => match rd cx m x, rd cx m i with
    | some v, some u => valR (aIndexAddr cx.D t v u) H
    | _, _ => none
  | .index t x i => match rd cx m x, rd cx m i with
    | some v, some u => valR (aIndex cx.D t v u) H
    | _, _ => none
  | .extract t i => match rd cx m t with
    | some (.tuple xs) => valR xs[i]? H
    | _ => none
  | .call c => match c.callee with
    | .builtin b => (match rds cx m c.args.toList with
      | some xs => aBuiltin cx H b c.argTypes.toList xs
      | none => none)
    | .value f => (match rd cx m f, rds cx m c.args.toList with
      | some (.func (.func g) first captured), some xs => (match cx.fn.get g with
        | some fn => cond fn.body.isSome (match plain (first ++ xs ++ captured) with
            | some ys => some (.enter g ys)
            | none => none) none
        | none => newR (cx.ext g (first ++ xs ++ captured) H))
      | _, _ => none)
    | .invoke _ _ => none
  | _ => none
section
variable {cx : Cx} {m : List (Nat × AV)} {sz : Nat} {H H' : Heap}
theorem sop_ok {op : Op} {r : Res} (h : sop cx m H op = some r) : opFn op cx ⟨sz, T.of m⟩ H = some r := by
  cases op with
  | move x | assign x | box _ x | load _ x | nilCheck x | unOp _ _ x | convert _ _ x | makeInterface _ x | fieldAddr _ x _ | field _ x _ =>
    simp only [sop] at h
    split at h
    · rename_i h1
      simp only [opFn, opMove, opAssign, opBox, opLoad, opNilCheck, opUnOp, opConvert, opMakeInterface, opFieldAddr, opField, rd_ok h1]
      exact h
    · cases h
  | store _ x y | binOp _ _ x y _ | makeSlice _ x y | indexAddr _ x y | index _ x y =>
    simp only [sop] at h
    split at h
    · rename_i h1 h2
      simp only [opFn, opStore, opBinOp, opMakeSlice, opIndexAddr, opIndex, rd_ok h1, rd_ok h2]
      exact h
    · cases h
  | pick c a b =>
    simp only [sop] at h
    split at h
    · rename_i h1
      split at h
      · rename_i h2; simp only [opFn, opPick, rd_ok h1, rd_ok h2]; exact h
      · cases h
    · rename_i h1
      split at h
      · rename_i h2; simp only [opFn, opPick, rd_ok h1, rd_ok h2]; exact h
      · cases h
    · cases h
  | alloc t => exact h
  | build t ps =>
    simp only [sop] at h
    split at h
    · rename_i h1
      split at h
      · rename_i cs h2
        split at h
        · rename_i ds h3
          simp only [opFn, opBuild, rdps_ok h1, h2, valR, plain_eq h3]
          exact h
        · cases h
      · cases h
    · cases h
  | buildSlice t n ps =>
    simp only [sop] at h
    split at h
    · rename_i h1
      simp only [opFn, opBuildSlice, rdps_ok h1]
      exact h
    · cases h
  | makeFunc fn f c =>
    simp only [sop] at h
    split at h
    · rename_i h1 h2
      simp only [opFn, opMakeFunc, rds_ok h1, rds_ok h2]
      exact h
    · cases h
  | makeMap t r =>
    simp only [sop] at h
    split at h
    · cases h
    · exact h
  | slice t x lo hi mx =>
    simp only [sop] at h
    split at h
    · rename_i h1 h2 h3 h4
      simp only [opFn, opSlice, rd_ok h1, rdo_ok h2, rdo_ok h3, rdo_ok h4]
      exact h
    · cases h
  | extract t i =>
    simp only [sop] at h
    split at h
    · rename_i h1
      simp only [opFn, opExtract, rd_ok h1]
      exact h
    · cases h
  | call c =>
    simp only [sop] at h
    split at h
    · rename_i b hb
      split at h
      · rename_i h1
        simp only [opFn, opCall, hb, rds_ok h1]
        exact h
      · cases h
    · rename_i f hf
      split at h
      · rename_i h1 h2
        simp only [opFn, opCall, hf, rd_ok h1, rds_ok h2]
        split at h
        · rename_i fn hfn
          rw [hfn]
          simp only
          cases hb : fn.body.isSome with
          | false => rw [hb] at h; cases h
          | true =>
            rw [hb] at h
            simp only [cond_true] at h ⊢
            split at h
            · rename_i h3; rw [plain_eq h3]; exact h
            · cases h
        · rename_i hfn
          rw [hfn]
          exact h
      · cases h
    · cases h
  | _ => simp only [sop] at h; cases h
end
/-- A region's operations, the temporaries by their entries. -/
structure RunG (cx : Cx) (ops : Array Oper) (l : List Oper) (sz : Nat) (m : List (Nat × AV)) (H : Heap) (m' : List (Nat × AV)) (H' : Heap) : Prop where
  run : RunL cx ops l ⟨sz, T.of m⟩ H (⟨sz, T.of m'⟩, H')
section
variable {cx : Cx} {ops : Array Oper} {l : List Oper} {sz d : Nat} {m : List (Nat × AV)} {H H' : Heap} {x : AV} {mr : List (Nat × AV)} {Hr : Heap} {k : List Fr} {Q : AEx → Env → Heap → Prop} {op : Op} {ty : TypeId} {pos : String} {af : Array Edge} {R : AEx → Env → Heap → Prop}
theorem G_nil : RunG cx ops [] sz m H m H := ⟨rfl⟩
theorem G_op {o : Oper} (hg : o.guard = none) (hd : o.dst = some d) (hs : Nat.blt d sz = true) (ha : opFn o.op cx ⟨sz, T.of m⟩ H = some (.val x H')) (h : RunG cx ops l sz ((d, x) :: m) H' mr Hr) : RunG cx ops (o :: l) sz m H mr Hr := by
  have hw : wantedA ops ⟨sz, T.of m⟩ o = some true := by simp only [wantedA, hg]
  refine ⟨?_⟩
  simp only [RunL, hw, aop, ha, hd, Env.put, hs, cond_true]
  exact h.run
/-- An operation that reckons by itself. -/
theorem G_v (hs : Nat.blt d sz = true) (ha : sop cx m H op = some (.val x H')) (h : RunG cx ops l sz ((d, x) :: m) H' mr Hr) : RunG cx ops (⟨some d, op, ty, pos, af, none⟩ :: l) sz m H mr Hr :=
  G_op rfl rfl hs (sop_ok ha) h
theorem G_s (ha : sop cx m H op = some (.skip H')) (h : RunG cx ops l sz m H' mr Hr) : RunG cx ops (⟨none, op, ty, pos, af, none⟩ :: l) sz m H mr Hr := by
  have ha := sop_ok (sz := sz) ha
  refine ⟨?_⟩
  simp only [RunL, wantedA, aop, ha, Env.put]
  exact h.run
theorem G_c {f : FuncId} {args : List AV} (hs : Nat.blt d sz = true) (ha : sop cx m H op = some (.enter f args)) (hc : Ans cx f args H fun y K => y = x ∧ K = H') (h : RunG cx ops l sz ((d, x) :: m) H' mr Hr) : RunG cx ops (⟨some d, op, ty, pos, af, none⟩ :: l) sz m H mr Hr := by
  have ha := sop_ok (sz := sz) ha
  refine ⟨?_⟩
  simp only [RunL, wantedA, aop, ha, Env.put, hs, cond_true]
  exact ⟨x, H', hc, h.run⟩
/-- An operation behind a guard that holds. -/
theorem G_g {d' : Option Tmp} {j t : Nat} {w : Bool} (hj : (ops[j]?).bind (·.dst) = some t) (hb : lq m t = some (.bool w)) (h : RunG cx ops (⟨d', op, ty, pos, af, none⟩ :: l) sz m H mr Hr) : RunG cx ops (⟨d', op, ty, pos, af, some (j, w)⟩ :: l) sz m H mr Hr := by
  have hw : wantedA ops ⟨sz, T.of m⟩ ⟨d', op, ty, pos, af, some (j, w)⟩ = some true := by
    simp only [wantedA, hj, T.of_get, hb]
    cases w <;> rfl
  have hw' : wantedA ops ⟨sz, T.of m⟩ ⟨d', op, ty, pos, af, none⟩ = some true := rfl
  have h := h.run
  refine ⟨?_⟩
  simp only [RunL, hw, hw'] at h ⊢
  exact h
/-- An operation behind a guard that fails. -/
theorem G_n {j t : Nat} {w b : Bool} (hs : Nat.blt d sz = true) (hj : (ops[j]?).bind (·.dst) = some t) (hb : lq m t = some (.bool b)) (hn : (b == w) = false) (h : RunG cx ops l sz ((d, .tuple []) :: m) H mr Hr) : RunG cx ops (⟨some d, op, ty, pos, af, some (j, w)⟩ :: l) sz m H mr Hr := by
  have hw : wantedA ops ⟨sz, T.of m⟩ ⟨some d, op, ty, pos, af, some (j, w)⟩ = some false := by
    simp only [wantedA, hj, T.of_get, hb, hn]
  refine ⟨?_⟩
  simp only [RunL, hw, Env.put, hs, cond_true]
  exact h.run
theorem G_n' {j t : Nat} {w : Bool} (hs : Nat.blt d sz = true) (hj : (ops[j]?).bind (·.dst) = some t) (hb : lq m t = some (.tuple [])) (h : RunG cx ops l sz ((d, .tuple []) :: m) H mr Hr) : RunG cx ops (⟨some d, op, ty, pos, af, some (j, w)⟩ :: l) sz m H mr Hr := by
  have hw : wantedA ops ⟨sz, T.of m⟩ ⟨some d, op, ty, pos, af, some (j, w)⟩ = some false := by
    simp only [wantedA, hj, T.of_get, hb]
  refine ⟨?_⟩
  simp only [RunL, hw, Env.put, hs, cond_true]
  exact h.run
/-- The state at a piece of code. -/
structure WG (cx : Cx) (c : Code) (sz : Nat) (m : List (Nat × AV)) (H : Heap) (Q : AEx → Env → Heap → Prop) : Prop where
  w : W cx c ⟨sz, T.of m⟩ H Q
/-- What is to be shown where a piece of code has ended. -/
structure CG (cx : Cx) (R : AEx → Env → Heap → Prop) (k : List Fr) (ax : AEx) (sz : Nat) (m : List (Nat × AV)) (H : Heap) : Prop where
  c : Cn cx R k ax ⟨sz, T.of m⟩ H
theorem G_run (hN : CxOk cx) {id : Nat} {ops : Array Oper} {y : Code} (h : RunG cx ops ops.toList sz m H mr Hr) (hq : WG cx y sz mr Hr (Cn cx R k)) : WG cx (.seq (.region id ops false) y) sz m H (Cn cx R k) :=
  ⟨S_run hN (⟨sz, T.of mr⟩, Hr) h.run hq.w⟩
theorem G_run1 (hN : CxOk cx) {id : Nat} {ops : Array Oper} (h : RunG cx ops ops.toList sz m H mr Hr) (hq : CG cx R k .normal sz mr Hr) : WG cx (.region id ops false) sz m H (Cn cx R k) :=
  ⟨S_run1 hN (⟨sz, T.of mr⟩, Hr) h.run hq.c⟩
theorem G_seq {x y : Code} (h : WG cx x sz m H (Cn cx R (.seq y :: k))) : WG cx (.seq x y) sz m H (Cn cx R k) := ⟨S_seq h.w⟩
theorem G_block {c : Code} {id : Nat} (h : WG cx c sz m H (Cn cx R (.block id :: k))) : WG cx (.block id c) sz m H (Cn cx R k) := ⟨S_block h.w⟩
theorem G_pop {y : Code} (h : WG cx y sz m H (Cn cx R k)) : CG cx R (.seq y :: k) .normal sz m H := ⟨h.w⟩
theorem G_popb {id : Nat} (h : CG cx R k .normal sz m H) : CG cx R (.block id :: k) .normal sz m H := ⟨h.c⟩
theorem G_popx {id : Nat} (h : CG cx R k .normal sz m H) : CG cx R (.block id :: k) (.exit id) sz m H := ⟨by
  simp only [Cn, if_true]; exact h.c⟩
theorem G_pops {y : Code} {id : Nat} (h : CG cx R k (.exit id) sz m H) : CG cx R (.seq y :: k) (.exit id) sz m H := ⟨h.c⟩
theorem G_popy {id id' : Nat} (hi : Nat.beq id id' = false) (h : CG cx R k (.exit id) sz m H) : CG cx R (.block id' :: k) (.exit id) sz m H := ⟨by
  have : ¬ id = id' := fun hh => by subst hh; simp at hi
  simp only [Cn, if_neg this]; exact h.c⟩
theorem G_skip (h : CG cx R k .normal sz m H) : WG cx .skip sz m H (Cn cx R k) := ⟨W_skip h.c⟩
theorem G_exit {id : Nat} (h : CG cx R k (.exit id) sz m H) : WG cx (.exit id) sz m H (Cn cx R k) := ⟨W_exit h.c⟩
theorem G_ret (h : CG cx R k .ret sz m H) : WG cx .ret sz m H (Cn cx R k) := ⟨W_ret h.c⟩
theorem G_if {o : Operand} {c d : Code} {b : Bool} (hb : rd cx m o = some (.bool b)) (ht : b = true → WG cx c sz m H Q) (hf : b = false → WG cx d sz m H Q) : WG cx (.cond o c d) sz m H Q := ⟨by
  refine W_cond (rd_ok hb) ?_
  cases b with
  | true => exact (ht rfl).w
  | false => exact (hf rfl).w⟩
theorem G_if1 {o : Operand} {c d : Code} (hb : rd cx m o = some (.bool true)) (h : WG cx c sz m H Q) : WG cx (.cond o c d) sz m H Q := ⟨W_cond (rd_ok hb) h.w⟩
theorem G_if0 {o : Operand} {c d : Code} (hb : rd cx m o = some (.bool false)) (h : WG cx d sz m H Q) : WG cx (.cond o c d) sz m H Q := ⟨W_cond (rd_ok hb) h.w⟩
def argsM : Nat → List AV → List (Nat × AV) → List (Nat × AV)
  | _, [], m => m
  | i, x :: xs, m => argsM (i + 1) xs ((i, x) :: m)
theorem argsT_M : ∀ (i : Nat) (xs : List AV) (m : List (Nat × AV)), argsT i xs (T.of m) = T.of (argsM i xs m)
  | _, [], _ => rfl
  | i, x :: xs, m => argsT_M (i + 1) xs ((i, x) :: m)
/-- What a function hands back. -/
def resM (m : List (Nat × AV)) : List ResultVar → Option (List AV)
  | [] => some []
  | .tmp t :: rs => match lq m t, resM m rs with
    | some x, some xs => some (x :: xs)
    | _, _ => none
  | .cell _ _ :: _ => none
theorem resM_ok {D : Tab} {sz : Nat} : ∀ {rs : List ResultVar} {xs : List AV}, resM m rs = some xs → resA D ⟨sz, T.of m⟩ H rs = some xs
  | [], xs, h => by cases h; rfl
  | .tmp t :: rs, xs, h => by
    simp only [resM] at h
    split at h
    · rename_i h1 h2
      cases h
      simp only [resA, T.of_get, h1, resM_ok h2]
    · cases h
  | .cell _ _ :: _, xs, h => by cases h
/-- The end of a function's run. -/
def Fin (cx : Cx) (rs : List ResultVar) (R : AV → Heap → Prop) (ax : AEx) (e : Env) (H : Heap) : Prop := (ax = .normal ∨ ax = .ret) ∧ ∃ xs, resA cx.D e H rs = some xs ∧ R (wrapR xs) H
theorem G_body (hN : CxOk cx) {f : FuncId} {args : List AV} {fn : Func} {c : Code} {R : AV → Heap → Prop} {rs : List ResultVar} (hfn : cx.fn.get f = some fn) (hc : fn.body = some c) (hz : max args.length fn.ntmps = sz) (hm : argsM 0 args [] = m) (hr : fn.results.toList = rs)
    (h : WG cx c sz m H (Cn cx (Fin cx rs R) [])) : Ans cx f args H R := by
  refine Ans_body hN hfn hc ?_
  have e : argsT 0 args .nil = T.of m := by rw [← hm]; exact argsT_M 0 args []
  rw [hz, e, hr]
  exact h.w
theorem Cn_ret : ∀ {k : List Fr} {e : Env}, R .ret e H → Cn cx R k .ret e H
  | [], _, h => h
  | .seq _ :: k, _, h => Cn_ret (k := k) h
  | .block _ :: k, _, h => Cn_ret (k := k) h
theorem G_end {rs : List ResultVar} {R : AV → Heap → Prop} {xs : List AV} (hm : resM m rs = some xs) (h : R (wrapR xs) H) : CG cx (Fin cx rs R) k .ret sz m H :=
  ⟨Cn_ret ⟨.inr rfl, xs, resM_ok hm, h⟩⟩
theorem G_end' {rs : List ResultVar} {R : AV → Heap → Prop} {xs : List AV} (hm : resM m rs = some xs) (h : R (wrapR xs) H) : CG cx (Fin cx rs R) [] .normal sz m H :=
  ⟨.inl rfl, xs, resM_ok hm, h⟩
theorem g_idx {t : TypeId} {a b : Operand} {id off len cap es el : Nat} {ex : Bool} {kk : IntKind} {i : Int} {inf : TypeInfo} (n : Nat)
    (ha : rd cx m a = some (.slice id off len cap ex es)) (hb : rd cx m b = some (.int kk i)) (hu : cx.D.und t = some (.slice el)) (hi : cx.D.inf el = some inf) (hn : i = n) (hl : n < len) :
    sop cx m H (.indexAddr t a b) = some (.val (.ptr id (off + n * inf.size)) H) := by
  subst hn
  have h2 : 0 ≤ (n : Int) ∧ (n : Int) < (len : Int) := by omega
  simp only [sop, aIndexAddr, ha, hb, hu, hi, h2, and_self, if_true, Int.toNat_natCast, valR]
theorem g_idxi {t : TypeId} {a b : Operand} {cs : List AV} {len el : Nat} {kk : IntKind} {i : Int} {inf : TypeInfo} (n : Nat)
    (ha : rd cx m a = some (.isl cs len)) (hb : rd cx m b = some (.int kk i)) (hu : cx.D.und t = some (.slice el)) (hi : cx.D.inf el = some inf) (hn : i = n) (hl : n < len) :
    sop cx m H (.indexAddr t a b) = some (.val (.iptr cs (n * inf.size)) H) := by
  subst hn
  have h2 : 0 ≤ (n : Int) ∧ (n : Int) < (len : Int) := by omega
  simp only [sop, aIndexAddr, ha, hb, hu, hi, h2, and_self, if_true, Int.toNat_natCast, valR]
/-- A load of one cell of a row that is not spelt out. -/
theorem g_load {t : TypeId} {a : Operand} {cs : List AV} {off : Nat} {ds : TypeDesc} {inf : TypeInfo} {v : AV}
    (ha : rd cx m a = some v) (hc : cellsAt H v = some (cs, off)) (hu : cx.D.und t = some ds) (hi : cx.D.inf t = some inf) (hg : isAggD ds = false) (hx : cs[off]? = some x) :
    sop cx m H (.load t a) = some (.val x H) := by
  simp only [sop, aLoad, ha, hc, hu, hi, hg, cond_false, hx, valR]
theorem u32_at {l : List Nat} {i : Nat} (h : i < l.length) : (l.map u32)[i]? = some (u32 (l.getD i 0)) := by
  rw [List.getElem?_map, List.getElem?_eq_getElem h, List.getD_eq_getElem?_getD, List.getElem?_eq_getElem h]; rfl
end
end Go.Eng
end
section
namespace Go.Eng
open Go.RowKit
theorem Imp.of_eq {x y : AV} (h : x = y) : Imp x y := h ▸ Imp.refl x
def hasM (m : List (Nat × AV)) : List (Nat × AV) → Prop
  | [] => True
  | (k, y) :: l => (∃ x, lq m k = some x ∧ Imp x y) ∧ hasM m l
theorem hasM_E {m : List (Nat × AV)} : ∀ {l : List (Nat × AV)}, hasM m l → hasE (T.of m) l
  | [], _ => trivial
  | (k, y) :: l, h => ⟨by
    obtain ⟨x, h1, h2⟩ := h.1
    exact ⟨x, by rw [T.of_get]; exact h1, h2⟩, hasM_E h.2⟩
theorem M0 {m : List (Nat × AV)} : hasM m [] := trivial
/-- The temporary holds just that. -/
theorem M1 {m : List (Nat × AV)} {k : Nat} {y : AV} {l : List (Nat × AV)} (h : lq m k = some y) (hl : hasM m l) : hasM m ((k, y) :: l) := ⟨⟨y, h, Imp.refl y⟩, hl⟩
/-- The temporary holds what is equal to that. -/
theorem M2 {m : List (Nat × AV)} {k : Nat} {x y : AV} {l : List (Nat × AV)} (h : lq m k = some x) (e : x = y) (hl : hasM m l) : hasM m ((k, y) :: l) := ⟨⟨x, h, Imp.of_eq e⟩, hl⟩
theorem M3 {m : List (Nat × AV)} {k : Nat} {x y : AV} {l : List (Nat × AV)} (h : lq m k = some x) (e : Imp x y) (hl : hasM m l) : hasM m ((k, y) :: l) := ⟨⟨x, h, e⟩, hl⟩
section
variable {cx : Cx} {sz : Nat} {m : List (Nat × AV)} {H : Heap} {k : List Fr} {Q : AEx → Env → Heap → Prop} {R : AEx → Env → Heap → Prop}
theorem G_weak {c : Code} (l : List (Nat × AV)) (h : hasM m l) (hw : WG cx c sz l H Q) : WG cx c sz m H Q := ⟨W_sub (Env.Sub.of rfl (hasM_E h)) (Heap.Sub.refl H) hw.w⟩
theorem G_weakH {c : Code} (l : List (Nat × AV)) (K : Heap) (h : hasM m l) (hk : Heap.Sub K H) (hw : WG cx c sz l K Q) : WG cx c sz m H Q := ⟨W_sub (Env.Sub.of rfl (hasM_E h)) hk hw.w⟩
/-- The end of a round. -/
def LP (cx : Cx) (R : AEx → Env → Heap → Prop) (k : List Fr) (sz : Nat) {α : Type} (I : α → Prop) (ms : α → Nat) (M : α → List (Nat × AV)) (K : α → Heap) (a : α) (ax : AEx) (e : Env) (H : Heap) : Prop := match ax with
  | .normal => ∃ b, I b ∧ ms b < ms a ∧ Env.Sub ⟨sz, T.of (M b)⟩ e ∧ Heap.Sub (K b) H
  | ax => Cn cx R k ax e H
theorem G_loop {α : Type} {c : Code} (I : α → Prop) (ms : α → Nat) (M : α → List (Nat × AV)) (K : α → Heap) (a : α) (ha : I a) (he : hasM m (M a)) (hh : Heap.Sub (K a) H)
    (step : ∀ a, I a → WG cx c sz (M a) (K a) (Cn cx (LP cx R k sz I ms M K a) [])) : WG cx (.loop c) sz m H (Cn cx R k) :=
  ⟨S_loop (fun a => ⟨sz, T.of (M a)⟩) K I ms a ha (Env.Sub.of rfl (hasM_E he)) hh fun a ha => (step a ha).w.mono fun ax e H h => by
    cases ax <;> exact h⟩
theorem G_again {α : Type} {I : α → Prop} {ms : α → Nat} {M : α → List (Nat × AV)} {K : α → Heap} {a : α} (b : α) (hb : I b) (hm : ms b < ms a) (he : hasM m (M b)) (hh : Heap.Sub (K b) H) : CG cx (LP cx R k sz I ms M K a) [] .normal sz m H :=
  ⟨⟨b, hb, hm, Env.Sub.of rfl (hasM_E he), hh⟩⟩
theorem G_leave {α : Type} {I : α → Prop} {ms : α → Nat} {M : α → List (Nat × AV)} {K : α → Heap} {a : α} {id : Nat} (h : CG cx R k (.exit id) sz m H) : CG cx (LP cx R k sz I ms M K a) [] (.exit id) sz m H := ⟨h.c⟩
/-- The state between two pieces of code. -/
def MP (cx : Cx) (R : AEx → Env → Heap → Prop) (k : List Fr) (sz : Nat) {α : Type} (I : α → Prop) (M : α → List (Nat × AV)) (K : α → Heap) (ax : AEx) (e : Env) (H : Heap) : Prop := match ax with
  | .normal => ∃ b, I b ∧ Env.Sub ⟨sz, T.of (M b)⟩ e ∧ Heap.Sub (K b) H
  | ax => Cn cx R k ax e H
theorem G_mid {α : Type} {x y : Code} (I : α → Prop) (M : α → List (Nat × AV)) (K : α → Heap) (hx : WG cx x sz m H (Cn cx (MP cx R k sz I M K) [])) (hy : ∀ a, I a → WG cx y sz (M a) (K a) (Cn cx R k)) : WG cx (.seq x y) sz m H (Cn cx R k) :=
  ⟨S_seq (hx.w.mono fun ax e H h => by
    cases ax with
    | normal =>
      obtain ⟨b, h1, h2, h3⟩ := h
      exact W_sub h2 h3 (hy b h1).w
    | exit id => exact h
    | ret => exact h)⟩
theorem G_done {α : Type} {I : α → Prop} {M : α → List (Nat × AV)} {K : α → Heap} (b : α) (hb : I b) (he : hasM m (M b)) (hh : Heap.Sub (K b) H) : CG cx (MP cx R k sz I M K) [] .normal sz m H :=
  ⟨⟨b, hb, Env.Sub.of rfl (hasM_E he), hh⟩⟩
theorem MP_ret {α : Type} {I : α → Prop} {M : α → List (Nat × AV)} {K : α → Heap} (h : CG cx R k .ret sz m H) {k' : List Fr} : CG cx (MP cx R k sz I M K) k' .ret sz m H := ⟨Cn_ret h.c⟩
theorem LP_ret {α : Type} {I : α → Prop} {ms : α → Nat} {M : α → List (Nat × AV)} {K : α → Heap} {a : α} (h : CG cx R k .ret sz m H) {k' : List Fr} : CG cx (LP cx R k sz I ms M K a) k' .ret sz m H := ⟨Cn_ret h.c⟩
end
section
variable {cx : Cx} {m : List (Nat × AV)} {H : Heap}
theorem g_idx1 {t : TypeId} {a b : Operand} {id off len cap es el : Nat} {ex : Bool} {kk : IntKind} {i : Int} {inf : TypeInfo} (n : Nat)
    (ha : rd cx m a = some (.slice id off len cap ex es)) (hb : rd cx m b = some (.int kk i)) (hu : cx.D.und t = some (.slice el)) (hi : cx.D.inf el = some inf) (hz : inf.size = 1) (hn : i = n) (hl : n < len) :
    sop cx m H (.indexAddr t a b) = some (.val (.ptr id (off + n)) H) := by
  rw [g_idx n ha hb hu hi hn hl, hz, Nat.mul_one]
theorem g_idxi1 {t : TypeId} {a b : Operand} {cs : List AV} {len el : Nat} {kk : IntKind} {i : Int} {inf : TypeInfo} (n : Nat)
    (ha : rd cx m a = some (.isl cs len)) (hb : rd cx m b = some (.int kk i)) (hu : cx.D.und t = some (.slice el)) (hi : cx.D.inf el = some inf) (hz : inf.size = 1) (hn : i = n) (hl : n < len) :
    sop cx m H (.indexAddr t a b) = some (.val (.iptr cs n) H) := by
  rw [g_idxi n ha hb hu hi hn hl, hz, Nat.mul_one]
/-- Whole numbers, whose outcome is known. -/
theorem g_int {op : Op} {k : IntKind} {a b : Int} (h : sop cx m H op = some (.val (.int k a) H)) (e : a = b) : sop cx m H op = some (.val (.int k b) H) := by rw [h, e]
theorem g_bool {op : Op} {a b : Bool} (h : sop cx m H op = some (.val (.bool a) H)) (e : a = b) : sop cx m H op = some (.val (.bool b) H) := by rw [h, e]
theorem g_to {op : Op} {x y : AV} {H' : Heap} (h : sop cx m H op = some (.val x H')) (e : x = y) : sop cx m H op = some (.val y H') := by rw [h, e]
/-- A cut from the start of a row that may be written. -/
theorem g_cut {t : TypeId} {a b : Operand} {id off len cap es el : Nat} {ex : Bool} {kk : IntKind} {i : Int} {inf : TypeInfo} (n : Nat)
    (ha : rd cx m a = some (.slice id off len cap ex es)) (hb : rd cx m b = some (.int kk i)) (hu : cx.D.und t = some (.slice el)) (hi : cx.D.inf el = some inf) (hz : Nat.beq es inf.size = true) (hn : i = n) (hl : n ≤ cap) :
    sop cx m H (.slice t a none (some b) none) = some (.val (.slice id off n cap ex es) H) := by
  subst hn
  have h2 : 0 ≤ (n : Int) ∧ (n : Int) ≤ (cap : Int) := by omega
  simp only [sop, ha, rdo, hb, aSlice, hu, hi, bd, h2, and_self, if_true, Int.toNat_natCast, hz, cond_true, Option.map_some, valR, Nat.zero_mul, Nat.add_zero, Nat.sub_zero]
theorem g_cuti {t : TypeId} {a b : Operand} {cs : List AV} {len el : Nat} {kk : IntKind} {i : Int} {inf : TypeInfo} (n : Nat)
    (ha : rd cx m a = some (.isl cs len)) (hb : rd cx m b = some (.int kk i)) (hu : cx.D.und t = some (.slice el)) (hi : cx.D.inf el = some inf) (hn : i = n) (hl : n ≤ len) :
    sop cx m H (.slice t a none (some b) none) = some (.val (.isl (cs.take (n * inf.size)) n) H) := by
  subst hn
  have h2 : 0 ≤ (n : Int) ∧ (n : Int) ≤ (len : Int) := by omega
  simp only [sop, ha, rdo, hb, aSlice, hu, hi, bd, h2, and_self, if_true, Int.toNat_natCast, Option.map_some, valR, Nat.zero_mul, Nat.sub_zero, List.drop_zero]
/-- A new row. -/
theorem g_make {t : TypeId} {a b : Operand} {el : Nat} {k1 k2 : IntKind} {i j : Int} {inf : TypeInfo} {zs : List AV} (n c : Nat)
    (ha : rd cx m a = some (.int k1 i)) (hb : rd cx m b = some (.int k2 j)) (hu : cx.D.und t = some (.slice el)) (hi : cx.D.inf el = some inf) (hz : zeroOf cx.D el = some zs) (h1 : i = n) (h2 : j = c) (h3 : n ≤ c) (h4 : c ≤ 281474976710656) (h5 : inf.bytes * c ≤ 281474976710656) :
    sop cx m H (.makeSlice t a b) = some (.val (.slice H.nx 0 n c true inf.size) (H.alloc (.cells (repl c zs)))) := by
  subst h1; subst h2
  have g1 : (0 : Int) ≤ (n : Int) ∧ (n : Int) ≤ (c : Int) ∧ (c : Int) ≤ 281474976710656 ∧ ((inf.bytes : Nat) : Int) * (c : Int) ≤ 281474976710656 := by
    refine ⟨by omega, by omega, by omega, ?_⟩
    have : ((inf.bytes * c : Nat) : Int) ≤ 281474976710656 := by omega
    simpa using this
  simp only [sop, ha, hb, aMakeSlice, hu, hi, hz, g1, and_self, if_true, newR, Int.toNat_natCast]
/-- A store of one cell into a row. -/
theorem g_store1 {t : TypeId} {a b : Operand} {id off : Nat} {cs : List AV} {x : AV} {inf : TypeInfo}
    (ha : rd cx m a = some (.ptr id off)) (hb : rd cx m b = some x) (hi : cx.D.inf t = some inf) (hz : inf.size = 1) (hx : x.cells = some [x]) (ho : x.one = true) (hg : H.t.get id = some (.cells cs)) (hl : off < cs.length) :
    sop cx m H (.store t a b) = some (.skip (H.put id (.cells (cs.set off x)))) := by
  have e1 : Nat.ble (off + 1) cs.length = true := by rw [Nat.ble_eq]; exact hl
  simp only [sop, ha, hb, aStore, hi, hx, hg, List.length_cons, List.length_nil, hz, allOne, ho, Bool.and_true, putAt, e1]
  rfl
theorem repl_u32 (c : Nat) : repl c [.int .u32 0] = (List.replicate c 0).map u32 := by
  unfold repl
  induction c with
  | zero => rfl
  | succ c ih => simp only [List.replicate_succ, List.flatten_cons, ih, List.map_cons]; rfl
theorem map_set_u32 (l : List Nat) (i d : Nat) : (l.map u32).set i (u32 d) = (l.set i d).map u32 := by rw [List.map_set]
end
theorem frzs_cons {H : Heap} {n : Nat} {x y : AV} {xs ys : List AV} (h : frz H n x = some y) (hs : frzs H n xs = some ys) : frzs H (n + 1) (x :: xs) = some (y :: ys) := by
  have e : frzs H (n + 1) (x :: xs) = (match frz H n x, frzs H n xs with
    | some y, some ys => some (y :: ys)
    | _, _ => none) := rfl
  rw [e, h, hs]
theorem frz_ptr {H : Heap} {n id off : Nat} {cs ys : List AV} (h : H.t.get id = some (.cells cs)) (hs : frzs H n cs = some ys) : frz H (n + 1) (.ptr id off) = some (.iptr ys off) := by
  have e : frz H (n + 1) (.ptr id off) = (match H.t.get id with
      | some (.cells cs) => match frzs H n cs with
        | some ys => some (.iptr ys off)
        | none => none
      | _ => none) := rfl
  rw [e, h]
  simp only [hs]
theorem frz_slice {H : Heap} {n id off len cap es : Nat} {ex : Bool} {cs l ys : List AV} (h : H.t.get id = some (.cells cs)) (hq : seg cs off (len * es) = some l) (hs : frzs H n l = some ys) : frz H (n + 1) (.slice id off len cap ex es) = some (.isl ys len) := by
  have e : frz H (n + 1) (.slice id off len cap ex es) = (match H.t.get id with
      | some (.cells cs) => match seg cs off (len * es) with
        | some l => match frzs H n l with
          | some ys => some (.isl ys len)
          | none => none
        | none => none
      | _ => none) := rfl
  rw [e, h]
  simp only [hq, hs]
theorem frz_isl {H : Heap} {n len : Nat} {cs : List AV} (h : AV.frees cs = true) : frz H (n + 1) (.isl cs len) = some (.isl cs len) := by
  have e : frz H (n + 1) (.isl cs len) = cond (AV.frees cs) (some (.isl cs len)) none := rfl
  rw [e, h]; rfl
theorem frzs_nil {H : Heap} {n : Nat} : frzs H (n + 1) [] = some [] := rfl
theorem frzs_u32 (H : Heap) : ∀ (l : List Nat) (n : Nat), l.length + 2 ≤ n → frzs H n (l.map u32) = some (l.map u32)
  | [], n, h => by
    obtain ⟨n, rfl⟩ : ∃ k, n = k + 1 := ⟨n - 1, by simp at h; omega⟩
    rfl
  | d :: l, n, h => by
    simp only [List.length_cons] at h
    obtain ⟨n, rfl⟩ : ∃ k, n = k + 2 := ⟨n - 2, by omega⟩
    exact frzs_cons rfl (frzs_u32 H l (n + 1) (by omega))
theorem seg_take (cs : List AV) (off n : Nat) (h : off + n ≤ cs.length) : seg cs off n = some ((cs.drop off).take n) := by
  have : ((cs.drop off).take n).length = n := by simp; omega
  simp only [seg, this]
  simp
/-- A new number: a struct with a cut of digits that lie in a place. -/
theorem frz_num {H : Heap} {l : List Nat} {id p kk cap : Nat} {ex : Bool} (hp : H.t.get p = some (.cells [.slice id 0 kk cap ex 1])) (hg : H.t.get id = some (.cells (l.map u32))) (hl : Dg l) (hk : kk = (digs (val l)).length) : ∃ n, frz H n (.ptr p 0) = some (numTree (val l)) := by
  obtain ⟨h1, h2, _⟩ := digs_len_le hl
  refine ⟨l.length + 20, ?_⟩
  have e1 : seg (l.map u32) 0 (kk * 1) = some ((digs (val l)).map u32) := by
    rw [seg_take _ _ _ (by simp; omega), List.drop_zero, Nat.mul_one, hk, ← List.map_take, ← h2]
  have e2 : frzs H (l.length + 17) ((digs (val l)).map u32) = some ((digs (val l)).map u32) := frzs_u32 H _ _ (by omega)
  have e3 := frz_slice (n := l.length + 17) (cap := cap) (ex := ex) hg e1 e2
  rw [frz_ptr (n := l.length + 19) hp (frzs_cons e3 frzs_nil), hk]
  rfl
section
variable {cx : Cx}
/-- A call that sees nothing of the heap, its answer a number. -/
theorem Ans_num (hgl : ∀ g cells, cx.gl g = some cells → AV.frees cells = true) {f : FuncId} {args : List AV} {n : Nat} (hf : AV.frees args = true) (h : Ans cx f args H0 fun x H1 => ∃ k, frz H1 k x = some (numTree n)) (H : Heap) :
    Ans cx f args H fun x K => x = .num n ∧ K = H := Ans_to (Imp.num' n) (Ans_closed hgl hf h H)
end
end Go.Eng
end
section
namespace Go.Eng
open Go.RowKit
theorem val_take_succ : ∀ (l : List Nat) (i : Nat), val (l.take (i + 1)) = val (l.take i) + BB ^ i * l.getD i 0
  | [], i => by simp [val]
  | d :: l, 0 => by simp [val]
  | d :: l, i + 1 => by
    have := val_take_succ l i
    simp only [List.take_succ_cons, val, List.getD_cons_succ, Nat.pow_succ] at this ⊢
    rw [this]
    generalize val (l.take i) = p
    generalize l.getD i 0 = q
    generalize BB ^ i = r
    grind
theorem val_take_all (l : List Nat) {n : Nat} (h : l.length ≤ n) : val (l.take n) = val l := by rw [List.take_of_length_le h]
theorem take_set (l : List Nat) (i d : Nat) : (l.set i d).take i = l.take i := by
  rw [List.take_set]
  have : (l.take i).length ≤ i := by simp; omega
  exact List.set_eq_of_length_le this
theorem getD_set {l : List Nat} {i : Nat} (h : i < l.length) (d : Nat) : (l.set i d).getD i 0 = d := by
  rw [List.getD_eq_getElem?_getD, List.getElem?_set_self h]; rfl
theorem val_set_succ {l : List Nat} {i : Nat} (h : i < l.length) (d : Nat) : val ((l.set i d).take (i + 1)) = val (l.take i) + BB ^ i * d := by
  rw [val_take_succ, take_set, getD_set h]
theorem val_set : ∀ (l : List Nat) (j d : Nat), j < l.length → val (l.set j d) + BB ^ j * l.getD j 0 = val l + BB ^ j * d
  | [], j, d, h => by simp at h
  | x :: l, 0, d, _ => by simp [val]; omega
  | x :: l, j + 1, d, h => by
    have := val_set l j d (by simpa using h)
    simp only [List.set_cons_succ, val, List.getD_cons_succ, Nat.pow_succ] at this ⊢
    generalize val (l.set j d) = p at *
    generalize l.getD j 0 = q at *
    generalize val l = u at *
    generalize BB ^ j = r at *
    have : BB * (p + r * q) = BB * (u + r * d) := by rw [this]
    grind
theorem getD_set_ne (l : List Nat) {i j : Nat} (d : Nat) (h : i ≠ j) : (l.set i d).getD j 0 = l.getD j 0 := by
  rw [List.getD_eq_getElem?_getD, List.getElem?_set_ne h, ← List.getD_eq_getElem?_getD]
theorem val_mono_pow {l : List Nat} (h : Dg l) {n : Nat} (hn : l.length ≤ n) : val l < BB ^ n := Nat.lt_of_lt_of_le (val_lt h) (Nat.pow_le_pow_right (by decide) hn)
theorem lt_pow_len (n : Nat) : n < BB ^ (digs n).length := by
  have := val_lt (digs_dg n)
  rw [val_digs] at this
  exact this
theorem len_le_of_lt {n k : Nat} (h : n < BB ^ k) : (digs n).length ≤ k := by
  rcases Nat.lt_or_ge k (digs n).length with hk | hk
  · exfalso
    have hn : 0 < n := by
      rcases Nat.eq_zero_or_pos n with rfl | hp
      · simp [digs_zero] at hk
      · exact hp
    obtain ⟨q1, q2⟩ := digs_last hn
    have e := val_take_succ (digs n) ((digs n).length - 1)
    rw [show (digs n).length - 1 + 1 = (digs n).length by omega, List.take_length, val_digs] at e
    have h1 : BB ^ k ≤ BB ^ ((digs n).length - 1) := Nat.pow_le_pow_right (by decide) (by omega)
    have h2 : BB ^ ((digs n).length - 1) * 1 ≤ BB ^ ((digs n).length - 1) * (digs n).getD ((digs n).length - 1) 0 := Nat.mul_le_mul_left _ (by omega)
    omega
  · exact hk
theorem getD_ge {l : List Nat} {i : Nat} (h : l.length ≤ i) : l.getD i 0 = 0 := by
  rw [List.getD_eq_getElem?_getD, List.getElem?_eq_none h]; rfl
theorem val_ext : ∀ (l k : List Nat), (∀ j, l.getD j 0 = k.getD j 0) → val l = val k
  | [], [], _ => rfl
  | [], d :: k, h => by
    have h0 := h 0
    have := val_ext [] k (fun j => by have := h (j + 1); simpa using this)
    simp only [val] at this ⊢
    simp at h0
    rw [← this, ← h0]; simp
  | d :: l, [], h => by
    have h0 := h 0
    have := val_ext l [] (fun j => by have := h (j + 1); simpa using this)
    simp only [val] at this ⊢
    simp at h0
    rw [this, h0]; simp
  | d :: l, c :: k, h => by
    have h0 := h 0
    have := val_ext l k (fun j => by have := h (j + 1); simpa using this)
    simp only [val] at this ⊢
    simp at h0
    rw [this, h0]
theorem getD_drop (l : List Nat) (i j : Nat) : (l.drop i).getD j 0 = l.getD (i + j) 0 := by
  rw [List.getD_eq_getElem?_getD, List.getD_eq_getElem?_getD, List.getElem?_drop]
theorem val_split (l : List Nat) (i : Nat) (h : i ≤ l.length) : val l = val (l.take i) + BB ^ i * val (l.drop i) := by
  have := val_append (l.take i) (l.drop i)
  rw [List.take_append_drop] at this
  rw [this, List.length_take, Nat.min_eq_left h]
theorem val_split' (l : List Nat) : ∀ i, val l = val (l.take i) + BB ^ i * val (l.drop i) := fun i => by
  rcases Nat.le_total i l.length with h | h
  · exact val_split l i h
  · rw [List.take_of_length_le h, List.drop_of_length_le h]; simp [val]
theorem val_less {l k : List Nat} (hl : Dg l) {i : Nat} (h : ∀ j, i < j → l.getD j 0 = k.getD j 0) (hi : l.getD i 0 < k.getD i 0) : val l < val k := by
  have e : val (l.drop (i + 1)) = val (k.drop (i + 1)) := val_ext _ _ fun j => by rw [getD_drop, getD_drop]; exact h _ (by omega)
  rw [val_split' l (i + 1), val_split' k (i + 1), e, val_take_succ l, val_take_succ k]
  have h1 : val (l.take i) < BB ^ i := val_mono_pow (hl.take i) (by simp; omega)
  have h2 : BB ^ i * (l.getD i 0 + 1) ≤ BB ^ i * k.getD i 0 := Nat.mul_le_mul_left _ hi
  rw [Nat.mul_add, Nat.mul_one] at h2
  omega
/-- A number that the machine can hold with room to spare. -/
def Sm (n : Nat) : Prop := (digs n).length ≤ 1099511627776
theorem w64 {a : Int} {b : Nat} (h : a = b) (hb : b < 18446744073709551616) : IntKind.u64.wrap a = b := by rw [h, IntWalk.u64_in _ (by omega)]
theorem wi64 {a b : Int} (h : a = b) (h1 : -9223372036854775808 ≤ b) (h2 : b < 9223372036854775808) : IntKind.i64.wrap a = b := by rw [h, IntWalk.i64_in _ (by omega)]
theorem wm32 {a : Int} {b : Nat} (h : a = b) : IntKind.u32.wrap a = ((b % BB : Nat) : Int) := by rw [h, IntKind.wrap_u32]; simp only [BB]; omega
theorem shr_nat {a : Int} {n s : Nat} (h : a = n) (p : Nat) (hp : p = 2 ^ s) : Int.fdiv a (2 ^ s) = ((n / p : Nat) : Int) := by
  subst h; subst hp
  have : (2 : Int) ^ s = ((2 ^ s : Nat) : Int) := by simp
  rw [this, Int.fdiv_eq_ediv_of_nonneg _ (Int.natCast_nonneg _)]
  rfl
theorem or64 {a b : Nat} (ha : a < 18446744073709551616) (hb : b < 18446744073709551616) : IntKind.u64.wrap ((BitVec.ofInt IntKind.u64.bits (a : Int) ||| BitVec.ofInt IntKind.u64.bits (b : Int)).toNat : Int) = ((a ||| b : Nat) : Int) := by
  have e : ∀ n : Nat, n < 18446744073709551616 → (BitVec.ofInt IntKind.u64.bits (n : Int)).toNat = n := fun n hn => by
    show (BitVec.ofInt 64 (n : Int)).toNat = n
    rw [BitVec.ofInt_natCast, BitVec.toNat_ofNat, Nat.mod_eq_of_lt (by omega)]
  rw [BitVec.toNat_or, e a ha, e b hb]
  refine w64 rfl ?_
  have := Nat.or_lt_two_pow (n := 64) (by simpa using ha) (by simpa using hb)
  simpa using this
theorem or32 {a b : Nat} (ha : a < BB) (hb : b < BB) : IntKind.u32.wrap ((BitVec.ofInt IntKind.u32.bits (a : Int) ||| BitVec.ofInt IntKind.u32.bits (b : Int)).toNat : Int) = ((a ||| b : Nat) : Int) := by
  have e : ∀ n : Nat, n < BB → (BitVec.ofInt IntKind.u32.bits (n : Int)).toNat = n := fun n hn => by
    show (BitVec.ofInt 32 (n : Int)).toNat = n
    rw [BitVec.ofInt_natCast, BitVec.toNat_ofNat, Nat.mod_eq_of_lt (by simpa [BB] using hn)]
  rw [BitVec.toNat_or, e a ha, e b hb, wm32 rfl, Nat.mod_eq_of_lt]
  have := Nat.or_lt_two_pow (n := 32) (by simpa [BB] using ha) (by simpa [BB] using hb)
  simpa [BB] using this
theorem and64 {a b : Nat} (ha : a < 18446744073709551616) (hb : b < 18446744073709551616) : IntKind.u64.wrap ((BitVec.ofInt IntKind.u64.bits (a : Int) &&& BitVec.ofInt IntKind.u64.bits (b : Int)).toNat : Int) = ((a &&& b : Nat) : Int) := by
  have e : ∀ n : Nat, n < 18446744073709551616 → (BitVec.ofInt IntKind.u64.bits (n : Int)).toNat = n := fun n hn => by
    show (BitVec.ofInt 64 (n : Int)).toNat = n
    rw [BitVec.ofInt_natCast, BitVec.toNat_ofNat, Nat.mod_eq_of_lt (by omega)]
  rw [BitVec.toNat_and, e a ha, e b hb]
  refine w64 rfl (Nat.lt_of_le_of_lt Nat.and_le_left ha)
theorem or_add {a b k : Nat} (h : a < 2 ^ k) : a ||| (b * 2 ^ k) = a + b * 2 ^ k := by
  have := Nat.shiftLeft_add_eq_or_of_lt h b
  rw [Nat.shiftLeft_eq] at this
  rw [Nat.or_comm, ← this, Nat.add_comm]
section
variable {H : Heap}
/-- One row of digits. -/
def K1 (l : List Nat) : Heap := ⟨T.of [(0, .cells (l.map u32))], 1, .nil⟩
theorem HS1 {nx id : Nat} {ob : Ob} (hn : H.nx ≤ nx) (h : H.t.get id = some ob) : Heap.Sub ⟨T.of [(id, ob)], nx, .nil⟩ H := Heap.Sub.of hn ⟨⟨_, h, ObSub.refl _⟩, trivial⟩
variable {cx : Cx} {m : List (Nat × AV)}
theorem g_makeu {t : TypeId} {a b : Operand} {el : Nat} {k1 k2 : IntKind} {i j : Int} {inf : TypeInfo} (n : Nat)
    (ha : rd cx m a = some (.int k1 i)) (hb : rd cx m b = some (.int k2 j)) (hu : cx.D.und t = some (.slice el)) (hi : cx.D.inf el = some inf) (hz : zeroOf cx.D el = some [.int .u32 0]) (hs : inf.size = 1) (hy : inf.bytes = 4) (h1 : i = n) (h2 : j = n) (h4 : n ≤ 70368744177664) :
    sop cx m H (.makeSlice t a b) = some (.val (.slice H.nx 0 n n true 1) (H.alloc (.cells ((List.replicate n 0).map u32)))) := by
  rw [g_make n n ha hb hu hi hz h1 h2 (Nat.le_refl _) (by omega) (by rw [hy]; omega), hs, repl_u32]
theorem g_storeu {t : TypeId} {a b : Operand} {id off : Nat} {l : List Nat} {n : Nat} {inf : TypeInfo}
    (ha : rd cx m a = some (.ptr id off)) (hb : rd cx m b = some (.int .u32 n)) (hi : cx.D.inf t = some inf) (hz : inf.size = 1) (hg : H.t.get id = some (.cells (l.map u32))) (hl : off < l.length) :
    sop cx m H (.store t a b) = some (.skip (H.put id (.cells ((l.set off n).map u32)))) := by
  rw [g_store1 ha hb hi hz rfl rfl hg (by simpa using hl), List.map_set]
  rfl
theorem g_loadu {t : TypeId} {a : Operand} {id off : Nat} {l : List Nat} {ds : TypeDesc} {inf : TypeInfo}
    (ha : rd cx m a = some (.ptr id off)) (hg : H.t.get id = some (.cells (l.map u32))) (hu : cx.D.und t = some ds) (hi : cx.D.inf t = some inf) (hd : isAggD ds = false) (hl : off < l.length) :
    sop cx m H (.load t a) = some (.val (.int .u32 (l.getD off 0 : Nat)) H) :=
  g_load ha (by simp only [cellsAt, hg]) hu hi hd (u32_at hl)
theorem g_loadi {t : TypeId} {a : Operand} {off : Nat} {l : List Nat} {ds : TypeDesc} {inf : TypeInfo}
    (ha : rd cx m a = some (.iptr (l.map u32) off)) (hu : cx.D.und t = some ds) (hi : cx.D.inf t = some inf) (hd : isAggD ds = false) (hl : off < l.length) :
    sop cx m H (.load t a) = some (.val (.int .u32 (l.getD off 0 : Nat)) H) :=
  g_load ha rfl hu hi hd (u32_at hl)
theorem g_shr {op : Operand} {t t' : TypeId} {b : Operand} {k k' : IntKind} {a : Int} {n s p : Nat} (ha : rd cx m op = some (.int k a)) (hb : rd cx m b = some (.int k' (s : Nat))) (hn : a = n) (hs : s ≤ k.bits) (hp : p = 2 ^ s) :
    sop cx m H (.binOp .shr t op b t') = some (.val (.int k ((n / p : Nat) : Int)) H) := by
  have h0 : ¬ ((s : Nat) : Int) < 0 := by omega
  simp only [sop, ha, hb, aBin, aInt, h0, if_false, Int.toNat_natCast, Nat.min_eq_left hs, valR, shr_nat hn p hp]
theorem g_shl {op : Operand} {t t' : TypeId} {b : Operand} {k' : IntKind} {a : Int} {n s p : Nat} (ha : rd cx m op = some (.int .u64 a)) (hb : rd cx m b = some (.int k' (s : Nat))) (hn : a = n) (hs : s ≤ 64) (hp : p = 2 ^ s) (hr : n * p < 18446744073709551616) :
    sop cx m H (.binOp .shl t op b t') = some (.val (.int .u64 ((n * p : Nat) : Int)) H) := by
  have h0 : ¬ ((s : Nat) : Int) < 0 := by omega
  have h1 : min s IntKind.u64.bits = s := Nat.min_eq_left hs
  have h2 : a * 2 ^ s = ((n * p : Nat) : Int) := by subst hn; subst hp; simp
  simp only [sop, ha, hb, aBin, aInt, h0, if_false, Int.toNat_natCast, h1, valR, w64 h2 hr]
theorem frz_ofK {l : List Nat} {id cap : Nat} {ex : Bool} (hg : H.t.get id = some (.cells (l.map u32))) (hne : Nat.beq id H.nx = false) (hl : Dg l) {n : Nat} (hn : val l = n) (τ : TypeId) : ∃ k, frz (H.allocT (.cells [.slice id 0 (digs (val l)).length cap ex 1]) τ (some 1)) k (.ptr H.nx 0) = some (numTree n) := by
  subst hn
  have h1 : id ≠ H.nx := fun h => by subst h; simp at hne
  exact frz_num (id := id) (p := H.nx) (cap := cap) (ex := ex) (by simp only [Heap.allocT, T.get_set_same]) (by simp only [Heap.allocT]; rw [T.get_set_ne _ _ h1]; exact hg) hl rfl
end
theorem frz_tuple {H : Heap} {n : Nat} {xs ys : List AV} (h : frzs H n xs = some ys) : frz H (n + 1) (.tuple xs) = some (.tuple ys) := by
  have e : frz H (n + 1) (.tuple xs) = (match frzs H n xs with
      | some ys => some (.tuple ys)
      | none => none) := rfl
  rw [e, h]
mutual
theorem frz_mono {H : Heap} : ∀ (n : Nat) (x y : AV), frz H n x = some y → frz H (n + 1) x = some y
  | 0, x, y, h => by simp [frz] at h
  | n + 1, .ptr id off, y, h => by
    simp only [frz] at h
    split at h
    · rename_i cs hg
      split at h
      · rename_i ys hs
        cases h
        exact frz_ptr hg (frzs_mono n _ _ hs)
      · cases h
    · cases h
  | n + 1, .slice id off len cap ex es, y, h => by
    simp only [frz] at h
    split at h
    · rename_i cs hg
      split at h
      · rename_i l hl
        split at h
        · rename_i ys hs
          cases h
          exact frz_slice hg hl (frzs_mono n _ _ hs)
        · cases h
      · cases h
    · cases h
  | n + 1, .iface t x, y, h => by
    have e : ∀ n, frz H (n + 1) (.iface t x) = (match frz H n x with
      | some y' => some (.iface t y')
      | none => none) := fun _ => rfl
    rw [e] at h ⊢
    split at h
    · rename_i y' hy
      cases h
      rw [frz_mono n _ _ hy]
    · cases h
  | n + 1, .agg cs, y, h => by
    have e : ∀ n, frz H (n + 1) (.agg cs) = (match frzs H n cs with
      | some ys => some (.agg ys)
      | none => none) := fun _ => rfl
    rw [e] at h ⊢
    split at h
    · rename_i y' hy
      cases h
      rw [frzs_mono n _ _ hy]
    · cases h
  | n + 1, .tuple cs, y, h => by
    have e : ∀ n, frz H (n + 1) (.tuple cs) = (match frzs H n cs with
      | some ys => some (.tuple ys)
      | none => none) := fun _ => rfl
    rw [e] at h ⊢
    split at h
    · rename_i y' hy
      cases h
      rw [frzs_mono n _ _ hy]
    · cases h
  | n + 1, .iptr cs off, y, h => h
  | n + 1, .isl cs len, y, h => h
  | n + 1, .undef, y, h | n + 1, .bool _, y, h | n + 1, .int _ _, y, h | n + 1, .str _, y, h | n + 1, .nilp, y, h | n + 1, .nilsl, y, h | n + 1, .esl, y, h | n + 1, .nilmap, y, h | n + 1, .map _, y, h | n + 1, .iter _, y, h | n + 1, .nilfunc, y, h | n + 1, .func _ _ _, y, h | n + 1, .niliface, y, h | n + 1, .num _, y, h | n + 1, .frac _, y, h => h
theorem frzs_mono {H : Heap} : ∀ (n : Nat) (xs ys : List AV), frzs H n xs = some ys → frzs H (n + 1) xs = some ys
  | 0, xs, ys, h => by simp [frzs] at h
  | n + 1, [], ys, h => h
  | n + 1, x :: xs, ys, h => by
    have e : ∀ n, frzs H (n + 1) (x :: xs) = (match frz H n x, frzs H n xs with
      | some y, some ys => some (y :: ys)
      | _, _ => none) := fun _ => rfl
    rw [e] at h ⊢
    split at h
    · rename_i h1 h2
      cases h
      rw [frz_mono n _ _ h1, frzs_mono n _ _ h2]
    · cases h
end
theorem frz_up {H : Heap} {n k : Nat} {x y : AV} (h : frz H n x = some y) (hk : n ≤ k) : frz H k x = some y := by
  induction k with
  | zero => obtain rfl : n = 0 := by omega
            exact h
  | succ k ih =>
    rcases Nat.lt_or_ge k n with h1 | h1
    · obtain rfl : n = k + 1 := by omega
      exact h
    · exact frz_mono k _ _ (ih h1)
theorem frzs_up {H : Heap} {n k : Nat} {x y : List AV} (h : frzs H n x = some y) (hk : n ≤ k) : frzs H k x = some y := by
  induction k with
  | zero => obtain rfl : n = 0 := by omega
            exact h
  | succ k ih =>
    rcases Nat.lt_or_ge k n with h1 | h1
    · obtain rfl : n = k + 1 := by omega
      exact h
    · exact frzs_mono k _ _ (ih h1)
/-- 'x', made immutable, is 'y'. -/
def Frz (H : Heap) (x y : AV) : Prop := ∃ n, frz H n x = some y
def Frzs (H : Heap) (x y : List AV) : Prop := ∃ n, frzs H n x = some y
theorem Frzs.nil {H : Heap} : Frzs H [] [] := ⟨1, rfl⟩
theorem Frzs.cons {H : Heap} {x y : AV} {xs ys : List AV} (h : Frz H x y) (hs : Frzs H xs ys) : Frzs H (x :: xs) (y :: ys) := by
  obtain ⟨n, hn⟩ := h
  obtain ⟨k, hk⟩ := hs
  exact ⟨n + k + 1, frzs_cons (frz_up hn (by omega)) (frzs_up hk (by omega))⟩
theorem Frz.bool {H : Heap} (b : Bool) : Frz H (.bool b) (.bool b) := ⟨1, rfl⟩
theorem Frz.int {H : Heap} (k : IntKind) (n : Int) : Frz H (.int k n) (.int k n) := ⟨1, rfl⟩
theorem Frz.str {H : Heap} (s : List UInt8) : Frz H (.str s) (.str s) := ⟨1, rfl⟩
theorem Frz.num {H : Heap} (n : Nat) : Frz H (.num n) (.num n) := ⟨1, rfl⟩
theorem Frz.frac {H : Heap} (q : Rat) : Frz H (.frac q) (.frac q) := ⟨1, rfl⟩
theorem Frz.nilp {H : Heap} : Frz H .nilp .nilp := ⟨1, rfl⟩
theorem Frz.isl {H : Heap} {cs : List AV} {len : Nat} (h : AV.frees cs = true) : Frz H (.isl cs len) (.isl cs len) := ⟨1, frz_isl h⟩
theorem Frz.tuple {H : Heap} {xs ys : List AV} (h : Frzs H xs ys) : Frz H (.tuple xs) (.tuple ys) := by
  obtain ⟨n, hn⟩ := h
  exact ⟨n + 1, frz_tuple hn⟩
theorem Frz.ptr {H : Heap} {id off : Nat} {cs ys : List AV} (h : H.t.get id = some (.cells cs)) (hs : Frzs H cs ys) : Frz H (.ptr id off) (.iptr ys off) := by
  obtain ⟨n, hn⟩ := hs
  exact ⟨n + 1, frz_ptr h hn⟩
theorem Frz.slice {H : Heap} {id off len cap es : Nat} {ex : Bool} {cs l ys : List AV} (h : H.t.get id = some (.cells cs)) (hq : seg cs off (len * es) = some l) (hs : Frzs H l ys) : Frz H (.slice id off len cap ex es) (.isl ys len) := by
  obtain ⟨n, hn⟩ := hs
  exact ⟨n + 1, frz_slice h hq hn⟩
theorem Imp.tuple {xs ys : List AV} (h : Imps xs ys) : Imp (.tuple xs) (.tuple ys) := fun _ _ _ hv => by
  cases hv with | tuple _ vs hs => exact .tuple _ _ (h.vrs hs)
theorem Imp.agg {xs ys : List AV} (h : Imps xs ys) : Imp (.agg xs) (.agg ys) := fun _ _ _ hv => by
  cases hv with | agg _ vs hs => exact .agg _ _ (h.vrs hs)
theorem Imp.iptr {xs ys : List AV} {off : Nat} (h : Imps xs ys) : Imp (.iptr xs off) (.iptr ys off) := fun _ _ _ hv => by
  cases hv with | iptr _ _ b o vs hs hz => exact .iptr _ _ b o vs (h.vrs hs) hz
theorem Imp.nilsl : Imp .nilsl (.isl [] 0) := fun _ _ _ hv => by cases hv; exact .isl0 _ _
/-- A call that sees nothing of the heap. -/
theorem Ans_free {cx : Cx} (hgl : ∀ g cells, cx.gl g = some cells → AV.frees cells = true) {f : FuncId} {args : List AV} {x y : AV} (hi : Imp x y) (hf : AV.frees args = true) (h : Ans cx f args H0 fun u H1 => Frz H1 u x) (H : Heap) :
    Ans cx f args H fun u K => u = y ∧ K = H := Ans_to hi (Ans_closed hgl hf h H)
theorem dg_ext : ∀ {l k : List Nat}, Dg l → Dg k → l.length = k.length → val l = val k → l = k
  | [], [], _, _, _, _ => rfl
  | [], _ :: _, _, _, h, _ => by simp at h
  | _ :: _, [], _, _, h, _ => by simp at h
  | a :: l, b :: k, h1, h2, h3, h4 => by
    obtain ⟨a1, a2⟩ := Dg.cons.1 h1
    obtain ⟨b1, b2⟩ := Dg.cons.1 h2
    simp only [val] at h4
    have e1 : a = b ∧ val l = val k := by
      simp only [BB] at *
      omega
    rw [e1.1, dg_ext a2 b2 (by simpa using h3) e1.2]
/-- So many digits. -/
def pdig (n k : Nat) : List Nat := digs n ++ List.replicate (k - (digs n).length) 0
theorem pdig_dg (n k : Nat) : Dg (pdig n k) := Dg.append.2 ⟨digs_dg n, Dg.replicate _⟩
theorem pdig_val (n k : Nat) : val (pdig n k) = n := by rw [pdig, val_append, val_digs, val_zeros]; simp
theorem pdig_len {n k : Nat} (h : n < BB ^ k) : (pdig n k).length = k := by
  have := len_le_of_lt h
  simp [pdig]; omega
theorem pdig_eq {l : List Nat} (h : Dg l) : pdig (val l) l.length = l := dg_ext (pdig_dg _ _) h (pdig_len (val_lt h)) (pdig_val _ _)
theorem drop_getD (l : List Nat) {i : Nat} (h : i < l.length) : l.drop i = l.getD i 0 :: l.drop (i + 1) := by
  rw [List.drop_eq_getElem_cons h, List.getD_eq_getElem?_getD, List.getElem?_eq_getElem h]; rfl
theorem drop_set_lt (l : List Nat) {i j d : Nat} (h : i < j) : (l.set i d).drop j = l.drop j := by
  rw [List.drop_set, if_pos h]
section
variable {cx : Cx} {m : List (Nat × AV)} {H : Heap}
theorem g_quo64 {op b : Operand} {t t' : TypeId} {n d : Nat} (ha : rd cx m op = some (.int .u64 (n : Nat))) (hb : rd cx m b = some (.int .u64 (d : Nat))) (hd : 0 < d) (hn : n < 18446744073709551616) :
    sop cx m H (.binOp .quo t op b t') = some (.val (.int .u64 ((n / d : Nat) : Int)) H) := by
  have h0 : ¬ ((d : Nat) : Int) = 0 := by omega
  have e : IntKind.u64.wrap (Int.tdiv (n : Int) (d : Int)) = ((n / d : Nat) : Int) := by
    rw [IntWalk.u64_quo _ _ (by omega)]; rfl
  simp only [sop, ha, hb, aBin, aInt, h0, if_false, valR, e, ne_eq, not_true_eq_false]
theorem g_rem64 {op b : Operand} {t t' : TypeId} {n d : Nat} (ha : rd cx m op = some (.int .u64 (n : Nat))) (hb : rd cx m b = some (.int .u64 (d : Nat))) (hd : 0 < d) :
    sop cx m H (.binOp .rem t op b t') = some (.val (.int .u64 ((n % d : Nat) : Int)) H) := by
  have h0 : ¬ ((d : Nat) : Int) = 0 := by omega
  have e : Int.tmod (n : Int) (d : Int) = ((n % d : Nat) : Int) := by
    rw [IntWalk.rem_in _ _ (by omega)]; rfl
  simp only [sop, ha, hb, aBin, aInt, h0, if_false, valR, e, ne_eq, not_true_eq_false]
end
theorem HS_put (H : Heap) (ob ob' : Ob) : Heap.Sub (H.alloc ob') ((H.alloc ob).put H.nx ob') := by
  refine ⟨Nat.le_refl _, fun id o h => ⟨o, ?_, ObSub.refl o⟩, fun id p h => h⟩
  simp only [Heap.alloc, Heap.put, T.get_set] at h ⊢
  split
  · rename_i hi; rw [if_pos hi] at h; exact h
  · rename_i hi; rw [if_neg hi] at h; exact h
end Go.Eng
end
