import Derived.Orders
import Derived.Below
import Derived.Laws.Cells
import Derived.Laws.Entries
section
namespace Go.Eng
/-- A table from numbers, as a tree: fast in the kernel. -/
inductive T (α : Type) where
  | nil
  | node (l r : T α) (v : Option α)
namespace T
variable {α : Type}
def get : T α → Nat → Option α
  | .nil, _ => none
  | .node l r v, k =>
    match k with
    | 0 => v
    | k + 1 => cond (Nat.beq (k % 2) 0) (l.get (k / 2)) (r.get (k / 2))
def single : (fuel k : Nat) → α → T α
  | 0, _, v => .node .nil .nil (some v)
  | f + 1, k, v =>
    match k with
    | 0 => .node .nil .nil (some v)
    | k + 1 => cond (Nat.beq (k % 2) 0) (.node (single f (k / 2) v) .nil none) (.node .nil (single f (k / 2) v) none)
def set : T α → Nat → α → T α
  | .nil, k, x => single k k x
  | .node l r v, k, x =>
    match k with
    | 0 => .node l r (some x)
    | k + 1 => cond (Nat.beq (k % 2) 0) (.node (l.set (k / 2) x) r v) (.node l (r.set (k / 2) x) v)
def del : T α → Nat → T α
  | .nil, _ => .nil
  | .node l r v, k =>
    match k with
    | 0 => .node l r none
    | k + 1 => cond (Nat.beq (k % 2) 0) (.node (l.del (k / 2)) r v) (.node l (r.del (k / 2)) v)
theorem get_nil (k : Nat) : (T.nil : T α).get k = none := rfl
theorem cond_beq {β : Type} (k : Nat) (a b : β) : cond (Nat.beq (k % 2) 0) a b = if k % 2 = 0 then a else b := by
  by_cases h : k % 2 = 0
  · simp [h]
  · have : Nat.beq (k % 2) 0 = false := by
      cases hb : Nat.beq (k % 2) 0
      · rfl
      · exact absurd (Nat.eq_of_beq_eq_true hb) h
    simp [this, h]
theorem get_single (x : α) : ∀ (f k j : Nat), k ≤ f → (single f k x).get j = if j = k then some x else none := by
  intro f
  induction f with
  | zero =>
    intro k j hk
    obtain rfl : k = 0 := by omega
    cases j <;> simp [single, get]
  | succ f ih =>
    intro k j hk
    cases k with
    | zero => cases j <;> simp [single, get]
    | succ k =>
      simp only [single, cond_beq]
      cases j with
      | zero => split <;> simp [get]
      | succ j =>
        split
        · simp only [get, cond_beq]
          split
          · rw [ih _ _ (by omega)]
            by_cases e : j = k
            · simp [e]
            · rw [if_neg (by omega), if_neg (by omega)]
          · simp; omega
        · simp only [get, cond_beq]
          split
          · simp; omega
          · rw [ih _ _ (by omega)]
            by_cases e : j = k
            · simp [e]
            · rw [if_neg (by omega), if_neg (by omega)]
theorem get_set (t : T α) : ∀ (k j : Nat) (x : α), (t.set k x).get j = if j = k then some x else t.get j := by
  induction t with
  | nil => intro k j x; rw [set, get_single _ _ _ _ (Nat.le_refl _), get_nil]
  | node l r v ihl ihr =>
    intro k j x
    cases k with
    | zero => cases j <;> simp [set, get]
    | succ k =>
      simp only [set, cond_beq]
      cases j with
      | zero => split <;> simp [get]
      | succ j =>
        split
        · simp only [get, cond_beq]
          split
          · rw [ihl]
            by_cases e : j = k
            · simp [e]
            · rw [if_neg (by omega), if_neg (by omega)]
          · rw [if_neg (by omega)]
        · simp only [get, cond_beq]
          split
          · rw [if_neg (by omega)]
          · rw [ihr]
            by_cases e : j = k
            · simp [e]
            · rw [if_neg (by omega), if_neg (by omega)]
theorem get_del (t : T α) : ∀ (k j : Nat), (t.del k).get j = if j = k then none else t.get j := by
  induction t with
  | nil => intro k j; simp [del, get]
  | node l r v ihl ihr =>
    intro k j
    cases k with
    | zero => cases j <;> simp [del, get]
    | succ k =>
      simp only [del, cond_beq]
      cases j with
      | zero => split <;> simp [get]
      | succ j =>
        split
        · simp only [get, cond_beq]
          split
          · rw [ihl]
            by_cases e : j = k
            · simp [e]
            · rw [if_neg (by omega), if_neg (by omega)]
          · rw [if_neg (by omega)]
        · simp only [get, cond_beq]
          split
          · rw [if_neg (by omega)]
          · rw [ihr]
            by_cases e : j = k
            · simp [e]
            · rw [if_neg (by omega), if_neg (by omega)]
theorem get_set_same (t : T α) (k : Nat) (x : α) : (t.set k x).get k = some x := by rw [get_set, if_pos rfl]
theorem get_set_ne (t : T α) {k j : Nat} (x : α) (h : j ≠ k) : (t.set k x).get j = t.get j := by rw [get_set, if_neg h]
end T
end Go.Eng
end
section
namespace Go.Eng
open Go.RowKit
/-- An abstract value: what is never written again is a tree; what may be written is a place ('id') of the abstract heap. -/
inductive AV where
  | undef
  | bool (b : Bool)
  | int (k : IntKind) (n : Int)
  | str (s : List UInt8)
  | nilp
  | ptr (id off : Nat)
  | iptr (cells : List AV) (off : Nat)
  | nilsl
  | esl
  | slice (id off len cap : Nat) (ex : Bool) (es : Nat)
  | isl (cells : List AV) (len : Nat)
  | nilmap
  | map (id : Nat)
  | iter (id : Nat)
  | nilfunc
  | func (fn : Fn) (first captured : List AV)
  | niliface
  | iface (t : TypeId) (v : AV)
  | agg (cells : List AV)
  | tuple (vs : List AV)
  | num (n : Nat)
  | frac (q : Rat)
  deriving Inhabited
/-- The digits of a natural number, the lowest first. -/
def dig : (fuel n : Nat) → List Nat
  | 0, _ => []
  | f + 1, n => match n with
    | 0 => []
    | n + 1 => ((n + 1) % 4294967296) :: dig f ((n + 1) / 4294967296)
def digs (n : Nat) : List Nat := dig n n
def u32 (n : Nat) : AV := .int .u32 n
def numTree (n : Nat) : AV := .iptr [.isl ((digs n).map u32) (digs n).length] 0
def fracTree (q : Rat) : AV := .iptr [.bool (decide (q.num < 0)), .num q.num.natAbs, .num q.den] 0
/-- Where a place lies: its block, the cell in it at which it begins, how many cells the block has. -/
abbrev Pl := Nat → Option (Nat × Nat × Nat)
abbrev Fz := Nat → Nat → Option Value
mutual
inductive VR (ρ : Pl) (z : Fz) : AV → Value → Prop
  | undef (v : Value) : VR ρ z .undef v
  | bool (b : Bool) : VR ρ z (.bool b) (.bool b)
  | int (k : IntKind) (n : Int) : VR ρ z (.int k n) (.int k n)
  | str (s : List UInt8) : VR ρ z (.str s) (.string ⟨⟨s⟩⟩)
  | nilp : VR ρ z .nilp (.pointer none)
  | ptr (id off b o n : Nat) : ρ id = some (b, o, n) → VR ρ z (.ptr id off) (.pointer (some ⟨b, o + off, none⟩))
  | iptr (cells : List AV) (off b o : Nat) (vs : List Value) : VRs ρ z cells vs → (∀ i v, vs[i]? = some v → z b (o + i) = some v) → VR ρ z (.iptr cells off) (.pointer (some ⟨b, o + off, none⟩))
  | nilsl : VR ρ z .nilsl (.slice none 0 0)
  | esl (A : Option Addr) : VR ρ z .esl (.slice A 0 0)
  | slice (id off len cap : Nat) (ex : Bool) (es b o n rc : Nat) (A : Addr) : ρ id = some (b, o, n) → len ≤ cap → cap ≤ rc → (ex = true → rc = cap) → (0 < rc → A = ⟨b, o + off, none⟩) → o + off + rc * es ≤ n →
      VR ρ z (.slice id off len cap ex es) (.slice (some A) len rc)
  | isl0 (A : Option Addr) (c : Nat) : VR ρ z (.isl [] 0) (.slice A 0 c)
  | isl (cells : List AV) (len b o c : Nat) (vs : List Value) : VRs ρ z cells vs → (∀ i v, vs[i]? = some v → z b (o + i) = some v) → len ≤ c → VR ρ z (.isl cells len) (.slice (some ⟨b, o, none⟩) len c)
  | nilmap : VR ρ z .nilmap (.map none)
  | map (id b o n : Nat) : ρ id = some (b, o, n) → VR ρ z (.map id) (.map (some b))
  | iter (id b n : Nat) : ρ id = some (b, 0, n) → VR ρ z (.iter id) (.pointer (some ⟨b, 0, none⟩))
  | nilfunc : VR ρ z .nilfunc .nilFunc
  | func (fn : Fn) (f c : List AV) (fs cs : List Value) : VRs ρ z f fs → VRs ρ z c cs → VR ρ z (.func fn f c) (.func fn ⟨fs⟩ ⟨cs⟩)
  | niliface : VR ρ z .niliface .nilIface
  | iface (t : TypeId) (x : AV) (v : Value) : VR ρ z x v → VR ρ z (.iface t x) (.iface t v)
  | agg (cs : List AV) (vs : List Value) : VRs ρ z cs vs → VR ρ z (.agg cs) (.agg ⟨vs⟩)
  | tuple (cs : List AV) (vs : List Value) : VRs ρ z cs vs → VR ρ z (.tuple cs) (.tuple ⟨vs⟩)
  | num (n : Nat) (v : Value) : VR ρ z (numTree n) v → VR ρ z (.num n) v
  | frac (q : Rat) (v : Value) : VR ρ z (fracTree q) v → VR ρ z (.frac q) v
inductive VRs (ρ : Pl) (z : Fz) : List AV → List Value → Prop
  | nil : VRs ρ z [] []
  | cons (x : AV) (v : Value) (xs : List AV) (vs : List Value) : VR ρ z x v → VRs ρ z xs vs → VRs ρ z (x :: xs) (v :: vs)
end
/-- More places, more that stays. -/
structure Ext (ρ ρ' : Pl) (z z' : Fz) : Prop where
  pl : ∀ id p, ρ id = some p → ρ' id = some p
  fz : ∀ b o v, z b o = some v → z' b o = some v
theorem Ext.refl (ρ : Pl) (z : Fz) : Ext ρ ρ z z := ⟨fun _ _ h => h, fun _ _ _ h => h⟩
theorem Ext.trans {ρ ρ' ρ'' : Pl} {z z' z'' : Fz} (h : Ext ρ ρ' z z') (k : Ext ρ' ρ'' z' z'') : Ext ρ ρ'' z z'' :=
  ⟨fun i p hp => k.pl i p (h.pl i p hp), fun b o v hv => k.fz b o v (h.fz b o v hv)⟩
section
variable {ρ ρ' : Pl} {z z' : Fz}
mutual
theorem VR.mono (e : Ext ρ ρ' z z') : ∀ {x : AV} {v : Value}, VR ρ z x v → VR ρ' z' x v
  | _, _, .undef v => .undef v
  | _, _, .bool b => .bool b
  | _, _, .int k n => .int k n
  | _, _, .str s => .str s
  | _, _, .nilp => .nilp
  | _, _, .ptr id off b o n h => .ptr id off b o n (e.pl _ _ h)
  | _, _, .iptr cells off b o vs h hz => .iptr cells off b o vs (VRs.mono e h) fun i v hv => e.fz _ _ _ (hz i v hv)
  | _, _, .nilsl => .nilsl
  | _, _, .esl A => .esl A
  | _, _, .slice id off len cap ex es b o n rc A h h1 h2 h3 h5 h6 => .slice id off len cap ex es b o n rc A (e.pl _ _ h) h1 h2 h3 h5 h6
  | _, _, .isl0 A c => .isl0 A c
  | _, _, .isl cells len b o c vs h hz hc => .isl cells len b o c vs (VRs.mono e h) (fun i v hv => e.fz _ _ _ (hz i v hv)) hc
  | _, _, .nilmap => .nilmap
  | _, _, .map id b o n h => .map id b o n (e.pl _ _ h)
  | _, _, .iter id b n h => .iter id b n (e.pl _ _ h)
  | _, _, .nilfunc => .nilfunc
  | _, _, .func fn f c fs cs h1 h2 => .func fn f c fs cs (VRs.mono e h1) (VRs.mono e h2)
  | _, _, .niliface => .niliface
  | _, _, .iface t x v h => .iface t x v (VR.mono e h)
  | _, _, .agg cs vs h => .agg cs vs (VRs.mono e h)
  | _, _, .tuple cs vs h => .tuple cs vs (VRs.mono e h)
  | _, _, .num n v h => .num n v (VR.mono e h)
  | _, _, .frac q v h => .frac q v (VR.mono e h)
theorem VRs.mono (e : Ext ρ ρ' z z') : ∀ {xs : List AV} {vs : List Value}, VRs ρ z xs vs → VRs ρ' z' xs vs
  | _, _, .nil => .nil
  | _, _, .cons x v xs vs h hs => .cons x v xs vs (VR.mono e h) (VRs.mono e hs)
end
theorem VRs.length : ∀ {xs : List AV} {vs : List Value}, VRs ρ z xs vs → vs.length = xs.length
  | _, _, .nil => rfl
  | _, _, .cons _ _ _ _ _ hs => by simp [VRs.length hs]
theorem VRs.at_ : ∀ {xs : List AV} {vs : List Value}, VRs ρ z xs vs → ∀ {i : Nat} {x : AV}, xs[i]? = some x → ∃ v, vs[i]? = some v ∧ VR ρ z x v
  | _, _, .nil, i, x, h => by simp at h
  | _, _, .cons x v xs vs h hs, 0, y, hy => by
    simp at hy
    subst hy
    exact ⟨v, by simp, h⟩
  | _, _, .cons x v xs vs h hs, i + 1, y, hy => by
    simp at hy
    obtain ⟨u, hu, hr⟩ := VRs.at_ hs hy
    exact ⟨u, by simpa using hu, hr⟩
theorem VRs.of_at : ∀ {xs : List AV} {vs : List Value}, vs.length = xs.length → (∀ (i : Nat) (x : AV) (v : Value), xs[i]? = some x → vs[i]? = some v → VR ρ z x v) → VRs ρ z xs vs
  | [], [], _, _ => .nil
  | [], _ :: _, h, _ => by simp at h
  | _ :: _, [], h, _ => by simp at h
  | x :: xs, v :: vs, h, hr => .cons x v xs vs (hr 0 x v (by simp) (by simp)) (VRs.of_at (by simpa using h) fun i y u hy hu => hr (i + 1) y u (by simpa using hy) (by simpa using hu))
theorem VRs.get {xs : List AV} {vs : List Value} (h : VRs ρ z xs vs) {i : Nat} {x : AV} {v : Value} (hx : xs[i]? = some x) (hv : vs[i]? = some v) : VR ρ z x v := by
  obtain ⟨u, hu, hr⟩ := h.at_ hx
  rw [hv] at hu
  cases hu
  exact hr
theorem VRs.append {xs ys : List AV} {vs us : List Value} (h : VRs ρ z xs vs) (k : VRs ρ z ys us) : VRs ρ z (xs ++ ys) (vs ++ us) := by
  induction xs generalizing vs with
  | nil => cases h; exact k
  | cons x xs ih => cases h with | cons _ v _ vs h hs => exact .cons _ _ _ _ h (ih hs)
theorem VRs.take {xs : List AV} {vs : List Value} (h : VRs ρ z xs vs) (n : Nat) : VRs ρ z (xs.take n) (vs.take n) := by
  induction n generalizing xs vs with
  | zero => simp; exact .nil
  | succ n ih => cases h with
    | nil => simp; exact .nil
    | cons x v xs vs h hs => simp; exact .cons _ _ _ _ h (ih hs)
theorem VRs.drop {xs : List AV} {vs : List Value} (h : VRs ρ z xs vs) (n : Nat) : VRs ρ z (xs.drop n) (vs.drop n) := by
  induction n generalizing xs vs with
  | zero => simpa using h
  | succ n ih => cases h with
    | nil => simp; exact .nil
    | cons x v xs vs h hs => simp; exact ih hs
theorem VRs.set {xs : List AV} {vs : List Value} (h : VRs ρ z xs vs) (n : Nat) {x : AV} {v : Value} (hx : VR ρ z x v) : VRs ρ z (xs.set n x) (vs.set n v) := by
  induction n generalizing xs vs with
  | zero => cases h with
    | nil => exact .nil
    | cons _ _ _ _ h hs => exact .cons _ _ _ _ hx hs
  | succ n ih => cases h with
    | nil => exact .nil
    | cons _ _ _ _ h hs => exact .cons _ _ _ _ h (ih hs)
theorem VRs.replicate (n : Nat) {x : AV} {v : Value} (hx : VR ρ z x v) : VRs ρ z (List.replicate n x) (List.replicate n v) := by
  induction n with
  | zero => exact .nil
  | succ n ih => exact .cons _ _ _ _ hx ih
end
end Go.Eng
end
section
namespace Go.Eng
open Go.RowKit
/-- What a Sem comes to where it touches neither memory nor tape. -/
def pureOf {α : Type} (P : Program) : Sem α → Option α
  | .pure a => some a
  | .program k => pureOf P (k P)
  | .mark _ k => pureOf P k
  | _ => none
theorem pureOf_run {α : Type} {P : Program} {s : Sem α} {a : α} (h : pureOf P s = some a) (w : World) : s.run P w = .ok a w := by
  induction s with
  | pure b => simp [pureOf] at h; subst h; rfl
  | program k ih => exact ih P h
  | mark m k ih => exact ih h
  | _ => simp [pureOf] at h
/-- A constant, a zero value. -/
def absC : Value → Option AV
  | .bool b => some (.bool b)
  | .int k n => some (.int k n)
  | .string s => some (.str s.data.toList)
  | .pointer none => some .nilp
  | .slice none 0 0 => some .nilsl
  | .map none => some .nilmap
  | .nilFunc => some .nilfunc
  | .nilIface => some .niliface
  | .func fn f c => cond (f.isEmpty && c.isEmpty) (some (.func fn [] [])) none
  | _ => none
def absL : List Value → Option (List AV)
  | [] => some []
  | v :: vs => match absC v, absL vs with
    | some x, some xs => some (x :: xs)
    | _, _ => none
def absV : Value → Option AV
  | .agg cs => (absL cs.toList).map .agg
  | .tuple cs => (absL cs.toList).map .tuple
  | v => absC v
/-- The scalars, back. -/
def conc : AV → Option Value
  | .bool b => some (.bool b)
  | .int k n => some (.int k n)
  | .str s => some (.string ⟨⟨s⟩⟩)
  | .nilp => some (.pointer none)
  | .nilsl => some (.slice none 0 0)
  | .nilmap => some (.map none)
  | .nilfunc => some .nilFunc
  | .niliface => some .nilIface
  | _ => none
def concL : List AV → Option (List Value)
  | [] => some []
  | x :: xs => match conc x, concL xs with
    | some v, some vs => some (v :: vs)
    | _, _ => none
def concA : AV → Option Value
  | .agg cs => (concL cs).map fun l => .agg ⟨l⟩
  | .iface t x => (conc x).map (.iface t)
  | x => conc x
section
variable {ρ : Pl} {z : Fz}
theorem absC_VR {v : Value} {x : AV} (h : absC v = some x) : VR ρ z x v := by
  unfold absC at h
  split at h <;> first | (cases h; done) | (cases h; first | exact .bool _ | exact .int _ _ | exact .str _ | exact .nilp | exact .nilsl | exact .nilmap | exact .nilfunc | exact .niliface) | skip
  · rename_i fn f c
    cases hf : f.isEmpty <;> cases hc : c.isEmpty <;> simp [hf, hc] at h
    subst h
    have e1 : f = #[] := by simpa using hf
    have e2 : c = #[] := by simpa using hc
    subst e1; subst e2
    exact .func _ _ _ _ _ .nil .nil
theorem absL_VRs : ∀ {vs : List Value} {xs : List AV}, absL vs = some xs → VRs ρ z xs vs
  | [], xs, h => by simp [absL] at h; subst h; exact .nil
  | v :: vs, xs, h => by
    simp only [absL] at h
    split at h
    · rename_i h1 h2
      cases h
      exact .cons _ _ _ _ (absC_VR h1) (absL_VRs h2)
    · cases h
theorem absV_VR {v : Value} {x : AV} (h : absV v = some x) : VR ρ z x v := by
  unfold absV at h
  split at h
  · rename_i cs
    cases hl : absL cs.toList with
    | none => simp [hl] at h
    | some l => simp [hl] at h; subst h; obtain ⟨l'⟩ := cs; exact .agg _ _ (absL_VRs hl)
  · rename_i cs
    cases hl : absL cs.toList with
    | none => simp [hl] at h
    | some l => simp [hl] at h; subst h; obtain ⟨l'⟩ := cs; exact .tuple _ _ (absL_VRs hl)
  · exact absC_VR h
theorem conc_eq {x : AV} {v u : Value} (h : conc x = some u) (hr : VR ρ z x v) : v = u := by
  cases hr <;> simp [conc] at h <;> first | exact h | (subst h; rfl)
theorem concL_eq : ∀ {xs : List AV} {vs us : List Value}, concL xs = some us → VRs ρ z xs vs → vs = us
  | [], _, us, h, .nil => by simp [concL] at h; exact h.symm
  | x :: xs, _, us, h, .cons _ v _ vs hx hs => by
    simp only [concL] at h
    split at h
    · rename_i h1 h2
      cases h
      rw [conc_eq h1 hx, concL_eq h2 hs]
    · cases h
theorem concA_eq {x : AV} {v u : Value} (h : concA x = some u) (hr : VR ρ z x v) : v = u := by
  unfold concA at h
  split at h
  · rename_i cs
    cases hl : concL cs with
    | none => simp [hl] at h
    | some l =>
      simp [hl] at h
      subst h
      cases hr with | agg _ vs hs => rw [concL_eq hl hs]
  · rename_i t x'
    cases hl : conc x' with
    | none => simp [hl] at h
    | some l =>
      simp [hl] at h
      subst h
      cases hr with | iface _ _ v hv => rw [conc_eq hl hv]
  · exact conc_eq h hr
end
/-- An object of the abstract heap. -/
structure ME where
  k : AV
  v : AV
  born : Nat
  deriving Inhabited
inductive Ob where
  | cells (cs : List AV)
  | map (es : List ME) (clock : Nat)
  | iter (s : List UInt8) (pos : Nat)
  deriving Inhabited
structure Heap where
  t : T Ob
  nx : Nat
  /-- the element types of some blocks, and their sizes where they are known -/
  e : T (TypeId × Option Nat)
/-- What an abstract object says of a block. -/
def Holds (ρ : Pl) (z : Fz) (w : World) (b o n : Nat) : Ob → Prop
  | .cells cs => ∃ real e fz, w.heap[b]? = some (.cells real e fz) ∧ real.size = n ∧ (∀ j, fz.1 ≤ j → j < fz.2 → real.size ≤ j) ∧
      ∀ (i : Nat) (x : AV), cs[i]? = some x → ∃ v, real[o + i]? = some v ∧ VR ρ z x v
  | .map es clock => ∃ ents : List MapEntry, w.heap[b]? = some (.map ⟨ents⟩ clock) ∧ VRs ρ z (es.map (·.k)) (ents.map (·.key)) ∧ VRs ρ z (es.map (·.v)) (ents.map (·.val)) ∧ es.map (·.born) = ents.map (·.born)
  | .iter s pos => w.heap[b]? = some (.stringIter ⟨⟨s⟩⟩ pos)
/-- What lies outside and stays: blocks, and names that nobody gives. -/
structure Pv where
  blk : Nat → Option Obj
  rv : Nat → Prop
instance : CoeFun Pv (fun _ => Nat → Option Obj) := ⟨Pv.blk⟩
/-- The abstract heap and the world: 'w0' is the world when all began. -/
structure Rel (H : Heap) (ρ : Pl) (z : Fz) (pv : Pv) (w0 w : World) : Prop where
  below : Below w0.heap.size w0 w
  fz : ∀ b o v, z b o = some v → w.cell? ⟨b, o, none⟩ = some v
  live : ∀ id ob, H.t.get id = some ob → ∃ b o n, ρ id = some (b, o, n) ∧ w0.heap.size ≤ b ∧ Holds ρ z w b o n ob ∧ (∀ o', z b o' = none) ∧ pv b = none
  excl : ∀ id id' ob ob' p p', H.t.get id = some ob → H.t.get id' = some ob' → id ≠ id' → ρ id = some p → ρ id' = some p' → p.1 ≠ p'.1
  fresh : ∀ id, H.nx ≤ id → ρ id = none
  /-- blocks that lie outside of all this, and stay -/
  keep : ∀ b x, pv b = some x → w.heap[b]? = some x ∧ ∀ o, z b o = none
  ty : ∀ id e k, H.e.get id = some (e, k) → ∃ b n real fz, ρ id = some (b, 0, n) ∧ w.heap[b]? = some (.cells real e fz) ∧ real.size = n ∧ ∀ m, k = some m → n = m
  /-- names that nobody gives -/
  res : ∀ id, pv.rv id → ρ id = none ∧ id < H.nx
end Go.Eng
end
section
namespace Go.Eng
open Go.RowKit
def Heap.alloc (H : Heap) (ob : Ob) : Heap := ⟨H.t.set H.nx ob, H.nx + 1, H.e⟩
def Heap.allocT (H : Heap) (ob : Ob) (e : TypeId) (k : Option Nat) : Heap := ⟨H.t.set H.nx ob, H.nx + 1, H.e.set H.nx (e, k)⟩
def Heap.put (H : Heap) (id : Nat) (ob : Ob) : Heap := ⟨H.t.set id ob, H.nx, H.e⟩
def Heap.drop (H : Heap) (id : Nat) : Heap := ⟨H.t.del id, H.nx, H.e⟩
def plSet (ρ : Pl) (id : Nat) (p : Nat × Nat × Nat) : Pl := fun j => if j = id then some p else ρ j
theorem plSet_same (ρ : Pl) (id : Nat) (p : Nat × Nat × Nat) : plSet ρ id p id = some p := by simp [plSet]
theorem plSet_ne (ρ : Pl) {id j : Nat} (p : Nat × Nat × Nat) (h : j ≠ id) : plSet ρ id p j = ρ j := by simp [plSet, h]
theorem cell_lt {w : World} {a : Addr} {v : Value} (h : w.cell? a = some v) : a.block < w.heap.size := by
  unfold World.cell? at h
  split at h
  · rename_i hb
    exact (Array.getElem?_eq_some_iff.1 hb).1
  · cases h
theorem cell_push {w : World} {a : Addr} {v : Value} (o : Obj) (h : w.cell? a = some v) : (w.alloc o).cell? a = some v := by
  rw [World.cell?_alloc_lt w o a (cell_lt h)]; exact h
theorem heap_push_lt {w : World} {k : Nat} {x : Obj} (o : Obj) (h : w.heap[k]? = some x) : (w.alloc o).heap[k]? = some x := by
  have hk : k < w.heap.size := (Array.getElem?_eq_some_iff.1 h).1
  rw [Below.heap_alloc w o k hk]; exact h
theorem Holds.mono {ρ ρ' : Pl} {z z' : Fz} {w w' : World} {b o n : Nat} {ob : Ob} (e : Ext ρ ρ' z z') (hb : w'.heap[b]? = w.heap[b]?) (h : Holds ρ z w b o n ob) : Holds ρ' z' w' b o n ob := by
  cases ob with
  | cells cs =>
    obtain ⟨real, el, fz, h1, hn, h2, h3⟩ := h
    exact ⟨real, el, fz, hb.trans h1, hn, h2, fun i x hx => let ⟨v, hv, hr⟩ := h3 i x hx; ⟨v, hv, hr.mono e⟩⟩
  | map es clock =>
    obtain ⟨ents, h1, h2, h3, h4⟩ := h
    exact ⟨ents, hb.trans h1, h2.mono e, h3.mono e, h4⟩
  | iter s pos => exact hb.trans h
theorem Holds.lt {ρ : Pl} {z : Fz} {w : World} {b o n : Nat} {ob : Ob} (h : Holds ρ z w b o n ob) : b < w.heap.size := by
  cases ob with
  | cells cs => obtain ⟨_, _, _, h1, _⟩ := h; exact (Array.getElem?_eq_some_iff.1 h1).1
  | map es clock => obtain ⟨_, h1, _⟩ := h; exact (Array.getElem?_eq_some_iff.1 h1).1
  | iter s pos => exact (Array.getElem?_eq_some_iff.1 h).1
section
variable {H : Heap} {ρ : Pl} {z : Fz} {w0 w : World} {pv : Pv}
theorem Rel.fz_lt (h : Rel H ρ z pv w0 w) {b o : Nat} {v : Value} (hz : z b o = some v) : b < w.heap.size := cell_lt (h.fz b o v hz)
theorem Rel.fz_none (h : Rel H ρ z pv w0 w) (o : Nat) : z w.heap.size o = none := by
  cases hz : z w.heap.size o with
  | none => rfl
  | some v => exact absurd (h.fz_lt hz) (by omega)
theorem Rel.pv_none (h : Rel H ρ z pv w0 w) : pv w.heap.size = none := by
  cases hp : pv w.heap.size with
  | none => rfl
  | some x =>
    have := (Array.getElem?_eq_some_iff.1 (h.keep _ _ hp).1).1
    omega
theorem Rel.lt_nx (h : Rel H ρ z pv w0 w) {id : Nat} {p : Nat × Nat × Nat} (hp : ρ id = some p) : id < H.nx := by
  rcases Nat.lt_or_ge id H.nx with k | k
  · exact k
  · rw [h.fresh id k] at hp; cases hp
theorem Rel.holds (h : Rel H ρ z pv w0 w) {id : Nat} {ob : Ob} {b o n : Nat} (hg : H.t.get id = some ob) (hp : ρ id = some (b, o, n)) :
    w0.heap.size ≤ b ∧ Holds ρ z w b o n ob ∧ (∀ o', z b o' = none) ∧ pv b = none := by
  obtain ⟨b', o', n', h1, h2, h3, h4⟩ := h.live id ob hg
  rw [hp] at h1
  cases h1
  exact ⟨h2, h3, h4⟩
/-- The count of draws alone. -/
theorem Rel.drew (h : Rel H ρ z pv w0 w) (n : Nat) : Rel H ρ z pv w0 { w with drawn := n } :=
  ⟨⟨h.below.os, h.below.tape, h.below.output, h.below.size, h.below.block⟩, h.fz, fun id ob hg => h.live id ob hg, h.excl, h.fresh, h.keep, h.ty, h.res⟩
/-- The relation looks at the table by its answers alone. -/
theorem Rel.same {H' : Heap} (h : Rel H ρ z pv w0 w) (hn : H'.nx = H.nx) (he : H'.e = H.e) (hg : ∀ k, H'.t.get k = H.t.get k) : Rel H' ρ z pv w0 w :=
  ⟨h.below, h.fz, fun id ob k => h.live id ob (by rw [← hg]; exact k), fun a b c d e f k1 k2 => h.excl a b c d e f (by rw [← hg]; exact k1) (by rw [← hg]; exact k2), by rw [hn]; exact h.fresh, h.keep, by rw [he]; exact h.ty, by rw [hn]; exact h.res⟩
/-- A new block that the abstract heap does not know. -/
theorem Rel.push (h : Rel H ρ z pv w0 w) (o : Obj) : Rel H ρ z pv w0 (w.alloc o) := by
  refine ⟨h.below.alloc h.below.size o, fun b o' v hz => cell_push o (h.fz b o' v hz), fun id ob hg => ?_, h.excl, h.fresh, fun b x hb => ⟨heap_push_lt o (h.keep b x hb).1, (h.keep b x hb).2⟩, fun id e k he => ?_, h.res⟩
  rotate_left
  · obtain ⟨b, n, real, fz, h1, h2, h3⟩ := h.ty id e k he
    exact ⟨b, n, real, fz, h1, heap_push_lt o h2, h3⟩
  obtain ⟨b, off, n, h1, h2, h3, h4⟩ := h.live id ob hg
  exact ⟨b, off, n, h1, h2, h3.mono (Ext.refl _ _) (Below.heap_alloc w o b h3.lt), h4⟩
theorem Rel.ext_alloc (h : Rel H ρ z pv w0 w) (p : Nat × Nat × Nat) : Ext ρ (plSet ρ H.nx p) z z :=
  ⟨fun id q hq => by
    have := h.lt_nx hq
    rw [plSet_ne _ _ (by omega)]; exact hq, fun _ _ _ k => k⟩
/-- A new name for a block that no other place lies in. -/
theorem Rel.name (h : Rel H ρ z pv w0 w) (ob : Ob) {b o n : Nat} (hB : w0.heap.size ≤ b) (hz : ∀ o', z b o' = none) (hpv : pv b = none) (hf : ∀ id ob p, H.t.get id = some ob → ρ id = some p → p.1 ≠ b)
    (hh : Holds (plSet ρ H.nx (b, o, n)) z w b o n ob) : Rel (H.alloc ob) (plSet ρ H.nx (b, o, n)) z pv w0 w := by
  have e := h.ext_alloc (b, o, n)
  refine ⟨h.below, h.fz, fun id ob' hg => ?_, fun id id' ob1 ob2 p p' g1 g2 hne r1 r2 => ?_, fun id hid => ?_, h.keep, fun id el k he => ?_, fun id hid => ?_⟩
  · simp only [Heap.alloc, T.get_set] at hg
    by_cases hi : id = H.nx
    · rw [if_pos hi] at hg
      cases hg
      exact ⟨b, o, n, by simp [plSet, hi], hB, hh, hz, hpv⟩
    · rw [if_neg hi] at hg
      obtain ⟨b', off, n', h1, h2, h3, h4⟩ := h.live id ob' hg
      exact ⟨b', off, n', e.pl _ _ h1, h2, h3.mono e rfl, h4⟩
  · simp only [Heap.alloc, T.get_set] at g1 g2
    by_cases hi : id = H.nx
    · have hj : id' ≠ H.nx := by omega
      rw [if_neg hj] at g2
      rw [plSet_ne _ _ hj] at r2
      rw [hi, plSet_same] at r1
      cases r1
      exact fun hh => hf _ _ _ g2 r2 hh.symm
    · rw [if_neg hi] at g1
      rw [plSet_ne _ _ hi] at r1
      by_cases hj : id' = H.nx
      · rw [hj, plSet_same] at r2
        cases r2
        exact hf _ _ _ g1 r1
      · rw [if_neg hj] at g2
        rw [plSet_ne _ _ hj] at r2
        exact h.excl id id' ob1 ob2 p p' g1 g2 hne r1 r2
  · simp only [Heap.alloc] at hid
    rw [plSet_ne _ _ (by omega)]
    exact h.fresh id (by omega)
  · obtain ⟨b', n', real, fz, h1, h2⟩ := h.ty id el k he
    exact ⟨b', n', real, fz, e.pl _ _ h1, h2⟩
  · obtain ⟨h1, h2⟩ := h.res id hid
    rw [plSet_ne _ _ (by omega)]
    exact ⟨h1, by simp only [Heap.alloc]; omega⟩
/-- A place of its own for a new block. -/
theorem Rel.alloc (h : Rel H ρ z pv w0 w) (ob : Ob) (o : Obj) (n : Nat) (hh : Holds (plSet ρ H.nx (w.heap.size, 0, n)) z (w.alloc o) w.heap.size 0 n ob) :
    Rel (H.alloc ob) (plSet ρ H.nx (w.heap.size, 0, n)) z pv w0 (w.alloc o) :=
  (h.push o).name ob h.below.size h.fz_none h.pv_none (fun id ob' p hg hp => by
    obtain ⟨b, o, n⟩ := p
    have := (h.holds hg hp).2.1.lt
    simp only
    omega) hh
/-- New cells. -/
theorem Rel.alloc_cells (h : Rel H ρ z pv w0 w) {cs : List AV} {vs : List Value} (more : List Value) (e : TypeId) (fz : Nat × Nat) (hfz : ∀ j, fz.1 ≤ j → j < fz.2 → (vs ++ more).length ≤ j) (hv : VRs ρ z cs vs) :
    Rel (H.alloc (.cells cs)) (plSet ρ H.nx (w.heap.size, 0, (vs ++ more).length)) z pv w0 (w.alloc (.cells (vs ++ more).toArray e fz)) := by
  refine h.alloc _ _ _ ⟨(vs ++ more).toArray, e, fz, heap_alloc_new w _, by simp, fun j a b => by simpa using hfz j a b, fun i x hx => ?_⟩
  obtain ⟨v, hv', hr⟩ := hv.at_ hx
  refine ⟨v, ?_, hr.mono (h.ext_alloc _)⟩
  have hi : i < vs.length := (List.getElem?_eq_some_iff.1 hv').1
  simp only [Nat.zero_add, List.getElem?_toArray]
  rw [List.getElem?_append_left hi]; exact hv'
/-- A name's element type is known. -/
theorem Rel.typed (h : Rel H ρ z pv w0 w) {id b n : Nat} {real : Array Value} {e : TypeId} {fz : Nat × Nat} {k : Option Nat} (hp : ρ id = some (b, 0, n)) (hb : w.heap[b]? = some (.cells real e fz)) (hn : real.size = n) (hk : ∀ m, k = some m → n = m) :
    Rel ⟨H.t, H.nx, H.e.set id (e, k)⟩ ρ z pv w0 w :=
  ⟨h.below, h.fz, h.live, h.excl, h.fresh, h.keep, fun id1 e1 k1 he => by
    simp only [T.get_set] at he
    by_cases hi : id1 = id
    · rw [if_pos hi] at he
      cases he
      subst hi
      exact ⟨b, n, real, fz, hp, hb, hn, hk⟩
    · rw [if_neg hi] at he
      exact h.ty id1 e1 k1 he, h.res⟩
theorem Rel.alloc_cellsT (h : Rel H ρ z pv w0 w) {cs : List AV} {vs : List Value} (more : List Value) (e : TypeId) (fz : Nat × Nat) (hfz : ∀ j, fz.1 ≤ j → j < fz.2 → (vs ++ more).length ≤ j) (hv : VRs ρ z cs vs) {k : Option Nat}
    (hk : ∀ m, k = some m → (vs ++ more).length = m) :
    Rel (H.allocT (.cells cs) e k) (plSet ρ H.nx (w.heap.size, 0, (vs ++ more).length)) z pv w0 (w.alloc (.cells (vs ++ more).toArray e fz)) :=
  (h.alloc_cells more e fz hfz hv).typed (plSet_same _ _ _) (heap_alloc_new w _) (by simp) hk
/-- A cell that is read. -/
theorem Rel.cell (h : Rel H ρ z pv w0 w) {id : Nat} {cs : List AV} {b o n : Nat} (hg : H.t.get id = some (.cells cs)) (hp : ρ id = some (b, o, n)) {i : Nat} {x : AV} (hx : cs[i]? = some x) :
    ∃ v, w.cell? ⟨b, o + i, none⟩ = some v ∧ w.frozen? ⟨b, o + i, none⟩ = false ∧ VR ρ z x v := by
  obtain ⟨_, ⟨real, e, fz, h3, _, h4, h5⟩, _, _⟩ := h.holds hg hp
  obtain ⟨v, hv, hr⟩ := h5 i x hx
  have hlt : o + i < real.size := (Array.getElem?_eq_some_iff.1 hv).1
  refine ⟨v, by simp [World.cell?, h3, hv], ?_, hr⟩
  obtain ⟨lo, hi⟩ := fz
  simp only [World.frozen?, h3]
  cases hd : decide (lo ≤ o + i) <;> cases hd' : decide (o + i < hi) <;> simp
  have := h4 (o + i) (of_decide_eq_true hd) (of_decide_eq_true hd')
  omega
/-- A cell that is there, known or not. -/
theorem Rel.there (h : Rel H ρ z pv w0 w) {id : Nat} {cs : List AV} {b o n : Nat} (hg : H.t.get id = some (.cells cs)) (hp : ρ id = some (b, o, n)) {i : Nat} (hi : o + i < n) :
    ∃ v, w.cell? ⟨b, o + i, none⟩ = some v ∧ w.frozen? ⟨b, o + i, none⟩ = false := by
  obtain ⟨_, ⟨real, e, fz, h3, hn, h4, h5⟩, _⟩ := h.holds hg hp
  have hlt : o + i < real.size := by omega
  refine ⟨real[o + i], by simp [World.cell?, h3, hlt], ?_⟩
  obtain ⟨lo, hi⟩ := fz
  simp only [World.frozen?, h3]
  cases hd : decide (lo ≤ o + i) <;> cases hd' : decide (o + i < hi) <;> simp
  have := h4 (o + i) (of_decide_eq_true hd) (of_decide_eq_true hd')
  omega
theorem Rel.len_le (h : Rel H ρ z pv w0 w) {id : Nat} {cs : List AV} {b o n : Nat} (hg : H.t.get id = some (.cells cs)) (hp : ρ id = some (b, o, n)) : cs.length = 0 ∨ o + cs.length ≤ n := by
  obtain ⟨_, ⟨real, e, fz, h3, hn, h4, h5⟩, _⟩ := h.holds hg hp
  rcases Nat.eq_zero_or_pos cs.length with h0 | h0
  · exact .inl h0
  · obtain ⟨v, hv, _⟩ := h5 (cs.length - 1) _ (List.getElem?_eq_getElem (by omega))
    have := (Array.getElem?_eq_some_iff.1 hv).1
    exact .inr (by omega)
/-- A store into a place: at a cell that is known, or right behind them. -/
theorem Rel.store (h : Rel H ρ z pv w0 w) {id : Nat} {cs cs' : List AV} {b o n : Nat} (hg : H.t.get id = some (.cells cs)) (hp : ρ id = some (b, o, n)) {i : Nat} {x : AV} {v : Value} (hr : VR ρ z x v)
    (hcs : ∀ (j : Nat) (y : AV), cs'[j]? = some y → (j = i ∧ y = x ∧ o + i < n) ∨ (j ≠ i ∧ cs[j]? = some y)) :
    Rel (H.put id (.cells cs')) ρ z pv w0 (w.setCell ⟨b, o + i, none⟩ v) := by
  obtain ⟨h2, ⟨real, e, fz, h3, hn, h4, h5⟩, h6, h7⟩ := h.holds hg hp
  have hset : (w.setCell ⟨b, o + i, none⟩ v).heap[b]? = some (.cells (real.setIfInBounds (o + i) v) e fz) := by
    simp [World.setCell, Array.getElem?_modify, h3]
  refine ⟨h.below.setCell h2 v, fun b1 o1 u hz => ?_, fun id' ob' hg' => ?_, fun i1 i2 ob1 ob2 p p' g1 g2 hne r1 r2 => ?_, h.fresh, fun b1 x hb => ⟨(Below.heap_setCell w _ v b1 (fun hh => by simp only at hh; subst hh; rw [h7] at hb; cases hb)).trans (h.keep b1 x hb).1, (h.keep b1 x hb).2⟩, fun id1 el k he => ?_, h.res⟩
  rotate_left 3
  · obtain ⟨b1, n1, real1, fz1, k1, k2, k3, k4⟩ := h.ty id1 el k he
    by_cases hbb : b1 = b
    · subst hbb
      rw [k2] at h3
      cases h3
      exact ⟨b1, n1, _, _, k1, hset, by simpa using k3, k4⟩
    · exact ⟨b1, n1, real1, fz1, k1, by rw [Below.heap_setCell w _ v b1 hbb]; exact k2, k3, k4⟩
  · have hne : b1 ≠ b := fun hh => by subst hh; rw [h6 o1] at hz; cases hz
    rw [World.cell?_setCell_other w _ _ v (by intro hh; cases hh; exact hne rfl)]
    exact h.fz _ _ _ hz
  · simp only [Heap.put, T.get_set] at hg'
    by_cases hi' : id' = id
    · rw [if_pos hi'] at hg'
      cases hg'
      subst hi'
      refine ⟨b, o, n, hp, h2, ⟨_, e, fz, hset, by simpa using hn, fun j a1 a2 => by simpa using h4 j a1 a2, fun j y hy => ?_⟩, h6, h7⟩
      rcases hcs j y hy with ⟨rfl, rfl, hlt⟩ | ⟨hj, hy'⟩
      · refine ⟨v, ?_, hr⟩
        have hlt : o + j < real.size := by omega
        simp [hlt]
      · obtain ⟨u, hu, hru⟩ := h5 j y hy'
        exact ⟨u, by rw [Array.getElem?_setIfInBounds_ne (by omega)]; exact hu, hru⟩
    · rw [if_neg hi'] at hg'
      obtain ⟨b1, o1, n1, k1, k2, k3, k4⟩ := h.live id' ob' hg'
      have hne : b1 ≠ b := h.excl id' id ob' _ _ _ hg' hg hi' k1 hp
      exact ⟨b1, o1, n1, k1, k2, k3.mono (Ext.refl _ _) (Below.heap_setCell w _ v b1 hne), k4⟩
  · simp only [Heap.put, T.get_set] at g1 g2
    have fix : ∀ {j : Nat} {ob : Ob}, (if j = id then some (Ob.cells cs') else H.t.get j) = some ob → ∃ ob', H.t.get j = some ob' := fun {j ob} g => by
      by_cases hj : j = id
      · subst hj; exact ⟨_, hg⟩
      · rw [if_neg hj] at g; exact ⟨_, g⟩
    obtain ⟨_, g1'⟩ := fix g1
    obtain ⟨_, g2'⟩ := fix g2
    exact h.excl i1 i2 _ _ p p' g1' g2' hne r1 r2
theorem Rel.store_set (h : Rel H ρ z pv w0 w) {id : Nat} {cs : List AV} {b o n : Nat} (hg : H.t.get id = some (.cells cs)) (hp : ρ id = some (b, o, n)) {i : Nat} (hi : i < cs.length) {x : AV} {v : Value} (hr : VR ρ z x v) :
    Rel (H.put id (.cells (cs.set i x))) ρ z pv w0 (w.setCell ⟨b, o + i, none⟩ v) := by
  have hl : o + i < n := by have := h.len_le hg hp; omega
  refine h.store hg hp hr fun j y hy => ?_
  by_cases hj : j = i
  · subst hj
    rw [List.getElem?_set_self hi] at hy
    cases hy
    exact .inl ⟨rfl, rfl, hl⟩
  · rw [List.getElem?_set_ne (by omega)] at hy
    exact .inr ⟨hj, hy⟩
theorem Rel.store_push (h : Rel H ρ z pv w0 w) {id : Nat} {cs : List AV} {b o n : Nat} (hg : H.t.get id = some (.cells cs)) (hp : ρ id = some (b, o, n)) (hi : o + cs.length < n) {x : AV} {v : Value} (hr : VR ρ z x v) :
    Rel (H.put id (.cells (cs ++ [x]))) ρ z pv w0 (w.setCell ⟨b, o + cs.length, none⟩ v) := by
  refine h.store hg hp hr fun j y hy => ?_
  rcases Nat.lt_trichotomy j cs.length with hj | hj | hj
  · rw [List.getElem?_append_left hj] at hy
    exact .inr ⟨by omega, hy⟩
  · subst hj
    simp at hy
    exact .inl ⟨rfl, hy.symm, hi⟩
  · rw [List.getElem?_eq_none (by simp; omega)] at hy
    cases hy
/-- An object's block is written anew. -/
theorem Rel.putOb (h : Rel H ρ z pv w0 w) {id : Nat} {ob ob' : Ob} {b o n : Nat} (hg : H.t.get id = some ob) (hp : ρ id = some (b, o, n)) (x : Obj) (hnc : ∀ real e fz, w.heap[b]? ≠ some (.cells real e fz))
    (hh : Holds ρ z { w with heap := w.heap.setIfInBounds b x } b o n ob') : Rel (H.put id ob') ρ z pv w0 { w with heap := w.heap.setIfInBounds b x } := by
  obtain ⟨k2, k3, k6, k7⟩ := h.holds hg hp
  have hne : ∀ k, k ≠ b → (w.heap.setIfInBounds b x)[k]? = w.heap[k]? := fun k hk => by rw [Array.getElem?_setIfInBounds_ne (by omega)]
  refine ⟨⟨h.below.os, h.below.tape, h.below.output, by simpa using h.below.size, fun k hk => by rw [hne k (by omega)]; exact h.below.block k hk⟩, fun b1 o1 u hz => ?_, fun id' ob1 hg' => ?_, fun i1 i2 ob1 ob2 p p' g1 g2 hn r1 r2 => ?_, h.fresh, fun b1 y hb => ⟨(hne b1 (fun hh => by subst hh; rw [k7] at hb; cases hb)).trans (h.keep b1 y hb).1, (h.keep b1 y hb).2⟩, fun id1 el k he => (let ⟨b1, n1, real1, fz1, j1, j2, j3, j4⟩ := h.ty id1 el k he; ⟨b1, n1, real1, fz1, j1, (hne b1 (fun hh => by subst hh; exact hnc _ _ _ j2)).trans j2, j3, j4⟩), h.res⟩
  · have hb : b1 ≠ b := fun hh => by subst hh; rw [k6 o1] at hz; cases hz
    have := h.fz _ _ _ hz
    unfold World.cell? at this ⊢
    simp only [hne b1 hb]
    exact this
  · simp only [Heap.put, T.get_set] at hg'
    by_cases hi' : id' = id
    · rw [if_pos hi'] at hg'
      cases hg'
      subst hi'
      exact ⟨b, o, n, hp, k2, hh, k6, k7⟩
    · rw [if_neg hi'] at hg'
      obtain ⟨b1, o1, n1, j1, j2, j3, j4⟩ := h.live id' ob1 hg'
      have hb : b1 ≠ b := h.excl id' id ob1 _ _ _ hg' hg hi' j1 hp
      exact ⟨b1, o1, n1, j1, j2, j3.mono (Ext.refl _ _) (hne b1 hb), j4⟩
  · simp only [Heap.put, T.get_set] at g1 g2
    have fix : ∀ {j : Nat} {ob1 : Ob}, (if j = id then some ob' else H.t.get j) = some ob1 → ∃ ob', H.t.get j = some ob' := fun {j ob1} g => by
      by_cases hj : j = id
      · subst hj; exact ⟨_, hg⟩
      · rw [if_neg hj] at g; exact ⟨_, g⟩
    obtain ⟨_, g1'⟩ := fix g1
    obtain ⟨_, g2'⟩ := fix g2
    exact h.excl i1 i2 _ _ p p' g1' g2' hn r1 r2
/-- A place is given up. -/
theorem Rel.drop (h : Rel H ρ z pv w0 w) (id : Nat) : Rel (H.drop id) ρ z pv w0 w := by
  have fix : ∀ {j : Nat} {ob : Ob}, (H.drop id).t.get j = some ob → H.t.get j = some ob := fun {j ob} g => by
    simp only [Heap.drop, T.get_del] at g
    by_cases hj : j = id
    · rw [if_pos hj] at g; cases g
    · rw [if_neg hj] at g; exact g
  exact ⟨h.below, h.fz, fun i ob hg => h.live i ob (fix hg), fun i j a b c d g1 g2 => h.excl i j a b c d (fix g1) (fix g2), h.fresh, h.keep, h.ty, h.res⟩
/-- A place under another name, its cells from an offset on, no more than so many. -/
theorem Rel.rename (h : Rel H ρ z pv w0 w) {id : Nat} {cs : List AV} {b o n : Nat} (hg : H.t.get id = some (.cells cs)) (hp : ρ id = some (b, o, n)) (k m : Nat) :
    Rel ((H.drop id).alloc (.cells ((cs.drop k).take m))) (plSet ρ H.nx (b, o + k, n)) z pv w0 w := by
  have e := h.ext_alloc (b, o + k, n)
  obtain ⟨h2, ⟨real, el, fz, h3, hn, h4, h5⟩, h6, h7⟩ := h.holds hg hp
  refine (h.drop id).name _ h2 h6 h7 (fun i ob p g r => ?_) ⟨real, el, fz, h3, hn, h4, fun j x hx => ?_⟩
  · have hi : i ≠ id := fun hh => by subst hh; simp [Heap.drop, T.get_del] at g
    simp only [Heap.drop, T.get_del, if_neg hi] at g
    exact h.excl i id ob _ p _ g hg hi r hp
  · rw [List.getElem?_take] at hx
    split at hx
    · rw [List.getElem?_drop] at hx
      obtain ⟨v, hv, hr⟩ := h5 _ x hx
      exact ⟨v, by rw [Nat.add_assoc]; exact hv, hr.mono e⟩
    · cases hx
end
/-- Values that fill one cell. -/
def AV.one : AV → Bool
  | .undef | .agg _ | .tuple _ => false
  | _ => true
theorem VR.one {ρ : Pl} {z : Fz} {x : AV} {v : Value} (h : VR ρ z x v) (h1 : x.one = true) : v.oneCell' = true := by
  cases h <;> simp_all [AV.one, Value.oneCell']
  case num n h => unfold numTree at h; cases h; rfl
  case frac q h => unfold fracTree at h; cases h; rfl
def AV.cells : AV → Option (List AV)
  | .agg cs => some cs
  | .undef | .tuple _ => none
  | x => some [x]
theorem VR.cells {ρ : Pl} {z : Fz} {x : AV} {v : Value} {cs : List AV} (h : VR ρ z x v) (hc : x.cells = some cs) : ∃ vs, v.cells = ⟨vs⟩ ∧ VRs ρ z cs vs := by
  by_cases h1 : x.one = true
  · have h2 := h.one h1
    have e : v.cells = ⟨[v]⟩ := by cases v <;> simp_all [Value.oneCell', Value.cells]
    refine ⟨[v], e, ?_⟩
    have : cs = [x] := by cases x <;> simp_all [AV.one, AV.cells]
    subst this
    exact .cons _ _ _ _ h .nil
  · cases x <;> simp [AV.one] at h1 <;> simp [AV.cells] at hc
    subst hc
    cases h with | agg _ vs hs => exact ⟨vs, rfl, hs⟩
end Go.Eng
end
section
namespace Go.Eng
open Go.RowKit
/-- What the run looks up of a type: what it is beneath its name; its row. -/
structure TI where
  d : TypeDesc
  i : TypeInfo
structure Tab where
  ty : T TI
def Tab.und (D : Tab) (t : TypeId) : Option TypeDesc := match D.ty.get t with
  | some x => some x.d
  | none => none
def Tab.inf (D : Tab) (t : TypeId) : Option TypeInfo := match D.ty.get t with
  | some x => some x.i
  | none => none
/-- The table is the program's. -/
class TabOk (D : Tab) (P : Program) : Prop where
  ok : ∀ t x, D.ty.get t = some x → P.underlying t = some x.d ∧ P.info? t = some x.i
theorem TabOk.und {D : Tab} {P : Program} [h : TabOk D P] {t : TypeId} {d : TypeDesc} (hd : D.und t = some d) : P.underlying t = some d := by
  unfold Tab.und at hd
  split at hd
  · rename_i x hx
    cases hd
    exact (h.ok t x hx).1
  · cases hd
theorem TabOk.inf {D : Tab} {P : Program} [h : TabOk D P] {t : TypeId} {i : TypeInfo} (hd : D.inf t = some i) : P.info? t = some i := by
  unfold Tab.inf at hd
  split at hd
  · rename_i x hx
    cases hd
    exact (h.ok t x hx).2
  · cases hd
theorem run_und {D : Tab} {P : Program} [TabOk D P] {t : TypeId} {d : TypeDesc} (h : D.und t = some d) {w : World} : (underlying t).run P w = .ok d w := run_underlying (TabOk.und h) w
def seg (cs : List AV) (off n : Nat) : Option (List AV) :=
  let l := (cs.drop off).take n
  cond (Nat.beq l.length n) (some l) none
theorem seg_some {cs l : List AV} {off n : Nat} (h : seg cs off n = some l) : l = (cs.drop off).take n ∧ l.length = n := by
  unfold seg at h
  cases hb : Nat.beq ((cs.drop off).take n).length n with
  | false => simp only [hb, cond_false] at h; cases h
  | true =>
    simp only [hb, cond_true, Option.some.injEq] at h
    exact ⟨h.symm, by rw [← h]; exact Nat.eq_of_beq_eq_true hb⟩
theorem seg_at {cs l : List AV} {off n : Nat} (h : seg cs off n = some l) {i : Nat} (hi : i < n) : ∃ x, l[i]? = some x ∧ cs[off + i]? = some x := by
  obtain ⟨h1, h2⟩ := seg_some h
  refine ⟨l[i]'(by omega), List.getElem?_eq_getElem (by omega), ?_⟩
  have : l[i]? = some (l[i]'(by omega)) := List.getElem?_eq_getElem (by omega)
  rw [← this, h1, List.getElem?_take, if_pos hi, List.getElem?_drop]
def isAggD : TypeDesc → Bool
  | .struct _ | .array _ _ => true
  | _ => false
/-- The cells behind an address. -/
def cellsAt (H : Heap) : AV → Option (List AV × Nat)
  | .ptr id off => match H.t.get id with
    | some (.cells cs) => some (cs, off)
    | _ => none
  | .iptr cs off => some (cs, off)
  | _ => none
def aLoad (D : Tab) (H : Heap) (t : TypeId) (x : AV) : Option AV :=
  match cellsAt H x, D.und t, D.inf t with
  | some (cs, off), some d, some i =>
    cond (isAggD d) ((seg cs off i.size).map .agg) (cs[off]?)
  | _, _, _ => none
section
variable {P : Program} {D : Tab} [TabOk D P] {H : Heap} {ρ : Pl} {z : Fz} {w0 w : World} {pv : Pv}
theorem add_mk (b o n : Nat) : (⟨b, o, none⟩ : Addr).add n = ⟨b, o + n, none⟩ := by
  unfold Addr.add
  split <;> simp_all
theorem cellsAt_ok (h : Rel H ρ z pv w0 w) {x : AV} {v : Value} (hv : VR ρ z x v) {cs : List AV} {off : Nat} (hc : cellsAt H x = some (cs, off)) :
    ∃ b o, v = .pointer (some ⟨b, o + off, none⟩) ∧ ∀ (i : Nat) (y : AV), cs[i]? = some y → ∃ u, w.cell? ⟨b, o + i, none⟩ = some u ∧ VR ρ z y u := by
  cases hv <;> simp only [cellsAt] at hc <;> try (cases hc; done)
  case ptr id off' b o n hp =>
    split at hc
    · rename_i cs' hg
      cases hc
      refine ⟨b, o, rfl, fun i y hy => ?_⟩
      obtain ⟨u, h1, _, h2⟩ := h.cell hg hp hy
      exact ⟨u, h1, h2⟩
    · cases hc
  case iptr cells off' b o vs hs hz =>
    cases hc
    refine ⟨b, o, rfl, fun i y hy => ?_⟩
    obtain ⟨u, h1, h2⟩ := hs.at_ hy
    exact ⟨u, h.fz _ _ _ (hz i u h1), h2⟩
theorem run_isAgg {t : TypeId} {d : TypeDesc} (hd : D.und t = some d) : (isAgg t).run P w = .ok (isAggD d) w := by
  unfold isAgg
  rw [Sem.run_bind, run_und hd]
  cases d <;> rfl
theorem run_inf {t : TypeId} {i : TypeInfo} (hi : D.inf t = some i) : (typeInfo t).run P w = .ok i w := by
  have hi := TabOk.inf (P := P) hi
  simp [typeInfo, program, Sem.run, hi]
theorem run_sz {t : TypeId} {i : TypeInfo} (hi : D.inf t = some i) : (sizeOf t).run P w = .ok i.size w := by
  simp [sizeOf, run_inf hi, Result.andThen]
theorem aLoad_ok (h : Rel H ρ z pv w0 w) {t : TypeId} {x y : AV} {v : Value} (hv : VR ρ z x v) (ha : aLoad D H t x = some y) :
    ∃ u, (Instr.loadAt t v).run P w = .ok u w ∧ VR ρ z y u := by
  unfold aLoad at ha
  split at ha
  · rename_i cs off d i hc hd hi
    obtain ⟨b, o, rfl, hcell⟩ := cellsAt_ok h hv hc
    cases hg : isAggD d with
    | false =>
      simp only [hg, cond_false] at ha
      obtain ⟨u, h1, h2⟩ := hcell off y ha
      refine ⟨u, ?_, h2⟩
      simp [Instr.loadAt, Instr.sureAddr, loadVar, run_isAgg hd, hg, Result.andThen, h1]
    | true =>
      simp only [hg, cond_true] at ha
      cases hs : seg cs off i.size with
      | none => simp [hs] at ha
      | some l =>
        simp only [hs, Option.map_some, Option.some.injEq] at ha
        subst ha
        have hl := (seg_some hs).2
        let f : Nat → Value := fun j => (w.cell? ⟨b, o + off + j, none⟩).getD undef
        have hf : ∀ j, j < i.size → ∃ x u, l[j]? = some x ∧ w.cell? ⟨b, o + off + j, none⟩ = some u ∧ VR ρ z x u := fun j hj => by
          obtain ⟨x, h1, h2⟩ := seg_at hs hj
          obtain ⟨u, h3, h4⟩ := hcell _ x h2
          exact ⟨x, u, h1, by rw [Nat.add_assoc]; exact h3, h4⟩
        have hrun := run_loadCells (P := P) w ⟨b, o + off, none⟩ i.size f (fun j hj => by
          obtain ⟨x, u, _, h2, _⟩ := hf j hj
          rw [add_mk, h2]; simp [f, h2])
        refine ⟨.agg ((List.range i.size).map f).toArray, ?_, ?_⟩
        · simp only [Instr.loadAt, Instr.sureAddr, loadVar, Sem.run_bind, Sem.run_pure, Result.andThen, run_isAgg hd, hg, if_true, run_sz hi, hrun]
        · refine .agg _ _ (VRs.of_at (by simp [hl]) fun j x u hx hu => ?_)
          have hj : j < i.size := by have := (List.getElem?_eq_some_iff.1 hx).1; omega
          obtain ⟨x', u', h1, h2, h3⟩ := hf j hj
          rw [hx] at h1
          cases h1
          simp [hj, f, h2] at hu
          subst hu
          exact h3
  · cases ha
end
end Go.Eng
end
section
namespace Go.Eng
open Go.RowKit
def putAt (cs : List AV) (i : Nat) : List AV → List AV
  | [] => cs
  | x :: xs => putAt (cs.set i x) (i + 1) xs
def allOne : List AV → Bool
  | [] => true
  | x :: xs => x.one && allOne xs
def aStore (D : Tab) (H : Heap) (t : TypeId) (x y : AV) : Option Heap :=
  match x, D.inf t, y.cells with
  | .ptr id off, some i, some ys =>
    match H.t.get id with
    | some (.cells cs) => cond (Nat.beq ys.length i.size && allOne ys && Nat.ble (off + ys.length) cs.length) (some (H.put id (.cells (putAt cs off ys)))) none
    | _ => none
  | _, _, _ => none
def aFieldAddr (D : Tab) (s : TypeId) (x : AV) (f : Nat) : Option AV :=
  match D.und s with
  | some (.struct fs) =>
    match fs[f]? with
    | some fd =>
      match D.inf fd.type, x with
      | some i, .ptr id off => cond (Nat.beq i.size 0) none (some (.ptr id (off + fd.offset)))
      | some i, .iptr cs off => cond (Nat.beq i.size 0) none (some (.iptr cs (off + fd.offset)))
      | _, _ => none
    | none => none
  | _ => none
def aIndexAddr (D : Tab) (t : TypeId) (x ix : AV) : Option AV :=
  match ix, D.und t with
  | .int _ i, some (.slice e) =>
    match D.inf e with
    | some inf =>
      match x with
      | .slice id off len _ _ _ => if 0 ≤ i ∧ i < (len : Int) then some (.ptr id (off + i.toNat * inf.size)) else none
      | .isl cs len => if 0 ≤ i ∧ i < (len : Int) then some (.iptr cs (i.toNat * inf.size)) else none
      | _ => none
    | none => none
  | .int _ i, some (.array len e) =>
    match D.inf e with
    | some inf =>
      match x with
      | .ptr id off => if 0 ≤ i ∧ i < (len : Int) then some (.ptr id (off + i.toNat * inf.size)) else none
      | .iptr cs off => if 0 ≤ i ∧ i < (len : Int) then some (.iptr cs (off + i.toNat * inf.size)) else none
      | _ => none
    | none => none
  | _, _ => none
def aIndex (D : Tab) (t : TypeId) (x ix : AV) : Option AV :=
  match ix, D.und t, x with
  | .int _ i, some .string, .str s => if 0 ≤ i then (s[i.toNat]?).map fun b => .int .u8 b.toNat else none
  | .int _ i, some (.array len e), .agg cs =>
    match D.und e, D.inf e with
    | some d, some inf => if 0 ≤ i ∧ i < (len : Int) then
        (if isAggD d then (seg cs (i.toNat * inf.size) inf.size).map .agg else cs[i.toNat * inf.size]?) else none
    | _, _ => none
  | _, _, _ => none
def aField (D : Tab) (t : TypeId) (x : AV) (f : Nat) : Option AV :=
  match D.und t, x with
  | some (.struct fs), .agg cs =>
    match fs[f]? with
    | some fd => match D.und fd.type, D.inf fd.type with
      | some d, some inf => if isAggD d then (seg cs fd.offset inf.size).map .agg else cs[fd.offset]?
      | _, _ => none
    | none => none
  | _, _ => none
/-- Bounds of a cut: what is not given is the default; the low one, the high one, the greatest. -/
def bd (v : Option AV) (dflt top : Nat) : Option Nat :=
  match v with
  | none => some dflt
  | some (.int _ i) => if 0 ≤ i ∧ i ≤ (top : Int) then some i.toNat else none
  | some _ => none
def z2 (lo hi : Option AV) : Bool :=
  match bd hi 0 0, bd lo 0 0 with
  | some _, some _ => true
  | _, _ => false
def z3 (lo hi : Option AV) (m : AV) : Bool :=
  match hi with
  | none => false
  | some hx =>
    match bd (some m) 0 0, bd (some hx) 0 0, bd lo 0 0 with
    | some _, some _, some _ => true
    | _, _, _ => false
def aSlice (D : Tab) (H : Heap) (t : TypeId) (x : AV) (lo hi mx : Option AV) : Option AV :=
  match D.und t, x with
  | some .string, .str s =>
    match mx, bd hi s.length s.length with
    | none, some h => (bd lo 0 h).map fun l => .str ((s.drop l).take (h - l))
    | _, _ => none
  | some (.slice e), x =>
    match D.inf e with
    | none => none
    | some inf =>
      match x, mx with
      | .slice id off len cap ex es, none =>
        match bd hi len cap with
        | some h => cond (Nat.beq es inf.size) ((bd lo 0 h).map fun l => .slice id (off + l * inf.size) (h - l) (cap - l) ex es) none
        | none => none
      | .slice id off len cap _ es, some m =>
        match hi with
        | none => none
        | some hx =>
          match bd (some m) cap cap with
          | none => none
          | some m' =>
            match bd (some hx) len m' with
            | none => none
            | some h => cond (Nat.beq es inf.size) ((bd lo 0 h).map fun l => .slice id (off + l * inf.size) (h - l) (m' - l) true es) none
      | .isl cs len, none =>
        match bd hi len len with
        | some h => (bd lo 0 h).map fun l => .isl ((cs.drop (l * inf.size)).take ((h - l) * inf.size)) (h - l)
        | none => none
      | .isl _ _, some m => if z3 lo hi m then some .esl else none
      | .nilsl, none => if z2 lo hi then some .nilsl else none
      | .nilsl, some m => if z3 lo hi m then some .nilsl else none
      | .esl, none => if z2 lo hi then some .esl else none
      | .esl, some m => if z3 lo hi m then some .esl else none
      | _, _ => none
  | some (.array n e), .ptr id off =>
    match D.inf e, mx, H.t.get id with
    | some inf, none, some (.cells cs) =>
      match bd hi n n with
      | some h => cond (Nat.blt 0 cs.length && Nat.ble (off + n * inf.size) cs.length) ((bd lo 0 h).map fun l => .slice id (off + l * inf.size) (h - l) (n - l) true inf.size) none
      | none => none
    | _, _, _ => none
  | _, _ => none
section
variable {P : Program} {D : Tab} [TabOk D P] {H : Heap} {ρ : Pl} {z : Fz} {w0 w : World} {pv : Pv}
/-- Stores in a row. -/
theorem Rel.stores {id b o n : Nat} (hp : ρ id = some (b, o, n)) : ∀ (xs : List AV) (vs : List Value) (cs : List AV) (H : Heap) (w : World) (p off j : Nat), Rel H ρ z pv w0 w → H.t.get id = some (.cells cs) → VRs ρ z xs vs → allOne xs = true →
    off + xs.length ≤ cs.length → p + j = o + off →
    ∃ H' w', (storeCells ⟨b, p, none⟩ vs j).run P w = .ok () w' ∧ Rel H' ρ z pv w0 w' ∧ (H'.nx = H.nx ∧ H'.e = H.e) ∧ (∀ k, H'.t.get k = (H.put id (.cells (putAt cs off xs))).t.get k)
  | _, _, cs, H, w, p, off, j, h, hg, .nil, _, _, _ => by
    refine ⟨H, w, rfl, h, ⟨rfl, rfl⟩, fun k => ?_⟩
    simp only [putAt, Heap.put, T.get_set]
    by_cases e : k = id
    · rw [if_pos e, e, hg]
    · rw [if_neg e]
  | x :: xs, v :: vs, cs, H, w, p, off, j, h, hg, .cons _ _ _ _ hx hs, h1, hl, hj => by
    simp only [allOne, Bool.and_eq_true] at h1
    simp only [List.length_cons] at hl
    have hoff : off < cs.length := by omega
    obtain ⟨u, hc, hf, _⟩ := h.cell hg hp (List.getElem?_eq_getElem hoff)
    have hs1 := h.store_set hg hp hoff hx
    have hg' : (H.put id (.cells (cs.set off x))).t.get id = some (.cells (cs.set off x)) := by simp [Heap.put, T.get_set]
    obtain ⟨H', w', r1, r2, r3, r4⟩ := Rel.stores hp xs vs (cs.set off x) _ _ p (off + 1) (j + 1) hs1 hg' hs h1.2 (by simp; omega) (by omega)
    refine ⟨H', w', ?_, r2, r3, fun k => ?_⟩
    · have hadd : (⟨b, p, none⟩ : Addr).add j = ⟨b, o + off, none⟩ := by rw [add_mk, hj]
      have hst : (_root_.Go.store ((⟨b, p, none⟩ : Addr).add j) v).run P w = Result.ok () (w.setCell ⟨b, o + off, none⟩ v) := by
        rw [hadd, run_store P w _ v _ (hx.one h1.1), hc]
        simp [hf]
      simp only [storeCells, Sem.run_bind, hst, Result.andThen, r1]
    · rw [r4 k]
      simp only [putAt, Heap.put, T.get_set]
      by_cases e : k = id <;> simp [e]
theorem aStore_ok (h : Rel H ρ z pv w0 w) {t : TypeId} {x y : AV} {v u : Value} {H' : Heap} (hv : VR ρ z x v) (hu : VR ρ z y u) (ha : aStore D H t x y = some H') :
    ∃ w', (Instr.storeAt t v u).run P w = .ok () w' ∧ Rel H' ρ z pv w0 w' := by
  unfold aStore at ha
  split at ha
  · rename_i id off i ys hi hys
    split at ha
    · rename_i cs hg
      cases hb : (Nat.beq ys.length i.size && allOne ys && Nat.ble (off + ys.length) cs.length) with
      | false => rw [hb] at ha; cases ha
      | true =>
        rw [hb] at ha
        simp only [cond_true, Option.some.injEq] at ha
        subst ha
        simp only [Bool.and_eq_true] at hb
        obtain ⟨⟨e1, e2⟩, e3⟩ := hb
        have e1 := Nat.eq_of_beq_eq_true e1
        have e3 := Nat.le_of_ble_eq_true e3
        obtain ⟨us, hus, hvs⟩ := hu.cells hys
        cases hv with | ptr _ _ b o n hp =>
        obtain ⟨H', w', r1, r2, r3, r4⟩ := Rel.stores (P := P) hp ys us cs H w (o + off) off 0 h hg hvs e2 e3 rfl
        refine ⟨w', ?_, r2.same r3.1.symm r3.2.symm fun k => (r4 k).symm⟩
        have hsz : us.length = i.size := by rw [hvs.length, e1]
        simp only [Instr.storeAt, Instr.sureAddr, storeVar, Sem.run_bind, Sem.run_pure, Result.andThen, run_sz hi, hus]
        simp [hsz, r1]
    · cases ha
  · cases ha
theorem aFieldAddr_ok {s : TypeId} {x y : AV} {v : Value} {f : Nat} (hv : VR ρ z x v) (ha : aFieldAddr D s x f = some y) :
    ∃ u, (Instr.fieldAt s v f).run P w = .ok u w ∧ VR ρ z y u := by
  unfold aFieldAddr at ha
  split at ha
  · rename_i fs hd
    split at ha
    · rename_i fd hf
      split at ha
      · rename_i i id off hi
        cases hb : Nat.beq i.size 0 with
        | true => simp [hb] at ha
        | false =>
          simp only [hb, cond_false, Option.some.injEq] at ha
          subst ha
          have hne : i.size ≠ 0 := fun e => by rw [e] at hb; cases hb
          cases hv with | ptr _ _ b o n hp =>
          refine ⟨_, ?_, .ptr id (off + fd.offset) b o n hp⟩
          simp [Instr.fieldAt, Instr.sureAddr, run_und hd, Result.andThen, hf, fieldPlace, run_sz hi, hne, add_mk, Nat.add_assoc]
      · rename_i i cs off hi
        cases hb : Nat.beq i.size 0 with
        | true => simp [hb] at ha
        | false =>
          simp only [hb, cond_false, Option.some.injEq] at ha
          subst ha
          have hne : i.size ≠ 0 := fun e => by rw [e] at hb; cases hb
          cases hv with | iptr _ _ b o vs hs hz =>
          refine ⟨_, ?_, .iptr cs (off + fd.offset) b o vs hs hz⟩
          simp [Instr.fieldAt, Instr.sureAddr, run_und hd, Result.andThen, hf, fieldPlace, run_sz hi, hne, add_mk, Nat.add_assoc]
      · cases ha
    · cases ha
  · cases ha
theorem aIndexAddr_ok {t : TypeId} {x ix y : AV} {v iv : Value} (hv : VR ρ z x v) (hi : VR ρ z ix iv) (ha : aIndexAddr D t x ix = some y) :
    ∃ u, (Instr.indexAt t v iv).run P w = .ok u w ∧ VR ρ z y u := by
  unfold aIndexAddr at ha
  split at ha
  · rename_i k i e hd
    cases hi
    split at ha
    · rename_i inf hinf
      split at ha
      · rename_i id off len cap ex es
        split at ha
        · rename_i hb
          cases ha
          cases hv with | slice _ _ _ _ _ _ b o n rc A hp h1 h2 h3 h5 h6 =>
          have hA := h5 (by omega)
          subst hA
          refine ⟨_, ?_, .ptr id (off + i.toNat * inf.size) b o n hp⟩
          simp [Instr.indexAt, asIntOf, run_und hd, Result.andThen, hb, run_sz hinf, add_mk, Nat.add_assoc]
        · cases ha
      · rename_i cs len
        split at ha
        · rename_i hb
          cases ha
          cases hv with
          | isl0 A c => omega
          | isl _ _ b o c vs hs hz hc =>
            refine ⟨_, ?_, .iptr cs (i.toNat * inf.size) b o vs hs hz⟩
            simp [Instr.indexAt, asIntOf, run_und hd, Result.andThen, hb, run_sz hinf, add_mk]
        · cases ha
      · cases ha
    · cases ha
  · rename_i k i len e hd
    cases hi
    split at ha
    · rename_i inf hinf
      split at ha
      · rename_i id off
        split at ha
        · rename_i hb
          cases ha
          cases hv with | ptr _ _ b o n hp =>
          refine ⟨_, ?_, .ptr id (off + i.toNat * inf.size) b o n hp⟩
          simp [Instr.indexAt, Instr.sureAddr, asIntOf, run_und hd, Result.andThen, hb, run_sz hinf, add_mk, Nat.add_assoc]
        · cases ha
      · rename_i cs off
        split at ha
        · rename_i hb
          cases ha
          cases hv with | iptr _ _ b o vs hs hz =>
          refine ⟨_, ?_, .iptr cs (off + i.toNat * inf.size) b o vs hs hz⟩
          simp [Instr.indexAt, Instr.sureAddr, asIntOf, run_und hd, Result.andThen, hb, run_sz hinf, add_mk, Nat.add_assoc]
        · cases ha
      · cases ha
    · cases ha
  · cases ha
theorem part_ok {e : TypeId} {d : TypeDesc} {inf : TypeInfo} {cs : List AV} {vs : List Value} {off : Nat} {y : AV} (hd : D.und e = some d) (hinf : D.inf e = some inf) (hs : VRs ρ z cs vs)
    (ha : (if isAggD d then (seg cs off inf.size).map AV.agg else cs[off]?) = some y) : ∃ u, (part e ⟨vs⟩ off).run P w = .ok u w ∧ VR ρ z y u := by
  cases hg : isAggD d with
  | false =>
    simp only [hg, Bool.false_eq_true, if_false] at ha
    obtain ⟨u, h1, h2⟩ := hs.at_ ha
    refine ⟨u, ?_, h2⟩
    simp [part, run_isAgg hd, hg, Result.andThen, h1]
  | true =>
    simp only [hg, if_true] at ha
    cases hsg : seg cs off inf.size with
    | none => simp [hsg] at ha
    | some l =>
      simp only [hsg, Option.map_some, Option.some.injEq] at ha
      subst ha
      have e1 := (seg_some hsg).1
      refine ⟨.agg ⟨(vs.drop off).take inf.size⟩, ?_, .agg _ _ (by rw [e1]; exact (hs.drop off).take inf.size)⟩
      simp [part, run_isAgg hd, hg, Result.andThen, run_sz hinf, List.extract_eq_take_drop]
theorem aField_ok {t : TypeId} {x y : AV} {v : Value} {f : Nat} (hv : VR ρ z x v) (ha : aField D t x f = some y) :
    ∃ u, (Instr.field t v f).run P w = .ok u w ∧ VR ρ z y u := by
  unfold aField at ha
  split at ha
  · rename_i fs cs hd
    split at ha
    · rename_i fd hf
      split at ha
      · rename_i d inf hd' hinf
        cases hv with | agg _ vs hs =>
        obtain ⟨u, h1, h2⟩ := part_ok (P := P) (w := w) hd' hinf hs ha
        refine ⟨u, ?_, h2⟩
        simp [Instr.field, run_und hd, Result.andThen, hf, asAgg, h1]
      · cases ha
    · cases ha
  · cases ha
theorem aIndex_ok {t : TypeId} {x ix y : AV} {v iv : Value} (hv : VR ρ z x v) (hi : VR ρ z ix iv) (ha : aIndex D t x ix = some y) :
    ∃ u, (Instr.index t v iv).run P w = .ok u w ∧ VR ρ z y u := by
  unfold aIndex at ha
  split at ha
  · rename_i k i s hd
    cases hi
    cases hv
    split at ha
    · rename_i hb
      cases hs : s[i.toNat]? with
      | none => simp [hs] at ha
      | some b =>
        simp only [hs, Option.map_some, Option.some.injEq] at ha
        subst ha
        refine ⟨_, ?_, .int _ _⟩
        have hs' : (⟨⟨s⟩⟩ : ByteArray)[i.toNat]? = some b := by
          rw [← hs]
          have hlt : i.toNat < s.length := (List.getElem?_eq_some_iff.1 hs).1
          rw [getElem?_pos _ _ (by simpa [ByteArray.size] using hlt)]
          rw [List.getElem?_eq_getElem hlt]
          rfl
        simp [Instr.index, asIntOf, run_und hd, Result.andThen, hb, hs']
    · cases ha
  · rename_i k i len e cs hd
    cases hi
    split at ha
    · rename_i d inf hd' hinf
      split at ha
      · rename_i hb
        cases hv with | agg _ vs hs =>
        obtain ⟨u, h1, h2⟩ := part_ok (P := P) (w := w) hd' hinf hs ha
        refine ⟨u, ?_, h2⟩
        simp [Instr.index, asIntOf, run_und hd, Result.andThen, hb, run_sz hinf, h1]
      · cases ha
    · cases ha
  · cases ha
end
end Go.Eng
end
