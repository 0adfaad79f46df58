import Derived.Test.YtekfcbeballilaaGreatDoorNb
import Derived.Test.YtekfcbeballilaaGreatDoorNc
section
namespace Go.Eng
open Go.RowKit
inductive RunF (cx : Cx) (ops : Array Oper) : List Oper → DS → DS → Prop
  | nil (s : DS) : RunF cx ops [] s s
  | cons {o : Oper} {l : List Oper} {s s1 s2 : DS} (b : Nat) (x : AV) (cs : List AV) (k : Nat) (h : SF (fun _ _ _ => none) cx ops o s s1 b x cs k) (hl : RunF cx ops l s1 s2) : RunF cx ops (o :: l) s s2
theorem RunF.trace {cx : Cx} {ops : Array Oper} {l : List Oper} {s s' : DS} (h : RunF cx ops l s s') :
    ∃ σ : Nat → DS, σ 0 = s ∧ σ l.length = s' ∧ ∀ j o, l[j]? = some o → ∃ b x cs k, SF (fun _ _ _ => none) cx ops o (σ j) (σ (j + 1)) b x cs k := by
  induction h with
  | nil s => exact ⟨fun _ => s, rfl, rfl, fun j o hj => by simp at hj⟩
  | @cons o l s s1 s2 b x cs k h _ ih =>
    obtain ⟨σ, g0, g1, g2⟩ := ih
    refine ⟨fun j => match j with | 0 => s | j + 1 => σ j, rfl, g1, fun j o' hj => ?_⟩
    cases j with
    | zero => simp at hj; subst hj; simp only [g0]; exact ⟨b, x, cs, k, h⟩
    | succ j => exact g2 j o' (by simpa using hj)
theorem RunF.plan {cx : Cx} {ops : Array Oper} {e0 : Env} {H0 : Heap} {id0 : Nat} {s' : DS} (h : RunF cx ops ops.toList ⟨0, e0, H0, 0, id0, [], 0, [], [], .nil, []⟩ s') :
    ∃ σ B X C K, Plan (fun _ _ _ => none) cx ops e0 H0 id0 σ B X C K ∧ σ ops.size = s' := by
  obtain ⟨σ, g0, g1, g2⟩ := h.trace
  have hex : ∀ j, ∃ q : Nat × AV × List AV × Nat, ∀ o, ops[j]? = some o → SF (fun _ _ _ => none) cx ops o (σ j) (σ (j + 1)) q.1 q.2.1 q.2.2.1 q.2.2.2 := fun j => by
    cases ho : ops[j]? with
    | none => exact ⟨(0, .undef, [], 0), fun o hh => by cases hh⟩
    | some o =>
      obtain ⟨b, x, cs, k, hf⟩ := g2 j o (by simpa using ho)
      exact ⟨(b, x, cs, k), fun o' hh => by cases hh; exact hf⟩
  obtain ⟨q, hq⟩ := Classical.axiomOfChoice hex
  exact ⟨σ, fun j => (q j).1, fun j => (q j).2.1, fun j => (q j).2.2.1, fun j => (q j).2.2.2, ⟨g0, fun j o ho => hq j o ho⟩, by simpa using g1⟩
section
variable {cx : Cx} {ops : Array Oper} {e : Env} {H Hr : Heap} {R : AEx → Env → Heap → Prop} {k : List Fr}
theorem W_drawF (hN : CxOk cx) (hm : cx.P.follows .mixedOrders = true) {id r : Nat} {s' : DS} {Q : AEx → Env → Heap → Prop} (hd : RunF cx ops ops.toList ⟨0, e, H.more r, 0, H.nx, [], 0, [], [], .nil, []⟩ s') (hid : s'.id = H.nx + r) (h : Q .normal s'.e (landL (rest s'.ld s'.al) s'.H)) : W cx (.region id ops true) e H Q := fun ρ z pv w0 a w hS => by
  obtain ⟨σ, B, X, C, K, p, hσ⟩ := hd.plan
  subst hσ
  refine wp_mono (plan_draw hm hN r (fun f hf kf => ?_) p hS) fun ex a' w' hp => ?_
  · have := (p.ids ops.size (Nat.le_refl _)).2.2 f hf kf
    omega
  · obtain ⟨h1, ρ', z', h2, h3⟩ := hp
    exact ⟨.normal, _, _, ρ', z', h1, h2, h3, h⟩
def selS (b ld : Nat) : List FE → List FE
  | [] => []
  | ⟨i, id, cs⟩ :: al => cond (bit b i && !(bit ld i)) (⟨i, id, cs⟩ :: selS b ld al) (selS b ld al)
theorem sel_S (b ld : Nat) : ∀ al : List FE, sel b ld al = selS b ld al
  | [] => rfl
  | ⟨i, id, cs⟩ :: al => by
    have ih := sel_S b ld al
    unfold sel at ih
    simp only [sel, List.filter_cons, ih, selS]
    cases bit b i && !(bit ld i) <;> rfl
def restS (ld : Nat) : List FE → List FE
  | [] => []
  | ⟨i, id, cs⟩ :: al => cond (bit ld i) (restS ld al) (⟨i, id, cs⟩ :: restS ld al)
theorem rest_S (ld : Nat) : ∀ al : List FE, rest ld al = restS ld al
  | [] => rfl
  | ⟨i, id, cs⟩ :: al => by
    have ih := rest_S ld al
    unfold rest at ih
    simp only [rest, List.filter_cons, ih, restS]
    cases bit ld i <;> rfl
/-- What is quiet sees the same where it runs elsewhere. -/
def HsOk (cx : Cx) (b : Nat) (o : Oper) (e : Env) (x : AV) (al : List FE) : List HE → Prop
  | [] => True
  | ⟨i, H, ld⟩ :: hs => (bit b i = true ∨ aq cx e (landL (selS b ld al) H) o = some x) ∧ HsOk cx b o e x al hs
theorem HsOk.all {cx : Cx} {b : Nat} {o : Oper} {e : Env} {x : AV} {al : List FE} : ∀ {hs : List HE}, HsOk cx b o e x al hs → ∀ h ∈ hs, bit b h.i = true ∨ aq cx e (landL (sel b h.ld al) h.H) o = some x
  | [], _, h, hh => by cases hh
  | h :: hs, hk, h', hh => by
    rcases List.mem_cons.1 hh with rfl | hh
    · rw [sel_S]; exact hk.1
    · exact HsOk.all hk.2 h' hh
def QsOk (cx : Cx) (b : Nat) (H : Heap) (ld : Nat) (al : List FE) : List QE → Prop
  | [] => True
  | ⟨i, b', o, e, x⟩ :: qs => (bit b i = true ∨ aq cx e (landL (selS b' ld al) H) o = some x) ∧ QsOk cx b H ld al qs
theorem QsOk.all {cx : Cx} {b ld : Nat} {H : Heap} {al : List FE} : ∀ {qs : List QE}, QsOk cx b H ld al qs → ∀ q ∈ qs, bit b q.i = true ∨ aq cx q.e (landL (sel q.b ld al) H) q.o = some q.x
  | [], _, q, hh => by cases hh
  | q :: qs, hk, q', hh => by
    rcases List.mem_cons.1 hh with rfl | hh
    · rw [sel_S]; exact hk.1
    · exact QsOk.all hk.2 q' hh
def hsB (b : Nat) : List HE → Bool
  | [] => true
  | ⟨i, _, _⟩ :: hs => bit b i && hsB b hs
theorem HsOk.ord {cx : Cx} {b : Nat} {o : Oper} {e : Env} {x : AV} {al : List FE} : ∀ {hs : List HE}, hsB b hs = true → HsOk cx b o e x al hs
  | [], _ => trivial
  | ⟨i, H, ld⟩ :: hs, hk => by
    simp only [hsB, Bool.and_eq_true] at hk
    exact ⟨.inl hk.1, HsOk.ord hk.2⟩
def qsB (b : Nat) : List QE → Bool
  | [] => true
  | ⟨i, _, _, _, _⟩ :: qs => bit b i && qsB b qs
theorem QsOk.ord {cx : Cx} {b ld : Nat} {H : Heap} {al : List FE} : ∀ {qs : List QE}, qsB b qs = true → QsOk cx b H ld al qs
  | [], _ => trivial
  | ⟨i, b', o, e, x⟩ :: qs, hk => by
    simp only [qsB, Bool.and_eq_true] at hk
    exact ⟨.inl hk.1, QsOk.ord hk.2⟩
/-- The run of a region that draws, all its state spelt out. -/
structure ERun (cx : Cx) (ops : Array Oper) (sz : Nat) (l : List Oper) (i : Nat) (m : List (Nat × AV)) (H : Heap) (lm id : Nat) (al : List FE) (ld : Nat) (hs : List HE) (qs : List QE) (bs : T Nat) (rs : List RE) (mr : List (Nat × AV)) (Hr : Heap) (idr : Nat) : Prop where
  run : ∃ s', RunF cx ops l ⟨i, ⟨sz, T.of m⟩, H, lm, id, al, ld, hs, qs, bs, rs⟩ s' ∧ s'.e = ⟨sz, T.of mr⟩ ∧ landL (rest s'.ld s'.al) s'.H = Hr ∧ s'.id = idr
variable {sz i d lm id ld b idr : Nat} {m mr : List (Nat × AV)} {al : List FE} {hs : List HE} {qs : List QE} {bs : T Nat} {rs : List RE} {l : List Oper} {x : AV} {op : Op} {ty : TypeId} {pos : String} {af : Array Edge} {H' : Heap}
theorem E_nil (h : landL (restS ld al) H = Hr) : ERun cx ops sz [] i m H lm id al ld hs qs bs rs m Hr id := ⟨_, .nil _, rfl, by rw [rest_S]; exact h, rfl⟩
/-- A quiet operation. -/
theorem E_q (b i' : Nat) (hi : i + 1 = i') (hz : Nat.blt d sz = true) (hq : (isQ op && !(isCv op)) = true) (hb : bmask bs i af.toList 0 = some b) (hc : clash b (some d) (reads ops ⟨some d, op, ty, pos, af, none⟩) rs = true)
    (ha : sop cx (lookM m (reads ops ⟨some d, op, ty, pos, af, none⟩) []) (landL (selS b ld al) H) op = some (.val x (landL (selS b ld al) H))) (hk : HsOk cx b ⟨some d, op, ty, pos, af, none⟩ ⟨sz, T.of (lookM m (reads ops ⟨some d, op, ty, pos, af, none⟩) [])⟩ x al hs)
    (h : ERun cx ops sz l i' ((d, x) :: m) H lm id al ld hs (⟨i, b, ⟨some d, op, ty, pos, af, none⟩, ⟨sz, T.of (lookM m (reads ops ⟨some d, op, ty, pos, af, none⟩) [])⟩, x⟩ :: qs) (bs.set i b) (⟨i, some d, reads ops ⟨some d, op, ty, pos, af, none⟩⟩ :: rs) mr Hr idr) :
    ERun cx ops sz (⟨some d, op, ty, pos, af, none⟩ :: l) i m H lm id al ld hs qs bs rs mr Hr idr := by
  subst hi
  simp only [Bool.and_eq_true, Bool.not_eq_true'] at hq
  obtain ⟨s', h1, h2⟩ := h.run
  refine ⟨s', .cons b x [] 2 ?_ h1, h2⟩
  refine ⟨hb, hc, rfl, put_of hz x, rfl, rfl, .quiet rfl hq.1 ?_ (HsOk.all ?_) rfl rfl rfl rfl rfl rfl ?_⟩
  · simp only [look_of, sel_S]; exact aq_of hq.2 (sop_ok ha)
  · simp only [look_of]; exact hk
  · simp only [look_of]
/-- A new place. -/
theorem E_f {cs : List AV} (b i' id' : Nat) (hi : i + 1 = i') (hid : id + 1 = id') (hz : Nat.blt d sz = true) (_hq : isF op = true) (hb : bmask bs i af.toList 0 = some b) (hc : clash b (some d) (reads ops ⟨some d, op, ty, pos, af, none⟩) rs = true)
    (ha : aFl cx ⟨sz, T.of (lookM m (reads ops ⟨some d, op, ty, pos, af, none⟩) [])⟩ ⟨some d, op, ty, pos, af, none⟩ id = some (x, cs))
    (h : ERun cx ops sz l i' ((d, x) :: m) H lm id' (⟨i, id, cs⟩ :: al) ld hs qs (bs.set i b) (⟨i, some d, reads ops ⟨some d, op, ty, pos, af, none⟩⟩ :: rs) mr Hr idr) :
    ERun cx ops sz (⟨some d, op, ty, pos, af, none⟩ :: l) i m H lm id al ld hs qs bs rs mr Hr idr := by
  subst hi
  subst hid
  obtain ⟨s', h1, h2⟩ := h.run
  refine ⟨s', .cons b x cs 1 ?_ h1, h2⟩
  exact ⟨hb, hc, rfl, put_of hz x, rfl, rfl, .float rfl (by simp only [look_of]; exact ha) rfl rfl rfl rfl rfl rfl rfl⟩
/-- An operation that may turn the heap. -/
theorem E_l (b i' lm' ld' : Nat) (hi : i + 1 = i') (hlm : Nat.lor lm (Nat.shiftLeft 1 i) = lm') (hld : Nat.lor ld b = ld') (hz : Nat.blt d sz = true) (_hq : isQ op = false) (hb : bmask bs i af.toList 0 = some b) (hc : clash b (some d) (reads ops ⟨some d, op, ty, pos, af, none⟩) rs = true) (hm : Nat.beq (Nat.land lm b) lm = true)
    (ha : sop cx (lookM m (reads ops ⟨some d, op, ty, pos, af, none⟩) []) (landL (selS b ld al) H) op = some (.val x H')) (hk : QsOk cx b H' ld' al qs)
    (h : ERun cx ops sz l i' ((d, x) :: m) H' lm' id al ld' (⟨i, H, ld⟩ :: hs) qs (bs.set i b) (⟨i, some d, reads ops ⟨some d, op, ty, pos, af, none⟩⟩ :: rs) mr Hr idr) :
    ERun cx ops sz (⟨some d, op, ty, pos, af, none⟩ :: l) i m H lm id al ld hs qs bs rs mr Hr idr := by
  subst hi
  subst hlm; subst hld
  obtain ⟨s', h1, h2⟩ := h.run
  refine ⟨s', .cons b x [] 3 ?_ h1, h2⟩
  refine ⟨hb, hc, rfl, put_of hz x, rfl, rfl, .loud rfl hm ?_ hk.all rfl rfl rfl rfl rfl rfl⟩
  simp only [look_of, sel_S, SL, aop, sop_ok ha]
  exact ⟨trivial, trivial⟩
/-- A store. -/
theorem E_s (b i' lm' ld' : Nat) (hi : i + 1 = i') (hlm : Nat.lor lm (Nat.shiftLeft 1 i) = lm') (hld : Nat.lor ld b = ld') (_hq : isQ op = false) (hb : bmask bs i af.toList 0 = some b) (hc : clash b none (reads ops ⟨none, op, ty, pos, af, none⟩) rs = true) (hm : Nat.beq (Nat.land lm b) lm = true)
    (ha : sop cx (lookM m (reads ops ⟨none, op, ty, pos, af, none⟩) []) (landL (selS b ld al) H) op = some (.skip H')) (hk : QsOk cx b H' ld' al qs)
    (h : ERun cx ops sz l i' m H' lm' id al ld' (⟨i, H, ld⟩ :: hs) qs (bs.set i b) (⟨i, none, reads ops ⟨none, op, ty, pos, af, none⟩⟩ :: rs) mr Hr idr) :
    ERun cx ops sz (⟨none, op, ty, pos, af, none⟩ :: l) i m H lm id al ld hs qs bs rs mr Hr idr := by
  subst hi
  subst hlm; subst hld
  obtain ⟨s', h1, h2⟩ := h.run
  refine ⟨s', .cons b (.tuple []) [] 3 ?_ h1, h2⟩
  refine ⟨hb, hc, rfl, rfl, rfl, rfl, .loud rfl hm ?_ hk.all rfl rfl rfl rfl rfl rfl⟩
  simp only [look_of, sel_S, SL, aop, sop_ok ha]
  exact ⟨trivial, trivial⟩
/-- A call. -/
theorem E_c {f : FuncId} {args : List AV} (b i' lm' ld' : Nat) (hi : i + 1 = i') (hlm : Nat.lor lm (Nat.shiftLeft 1 i) = lm') (hld : Nat.lor ld b = ld') (hz : Nat.blt d sz = true) (_hq : isQ op = false) (hb : bmask bs i af.toList 0 = some b) (hc : clash b (some d) (reads ops ⟨some d, op, ty, pos, af, none⟩) rs = true) (hm : Nat.beq (Nat.land lm b) lm = true)
    (ha : sop cx (lookM m (reads ops ⟨some d, op, ty, pos, af, none⟩) []) (landL (selS b ld al) H) op = some (.enter f args)) (hs' : Ans cx f args (landL (selS b ld al) H) fun y K => y = x ∧ K = H') (hk : QsOk cx b H' ld' al qs)
    (h : ERun cx ops sz l i' ((d, x) :: m) H' lm' id al ld' (⟨i, H, ld⟩ :: hs) qs (bs.set i b) (⟨i, some d, reads ops ⟨some d, op, ty, pos, af, none⟩⟩ :: rs) mr Hr idr) :
    ERun cx ops sz (⟨some d, op, ty, pos, af, none⟩ :: l) i m H lm id al ld hs qs bs rs mr Hr idr := by
  subst hi
  subst hlm; subst hld
  obtain ⟨s', h1, h2⟩ := h.run
  refine ⟨s', .cons b x [] 3 ?_ h1, h2⟩
  refine ⟨hb, hc, rfl, put_of hz x, rfl, rfl, .loud rfl hm ?_ hk.all rfl rfl rfl rfl rfl rfl⟩
  simp only [look_of, sel_S, SL, aop, sop_ok ha]
  exact hs'
theorem G_drawF (hN : CxOk cx) (hm : cx.P.follows .mixedOrders = true) {id : Nat} {y : Code} (r : Nat) (h : ERun cx ops sz ops.toList 0 m (H.more r) 0 H.nx [] 0 [] [] .nil [] mr Hr (H.nx + r)) (hq : WG cx y sz mr Hr (Cn cx R k)) : WG cx (.seq (.region id ops true) y) sz m H (Cn cx R k) := ⟨by
  refine S_seq ?_
  obtain ⟨s', h1, h2, h3, h4⟩ := h.run
  refine W_drawF hN hm h1 h4 ?_
  rw [h2, h3]
  exact hq.w⟩
theorem G_drawF1 (hN : CxOk cx) (hm : cx.P.follows .mixedOrders = true) {id : Nat} (r : Nat) (h : ERun cx ops sz ops.toList 0 m (H.more r) 0 H.nx [] 0 [] [] .nil [] mr Hr (H.nx + r)) (hq : CG cx R k .normal sz mr Hr) : WG cx (.region id ops true) sz m H (Cn cx R k) := ⟨by
  obtain ⟨s', h1, h2, h3, h4⟩ := h.run
  refine W_drawF hN hm h1 h4 ?_
  rw [h2, h3]
  exact hq.c⟩
/-- A conversion. -/
theorem E_cv {s' t' : TypeId} {o : Operand} {v : AV} (b i' : Nat) (hi : i + 1 = i') (hz : Nat.blt d sz = true) (hb : bmask bs i af.toList 0 = some b) (hc : clash b (some d) (reads ops ⟨some d, .convert s' t' o, ty, pos, af, none⟩) rs = true)
    (hr : rd cx (lookM m (reads ops ⟨some d, .convert s' t' o, ty, pos, af, none⟩) []) o = some v) (ha : aConv cx.D cx.P (landL (selS b ld al) H) s' t' v = some x) (hk : HsOk cx b ⟨some d, .convert s' t' o, ty, pos, af, none⟩ ⟨sz, T.of (lookM m (reads ops ⟨some d, .convert s' t' o, ty, pos, af, none⟩) [])⟩ x al hs)
    (h : ERun cx ops sz l i' ((d, x) :: m) H lm id al ld hs (⟨i, b, ⟨some d, .convert s' t' o, ty, pos, af, none⟩, ⟨sz, T.of (lookM m (reads ops ⟨some d, .convert s' t' o, ty, pos, af, none⟩) [])⟩, x⟩ :: qs) (bs.set i b) (⟨i, some d, reads ops ⟨some d, .convert s' t' o, ty, pos, af, none⟩⟩ :: rs) mr Hr idr) :
    ERun cx ops sz (⟨some d, .convert s' t' o, ty, pos, af, none⟩ :: l) i m H lm id al ld hs qs bs rs mr Hr idr := by
  subst hi
  obtain ⟨s', h1, h2⟩ := h.run
  refine ⟨s', .cons b x [] 2 ?_ h1, h2⟩
  refine ⟨hb, hc, rfl, put_of hz x, rfl, rfl, .quiet rfl rfl ?_ (HsOk.all ?_) rfl rfl rfl rfl rfl rfl ?_⟩
  · simp only [look_of, sel_S, aq, rd_ok hr, ha]
  · simp only [look_of]; exact hk
  · simp only [look_of]
/-- A new row that floats. -/
theorem f_make {t : TypeId} {a b : Operand} {el : Nat} {k1 k2 : IntKind} {i j : Int} {inf : TypeInfo} {zs : List AV} {dd : Option Tmp} {g : Option (Nat × Bool)} {idn : Nat} (n c : Nat)
    (ha : rd cx m a = some (.int k1 i)) (hb : rd cx m b = some (.int k2 j)) (hu : cx.D.und t = some (.slice el)) (hi : cx.D.inf el = some inf) (hz : zeroOf cx.D el = some zs) (h1 : i = n) (h2 : j = c) (h3 : n ≤ c) (h4 : c ≤ 281474976710656) (h5 : inf.bytes * c ≤ 281474976710656) :
    aFl cx ⟨sz, T.of m⟩ ⟨dd, .makeSlice t a b, ty, pos, af, g⟩ idn = some (.slice idn 0 n c true inf.size, repl c zs) := by
  subst h1; subst h2
  have g1 : (0 : Int) ≤ (n : Int) ∧ (n : Int) ≤ (c : Int) ∧ (c : Int) ≤ 281474976710656 ∧ ((inf.bytes : Nat) : Int) * (c : Int) ≤ 281474976710656 := by
    refine ⟨by omega, by omega, by omega, ?_⟩
    have : ((inf.bytes * c : Nat) : Int) ≤ 281474976710656 := by omega
    simpa using this
  simp only [aFl, rd_ok ha, rd_ok hb, aMakeSlice, hu, hi, hz, g1, and_self, if_true, Int.toNat_natCast, newCells, Heap.alloc, T.get_set_same]
end
theorem putAt_eq : ∀ (xs cs : List AV) (i : Nat), i + xs.length ≤ cs.length → putAt cs i xs = cs.take i ++ xs ++ cs.drop (i + xs.length)
  | [], cs, i, _ => by simp [putAt]
  | x :: xs, cs, i, h => by
    simp only [List.length_cons] at h
    rw [putAt, putAt_eq xs (cs.set i x) (i + 1) (by simp; omega)]
    rw [List.take_set, List.drop_set, if_pos (by omega)]
    have e1 : (cs.take (i + 1)).set i x = cs.take i ++ [x] := by
      rw [List.take_succ_eq_append_getElem (by omega), List.set_append_right _ _ (by simp; omega)]
      have : i - (cs.take i).length = 0 := by simp; omega
      rw [this]
      rfl
    rw [e1, List.append_assoc, List.append_assoc, List.append_assoc]
    simp only [List.length_cons, List.cons_append, List.nil_append]
    rw [show i + 1 + xs.length = i + (xs.length + 1) by omega]
theorem allOne_u32 : ∀ l : List Nat, allOne (l.map u32) = true
  | [] => rfl
  | d :: l => by simp only [List.map_cons, allOne, allOne_u32 l, u32, AV.one]; rfl
section
variable {cx : Cx} {m : List (Nat × AV)} {H : Heap}
theorem g_append {a b : Operand} {t u : TypeId} {id off len cap es el mm : Nat} {ex : Bool} {v : AV} {dx : TypeDesc} {inf : TypeInfo} {zs news cs : List AV}
    (ha : rd cx m a = some (.slice id off len cap ex es)) (hb : rd cx m b = some v) (hu : cx.D.und t = some (.slice el)) (hx : cx.D.und u = some dx) (hd : srcD dx = true) (hi : cx.D.inf el = some inf) (hz : zeroOf cx.D el = some zs) (hs : srcCells H inf.size v = some (news, mm)) (he : Nat.beq es inf.size = true) (ho : allOne news = true) (hg : H.t.get id = some (.cells cs)) (h1 : len + mm ≤ cap) (h2 : off + (len + mm) * inf.size ≤ cs.length) :
    sop cx m H (.call ⟨.builtin .append, #[a, b], #[t, u]⟩) = some (.val (.slice id off (len + mm) cap ex es) (H.put id (.cells (putAt cs (off + len * inf.size) news)))) := by
  have e1 : Nat.ble (len + mm) cap = true := by rw [Nat.ble_eq]; exact h1
  have e2 : Nat.ble (off + (len + mm) * inf.size) cs.length = true := by rw [Nat.ble_eq]; exact h2
  simp only [sop, rds, ha, hb, aBuiltin, aAppend, hu, hx, hd, hi, hz, hs, cond_true, he, ho, Bool.and_self, hg, e1, e2, newR]
end
end Go.Eng
end
section
namespace Go.Eng
open Go.RowKit
def Heap.dels (H : Heap) : List Nat → Heap
  | [] => H
  | d :: ds => (H.drop d).dels ds
theorem dels_get : ∀ (ds : List Nat) (H : Heap) (j : Nat), (H.dels ds).t.get j = if j ∈ ds then none else H.t.get j
  | [], H, j => by simp [Heap.dels]
  | d :: ds, H, j => by
    simp only [Heap.dels, dels_get ds, Heap.drop, T.get_del, List.mem_cons]
    by_cases h1 : j ∈ ds <;> by_cases h2 : j = d <;> simp [h1, h2]
theorem dels_nx : ∀ (ds : List Nat) (H : Heap), (H.dels ds).nx = H.nx
  | [], _ => rfl
  | d :: ds, H => by simp only [Heap.dels, dels_nx ds]; rfl
theorem dels_e : ∀ (ds : List Nat) (H : Heap), (H.dels ds).e = H.e
  | [], _ => rfl
  | d :: ds, H => by simp only [Heap.dels, dels_e ds]; rfl
/-- 'x' with the cells of the places of 'ds' in place of their names. -/
inductive FZ (H : Heap) (ds : List Nat) : Bool → List AV → List AV → Prop
  | nil : FZ H ds true [] []
  | cons {x y : AV} {xs ys : List AV} : FZ H ds false [x] [y] → FZ H ds true xs ys → FZ H ds true (x :: xs) (y :: ys)
  | ptr {id off : Nat} {cs ys : List AV} : id ∈ ds → H.t.get id = some (.cells cs) → FZ H ds true cs ys → FZ H ds false [.ptr id off] [.iptr ys off]
  | slice {id off len cap es : Nat} {ex : Bool} {cs l ys : List AV} : id ∈ ds → H.t.get id = some (.cells cs) → seg cs off (len * es) = some l → FZ H ds true l ys → FZ H ds false [.slice id off len cap ex es] [.isl ys len]
  | same {x : AV} : FZ H ds false [x] [x]
  | agg {xs ys : List AV} : FZ H ds true xs ys → FZ H ds false [.agg xs] [.agg ys]
section
variable {cx : Cx} {H : Heap} {ρ : Pl} {z : Fz} {pv : Pv} {w0 w : World}
noncomputable def frozeDs (H : Heap) (ρ : Pl) (z : Fz) (ds : List Nat) (w : World) : Fz := fun b o => match z b o with
  | some v => some v
  | none => open Classical in if ∃ id ∈ ds, ∃ ob o' n, H.t.get id = some ob ∧ ρ id = some (b, o', n) then w.cell? ⟨b, o, none⟩ else none
theorem Rel.freezeDs (h : Rel H ρ z pv w0 w) (ds : List Nat) : Rel (H.dels ds) ρ (frozeDs H ρ z ds w) pv w0 w ∧ Ext ρ ρ z (frozeDs H ρ z ds w) := by
  have hX : Ext ρ ρ z (frozeDs H ρ z ds w) := ⟨fun _ _ k => k, fun b o v k => by simp only [frozeDs, k]⟩
  refine ⟨⟨h.below, fun b o v hz => ?_, fun id ob hg => ?_, fun id id' ob ob' p p' g1 g2 => ?_, fun id hid => h.fresh id (by rw [dels_nx] at hid; exact hid), fun b x hb => ?_, fun id e k he => h.ty id e k (by rw [dels_e] at he; exact he), fun id hr => by rw [dels_nx]; exact h.res id hr⟩, hX⟩
  · simp only [frozeDs] at hz
    split at hz
    · rename_i v' hv'
      cases hz
      exact h.fz b o v hv'
    · split at hz
      · exact hz
      · cases hz
  · rw [dels_get] at hg
    split at hg
    · cases hg
    · rename_i hn
      obtain ⟨b, o, n, k1, k2, k3, k4, k5⟩ := h.live id ob hg
      refine ⟨b, o, n, k1, k2, k3.mono hX rfl, fun o' => ?_, k5⟩
      simp only [frozeDs, k4]
      rw [if_neg]
      rintro ⟨id', hm, ob', o2, n2, g1, g2⟩
      have hne : id' ≠ id := fun hh => hn (hh ▸ hm)
      exact h.excl id' id ob' ob _ _ g1 hg hne g2 k1 rfl
  · rw [dels_get] at g1 g2
    split at g1
    · cases g1
    split at g2
    · cases g2
    exact h.excl id id' ob ob' p p' g1 g2
  · obtain ⟨k1, k2⟩ := h.keep b x hb
    refine ⟨k1, fun o => ?_⟩
    simp only [frozeDs, k2]
    rw [if_neg]
    rintro ⟨id', hm, ob', o2, n2, g1, g2⟩
    obtain ⟨b', o', n', k3, _, _, _, k4⟩ := h.live id' ob' g1
    rw [g2] at k3
    cases k3
    rw [k4] at hb
    cases hb
theorem Rel.cells_ds (h : Rel H ρ z pv w0 w) {ds : List Nat} {id b o n : Nat} {cs : List AV} (hm : id ∈ ds) (hg : H.t.get id = some (.cells cs)) (hp : ρ id = some (b, o, n)) (off k : Nat) (hk : ((cs.drop off).take k).length = k ∨ off = 0 ∧ k = cs.length) :
    ∃ vs, VRs ρ z ((cs.drop off).take k) vs ∧ ∀ (i : Nat) (v : Value), vs[i]? = some v → frozeDs H ρ z ds w b (o + off + i) = some v := by
  obtain ⟨hB, ⟨real, e, fz, h3, _, h4, h5⟩, h6, _⟩ := h.holds hg hp
  have hlen : ((cs.drop off).take k).length = k := by
    rcases hk with hk | ⟨rfl, rfl⟩
    · exact hk
    · simp
  have hin : ∀ (i : Nat) (x : AV), ((cs.drop off).take k)[i]? = some x → ∃ v, real[o + off + i]? = some v ∧ VR ρ z x v := fun i x hx => by
    rw [List.getElem?_take] at hx
    split at hx
    · rw [List.getElem?_drop] at hx
      obtain ⟨v, hv, hr⟩ := h5 _ x hx
      exact ⟨v, by rw [Nat.add_assoc]; exact hv, hr⟩
    · cases hx
  have hsz : k = 0 ∨ o + off + k ≤ real.size := by
    rcases Nat.eq_zero_or_pos k with h0 | h0
    · exact .inl h0
    · obtain ⟨v, hv, _⟩ := hin (k - 1) _ (List.getElem?_eq_getElem (by omega))
      have := (Array.getElem?_eq_some_iff.1 hv).1
      exact .inr (by omega)
  refine ⟨(real.toList.drop (o + off)).take k, VRs.of_at ?_ fun i x v hx hv => ?_, fun i v hv => ?_⟩
  · rw [hlen]
    rcases hsz with h0 | h0
    · subst h0; simp
    · simp; omega
  · obtain ⟨v', hv', hr⟩ := hin i x hx
    rw [List.getElem?_take] at hv
    split at hv
    · rw [List.getElem?_drop] at hv
      simp only [Array.getElem?_toList] at hv
      rw [hv'] at hv
      cases hv
      exact hr
    · cases hv
  · rw [List.getElem?_take] at hv
    split at hv
    · rw [List.getElem?_drop] at hv
      simp only [Array.getElem?_toList] at hv
      simp only [frozeDs, h6]
      rw [if_pos ⟨id, hm, _, o, n, hg, hp⟩]
      simp [World.cell?, h3, hv]
    · cases hv
theorem FZ.vrs (h : Rel H ρ z pv w0 w) {ds : List Nat} {k : Bool} {xs ys : List AV} (hf : FZ H ds k xs ys) : ∀ {vs : List Value}, VRs ρ z xs vs → VRs ρ (frozeDs H ρ z ds w) ys vs := by
  have hX := (h.freezeDs ds).2
  induction hf with
  | nil => intro vs hv; cases hv; exact .nil
  | cons _ _ ih1 ih2 =>
    intro vs hv
    cases hv with | cons _ v _ vs h1 h2 =>
    have := ih1 (.cons _ _ _ _ h1 .nil)
    cases this with | cons _ _ _ _ h3 _ => exact .cons _ _ _ _ h3 (ih2 h2)
  | @ptr id off cs ys hm hg _ ih =>
    intro vs hv
    cases hv with | cons _ v _ vs h1 h2 =>
    cases h2
    cases h1 with | ptr _ _ b o nn hp =>
    obtain ⟨us, k1, k2⟩ := h.cells_ds hm hg hp 0 cs.length (.inr ⟨rfl, rfl⟩)
    simp only [List.drop_zero, List.take_length, Nat.add_zero] at k1 k2
    exact .cons _ _ _ _ (.iptr ys off b o us (ih k1) k2) .nil
  | @slice id off len cap es ex cs l ys hm hg hq _ ih =>
    intro vs hv
    cases hv with | cons _ v _ vs h1 h2 =>
    cases h2
    obtain ⟨hl1, hl2⟩ := seg_some hq
    cases h1 with | slice _ _ _ _ _ _ b o nn rc A hp q1 q2 q3 q5 q6 =>
    refine .cons _ _ _ _ ?_ .nil
    rcases Nat.eq_zero_or_pos rc with h0 | h0
    · obtain rfl : len = 0 := by omega
      have hln : l = [] := List.eq_nil_of_length_eq_zero (by simpa using hl2)
      subst hln
      subst h0
      have : ys = [] := List.eq_nil_of_length_eq_zero (by simpa using (ih .nil).length.symm)
      subst this
      exact .isl0 _ _
    · have hA := q5 h0
      subst hA
      obtain ⟨us, k1, k2⟩ := h.cells_ds hm hg hp off (len * es) (.inl (by rw [← hl1]; exact hl2))
      rw [← hl1] at k1
      exact .isl ys len b (o + off) rc us (ih k1) k2 (by omega)
  | same => exact fun hv => hv.mono hX
  | agg _ ih =>
    intro vs hv
    cases hv with | cons _ v _ vs h1 h2 =>
    cases h2
    cases h1 with | agg _ us hs => exact .cons _ _ _ _ (.agg _ _ (ih hs)) .nil
theorem GlOk.ext {ρ' : Pl} {z' : Fz} (x : Ext ρ ρ' z z') (h : GlOk ρ z cx.gl) : GlOk ρ' z' cx.gl := h.mono x
/-- At a call places may be made immutable that are not written any more. -/
theorem Ans_freeze {f : FuncId} {args args' : List AV} {Q : AV → Heap → Prop} (ds : List Nat) (hf : FZ H ds true args args') (h : Ans cx f args' (H.dels ds) Q) : Ans cx f args H Q := fun ρ z pv w0 w vs hR hG hV => by
  obtain ⟨k1, k2⟩ := hR.freezeDs ds
  refine (h ρ _ pv w0 w vs k1 (hG.mono k2) (hf.vrs hR hV)).mono fun en w' hq => ?_
  obtain ⟨u, ρ', z', x, H', h1, h2, h3, h4, h5⟩ := hq
  exact ⟨u, ρ', z', x, H', h1, h2, k2.trans h3, h4, h5⟩
/-- Temporaries may be made immutable. -/
def FM (H : Heap) (ds : List Nat) (m : List (Nat × AV)) : List (Nat × AV) → Prop
  | [] => True
  | (k, y) :: l => (∃ x u, lq m k = some x ∧ FZ H ds false [x] [u] ∧ Imp u y) ∧ FM H ds m l
theorem FM_get {ds : List Nat} {m : List (Nat × AV)} : ∀ {l : List (Nat × AV)}, FM H ds m l → ∀ j y, lk l j = some y → ∃ x u, lq m j = some x ∧ FZ H ds false [x] [u] ∧ Imp u y
  | [], _, j, y, h => by simp [lk] at h
  | (k, x) :: l, hh, j, y, h => by
    simp only [lk] at h
    split at h
    · rename_i hj
      cases h
      subst hj
      exact hh.1
    · exact FM_get hh.2 j y h
theorem G_freeze {c : Code} {sz : Nat} {m : List (Nat × AV)} {Q : AEx → Env → Heap → Prop} (ds : List Nat) (l : List (Nat × AV)) (h : FM H ds m l) (hw : WG cx c sz l (H.dels ds) Q) : WG cx c sz m H Q := ⟨fun ρ z pv w0 a w hS => by
  obtain ⟨k1, k2⟩ := hS.rel.freezeDs ds
  refine wp_mono (hw.w ρ _ pv w0 a w ⟨k1, ⟨hS.env.size, hS.env.defers, fun i y hy => ?_⟩, hS.gl.mono k2⟩) fun _ _ _ hp => hp.more k2
  rw [T.of_get, lq_lk] at hy
  obtain ⟨x, u, g1, g2, g3⟩ := FM_get h i y hy
  obtain ⟨v, g4, g5⟩ := hS.env.get i x (by rw [T.of_get]; exact g1)
  have := g2.vrs hS.rel (.cons _ _ _ _ g5 .nil)
  cases this with | cons _ _ _ _ g6 _ => exact ⟨v, g4, g3 _ _ _ g6⟩⟩
end
end Go.Eng
end
section
namespace Go.Eng
open Go Go.RowKit Go.Proofs
set_option maxHeartbeats 1000000
set_option maxRecDepth 10000
section
variable {X : ExtF} {Y : LiesF}
theorem nat_of_pre (hN : CxOk (cz X Y)) {L l : List Nat} (hl : Dg l) (hL : L.take l.length = l) {id n cap : Nat} {ex : Bool} {H : Heap} (hg : H.t.get id = some (.cells (L.map u32))) (hn : n = l.length) (hc : n ≤ cap) (hb : l.length ≤ 281474976710656) :
    Ans (cz X Y) F.nat_of [.slice id 0 n cap ex 1] H fun x K => x = .ptr H.nx 0 ∧ K = ofK H id (digs (val l)).length cap ex := by
  subst hn
  have hLl : l.length ≤ L.length := by
    have := congrArg List.length hL
    simp at this
    omega
  have hLg : ∀ j, j < l.length → L.getD (0 + j) 0 = l.getD j 0 := fun j hj => by
    conv => rhs; rw [← hL]
    rw [List.getD_eq_getElem?_getD, List.getD_eq_getElem?_getD, List.getElem?_take, if_pos (by omega), Nat.zero_add]
  refine G_body hN (fn := B.nat_of) (sz := 23) rfl rfl rfl rfl rfl ?_
  refine G_run hN (G_v rfl rfl <| G_nil) ?_
  refine G_run hN (G_v rfl rfl <| G_v rfl rfl <| G_v rfl rfl <| G_nil) ?_
  refine G_mid (α := Unit) (fun _ => True) (fun _ => [(0, .slice id 0 l.length cap ex 1), (3, .int .i64 ((digs (val l)).length : Nat))]) (fun _ => H) (G_block ?_) fun _ _ => ?_
  · refine G_loop (α := Nat) (fun k => (digs (val l)).length ≤ k ∧ k ≤ l.length) (fun k => k) (fun k => [(0, .slice id 0 l.length cap ex 1), (3, .int .i64 (k : Nat))]) (fun _ => H) l.length ⟨(digs_len_le hl).1, Nat.le_refl _⟩ (M1 rfl <| M1 rfl M0) (Heap.Sub.refl H) fun k ⟨i1, i2⟩ => ?_
    obtain ⟨p1, p2⟩ := down_stop hl i1 i2
    refine G_seq ?_
    rcases Nat.eq_zero_or_pos k with hk | hk
    · refine G_run hN (G_v rfl rfl <| G_v rfl (g_bool (b := false) rfl (by simp; omega)) <| G_v rfl rfl <| G_n rfl rfl rfl rfl <| G_n rfl rfl rfl rfl <| G_n rfl rfl rfl rfl <| G_n rfl rfl rfl rfl <| G_n rfl rfl rfl rfl <| G_n rfl rfl rfl rfl <| G_v rfl rfl <| G_nil) ?_
      refine G_if0 rfl ?_
      refine G_exit (G_pops (G_leave (G_popx ?_)))
      exact G_done () trivial (M1 rfl <| M2 rfl (by rw [p2 (by omega)]) M0) (Heap.Sub.refl H)
    · have hd : l.getD (k - 1) 0 < BB := hl.get (k - 1)
      refine G_run hN (G_v rfl rfl <| G_v rfl (g_bool (b := true) rfl (by simp; omega)) <| G_v rfl rfl <| G_g rfl rfl <| G_v rfl rfl <| G_g rfl rfl <| G_v rfl rfl <| G_g rfl rfl <| G_v rfl (g_int (b := ((k - 1 : Nat) : Int)) rfl (by rw [IntWalk.i64_in _ (by omega)]; omega)) <|
        G_g rfl rfl <| G_v rfl (g_idx1 (k - 1) rfl rfl rfl rfl rfl rfl (by omega)) <| G_g rfl rfl <| G_v rfl (g_to (g_loadu (l := L) rfl hg rfl rfl rfl (by omega)) (y := .int .u32 (l.getD (k - 1) 0 : Nat)) (by rw [hLg _ (by omega)])) <| G_g rfl rfl <| G_v rfl rfl <| G_v rfl rfl <| G_nil) ?_
      refine G_if rfl (fun hc => ?_) (fun hc => ?_)
      · have h0 : l.getD (k - 1) 0 = 0 := by simpa using hc
        refine G_skip (G_pop (G_block ?_))
        refine G_run1 hN (G_v rfl rfl <| G_v rfl rfl <| G_v rfl rfl <| G_nil) ?_
        refine G_popb (G_again (k - 1) ⟨p1 ⟨hk, h0⟩, by omega⟩ (by omega) (M1 rfl <| M2 rfl (by rw [IntWalk.i64_in _ (by omega)]; congr 1; omega) M0) (Heap.Sub.refl H))
      · have h0 : ¬ l.getD (k - 1) 0 = 0 := by simpa using hc
        refine G_exit (G_pops (G_leave (G_popx ?_)))
        exact G_done () trivial (M1 rfl <| M2 rfl (by rw [p2 (by omega)]) M0) (Heap.Sub.refl H)
  · have := (digs_len_le hl).1
    refine G_run hN (G_v rfl rfl <| G_v rfl rfl <| G_v rfl (g_cut (digs (val l)).length rfl rfl rfl rfl rfl rfl (by omega)) <| G_v rfl rfl <| G_v rfl rfl <| G_v rfl rfl <| G_nil) ?_
    exact G_ret (G_end rfl ⟨rfl, rfl⟩)
end
end Go.Eng
end
section
namespace Go.Eng
open Go Go.RowKit Go.Proofs
set_option maxHeartbeats 4000000
set_option maxRecDepth 10000
section
variable {X : ExtF} {Y : LiesF}
theorem nat_up_tree (hN : CxOk (cz X Y)) (a k : Nat) (ha : Sm a) (hk : k ≤ 35184372088832) (H : Heap) : Ans (cz X Y) F.nat_Nat_up [numTree a, .int .i64 k] H fun x K => x = numTree (a * 2 ^ k) ∧ K = H :=
  Ans_imp (.cons (Imp.num' a) (.cons (Imp.refl _) .nil)) (Ans_to (Imp.num _) (nat_Nat_up_ans hN a k ha hk H))
theorem nat_up_tree' (hN : CxOk (cz X Y)) (a k : Nat) (ha : Sm a) (hk : k ≤ 35184372088832) (H : Heap) : Ans (cz X Y) F.nat_Nat_up [.num a, .int .i64 k] H fun x K => x = numTree (a * 2 ^ k) ∧ K = H :=
  Ans_to (Imp.num _) (nat_Nat_up_ans hN a k ha hk H)
theorem nat_Div_less (hN : CxOk (cz X Y)) (a b : Nat) (ha : Sm a) (hb : Sm b) (hab : a < b) (H : Heap) : Ans (cz X Y) F.nat_Nat_Div [.num a, .num b] H fun x K => x = .tuple [.num 0, .num a, .bool true] ∧ K = H := by
  have ha' := ha
  unfold Sm at ha'
  have hl : 0 < (digs b).length := (digs_last (show 0 < b by omega)).2
  refine G_body hN (fn := B.nat_Nat_Div) (sz := 119) rfl rfl rfl rfl rfl ?_
  refine G_run hN (G_v rfl rfl <| G_v rfl rfl <| G_v rfl rfl <| G_nil) ?_
  refine G_run hN (G_v rfl rfl <| G_c rfl rfl (nat_Nat_digits_ans hN b _) <| G_v rfl rfl <| G_nil) ?_
  refine G_seq (G_block ?_)
  refine G_run hN (G_v rfl rfl <| G_v rfl rfl <| G_v rfl (g_bool (b := false) rfl (by rw [beq_eq_false_iff_ne]; omega)) <| G_v rfl rfl <| G_nil) ?_
  refine G_if0 rfl ?_
  refine G_run hN (G_v rfl rfl <| G_v rfl rfl <| G_c rfl rfl (nat_Nat_Cmp_ans hN a b ha hb _) <| G_v rfl (g_bool (b := true) rfl (by rw [if_pos hab]; rfl)) <| G_v rfl rfl <| G_nil) ?_
  refine G_if1 rfl ?_
  refine G_run hN (G_c rfl rfl (nat_of_nil hN _) <| G_v rfl rfl <| G_c rfl rfl (nat_Nat_digits_ans hN a _) <| G_c rfl rfl (nat_of_isl hN (digs_dg a) rfl (by omega) _) <| G_v rfl rfl <| G_v rfl rfl <| G_v rfl rfl <| G_nil) ?_
  exact G_ret (G_end rfl ⟨by rw [val_digs]; rfl, rfl⟩)
theorem aq_cv {cx : Cx} {m : List (Nat × AV)} {sz : Nat} {H : Heap} {s d ty : TypeId} {o : Operand} {v x : AV} {dd : Option Tmp} {pos : String} {af : Array Edge} {g : Option (Nat × Bool)} (hr : rd cx m o = some v) (ha : aConv cx.D cx.P H s d v = some x) : aq cx ⟨sz, T.of m⟩ H ⟨dd, .convert s d o, ty, pos, af, g⟩ = some x := by
  simp only [aq, rd_ok hr, ha]
theorem nat_Div_short (hN : CxOk (cz X Y)) (a b : Nat) (ha : Sm a) (hb : Sm b) (hab : b ≤ a) (hb0 : 0 < b) (h1 : (digs b).length = 1) (H : Heap) : Ans (cz X Y) F.nat_Nat_Div [.num a, .num b] H fun x K => x = .tuple [.num (a / b), .num (a % b), .bool true] ∧ K = H := by
  refine Ans_free gl0_free (.tuple (.cons (Imp.num' (a / b)) (.cons (Imp.refl (.num (a % b))) (.cons (Imp.refl _) .nil)))) rfl ?_ H
  have ha' := ha
  unfold Sm at ha'
  have hbb : (digs b).getD 0 0 = b := by
    have := val_take_succ (digs b) 0
    rw [show 0 + 1 = (digs b).length by omega, List.take_length, val_digs] at this
    simp [val] at this
    rw [List.getD_eq_getElem?_getD]; exact this.symm
  have hbB : b < 4294967296 := by have : (digs b).getD 0 0 < BB := (digs_dg b).get 0; rw [hbb] at this; exact this
  refine G_body hN (fn := B.nat_Nat_Div) (sz := 119) rfl rfl rfl rfl rfl ?_
  refine G_run hN (G_v rfl rfl <| G_v rfl rfl <| G_v rfl rfl <| G_nil) ?_
  refine G_run hN (G_v rfl rfl <| G_c rfl rfl (nat_Nat_digits_ans hN b _) <| G_v rfl rfl <| G_nil) ?_
  refine G_seq (G_block ?_)
  refine G_run hN (G_v rfl rfl <| G_v rfl rfl <| G_v rfl (g_bool (b := false) rfl (by rw [beq_eq_false_iff_ne]; omega)) <| G_v rfl rfl <| G_nil) ?_
  refine G_if0 rfl ?_
  refine G_run hN (G_v rfl rfl <| G_v rfl rfl <| G_c rfl rfl (nat_Nat_Cmp_ans hN a b ha hb _) <| G_v rfl (g_bool (b := false) rfl (by rw [if_neg (by omega)]; split <;> rfl)) <| G_v rfl rfl <| G_nil) ?_
  refine G_if0 rfl ?_
  refine G_run hN (G_v rfl rfl <| G_v rfl rfl <| G_v rfl (g_bool (b := true) rfl (by rw [h1]; rfl)) <| G_v rfl rfl <| G_nil) ?_
  refine G_if1 rfl ?_
  have hsh := fun H => nat_short_isl hN (X := X) (Y := Y) (digs_dg a) (by omega) b hb0 (by simp only [BB]; omega) H
  rw [val_digs] at hsh
  refine G_drawF hN mixed 0 (E_q 0 1 rfl rfl rfl rfl rfl rfl (.ord rfl) <| E_c 1 2 2 1 rfl rfl rfl rfl rfl rfl rfl rfl rfl (nat_Nat_digits_ans hN a _) (.ord rfl) <| E_q 0 3 rfl rfl rfl rfl rfl rfl ⟨.inr rfl, trivial⟩ <|
    E_q 4 4 rfl rfl rfl rfl rfl (g_idxi1 0 rfl rfl rfl rfl rfl rfl (by omega)) ⟨.inr (aq_of rfl (sop_ok (g_idxi1 0 rfl rfl rfl rfl rfl rfl (by omega)))), trivial⟩ <| E_q 12 5 rfl rfl rfl rfl rfl (g_to (g_loadi rfl rfl rfl rfl (by omega)) (y := .int .u32 (b : Nat)) (by rw [hbb])) ⟨.inr (aq_of rfl (sop_ok (g_to (g_loadi rfl rfl rfl rfl (by omega)) (y := .int .u32 (b : Nat)) (by rw [hbb])))), trivial⟩ <|
    E_cv 28 6 rfl rfl rfl rfl rfl (aconv_int (n' := (b : Nat)) rfl rfl (w64 rfl (by omega))) ⟨.inr (aq_cv rfl (aconv_int (n' := (b : Nat)) rfl rfl (w64 rfl (by omega)))), trivial⟩ <| E_c 63 7 66 63 rfl rfl rfl rfl rfl rfl rfl rfl rfl (hsh _) (.ord rfl) <|
    E_q 127 8 rfl rfl rfl rfl rfl rfl (.ord rfl) <| E_q 255 9 rfl rfl rfl rfl rfl rfl (.ord rfl) <| E_q 255 10 rfl rfl rfl rfl rfl rfl (.ord rfl) <| E_q 511 11 rfl rfl rfl rfl rfl rfl (.ord rfl) <| E_q 2047 12 rfl rfl rfl rfl rfl rfl (.ord rfl) <| E_nil rfl) ?_
  have dq := pdig_dg (a / b) (digs a).length
  have hlq : (pdig (a / b) (digs a).length).length = (digs a).length := pdig_len (by exact Nat.lt_of_le_of_lt (Nat.div_le_self _ _) (lt_pow_len a))
  have hm : a % b < BB * BB := Nat.lt_of_lt_of_le (Nat.mod_lt _ hb0) (by simp only [BB]; omega)
  refine G_run hN (G_v rfl rfl <| G_c rfl rfl (nat_of_ans hN dq rfl hlq.symm (Nat.le_refl _) (by omega)) <| G_v rfl rfl <| G_c rfl rfl (nat_Of_ans hN (a % b) hm _) <| G_v rfl rfl <| G_v rfl rfl <| G_v rfl rfl <| G_nil) ?_
  refine G_ret (G_end rfl (Frz.tuple (.cons (frz_ofK rfl rfl dq (pdig_val _ _) _) (.cons (.num _) (.cons (.bool _) .nil)))))
end
end Go.Eng
end
