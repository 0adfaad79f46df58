import Derived.Test.YtekfcbeballilaaGreatDoorPc
section
namespace Go.LP
/-- The sum of the first n. -/
def sm : Nat → (Nat → Rat) → Rat
  | 0, _ => 0
  | n + 1, f => sm n f + f n
/-- What the variables of the rows are by those of the columns. -/
structure Tb where
  rows : Nat → Nat
  cols : Nat → Nat
  m : Nat → Nat → Rat
section
variable {nr nc at_ col : Nat} {t : Tb}
end
end Go.LP
end
section
namespace Go.Eng
open Go Go.RowKit Go.Proofs
open Go.LP (sm)
set_option maxHeartbeats 4000000
set_option maxRecDepth 10000
instance : Inhabited ColS := ⟨⟨[], [], [], [], false⟩⟩
instance : Inhabited RowS := ⟨⟨[], 0, [], [], []⟩⟩
theorem getD_at {α : Type} [Inhabited α] {l : List α} {i : Nat} {x : α} (h : l[i]? = some x) : l.getD i default = x := by
  rw [List.getD_eq_getElem?_getD, h]; rfl
theorem sm_bt {f : Nat → Rat} {k : Nat} : ∀ {n : Nat}, (∀ i, i < n → Bt k (f i)) → Bt (1 + (k + 1) * n) (sm n f)
  | 0, _ => Bt.zero
  | n + 1, h => ((sm_bt (n := n) fun i hi => h i (by omega)).add (h n (by omega))).le (by rw [Nat.mul_add]; omega)
/-- The least of a number times a column. -/
def leastR (c : ColS) (d : Rat) : Option Rat := if d = 0 then some 0 else if d < 0 then (if c.up = [] then none else some (d * qv c.up)) else if c.low = [] then none else some (d * qv c.low)
def optAV (o : Option Rat) : AV := match o with
  | some q => .tuple [.frac q, .bool true]
  | none => .tuple [.nilp, .bool false]
theorem prob_least_ans (c : ColS) (hc : c.Sh) (d : Rat) (hd : Hq d) (H : Heap) : Ans cs0 F.prob_least [.agg c.av, .frac d] H fun x K => x = optAV (leastR c d) ∧ K = H := by
  have hN := cz_ok
  obtain ⟨name, low, up, cost, int⟩ := c
  obtain ⟨hl, hu, _⟩ := hc
  simp only at hl hu
  have hsgn := fun H => frac_Frac_Sign_ans (X := ext0) (Y := lies0) hN (.frac d) hd.n.sm H
  have rl := prob_read_ans low hl
  have ru := prob_read_ans up hu
  have ml := fun H => frac_Frac_Mul_ans (X := ext0) (Y := lies0) hN (.frac d) (rdAV_q low) hd (qv_hq low) H
  have mu := fun H => frac_Frac_Mul_ans (X := ext0) (Y := lies0) hN (.frac d) (rdAV_q up) hd (qv_hq up) H
  unfold leastR
  refine Ans_free gl0_free (Imp.refl _) rfl ?_ H
  refine G_body hN (fn := B.prob_least) (sz := 25) rfl rfl rfl rfl rfl ?_
  refine K_run hN ?_; (repeat (first | refine K_v rfl rfl ?_ | refine K_g rfl rfl ?_ | refine K_n rfl rfl rfl rfl ?_ | refine K_n' rfl rfl rfl ?_ | refine K_s rfl ?_)); refine K_nil ?_
  refine K_run hN ?_; (repeat (first | refine K_v rfl rfl ?_ | refine K_g rfl rfl ?_ | refine K_n rfl rfl rfl rfl ?_ | refine K_n' rfl rfl rfl ?_ | refine K_s rfl ?_)); refine K_nil ?_
  refine G_seq ?_
  simp only
  by_cases h1 : d = 0
  · have e : sgnR d = 0 := by rw [h1]; rfl
    rw [e] at hsgn
    rw [if_pos h1]
    refine K_run hN ?_; (repeat (first | refine K_v rfl rfl ?_ | refine K_g rfl rfl ?_ | refine K_n rfl rfl rfl rfl ?_ | refine K_n' rfl rfl rfl ?_ | refine K_s rfl ?_ | refine K_c rfl rfl (hsgn _) ?_)); refine K_nil ?_
    refine G_if0 rfl (G_skip (G_pop ?_))
    refine G_seq ?_
    refine K_run hN ?_; (repeat (first | refine K_v rfl rfl ?_ | refine K_g rfl rfl ?_ | refine K_n rfl rfl rfl rfl ?_ | refine K_n' rfl rfl rfl ?_ | refine K_s rfl ?_ | refine K_c rfl rfl (hsgn _) ?_)); refine K_nil ?_
    refine G_if0 rfl (G_skip (G_pop ?_))
    refine K_run hN ?_; (repeat (first | refine K_v rfl rfl ?_ | refine K_g rfl rfl ?_ | refine K_n rfl rfl rfl rfl ?_ | refine K_n' rfl rfl rfl ?_ | refine K_s rfl ?_ | refine K_c rfl rfl (rl _) ?_ | refine K_c rfl rfl (ml _) ?_)); refine K_nil ?_
    refine G_ret (G_end rfl ?_)
    rw [h1, Rat.zero_mul]
    exact ⟨10, rfl⟩
  · rw [if_neg h1]
    by_cases h2 : d < 0
    · have e : sgnR d = -1 := by rw [sgnR, if_pos h2]
      rw [e] at hsgn
      rw [if_pos h2]
      refine K_run hN ?_; (repeat (first | refine K_v rfl rfl ?_ | refine K_g rfl rfl ?_ | refine K_n rfl rfl rfl rfl ?_ | refine K_n' rfl rfl rfl ?_ | refine K_s rfl ?_ | refine K_c rfl rfl (hsgn _) ?_)); refine K_nil ?_
      refine G_if1 rfl ?_
      refine K_run1 hN ?_; (repeat (first | refine K_v rfl rfl ?_ | refine K_g rfl rfl ?_ | refine K_n rfl rfl rfl rfl ?_ | refine K_n' rfl rfl rfl ?_ | refine K_s rfl ?_)); refine K_nil ?_
      refine G_pop (G_seq ?_)
      cases up with
      | nil =>
        refine K_run hN ?_; (repeat (first | refine K_v rfl rfl ?_ | refine K_g rfl rfl ?_ | refine K_n rfl rfl rfl rfl ?_ | refine K_n' rfl rfl rfl ?_ | refine K_s rfl ?_ | refine K_c rfl rfl (hsgn _) ?_)); refine K_nil ?_
        refine G_if1 rfl ?_
        refine K_run hN ?_; (repeat (first | refine K_v rfl rfl ?_ | refine K_g rfl rfl ?_ | refine K_n rfl rfl rfl rfl ?_ | refine K_n' rfl rfl rfl ?_ | refine K_s rfl ?_)); refine K_nil ?_
        exact G_ret (G_end rfl ⟨10, rfl⟩)
      | cons a s =>
        refine K_run hN ?_; (repeat (first | refine K_v rfl rfl ?_ | refine K_g rfl rfl ?_ | refine K_n rfl rfl rfl rfl ?_ | refine K_n' rfl rfl rfl ?_ | refine K_s rfl ?_ | refine K_c rfl rfl (hsgn _) ?_)); refine K_nil ?_
        refine G_if0 rfl (G_skip (G_pop ?_))
        refine K_run hN ?_; (repeat (first | refine K_v rfl rfl ?_ | refine K_g rfl rfl ?_ | refine K_n rfl rfl rfl rfl ?_ | refine K_n' rfl rfl rfl ?_ | refine K_s rfl ?_ | refine K_c rfl rfl (ru _) ?_ | refine K_c rfl rfl (mu _) ?_)); refine K_nil ?_
        exact G_ret (G_end rfl ⟨10, by rw [if_neg (by simp)]; rfl⟩)
    · have e : sgnR d = 1 := by rw [sgnR, if_neg h2, if_neg h1]
      rw [e] at hsgn
      rw [if_neg h2]
      refine K_run hN ?_; (repeat (first | refine K_v rfl rfl ?_ | refine K_g rfl rfl ?_ | refine K_n rfl rfl rfl rfl ?_ | refine K_n' rfl rfl rfl ?_ | refine K_s rfl ?_ | refine K_c rfl rfl (hsgn _) ?_)); refine K_nil ?_
      refine G_if0 rfl (G_skip (G_pop ?_))
      refine G_seq ?_
      cases low with
      | nil =>
        refine K_run hN ?_; (repeat (first | refine K_v rfl rfl ?_ | refine K_g rfl rfl ?_ | refine K_n rfl rfl rfl rfl ?_ | refine K_n' rfl rfl rfl ?_ | refine K_s rfl ?_ | refine K_c rfl rfl (hsgn _) ?_)); refine K_nil ?_
        refine G_if1 rfl ?_
        refine K_run hN ?_; (repeat (first | refine K_v rfl rfl ?_ | refine K_g rfl rfl ?_ | refine K_n rfl rfl rfl rfl ?_ | refine K_n' rfl rfl rfl ?_ | refine K_s rfl ?_)); refine K_nil ?_
        exact G_ret (G_end rfl ⟨10, rfl⟩)
      | cons a s =>
        refine K_run hN ?_; (repeat (first | refine K_v rfl rfl ?_ | refine K_g rfl rfl ?_ | refine K_n rfl rfl rfl rfl ?_ | refine K_n' rfl rfl rfl ?_ | refine K_s rfl ?_ | refine K_c rfl rfl (hsgn _) ?_)); refine K_nil ?_
        refine G_if0 rfl (G_skip (G_pop ?_))
        refine K_run hN ?_; (repeat (first | refine K_v rfl rfl ?_ | refine K_g rfl rfl ?_ | refine K_n rfl rfl rfl rfl ?_ | refine K_n' rfl rfl rfl ?_ | refine K_s rfl ?_ | refine K_c rfl rfl (rl _) ?_ | refine K_c rfl rfl (ml _) ?_)); refine K_nil ?_
        exact G_ret (G_end rfl ⟨10, by rw [if_neg (by simp)]; rfl⟩)
theorem mem_qv_bt {x : List (List UInt8)} : ∀ q ∈ x.map qv, Bt 6700 q := fun q hq => by
  obtain ⟨s, _, rfl⟩ := List.mem_map.1 hq
  exact qv_bt s
end Go.Eng
end
section
namespace Go.Eng
open Go.RowKit
theorem last_split {α : Type} {a : α} : ∀ {l : List α}, l.getLast? = some a → l = l.dropLast ++ [a]
  | [], h => by cases h
  | [b], h => by cases h; rfl
  | b :: c :: l, h => by
    have := last_split (l := c :: l) (by simpa using h)
    rw [List.dropLast_cons_cons, List.cons_append, ← this]
/-- What can be seen of the state at a region's end from its operations. -/
def endD (ops : Array Oper) : List Oper → Nat → Nat → T Nat → List RE → Option (Nat × Nat × T Nat × List RE)
  | [], i, lm, bs, rs => some (i, lm, bs, rs)
  | o :: l, i, lm, bs, rs => match bmask bs i o.after.toList 0 with
    | none => none
    | some b => cond (clash b o.dst (reads ops o) rs && !(isF o.op) && (isQ o.op || Nat.beq (Nat.land lm b) lm))
        (endD ops l (i + 1) (cond (isQ o.op) lm (Nat.lor lm (Nat.shiftLeft 1 i))) (bs.set i b) (⟨i, o.dst, reads ops o⟩ :: rs)) none
theorem PRun.runE {cx : Cx} {ops : Array Oper} {H : Heap} {id : Nat} {l : List Oper} {e e' : Env} (h : PRun cx ops H l e e') : ∀ (i lm lm' : Nat) (bs : T Nat) (rs : List RE) (ld : Nat) (hs : List HE) (qs : List QE) (r : Nat × Nat × T Nat × List RE), endD ops l i lm' bs rs = some r → Nat.land lm lm' = lm → (∀ h ∈ hs, h.H = H) → (∀ q ∈ qs, aq cx q.e H q.o = some q.x ∧ q.i < i) →
    ∃ s', RunP cx ops l ⟨i, e, H, lm, id, [], ld, hs, qs, bs, rs⟩ s' ∧ s'.e = e' ∧ s'.H = H ∧ s'.al = [] ∧ s'.id = id ∧ s'.i = r.1 ∧ Nat.land s'.lm r.2.1 = s'.lm ∧ s'.bs = r.2.2.1 ∧ s'.rs = r.2.2.2 ∧ ∀ q ∈ s'.qs, q.i < r.1 := by
  induction h with
  | nil e =>
    intro i lm lm' bs rs ld hs qs r hr hlm hhs hqs
    simp only [endD, Option.some.injEq] at hr
    subst hr
    exact ⟨_, .nil _, rfl, rfl, rfl, rfl, rfl, hlm, rfl, rfl, fun q hq => (hqs q hq).2⟩
  | @cons o l e e1 e2 hst _ ih =>
    intro i lm lm' bs rs ld hs qs r hstat hlm hhs hqs
    simp only [endD] at hstat
    split at hstat
    · cases hstat
    · rename_i b hb
      cases hcnd : clash b o.dst (reads ops o) rs && !(isF o.op) && (isQ o.op || Nat.beq (Nat.land lm' b) lm') with
      | false => rw [hcnd] at hstat; cases hstat
      | true =>
      rw [hcnd] at hstat
      simp only [Bool.and_eq_true, Bool.or_eq_true, Bool.not_eq_true'] at hcnd
      simp only [cond_true] at hstat
      obtain ⟨⟨hc, hF⟩, hqm⟩ := hcnd
      have nosel : ∀ (b ld : Nat) (K : Heap), landL (sel b ld []) K = K := fun _ _ _ => rfl
      have hqs' : ∀ q ∈ qs, aq cx q.e H q.o = some q.x ∧ q.i < i + 1 := fun q hq => ⟨(hqs q hq).1, by have := (hqs q hq).2; omega⟩
      cases hst with
      | skip hw hp =>
        obtain ⟨s', h1, h2⟩ := ih (i + 1) lm _ _ _ ld hs qs r hstat (by cases isQ o.op <;> first | exact hlm | exact lor_sub' hlm) hhs hqs'
        refine ⟨s', .cons b (.tuple []) [] 0 (by decide) ?_ h1, h2⟩
        exact ⟨hb, hc, rfl, hp, rfl, rfl, .skip hw rfl rfl rfl rfl rfl rfl rfl rfl⟩
      | quiet x hw hq ha hp =>
        obtain ⟨s', h1, h2⟩ := ih (i + 1) lm _ _ _ ld hs (⟨i, b, o, e.look (reads ops o), x⟩ :: qs) r hstat (by rw [hq]; exact hlm) hhs (fun q hq => by
          rcases List.mem_cons.1 hq with rfl | hq
          · exact ⟨ha, by simp only; omega⟩
          · exact hqs' q hq)
        refine ⟨s', .cons b x [] 2 (by decide) ?_ h1, h2⟩
        exact ⟨hb, hc, rfl, hp, rfl, rfl, .quiet hw hq (by rw [nosel]; exact ha) (fun h hh => .inr (by rw [nosel, hhs h hh]; exact ha)) rfl rfl rfl rfl rfl rfl rfl⟩
      | loud x hw hq hsl hp =>
        have hm : Nat.beq (Nat.land lm b) lm = true := by
          rcases hqm with h | h
          · rw [hq] at h; cases h
          · exact land_sub hlm h
        obtain ⟨s', h1, h2⟩ := ih (i + 1) (Nat.lor lm (Nat.shiftLeft 1 i)) _ _ _ (Nat.lor ld b) (⟨i, H, ld⟩ :: hs) qs r hstat (by rw [hq]; exact lor_sub hlm) (fun h hh => by
          rcases List.mem_cons.1 hh with rfl | hh
          · rfl
          · exact hhs h hh) hqs'
        refine ⟨s', .cons b x [] 3 (by decide) ?_ h1, h2⟩
        exact ⟨hb, hc, rfl, hp, rfl, rfl, .loud hw hm (by rw [nosel]; exact hsl) (fun q hq => .inr (by rw [nosel]; exact (hqs q hq).1)) rfl rfl rfl rfl rfl rfl⟩
theorem RunP.snoc {cx : Cx} {ops : Array Oper} {l : List Oper} {o : Oper} {s s1 s2 : DS} {b k : Nat} {x : AV} {cs : List AV} (h : RunP cx ops l s s1) (ho : SF (fun _ _ _ => none) cx ops o s1 s2 b x cs k) : RunF cx ops (l ++ [o]) s s2 := by
  induction h with
  | nil s => exact .cons b x cs k ho (.nil _)
  | cons b' x' cs' k' _ h _ ih => exact .cons b' x' cs' k' h (ih ho)
/-- All operations before the n-th. -/
def full (n : Nat) : Nat := 2 ^ n - 1
theorem bit_full {i n : Nat} (h : i < n) : bit (full n) i = true := by
  rw [bit_eq, full, Nat.testBit_two_pow_sub_one]
  exact decide_eq_true h
section
variable {cx : Cx} {ops : Array Oper} {H : Heap} {R : AEx → Env → Heap → Prop} {k : List Fr} {sz : Nat} {m : List (Nat × AV)} {op : Op} {ty : TypeId} {pos : String} {af : Array Edge} {pre : List Oper} {r : Nat × Nat × T Nat × List RE}
theorem W_drawS (hN : CxOk cx) (hm : cx.P.follows .mixedOrders = true) {id : Nat} {Q : AEx → Env → Heap → Prop} (hops : ops.toList = pre ++ [⟨none, op, ty, pos, af, none⟩]) (_hq : isQ op = false) (hst : endD ops pre 0 0 .nil [] = some r) (hb : bmask r.2.2.1 r.1 af.toList 0 = some (full r.1)) (hc : clash (full r.1) none (reads ops ⟨none, op, ty, pos, af, none⟩) r.2.2.2 = true) (hlm : Nat.beq (Nat.land r.2.1 (full r.1)) r.2.1 = true)
    {mr : List (Nat × AV)} {H' : Heap} (h : DRun cx ops H sz pre m mr) (ha : sop cx (lookM mr (reads ops ⟨none, op, ty, pos, af, none⟩) []) H op = some (.skip H')) (hK : Q .normal ⟨sz, T.of mr⟩ H') : W cx (.region id ops true) ⟨sz, T.of m⟩ H Q := by
  obtain ⟨s', h1, h2, h3, h4, h5, h6, h7, h8, h9, h10⟩ := h.run.runE (id := H.nx) 0 0 0 .nil [] 0 [] [] r hst rfl (fun _ h => by cases h) (fun _ h => by cases h)
  have nosel : ∀ (b ld : Nat) (K : Heap), landL (sel b ld []) K = K := fun _ _ _ => rfl
  have hsf : SF (fun _ _ _ => none) cx ops ⟨none, op, ty, pos, af, none⟩ s' ⟨s'.i + 1, s'.e, H', Nat.lor s'.lm (Nat.shiftLeft 1 s'.i), s'.id, s'.al, Nat.lor s'.ld (full r.1), ⟨s'.i, s'.H, s'.ld⟩ :: s'.hs, s'.qs, s'.bs.set s'.i (full r.1), ⟨s'.i, none, reads ops ⟨none, op, ty, pos, af, none⟩⟩ :: s'.rs⟩ (full r.1) (.tuple []) [] 3 := by
    refine ⟨by rw [h8, h6]; exact hb, by rw [h9]; exact hc, rfl, rfl, rfl, rfl, .loud rfl (land_sub h7 hlm) ?_ (fun q hq => .inl (bit_full (h10 q hq))) rfl rfl rfl rfl rfl rfl⟩
    rw [h2, look_of, h4, nosel, h3]
    simp only [SL, aop, sop_ok ha]
    exact ⟨trivial, trivial⟩
  have hr := h1.snoc hsf
  rw [← hops] at hr
  refine W_drawF hN hm (r := 0) hr h5 ?_
  simp only [h4, h2]
  exact hK
theorem K_drawS1 (hN : CxOk cx) (hm : cx.P.follows .mixedOrders = true) {id : Nat} (hops : ops.toList.getLast? = some ⟨none, op, ty, pos, af, none⟩) (hq : isQ op = false) (hst : endD ops ops.toList.dropLast 0 0 .nil [] = some r) (hb : bmask r.2.2.1 r.1 af.toList 0 = some (full r.1)) (hc : clash (full r.1) none (reads ops ⟨none, op, ty, pos, af, none⟩) r.2.2.2 = true) (hlm : Nat.beq (Nat.land r.2.1 (full r.1)) r.2.1 = true)
    (h : DRunK cx ops H sz ops.toList.dropLast m fun mr => ∃ H', sop cx (lookM mr (reads ops ⟨none, op, ty, pos, af, none⟩) []) H op = some (.skip H') ∧ CG cx R k .normal sz mr H') : WG cx (.region id ops true) sz m H (Cn cx R k) := ⟨by
  obtain ⟨mr, h1, H', h2, h3⟩ := h.run
  exact W_drawS hN hm (last_split hops) hq hst hb hc hlm h1 h2 h3.c⟩
/-- A box that is not written any more; the other places stay. -/
theorem G_unboxE {Q : AEx → Env → Heap → Prop} {c : Code} (t id : Nat) (cs : List AV) (l : List (Nat × AV)) (ents : List (Nat × Ob)) (nx : Nat) (ht : lq m t = some (.ptr id 0)) (hg : H.t.get id = some (.cells cs)) (hl : hasM m l) (hents : hasO (H.dels [id]).t ents) (hnx : H.nx ≤ nx) (hw : WG cx c sz ((t, .iptr cs 0) :: l) (He ents nx) Q) : WG cx c sz m H Q := by
  refine G_freeze [id] ((t, .iptr cs 0) :: l) ⟨⟨_, _, ht, .ptr (List.Mem.head _) hg (FZ_same_list cs), Imp.refl _⟩, FM_same hl⟩ ?_
  exact ⟨W_sub (Env.Sub.refl _) (He_sub (by rw [dels_nx]; exact hnx) hents) hw.w⟩
theorem Od {j id : Nat} {ob : Ob} {l : List (Nat × Ob)} {H : Heap} (h : H.t.get j = some ob) (hne : j ≠ id) (hl : hasO (H.dels [id]).t l) : hasO (H.dels [id]).t ((j, ob) :: l) := ⟨⟨ob, by rw [dels_get, if_neg (by simpa using hne)]; exact h, ObSub.refl _⟩, hl⟩
theorem get_box {l : List (Nat × Ob)} {nx j : Nat} {ob ob' : Ob} {τ : TypeId} {o : Option Nat} (h : j ≠ nx) : (((He l nx).allocT ob τ o).put nx ob').t.get j = lq l j := by
  have e1 : (((He l nx).allocT ob τ o).put nx ob').t = ((T.of l).set nx ob).set nx ob' := rfl
  rw [e1, T.get_set_ne _ _ h, T.get_set_ne _ _ h, T.of_get]
end
end Go.Eng
end
