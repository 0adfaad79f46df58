import Derived.Test.YtekfcbeballilaaGreatDoorLa
section
namespace Go.Eng
open Go Go.RowKit Go.Proofs
set_option maxHeartbeats 8000000
set_option maxRecDepth 10000
structure NodeS where
  col : Int
  at_ : List UInt8
  left : Int
  right : Int
  dual : List (List UInt8)
instance : Inhabited NodeS := ⟨⟨0, [], 0, 0, []⟩⟩
def NodeS.av (x : NodeS) : List AV := [.int .i64 x.col, .str x.at_, .int .i64 x.left, .int .i64 x.right, strsAV x.dual]
def treeAV (t : List NodeS) : AV := .isl (t.flatMap NodeS.av) t.length
theorem NodeS.av_len (x : NodeS) : x.av.length = 5 := rfl
theorem node_frees (x : NodeS) : AV.frees x.av = true := by
  have : (strsAV x.dual).free = true := strs_frees x.dual
  show (true && (true && (true && (true && ((strsAV x.dual).free && true))))) = true
  rw [this]; rfl
theorem tree_free (t : List NodeS) : (treeAV t).free = true := frees_fm NodeS.av _ fun x _ => node_frees x
structure NodeS.Sh (x : NodeS) : Prop where
  at_ : Eng.Sh x.at_
  dual : ∀ s ∈ x.dual, Eng.Sh s
  len : x.dual.length ≤ 10000000
def bools (s : List Bool) : List AV := s.map .bool
theorem bools_at {s : List Bool} {i : Nat} (h : i < s.length) : (bools s)[i]? = some (.bool (s.getD i false)) := by
  simp [bools, List.getElem?_map, List.getD_eq_getElem?_getD, List.getElem?_eq_getElem h]
theorem bools_set (s : List Bool) (i : Nat) : (bools s).set i (.bool true) = bools (s.set i true) := by simp [bools, List.map_set]
theorem bools_len (s : List Bool) : (bools s).length = s.length := by simp [bools]
def seenStep (n at_ : Nat) (k : Int) (seen : List Bool) : Option (List Bool) := if k ≤ at_ ∨ (n : Int) ≤ k ∨ seen.getD k.toNat false = true then none else some (seen.set k.toNat true)
/-- Whether a node is no branch that may be. -/
def noBranch (cols : List ColS) (col : Int) (v : Rat) : Bool := !(v.den == 1) || decide (col ≥ cols.length) || !(cols.getD col.toNat default).int || !isq (ftext (v + 1))
def coverN (rows : List RowS) (floor : Rat) (all : Bool) (tree : List NodeS) : Nat → Nat → List ColS → List Bool → Option (List Bool)
  | 0, _, _, _ => none
  | f + 1, at_, cols, seen =>
    if (tree.getD at_ default).col < 0 then (if shownB rows floor all cols (tree.getD at_ default).dual then some (seen.set at_ true) else none)
    else match fget (tree.getD at_ default).at_ with
      | none => none
      | some v => if noBranch cols (tree.getD at_ default).col v then none else
        match seenStep tree.length at_ (tree.getD at_ default).left (seen.set at_ true) with
        | none => none
        | some s1 => match seenStep tree.length at_ (tree.getD at_ default).right s1 with
          | none => none
          | some s2 => match coverN rows floor all tree f (tree.getD at_ default).left.toNat (belowC cols (tree.getD at_ default).col.toNat v) s2 with
            | none => none
            | some s3 => coverN rows floor all tree f (tree.getD at_ default).right.toNat (aboveC cols (tree.getD at_ default).col.toNat (v + 1)) s3
def gN : Nat → Nat
  | 0 => 0
  | f + 1 => 2 + 2 * gN f
theorem belowC_len (cs : List ColS) (j : Nat) (v : Rat) : (belowC cs j v).length = cs.length := by
  unfold belowC; split <;> simp
theorem aboveC_len (cs : List ColS) (j : Nat) (v : Rat) : (aboveC cs j v).length = cs.length := by
  unfold aboveC; split <;> simp
theorem getD_mem {α : Type} [Inhabited α] {l : List α} {i : Nat} (h : i < l.length) : l.getD i default ∈ l := by
  rw [getD_at (List.getElem?_eq_getElem h)]; exact List.getElem_mem _
theorem belowC_sh {cs : List ColS} (h : ∀ c ∈ cs, c.Sh) {j : Nat} (hj : j < cs.length) {v : Rat} (hv : Sh (ftext v)) : ∀ c ∈ belowC cs j v, c.Sh := by
  unfold belowC
  split
  · exact h
  · intro c hc
    rcases List.mem_or_eq_of_mem_set hc with h1 | h1
    · exact h c h1
    · have := h _ (getD_mem hj)
      rw [h1]; exact ⟨this.low, hv, this.cost⟩
theorem aboveC_sh {cs : List ColS} (h : ∀ c ∈ cs, c.Sh) {j : Nat} (hj : j < cs.length) {v : Rat} (hv : Sh (ftext v)) : ∀ c ∈ aboveC cs j v, c.Sh := by
  unfold aboveC
  split
  · exact h
  · intro c hc
    rcases List.mem_or_eq_of_mem_set hc with h1 | h1
    · exact h c h1
    · have := h _ (getD_mem hj)
      rw [h1]; exact ⟨hv, this.up, this.cost⟩
/-- A row that is not written any more; the other places stay. -/
theorem G_unslE {cx : Cx} {sz : Nat} {m : List (Nat × AV)} {H : Heap} {Q : AEx → Env → Heap → Prop} {c : Code} (t id len cap es : Nat) (ex : Bool) (cs : List AV) (l : List (Nat × AV)) (ents : List (Nat × Ob)) (nx : Nat) (ht : lq m t = some (.slice id 0 len cap ex es)) (hg : H.t.get id = some (.cells cs)) (hs : seg cs 0 (len * es) = some cs) (hl : hasM m l) (hents : hasO (H.dels [id]).t ents) (hnx : H.nx ≤ nx) (hw : WG cx c sz ((t, .isl cs len) :: l) (He ents nx) Q) : WG cx c sz m H Q := by
  refine G_freeze [id] ((t, .isl cs len) :: l) ⟨⟨_, _, ht, .slice (List.Mem.head _) hg hs (FZ_same_list cs), Imp.refl _⟩, FM_same hl⟩ ?_
  exact ⟨W_sub (Env.Sub.refl _) (He_sub (by rw [dels_nx]; exact hnx) hents) hw.w⟩
theorem seenStep_len {n a : Nat} {k : Int} {s s' : List Bool} (h : seenStep n a k s = some s') : s'.length = s.length := by
  unfold seenStep at h
  split at h
  · cases h
  · cases h; simp
theorem coverN_len {rows : List RowS} {floor : Rat} {all : Bool} {tree : List NodeS} : ∀ {f at_ : Nat} {cols : List ColS} {seen s : List Bool}, seen.length = tree.length → coverN rows floor all tree f at_ cols seen = some s → s.length = tree.length
  | 0, _, _, _, _, _, h => by cases h
  | f + 1, at_, cols, seen, s, hl, h => by
    rw [coverN] at h
    split at h
    · split at h
      · cases h; rw [List.length_set, hl]
      · cases h
    · split at h
      · cases h
      · split at h
        · cases h
        · split at h
          · cases h
          · rename_i h1
            split at h
            · cases h
            · rename_i h2
              split at h
              · cases h
              · rename_i h3
                exact coverN_len (coverN_len (by rw [seenStep_len h2, seenStep_len h1, List.length_set, hl]) h3) h
/-- What is left behind. -/
def outN (q nx : Nat) : Option (List Bool) → Heap
  | some s => He [(q, .cells (bools s))] nx
  | none => Hn nx
/-- What a cover is. -/
def coverAV (cols : List ColS) (rows : List RowS) (tree : List NodeS) (floorAV : AV) (all : Bool) (q : Nat) : AV := .iptr [colsAV cols, rowsAV rows, treeAV tree, floorAV, .bool all, .slice q 0 tree.length tree.length true 1] 0
theorem He1_get (q : Nat) (ob : Ob) (nx : Nat) : (He [(q, ob)] nx).t.get q = some ob := by rw [He_get]; simp [lq]
theorem leaf_node_ans (cols0 : List ColS) (rows : List RowS) (tree : List NodeS) (floorAV : AV) (floor : Rat) (all : Bool) (q : Nat) (hr : ∀ r ∈ rows, r.Sh) (h2 : rows.length ≤ 100000) (ht : ∀ x ∈ tree, x.Sh) (_htl : tree.length ≤ 100000) (hf : IsQ floorAV floor) (hfq : Hq floor) :
    ∀ (f at_ : Nat) (cols : List ColS) (seen : List Bool) (nx : Nat), at_ < tree.length → tree.length ≤ f + at_ → (∀ c ∈ cols, c.Sh) → cols.length ≤ 100000 → seen.length = tree.length → q < nx →
    Ans cs0 F.leaf_cover_node [coverAV cols0 rows tree floorAV all q, .int .i64 at_, colsAV cols] (He [(q, .cells (bools seen))] nx) fun x K => x = .bool (coverN rows floor all tree f at_ cols seen).isSome ∧ K = outN q (nx + gN f) (coverN rows floor all tree f at_ cols seen) := by
  intro f
  induction f with
  | zero => intro at_ cols seen nx h1 h3; omega
  | succ f ih =>
  intro at_ cols seen nx hat hfu hcs hcl hsl hq
  have hN := cz_ok
  have hx : tree[at_]? = some tree[at_] := List.getElem?_eq_getElem hat
  have hsh := ht tree[at_] (List.getElem_mem _)
  have hgd := getD_at hx
  have hun : coverN rows floor all tree (f + 1) at_ cols seen = if tree[at_].col < 0 then (if shownB rows floor all cols tree[at_].dual then some (seen.set at_ true) else none)
    else match fget tree[at_].at_ with
      | none => none
      | some v => if noBranch cols tree[at_].col v then none else
        match seenStep tree.length at_ tree[at_].left (seen.set at_ true) with
        | none => none
        | some s1 => match seenStep tree.length at_ tree[at_].right s1 with
          | none => none
          | some s2 => match coverN rows floor all tree f tree[at_].left.toNat (belowC cols tree[at_].col.toNat v) s2 with
            | none => none
            | some s3 => coverN rows floor all tree f tree[at_].right.toNat (aboveC cols tree[at_].col.toNat (v + 1)) s3 := by
    rw [coverN]; simp only [hgd]
  generalize coverN rows floor all tree (f + 1) at_ cols seen = res at *
  generalize tree[at_] = x at *
  obtain ⟨col, at_s, left, right, dual⟩ := x
  simp only at hun
  have hatS := hsh.at_
  have hdS := hsh.dual
  have hdl := hsh.len
  simp only at hatS hdS hdl
  have hgN : gN (f + 1) = 2 + 2 * gN f := rfl
  have bad : ∀ H : Heap, res = none → H.nx ≤ nx + gN (f + 1) → ∃ K', (AV.bool false = .bool res.isSome ∧ K' = outN q (nx + gN (f + 1)) res) ∧ Heap.Sub K' H := fun H h hn => by
    subst h
    exact ⟨_, ⟨rfl, rfl⟩, Hn_sub hn⟩
  generalize hC : coverAV cols0 rows tree floorAV all q = C at *
  have hC' := hC
  unfold coverAV at hC'
  refine Ans_low (G_body hN (fn := B.leaf_cover_node) (sz := 134) rfl rfl rfl rfl rfl ?_)
  subst hC'
  refine K_run hN ?_; (repeat (first | refine K_v rfl rfl ?_ | refine K_g rfl rfl ?_ | refine K_n rfl rfl rfl rfl ?_ | refine K_n' rfl rfl rfl ?_ | refine K_s rfl ?_)); refine K_nil ?_
  refine K_run hN ?_; (repeat (first | refine K_v rfl rfl ?_ | refine K_g rfl rfl ?_ | refine K_n rfl rfl rfl rfl ?_ | refine K_n' rfl rfl rfl ?_ | refine K_s rfl ?_))
  refine K_v rfl (g_idx1 at_ rfl rfl rfl rfl rfl rfl hat) ?_
  refine K_s (g_store1 rfl rfl rfl rfl rfl rfl (He1_get _ _ _) (by rw [bools_len, hsl]; omega)) ?_
  refine K_nil ?_
  rw [Nat.zero_add, bools_set]
  have hs1l : (seen.set at_ true).length = tree.length := by rw [List.length_set, hsl]
  generalize seen.set at_ true = s1 at *
  refine G_weakH [(0, .iptr [colsAV cols0, rowsAV rows, treeAV tree, floorAV, .bool all, .slice q 0 tree.length tree.length true 1] 0), (1, .int .i64 at_), (2, colsAV cols)] (He [(q, .cells (bools s1))] nx) (M1 rfl <| M1 rfl <| M1 rfl M0) (He_sub (Nat.le_refl _) (O1 (T.get_set_same _ _ _) O0)) ?_
  refine K_run hN ?_; (repeat (first | refine K_v rfl rfl ?_ | refine K_g rfl rfl ?_ | refine K_n rfl rfl rfl rfl ?_ | refine K_n' rfl rfl rfl ?_ | refine K_s rfl ?_))
  refine K_v rfl (g_idxi at_ rfl rfl rfl rfl rfl hat) ?_
  refine K_v rfl (g_ldagg rfl rfl rfl rfl rfl (fm_seg NodeS.av 5 NodeS.av_len hx)) ?_
  (repeat (first | refine K_v rfl rfl ?_ | refine K_g rfl rfl ?_ | refine K_n rfl rfl rfl rfl ?_ | refine K_n' rfl rfl rfl ?_ | refine K_s rfl ?_))
  refine K_s (g_stbox rfl rfl rfl rfl rfl rfl (T.get_set_same _ _ _) rfl) ?_
  refine K_nil ?_
  refine G_unboxE 7 nx (NodeS.av ⟨col, at_s, left, right, dual⟩) [(0, .iptr [colsAV cols0, rowsAV rows, treeAV tree, floorAV, .bool all, .slice q 0 tree.length tree.length true 1] 0), (1, .int .i64 at_), (2, colsAV cols)] [(q, .cells (bools s1))] (nx + 1) rfl (T.get_set_same _ _ _) (M1 rfl <| M1 rfl <| M1 rfl M0) (Od ((get_box (by omega)).trans (by simp [lq])) (by omega) O0) (Nat.le_refl _) ?_
  refine G_seq ?_
  by_cases hc0 : col < 0
  · rw [if_pos hc0] at hun
    have hshown := leaf_shown_ans cols cols0 rows (treeAV tree) floorAV (.slice q 0 tree.length tree.length true 1) floor all dual ⟨hcs, hr⟩ hcl h2 hdS hdl hf hfq (tree_free tree)
    refine K_run hN ?_; (repeat (first | refine K_v rfl rfl ?_ | refine K_g rfl rfl ?_ | refine K_n rfl rfl rfl rfl ?_ | refine K_n' rfl rfl rfl ?_ | refine K_s rfl ?_)); refine K_nil ?_
    refine K_if1 rfl (decide_eq_true hc0) ?_
    refine K_run hN ?_; (repeat (first | refine K_v rfl rfl ?_ | refine K_g rfl rfl ?_ | refine K_n rfl rfl rfl rfl ?_ | refine K_n' rfl rfl rfl ?_ | refine K_s rfl ?_ | refine K_c rfl rfl (hshown _) ?_)); refine K_nil ?_
    refine G_ret (G_end rfl ?_)
    cases hS : shownB rows floor all cols dual with
    | false =>
      rw [hS] at hun
      exact bad _ hun (by show nx + 1 ≤ _; omega)
    | true =>
      rw [hS] at hun
      have hun : res = some s1 := hun
      subst hun
      exact ⟨_, ⟨rfl, rfl⟩, He_sub (by show nx + 1 ≤ _; omega) (O1 (He1_get _ _ _) O0)⟩
  · rw [if_neg hc0] at hun
    have hgA := frac_Get_ans at_s hatS
    unfold fgetAV at hgA
    refine K_run hN ?_; (repeat (first | refine K_v rfl rfl ?_ | refine K_g rfl rfl ?_ | refine K_n rfl rfl rfl rfl ?_ | refine K_n' rfl rfl rfl ?_ | refine K_s rfl ?_)); refine K_nil ?_
    refine K_if0 rfl (decide_eq_false hc0) (G_skip (G_pop ?_))
    obtain ⟨j, rfl⟩ : ∃ n : Nat, col = n := ⟨col.toNat, by omega⟩
    simp only [Int.toNat_natCast] at hun
    cases hv : fget at_s with
    | none =>
      rw [hv] at hun hgA
      refine K_run hN ?_; (repeat (first | refine K_v rfl rfl ?_ | refine K_g rfl rfl ?_ | refine K_n rfl rfl rfl rfl ?_ | refine K_n' rfl rfl rfl ?_ | refine K_s rfl ?_ | refine K_c rfl rfl (hgA _) ?_)); refine K_nil ?_
      refine G_seq ?_
      refine K_run hN ?_; (repeat (first | refine K_v rfl rfl ?_ | refine K_g rfl rfl ?_ | refine K_n rfl rfl rfl rfl ?_ | refine K_n' rfl rfl rfl ?_ | refine K_s rfl ?_)); refine K_nil ?_
      refine G_if1 rfl ?_
      refine K_run hN ?_; (repeat (first | refine K_v rfl rfl ?_ | refine K_g rfl rfl ?_ | refine K_n rfl rfl rfl rfl ?_ | refine K_n' rfl rfl rfl ?_ | refine K_s rfl ?_)); refine K_nil ?_
      exact G_ret (G_end rfl (bad _ hun (by show nx + 1 ≤ _; omega)))
    | some v =>
      rw [hv] at hun hgA
      simp only at hun
      have hqv : qv at_s = v := by rw [qv, hv]; rfl
      have hvb : Bt 6700 v := hqv ▸ qv_bt at_s
      have hvq := hvb.hq (by decide)
      have hv1b : Bt 6702 (v + 1) := hvb.add (m := 1) ⟨by decide, by decide⟩
      have hv1q := hv1b.hq (by decide)
      have hwh := fun H => frac_Frac_Whole_ans (X := ext0) (Y := lies0) hN (.frac v) hvq.d.sm H
      have hof := fun H => frac_Of_ans (X := ext0) (Y := lies0) hN 1 (by decide) (by decide) H
      have hadd := fun H => frac_Frac_Add_ans (X := ext0) (Y := lies0) hN (.frac v) (.frac ((1 : Int) : Rat)) hvq (by exact (Bt.hq (n := 1) ⟨by decide, by decide⟩ (by decide))) H
      have htx := frac_Frac_Text_ans (.frac (v + ((1 : Int) : Rat))) hv1q.n.sm hv1q.d.sm
      have hgT := frac_Get_ans (ftext (v + ((1 : Int) : Rat))) (ftext_sh hv1q.n.sm hv1q.d.sm)
      unfold fgetAV at hgT
      have e11 : v + ((1 : Int) : Rat) = v + 1 := rfl
      by_cases hno : noBranch cols (j : Int) v = true
      · rw [if_pos hno] at hun
        refine K_run hN ?_; (repeat (first | refine K_v rfl rfl ?_ | refine K_g rfl rfl ?_ | refine K_n rfl rfl rfl rfl ?_ | refine K_n' rfl rfl rfl ?_ | refine K_s rfl ?_ | refine K_c rfl rfl (hgA _) ?_)); refine K_nil ?_
        refine G_seq ?_
        cases hd : v.den == 1 with
        | false =>
          rw [hd] at hwh
          refine K_run hN ?_; (repeat (first | refine K_v rfl rfl ?_ | refine K_g rfl rfl ?_ | refine K_n rfl rfl rfl rfl ?_ | refine K_n' rfl rfl rfl ?_ | refine K_s rfl ?_ | refine K_c rfl rfl (hwh _) ?_)); refine K_nil ?_
          refine G_if1 rfl ?_
          refine K_run hN ?_; (repeat (first | refine K_v rfl rfl ?_ | refine K_g rfl rfl ?_ | refine K_n rfl rfl rfl rfl ?_ | refine K_n' rfl rfl rfl ?_ | refine K_s rfl ?_)); refine K_nil ?_
          exact G_ret (G_end rfl (bad _ hun (by show nx + 1 ≤ _; omega)))
        | true =>
          rw [hd] at hwh
          cases hge : decide ((j : Int) ≥ (cols.length : Nat)) with
          | true =>
            refine K_run hN ?_; (repeat (first | refine K_b rfl rfl hge ?_ | refine K_v rfl rfl ?_ | refine K_g rfl rfl ?_ | refine K_n rfl rfl rfl rfl ?_ | refine K_n' rfl rfl rfl ?_ | refine K_s rfl ?_ | refine K_c rfl rfl (hwh _) ?_)); refine K_nil ?_
            refine G_if1 rfl ?_
            refine K_run hN ?_; (repeat (first | refine K_v rfl rfl ?_ | refine K_g rfl rfl ?_ | refine K_n rfl rfl rfl rfl ?_ | refine K_n' rfl rfl rfl ?_ | refine K_s rfl ?_)); refine K_nil ?_
            exact G_ret (G_end rfl (bad _ hun (by show nx + 1 ≤ _; omega)))
          | false =>
            have hj : j < cols.length := by have := of_decide_eq_false hge; omega
            have hcx : cols[j]? = some cols[j] := List.getElem?_eq_getElem hj
            have hint : (cols.flatMap ColS.av)[j * 5 + 4]? = some (.bool cols[j].int) := fm_cell ColS.av 5 ColS.av_len hcx rfl
            have hgi : cols.getD j default = cols[j] := getD_at hcx
            simp only [noBranch, Int.toNat_natCast, hgi, hd, hge] at hno
            generalize cols[j] = c at *
            cases hi : c.int with
            | false =>
              rw [hi] at hint
              refine K_run hN ?_; (repeat (first | refine K_b rfl rfl hge ?_ | refine K_v rfl rfl ?_ | refine K_g rfl rfl ?_ | refine K_n rfl rfl rfl rfl ?_ | refine K_n' rfl rfl rfl ?_ | refine K_s rfl ?_ | refine K_c rfl rfl (hwh _) ?_))
              refine K_v rfl (g_idxi j rfl rfl rfl rfl rfl hj) ?_
              (repeat (first | refine K_v rfl (g_load rfl rfl rfl rfl rfl hint) ?_ | refine K_v rfl rfl ?_ | refine K_g rfl rfl ?_ | refine K_n rfl rfl rfl rfl ?_ | refine K_n' rfl rfl rfl ?_ | refine K_s rfl ?_))
              (repeat (first | refine K_v rfl rfl ?_ | refine K_g rfl rfl ?_ | refine K_n rfl rfl rfl rfl ?_ | refine K_n' rfl rfl rfl ?_ | refine K_s rfl ?_)); refine K_nil ?_
              refine G_if1 rfl ?_
              refine K_run hN ?_; (repeat (first | refine K_v rfl rfl ?_ | refine K_g rfl rfl ?_ | refine K_n rfl rfl rfl rfl ?_ | refine K_n' rfl rfl rfl ?_ | refine K_s rfl ?_)); refine K_nil ?_
              exact G_ret (G_end rfl (bad _ hun (by show nx + 1 ≤ _; omega)))
            | true =>
              rw [hi] at hint hno
              have hno : isq (ftext (v + 1)) = false := by simpa using hno
              have hft : fget (ftext (v + ((1 : Int) : Rat))) = none := by
                rw [e11]
                unfold isq at hno
                cases hk : fget (ftext (v + 1)) with
                | none => rfl
                | some _ => rw [hk] at hno; cases hno
              rw [hft] at hgT
              refine K_run hN ?_; (repeat (first | refine K_b rfl rfl hge ?_ | refine K_v rfl rfl ?_ | refine K_g rfl rfl ?_ | refine K_n rfl rfl rfl rfl ?_ | refine K_n' rfl rfl rfl ?_ | refine K_s rfl ?_ | refine K_c rfl rfl (hwh _) ?_))
              refine K_v rfl (g_idxi j rfl rfl rfl rfl rfl hj) ?_
              (repeat (first | refine K_v rfl (g_load rfl rfl rfl rfl rfl hint) ?_ | refine K_v rfl rfl ?_ | refine K_g rfl rfl ?_ | refine K_n rfl rfl rfl rfl ?_ | refine K_n' rfl rfl rfl ?_ | refine K_s rfl ?_))
              (repeat (first | refine K_v rfl rfl ?_ | refine K_g rfl rfl ?_ | refine K_n rfl rfl rfl rfl ?_ | refine K_n' rfl rfl rfl ?_ | refine K_s rfl ?_)); refine K_nil ?_
              refine G_if0 rfl (G_skip (G_pop ?_))
              refine G_seq ?_
              refine K_run hN ?_; (repeat (first | refine K_v rfl rfl ?_ | refine K_g rfl rfl ?_ | refine K_n rfl rfl rfl rfl ?_ | refine K_n' rfl rfl rfl ?_ | refine K_s rfl ?_ | refine K_c rfl rfl (hof _) ?_ | refine K_c rfl rfl (hadd _) ?_ | refine K_c rfl rfl (htx _) ?_ | refine K_c rfl rfl (hgT _) ?_)); refine K_nil ?_
              refine K_run hN ?_; (repeat (first | refine K_v rfl rfl ?_ | refine K_g rfl rfl ?_ | refine K_n rfl rfl rfl rfl ?_ | refine K_n' rfl rfl rfl ?_ | refine K_s rfl ?_)); refine K_nil ?_
              refine G_if1 rfl ?_
              refine K_run hN ?_; (repeat (first | refine K_v rfl rfl ?_ | refine K_g rfl rfl ?_ | refine K_n rfl rfl rfl rfl ?_ | refine K_n' rfl rfl rfl ?_ | refine K_s rfl ?_)); refine K_nil ?_
              exact G_ret (G_end rfl (bad _ hun (by show nx + 1 ≤ _; omega)))
      · rw [if_neg hno] at hun
        have hno' : noBranch cols (j : Int) v = false := by rw [Bool.eq_false_iff]; exact hno
        simp only [noBranch, Int.toNat_natCast, Bool.or_eq_false_iff, Bool.not_eq_false'] at hno'
        obtain ⟨⟨⟨hd, hge⟩, hi⟩, hft0⟩ := hno'
        have hj : j < cols.length := by have := of_decide_eq_false hge; omega
        have hcx : cols[j]? = some cols[j] := List.getElem?_eq_getElem hj
        have hint : (cols.flatMap ColS.av)[j * 5 + 4]? = some (.bool cols[j].int) := fm_cell ColS.av 5 ColS.av_len hcx rfl
        have hgi : cols.getD j default = cols[j] := getD_at hcx
        rw [hgi] at hi
        rw [hi] at hint
        rw [hd] at hwh
        obtain ⟨v2, hft⟩ : ∃ v2, fget (ftext (v + ((1 : Int) : Rat))) = some v2 := by
          rw [e11]
          unfold isq at hft0
          cases hk : fget (ftext (v + 1)) with
          | none => rw [hk] at hft0; cases hft0
          | some v2 => exact ⟨v2, rfl⟩
        rw [hft] at hgT
        refine K_run hN ?_; (repeat (first | refine K_v rfl rfl ?_ | refine K_g rfl rfl ?_ | refine K_n rfl rfl rfl rfl ?_ | refine K_n' rfl rfl rfl ?_ | refine K_s rfl ?_ | refine K_c rfl rfl (hgA _) ?_)); refine K_nil ?_
        refine G_seq ?_
        refine K_run hN ?_; (repeat (first | refine K_b rfl rfl hge ?_ | refine K_v rfl rfl ?_ | refine K_g rfl rfl ?_ | refine K_n rfl rfl rfl rfl ?_ | refine K_n' rfl rfl rfl ?_ | refine K_s rfl ?_ | refine K_c rfl rfl (hwh _) ?_))
        refine K_v rfl (g_idxi j rfl rfl rfl rfl rfl hj) ?_
        (repeat (first | refine K_v rfl (g_load rfl rfl rfl rfl rfl hint) ?_ | refine K_v rfl rfl ?_ | refine K_g rfl rfl ?_ | refine K_n rfl rfl rfl rfl ?_ | refine K_n' rfl rfl rfl ?_ | refine K_s rfl ?_))
        (repeat (first | refine K_v rfl rfl ?_ | refine K_g rfl rfl ?_ | refine K_n rfl rfl rfl rfl ?_ | refine K_n' rfl rfl rfl ?_ | refine K_s rfl ?_)); refine K_nil ?_
        refine G_if0 rfl (G_skip (G_pop ?_))
        refine G_seq ?_
        refine K_run hN ?_; (repeat (first | refine K_v rfl rfl ?_ | refine K_g rfl rfl ?_ | refine K_n rfl rfl rfl rfl ?_ | refine K_n' rfl rfl rfl ?_ | refine K_s rfl ?_ | refine K_c rfl rfl (hof _) ?_ | refine K_c rfl rfl (hadd _) ?_ | refine K_c rfl rfl (htx _) ?_ | refine K_c rfl rfl (hgT _) ?_)); refine K_nil ?_
        refine K_run hN ?_; (repeat (first | refine K_v rfl rfl ?_ | refine K_g rfl rfl ?_ | refine K_n rfl rfl rfl rfl ?_ | refine K_n' rfl rfl rfl ?_ | refine K_s rfl ?_)); refine K_nil ?_
        refine G_if0 rfl (G_skip (G_pop ?_))
        have hsplit : ∀ (k : Int) (s s' : List Bool), seenStep tree.length at_ k s = some s' → ∃ m : Nat, k = m ∧ at_ < m ∧ m < tree.length ∧ s' = s.set m true := fun k s s' h => by
          unfold seenStep at h
          split at h
          · cases h
          · rename_i hn
            have h1 : ¬ k ≤ at_ := fun h => hn (.inl h)
            have h2 : ¬ (tree.length : Int) ≤ k := fun h => hn (.inr (.inl h))
            cases h
            exact ⟨k.toNat, by omega, by omega, by omega, rfl⟩
        refine G_mid (α := List Bool) (fun s2 => s2.length = tree.length ∧ ∃ sl, seenStep tree.length at_ left s1 = some sl ∧ seenStep tree.length at_ right sl = some s2) (fun _ => [(0, .iptr [colsAV cols0, rowsAV rows, treeAV tree, floorAV, .bool all, .slice q 0 tree.length tree.length true 1] 0), (2, colsAV cols), (7, .iptr (NodeS.av ⟨j, at_s, left, right, dual⟩) 0), (8, .frac v)]) (fun s2 => He [(q, .cells (bools s2))] (nx + 2)) ?_ ?_
        · refine K_run hN ?_; (repeat (first | refine K_v rfl rfl ?_ | refine K_g rfl rfl ?_ | refine K_n rfl rfl rfl rfl ?_ | refine K_n' rfl rfl rfl ?_ | refine K_s rfl ?_)); refine K_nil ?_
          refine G_unslE 78 (nx + 1) 2 2 1 true [.int .i64 left, .int .i64 right] [(0, .iptr [colsAV cols0, rowsAV rows, treeAV tree, floorAV, .bool all, .slice q 0 tree.length tree.length true 1] 0), (1, .int .i64 at_), (2, colsAV cols), (7, .iptr (NodeS.av ⟨j, at_s, left, right, dual⟩) 0), (8, .frac v), (79, .int .i64 2), (80, .int .i64 0)] [(q, .cells (bools s1))] (nx + 2) rfl (T.get_set_same _ _ _) rfl (M1 rfl <| M1 rfl <| M1 rfl <| M1 rfl <| M1 rfl <| M1 rfl <| M1 rfl M0) (Od ((T.get_set_ne _ _ (show q ≠ nx + 1 by omega)).trans (He1_get _ _ _)) (by omega) O0) (Nat.le_refl _) ?_
          refine G_block ?_
          refine G_loop (α := Nat × List Bool) (fun a => a.2.length = tree.length ∧ ((a.1 = 0 ∧ a.2 = s1) ∨ (a.1 = 1 ∧ seenStep tree.length at_ left s1 = some a.2) ∨ (a.1 = 2 ∧ ∃ sl, seenStep tree.length at_ left s1 = some sl ∧ seenStep tree.length at_ right sl = some a.2))) (fun a => 2 - a.1) (fun a => [(0, .iptr [colsAV cols0, rowsAV rows, treeAV tree, floorAV, .bool all, .slice q 0 tree.length tree.length true 1] 0), (1, .int .i64 at_), (2, colsAV cols), (7, .iptr (NodeS.av ⟨j, at_s, left, right, dual⟩) 0), (8, .frac v), (78, .isl [.int .i64 left, .int .i64 right] 2), (79, .int .i64 2), (80, .int .i64 (a.1 : Nat))]) (fun a => He [(q, .cells (bools a.2))] (nx + 2))
            (0, s1) ⟨hs1l, .inl ⟨rfl, rfl⟩⟩ (M1 rfl <| M1 rfl <| M1 rfl <| M1 rfl <| M1 rfl <| M1 rfl <| M1 rfl <| M1 rfl M0) (Heap.Sub.refl _) fun ⟨k, s⟩ ⟨i0, i1⟩ => ?_
          simp only at i0 i1
          refine K_run hN ?_; (repeat (first | refine K_v rfl rfl ?_ | refine K_g rfl rfl ?_ | refine K_n rfl rfl rfl rfl ?_ | refine K_n' rfl rfl rfl ?_ | refine K_s rfl ?_)); refine K_nil ?_
          refine G_seq ?_
          by_cases hk : k < 2
          · refine K_if1 rfl (decide_eq_true (by omega)) (G_skip (G_pop ?_))
            obtain ⟨kv, hkv, hnone, hsome⟩ : ∃ kv : Int, ([.int .i64 left, .int .i64 right] : List AV)[k]? = some (.int .i64 kv) ∧ (seenStep tree.length at_ kv s = none → res = none) ∧ ∀ s', seenStep tree.length at_ kv s = some s' → (k + 1 = 1 ∧ seenStep tree.length at_ left s1 = some s') ∨ (k + 1 = 2 ∧ ∃ sl, seenStep tree.length at_ left s1 = some sl ∧ seenStep tree.length at_ right sl = some s') := by
              rcases i1 with ⟨rfl, rfl⟩ | ⟨rfl, h⟩ | ⟨rfl, _⟩
              · exact ⟨left, rfl, fun h => by rw [h] at hun; exact hun, fun s' h => .inl ⟨rfl, h⟩⟩
              · exact ⟨right, rfl, fun h2 => by rw [h] at hun; simp only at hun; rw [h2] at hun; exact hun, fun s' h2 => .inr ⟨rfl, s, h, h2⟩⟩
              · omega
            refine G_seq (G_block ?_)
            refine K_run hN ?_
            refine K_v rfl (g_idxi1 k rfl rfl rfl rfl rfl rfl hk) ?_
            refine K_v rfl (g_load rfl rfl rfl rfl rfl hkv) ?_
            (repeat (first | refine K_v rfl rfl ?_ | refine K_g rfl rfl ?_ | refine K_n rfl rfl rfl rfl ?_ | refine K_n' rfl rfl rfl ?_ | refine K_s rfl ?_)); refine K_nil ?_
            refine G_seq ?_
            cases e1 : decide (kv ≤ (at_ : Int)) with
            | true =>
              have hn := hnone (by unfold seenStep; rw [if_pos (.inl (of_decide_eq_true e1))])
              refine K_run hN ?_; (repeat (first | refine K_b rfl rfl e1 ?_ | refine K_v rfl rfl ?_ | refine K_g rfl rfl ?_ | refine K_n rfl rfl rfl rfl ?_ | refine K_n' rfl rfl rfl ?_ | refine K_s rfl ?_)); refine K_nil ?_
              refine G_if1 rfl ?_
              refine K_run hN ?_; (repeat (first | refine K_v rfl rfl ?_ | refine K_g rfl rfl ?_ | refine K_n rfl rfl rfl rfl ?_ | refine K_n' rfl rfl rfl ?_ | refine K_s rfl ?_)); refine K_nil ?_
              exact G_ret (LP_ret (MP_ret (G_end rfl (bad _ hn (by show nx + 2 ≤ _; omega)))))
            | false =>
              have g1 := of_decide_eq_false e1
              cases e2 : decide (kv ≥ (tree.length : Int)) with
              | true =>
                have g2 := of_decide_eq_true e2
                have hn := hnone (by unfold seenStep; rw [if_pos (.inr (.inl (by omega)))])
                refine K_run hN ?_; (repeat (first | refine K_b rfl rfl e1 ?_ | refine K_b rfl rfl e2 ?_ | refine K_v rfl rfl ?_ | refine K_g rfl rfl ?_ | refine K_n rfl rfl rfl rfl ?_ | refine K_n' rfl rfl rfl ?_ | refine K_s rfl ?_)); refine K_nil ?_
                refine G_if1 rfl ?_
                refine K_run hN ?_; (repeat (first | refine K_v rfl rfl ?_ | refine K_g rfl rfl ?_ | refine K_n rfl rfl rfl rfl ?_ | refine K_n' rfl rfl rfl ?_ | refine K_s rfl ?_)); refine K_nil ?_
                exact G_ret (LP_ret (MP_ret (G_end rfl (bad _ hn (by show nx + 2 ≤ _; omega)))))
              | false =>
                have g2 := of_decide_eq_false e2
                obtain ⟨m, rfl⟩ : ∃ n : Nat, kv = n := ⟨kv.toNat, by omega⟩
                have hm : m < tree.length := by omega
                have hbm := bools_at (s := s) (i := m) (by omega)
                cases e3 : s.getD m false with
                | true =>
                  have hn := hnone (by unfold seenStep; rw [if_pos (.inr (.inr (by simpa using e3)))])
                  rw [e3, ← Nat.zero_add m] at hbm
                  refine K_run hN ?_; (repeat (first | refine K_b rfl rfl e1 ?_ | refine K_b rfl rfl e2 ?_ | refine K_v rfl rfl ?_ | refine K_g rfl rfl ?_ | refine K_n rfl rfl rfl rfl ?_ | refine K_n' rfl rfl rfl ?_ | refine K_s rfl ?_))
                  refine K_v rfl (g_idx1 m rfl rfl rfl rfl rfl rfl hm) ?_
                  (repeat (first | refine K_v rfl rfl ?_ | refine K_g rfl rfl ?_ | refine K_n rfl rfl rfl rfl ?_ | refine K_n' rfl rfl rfl ?_ | refine K_s rfl ?_))
                  refine K_v rfl (g_load rfl (by
                    show (match (He [(q, Ob.cells (bools s))] (nx + 2)).t.get q with
                      | some (.cells cs) => some (cs, 0 + m)
                      | _ => none) = _
                    rw [He1_get]) rfl rfl rfl hbm) ?_
                  (repeat (first | refine K_v rfl rfl ?_ | refine K_g rfl rfl ?_ | refine K_n rfl rfl rfl rfl ?_ | refine K_n' rfl rfl rfl ?_ | refine K_s rfl ?_)); refine K_nil ?_
                  refine G_if1 rfl ?_
                  refine K_run hN ?_; (repeat (first | refine K_v rfl rfl ?_ | refine K_g rfl rfl ?_ | refine K_n rfl rfl rfl rfl ?_ | refine K_n' rfl rfl rfl ?_ | refine K_s rfl ?_)); refine K_nil ?_
                  exact G_ret (LP_ret (MP_ret (G_end rfl (bad _ hn (by show nx + 2 ≤ _; omega)))))
                | false =>
                  have hs' : seenStep tree.length at_ (m : Int) s = some (s.set m true) := by
                    unfold seenStep
                    rw [if_neg (by
                      rintro (h | h | h)
                      · exact g1 h
                      · omega
                      · rw [Int.toNat_natCast, e3] at h; cases h), Int.toNat_natCast]
                  have hso := hsome _ hs'
                  rw [e3, ← Nat.zero_add m] at hbm
                  refine K_run hN ?_; (repeat (first | refine K_b rfl rfl e1 ?_ | refine K_b rfl rfl e2 ?_ | refine K_v rfl rfl ?_ | refine K_g rfl rfl ?_ | refine K_n rfl rfl rfl rfl ?_ | refine K_n' rfl rfl rfl ?_ | refine K_s rfl ?_))
                  refine K_v rfl (g_idx1 m rfl rfl rfl rfl rfl rfl hm) ?_
                  (repeat (first | refine K_v rfl rfl ?_ | refine K_g rfl rfl ?_ | refine K_n rfl rfl rfl rfl ?_ | refine K_n' rfl rfl rfl ?_ | refine K_s rfl ?_))
                  refine K_v rfl (g_load rfl (by
                    show (match (He [(q, Ob.cells (bools s))] (nx + 2)).t.get q with
                      | some (.cells cs) => some (cs, 0 + m)
                      | _ => none) = _
                    rw [He1_get]) rfl rfl rfl hbm) ?_
                  (repeat (first | refine K_v rfl rfl ?_ | refine K_g rfl rfl ?_ | refine K_n rfl rfl rfl rfl ?_ | refine K_n' rfl rfl rfl ?_ | refine K_s rfl ?_)); refine K_nil ?_
                  refine G_if0 rfl (G_skip (G_pop ?_))
                  refine K_run1 hN ?_; (repeat (first | refine K_v rfl rfl ?_ | refine K_g rfl rfl ?_ | refine K_n rfl rfl rfl rfl ?_ | refine K_n' rfl rfl rfl ?_ | refine K_s rfl ?_))
                  refine K_v rfl (g_idx1 m rfl rfl rfl rfl rfl rfl hm) ?_
                  refine K_s (g_store1 rfl rfl rfl rfl rfl rfl (He1_get _ _ _) (by rw [bools_len, i0]; omega)) ?_
                  refine K_nil ?_
                  refine G_popb (G_pop ?_)
                  refine K_run1 hN ?_
                  refine K_i rfl rfl (wi64 (b := ((k + 1 : Nat) : Int)) (by omega) (by omega) (by omega)) ?_
                  (repeat (first | refine K_v rfl rfl ?_ | refine K_g rfl rfl ?_ | refine K_n rfl rfl rfl rfl ?_ | refine K_n' rfl rfl rfl ?_ | refine K_s rfl ?_)); refine K_nil ?_
                  refine G_again (k + 1, s.set m true) ⟨by simp only [List.length_set]; exact i0, .inr (by simpa using hso)⟩ (by simp only; omega) (M1 rfl <| M1 rfl <| M1 rfl <| M1 rfl <| M1 rfl <| M1 rfl <| M1 rfl <| M1 rfl M0) (He_sub (Nat.le_refl _) (O1 ((T.get_set_same _ _ _).trans ?_) O0))
                  rw [Nat.zero_add, bools_set]
          · refine K_if0 rfl (decide_eq_false (by omega)) ?_
            have hkk : ∃ sl, seenStep tree.length at_ left s1 = some sl ∧ seenStep tree.length at_ right sl = some s := by
              rcases i1 with ⟨rfl, _⟩ | ⟨rfl, _⟩ | ⟨rfl, h⟩
              · omega
              · omega
              · exact h
            exact G_exit (G_pops (G_leave (G_popx (G_done s ⟨i0, hkk⟩ (M1 rfl <| M1 rfl <| M1 rfl <| M1 rfl M0) (Heap.Sub.refl _)))))
        · rintro s2 ⟨hs2, sl, hsl1, hsl2⟩
          rw [hsl1] at hun
          simp only at hun
          rw [hsl2] at hun
          simp only at hun
          obtain ⟨ml, rfl, ml1, ml2, _⟩ := hsplit _ _ _ hsl1
          obtain ⟨mr, rfl, mr1, mr2, _⟩ := hsplit _ _ _ hsl2
          simp only [Int.toNat_natCast] at hun
          have hbelow := leaf_below_ans cols hcs hcl j hj v hvq
          have habove := leaf_above_ans cols hcs hcl j hj (v + ((1 : Int) : Rat)) hv1q
          have hL := ih ml (belowC cols j v) s2 (nx + 2) ml2 (by omega) (belowC_sh hcs hj (ftext_sh hvq.n.sm hvq.d.sm)) (by rw [belowC_len]; exact hcl) hs2 (by omega)
          cases hcv : coverN rows floor all tree f ml (belowC cols j v) s2 with
          | none =>
            rw [hcv] at hL hun
            refine K_drawF hN mixed 0 ?_
            refine KE_q 0 1 rfl rfl rfl rfl rfl rfl (HsOk.ord rfl) ?_
            refine KE_q 0 2 rfl rfl rfl rfl rfl rfl (HsOk.ord rfl) ?_
            refine KE_q 2 3 rfl rfl rfl rfl rfl rfl (HsOk.ord rfl) ?_
            refine KE_q 0 4 rfl rfl rfl rfl rfl rfl (HsOk.ord rfl) ?_
            refine KE_q 0 5 rfl rfl rfl rfl rfl rfl (HsOk.ord rfl) ?_
            refine KE_q 16 6 rfl rfl rfl rfl rfl rfl (HsOk.ord rfl) ?_
            refine KE_q 0 7 rfl rfl rfl rfl rfl rfl (HsOk.ord rfl) ?_
            refine KE_c 120 8 128 120 rfl rfl rfl rfl rfl rfl rfl rfl rfl (hbelow _) (by repeat (first | exact trivial | refine ⟨.inl rfl, ?_⟩ | refine ⟨.inr rfl, ?_⟩)) ?_
            refine KE_c 255 9 384 255 rfl rfl rfl rfl rfl rfl rfl rfl rfl hL (by repeat (first | exact trivial | refine ⟨.inl rfl, ?_⟩ | refine ⟨.inr rfl, ?_⟩)) ?_
            refine KE_q 511 10 rfl rfl rfl rfl rfl rfl (HsOk.ord rfl) ?_
            refine KE_n 1023 11 rfl rfl rfl rfl rfl rfl rfl ?_
            refine KE_n 1023 12 rfl rfl rfl rfl rfl rfl rfl ?_
            refine KE_n 3071 13 rfl rfl rfl rfl rfl rfl rfl ?_
            refine KE_n 1023 14 rfl rfl rfl rfl rfl rfl rfl ?_
            refine KE_n 1023 15 rfl rfl rfl rfl rfl rfl rfl ?_
            refine KE_n 17407 16 rfl rfl rfl rfl rfl rfl rfl ?_
            refine KE_n 1023 17 rfl rfl rfl rfl rfl rfl rfl ?_
            refine KE_n 1023 18 rfl rfl rfl rfl rfl rfl rfl ?_
            refine KE_n 197631 19 rfl rfl rfl rfl rfl rfl rfl ?_
            refine KE_n 517119 20 rfl rfl rfl rfl rfl rfl rfl ?_
            refine KE_n 1048575 21 rfl rfl rfl rfl rfl rfl rfl ?_
            refine KE_q 2097151 22 rfl rfl rfl rfl rfl rfl (HsOk.ord rfl) ?_
            refine KE_q 4194303 23 rfl rfl rfl rfl rfl rfl (HsOk.ord rfl) ?_
            refine KE_nil ?_
            exact G_ret (G_end rfl (bad _ hun (by show nx + 2 + gN f ≤ _; omega)))
          | some s3 =>
            rw [hcv] at hL hun
            simp only at hun
            have hR := ih mr (aboveC cols j (v + ((1 : Int) : Rat))) s3 (nx + 2 + gN f) mr2 (by omega) (aboveC_sh hcs hj (ftext_sh hv1q.n.sm hv1q.d.sm)) (by rw [aboveC_len]; exact hcl) (coverN_len hs2 hcv) (by omega)
            rw [e11] at hR
            rw [← hun] at hR
            rw [e11] at habove
            refine K_drawF hN mixed 0 ?_
            refine KE_q 0 1 rfl rfl rfl rfl rfl rfl (HsOk.ord rfl) ?_
            refine KE_q 0 2 rfl rfl rfl rfl rfl rfl (HsOk.ord rfl) ?_
            refine KE_q 2 3 rfl rfl rfl rfl rfl rfl (HsOk.ord rfl) ?_
            refine KE_q 0 4 rfl rfl rfl rfl rfl rfl (HsOk.ord rfl) ?_
            refine KE_q 0 5 rfl rfl rfl rfl rfl rfl (HsOk.ord rfl) ?_
            refine KE_q 16 6 rfl rfl rfl rfl rfl rfl (HsOk.ord rfl) ?_
            refine KE_q 0 7 rfl rfl rfl rfl rfl rfl (HsOk.ord rfl) ?_
            refine KE_c 120 8 128 120 rfl rfl rfl rfl rfl rfl rfl rfl rfl (hbelow _) (by repeat (first | exact trivial | refine ⟨.inl rfl, ?_⟩ | refine ⟨.inr rfl, ?_⟩)) ?_
            refine KE_c 255 9 384 255 rfl rfl rfl rfl rfl rfl rfl rfl rfl hL (by repeat (first | exact trivial | refine ⟨.inl rfl, ?_⟩ | refine ⟨.inr rfl, ?_⟩)) ?_
            refine KE_q 511 10 rfl rfl rfl rfl rfl rfl (HsOk.ord rfl) ?_
            refine KE_qg 1023 11 rfl rfl rfl rfl rfl rfl rfl rfl (HsOk.ord rfl) ?_
            refine KE_qg 1023 12 rfl rfl rfl rfl rfl rfl rfl rfl (HsOk.ord rfl) ?_
            refine KE_qg 3071 13 rfl rfl rfl rfl rfl rfl rfl rfl (HsOk.ord rfl) ?_
            refine KE_qg 1023 14 rfl rfl rfl rfl rfl rfl rfl rfl (HsOk.ord rfl) ?_
            refine KE_qg 1023 15 rfl rfl rfl rfl rfl rfl rfl rfl (HsOk.ord rfl) ?_
            refine KE_qg 17407 16 rfl rfl rfl rfl rfl rfl rfl rfl (HsOk.ord rfl) ?_
            refine KE_qg 1023 17 rfl rfl rfl rfl rfl rfl rfl rfl (HsOk.ord rfl) ?_
            refine KE_cg 1023 18 131456 1023 rfl rfl rfl rfl rfl rfl rfl rfl rfl rfl rfl (hof _) (by repeat (first | exact trivial | refine ⟨.inl rfl, ?_⟩ | refine ⟨.inr rfl, ?_⟩)) ?_
            refine KE_cg 197631 19 393600 197631 rfl rfl rfl rfl rfl rfl rfl rfl rfl rfl rfl (hadd _) (by repeat (first | exact trivial | refine ⟨.inl rfl, ?_⟩ | refine ⟨.inr rfl, ?_⟩)) ?_
            refine KE_cg 517119 20 917888 517119 rfl rfl rfl rfl rfl rfl rfl rfl rfl rfl rfl (habove _) (by repeat (first | exact trivial | refine ⟨.inl rfl, ?_⟩ | refine ⟨.inr rfl, ?_⟩)) ?_
            refine KE_cg 1048575 21 1966464 1048575 rfl rfl rfl rfl rfl rfl rfl rfl rfl rfl rfl hR (by repeat (first | exact trivial | refine ⟨.inl rfl, ?_⟩ | refine ⟨.inr rfl, ?_⟩)) ?_
            refine KE_q 2097151 22 rfl rfl rfl rfl rfl rfl (HsOk.ord rfl) ?_
            refine KE_q 4194303 23 rfl rfl rfl rfl rfl rfl (HsOk.ord rfl) ?_
            refine KE_nil ?_
            refine G_ret (G_end rfl ?_)
            cases res with
            | none => exact bad _ rfl (by show nx + 2 + gN f + gN f ≤ _; omega)
            | some s => exact ⟨_, ⟨rfl, rfl⟩, He_sub (by show nx + 2 + gN f + gN f ≤ _; omega) (O1 (He1_get _ _ _) O0)⟩
end Go.Eng
end
section
namespace Go.Eng
open Go Go.RowKit Go.Proofs
set_option maxHeartbeats 8000000
set_option maxRecDepth 10000
def boolsAV (s : List Bool) : AV := .isl (bools s) s.length
theorem idx_bool_ans (s : List Bool) (b : Bool) (hl : s.length < 9223372036854775808) (H : Heap) : Ans cs0 F.slices_Index_bool_bool [boolsAV s, .bool b] H fun x K => (∃ z : Int, x = .int .i64 z ∧ decide (z ≥ 0) = s.contains b) ∧ K = H := by
  have hN := cz_ok
  refine G_body hN (fn := B.slices_Index_bool_bool) (sz := 19) rfl rfl rfl rfl rfl ?_
  refine K_run hN ?_; (repeat (first | refine K_v rfl rfl ?_ | refine K_g rfl rfl ?_ | refine K_n rfl rfl rfl rfl ?_ | refine K_n' rfl rfl rfl ?_ | refine K_s rfl ?_)); refine K_nil ?_
  refine G_mid (α := Unit) (fun _ => s.contains b = false) (fun _ => []) (fun _ => H) ?_ ?_
  · refine K_run hN ?_; (repeat (first | refine K_v rfl rfl ?_ | refine K_g rfl rfl ?_ | refine K_n rfl rfl rfl rfl ?_ | refine K_n' rfl rfl rfl ?_ | refine K_s rfl ?_)); refine K_nil ?_
    refine G_block ?_
    refine G_loop (α := Nat) (fun i => i ≤ s.length ∧ (s.take i).contains b = false) (fun i => s.length - i) (fun i => [(0, boolsAV s), (1, .bool b), (7, .int .i64 (s.length : Nat)), (8, .int .i64 (i : Nat))]) (fun _ => H)
      0 ⟨Nat.zero_le _, rfl⟩ (M1 rfl <| M1 rfl <| M1 rfl <| M1 rfl M0) (Heap.Sub.refl _) fun i ⟨i1, i2⟩ => ?_
    refine K_run hN ?_; (repeat (first | refine K_v rfl rfl ?_ | refine K_g rfl rfl ?_ | refine K_n rfl rfl rfl rfl ?_ | refine K_n' rfl rfl rfl ?_ | refine K_s rfl ?_)); refine K_nil ?_
    refine G_seq ?_
    by_cases hi : i < s.length
    · refine K_if1 rfl (decide_eq_true (by omega)) (G_skip (G_pop ?_))
      have hx := bools_at hi
      have hgx : s.getD i false = s[i] := by rw [List.getD_eq_getElem?_getD, List.getElem?_eq_getElem hi]; rfl
      have htk : (s.take (i + 1)).contains b = ((s.take i).contains b || (b == s[i])) := by
        rw [List.take_succ_eq_append_getElem hi, List.contains_append]; simp only [List.contains_cons, List.contains_nil, Bool.or_false]
      rw [hgx] at hx
      have hmem : s[i] ∈ s := List.getElem_mem _
      generalize s[i] = c at *
      refine G_seq (G_block ?_)
      refine K_run hN ?_; (repeat (first | refine K_v rfl rfl ?_ | refine K_g rfl rfl ?_ | refine K_n rfl rfl rfl rfl ?_ | refine K_n' rfl rfl rfl ?_ | refine K_s rfl ?_)); refine K_nil ?_
      refine K_run hN ?_
      (repeat (first | refine K_v rfl rfl ?_ | refine K_g rfl rfl ?_ | refine K_n rfl rfl rfl rfl ?_ | refine K_n' rfl rfl rfl ?_ | refine K_s rfl ?_))
      refine K_v rfl (g_idxi1 i rfl rfl rfl rfl rfl rfl hi) ?_
      refine K_v rfl (g_load rfl rfl rfl rfl rfl hx) ?_
      cases hbc : b == c with
      | true =>
        (repeat (first | refine K_b rfl rfl hbc ?_ | refine K_v rfl rfl ?_ | refine K_g rfl rfl ?_ | refine K_n rfl rfl rfl rfl ?_ | refine K_n' rfl rfl rfl ?_ | refine K_s rfl ?_))
        refine K_nil ?_
        refine G_if1 rfl ?_
        refine K_run hN ?_; (repeat (first | refine K_v rfl rfl ?_ | refine K_g rfl rfl ?_ | refine K_n rfl rfl rfl rfl ?_ | refine K_n' rfl rfl rfl ?_ | refine K_s rfl ?_)); refine K_nil ?_
        refine G_ret (LP_ret (MP_ret (G_end rfl ⟨⟨(i : Int), rfl, ?_⟩, rfl⟩)))
        rw [decide_eq_true (by omega)]
        symm
        rw [List.contains_iff_mem, eq_of_beq hbc]
        exact hmem
      | false =>
        (repeat (first | refine K_b rfl rfl hbc ?_ | refine K_v rfl rfl ?_ | refine K_g rfl rfl ?_ | refine K_n rfl rfl rfl rfl ?_ | refine K_n' rfl rfl rfl ?_ | refine K_s rfl ?_))
        refine K_nil ?_
        refine G_if0 rfl (G_skip (G_popb (G_pop ?_)))
        refine K_run1 hN ?_
        refine K_i rfl rfl (wi64 (b := ((i + 1 : Nat) : Int)) (by omega) (by omega) (by omega)) ?_
        (repeat (first | refine K_v rfl rfl ?_ | refine K_g rfl rfl ?_ | refine K_n rfl rfl rfl rfl ?_ | refine K_n' rfl rfl rfl ?_ | refine K_s rfl ?_)); refine K_nil ?_
        exact G_again (i + 1) ⟨hi, by rw [htk, i2, hbc]; rfl⟩ (by omega) (M1 rfl <| M1 rfl <| M1 rfl <| M1 rfl M0) (Heap.Sub.refl _)
    · refine K_if0 rfl (decide_eq_false (by omega)) ?_
      refine G_exit (G_pops (G_leave (G_popx (G_done () ?_ M0 (Heap.Sub.refl _)))))
      rw [List.take_of_length_le (by omega)] at i2
      exact i2
  · rintro ⟨⟩ h
    refine K_run hN ?_; (repeat (first | refine K_v rfl rfl ?_ | refine K_g rfl rfl ?_ | refine K_n rfl rfl rfl rfl ?_ | refine K_n' rfl rfl rfl ?_ | refine K_s rfl ?_)); refine K_nil ?_
    exact G_ret (G_end rfl ⟨⟨-1, rfl, by rw [h]; rfl⟩, rfl⟩)
theorem has_bool_ans (s : List Bool) (b : Bool) (hl : s.length < 9223372036854775808) (H : Heap) : Ans cs0 F.slices_Contains_bool_bool [boolsAV s, .bool b] H fun x K => x = .bool (s.contains b) ∧ K = H := by
  have hN := cz_ok
  refine G_body hN (fn := B.slices_Contains_bool_bool) (sz := 9) rfl rfl rfl rfl rfl ?_
  refine K_run hN ?_; (repeat (first | refine K_v rfl rfl ?_ | refine K_g rfl rfl ?_ | refine K_n rfl rfl rfl rfl ?_ | refine K_n' rfl rfl rfl ?_ | refine K_s rfl ?_)); refine K_nil ?_
  refine K_run hN ?_; (repeat (first | refine K_v rfl rfl ?_ | refine K_g rfl rfl ?_ | refine K_n rfl rfl rfl rfl ?_ | refine K_n' rfl rfl rfl ?_ | refine K_s rfl ?_))
  refine K_cx rfl rfl (idx_bool_ans s b hl H) ?_
  rintro y K ⟨⟨z, rfl, hz⟩, rfl⟩
  (repeat (first | refine K_v rfl rfl ?_ | refine K_g rfl rfl ?_ | refine K_n rfl rfl rfl rfl ?_ | refine K_n' rfl rfl rfl ?_ | refine K_s rfl ?_))
  refine K_nil (G_ret (G_end rfl ⟨?_, rfl⟩))
  show AV.bool (decide (z ≥ 0)) = _
  rw [hz]
/-- Whether a tree shows that nothing is less than a floor. -/
def coversB (l : LPS) (tree : List NodeS) (floor : List UInt8) (all : Bool) : Bool :=
  l.may && decide (0 < tree.length) && decide (tree.length ≤ 601) && (isq floor || all) &&
    match coverN l.rows (qv floor) all tree tree.length 0 l.cols (List.replicate tree.length false) with
    | some s => !(s.contains false)
    | none => false
theorem repl_bools (n : Nat) : repl n [.bool false] = bools (List.replicate n false) := by
  unfold repl bools
  induction n with
  | zero => rfl
  | succ n ih => rw [List.replicate_succ, List.flatten_cons, ih]; rfl
theorem leaf_Covers_ans (l : LPS) (hl : l.Sh) (h1 : l.cols.length < 9223372036854775808) (h2 : l.rows.length < 9223372036854775808) (tree : List NodeS) (ht : ∀ x ∈ tree, x.Sh) (htl : tree.length < 9223372036854775808) (floor : List UInt8) (hf : Sh floor) (all : Bool) (H : Heap) :
    Ans cs0 F.leaf_Covers [l.av, treeAV tree, .str floor, .bool all] H fun x K => x = .bool (coversB l tree floor all) ∧ K = H := by
  have hN := cz_ok
  refine Ans_free gl0_free (Imp.refl _) (by
    show (l.av.free && ((treeAV tree).free && true)) = true
    rw [lp_free, tree_free]; rfl) ?_ H
  have hmay := prob_May_ans l hl h1 h2
  have hget := frac_Get_ans floor hf
  have hgetA : ∀ H, Ans cs0 F.frac_Get [.str floor] H fun x K => x = .tuple [rdAV floor, .bool (isq floor)] ∧ K = H := fun H => by
    have := hget H
    unfold fgetAV at this
    unfold rdAV isq
    cases hq : fget floor with
    | none => rw [hq] at this; exact this
    | some q => rw [hq] at this; exact this
  refine G_body hN (fn := B.leaf_Covers) (sz := 59) rfl rfl rfl rfl rfl ?_
  refine K_run hN ?_; (repeat (first | refine K_v rfl rfl ?_ | refine K_g rfl rfl ?_ | refine K_n rfl rfl rfl rfl ?_ | refine K_n' rfl rfl rfl ?_ | refine K_s rfl ?_)); refine K_nil ?_
  refine G_unbox 4 0 [colsAV l.cols, rowsAV l.rows] [(1, treeAV tree), (2, .str floor), (3, .bool all)] 1 rfl rfl (M1 rfl <| M1 rfl <| M1 rfl M0) (Nat.le_refl _) ?_
  unfold coversB
  refine K_run hN ?_; (repeat (first | refine K_v rfl rfl ?_ | refine K_g rfl rfl ?_ | refine K_n rfl rfl rfl rfl ?_ | refine K_n' rfl rfl rfl ?_ | refine K_s rfl ?_ | refine K_c rfl rfl (hgetA _) ?_)); refine K_nil ?_
  cases hM : l.may with
  | false =>
    rw [hM] at hmay
    refine G_seq ?_
    refine K_run hN ?_; (repeat (first | refine K_v rfl rfl ?_ | refine K_g rfl rfl ?_ | refine K_n rfl rfl rfl rfl ?_ | refine K_n' rfl rfl rfl ?_ | refine K_s rfl ?_ | refine K_c rfl rfl (hmay _) ?_)); refine K_nil ?_
    refine G_if1 rfl ?_
    refine K_run hN ?_; (repeat (first | refine K_v rfl rfl ?_ | refine K_g rfl rfl ?_ | refine K_n rfl rfl rfl rfl ?_ | refine K_n' rfl rfl rfl ?_ | refine K_s rfl ?_)); refine K_nil ?_
    exact G_ret (G_end rfl (Frz_bool rfl))
  | true =>
    rw [hM] at hmay
    cases e1 : decide (((tree.length : Nat) : Int) = 0) with
    | true =>
      have g1 := of_decide_eq_true e1
      refine G_seq ?_
      refine K_run hN ?_; (repeat (first | refine K_b rfl rfl e1 ?_ | refine K_v rfl rfl ?_ | refine K_g rfl rfl ?_ | refine K_n rfl rfl rfl rfl ?_ | refine K_n' rfl rfl rfl ?_ | refine K_s rfl ?_ | refine K_c rfl rfl (hmay _) ?_)); refine K_nil ?_
      refine G_if1 rfl ?_
      refine K_run hN ?_; (repeat (first | refine K_v rfl rfl ?_ | refine K_g rfl rfl ?_ | refine K_n rfl rfl rfl rfl ?_ | refine K_n' rfl rfl rfl ?_ | refine K_s rfl ?_)); refine K_nil ?_
      exact G_ret (G_end rfl (Frz_bool (by rw [decide_eq_false (show ¬ 0 < tree.length by omega)]; rfl)))
    | false =>
      have g1 := of_decide_eq_false e1
      cases e2 : decide (((tree.length : Nat) : Int) > 601) with
      | true =>
        have g2 := of_decide_eq_true e2
        refine G_seq ?_
        refine K_run hN ?_; (repeat (first | refine K_b rfl rfl e1 ?_ | refine K_b rfl rfl e2 ?_ | refine K_v rfl rfl ?_ | refine K_g rfl rfl ?_ | refine K_n rfl rfl rfl rfl ?_ | refine K_n' rfl rfl rfl ?_ | refine K_s rfl ?_ | refine K_c rfl rfl (hmay _) ?_)); refine K_nil ?_
        refine G_if1 rfl ?_
        refine K_run hN ?_; (repeat (first | refine K_v rfl rfl ?_ | refine K_g rfl rfl ?_ | refine K_n rfl rfl rfl rfl ?_ | refine K_n' rfl rfl rfl ?_ | refine K_s rfl ?_)); refine K_nil ?_
        exact G_ret (G_end rfl (Frz_bool (by rw [decide_eq_false (show ¬ tree.length ≤ 601 by omega)]; simp)))
      | false =>
        have g2 := of_decide_eq_false e2
        rw [decide_eq_true (show 0 < tree.length by omega), decide_eq_true (show tree.length ≤ 601 by omega)]
        by_cases hfa : (isq floor || all) = true
        rotate_left
        · have hfa : (isq floor || all) = false := by rw [Bool.eq_false_iff]; exact hfa
          have hfa2 := hfa
          simp only [Bool.or_eq_false_iff] at hfa2
          obtain ⟨q1, q2⟩ := hfa2
          subst q2
          rw [q1]
          refine G_seq ?_
          refine K_run hN ?_; (repeat (first | refine K_b rfl rfl e1 ?_ | refine K_b rfl rfl e2 ?_ | refine K_b rfl rfl q1 ?_ | refine K_v rfl rfl ?_ | refine K_g rfl rfl ?_ | refine K_n rfl rfl rfl rfl ?_ | refine K_n' rfl rfl rfl ?_ | refine K_s rfl ?_ | refine K_c rfl rfl (hmay _) ?_)); refine K_nil ?_
          refine G_if1 rfl ?_
          refine K_run hN ?_; (repeat (first | refine K_v rfl rfl ?_ | refine K_g rfl rfl ?_ | refine K_n rfl rfl rfl rfl ?_ | refine K_n' rfl rfl rfl ?_ | refine K_s rfl ?_)); refine K_nil ?_
          exact G_ret (G_end rfl (Frz_bool rfl))
        · rw [hfa]
          have hm := may_f hM
          have hfn : IsQ (rdAV floor) (qv floor) := rdAV_q floor
          refine G_mid (α := Unit) (fun _ => True) (fun _ => [(1, treeAV tree), (3, .bool all), (4, .iptr [colsAV l.cols, rowsAV l.rows] 0), (9, rdAV floor)]) (fun _ => Hn 1) ?_ ?_
          · cases q1 : isq floor with
            | true =>
              refine K_run hN ?_; (repeat (first | refine K_b rfl rfl e1 ?_ | refine K_b rfl rfl e2 ?_ | refine K_b rfl rfl q1 ?_ | refine K_v rfl rfl ?_ | refine K_g rfl rfl ?_ | refine K_n rfl rfl rfl rfl ?_ | refine K_n' rfl rfl rfl ?_ | refine K_s rfl ?_ | refine K_c rfl rfl (hmay _) ?_)); refine K_nil ?_
              refine G_if0 rfl (G_skip ?_)
              exact G_done () trivial (M1 rfl <| M1 rfl <| M1 rfl <| M1 rfl M0) (Heap.Sub.refl _)
            | false =>
              have q2 : all = true := by simpa [q1] using hfa
              subst q2
              refine K_run hN ?_; (repeat (first | refine K_b rfl rfl e1 ?_ | refine K_b rfl rfl e2 ?_ | refine K_b rfl rfl q1 ?_ | refine K_v rfl rfl ?_ | refine K_g rfl rfl ?_ | refine K_n rfl rfl rfl rfl ?_ | refine K_n' rfl rfl rfl ?_ | refine K_s rfl ?_ | refine K_c rfl rfl (hmay _) ?_)); refine K_nil ?_
              refine G_if0 rfl (G_skip ?_)
              exact G_done () trivial (M1 rfl <| M1 rfl <| M1 rfl <| M1 rfl M0) (Heap.Sub.refl _)
          · rintro ⟨⟩ _
            have hfq := qv_hq floor
            generalize rdAV floor = fa at *
            generalize qv floor = fq at *
            have hnode := leaf_node_ans l.cols l.rows tree fa fq all 1 hl.rows (by have := hm.nr; omega) ht (by omega) hfn hfq tree.length 0 l.cols (List.replicate tree.length false) 3 (by omega) (Nat.le_refl _) hl.cols (by have := hm.nc; omega) (List.length_replicate ..) (by decide)
            cases hfn
            all_goals (
              refine K_drawF hN mixed 1 ?_
              refine KE_q 0 1 rfl rfl rfl rfl rfl rfl (HsOk.ord rfl) ?_
              refine KE_q 0 2 rfl rfl rfl rfl rfl rfl (HsOk.ord rfl) ?_
              refine KE_q 0 3 rfl rfl rfl rfl rfl rfl (HsOk.ord rfl) ?_
              refine KE_q 0 4 rfl rfl rfl rfl rfl rfl (HsOk.ord rfl) ?_
              refine KE_q 0 5 rfl rfl rfl rfl rfl rfl (HsOk.ord rfl) ?_
              refine KE_q 16 6 rfl rfl rfl rfl rfl rfl (HsOk.ord rfl) ?_
              refine KE_f 48 7 2 rfl rfl rfl rfl rfl rfl (f_make tree.length tree.length rfl rfl rfl rfl rfl rfl rfl (Nat.le_refl _) (by omega) (by show 1 * _ ≤ _; omega)) ?_
              refine KE_q 127 8 rfl rfl rfl rfl rfl rfl (HsOk.ord rfl) ?_
              refine KE_l 255 9 256 255 rfl rfl rfl rfl rfl rfl rfl rfl rfl (by repeat (first | exact trivial | refine ⟨.inl rfl, ?_⟩ | refine ⟨.inr rfl, ?_⟩)) ?_
              refine KE_q 511 10 rfl rfl rfl rfl rfl rfl (HsOk.ord rfl) ?_
              refine KE_nil ?_
              refine G_unboxE 11 2 [colsAV l.cols, rowsAV l.rows, treeAV tree, _, .bool all, .slice 1 0 tree.length tree.length true 1] [(4, .iptr [colsAV l.cols, rowsAV l.rows] 0)] [(1, .cells (bools (List.replicate tree.length false)))] 3 rfl rfl (M1 rfl M0) (Od (congrArg (fun c => some (Ob.cells c)) (repl_bools _)) (by decide) O0) (Nat.le_refl _) ?_
              cases hcv : coverN l.rows _ all tree tree.length 0 l.cols (List.replicate tree.length false) with
              | none =>
                rw [hcv] at hnode
                refine K_run hN ?_; (repeat (first | refine K_v rfl rfl ?_ | refine K_g rfl rfl ?_ | refine K_n rfl rfl rfl rfl ?_ | refine K_n' rfl rfl rfl ?_ | refine K_s rfl ?_))
                refine K_c rfl rfl hnode ?_
                (repeat (first | refine K_v rfl rfl ?_ | refine K_g rfl rfl ?_ | refine K_n rfl rfl rfl rfl ?_ | refine K_n' rfl rfl rfl ?_ | refine K_s rfl ?_)); refine K_nil ?_
                exact G_ret (G_end rfl (Frz_bool (by simp)))
              | some s =>
                rw [hcv] at hnode
                have hsl := coverN_len (List.length_replicate ..) hcv
                have hb := has_bool_ans s false (by omega)
                unfold boolsAV at hb
                rw [hsl] at hb
                refine K_run hN ?_; (repeat (first | refine K_v rfl rfl ?_ | refine K_g rfl rfl ?_ | refine K_n rfl rfl rfl rfl ?_ | refine K_n' rfl rfl rfl ?_ | refine K_s rfl ?_))
                refine K_c rfl rfl hnode ?_
                (repeat (first | refine K_v rfl rfl ?_ | refine K_g rfl rfl ?_ | refine K_n rfl rfl rfl rfl ?_ | refine K_n' rfl rfl rfl ?_ | refine K_s rfl ?_))
                refine K_c rfl rfl (Ans_freeze [1] (.cons (.slice (List.Mem.head _) (He1_get _ _ _) (seg_all _ (by rw [bools_len, hsl]; simp)) (FZ_same_list _)) (.cons .same .nil)) (hb _)) ?_
                (repeat (first | refine K_v rfl rfl ?_ | refine K_g rfl rfl ?_ | refine K_n rfl rfl rfl rfl ?_ | refine K_n' rfl rfl rfl ?_ | refine K_s rfl ?_)); refine K_nil ?_
                exact G_ret (G_end rfl (Frz_bool (by simp))))
end Go.Eng
end
