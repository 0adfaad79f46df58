import Derived.Test.YtekfcbeballilaaGreatDoorLc
import Derived.Test.YtekfcbeballilaaGreatDoorK8
import Derived.Test.YtekfcbeballilaaGreatDoorN3
section
namespace Go.Eng
set_option maxHeartbeats 4000000
set_option maxRecDepth 100000
def tinyL : LPS := ⟨[⟨[120], [48], [50], [50], true⟩, ⟨[121], [48], [], [51], false⟩], [⟨[114], 3, [(0, [49]), (1, [49])], [51], []⟩]⟩
def lfN : NodeS := ⟨-1, [], 0, 0, [[51]]⟩
def treeN (at_ : List UInt8) (col left right : Int) (more : List NodeS) : List NodeS := ⟨col, at_, left, right, []⟩ :: lfN :: lfN :: more
theorem cover_good : coversB tinyL (treeN [49] 0 1 2 []) [55] false = true := by decide +kernel
theorem cover_0 : coversB tinyL (treeN [49] 0 2 2 []) [55] false = false := by decide +kernel
theorem cover_1 : coversB tinyL (treeN [49] 0 0 2 []) [55] false = false := by decide +kernel
theorem cover_2 : coversB tinyL (treeN [49] 0 1 2 [lfN]) [55] false = false := by decide +kernel
theorem cover_3 : coversB tinyL (treeN [49] 0 1 3 []) [55] false = false := by decide +kernel
theorem cover_4 : coversB tinyL (treeN [49] 1 1 2 []) [55] false = false := by decide +kernel
theorem cover_5 : coversB tinyL (treeN [49] 2 1 2 []) [55] false = false := by decide +kernel
/-- A cut at any whole number is one; another text is none. -/
theorem cover_6 (a : List UInt8) (ha : a.length ≤ 10) : coversB tinyL (treeN a 0 1 2 []) [55] false = match fget a with
    | some q => q.den == 1
    | none => false := by
  have hmay : tinyL.may = true := by decide +kernel
  have hq7 : qv [55] = 7 := by decide +kernel
  have hi7 : isq [55] = true := by decide +kernel
  have h1 : (treeN a 0 1 2 []).getD 1 default = lfN := rfl
  have h2 : (treeN a 0 1 2 []).getD 2 default = lfN := rfl
  have h0 : (treeN a 0 1 2 []).getD 0 default = ⟨0, a, 1, 2, []⟩ := rfl
  have leaf1 : ∀ cols s, coverN tinyL.rows 7 false (treeN a 0 1 2 []) 2 1 cols s = if shownB tinyL.rows 7 false cols [[51]] then some (s.set 1 true) else none := fun cols s => by
    rw [coverN, h1]; rfl
  have leaf2 : ∀ cols s, coverN tinyL.rows 7 false (treeN a 0 1 2 []) 2 2 cols s = if shownB tinyL.rows 7 false cols [[51]] then some (s.set 2 true) else none := fun cols s => by
    rw [coverN, h2]; rfl
  unfold coversB
  rw [hmay, hq7, hi7]
  have hl : (treeN a 0 1 2 []).length = 3 := rfl
  rw [hl]
  have hrun : coverN tinyL.rows 7 false (treeN a 0 1 2 []) 3 0 tinyL.cols (List.replicate 3 false) = match fget a with
      | none => none
      | some v => if noBranch tinyL.cols 0 v then none else
        match coverN tinyL.rows 7 false (treeN a 0 1 2 []) 2 1 (belowC tinyL.cols 0 v) [true, true, true] with
        | none => none
        | some s3 => coverN tinyL.rows 7 false (treeN a 0 1 2 []) 2 2 (aboveC tinyL.cols 0 (v + 1)) s3 := by
    rw [coverN, h0]; rfl
  rw [hrun]
  cases hf : fget a with
  | none => rfl
  | some v =>
    simp only
    -- the number is small
    have hsm : v.num.natAbs < 10 ^ 10 := by
      obtain ⟨lF, lT⟩ := get_law a
      cases hg : getOk a with
      | false => rw [lF hg] at hf; cases hf
      | true =>
        obtain ⟨q, q1, _, q3, _⟩ := lT hg
        rw [hf] at q1
        cases q1
        have hp : numOk (numOf a) = true := by
          simp only [getOk, partsOk, Bool.and_eq_true] at hg
          exact hg.1.1.1.1.1
        rw [q3]
        have hle : (numOf a).length ≤ 10 := by
          have h3 := (cutAt_len 47 (absOf a)).1
          have h4 : (absOf a).length ≤ a.length := by unfold absOf; cases negOf a <;> simp
          exact Nat.le_trans h3 (Nat.le_trans h4 ha)
        exact Nat.lt_of_lt_of_le (dval_lt (numOk_iff.1 hp).2.2.2) (Nat.pow_le_pow_right (by decide) hle)
    cases hd : v.den == 1 with
    | false =>
      have : noBranch tinyL.cols 0 v = true := by rw [noBranch, hd]; rfl
      rw [this]; rfl
    | true =>
      have hd1 : v.den = 1 := eq_of_beq hd
      obtain ⟨z, rfl⟩ : ∃ z : Int, v = (z : Rat) := ⟨v.num, by
        have := Rat.mkRat_self v
        rw [hd1] at this
        rw [← this, Rat.mkRat_one]; rfl⟩
      have hz : (z : Rat).num = z := rfl
      rw [hz] at hsm
      have big : (10 : Nat) ^ 11 ≤ 10 ^ 2000 := by decide +kernel
      have e1 : ((z : Rat) + 1) = ((z + 1 : Int) : Rat) := by rw [Rat.intCast_add]; rfl
      have t1 := fget_ftext (q := (z : Rat)) (Nat.lt_of_lt_of_le (show (z : Rat).num.natAbs < 10 ^ 11 by rw [hz]; omega) big) (Nat.lt_of_lt_of_le (show 1 < 10 ^ 11 by decide) big)
      have t2 := fget_ftext (q := ((z + 1 : Int) : Rat)) (Nat.lt_of_lt_of_le (show ((z + 1 : Int) : Rat).num.natAbs < 10 ^ 11 by show (z + 1).natAbs < _; omega) big) (Nat.lt_of_lt_of_le (show 1 < 10 ^ 11 by decide) big)
      have hnb : noBranch tinyL.cols 0 (z : Rat) = false := by
        rw [noBranch, hd, e1, isq, t2]; rfl
      rw [hnb, e1]
      simp only [Bool.false_eq_true, if_false]
      have b1 : shownB tinyL.rows 7 false (belowC tinyL.cols 0 (z : Rat)) [[51]] = true := by
        rcases (show z < 0 ∨ z = 0 ∨ z = 1 ∨ 2 ≤ z by omega) with h | rfl | rfl | h
        · have hb : belowC tinyL.cols 0 (z : Rat) = [⟨[120], [48], ftext (z : Rat), [50], true⟩, ⟨[121], [48], [], [51], false⟩] := by
            have h3 : ((z : Rat) < qv [50]) := by
              have : qv [50] = 2 := by decide +kernel
              rw [this]; exact_mod_cast (show z < 2 by omega)
            have h4 : (tinyL.cols.getD 0 default).up = [50] := rfl
            unfold belowC
            rw [h4, decide_eq_true h3, Bool.not_true, Bool.and_false, if_neg (by decide)]; rfl
          have hc : (belowC tinyL.cols 0 (z : Rat)).any crossC = true := by
            rw [hb, List.any_cons]
            have : crossC ⟨[120], [48], ftext (z : Rat), [50], true⟩ = true := by
              have h5 : isq [48] = true := by decide +kernel
              have h6 : qv [48] = 0 := by decide +kernel
              have h7 : isq (ftext (z : Rat)) = true := by rw [isq, t1]; rfl
              have h8 : qv (ftext (z : Rat)) = (z : Rat) := by rw [qv, t1]; rfl
              show (isq [48] && isq (ftext (z : Rat)) && decide (qv (ftext (z : Rat)) < qv [48])) = true
              rw [h5, h7, h8, h6, decide_eq_true (by exact_mod_cast h)]; rfl
            rw [this]; rfl
          rw [shownB, hc]; rfl
        · decide +kernel
        · decide +kernel
        · have hb : belowC tinyL.cols 0 (z : Rat) = tinyL.cols := by
            have h3 : ¬ ((z : Rat) < qv [50]) := by
              have : qv [50] = 2 := by decide +kernel
              rw [this]; intro h5
              have : z < 2 := by exact_mod_cast h5
              omega
            have h4 : (tinyL.cols.getD 0 default).up = [50] := rfl
            have h5 : isq [50] = true := by decide +kernel
            unfold belowC
            rw [h4, decide_eq_false h3, h5, if_pos (by decide)]
          rw [hb]; decide +kernel
      have b2 : shownB tinyL.rows 7 false (aboveC tinyL.cols 0 ((z + 1 : Int) : Rat)) [[51]] = true := by
        rcases (show z < 0 ∨ z = 0 ∨ z = 1 ∨ 2 ≤ z by omega) with h | rfl | rfl | h
        · have hb : aboveC tinyL.cols 0 ((z + 1 : Int) : Rat) = tinyL.cols := by
            have h3 : ¬ (qv [48] < ((z + 1 : Int) : Rat)) := by
              have : qv [48] = 0 := by decide +kernel
              rw [this]; intro h5
              have : 0 < z + 1 := by exact_mod_cast h5
              omega
            have h4 : (tinyL.cols.getD 0 default).low = [48] := rfl
            have h5 : isq [48] = true := by decide +kernel
            unfold aboveC
            rw [h4, decide_eq_false h3, h5, if_pos (by decide)]
          rw [hb]; decide +kernel
        · decide +kernel
        · decide +kernel
        · have hb : aboveC tinyL.cols 0 ((z + 1 : Int) : Rat) = [⟨[120], ftext ((z + 1 : Int) : Rat), [50], [50], true⟩, ⟨[121], [48], [], [51], false⟩] := by
            have h3 : qv [48] < ((z + 1 : Int) : Rat) := by
              have : qv [48] = 0 := by decide +kernel
              rw [this]; exact_mod_cast (show 0 < z + 1 by omega)
            have h4 : (tinyL.cols.getD 0 default).low = [48] := rfl
            unfold aboveC
            rw [h4, decide_eq_true h3, Bool.not_true, Bool.and_false, if_neg (by decide)]; rfl
          have hc : (aboveC tinyL.cols 0 ((z + 1 : Int) : Rat)).any crossC = true := by
            rw [hb, List.any_cons]
            have : crossC ⟨[120], ftext ((z + 1 : Int) : Rat), [50], [50], true⟩ = true := by
              have h5 : isq [50] = true := by decide +kernel
              have h6 : qv [50] = 2 := by decide +kernel
              have h7 : isq (ftext ((z + 1 : Int) : Rat)) = true := by rw [isq, t2]; rfl
              have h8 : qv (ftext ((z + 1 : Int) : Rat)) = ((z + 1 : Int) : Rat) := by rw [qv, t2]; rfl
              show (isq (ftext ((z + 1 : Int) : Rat)) && isq [50] && decide (qv [50] < qv (ftext ((z + 1 : Int) : Rat)))) = true
              rw [h5, h7, h8, h6, decide_eq_true (by exact_mod_cast (show 2 < z + 1 by omega))]; rfl
            rw [this]; rfl
          rw [shownB, hc]; rfl
      rw [leaf1, b1, if_pos rfl]
      simp only
      rw [leaf2, b2, if_pos rfl]
      rfl
end Go.Eng
end
section
namespace Go.Eng
def tinyAV : AV := .agg [.isl [.str [120], .str [48], .str [50], .str [50], .bool true, .str [121], .str [48], .str [], .str [51], .bool false] 2, .isl [.str [114], .int .i64 (3), .isl [.int .i64 (0), .str [49], .int .i64 (1), .str [49]] 2, .str [51], .str []] 1]
def tiny : Fact := ⟨10, [], tinyAV⟩
def cv : Fact := ⟨12, [tinyAV, .isl [.int .i64 (0), .str [49], .int .i64 (1), .int .i64 (2), .nilsl, .int .i64 (-1), .str [], .int .i64 (0), .int .i64 (0), .isl [.str [51]] 1, .int .i64 (-1), .str [], .int .i64 (0), .int .i64 (0), .isl [.str [51]] 1] 3, .str [55], .bool false], .bool true⟩
end Go.Eng
end
section
namespace Go.Eng
set_option maxRecDepth 1000000
theorem tiny_p : chkF [] tiny = true := by decide +kernel
end Go.Eng
end
section
namespace Go.Eng
open Go Go.RowKit Go.Proofs
set_option maxHeartbeats 8000000
set_option maxRecDepth 10000
theorem tiny_ans (H : Heap) : Ans cs0 F.law14_Tiny [] H fun x K => x = tinyL.av ∧ K = H := chkF_okr tiny_p trivial H
theorem tiny_sh : tinyL.Sh := by
  refine ⟨fun c hc => ?_, fun r hr => ?_⟩
  · simp only [tinyL, List.mem_cons, List.not_mem_nil, or_false] at hc
    rcases hc with rfl | rfl <;> exact ⟨(by show _ < _; decide), (by show _ < _; decide), (by show _ < _; decide)⟩
  · simp only [tinyL, List.mem_cons, List.not_mem_nil, or_false] at hr
    subst hr
    refine ⟨(by show _ < _; decide), fun c hc => ?_, (by show _ < _; decide)⟩
    simp only [List.mem_cons, List.not_mem_nil, or_false] at hc
    rcases hc with rfl | rfl <;> (show (1 : Nat) < _; decide)
theorem node_sh {a : List UInt8} (ha : a.length ≤ 10) {col left right : Int} {more : List NodeS} (hm : ∀ x ∈ more, x = lfN) : ∀ x ∈ treeN a col left right more, x.Sh := by
  have hlf : lfN.Sh := ⟨(by show (0 : Nat) < _; decide), fun s hs => (by
    simp only [lfN, List.mem_cons, List.not_mem_nil, or_false] at hs
    subst hs
    show (1 : Nat) < _; decide), (by show _ ≤ _; decide)⟩
  intro x hx
  simp only [treeN, List.mem_cons] at hx
  rcases hx with rfl | rfl | rfl | hx
  · exact ⟨(by show a.length < _; omega), fun s hs => (by cases hs), Nat.zero_le _⟩
  · exact hlf
  · exact hlf
  · rw [hm x hx]; exact hlf
/-- The cells of such a tree, as they are built. -/
def cellsN (a : List UInt8) (col left right : Int) (more : List NodeS) : List AV := [.int .i64 col, .str a, .int .i64 left, .int .i64 right, .nilsl] ++ ((lfN :: lfN :: more).flatMap NodeS.av)
theorem Imps_app_refl {x y : AV} (h : Imp x y) (pre post : List AV) : Imps (pre ++ x :: post) (pre ++ y :: post) := by
  induction pre with
  | nil => exact .cons h (Imps_refl post)
  | cons p pre ih => exact .cons (Imp.refl p) ih
theorem Imp_isl {xs ys : List AV} {n : Nat} (h : Imps xs ys) (hn : ys.length = xs.length) (h0 : xs ≠ [] ∨ n = 0 ∧ xs = [] ∨ n ≠ 0) : Imp (.isl xs n) (.isl ys n) := fun ρ z v hv => by
  cases hv with
  | isl0 A c =>
    cases h
    exact .isl0 A c
  | isl _ _ b o c vs h1 h2 h3 => exact .isl ys n b o c vs (h.vrs h1) h2 h3
theorem covers_ans (a : List UInt8) (ha : a.length ≤ 10) (col left right : Int) (more : List NodeS) (hm : ∀ x ∈ more, x = lfN) (hml : more.length ≤ 10) (b : Bool) (hb : coversB tinyL (treeN a col left right more) [55] false = b) (H : Heap) :
    Ans cs0 F.leaf_Covers [tinyL.av, .isl (cellsN a col left right more) (more.length + 3), .str [55], .bool false] H fun x K => x = .bool b ∧ K = H := by
  have h1 := leaf_Covers_ans tinyL tiny_sh (by decide) (by decide) (treeN a col left right more) (node_sh ha hm) (by simp only [treeN, List.length_cons]; omega) [55] (by show (1 : Nat) < _; decide) false H
  rw [hb] at h1
  refine Ans_imp (.cons (Imp.refl _) (.cons ?_ (Imps_refl _))) h1
  have e : treeAV (treeN a col left right more) = .isl ([.int .i64 col, .str a, .int .i64 left, .int .i64 right] ++ .isl [] 0 :: ((lfN :: lfN :: more).flatMap NodeS.av)) (more.length + 3) := rfl
  rw [e]
  have e2 : cellsN a col left right more = [.int .i64 col, .str a, .int .i64 left, .int .i64 right] ++ .nilsl :: ((lfN :: lfN :: more).flatMap NodeS.av) := rfl
  rw [e2]
  refine Imp_isl (Imps_app_refl Imp_isl0 _ _) ?_ (.inl (by simp))
  simp
theorem leafShape_ans (n : Int) (s : List UInt8) (H : Heap) : Ans cs0 F.law14_LeafShape [.int .i64 n, .str s] H fun x K => x = .bool true ∧ K = H := by
  have hN := cz_ok
  refine Ans_free gl0_free (Imp.refl _) rfl ?_ H
  have hbeg := law14_begun_ans
  have htext := law1_Text_ans s 10
  have hgood := covers_ans [49] (by decide) 0 1 2 [] (fun x hx => by cases hx) (by decide) true cover_good
  refine G_body hN (fn := B.law14_LeafShape) (sz := 89) rfl rfl rfl rfl rfl ?_
  refine K_run hN ?_; (repeat (first | refine K_v rfl rfl ?_ | refine K_g rfl rfl ?_ | refine K_n rfl rfl rfl rfl ?_ | refine K_n' rfl rfl rfl ?_ | refine K_s rfl ?_)); refine K_nil ?_
  refine K_run hN ?_; (repeat (first | refine K_v rfl rfl ?_ | refine K_g rfl rfl ?_ | refine K_n rfl rfl rfl rfl ?_ | refine K_n' rfl rfl rfl ?_ | refine K_s rfl ?_ | refine K_c rfl rfl (hbeg _) ?_)); refine K_nil ?_
  refine G_seq ?_
  refine K_run hN ?_; (repeat (first | refine K_v rfl rfl ?_ | refine K_g rfl rfl ?_ | refine K_n rfl rfl rfl rfl ?_ | refine K_n' rfl rfl rfl ?_ | refine K_s rfl ?_)); refine K_nil ?_
  refine G_if0 rfl (G_skip (G_pop ?_))
  refine K_run hN ?_; (repeat (first | refine K_v rfl rfl ?_ | refine K_g rfl rfl ?_ | refine K_n rfl rfl rfl rfl ?_ | refine K_n' rfl rfl rfl ?_ | refine K_s rfl ?_ | refine K_c rfl rfl (tiny_ans _) ?_)); refine K_nil ?_
  refine G_unbox 6 0 [colsAV tinyL.cols, rowsAV tinyL.rows] [(0, .int .i64 n), (1, .str s)] 1 rfl rfl (M1 rfl <| M1 rfl M0) (Nat.le_refl _) ?_
  refine K_run hN ?_; (repeat (first | refine K_v rfl rfl ?_ | refine K_g rfl rfl ?_ | refine K_n rfl rfl rfl rfl ?_ | refine K_n' rfl rfl rfl ?_ | refine K_s rfl ?_ | refine K_c rfl rfl (htext _) ?_)); refine K_nil ?_
  have hal : (s.take 10).length ≤ 10 := by simp; omega
  generalize s.take 10 = a at *
  refine K_run hN ?_; (repeat (first | refine K_v rfl rfl ?_ | refine K_g rfl rfl ?_ | refine K_n rfl rfl rfl rfl ?_ | refine K_n' rfl rfl rfl ?_ | refine K_s rfl ?_)); refine K_nil ?_
  refine G_unslE 7 1 1 1 1 true [.str [51]] [(0, .int .i64 n), (1, .str a), (6, .iptr [colsAV tinyL.cols, rowsAV tinyL.rows] 0)] [] 2 rfl rfl rfl (M1 rfl <| M1 rfl <| M1 rfl M0) O0 (Nat.le_refl _) ?_
  refine K_run hN ?_; (repeat (first | refine K_v rfl rfl ?_ | refine K_g rfl rfl ?_ | refine K_n rfl rfl rfl rfl ?_ | refine K_n' rfl rfl rfl ?_ | refine K_s rfl ?_)); refine K_nil ?_
  refine G_unslE 8 2 3 3 5 true (cellsN [49] 0 1 2 []) [(0, .int .i64 n), (1, .str a), (6, .iptr [colsAV tinyL.cols, rowsAV tinyL.rows] 0), (7, .isl [.str [51]] 1)] [] 3 rfl rfl rfl (M1 rfl <| M1 rfl <| M1 rfl <| M1 rfl M0) O0 (Nat.le_refl _) ?_
  refine G_seq ?_
  refine K_run hN ?_; (repeat (first | refine K_v rfl rfl ?_ | refine K_g rfl rfl ?_ | refine K_n rfl rfl rfl rfl ?_ | refine K_n' rfl rfl rfl ?_ | refine K_s rfl ?_ | refine K_c rfl rfl (hgood _) ?_)); refine K_nil ?_
  refine G_if0 rfl (G_skip (G_pop ?_))
  refine K_run hN ?_; (repeat (first | refine K_v rfl rfl ?_ | refine K_g rfl rfl ?_ | refine K_n rfl rfl rfl rfl ?_ | refine K_n' rfl rfl rfl ?_ | refine K_s rfl ?_)); refine K_nil ?_
  refine G_weakH [(0, .int .i64 n), (1, .str a), (6, .iptr [colsAV tinyL.cols, rowsAV tinyL.rows] 0), (7, .isl [.str [51]] 1), (9, .slice 3 0 3 3 false 5)] (He [(3, .cells (cellsN [49] 0 1 2 []))] 4) (M1 rfl <| M1 rfl <| M1 rfl <| M1 rfl <| M1 rfl M0) (He_sub (Nat.le_refl _) (O1 rfl O0)) ?_
  refine G_mid (α := Nat × Int × Int × Int × List NodeS) (fun x => coversB tinyL (treeN [49] x.2.1 x.2.2.1 x.2.2.2.1 x.2.2.2.2) [55] false = false ∧ x.2.2.2.2.length ≤ 1 ∧ ∀ y ∈ x.2.2.2.2, y = lfN) (fun x => [(6, .iptr [colsAV tinyL.cols, rowsAV tinyL.rows] 0), (9, .slice x.1 0 (x.2.2.2.2.length + 3) (x.2.2.2.2.length + 3) false 5)]) (fun x => He [(x.1, .cells (cellsN [49] x.2.1 x.2.2.1 x.2.2.2.1 x.2.2.2.2))] 20) ?_ ?_
  · refine K_run hN ?_; (repeat (first | refine K_v rfl rfl ?_ | refine K_g rfl rfl ?_ | refine K_n rfl rfl rfl rfl ?_ | refine K_n' rfl rfl rfl ?_ | refine K_s rfl ?_)); refine K_nil ?_
    refine G_block ?_
    refine K_run hN ?_; (repeat (first | refine K_v rfl rfl ?_ | refine K_g rfl rfl ?_ | refine K_n rfl rfl rfl rfl ?_ | refine K_n' rfl rfl rfl ?_ | refine K_s rfl ?_)); refine K_nil ?_
    refine G_if rfl (fun _ => ?_) (fun _ => ?_)
    · refine K_run1 hN ?_; (repeat (first | refine K_v rfl rfl ?_ | refine K_g rfl rfl ?_ | refine K_n rfl rfl rfl rfl ?_ | refine K_n' rfl rfl rfl ?_ | refine K_s rfl ?_)); refine K_nil ?_
      exact G_popb (G_done (3, 0, 2, 2, []) ⟨cover_0, by decide, fun x hx => (by cases hx)⟩ (M1 rfl <| M1 rfl M0) (He_sub (show 4 ≤ 20 by decide) (O1 rfl O0)))
    refine K_run hN ?_; (repeat (first | refine K_v rfl rfl ?_ | refine K_g rfl rfl ?_ | refine K_n rfl rfl rfl rfl ?_ | refine K_n' rfl rfl rfl ?_ | refine K_s rfl ?_)); refine K_nil ?_
    refine G_if rfl (fun _ => ?_) (fun _ => ?_)
    · refine K_run1 hN ?_; (repeat (first | refine K_v rfl rfl ?_ | refine K_g rfl rfl ?_ | refine K_n rfl rfl rfl rfl ?_ | refine K_n' rfl rfl rfl ?_ | refine K_s rfl ?_)); refine K_nil ?_
      exact G_popb (G_done (3, 0, 0, 2, []) ⟨cover_1, by decide, fun x hx => (by cases hx)⟩ (M1 rfl <| M1 rfl M0) (He_sub (show 4 ≤ 20 by decide) (O1 rfl O0)))
    refine K_run hN ?_; (repeat (first | refine K_v rfl rfl ?_ | refine K_g rfl rfl ?_ | refine K_n rfl rfl rfl rfl ?_ | refine K_n' rfl rfl rfl ?_ | refine K_s rfl ?_)); refine K_nil ?_
    refine G_if rfl (fun _ => ?_) (fun _ => ?_)
    · refine K_run1 hN ?_; (repeat (first | refine K_v rfl rfl ?_ | refine K_g rfl rfl ?_ | refine K_n rfl rfl rfl rfl ?_ | refine K_n' rfl rfl rfl ?_ | refine K_s rfl ?_)); refine K_nil ?_
      exact G_popb (G_done (5, 0, 1, 2, [lfN]) ⟨cover_2, by decide, fun x hx => (by simpa using hx)⟩ (M1 rfl <| M1 rfl M0) (He_sub (show 6 ≤ 20 by decide) (O1 rfl O0)))
    refine K_run hN ?_; (repeat (first | refine K_v rfl rfl ?_ | refine K_g rfl rfl ?_ | refine K_n rfl rfl rfl rfl ?_ | refine K_n' rfl rfl rfl ?_ | refine K_s rfl ?_)); refine K_nil ?_
    refine G_if rfl (fun _ => ?_) (fun _ => ?_)
    · refine K_run1 hN ?_; (repeat (first | refine K_v rfl rfl ?_ | refine K_g rfl rfl ?_ | refine K_n rfl rfl rfl rfl ?_ | refine K_n' rfl rfl rfl ?_ | refine K_s rfl ?_)); refine K_nil ?_
      exact G_popb (G_done (3, 0, 1, 3, []) ⟨cover_3, by decide, fun x hx => (by cases hx)⟩ (M1 rfl <| M1 rfl M0) (He_sub (show 4 ≤ 20 by decide) (O1 rfl O0)))
    refine K_run hN ?_; (repeat (first | refine K_v rfl rfl ?_ | refine K_g rfl rfl ?_ | refine K_n rfl rfl rfl rfl ?_ | refine K_n' rfl rfl rfl ?_ | refine K_s rfl ?_)); refine K_nil ?_
    refine G_if rfl (fun _ => ?_) (fun _ => ?_)
    · refine K_run1 hN ?_; (repeat (first | refine K_v rfl rfl ?_ | refine K_g rfl rfl ?_ | refine K_n rfl rfl rfl rfl ?_ | refine K_n' rfl rfl rfl ?_ | refine K_s rfl ?_)); refine K_nil ?_
      exact G_popb (G_done (3, 1, 1, 2, []) ⟨cover_4, by decide, fun x hx => (by cases hx)⟩ (M1 rfl <| M1 rfl M0) (He_sub (show 4 ≤ 20 by decide) (O1 rfl O0)))
    refine K_run hN ?_; (repeat (first | refine K_v rfl rfl ?_ | refine K_g rfl rfl ?_ | refine K_n rfl rfl rfl rfl ?_ | refine K_n' rfl rfl rfl ?_ | refine K_s rfl ?_)); refine K_nil ?_
    refine G_if rfl (fun _ => ?_) (fun _ => ?_)
    · refine K_run1 hN ?_; (repeat (first | refine K_v rfl rfl ?_ | refine K_g rfl rfl ?_ | refine K_n rfl rfl rfl rfl ?_ | refine K_n' rfl rfl rfl ?_ | refine K_s rfl ?_)); refine K_nil ?_
      exact G_popb (G_done (3, 2, 1, 2, []) ⟨cover_5, by decide, fun x hx => (by cases hx)⟩ (M1 rfl <| M1 rfl M0) (He_sub (show 4 ≤ 20 by decide) (O1 rfl O0)))
    -- any text as the cut
    have hget := ref1_Get_ans a (by show a.length < _; omega)
    have hc6 := cover_6 a hal
    unfold refQ at hget
    refine K_run hN ?_; (repeat (first | refine K_v rfl rfl ?_ | refine K_g rfl rfl ?_ | refine K_n rfl rfl rfl rfl ?_ | refine K_n' rfl rfl rfl ?_ | refine K_s rfl ?_)); refine K_nil ?_
    refine G_weakH [(1, .str a), (6, .iptr [colsAV tinyL.cols, rowsAV tinyL.rows] 0), (9, .slice 3 0 3 3 false 5)] (He [(3, .cells (cellsN a 0 1 2 []))] 4) (M1 rfl <| M1 rfl <| M1 rfl M0) (He_sub (Nat.le_refl _) (O1 rfl O0)) ?_
    cases hf : fget a with
    | none =>
      rw [hf] at hget hc6
      have hcov := covers_ans a hal 0 1 2 [] (fun x hx => by cases hx) (by decide) _ hc6
      refine K_run hN ?_; (repeat (first | refine K_v rfl rfl ?_ | refine K_g rfl rfl ?_ | refine K_n rfl rfl rfl rfl ?_ | refine K_n' rfl rfl rfl ?_ | refine K_s rfl ?_ | refine K_c rfl rfl (hget _) ?_)); refine K_nil ?_
      refine K_run hN ?_; (repeat (first | refine K_v rfl rfl ?_ | refine K_g rfl rfl ?_ | refine K_n rfl rfl rfl rfl ?_ | refine K_n' rfl rfl rfl ?_ | refine K_s rfl ?_))
      refine K_c rfl rfl (Ans_freeze [3] (.cons .same (.cons (.slice (List.Mem.head _) rfl rfl (FZ_same_list _)) (.cons .same (.cons .same .nil)))) (hcov _)) ?_
      (repeat (first | refine K_v rfl rfl ?_ | refine K_g rfl rfl ?_ | refine K_n rfl rfl rfl rfl ?_ | refine K_n' rfl rfl rfl ?_ | refine K_s rfl ?_)); refine K_nil ?_
      exact G_ret (MP_ret (G_end rfl ⟨10, rfl⟩))
    | some q =>
      rw [hf] at hget hc6
      obtain ⟨bn, bd⟩ := fget_bound hf
      have hcov := covers_ans a hal 0 1 2 [] (fun x hx => by cases hx) (by decide) _ hc6
      have hwh := fun H => R.ref1_Whole_ans (X := ext0) (Y := lies0) hN (decide (q.num < 0)) q.num.natAbs q.den (St_of bn) (St_of bd) q.den_pos H
      have hred : Nat.gcd q.num.natAbs q.den = 1 := q.reduced
      rw [hred, Nat.div_one] at hwh
      cases hd : q.den == 1 with
      | false =>
        simp only [hd] at hcov
        rw [hd] at hwh
        refine K_run hN ?_; (repeat (first | refine K_v rfl rfl ?_ | refine K_g rfl rfl ?_ | refine K_n rfl rfl rfl rfl ?_ | refine K_n' rfl rfl rfl ?_ | refine K_s rfl ?_ | refine K_c rfl rfl (hget _) ?_)); refine K_nil ?_
        refine K_run hN ?_; (repeat (first | refine K_v rfl rfl ?_ | refine K_g rfl rfl ?_ | refine K_n rfl rfl rfl rfl ?_ | refine K_n' rfl rfl rfl ?_ | refine K_s rfl ?_))
        refine K_c rfl rfl (Ans_freeze [3] (.cons .same (.cons (.slice (List.Mem.head _) rfl rfl (FZ_same_list _)) (.cons .same (.cons .same .nil)))) (hcov _)) ?_
        (repeat (first | refine K_v rfl rfl ?_ | refine K_g rfl rfl ?_ | refine K_n rfl rfl rfl rfl ?_ | refine K_n' rfl rfl rfl ?_ | refine K_s rfl ?_ | refine K_c rfl rfl (hwh _) ?_)); refine K_nil ?_
        exact G_ret (MP_ret (G_end rfl ⟨10, rfl⟩))
      | true =>
        simp only [hd] at hcov
        rw [hd] at hwh
        refine K_run hN ?_; (repeat (first | refine K_v rfl rfl ?_ | refine K_g rfl rfl ?_ | refine K_n rfl rfl rfl rfl ?_ | refine K_n' rfl rfl rfl ?_ | refine K_s rfl ?_ | refine K_c rfl rfl (hget _) ?_)); refine K_nil ?_
        refine K_run hN ?_; (repeat (first | refine K_v rfl rfl ?_ | refine K_g rfl rfl ?_ | refine K_n rfl rfl rfl rfl ?_ | refine K_n' rfl rfl rfl ?_ | refine K_s rfl ?_))
        refine K_c rfl rfl (Ans_freeze [3] (.cons .same (.cons (.slice (List.Mem.head _) rfl rfl (FZ_same_list _)) (.cons .same (.cons .same .nil)))) (hcov _)) ?_
        (repeat (first | refine K_v rfl rfl ?_ | refine K_g rfl rfl ?_ | refine K_n rfl rfl rfl rfl ?_ | refine K_n' rfl rfl rfl ?_ | refine K_s rfl ?_ | refine K_c rfl rfl (hwh _) ?_)); refine K_nil ?_
        exact G_ret (MP_ret (G_end rfl ⟨10, rfl⟩))
  · rintro ⟨id, col, left, right, more⟩ ⟨hcov, hml, hmo⟩
    simp only at hcov hml hmo
    have hc := covers_ans [49] (by decide) col left right more hmo (by omega) false hcov
    refine K_run hN ?_; (repeat (first | refine K_v rfl rfl ?_ | refine K_g rfl rfl ?_ | refine K_n rfl rfl rfl rfl ?_ | refine K_n' rfl rfl rfl ?_ | refine K_s rfl ?_))
    refine K_c rfl rfl (Ans_freeze [id] (.cons .same (.cons (.slice (List.Mem.head _) (He1_get _ _ _) (seg_all _ (by simp only [cellsN, List.length_append, List.length_cons, List.length_nil, fm_len NodeS.av 5 NodeS.av_len]; omega)) (FZ_same_list _)) (.cons .same (.cons .same .nil)))) (hc _)) ?_
    (repeat (first | refine K_v rfl rfl ?_ | refine K_g rfl rfl ?_ | refine K_n rfl rfl rfl rfl ?_ | refine K_n' rfl rfl rfl ?_ | refine K_s rfl ?_)); refine K_nil ?_
    exact G_ret (G_end rfl ⟨10, rfl⟩)
end Go.Eng
end
