import Derived.Test.YtekfcbeballilaaGreatDoorFb
section
namespace Go.Eng
open Go Go.RowKit Go.Proofs
set_option maxHeartbeats 4000000
set_option maxRecDepth 10000
/-- Made a numeral before it is handed on. -/
def frcN (n : Nat) (k : Nat → AV) : AV := Nat.rec (k 0) (fun m _ => k (m + 1)) n
def frcI (z : Int) (k : Int → AV) : AV := match z with
  | .ofNat n => frcN n fun m => k (.ofNat m)
  | .negSucc n => frcN n fun m => k (.negSucc m)
def frcQ (q : Rat) : AV := frcI q.num fun z => frcN q.den fun d => .frac (mkRat z d)
theorem frcN_eq (n : Nat) (k : Nat → AV) : frcN n k = k n := by cases n <;> rfl
theorem frcI_eq (z : Int) (k : Int → AV) : frcI z k = k z := by cases z <;> simp only [frcI, frcN_eq]
theorem frcQ_eq (q : Rat) : frcQ q = .frac q := by rw [frcQ, frcI_eq, frcN_eq, Rat.mkRat_self]
def big : Nat := 2 ^ 4096
theorem big_eq : big = BB ^ 128 := by decide +kernel
def hfB (n : Nat) : Bool := Nat.blt n big
theorem hfB_ok {n : Nat} (h : hfB n = true) : Hf n := by
  have h1 : n < big := by unfold hfB at h; rwa [Nat.blt_eq] at h
  exact Nat.le_trans (len_le_of_lt (k := 128) (big_eq ▸ h1)) (by omega)
def hqB (q : Rat) : Bool := hfB q.num.natAbs && hfB q.den
theorem hqB_ok {q : Rat} (h : hqB q = true) : Hq q := by
  simp only [hqB, Bool.and_eq_true] at h
  exact ⟨hfB_ok h.1, hfB_ok h.2⟩
def lenB (s : List UInt8) : Bool := Nat.blt s.length 9223372036854775808
theorem lenB_ok {s : List UInt8} (h : lenB s = true) : s.length < 9223372036854775808 := by simpa [lenB] using h
def asQ : AV → Option Rat
  | .frac q => some q
  | .nilp => some 0
  | _ => none
def onQ (x : AV) (k : Rat → Option AV) : Option AV := match asQ x with
  | some q => cond (hqB q) (k q) none
  | none => none
theorem onQ_some {x y : AV} {k : Rat → Option AV} (h : onQ x k = some y) : ∃ q, IsQ x q ∧ Hq q ∧ k q = some y := by
  unfold onQ at h
  split at h
  · rename_i q hq
    cases hb : hqB q with
    | false => rw [hb] at h; cases h
    | true =>
      rw [hb] at h
      refine ⟨q, ?_, hqB_ok hb, h⟩
      unfold asQ at hq
      split at hq
      · cases hq; exact .frac _
      · cases hq; exact .nilp
      · cases hq
  · cases h
def smV (f : FuncId) (args : List AV) : Option AV :=
  match f, args with
  | 24, [.int .i64 n] => cond (decide (-9223372036854775808 ≤ n ∧ n < 9223372036854775808)) (some (frcQ n)) none
  | 30, [x] => onQ x fun q => some (.str (ftext q))
  | 40, [.str s] => cond (lenB s) (some (match fget s with
    | some q => .tuple [frcQ q, .bool true]
    | none => .tuple [.nilp, .bool false])) none
  | 69, [x] => onQ x fun q => some (.int .i64 (sgnR q))
  | 70, [x, y] => onQ x fun p => onQ y fun q => some (frcQ (p + q))
  | 71, [x, y] => onQ x fun p => onQ y fun q => some (cond (decide (q.num = 0)) (.tuple [.nilp, .bool false]) (.tuple [frcQ (p / q), .bool true]))
  | 72, [x, y] => onQ x fun p => onQ y fun q => some (frcQ (p - q))
  | 73, [x, y] => onQ x fun p => onQ y fun q => some (frcQ (p * q))
  | 82, [x] => onQ x fun q => some (parts q)
  | 84, [x, y] => onQ x fun p => onQ y fun q => some (.int .i64 (cmpR p q))
  | 95, [.str s, .str p] => some (cutPre s p)
  | 96, [.str s, .str [c]] => cond (lenB s) (some (cutAV c s)) none
  | 101, [x] => onQ x fun q => some (.bool (q.den == 1))
  | 122, [x] => onQ x fun q => some (frcQ (-q))
  | 151, [.int .u64 (.ofNat n), .int .i64 10] => cond (Nat.blt n 1000000000) (some (.str (ntext n))) none
  | 278, [x] => onQ x fun q => some (frcQ (q.floor : Int))
  | _, _ => none
theorem smV_ok {f : FuncId} {args : List AV} {y : AV} (h : smV f args = some y) (H : Heap) : Ans cs0 f args H fun x K => x = y ∧ K = H := by
  have cnd : ∀ {b : Bool} {x : Option AV}, cond b x none = some y → b = true ∧ x = some y := fun {b x} hh => by
    cases b with
    | false => cases hh
    | true => exact ⟨rfl, hh⟩
  unfold smV at h
  split at h
  · obtain ⟨h1, h2⟩ := cnd h
    cases h2
    have := of_decide_eq_true h1
    rw [frcQ_eq]
    exact frac_Of_ans cz_ok _ this.1 this.2 H
  · obtain ⟨q, h1, h2, h3⟩ := onQ_some h
    cases h3
    exact frac_Frac_Text_ans h1 h2.n.sm h2.d.sm H
  · rename_i s
    obtain ⟨h1, h2⟩ := cnd h
    cases h2
    have := frac_Get_ans _ (lenB_ok h1) H
    rw [fgetAV] at this
    split
    · rename_i q hq
      rw [hq] at this
      rw [frcQ_eq]
      exact this
    · rename_i hq
      rw [hq] at this
      exact this
  · obtain ⟨q, h1, h2, h3⟩ := onQ_some h
    cases h3
    exact frac_Frac_Sign_ans cz_ok h1 h2.n.sm H
  · obtain ⟨p, h1, h2, h3⟩ := onQ_some h
    obtain ⟨q, k1, k2, k3⟩ := onQ_some h3
    cases k3
    rw [frcQ_eq]
    exact frac_Frac_Add_ans cz_ok h1 k1 h2 k2 H
  · obtain ⟨p, h1, h2, h3⟩ := onQ_some h
    obtain ⟨q, k1, k2, k3⟩ := onQ_some h3
    cases k3
    have := frac_Frac_Div_ans cz_ok h1 k1 h2 k2 H
    by_cases hz : q = 0
    · rw [if_pos hz] at this
      rw [decide_eq_true (by rw [hz]; rfl)]
      exact this
    · rw [if_neg hz] at this
      rw [decide_eq_false (fun h => hz (Rat.num_eq_zero.1 h)), frcQ_eq]
      exact this
  · obtain ⟨p, h1, h2, h3⟩ := onQ_some h
    obtain ⟨q, k1, k2, k3⟩ := onQ_some h3
    cases k3
    rw [frcQ_eq]
    exact frac_Frac_Sub_ans cz_ok h1 k1 h2 k2 H
  · obtain ⟨p, h1, h2, h3⟩ := onQ_some h
    obtain ⟨q, k1, k2, k3⟩ := onQ_some h3
    cases k3
    rw [frcQ_eq]
    exact frac_Frac_Mul_ans cz_ok h1 k1 h2 k2 H
  · obtain ⟨q, h1, h2, h3⟩ := onQ_some h
    cases h3
    exact frac_Frac_Parts_ans cz_ok h1 H
  · obtain ⟨p, h1, h2, h3⟩ := onQ_some h
    obtain ⟨q, k1, k2, k3⟩ := onQ_some h3
    cases k3
    exact frac_Frac_Cmp_ans cz_ok h1 k1 h2 k2 H
  · cases h
    exact strings_CutPrefix_ans _ _ H
  · obtain ⟨h1, h2⟩ := cnd h
    cases h2
    exact strings_Cut_one _ (lenB_ok h1) _ H
  · obtain ⟨q, h1, h2, h3⟩ := onQ_some h
    cases h3
    exact frac_Frac_Whole_ans cz_ok h1 h2.d.sm H
  · obtain ⟨q, h1, h2, h3⟩ := onQ_some h
    cases h3
    rw [frcQ_eq]
    exact frac_Frac_Neg_ans cz_ok h1 h2 H
  · obtain ⟨h1, h2⟩ := cnd h
    cases h2
    exact strconv_FormatUint_ans _ (by simpa using h1) H
  · obtain ⟨q, h1, h2, h3⟩ := onQ_some h
    cases h3
    rw [frcQ_eq]
    exact frac_Frac_Floor_ans cz_ok h1 h2 H
  · cases h
/-- The context with the contracts. -/
noncomputable abbrev cs1 : Cx := ⟨Tryz.prog, tab, fnTab, fun f args H => (smV f args).map (·, H), gl0, ext0, lies0⟩
def smW (f : FuncId) (args : List AV) : Option AV := smV f args
theorem smW_ok {f : FuncId} {args : List AV} {y : AV} (h : smW f args = some y) (H : Heap) : Ans cs0 f args H fun x K => x = y ∧ K = H := smV_ok h H
end Go.Eng
end
section
namespace Go.Eng
open Go Go.RowKit Go.Proofs
mutual
/-- Equal, as far as is told. -/
def avB : AV → AV → Bool
  | .undef, y => match y with
    | .undef => true
    | _ => false
  | .bool a, y => match y with
    | .bool b => a == b
    | _ => false
  | .int k a, y => match y with
    | .int k' b => decide (k = k') && decide (a = b)
    | _ => false
  | .str a, y => match y with
    | .str b => a == b
    | _ => false
  | .nilp, y => match y with
    | .nilp => true
    | _ => false
  | .nilsl, y => match y with
    | .nilsl => true
    | _ => false
  | .niliface, y => match y with
    | .niliface => true
    | _ => false
  | .nilmap, y => match y with
    | .nilmap => true
    | _ => false
  | .iptr cs o, y => match y with
    | .iptr ds p => avsB cs ds && Nat.beq o p
    | _ => false
  | .isl cs n, y => match y with
    | .isl ds m => avsB cs ds && Nat.beq n m
    | _ => false
  | .agg cs, y => match y with
    | .agg ds => avsB cs ds
    | _ => false
  | .tuple cs, y => match y with
    | .tuple ds => avsB cs ds
    | _ => false
  | .num a, y => match y with
    | .num b => Nat.beq a b
    | _ => false
  | .frac a, y => match y with
    | .frac b => decide (a.num = b.num) && Nat.beq a.den b.den
    | _ => false
  | _, _ => false
  termination_by structural x => x
def avsB : List AV → List AV → Bool
  | [], ys => match ys with
    | [] => true
    | _ => false
  | x :: xs, ys => match ys with
    | y :: ys => avB x y && avsB xs ys
    | _ => false
  termination_by structural xs => xs
end
mutual
theorem avB_eq : ∀ {x y : AV}, avB x y = true → x = y
  | .undef, y, h => by unfold avB at h; split at h <;> first | rfl | cases h
  | .bool a, y, h => by
    unfold avB at h
    split at h
    · rw [eq_of_beq h]
    · cases h
  | .int k a, y, h => by
    unfold avB at h
    split at h
    · simp only [Bool.and_eq_true, decide_eq_true_eq] at h
      rw [h.1, h.2]
    · cases h
  | .str a, y, h => by
    unfold avB at h
    split at h
    · rw [eq_of_beq h]
    · cases h
  | .nilp, y, h => by unfold avB at h; split at h <;> first | rfl | cases h
  | .nilsl, y, h => by unfold avB at h; split at h <;> first | rfl | cases h
  | .niliface, y, h => by unfold avB at h; split at h <;> first | rfl | cases h
  | .nilmap, y, h => by unfold avB at h; split at h <;> first | rfl | cases h
  | .iptr cs o, y, h => by
    unfold avB at h
    split at h
    · simp only [Bool.and_eq_true] at h
      rw [avsB_eq h.1, Nat.eq_of_beq_eq_true h.2]
    · cases h
  | .isl cs n, y, h => by
    unfold avB at h
    split at h
    · simp only [Bool.and_eq_true] at h
      rw [avsB_eq h.1, Nat.eq_of_beq_eq_true h.2]
    · cases h
  | .agg cs, y, h => by
    unfold avB at h
    split at h
    · rw [avsB_eq h]
    · cases h
  | .tuple cs, y, h => by
    unfold avB at h
    split at h
    · rw [avsB_eq h]
    · cases h
  | .num a, y, h => by
    unfold avB at h
    split at h
    · rw [Nat.eq_of_beq_eq_true h]
    · cases h
  | .frac a, y, h => by
    unfold avB at h
    split at h
    · simp only [Bool.and_eq_true, decide_eq_true_eq] at h
      rw [Rat.ext h.1 (Nat.eq_of_beq_eq_true h.2)]
    · cases h
  | .ptr _ _, y, h => by unfold avB at h; cases h
  | .esl, y, h => by unfold avB at h; cases h
  | .slice _ _ _ _ _ _, y, h => by unfold avB at h; cases h
  | .map _, y, h => by unfold avB at h; cases h
  | .iter _, y, h => by unfold avB at h; cases h
  | .nilfunc, y, h => by unfold avB at h; cases h
  | .func _ _ _, y, h => by unfold avB at h; cases h
  | .iface _ _, y, h => by unfold avB at h; cases h
theorem avsB_eq : ∀ {xs ys : List AV}, avsB xs ys = true → xs = ys
  | [], ys, h => by unfold avsB at h; split at h <;> first | rfl | cases h
  | x :: xs, ys, h => by
    unfold avsB at h
    split at h
    · simp only [Bool.and_eq_true] at h
      rw [avB_eq h.1, avsB_eq h.2]
    · cases h
end
/-- A closed call and its answer. -/
structure Fact where
  f : FuncId
  args : List AV
  y : AV
def Fact.ok (x : Fact) : Prop := ∀ H, Ans cs0 x.f x.args H fun u K => u = x.y ∧ K = H
def look : List Fact → FuncId → List AV → Option AV
  | [], _, _ => none
  | x :: l, f, args => cond (Nat.beq x.f f && avsB x.args args) (some x.y) (look l f args)
def allOk : List Fact → Prop
  | [] => True
  | x :: l => x.ok ∧ allOk l
theorem look_ok : ∀ {l : List Fact}, allOk l → ∀ {f : FuncId} {args : List AV} {y : AV}, look l f args = some y → ∀ H, Ans cs0 f args H fun u K => u = y ∧ K = H
  | [], _, f, args, y, h, H => by cases h
  | x :: l, hl, f, args, y, h, H => by
    rw [look] at h
    cases hb : Nat.beq x.f f && avsB x.args args with
    | false => rw [hb] at h; exact look_ok hl.2 h H
    | true =>
      rw [hb] at h
      cases h
      simp only [Bool.and_eq_true] at hb
      have := hl.1 H
      rw [Nat.eq_of_beq_eq_true hb.1, avsB_eq hb.2] at this
      exact this
def smL (l : List Fact) (f : FuncId) (args : List AV) : Option AV := match smW f args with
  | some y => some y
  | none => look l f args
/-- The context with the contracts and with closed calls. -/
noncomputable def csL (l : List Fact) : Cx := ⟨Tryz.prog, tab, fnTab, fun f args H => (smL l f args).map (·, H), gl0, ext0, lies0⟩
theorem csL_ok (l : List Fact) : CxOk (csL l) := ⟨(inferInstance : TabOk tab Tryz.prog), lies0_ok, ext0_ok rfl rfl, fn_ok⟩
theorem csL_sm {l : List Fact} (hl : allOk l) : SmOk (csL l) := fun f args H x H' h ρ z pv w0 w vs hR hG hV => by
  simp only [csL, Option.map_eq_some_iff, Prod.mk.injEq] at h
  obtain ⟨y, h1, rfl, rfl⟩ := h
  have h2 : Ans cs0 f args H fun u K => u = y ∧ K = H := by
    unfold smL at h1
    split at h1
    · rename_i y' hv
      cases h1
      exact smW_ok hv H
    · exact look_ok hl h1 H
  refine (h2 ρ z pv w0 w vs hR hG hV).mono fun en w' hp => ?_
  obtain ⟨u, ρ', z', x, H', k1, k2, k3, k4, rfl, rfl⟩ := hp
  exact ⟨u, ρ', z', k1, k2, k3, k4⟩
noncomputable def chkF (l : List Fact) (x : Fact) : Bool := match runF (csL l) 1000000 1000 x.f x.args with
  | some y => avB y x.y && AV.frees x.args
  | none => false
theorem chkF_ok {l : List Fact} (hl : allOk l) {x : Fact} (h : chkF l x = true) : x.ok := fun H => by
  unfold chkF at h
  split at h
  · rename_i y hy
    simp only [Bool.and_eq_true] at h
    rw [avB_eq h.1] at hy
    exact Ans_ev (csL_ok l) (csL_sm hl) (mixed (X := ext0) (Y := lies0)) gl0_free h.2 hy H
  · cases h
end Go.Eng
end
section
namespace Go.Eng
def k1 : Fact := ⟨138, [.str [78, 65, 77, 69, 32, 84, 10, 82, 79, 87, 83, 10, 32, 78, 32, 99, 111, 115, 116, 10, 32, 76, 32, 99, 97, 112, 10, 32, 71, 32, 110, 101, 101, 100, 10, 67, 79, 76, 85, 77, 78, 83, 10, 32, 120, 32, 99, 111, 115, 116, 32, 50, 32, 99, 97, 112, 32, 49, 10, 32, 120, 32, 110, 101, 101, 100, 32, 49, 10, 32, 121, 32, 99, 111, 115, 116, 32, 53, 32, 110, 101, 101, 100, 32, 49, 10, 82, 72, 83, 10, 32, 82, 32, 99, 97, 112, 32, 49, 48, 32, 110, 101, 101, 100, 32, 52, 10, 66, 79, 85, 78, 68, 83, 10, 32, 85, 80, 32, 66, 32, 120, 32, 56, 10, 69, 78, 68, 65, 84, 65, 10]], .tuple [.isl [.int .i64 (1), .bool true, .isl [.str [78, 65, 77, 69], .str [84]] 2, .int .i64 (2), .bool true, .isl [.str [82, 79, 87, 83]] 1, .int .i64 (3), .bool false, .isl [.str [78], .str [99, 111, 115, 116]] 2, .int .i64 (4), .bool false, .isl [.str [76], .str [99, 97, 112]] 2, .int .i64 (5), .bool false, .isl [.str [71], .str [110, 101, 101, 100]] 2, .int .i64 (6), .bool true, .isl [.str [67, 79, 76, 85, 77, 78, 83]] 1, .int .i64 (7), .bool false, .isl [.str [120], .str [99, 111, 115, 116], .str [50], .str [99, 97, 112], .str [49]] 5, .int .i64 (8), .bool false, .isl [.str [120], .str [110, 101, 101, 100], .str [49]] 3, .int .i64 (9), .bool false, .isl [.str [121], .str [99, 111, 115, 116], .str [53], .str [110, 101, 101, 100], .str [49]] 5, .int .i64 (10), .bool true, .isl [.str [82, 72, 83]] 1, .int .i64 (11), .bool false, .isl [.str [82], .str [99, 97, 112], .str [49, 48], .str [110, 101, 101, 100], .str [52]] 5, .int .i64 (12), .bool true, .isl [.str [66, 79, 85, 78, 68, 83]] 1, .int .i64 (13), .bool false, .isl [.str [85, 80], .str [66], .str [120], .str [56]] 4, .int .i64 (14), .bool true, .isl [.str [69, 78, 68, 65, 84, 65]] 1] 14, .int .i64 (0), .int .i64 (0)]⟩
def k2 : Fact := ⟨135, [.str [78, 65, 77, 69, 32, 84, 10, 82, 79, 87, 83, 10, 32, 78, 32, 99, 111, 115, 116, 10, 32, 76, 32, 99, 97, 112, 10, 32, 71, 32, 110, 101, 101, 100, 10, 67, 79, 76, 85, 77, 78, 83, 10, 32, 120, 32, 99, 111, 115, 116, 32, 50, 32, 99, 97, 112, 32, 49, 10, 32, 120, 32, 110, 101, 101, 100, 32, 49, 10, 32, 121, 32, 99, 111, 115, 116, 32, 53, 32, 110, 101, 101, 100, 32, 49, 10, 82, 72, 83, 10, 32, 82, 32, 99, 97, 112, 32, 49, 48, 32, 110, 101, 101, 100, 32, 52, 10, 66, 79, 85, 78, 68, 83, 10, 32, 85, 80, 32, 66, 32, 120, 32, 56, 10, 69, 78, 68, 65, 84, 65, 10]], .tuple [.agg [.str [84], .str [99, 111, 115, 116], .isl [.str [99, 97, 112], .int .i64 (1), .isl [.int .i64 (0), .str [49]] 1, .str [49, 48], .str [], .str [110, 101, 101, 100], .int .i64 (3), .isl [.int .i64 (0), .str [49], .int .i64 (1), .str [49]] 2, .str [52], .str []] 2, .isl [.str [120], .str [48], .str [56], .str [50], .bool false, .str [121], .str [48], .str [], .str [53], .bool false] 2], .int .i64 (0), .int .i64 (0)]⟩
def k3 : Fact := ⟨138, [.str [84, 73, 77, 69, 32, 84, 10, 80, 69, 82, 73, 79, 68, 83, 10, 32, 120, 32, 99, 97, 112, 32, 111, 110, 101, 10, 32, 121, 32, 110, 101, 101, 100, 32, 116, 119, 111, 10, 69, 78, 68, 65, 84, 65, 10]], .tuple [.isl [.int .i64 (1), .bool true, .isl [.str [84, 73, 77, 69], .str [84]] 2, .int .i64 (2), .bool true, .isl [.str [80, 69, 82, 73, 79, 68, 83]] 1, .int .i64 (3), .bool false, .isl [.str [120], .str [99, 97, 112], .str [111, 110, 101]] 3, .int .i64 (4), .bool false, .isl [.str [121], .str [110, 101, 101, 100], .str [116, 119, 111]] 3, .int .i64 (5), .bool true, .isl [.str [69, 78, 68, 65, 84, 65]] 1] 5, .int .i64 (0), .int .i64 (0)]⟩
def k4 : Fact := ⟨136, [.str [84, 73, 77, 69, 32, 84, 10, 80, 69, 82, 73, 79, 68, 83, 10, 32, 120, 32, 99, 97, 112, 32, 111, 110, 101, 10, 32, 121, 32, 110, 101, 101, 100, 32, 116, 119, 111, 10, 69, 78, 68, 65, 84, 65, 10]], .tuple [.str [84], .isl [.str [120], .str [99, 97, 112], .str [111, 110, 101], .str [121], .str [110, 101, 101, 100], .str [116, 119, 111]] 2, .int .i64 (0), .int .i64 (0)]⟩
def k5 : Fact := ⟨138, [.str [83, 84, 79, 67, 72, 32, 84, 10, 73, 78, 68, 69, 80, 32, 68, 73, 83, 67, 82, 69, 84, 69, 10, 32, 82, 72, 83, 32, 110, 101, 101, 100, 32, 52, 32, 116, 119, 111, 32, 48, 46, 53, 10, 32, 82, 72, 83, 32, 110, 101, 101, 100, 32, 49, 50, 32, 116, 119, 111, 32, 48, 46, 53, 10, 69, 78, 68, 65, 84, 65, 10]], .tuple [.isl [.int .i64 (1), .bool true, .isl [.str [83, 84, 79, 67, 72], .str [84]] 2, .int .i64 (2), .bool true, .isl [.str [73, 78, 68, 69, 80], .str [68, 73, 83, 67, 82, 69, 84, 69]] 2, .int .i64 (3), .bool false, .isl [.str [82, 72, 83], .str [110, 101, 101, 100], .str [52], .str [116, 119, 111], .str [48, 46, 53]] 5, .int .i64 (4), .bool false, .isl [.str [82, 72, 83], .str [110, 101, 101, 100], .str [49, 50], .str [116, 119, 111], .str [48, 46, 53]] 5, .int .i64 (5), .bool true, .isl [.str [69, 78, 68, 65, 84, 65]] 1] 5, .int .i64 (0), .int .i64 (0)]⟩
def k6 : Fact := ⟨137, [.str [83, 84, 79, 67, 72, 32, 84, 10, 73, 78, 68, 69, 80, 32, 68, 73, 83, 67, 82, 69, 84, 69, 10, 32, 82, 72, 83, 32, 110, 101, 101, 100, 32, 52, 32, 116, 119, 111, 32, 48, 46, 53, 10, 32, 82, 72, 83, 32, 110, 101, 101, 100, 32, 49, 50, 32, 116, 119, 111, 32, 48, 46, 53, 10, 69, 78, 68, 65, 84, 65, 10]], .tuple [.str [84], .agg [.int .i64 (1), .isl [.str [], .isl [.str [49, 47, 50], .isl [.str [], .str [110, 101, 101, 100], .str [52]] 1, .str [49, 47, 50], .isl [.str [], .str [110, 101, 101, 100], .str [49, 50]] 1] 2] 1], .int .i64 (0), .int .i64 (0)]⟩
def k7 : Fact := ⟨138, [.str [32, 97, 32, 98, 10, 72, 69, 65, 68, 10]], .tuple [.isl [.int .i64 (1), .bool false, .isl [.str [97], .str [98]] 2, .int .i64 (2), .bool true, .isl [.str [72, 69, 65, 68]] 1] 2, .int .i64 (0), .int .i64 (0)]⟩
def k8 : Fact := ⟨181, [.agg [.str [84], .str [99, 111, 115, 116], .isl [.str [99, 97, 112], .int .i64 (1), .isl [.int .i64 (0), .str [49]] 1, .str [49, 48], .str [], .str [110, 101, 101, 100], .int .i64 (3), .isl [.int .i64 (0), .str [49], .int .i64 (1), .str [49]] 2, .str [52], .str []] 2, .isl [.str [120], .str [48], .str [56], .str [50], .bool false, .str [121], .str [48], .str [], .str [53], .bool false] 2], .isl [.str [120], .str [99, 97, 112], .str [111, 110, 101], .str [121], .str [110, 101, 101, 100], .str [116, 119, 111]] 2], .tuple [.agg [.isl [.str [120], .str [48], .str [56], .str [50], .bool false] 1, .isl [.str [99, 97, 112], .int .i64 (1), .isl [.int .i64 (0), .str [49]] 1, .str [49, 48], .str []] 1, .isl [.str [121], .str [48], .str [], .str [53], .bool false] 1, .isl [.str [110, 101, 101, 100], .int .i64 (3), .isl [.int .i64 (0), .str [49]] 1, .str [52], .str []] 1, .isl [.isl [.int .i64 (0), .str [49]] 1] 1], .int .i64 (0)]⟩
def k9 : Fact := ⟨142, [.agg [.str [84], .str [99, 111, 115, 116], .isl [.str [99, 97, 112], .int .i64 (1), .isl [.int .i64 (0), .str [49]] 1, .str [49, 48], .str [], .str [110, 101, 101, 100], .int .i64 (3), .isl [.int .i64 (0), .str [49], .int .i64 (1), .str [49]] 2, .str [52], .str []] 2, .isl [.str [120], .str [48], .str [56], .str [50], .bool false, .str [121], .str [48], .str [], .str [53], .bool false] 2], .isl [.str [120], .str [99, 97, 112], .str [111, 110, 101], .str [121], .str [110, 101, 101, 100], .str [116, 119, 111]] 2, .agg [.str [], .str [110, 101, 101, 100]]], .tuple [.int .i64 (1), .int .i64 (0), .int .i64 (0), .int .i64 (0)]⟩
def k10 : Fact := ⟨139, [.agg [.str [84], .str [99, 111, 115, 116], .isl [.str [99, 97, 112], .int .i64 (1), .isl [.int .i64 (0), .str [49]] 1, .str [49, 48], .str [], .str [110, 101, 101, 100], .int .i64 (3), .isl [.int .i64 (0), .str [49], .int .i64 (1), .str [49]] 2, .str [52], .str []] 2, .isl [.str [120], .str [48], .str [56], .str [50], .bool false, .str [121], .str [48], .str [], .str [53], .bool false] 2], .isl [.str [120], .str [99, 97, 112], .str [111, 110, 101], .str [121], .str [110, 101, 101, 100], .str [116, 119, 111]] 2, .agg [.int .i64 (1), .isl [.str [], .isl [.str [49, 47, 50], .isl [.str [], .str [110, 101, 101, 100], .str [52]] 1, .str [49, 47, 50], .isl [.str [], .str [110, 101, 101, 100], .str [49, 50]] 1] 2] 1], .int .i64 (10)], .tuple [.agg [.isl [.str [120], .str [48], .str [56], .str [50], .bool false] 1, .isl [.str [99, 97, 112], .int .i64 (1), .isl [.int .i64 (0), .str [49]] 1, .str [49, 48], .str []] 1, .isl [.str [121], .str [48], .str [], .str [53], .bool false] 1, .isl [.str [110, 101, 101, 100], .int .i64 (3), .isl [.int .i64 (0), .str [49]] 1, .str [52], .str []] 1, .isl [.isl [.int .i64 (0), .str [49]] 1] 1], .isl [.str [49, 47, 50], .isl [.str [121], .str [48], .str [], .str [53], .bool false] 1, .isl [.str [110, 101, 101, 100], .int .i64 (3), .isl [.int .i64 (0), .str [49]] 1, .str [52], .str []] 1, .isl [.isl [.int .i64 (0), .str [49]] 1] 1, .str [49, 47, 50], .isl [.str [121], .str [48], .str [], .str [53], .bool false] 1, .isl [.str [110, 101, 101, 100], .int .i64 (3), .isl [.int .i64 (0), .str [49]] 1, .str [49, 50], .str []] 1, .isl [.isl [.int .i64 (0), .str [49]] 1] 1] 2, .int .i64 (0)]⟩
def k11 : Fact := ⟨140, [.agg [.str [84], .str [99, 111, 115, 116], .isl [.str [99, 97, 112], .int .i64 (1), .isl [.int .i64 (0), .str [49]] 1, .str [49, 48], .str [], .str [110, 101, 101, 100], .int .i64 (3), .isl [.int .i64 (0), .str [49], .int .i64 (1), .str [49]] 2, .str [52], .str []] 2, .isl [.str [120], .str [48], .str [56], .str [50], .bool false, .str [121], .str [48], .str [], .str [53], .bool false] 2]], .tuple [.str [78, 65, 77, 69, 32, 84, 10, 82, 79, 87, 83, 10, 32, 78, 32, 99, 111, 115, 116, 10, 32, 76, 32, 99, 97, 112, 10, 32, 71, 32, 110, 101, 101, 100, 10, 67, 79, 76, 85, 77, 78, 83, 10, 32, 120, 32, 99, 111, 115, 116, 32, 50, 32, 99, 97, 112, 32, 49, 10, 32, 120, 32, 110, 101, 101, 100, 32, 49, 10, 32, 121, 32, 99, 111, 115, 116, 32, 53, 32, 110, 101, 101, 100, 32, 49, 10, 82, 72, 83, 10, 32, 82, 32, 99, 97, 112, 32, 49, 48, 32, 110, 101, 101, 100, 32, 52, 10, 82, 65, 78, 71, 69, 83, 10, 66, 79, 85, 78, 68, 83, 10, 32, 85, 80, 32, 66, 32, 120, 32, 56, 10, 69, 78, 68, 65, 84, 65, 10], .bool true]⟩
def k12 : Fact := ⟨138, [.str [78, 65, 77, 69, 32, 84, 10, 82, 79, 87, 83, 10, 32, 78, 32, 99, 111, 115, 116, 10, 32, 76, 32, 99, 97, 112, 10, 32, 71, 32, 110, 101, 101, 100, 10, 67, 79, 76, 85, 77, 78, 83, 10, 32, 120, 32, 99, 111, 115, 116, 32, 50, 32, 99, 97, 112, 32, 49, 10, 32, 120, 32, 110, 101, 101, 100, 32, 49, 10, 32, 121, 32, 99, 111, 115, 116, 32, 53, 32, 110, 101, 101, 100, 32, 49, 10, 82, 72, 83, 10, 32, 82, 32, 99, 97, 112, 32, 49, 48, 32, 110, 101, 101, 100, 32, 52, 10, 82, 65, 78, 71, 69, 83, 10, 66, 79, 85, 78, 68, 83, 10, 32, 85, 80, 32, 66, 32, 120, 32, 56, 10, 69, 78, 68, 65, 84, 65, 10]], .tuple [.isl [.int .i64 (1), .bool true, .isl [.str [78, 65, 77, 69], .str [84]] 2, .int .i64 (2), .bool true, .isl [.str [82, 79, 87, 83]] 1, .int .i64 (3), .bool false, .isl [.str [78], .str [99, 111, 115, 116]] 2, .int .i64 (4), .bool false, .isl [.str [76], .str [99, 97, 112]] 2, .int .i64 (5), .bool false, .isl [.str [71], .str [110, 101, 101, 100]] 2, .int .i64 (6), .bool true, .isl [.str [67, 79, 76, 85, 77, 78, 83]] 1, .int .i64 (7), .bool false, .isl [.str [120], .str [99, 111, 115, 116], .str [50], .str [99, 97, 112], .str [49]] 5, .int .i64 (8), .bool false, .isl [.str [120], .str [110, 101, 101, 100], .str [49]] 3, .int .i64 (9), .bool false, .isl [.str [121], .str [99, 111, 115, 116], .str [53], .str [110, 101, 101, 100], .str [49]] 5, .int .i64 (10), .bool true, .isl [.str [82, 72, 83]] 1, .int .i64 (11), .bool false, .isl [.str [82], .str [99, 97, 112], .str [49, 48], .str [110, 101, 101, 100], .str [52]] 5, .int .i64 (12), .bool true, .isl [.str [82, 65, 78, 71, 69, 83]] 1, .int .i64 (13), .bool true, .isl [.str [66, 79, 85, 78, 68, 83]] 1, .int .i64 (14), .bool false, .isl [.str [85, 80], .str [66], .str [120], .str [56]] 4, .int .i64 (15), .bool true, .isl [.str [69, 78, 68, 65, 84, 65]] 1] 15, .int .i64 (0), .int .i64 (0)]⟩
def k13 : Fact := ⟨135, [.str [78, 65, 77, 69, 32, 84, 10, 82, 79, 87, 83, 10, 32, 78, 32, 99, 111, 115, 116, 10, 32, 76, 32, 99, 97, 112, 10, 32, 71, 32, 110, 101, 101, 100, 10, 67, 79, 76, 85, 77, 78, 83, 10, 32, 120, 32, 99, 111, 115, 116, 32, 50, 32, 99, 97, 112, 32, 49, 10, 32, 120, 32, 110, 101, 101, 100, 32, 49, 10, 32, 121, 32, 99, 111, 115, 116, 32, 53, 32, 110, 101, 101, 100, 32, 49, 10, 82, 72, 83, 10, 32, 82, 32, 99, 97, 112, 32, 49, 48, 32, 110, 101, 101, 100, 32, 52, 10, 82, 65, 78, 71, 69, 83, 10, 66, 79, 85, 78, 68, 83, 10, 32, 85, 80, 32, 66, 32, 120, 32, 56, 10, 69, 78, 68, 65, 84, 65, 10]], .tuple [.agg [.str [84], .str [99, 111, 115, 116], .isl [.str [99, 97, 112], .int .i64 (1), .isl [.int .i64 (0), .str [49]] 1, .str [49, 48], .str [], .str [110, 101, 101, 100], .int .i64 (3), .isl [.int .i64 (0), .str [49], .int .i64 (1), .str [49]] 2, .str [52], .str []] 2, .isl [.str [120], .str [48], .str [56], .str [50], .bool false, .str [121], .str [48], .str [], .str [53], .bool false] 2], .int .i64 (0), .int .i64 (0)]⟩
def k14 : Fact := ⟨194, [], .bool true⟩
def k15 : Fact := ⟨79, [], .bool true⟩
end Go.Eng
end
