import Derived.Test.YtekfcbeballilaaGreatDoorRd
import Derived.Test.YtekfcbeballilaaGreatDoorRc
section
namespace Go.Eng
open Go Go.RowKit Go.Proofs
structure ColS where
  name : List UInt8
  low : List UInt8
  up : List UInt8
  cost : List UInt8
  int : Bool
structure RowS where
  name : List UInt8
  kind : Int
  coef : List (Int × List UInt8)
  rhs : List UInt8
  range : List UInt8
structure LPS where
  cols : List ColS
  rows : List RowS
def ColS.av (c : ColS) : List AV := [.str c.name, .str c.low, .str c.up, .str c.cost, .bool c.int]
def cav (c : Int × List UInt8) : List AV := [.int .i64 c.1, .str c.2]
def coefAV (l : List (Int × List UInt8)) : AV := .isl (l.flatMap cav) l.length
def RowS.av (r : RowS) : List AV := [.str r.name, .int .i64 r.kind, coefAV r.coef, .str r.rhs, .str r.range]
def colsAV (l : List ColS) : AV := .isl (l.flatMap ColS.av) l.length
def rowsAV (l : List RowS) : AV := .isl (l.flatMap RowS.av) l.length
def LPS.av (l : LPS) : AV := .agg [colsAV l.cols, rowsAV l.rows]
/-- A text that a machine can hold. -/
def Sh (s : List UInt8) : Prop := s.length < 9223372036854775808
/-- What a text is worth; nought where it is none. -/
def qv (s : List UInt8) : Rat := (fget s).getD 0
def isq (s : List UInt8) : Bool := (fget s).isSome
def rdAV (s : List UInt8) : AV := match fget s with
  | some q => .frac q
  | none => .nilp
theorem rdAV_q (s : List UInt8) : IsQ (rdAV s) (qv s) := by
  unfold rdAV qv
  cases fget s with
  | none => exact .nilp
  | some q => exact .frac q
theorem rdAV_some {s : List UInt8} (h : isq s = true) : rdAV s = .frac (qv s) := by
  unfold isq at h
  unfold rdAV qv
  cases hf : fget s with
  | none => rw [hf] at h; cases h
  | some q => rfl
/-- A column that may be. -/
def colOk (c : ColS) : Bool := isq c.cost && (c.low == [] || isq c.low) && (c.up == [] || isq c.up) && (c.low == [] || c.up == [] || decide (qv c.low ≤ qv c.up))
/-- Coefficients by rising columns, none nought. -/
def coefsOk (n : Nat) : Int → List (Int × List UInt8) → Bool
  | _, [] => true
  | last, (c, v) :: l => isq v && !(v == [48]) && decide (last < c) && decide (c < n) && coefsOk n c l
def rowOk (n : Nat) (r : RowS) : Bool := coefsOk n (-1) r.coef && isq r.rhs && r.range == [] && decide (1 ≤ r.kind) && decide (r.kind ≤ 3)
def LPS.may (l : LPS) : Bool := decide (l.cols.length ≤ 100) && decide (l.rows.length ≤ 440) && l.cols.all colOk && l.rows.all (rowOk l.cols.length)
/-- Texts that a machine can hold. -/
structure ColS.Sh (c : ColS) : Prop where
  low : Eng.Sh c.low
  up : Eng.Sh c.up
  cost : Eng.Sh c.cost
structure RowS.Sh (r : RowS) : Prop where
  rhs : Eng.Sh r.rhs
  coef : ∀ c ∈ r.coef, Eng.Sh c.2
  len : r.coef.length < 9223372036854775808
structure LPS.Sh (l : LPS) : Prop where
  cols : ∀ c ∈ l.cols, c.Sh
  rows : ∀ r ∈ l.rows, r.Sh
theorem ratOf_bound {s : List UInt8} (h : partsOk s = true) : (ratOf s).num.natAbs < 10 ^ 2000 ∧ (ratOf s).den < 10 ^ 2000 := by
  simp only [partsOk, Bool.and_eq_true, Bool.not_eq_true'] at h
  obtain ⟨⟨h1, h2⟩, h3⟩ := h
  have h0 : 0 < dval (denOf s) := by
    rcases Nat.eq_zero_or_pos (dval (denOf s)) with h4 | h4
    · rw [h4] at h3; cases h3
    · exact h4
  have hle := mk_le (sg (negOf s) (dval (numOf s))) (dval (denOf s)) h0
  have ha : (sg (negOf s) (dval (numOf s))).natAbs = dval (numOf s) := by cases negOf s <;> simp [sg]
  rw [ha] at hle
  exact ⟨Nat.lt_of_le_of_lt hle.1 (numOk_lt h1), Nat.lt_of_le_of_lt hle.2 (numOk_lt h2)⟩
theorem fget_bound {s : List UInt8} {q : Rat} (h : fget s = some q) : q.num.natAbs < 10 ^ 2000 ∧ q.den < 10 ^ 2000 := by
  unfold fget at h
  cases hk : partsOk s && ftext (ratOf s) == s with
  | false => rw [hk] at h; cases h
  | true =>
    rw [hk] at h
    cases h
    simp only [Bool.and_eq_true] at hk
    exact ratOf_bound hk.1
/-- The parts have at most so many bits. -/
def Bt (n : Nat) (q : Rat) : Prop := q.num.natAbs < 2 ^ n ∧ q.den < 2 ^ n
theorem Bt.le {n m : Nat} {q : Rat} (h : Bt n q) (hm : n ≤ m) : Bt m q := ⟨Nat.lt_of_lt_of_le h.1 (Nat.pow_le_pow_right (by decide) hm), Nat.lt_of_lt_of_le h.2 (Nat.pow_le_pow_right (by decide) hm)⟩
theorem Bt.hq {n : Nat} {q : Rat} (h : Bt n q) (hn : n ≤ 8000000000000) : Hq q := by
  have key : ∀ a : Nat, a < 2 ^ n → Hf a := fun a ha => by
    refine Nat.le_trans (len_le_of_lt (k := n / 32 + 1) (Nat.lt_of_lt_of_le ha ?_)) (by omega)
    rw [show BB = 2 ^ 32 from rfl, ← Nat.pow_mul]
    exact Nat.pow_le_pow_right (by decide) (by omega)
  exact ⟨key _ h.1, key _ h.2⟩
theorem Bt.zero : Bt 1 (0 : Rat) := ⟨by decide, by decide⟩
theorem Bt.neg {n : Nat} {q : Rat} (h : Bt n q) : Bt n (-q) := by
  refine ⟨?_, by rw [Rat.neg_den]; exact h.2⟩
  rw [Rat.neg_num, Int.natAbs_neg]; exact h.1
theorem Bt.add {n m : Nat} {p q : Rat} (hp : Bt n p) (hq : Bt m q) : Bt (n + m + 1) (p + q) := by
  obtain ⟨h1, h2⟩ := add_le p q
  have e1 : p.num.natAbs * q.den < 2 ^ n * 2 ^ m := Nat.mul_lt_mul_of_lt_of_le hp.1 (Nat.le_of_lt hq.2) (Nat.pow_pos (by decide))
  have e2 : q.num.natAbs * p.den < 2 ^ m * 2 ^ n := Nat.mul_lt_mul_of_lt_of_le hq.1 (Nat.le_of_lt hp.2) (Nat.pow_pos (by decide))
  have e3 : p.den * q.den < 2 ^ n * 2 ^ m := Nat.mul_lt_mul_of_lt_of_le hp.2 (Nat.le_of_lt hq.2) (Nat.pow_pos (by decide))
  have e4 : 2 ^ (n + m + 1) = 2 ^ n * 2 ^ m * 2 := by rw [Nat.pow_succ, Nat.pow_add]
  have e5 : 2 ^ m * 2 ^ n = 2 ^ n * 2 ^ m := Nat.mul_comm _ _
  constructor <;> omega
theorem Bt.sub {n m : Nat} {p q : Rat} (hp : Bt n p) (hq : Bt m q) : Bt (n + m + 1) (p - q) := by
  rw [Rat.sub_eq_add_neg]; exact hp.add hq.neg
theorem Bt.mul {n m : Nat} {p q : Rat} (hp : Bt n p) (hq : Bt m q) : Bt (n + m) (p * q) := by
  have e : p * q = mkRat (p.num * q.num) (p.den * q.den) := by
    conv => lhs; rw [rat_nd p, rat_nd q]
    rw [Rat.mkRat_eq_div, Rat.intCast_mul, Rat.natCast_mul]
    have h1 : (p.den : Rat) ≠ 0 := by exact_mod_cast p.den_nz
    have h2 : (q.den : Rat) ≠ 0 := by exact_mod_cast q.den_nz
    generalize (p.den : Rat) = a at *
    generalize (q.den : Rat) = b at *
    grind
  have h := mk_le (p.num * q.num) (p.den * q.den) (Nat.mul_pos p.den_pos q.den_pos)
  rw [← e, Int.natAbs_mul] at h
  have e1 : p.num.natAbs * q.num.natAbs < 2 ^ n * 2 ^ m := Nat.mul_lt_mul_of_lt_of_le hp.1 (Nat.le_of_lt hq.1) (Nat.pow_pos (by decide))
  have e3 : p.den * q.den < 2 ^ n * 2 ^ m := Nat.mul_lt_mul_of_lt_of_le hp.2 (Nat.le_of_lt hq.2) (Nat.pow_pos (by decide))
  rw [← Nat.pow_add] at e1 e3
  exact ⟨Nat.lt_of_le_of_lt h.1 e1, Nat.lt_of_le_of_lt h.2 e3⟩
theorem qv_bt (s : List UInt8) : Bt 6700 (qv s) := by
  have h10 : 10 ^ 2000 ≤ 2 ^ 6700 := by decide +kernel
  unfold qv
  cases h : fget s with
  | none => exact Bt.zero.le (by decide)
  | some q =>
    have := fget_bound h
    exact ⟨Nat.lt_of_lt_of_le this.1 h10, Nat.lt_of_lt_of_le this.2 h10⟩
theorem qv_hq (s : List UInt8) : Hq (qv s) := (qv_bt s).hq (by decide)
end Go.Eng
end
section
namespace Go.Eng
open Go.RowKit
theorem WOps_mono {cx : Cx} {ops : Array Oper} {K K' : Env → Heap → Prop} (hk : ∀ e H, K e H → K' e H) : ∀ (l : List Oper) (e : Env) (H : Heap), WOps cx ops l e H K → WOps cx ops l e H K'
  | [], e, H, h => hk e H h
  | o :: l, e, H, h => by
    simp only [WOps] at h ⊢
    split at h
    · exact h.elim
    · split at h
      · exact WOps_mono hk l _ _ h
      · exact h.elim
    · split at h
      · split at h
        · exact WOps_mono hk l _ _ h
        · exact h.elim
      · split at h
        · exact WOps_mono hk l _ _ h
        · exact h.elim
      · refine h.mono fun y K hy => ?_
        split at hy
        · exact WOps_mono hk l _ _ hy
        · exact hy.elim
      · exact h.elim
/-- A region's operations from here on, and what is to hold behind them. -/
structure RunK (cx : Cx) (ops : Array Oper) (l : List Oper) (sz : Nat) (m : List (Nat × AV)) (H : Heap) (KK : List (Nat × AV) → Heap → Prop) : Prop where
  w : WOps cx ops l ⟨sz, T.of m⟩ H fun e H' => ∃ m', e = ⟨sz, T.of m'⟩ ∧ KK m' H'
section
variable {cx : Cx} {ops : Array Oper} {l : List Oper} {sz d : Nat} {m : List (Nat × AV)} {H H' : Heap} {x : AV} {k : List Fr} {KK : List (Nat × AV) → Heap → Prop} {op : Op} {ty : TypeId} {pos : String} {af : Array Edge} {R : AEx → Env → Heap → Prop}
theorem K_nil (h : KK m H) : RunK cx ops [] sz m H KK := ⟨⟨m, rfl, h⟩⟩
theorem K_v (hs : Nat.blt d sz = true) (ha : sop cx m H op = some (.val x H')) (h : RunK cx ops l sz ((d, x) :: m) H' KK) : RunK cx ops (⟨some d, op, ty, pos, af, none⟩ :: l) sz m H KK := by
  have ha := sop_ok (sz := sz) ha
  refine ⟨?_⟩
  simp only [WOps, wantedA, aop, ha, Env.put, hs, cond_true]
  exact h.w
theorem K_s (ha : sop cx m H op = some (.skip H')) (h : RunK cx ops l sz m H' KK) : RunK cx ops (⟨none, op, ty, pos, af, none⟩ :: l) sz m H KK := by
  have ha := sop_ok (sz := sz) ha
  refine ⟨?_⟩
  simp only [WOps, wantedA, aop, ha, Env.put]
  exact h.w
/-- A call, of whose answer something is known. -/
theorem K_cx {f : FuncId} {args : List AV} {Q : AV → Heap → Prop} (hs : Nat.blt d sz = true) (ha : sop cx m H op = some (.enter f args)) (hc : Ans cx f args H Q) (h : ∀ y K, Q y K → RunK cx ops l sz ((d, y) :: m) K KK) : RunK cx ops (⟨some d, op, ty, pos, af, none⟩ :: l) sz m H KK := by
  have ha := sop_ok (sz := sz) ha
  refine ⟨?_⟩
  simp only [WOps, wantedA, aop, ha, Env.put, hs, cond_true]
  exact hc.mono fun y K hy => (h y K hy).w
theorem K_c {f : FuncId} {args : List AV} (hs : Nat.blt d sz = true) (ha : sop cx m H op = some (.enter f args)) (hc : Ans cx f args H fun y K => y = x ∧ K = H') (h : RunK cx ops l sz ((d, x) :: m) H' KK) : RunK cx ops (⟨some d, op, ty, pos, af, none⟩ :: l) sz m H KK :=
  K_cx hs ha hc fun y K hy => by
    obtain ⟨rfl, rfl⟩ := hy
    exact h
theorem K_g {d' : Option Tmp} {j t : Nat} {w : Bool} (hj : (ops[j]?).bind (·.dst) = some t) (hb : lq m t = some (.bool w)) (h : RunK cx ops (⟨d', op, ty, pos, af, none⟩ :: l) sz m H KK) : RunK cx ops (⟨d', op, ty, pos, af, some (j, w)⟩ :: l) sz m H KK := by
  have hw : wantedA ops ⟨sz, T.of m⟩ ⟨d', op, ty, pos, af, some (j, w)⟩ = some true := by
    simp only [wantedA, hj, T.of_get, hb]
    cases w <;> rfl
  have hw' : wantedA ops ⟨sz, T.of m⟩ ⟨d', op, ty, pos, af, none⟩ = some true := rfl
  have h := h.w
  refine ⟨?_⟩
  simp only [WOps, hw, hw'] at h ⊢
  exact h
theorem K_n {j t : Nat} {w b : Bool} (hs : Nat.blt d sz = true) (hj : (ops[j]?).bind (·.dst) = some t) (hb : lq m t = some (.bool b)) (hn : (b == w) = false) (h : RunK cx ops l sz ((d, .tuple []) :: m) H KK) : RunK cx ops (⟨some d, op, ty, pos, af, some (j, w)⟩ :: l) sz m H KK := by
  have hw : wantedA ops ⟨sz, T.of m⟩ ⟨some d, op, ty, pos, af, some (j, w)⟩ = some false := by
    simp only [wantedA, hj, T.of_get, hb, hn]
  refine ⟨?_⟩
  simp only [WOps, hw, Env.put, hs, cond_true]
  exact h.w
theorem K_n' {j t : Nat} {w : Bool} (hs : Nat.blt d sz = true) (hj : (ops[j]?).bind (·.dst) = some t) (hb : lq m t = some (.tuple [])) (h : RunK cx ops l sz ((d, .tuple []) :: m) H KK) : RunK cx ops (⟨some d, op, ty, pos, af, some (j, w)⟩ :: l) sz m H KK := by
  have hw : wantedA ops ⟨sz, T.of m⟩ ⟨some d, op, ty, pos, af, some (j, w)⟩ = some false := by
    simp only [wantedA, hj, T.of_get, hb]
  refine ⟨?_⟩
  simp only [WOps, hw, Env.put, hs, cond_true]
  exact h.w
theorem K_run (hN : CxOk cx) {id : Nat} {y : Code} (h : RunK cx ops ops.toList sz m H fun m' H' => WG cx y sz m' H' (Cn cx R k)) : WG cx (.seq (.region id ops false) y) sz m H (Cn cx R k) :=
  ⟨S_ops_seq hN fun _ hK => WOps_mono (fun e H' he => by
    obtain ⟨m', rfl, hw⟩ := he
    exact hK _ _ hw.w) _ _ _ h.w⟩
theorem K_run1 (hN : CxOk cx) {id : Nat} (h : RunK cx ops ops.toList sz m H fun m' H' => CG cx R k .normal sz m' H') : WG cx (.region id ops false) sz m H (Cn cx R k) :=
  ⟨S_ops hN fun _ hK => WOps_mono (fun e H' he => by
    obtain ⟨m', rfl, hw⟩ := he
    exact hK _ _ hw.c) _ _ _ h.w⟩
end
section
variable {cx : Cx} {sz : Nat} {m : List (Nat × AV)} {H : Heap} {k : List Fr} {R : AEx → Env → Heap → Prop}
end
end Go.Eng
end
section
namespace Go.Eng
open Go Go.RowKit Go.Proofs
set_option maxHeartbeats 4000000
set_option maxRecDepth 10000
theorem prob_number_ans (s : List UInt8) (hs : Sh s) (H : Heap) : Ans cs0 F.prob_number [.str s] H fun x K => x = .bool (isq s) ∧ K = H := by
  have hN := cz_ok
  have hg := frac_Get_ans s hs H
  unfold fgetAV at hg
  unfold isq
  refine G_body hN (fn := B.prob_number) (sz := 11) rfl rfl rfl rfl rfl ?_
  cases hf : fget s with
  | none =>
    rw [hf] at hg
    refine K_run hN ?_; (repeat (first | refine K_v rfl rfl ?_ | refine K_g rfl rfl ?_ | refine K_n rfl rfl rfl rfl ?_ | refine K_n' rfl rfl rfl ?_ | refine K_s rfl ?_)); refine K_nil ?_
    refine K_run hN ?_; (repeat (first | refine K_v rfl rfl ?_ | refine K_g rfl rfl ?_ | refine K_n rfl rfl rfl rfl ?_ | refine K_n' rfl rfl rfl ?_ | refine K_s rfl ?_)); refine K_c rfl rfl hg ?_; (repeat (first | refine K_v rfl rfl ?_ | refine K_g rfl rfl ?_ | refine K_n rfl rfl rfl rfl ?_ | refine K_n' rfl rfl rfl ?_ | refine K_s rfl ?_)); refine K_nil ?_
    refine K_run hN ?_; (repeat (first | refine K_v rfl rfl ?_ | refine K_g rfl rfl ?_ | refine K_n rfl rfl rfl rfl ?_ | refine K_n' rfl rfl rfl ?_ | refine K_s rfl ?_)); refine K_nil ?_
    exact G_ret (G_end rfl ⟨rfl, rfl⟩)
  | some q =>
    rw [hf] at hg
    refine K_run hN ?_; (repeat (first | refine K_v rfl rfl ?_ | refine K_g rfl rfl ?_ | refine K_n rfl rfl rfl rfl ?_ | refine K_n' rfl rfl rfl ?_ | refine K_s rfl ?_)); refine K_nil ?_
    refine K_run hN ?_; (repeat (first | refine K_v rfl rfl ?_ | refine K_g rfl rfl ?_ | refine K_n rfl rfl rfl rfl ?_ | refine K_n' rfl rfl rfl ?_ | refine K_s rfl ?_)); refine K_c rfl rfl hg ?_; (repeat (first | refine K_v rfl rfl ?_ | refine K_g rfl rfl ?_ | refine K_n rfl rfl rfl rfl ?_ | refine K_n' rfl rfl rfl ?_ | refine K_s rfl ?_)); refine K_nil ?_
    refine K_run hN ?_; (repeat (first | refine K_v rfl rfl ?_ | refine K_g rfl rfl ?_ | refine K_n rfl rfl rfl rfl ?_ | refine K_n' rfl rfl rfl ?_ | refine K_s rfl ?_)); refine K_nil ?_
    exact G_ret (G_end rfl ⟨rfl, rfl⟩)
theorem prob_read_ans (s : List UInt8) (hs : Sh s) (H : Heap) : Ans cs0 F.prob_read [.str s] H fun x K => x = rdAV s ∧ K = H := by
  have hN := cz_ok
  have hg := frac_Get_ans s hs H
  unfold fgetAV at hg
  unfold rdAV
  refine G_body hN (fn := B.prob_read) (sz := 11) rfl rfl rfl rfl rfl ?_
  cases hf : fget s with
  | none =>
    rw [hf] at hg
    refine K_run hN ?_; (repeat (first | refine K_v rfl rfl ?_ | refine K_g rfl rfl ?_ | refine K_n rfl rfl rfl rfl ?_ | refine K_n' rfl rfl rfl ?_ | refine K_s rfl ?_)); refine K_nil ?_
    refine K_run hN ?_; (repeat (first | refine K_v rfl rfl ?_ | refine K_g rfl rfl ?_ | refine K_n rfl rfl rfl rfl ?_ | refine K_n' rfl rfl rfl ?_ | refine K_s rfl ?_)); refine K_c rfl rfl hg ?_; (repeat (first | refine K_v rfl rfl ?_ | refine K_g rfl rfl ?_ | refine K_n rfl rfl rfl rfl ?_ | refine K_n' rfl rfl rfl ?_ | refine K_s rfl ?_)); refine K_nil ?_
    refine K_run hN ?_; (repeat (first | refine K_v rfl rfl ?_ | refine K_g rfl rfl ?_ | refine K_n rfl rfl rfl rfl ?_ | refine K_n' rfl rfl rfl ?_ | refine K_s rfl ?_)); refine K_nil ?_
    exact G_ret (G_end rfl ⟨rfl, rfl⟩)
  | some q =>
    rw [hf] at hg
    refine K_run hN ?_; (repeat (first | refine K_v rfl rfl ?_ | refine K_g rfl rfl ?_ | refine K_n rfl rfl rfl rfl ?_ | refine K_n' rfl rfl rfl ?_ | refine K_s rfl ?_)); refine K_nil ?_
    refine K_run hN ?_; (repeat (first | refine K_v rfl rfl ?_ | refine K_g rfl rfl ?_ | refine K_n rfl rfl rfl rfl ?_ | refine K_n' rfl rfl rfl ?_ | refine K_s rfl ?_)); refine K_c rfl rfl hg ?_; (repeat (first | refine K_v rfl rfl ?_ | refine K_g rfl rfl ?_ | refine K_n rfl rfl rfl rfl ?_ | refine K_n' rfl rfl rfl ?_ | refine K_s rfl ?_)); refine K_nil ?_
    refine K_run hN ?_; (repeat (first | refine K_v rfl rfl ?_ | refine K_g rfl rfl ?_ | refine K_n rfl rfl rfl rfl ?_ | refine K_n' rfl rfl rfl ?_ | refine K_s rfl ?_)); refine K_nil ?_
    exact G_ret (G_end rfl ⟨rfl, rfl⟩)
end Go.Eng
end
section
namespace Go.Eng
open Go.RowKit
structure DRunK (cx : Cx) (ops : Array Oper) (H : Heap) (sz : Nat) (l : List Oper) (m : List (Nat × AV)) (KK : List (Nat × AV) → Prop) : Prop where
  run : ∃ mr, DRun cx ops H sz l m mr ∧ KK mr
section
variable {cx : Cx} {ops : Array Oper} {H : Heap} {R : AEx → Env → Heap → Prop} {k : List Fr} {sz d : Nat} {m : List (Nat × AV)} {KK : List (Nat × AV) → Prop} {l : List Oper} {x : AV} {op : Op} {ty : TypeId} {pos : String} {af : Array Edge}
theorem KD_nil (h : KK m) : DRunK cx ops H sz [] m KK := ⟨m, D_nil, h⟩
theorem KD_q (hs : Nat.blt d sz = true) (hq : (isQ op && !(isCv op)) = true) (ha : sop cx (lookM m (reads ops ⟨some d, op, ty, pos, af, none⟩) []) H op = some (.val x H)) (h : DRunK cx ops H sz l ((d, x) :: m) KK) : DRunK cx ops H sz (⟨some d, op, ty, pos, af, none⟩ :: l) m KK := by
  obtain ⟨mr, h1, h2⟩ := h.run
  exact ⟨mr, D_q hs hq ha h1, h2⟩
theorem KD_qg {j t : Nat} {w : Bool} (hs : Nat.blt d sz = true) (hq : (isQ op && !(isCv op)) = true) (hj : (ops[j]?).bind (·.dst) = some t) (hb : lq (lookM m (reads ops ⟨some d, op, ty, pos, af, some (j, w)⟩) []) t = some (.bool w)) (ha : sop cx (lookM m (reads ops ⟨some d, op, ty, pos, af, some (j, w)⟩) []) H op = some (.val x H)) (h : DRunK cx ops H sz l ((d, x) :: m) KK) : DRunK cx ops H sz (⟨some d, op, ty, pos, af, some (j, w)⟩ :: l) m KK := by
  obtain ⟨mr, h1, h2⟩ := h.run
  exact ⟨mr, D_qg hs hq hj hb ha h1, h2⟩
theorem KD_n {j t : Nat} {w b : Bool} (hs : Nat.blt d sz = true) (hj : (ops[j]?).bind (·.dst) = some t) (hb : lq (lookM m (reads ops ⟨some d, op, ty, pos, af, some (j, w)⟩) []) t = some (.bool b)) (hn : (b == w) = false) (h : DRunK cx ops H sz l ((d, .tuple []) :: m) KK) : DRunK cx ops H sz (⟨some d, op, ty, pos, af, some (j, w)⟩ :: l) m KK := by
  obtain ⟨mr, h1, h2⟩ := h.run
  exact ⟨mr, D_n hs hj hb hn h1, h2⟩
theorem KD_n' {j t : Nat} {w : Bool} (hs : Nat.blt d sz = true) (hj : (ops[j]?).bind (·.dst) = some t) (hb : lq (lookM m (reads ops ⟨some d, op, ty, pos, af, some (j, w)⟩) []) t = some (.tuple [])) (h : DRunK cx ops H sz l ((d, .tuple []) :: m) KK) : DRunK cx ops H sz (⟨some d, op, ty, pos, af, some (j, w)⟩ :: l) m KK := by
  obtain ⟨mr, h1, h2⟩ := h.run
  refine ⟨mr, ⟨.cons (.skip ?_ (put_of hs _)) h1.run⟩, h2⟩
  rw [look_of]
  simp only [wantedA, hj, T.of_get, hb]
theorem KD_c {f : FuncId} {args : List AV} (hs : Nat.blt d sz = true) (hq : isQ op = false) (ha : sop cx (lookM m (reads ops ⟨some d, op, ty, pos, af, none⟩) []) H op = some (.enter f args)) (hc : Ans cx f args H fun y K => y = x ∧ K = H) (h : DRunK cx ops H sz l ((d, x) :: m) KK) : DRunK cx ops H sz (⟨some d, op, ty, pos, af, none⟩ :: l) m KK := by
  obtain ⟨mr, h1, h2⟩ := h.run
  exact ⟨mr, D_c hs hq ha hc h1, h2⟩
theorem KD_cg {j t : Nat} {w : Bool} {f : FuncId} {args : List AV} (hs : Nat.blt d sz = true) (hq : isQ op = false) (hj : (ops[j]?).bind (·.dst) = some t) (hb : lq (lookM m (reads ops ⟨some d, op, ty, pos, af, some (j, w)⟩) []) t = some (.bool w)) (ha : sop cx (lookM m (reads ops ⟨some d, op, ty, pos, af, some (j, w)⟩) []) H op = some (.enter f args)) (hc : Ans cx f args H fun y K => y = x ∧ K = H) (h : DRunK cx ops H sz l ((d, x) :: m) KK) : DRunK cx ops H sz (⟨some d, op, ty, pos, af, some (j, w)⟩ :: l) m KK := by
  obtain ⟨mr, h1, h2⟩ := h.run
  exact ⟨mr, D_cg hs hq hj hb ha hc h1, h2⟩
theorem K_draw (hN : CxOk cx) (hm : cx.P.follows .mixedOrders = true) {id : Nat} {y : Code} (hst : statD ops ops.toList 0 0 .nil [] = true) (h : DRunK cx ops H sz ops.toList m fun mr => WG cx y sz mr H (Cn cx R k)) : WG cx (.seq (.region id ops true) y) sz m H (Cn cx R k) := by
  obtain ⟨mr, h1, h2⟩ := h.run
  exact G_draw hN hm hst h1 h2
end
structure ERunK (cx : Cx) (ops : Array Oper) (sz : Nat) (l : List Oper) (i : Nat) (m : List (Nat × AV)) (H : Heap) (lm id : Nat) (al : List FE) (ld : Nat) (hs : List HE) (qs : List QE) (bs : T Nat) (rs : List RE) (idr : Nat) (KK : List (Nat × AV) → Heap → Prop) : Prop where
  run : ∃ mr Hr, ERun cx ops sz l i m H lm id al ld hs qs bs rs mr Hr idr ∧ KK mr Hr
section
variable {cx : Cx} {ops : Array Oper} {e : Env} {H : Heap} {R : AEx → Env → Heap → Prop} {k : List Fr} {KK : List (Nat × AV) → Heap → Prop}
variable {sz i d lm id ld b idr : Nat} {m : List (Nat × AV)} {al : List FE} {hs : List HE} {qs : List QE} {bs : T Nat} {rs : List RE} {l : List Oper} {x : AV} {op : Op} {ty : TypeId} {pos : String} {af : Array Edge} {H' : Heap}
theorem KE_nil (h : KK m (landL (restS ld al) H)) : ERunK cx ops sz [] i m H lm id al ld hs qs bs rs id KK := ⟨_, _, E_nil rfl, h⟩
theorem KE_q (b i' : Nat) (hi : i + 1 = i') (hz : Nat.blt d sz = true) (hq : (isQ op && !(isCv op)) = true) (hb : bmask bs i af.toList 0 = some b) (hc : clash b (some d) (reads ops ⟨some d, op, ty, pos, af, none⟩) rs = true)
    (ha : sop cx (lookM m (reads ops ⟨some d, op, ty, pos, af, none⟩) []) (landL (selS b ld al) H) op = some (.val x (landL (selS b ld al) H))) (hk : HsOk cx b ⟨some d, op, ty, pos, af, none⟩ ⟨sz, T.of (lookM m (reads ops ⟨some d, op, ty, pos, af, none⟩) [])⟩ x al hs)
    (h : ERunK cx ops sz l i' ((d, x) :: m) H lm id al ld hs (⟨i, b, ⟨some d, op, ty, pos, af, none⟩, ⟨sz, T.of (lookM m (reads ops ⟨some d, op, ty, pos, af, none⟩) [])⟩, x⟩ :: qs) (bs.set i b) (⟨i, some d, reads ops ⟨some d, op, ty, pos, af, none⟩⟩ :: rs) idr KK) :
    ERunK cx ops sz (⟨some d, op, ty, pos, af, none⟩ :: l) i m H lm id al ld hs qs bs rs idr KK := by
  obtain ⟨mr, Hr, h1, h2⟩ := h.run
  exact ⟨mr, Hr, E_q b i' hi hz hq hb hc ha hk h1, h2⟩
theorem KE_f {cs : List AV} (b i' id' : Nat) (hi : i + 1 = i') (hid : id + 1 = id') (hz : Nat.blt d sz = true) (hq : isF op = true) (hb : bmask bs i af.toList 0 = some b) (hc : clash b (some d) (reads ops ⟨some d, op, ty, pos, af, none⟩) rs = true)
    (ha : aFl cx ⟨sz, T.of (lookM m (reads ops ⟨some d, op, ty, pos, af, none⟩) [])⟩ ⟨some d, op, ty, pos, af, none⟩ id = some (x, cs))
    (h : ERunK cx ops sz l i' ((d, x) :: m) H lm id' (⟨i, id, cs⟩ :: al) ld hs qs (bs.set i b) (⟨i, some d, reads ops ⟨some d, op, ty, pos, af, none⟩⟩ :: rs) idr KK) :
    ERunK cx ops sz (⟨some d, op, ty, pos, af, none⟩ :: l) i m H lm id al ld hs qs bs rs idr KK := by
  obtain ⟨mr, Hr, h1, h2⟩ := h.run
  exact ⟨mr, Hr, E_f b i' id' hi hid hz hq hb hc ha h1, h2⟩
theorem KE_l (b i' lm' ld' : Nat) (hi : i + 1 = i') (hlm : Nat.lor lm (Nat.shiftLeft 1 i) = lm') (hld : Nat.lor ld b = ld') (hz : Nat.blt d sz = true) (hq : isQ op = false) (hb : bmask bs i af.toList 0 = some b) (hc : clash b (some d) (reads ops ⟨some d, op, ty, pos, af, none⟩) rs = true) (hm : Nat.beq (Nat.land lm b) lm = true)
    (ha : sop cx (lookM m (reads ops ⟨some d, op, ty, pos, af, none⟩) []) (landL (selS b ld al) H) op = some (.val x H')) (hk : QsOk cx b H' ld' al qs)
    (h : ERunK cx ops sz l i' ((d, x) :: m) H' lm' id al ld' (⟨i, H, ld⟩ :: hs) qs (bs.set i b) (⟨i, some d, reads ops ⟨some d, op, ty, pos, af, none⟩⟩ :: rs) idr KK) :
    ERunK cx ops sz (⟨some d, op, ty, pos, af, none⟩ :: l) i m H lm id al ld hs qs bs rs idr KK := by
  obtain ⟨mr, Hr, h1, h2⟩ := h.run
  exact ⟨mr, Hr, E_l b i' lm' ld' hi hlm hld hz hq hb hc hm ha hk h1, h2⟩
theorem KE_c {f : FuncId} {args : List AV} (b i' lm' ld' : Nat) (hi : i + 1 = i') (hlm : Nat.lor lm (Nat.shiftLeft 1 i) = lm') (hld : Nat.lor ld b = ld') (hz : Nat.blt d sz = true) (hq : isQ op = false) (hb : bmask bs i af.toList 0 = some b) (hc : clash b (some d) (reads ops ⟨some d, op, ty, pos, af, none⟩) rs = true) (hm : Nat.beq (Nat.land lm b) lm = true)
    (ha : sop cx (lookM m (reads ops ⟨some d, op, ty, pos, af, none⟩) []) (landL (selS b ld al) H) op = some (.enter f args)) (hs' : Ans cx f args (landL (selS b ld al) H) fun y K => y = x ∧ K = H') (hk : QsOk cx b H' ld' al qs)
    (h : ERunK cx ops sz l i' ((d, x) :: m) H' lm' id al ld' (⟨i, H, ld⟩ :: hs) qs (bs.set i b) (⟨i, some d, reads ops ⟨some d, op, ty, pos, af, none⟩⟩ :: rs) idr KK) :
    ERunK cx ops sz (⟨some d, op, ty, pos, af, none⟩ :: l) i m H lm id al ld hs qs bs rs idr KK := by
  obtain ⟨mr, Hr, h1, h2⟩ := h.run
  exact ⟨mr, Hr, E_c b i' lm' ld' hi hlm hld hz hq hb hc hm ha hs' hk h1, h2⟩
theorem K_drawF (hN : CxOk cx) (hm : cx.P.follows .mixedOrders = true) {id : Nat} {y : Code} (r : Nat) (h : ERunK cx ops sz ops.toList 0 m (H.more r) 0 H.nx [] 0 [] [] .nil [] (H.nx + r) fun mr Hr => WG cx y sz mr Hr (Cn cx R k)) : WG cx (.seq (.region id ops true) y) sz m H (Cn cx R k) := by
  obtain ⟨mr, Hr, h1, h2⟩ := h.run
  exact G_drawF hN hm r h1 h2
end
end Go.Eng
end
section
namespace Go.Eng
open Go Go.RowKit Go.Proofs
set_option maxHeartbeats 4000000
set_option maxRecDepth 10000
theorem Frz_bool {H : Heap} {b c : Bool} (h : b = c) : Frz H (wrapR [.bool b]) (.bool c) := ⟨10, by rw [h]; rfl⟩
theorem cmpR_le (p q : Rat) : decide (cmpR p q ≤ 0) = decide (p ≤ q) := by
  rw [decide_eq_decide]
  unfold cmpR
  split
  · exact ⟨fun _ => by grind, fun _ => by decide⟩
  · split
    · exact ⟨fun _ => by grind, fun _ => by decide⟩
    · exact ⟨fun h => absurd h (by decide), fun _ => by grind⟩
theorem prob_column_ans (c : ColS) (hc : c.Sh) (H : Heap) : Ans cs0 F.prob_column [.agg c.av] H fun x K => x = .bool (colOk c) ∧ K = H := by
  have hN := cz_ok
  obtain ⟨name, low, up, cost, int⟩ := c
  obtain ⟨hl, hu, hcs⟩ := hc
  simp only at hl hu hcs
  refine Ans_free gl0_free (Imp.refl _) rfl ?_ H
  have nL := prob_number_ans low hl
  have nU := prob_number_ans up hu
  have nC := prob_number_ans cost hcs
  have rL := prob_read_ans low hl
  have rU := prob_read_ans up hu
  have cLU := fun H => frac_Frac_Cmp_ans (X := ext0) (Y := lies0) hN (rdAV_q low) (rdAV_q up) (qv_hq low) (qv_hq up) H
  refine G_body hN (fn := B.prob_column) (sz := 47) rfl rfl rfl rfl rfl ?_
  refine K_run hN ?_; (repeat (first | refine K_v rfl rfl ?_ | refine K_g rfl rfl ?_ | refine K_n rfl rfl rfl rfl ?_ | refine K_n' rfl rfl rfl ?_ | refine K_s rfl ?_)); refine K_nil ?_
  refine G_seq ?_
  unfold colOk
  simp only
  cases hC : isq cost with
  | false =>
    rw [hC] at nC
    refine K_run hN ?_; (repeat (first | refine K_v rfl rfl ?_ | refine K_g rfl rfl ?_ | refine K_n rfl rfl rfl rfl ?_ | refine K_n' rfl rfl rfl ?_ | refine K_s rfl ?_ | refine K_c rfl rfl (nC _) ?_)); refine K_nil ?_
    refine G_if1 rfl ?_
    refine K_run hN ?_; (repeat (first | refine K_v rfl rfl ?_ | refine K_g rfl rfl ?_ | refine K_n rfl rfl rfl rfl ?_ | refine K_n' rfl rfl rfl ?_ | refine K_s rfl ?_)); refine K_nil ?_
    exact G_ret (G_end rfl (Frz_bool rfl))
  | true =>
    rw [hC] at nC
    cases hL : isq low <;> cases hU : isq up <;> rw [hL] at nL <;> rw [hU] at nU <;> cases low <;> cases up <;>
      (refine K_run hN ?_; (repeat (first | refine K_v rfl rfl ?_ | refine K_g rfl rfl ?_ | refine K_n rfl rfl rfl rfl ?_ | refine K_n' rfl rfl rfl ?_ | refine K_s rfl ?_ | refine K_c rfl rfl (nC _) ?_ | refine K_c rfl rfl (nL _) ?_ | refine K_c rfl rfl (nU _) ?_)); refine K_nil ?_) <;>
      first
      | (refine G_if0 rfl (G_skip (G_pop ?_))
         refine K_draw hN mixed (by rfl) ?_; (repeat (first | refine KD_q rfl rfl rfl ?_ | refine KD_qg rfl rfl rfl rfl rfl ?_ | refine KD_n rfl rfl rfl rfl ?_ | refine KD_n' rfl rfl rfl ?_ | refine KD_c rfl rfl rfl (rL _) ?_ | refine KD_cg rfl rfl rfl rfl rfl (rL _) ?_ | refine KD_c rfl rfl rfl (rU _) ?_ | refine KD_cg rfl rfl rfl rfl rfl (rU _) ?_ | refine KD_c rfl rfl rfl (cLU _) ?_ | refine KD_cg rfl rfl rfl rfl rfl (cLU _) ?_)); refine KD_nil ?_
         exact G_ret (G_end rfl (Frz_bool (by first | rfl | exact cmpR_le _ _))))
      | (refine G_if1 rfl ?_
         refine K_run hN ?_; (repeat (first | refine K_v rfl rfl ?_ | refine K_g rfl rfl ?_ | refine K_n rfl rfl rfl rfl ?_ | refine K_n' rfl rfl rfl ?_ | refine K_s rfl ?_)); refine K_nil ?_
         exact G_ret (G_end rfl (Frz_bool rfl)))
theorem prob_May_1_ans (c : ColS) (hc : c.Sh) (H : Heap) : Ans cs0 F.prob_May_1 [.agg c.av] H fun x K => x = .bool (!(colOk c)) ∧ K = H := by
  have hN := cz_ok
  refine Ans_free gl0_free (Imp.refl _) rfl ?_ H
  have h1 := prob_column_ans c hc
  refine G_body hN (fn := B.prob_May_1) (sz := 6) rfl rfl rfl rfl rfl ?_
  refine K_run hN ?_; (repeat (first | refine K_v rfl rfl ?_ | refine K_g rfl rfl ?_ | refine K_n rfl rfl rfl rfl ?_ | refine K_n' rfl rfl rfl ?_ | refine K_s rfl ?_)); refine K_nil ?_
  refine K_run hN ?_; (repeat (first | refine K_v rfl rfl ?_ | refine K_g rfl rfl ?_ | refine K_n rfl rfl rfl rfl ?_ | refine K_n' rfl rfl rfl ?_ | refine K_s rfl ?_ | refine K_c rfl rfl (h1 _) ?_)); refine K_nil ?_
  exact G_ret (G_end rfl (Frz_bool rfl))
end Go.Eng
end
