import Derived.Test.YtekfcbeballilaaGreatDoorN3
section
namespace Go.Eng.R
open Go.RowKit
/-- The digits of a number. -/
def dig : (fuel n : Nat) → List Nat
  | 0, _ => []
  | f + 1, n => match n with
    | 0 => []
    | n + 1 => ((n + 1) % 10000) :: dig f ((n + 1) / 10000)
def digs (n : Nat) : List Nat := dig n n
abbrev BB : Nat := 10000
def val : List Nat → Nat
  | [] => 0
  | d :: l => d + BB * val l
/-- Digits are digits. -/
def Dg (l : List Nat) : Prop := ∀ d ∈ l, d < BB
theorem dig_more : ∀ (f n : Nat), n ≤ f → ∀ g, n ≤ g → dig f n = dig g n
  | 0, n, h, g, hg => by
    obtain rfl : n = 0 := by omega
    cases g <;> simp [dig]
  | f + 1, 0, h, g, hg => by cases g <;> simp [dig]
  | f + 1, n + 1, h, 0, hg => by omega
  | f + 1, n + 1, h, g + 1, hg => by
    simp only [dig]
    rw [dig_more f ((n + 1) / 10000) (by omega) g (by omega)]
theorem digs_zero : digs 0 = [] := rfl
theorem digs_pos {n : Nat} (h : 0 < n) : digs n = (n % BB) :: digs (n / BB) := by
  obtain ⟨m, rfl⟩ : ∃ m, n = m + 1 := ⟨n - 1, by omega⟩
  show dig (m + 1) (m + 1) = _
  simp only [dig]
  rw [digs, dig_more m _ (by simp only [BB]; omega) ((m + 1) / BB) (Nat.le_refl _)]
theorem val_digs (n : Nat) : val (digs n) = n := by
  induction n using Nat.strongRecOn with
  | _ n ih =>
    rcases Nat.eq_zero_or_pos n with rfl | h
    · rfl
    · rw [digs_pos h, val, ih (n / BB) (by simp only [BB]; omega)]
      simp only [BB]; omega
theorem digs_dg (n : Nat) : Dg (digs n) := by
  induction n using Nat.strongRecOn with
  | _ n ih =>
    rcases Nat.eq_zero_or_pos n with rfl | h
    · intro d hd; simp [digs_zero] at hd
    · intro d hd
      rw [digs_pos h, List.mem_cons] at hd
      rcases hd with rfl | hd
      · exact Nat.mod_lt _ (by decide)
      · exact ih (n / BB) (by simp only [BB]; omega) d hd
theorem Dg.cons {d : Nat} {l : List Nat} : Dg (d :: l) ↔ d < BB ∧ Dg l := by simp [Dg]
theorem Dg.nil : Dg [] := by simp [Dg]
theorem Dg.append {l k : List Nat} : Dg (l ++ k) ↔ Dg l ∧ Dg k := by
  simp only [Dg, List.mem_append]
  exact ⟨fun h => ⟨fun d hd => h d (.inl hd), fun d hd => h d (.inr hd)⟩, fun h d hd => hd.elim (h.1 d) (h.2 d)⟩
theorem Dg.take {l : List Nat} (h : Dg l) (n : Nat) : Dg (l.take n) := fun d hd => h d (List.mem_of_mem_take hd)
theorem Dg.drop {l : List Nat} (h : Dg l) (n : Nat) : Dg (l.drop n) := fun d hd => h d (List.mem_of_mem_drop hd)
theorem Dg.get {l : List Nat} (h : Dg l) (i : Nat) : l.getD i 0 < BB := by
  rw [List.getD_eq_getElem?_getD]
  cases hx : l[i]? with
  | none => simp [BB]
  | some d => exact h d (List.mem_of_getElem? hx)
theorem Dg.set {l : List Nat} (h : Dg l) {x : Nat} (hx : x < BB) (i : Nat) : Dg (l.set i x) := fun d hd => by
  rcases List.mem_or_eq_of_mem_set hd with h1 | h1
  · exact h d h1
  · exact h1 ▸ hx
theorem Dg.replicate (n : Nat) : Dg (List.replicate n 0) := fun d hd => by rw [List.eq_of_mem_replicate hd]; decide
theorem val_append (l k : List Nat) : val (l ++ k) = val l + BB ^ l.length * val k := by
  induction l with
  | nil => simp [val]
  | cons d l ih => simp only [List.cons_append, val, ih, List.length_cons, Nat.pow_succ]; grind
theorem val_zeros (n : Nat) : val (List.replicate n 0) = 0 := by
  induction n with
  | zero => rfl
  | succ n ih => simp [List.replicate_succ, val, ih]
theorem val_lt {l : List Nat} (h : Dg l) : val l < BB ^ l.length := by
  induction l with
  | nil => simp [val]
  | cons d l ih =>
    obtain ⟨h1, h2⟩ := Dg.cons.1 h
    have := ih h2
    simp only [val, List.length_cons, Nat.pow_succ]
    generalize BB ^ l.length = p at *
    simp only [BB] at *
    omega
theorem digs_len_le {l : List Nat} (h : Dg l) : (digs (val l)).length ≤ l.length ∧ digs (val l) = l.take (digs (val l)).length ∧ ∀ i, (digs (val l)).length ≤ i → l.getD i 0 = 0 := by
  induction l with
  | nil => simp [val, digs_zero]
  | cons d l ih =>
    obtain ⟨h1, h2⟩ := Dg.cons.1 h
    obtain ⟨i1, i2, i3⟩ := ih h2
    rcases Nat.eq_zero_or_pos (val (d :: l)) with h0 | h0
    · rw [h0, digs_zero]
      refine ⟨by simp, by simp, fun i _ => ?_⟩
      have hd : d = 0 := by simp only [val] at h0; omega
      have hv : val l = 0 := by simp only [val, BB] at h0; omega
      rw [hv, digs_zero] at i3
      cases i with
      | zero => simpa using hd
      | succ i => simpa using i3 i (by simp)
    · have e1 : val (d :: l) % BB = d := by simp only [val, BB] at *; omega
      have e2 : val (d :: l) / BB = val l := by simp only [val, BB] at *; omega
      rw [digs_pos h0, e1, e2]
      refine ⟨by simpa using i1, by simp only [List.length_cons, List.take_succ_cons]; rw [← i2], fun i hi => ?_⟩
      cases i with
      | zero => simp at hi
      | succ i => simpa using i3 i (by simpa using hi)
theorem digs_last {n : Nat} (h : 0 < n) : (digs n).getD ((digs n).length - 1) 0 ≠ 0 ∧ 0 < (digs n).length := by
  induction n using Nat.strongRecOn with
  | _ n ih =>
    rw [digs_pos h]
    refine ⟨?_, by simp⟩
    rcases Nat.eq_zero_or_pos (n / BB) with h0 | h0
    · rw [h0, digs_zero]
      have : n < BB := by simp only [BB] at *; omega
      simp [Nat.mod_eq_of_lt this]; omega
    · obtain ⟨i1, i2⟩ := ih (n / BB) (by simp only [BB] at *; omega) h0
      simp only [List.length_cons, Nat.add_sub_cancel]
      obtain ⟨k, hk⟩ : ∃ k, (digs (n / BB)).length = k + 1 := ⟨(digs (n / BB)).length - 1, by omega⟩
      rw [hk] at i1 ⊢
      simpa using i1
theorem val_take_succ : ∀ (l : List Nat) (i : Nat), val (l.take (i + 1)) = val (l.take i) + BB ^ i * l.getD i 0
  | [], i => by simp [val]
  | d :: l, 0 => by simp [val]
  | d :: l, i + 1 => by
    have := val_take_succ l i
    simp only [List.take_succ_cons, val, List.getD_cons_succ, Nat.pow_succ] at this ⊢
    rw [this]
    generalize val (l.take i) = p
    generalize l.getD i 0 = q
    generalize BB ^ i = r
    grind
theorem val_take_all (l : List Nat) {n : Nat} (h : l.length ≤ n) : val (l.take n) = val l := by rw [List.take_of_length_le h]
theorem take_set (l : List Nat) (i d : Nat) : (l.set i d).take i = l.take i := by
  rw [List.take_set]
  have : (l.take i).length ≤ i := by simp; omega
  exact List.set_eq_of_length_le this
theorem getD_set {l : List Nat} {i : Nat} (h : i < l.length) (d : Nat) : (l.set i d).getD i 0 = d := by
  rw [List.getD_eq_getElem?_getD, List.getElem?_set_self h]; rfl
theorem val_set_succ {l : List Nat} {i : Nat} (h : i < l.length) (d : Nat) : val ((l.set i d).take (i + 1)) = val (l.take i) + BB ^ i * d := by
  rw [val_take_succ, take_set, getD_set h]
theorem val_set : ∀ (l : List Nat) (j d : Nat), j < l.length → val (l.set j d) + BB ^ j * l.getD j 0 = val l + BB ^ j * d
  | [], j, d, h => by simp at h
  | x :: l, 0, d, _ => by simp [val]; omega
  | x :: l, j + 1, d, h => by
    have := val_set l j d (by simpa using h)
    simp only [List.set_cons_succ, val, List.getD_cons_succ, Nat.pow_succ] at this ⊢
    generalize val (l.set j d) = p at *
    generalize l.getD j 0 = q at *
    generalize val l = u at *
    generalize BB ^ j = r at *
    have : BB * (p + r * q) = BB * (u + r * d) := by rw [this]
    grind
theorem getD_set_ne (l : List Nat) {i j : Nat} (d : Nat) (h : i ≠ j) : (l.set i d).getD j 0 = l.getD j 0 := by
  rw [List.getD_eq_getElem?_getD, List.getElem?_set_ne h, ← List.getD_eq_getElem?_getD]
theorem val_mono_pow {l : List Nat} (h : Dg l) {n : Nat} (hn : l.length ≤ n) : val l < BB ^ n := Nat.lt_of_lt_of_le (val_lt h) (Nat.pow_le_pow_right (by decide) hn)
theorem lt_pow_len (n : Nat) : n < BB ^ (digs n).length := by
  have := val_lt (digs_dg n)
  rw [val_digs] at this
  exact this
theorem len_le_of_lt {n k : Nat} (h : n < BB ^ k) : (digs n).length ≤ k := by
  rcases Nat.lt_or_ge k (digs n).length with hk | hk
  · exfalso
    have hn : 0 < n := by
      rcases Nat.eq_zero_or_pos n with rfl | hp
      · simp [digs_zero] at hk
      · exact hp
    obtain ⟨q1, q2⟩ := digs_last hn
    have e := val_take_succ (digs n) ((digs n).length - 1)
    rw [show (digs n).length - 1 + 1 = (digs n).length by omega, List.take_length, val_digs] at e
    have h1 : BB ^ k ≤ BB ^ ((digs n).length - 1) := Nat.pow_le_pow_right (by decide) (by omega)
    have h2 : BB ^ ((digs n).length - 1) * 1 ≤ BB ^ ((digs n).length - 1) * (digs n).getD ((digs n).length - 1) 0 := Nat.mul_le_mul_left _ (by omega)
    omega
  · exact hk
theorem getD_ge {l : List Nat} {i : Nat} (h : l.length ≤ i) : l.getD i 0 = 0 := by
  rw [List.getD_eq_getElem?_getD, List.getElem?_eq_none h]; rfl
theorem val_ext : ∀ (l k : List Nat), (∀ j, l.getD j 0 = k.getD j 0) → val l = val k
  | [], [], _ => rfl
  | [], d :: k, h => by
    have h0 := h 0
    have := val_ext [] k (fun j => by have := h (j + 1); simpa using this)
    simp only [val] at this ⊢
    simp at h0
    rw [← this, ← h0]; simp
  | d :: l, [], h => by
    have h0 := h 0
    have := val_ext l [] (fun j => by have := h (j + 1); simpa using this)
    simp only [val] at this ⊢
    simp at h0
    rw [this, h0]; simp
  | d :: l, c :: k, h => by
    have h0 := h 0
    have := val_ext l k (fun j => by have := h (j + 1); simpa using this)
    simp only [val] at this ⊢
    simp at h0
    rw [this, h0]
theorem getD_drop (l : List Nat) (i j : Nat) : (l.drop i).getD j 0 = l.getD (i + j) 0 := by
  rw [List.getD_eq_getElem?_getD, List.getD_eq_getElem?_getD, List.getElem?_drop]
theorem val_split (l : List Nat) (i : Nat) (h : i ≤ l.length) : val l = val (l.take i) + BB ^ i * val (l.drop i) := by
  have := val_append (l.take i) (l.drop i)
  rw [List.take_append_drop] at this
  rw [this, List.length_take, Nat.min_eq_left h]
theorem val_split' (l : List Nat) : ∀ i, val l = val (l.take i) + BB ^ i * val (l.drop i) := fun i => by
  rcases Nat.le_total i l.length with h | h
  · exact val_split l i h
  · rw [List.take_of_length_le h, List.drop_of_length_le h]; simp [val]
theorem val_less {l k : List Nat} (hl : Dg l) {i : Nat} (h : ∀ j, i < j → l.getD j 0 = k.getD j 0) (hi : l.getD i 0 < k.getD i 0) : val l < val k := by
  have e : val (l.drop (i + 1)) = val (k.drop (i + 1)) := val_ext _ _ fun j => by rw [getD_drop, getD_drop]; exact h _ (by omega)
  rw [val_split' l (i + 1), val_split' k (i + 1), e, val_take_succ l, val_take_succ k]
  have h1 : val (l.take i) < BB ^ i := val_mono_pow (hl.take i) (by simp; omega)
  have h2 : BB ^ i * (l.getD i 0 + 1) ≤ BB ^ i * k.getD i 0 := Nat.mul_le_mul_left _ hi
  rw [Nat.mul_add, Nat.mul_one] at h2
  omega
/-- A number that the machine can hold with room to spare. -/
theorem dg_ext : ∀ {l k : List Nat}, Dg l → Dg k → l.length = k.length → val l = val k → l = k
  | [], [], _, _, _, _ => rfl
  | [], _ :: _, _, _, h, _ => by simp at h
  | _ :: _, [], _, _, h, _ => by simp at h
  | a :: l, b :: k, h1, h2, h3, h4 => by
    obtain ⟨a1, a2⟩ := Dg.cons.1 h1
    obtain ⟨b1, b2⟩ := Dg.cons.1 h2
    simp only [val] at h4
    have e1 : a = b ∧ val l = val k := by
      simp only [BB] at *
      omega
    rw [e1.1, dg_ext a2 b2 (by simpa using h3) e1.2]
/-- So many digits. -/
def pdig (n k : Nat) : List Nat := digs n ++ List.replicate (k - (digs n).length) 0
theorem pdig_dg (n k : Nat) : Dg (pdig n k) := Dg.append.2 ⟨digs_dg n, Dg.replicate _⟩
theorem pdig_val (n k : Nat) : val (pdig n k) = n := by rw [pdig, val_append, val_digs, val_zeros]; simp
theorem pdig_len {n k : Nat} (h : n < BB ^ k) : (pdig n k).length = k := by
  have := len_le_of_lt h
  simp [pdig]; omega
theorem pdig_eq {l : List Nat} (h : Dg l) : pdig (val l) l.length = l := dg_ext (pdig_dg _ _) h (pdig_len (val_lt h)) (pdig_val _ _)
theorem drop_getD (l : List Nat) {i : Nat} (h : i < l.length) : l.drop i = l.getD i 0 :: l.drop (i + 1) := by
  rw [List.drop_eq_getElem_cons h, List.getD_eq_getElem?_getD, List.getElem?_eq_getElem h]; rfl
theorem drop_set_lt (l : List Nat) {i j d : Nat} (h : i < j) : (l.set i d).drop j = l.drop j := by
  rw [List.drop_set, if_pos h]
end Go.Eng.R
end
section
namespace Go.Eng.R
open Go Go.RowKit Go.Proofs
set_option maxHeartbeats 4000000
set_option maxRecDepth 10000
def i64c (n : Nat) : AV := .int .i64 n
theorem i64_at {l : List Nat} {i : Nat} (h : i < l.length) : (l.map i64c)[i]? = some (i64c (l.getD i 0)) := by
  rw [List.getElem?_map, List.getElem?_eq_getElem h, List.getD_eq_getElem?_getD, List.getElem?_eq_getElem h]; rfl
/-- The least that a look from above may go down to. -/
theorem down_stop {l : List Nat} (hl : Dg l) {k : Nat} (h1 : (digs (val l)).length ≤ k) (_h2 : k ≤ l.length) : (0 < k ∧ l.getD (k - 1) 0 = 0 → (digs (val l)).length ≤ k - 1) ∧ (¬ (0 < k ∧ l.getD (k - 1) 0 = 0) → k = (digs (val l)).length) := by
  obtain ⟨d1, d2, d3⟩ := digs_len_le hl
  constructor
  · rintro ⟨hk, h0⟩
    rcases Nat.lt_or_ge (digs (val l)).length k with h | h
    · omega
    · exfalso
      have e : (digs (val l)).length = k := by omega
      have hv : 0 < val l := by
        rcases Nat.eq_zero_or_pos (val l) with hz | hz
        · rw [hz, digs_zero] at e; simp at e; omega
        · exact hz
      obtain ⟨q1, q2⟩ := digs_last hv
      rw [e, d2, e] at q1
      apply q1
      rw [List.getD_eq_getElem?_getD, List.getElem?_take, if_pos (by omega), ← List.getD_eq_getElem?_getD]
      exact h0
  · intro h
    rcases Nat.lt_or_ge (digs (val l)).length k with hlt | hge
    · exfalso
      exact h ⟨by omega, d3 (k - 1) (by omega)⟩
    · omega
variable {X : ExtF} {Y : LiesF}
theorem ref1_trim_pre (hN : CxOk (cz X Y)) {L l : List Nat} (hl : Dg l) (hL : L.take l.length = l) {id n cap : Nat} {ex : Bool} {H : Heap} (hg : H.t.get id = some (.cells (L.map i64c))) (hn : n = l.length) (hc : n ≤ cap) (hb : l.length ≤ 281474976710656) :
    Ans (cz X Y) F.ref1_trim [.slice id 0 n cap ex 1] H fun x K => x = .slice id 0 (digs (val l)).length cap ex 1 ∧ K = H := by
  subst hn
  have hat : ∀ j, j < l.length → (L.map i64c)[0 + j]? = some (i64c (l.getD j 0)) := fun j hj => by
    rw [Nat.zero_add, ← i64_at hj]
    conv => rhs; rw [← hL]
    rw [List.map_take, List.getElem?_take, if_pos (by rw [← hL] at hj; simp at hj; omega)]
  refine G_body hN (fn := B.ref1_trim) (sz := 21) rfl rfl rfl rfl rfl ?_
  refine G_run hN (G_v rfl rfl <| G_nil) ?_
  refine G_run hN (G_v rfl rfl <| G_v rfl rfl <| G_v rfl rfl <| G_nil) ?_
  refine G_mid (α := Unit) (fun _ => True) (fun _ => [(0, .slice id 0 l.length cap ex 1), (3, .int .i64 ((digs (val l)).length : Nat))]) (fun _ => H) (G_block ?_) fun _ _ => ?_
  · refine G_loop (α := Nat) (fun k => (digs (val l)).length ≤ k ∧ k ≤ l.length) (fun k => k) (fun k => [(0, .slice id 0 l.length cap ex 1), (3, .int .i64 (k : Nat))]) (fun _ => H) l.length ⟨(digs_len_le hl).1, Nat.le_refl _⟩ (M1 rfl <| M1 rfl M0) (Heap.Sub.refl H) fun k ⟨i1, i2⟩ => ?_
    obtain ⟨p1, p2⟩ := down_stop hl i1 i2
    refine G_seq ?_
    rcases Nat.eq_zero_or_pos k with hk | hk
    · refine G_run hN (G_v rfl rfl <| G_v rfl (g_bool (b := false) rfl (by simp; omega)) <| G_v rfl rfl <| G_n rfl rfl rfl rfl <| G_n rfl rfl rfl rfl <| G_n rfl rfl rfl rfl <| G_n rfl rfl rfl rfl <| G_n rfl rfl rfl rfl <| G_n rfl rfl rfl rfl <| G_v rfl rfl <| G_nil) ?_
      refine G_if0 rfl ?_
      refine G_exit (G_pops (G_leave (G_popx ?_)))
      exact G_done () trivial (M1 rfl <| M2 rfl (by rw [p2 (by omega)]) M0) (Heap.Sub.refl H)
    · refine G_run hN (G_v rfl rfl <| G_v rfl (g_bool (b := true) rfl (by simp; omega)) <| G_v rfl rfl <| G_g rfl rfl <| G_v rfl rfl <| G_g rfl rfl <| G_v rfl rfl <| G_g rfl rfl <| G_v rfl (g_int (b := ((k - 1 : Nat) : Int)) rfl (wi64 (by omega) (by omega) (by omega))) <|
        G_g rfl rfl <| G_v rfl (g_idx1 (k - 1) rfl rfl rfl rfl rfl rfl (by omega)) <| G_g rfl rfl <| G_v rfl (g_load (cs := L.map i64c) (off := 0 + (k - 1)) (x := i64c (l.getD (k - 1) 0)) rfl (by simp only [cellsAt, hg]) rfl rfl rfl (hat _ (by omega))) <| G_g rfl rfl <| G_v rfl rfl <| G_v rfl rfl <| G_nil) ?_
      refine G_if rfl (fun hc => ?_) (fun hc => ?_)
      · have h0 : l.getD (k - 1) 0 = 0 := by simpa using hc
        refine G_skip (G_pop (G_block ?_))
        refine G_run1 hN (G_v rfl rfl <| G_v rfl rfl <| G_v rfl rfl <| G_nil) ?_
        refine G_popb (G_again (k - 1) ⟨p1 ⟨hk, h0⟩, by omega⟩ (by omega) (M1 rfl <| M2 rfl (by rw [IntWalk.i64_in _ (by omega)]; congr 1; omega) M0) (Heap.Sub.refl H))
      · have h0 : ¬ l.getD (k - 1) 0 = 0 := by simpa using hc
        refine G_exit (G_pops (G_leave (G_popx ?_)))
        exact G_done () trivial (M1 rfl <| M2 rfl (by rw [p2 (by omega)]) M0) (Heap.Sub.refl H)
  · have := (digs_len_le hl).1
    refine G_run hN (G_v rfl rfl <| G_v rfl rfl <| G_v rfl (g_cut (digs (val l)).length rfl rfl rfl rfl rfl rfl (by omega)) <| G_v rfl rfl <| G_nil) ?_
    exact G_ret (G_end rfl ⟨rfl, rfl⟩)
/-- A reference's number. -/
def nT (n : Nat) : AV := .isl ((digs n).map i64c) (digs n).length
theorem ref1_trim_nil (hN : CxOk (cz X Y)) (H : Heap) : Ans (cz X Y) F.ref1_trim [.nilsl] H fun x K => x = .nilsl ∧ K = H := by
  refine G_body hN (fn := B.ref1_trim) (sz := 21) rfl rfl rfl rfl rfl ?_
  refine G_run hN (G_v rfl rfl <| G_nil) ?_
  refine G_run hN (G_v rfl rfl <| G_v rfl rfl <| G_v rfl rfl <| G_nil) ?_
  refine G_mid (α := Unit) (fun _ => True) (fun _ => [(0, .nilsl), (3, .int .i64 ((0 : Nat) : Int))]) (fun _ => H) (G_block ?_) fun _ _ => ?_
  · refine G_loop (α := Unit) (fun _ => True) (fun _ => 0) (fun _ => [(0, .nilsl), (3, .int .i64 ((0 : Nat) : Int))]) (fun _ => H) () trivial (M1 rfl <| M1 rfl M0) (Heap.Sub.refl H) fun _ _ => ?_
    refine G_seq ?_
    refine G_run hN (G_v rfl rfl <| G_v rfl (g_bool (b := false) rfl rfl) <| G_v rfl rfl <| G_n rfl rfl rfl rfl <| G_n rfl rfl rfl rfl <| G_n rfl rfl rfl rfl <| G_n rfl rfl rfl rfl <| G_n rfl rfl rfl rfl <| G_n rfl rfl rfl rfl <| G_v rfl rfl <| G_nil) ?_
    refine G_if0 rfl ?_
    exact G_exit (G_pops (G_leave (G_popx (G_done () trivial (M1 rfl <| M1 rfl M0) (Heap.Sub.refl H)))))
  · refine G_run hN (G_v rfl rfl <| G_v rfl rfl <| G_v rfl rfl <| G_v rfl rfl <| G_nil) ?_
    exact G_ret (G_end rfl ⟨rfl, rfl⟩)
end Go.Eng.R
end
section
namespace Go.Eng.R
open Go Go.RowKit Go.Proofs
set_option maxHeartbeats 4000000
set_option maxRecDepth 10000
/-- Sizes that may be told. -/
def Sr (n : Nat) : Prop := (digs n).length ≤ 1000000
variable {X : ExtF} {Y : LiesF}
theorem g_ati {cx : Cx} {m : List (Nat × AV)} {H : Heap} {t : TypeId} {a b : Operand} {l : List Nat} {el : Nat} {kk : IntKind} {i : Int} {inf : TypeInfo} (n : Nat)
    (ha : rd cx m a = some (.isl (l.map i64c) l.length)) (hb : rd cx m b = some (.int kk i)) (hu : cx.D.und t = some (.slice el)) (hi : cx.D.inf el = some inf) (hz : inf.size = 1) (hn : i = n) (hl : n < l.length) :
    sop cx m H (.indexAddr t a b) = some (.val (.iptr (l.map i64c) n) H) := g_idxi1 n ha hb hu hi hz hn hl
theorem ref1_Cmp_ans (hN : CxOk (cz X Y)) (a b : Nat) (ha : Sr a) (hb : Sr b) (H : Heap) : Ans (cz X Y) F.ref1_Cmp [nT a, nT b] H fun x K => x = .int .i64 (if a < b then -1 else if b < a then 1 else 0) ∧ K = H := by
  unfold Sr at ha hb
  unfold nT
  have va := val_digs a
  have vb := val_digs b
  have da := digs_dg a
  have db := digs_dg b
  have finL : ∀ (l k : List Nat), Dg l → ∀ i, (∀ j, i < j → l.getD j 0 = k.getD j 0) → l.getD i 0 < k.getD i 0 → val l < val k := fun l k hl i h1 h2 => val_less hl h1 h2
  generalize digs a = la at *
  generalize digs b = lb at *
  refine G_body hN (fn := B.ref1_Cmp) (sz := 40) rfl rfl rfl rfl rfl ?_
  refine G_run hN (G_v rfl rfl <| G_nil) ?_
  refine G_mid (α := Unit) (fun _ => a = b) (fun _ => []) (fun _ => H) ?_ ?_
  · refine G_run hN (G_v rfl rfl <| G_v rfl rfl <| G_v rfl rfl <| G_v rfl rfl <| G_v rfl (g_int (b := ((max la.length lb.length : Nat) : Int)) rfl (by show (if (lb.length : Int) > (la.length : Int) then (lb.length : Int) else (la.length : Int)) = _; split <;> omega)) <| G_v rfl (g_int (b := ((max la.length lb.length : Nat) : Int) - 1) rfl (wi64 rfl (by omega) (by omega))) <| G_v rfl rfl <| G_nil) ?_
    refine G_block ?_
    refine G_loop (α := Nat) (fun k => k ≤ max la.length lb.length ∧ ∀ j, k ≤ j → la.getD j 0 = lb.getD j 0) (fun k => k) (fun k => [(0, .isl (la.map i64c) la.length), (1, .isl (lb.map i64c) lb.length), (5, .int .i64 ((k : Nat) - 1 : Int))]) (fun _ => H)
      (max la.length lb.length) ⟨Nat.le_refl _, fun j hj => by rw [getD_ge (by omega), getD_ge (by omega)]⟩ (M1 rfl <| M1 rfl <| M1 rfl M0) (Heap.Sub.refl H) fun k ⟨i1, i2⟩ => ?_
    refine G_seq ?_
    rcases Nat.eq_zero_or_pos k with rfl | hk
    · refine G_run hN (G_v rfl rfl <| G_v rfl (g_bool (b := false) rfl rfl) <| G_nil) ?_
      refine G_if0 rfl ?_
      refine G_exit (G_pops (G_leave (G_popx (G_done () ?_ M0 (Heap.Sub.refl H)))))
      rw [← va, ← vb]
      exact val_ext la lb fun j => i2 j (Nat.zero_le _)
    · refine G_run hN (G_v rfl rfl <| G_v rfl (g_bool (b := true) rfl (decide_eq_true (by omega))) <| G_nil) ?_
      refine G_if1 rfl (G_skip (G_pop ?_))
      refine G_seq ?_
      refine G_block ?_ -- 1
      refine G_run hN (G_v rfl rfl <| G_v rfl rfl <| G_nil) ?_
      have hda : la.getD (k - 1) 0 < 10000 := da.get _
      have hdb : lb.getD (k - 1) 0 < 10000 := db.get _
      refine G_mid (α := Unit) (fun _ => True) (fun _ => [(0, .isl (la.map i64c) la.length), (1, .isl (lb.map i64c) lb.length), (5, .int .i64 ((k : Nat) - 1 : Int)), (6, i64c (la.getD (k - 1) 0)), (7, .int .i64 0)]) (fun _ => H) ?_ ?_
      · by_cases h : k - 1 < la.length
        · refine G_run hN (G_v rfl rfl <| G_v rfl rfl <| G_v rfl rfl <| G_v rfl (g_bool (b := true) rfl (decide_eq_true (by omega))) <| G_nil) ?_
          refine G_if1 rfl ?_
          refine G_run1 hN (G_v rfl rfl <| G_v rfl rfl <| G_v rfl (g_ati (k - 1) rfl rfl rfl rfl rfl (by omega) h) <| G_v rfl (g_load (cs := la.map i64c) (off := k - 1) rfl rfl rfl rfl rfl (i64_at h)) <| G_v rfl rfl <| G_nil) ?_
          exact G_done () trivial (M1 rfl <| M1 rfl <| M1 rfl <| M1 rfl <| M1 rfl M0) (Heap.Sub.refl H)
        · refine G_run hN (G_v rfl rfl <| G_v rfl rfl <| G_v rfl rfl <| G_v rfl (g_bool (b := false) rfl (decide_eq_false (by omega))) <| G_nil) ?_
          refine G_if0 rfl (G_skip ?_)
          exact G_done () trivial (M1 rfl <| M1 rfl <| M1 rfl <| M2 rfl (by rw [getD_ge (by omega)]; rfl) <| M1 rfl M0) (Heap.Sub.refl H)
      · rintro ⟨⟩ _
        refine G_mid (α := Unit) (fun _ => True) (fun _ => [(0, .isl (la.map i64c) la.length), (1, .isl (lb.map i64c) lb.length), (5, .int .i64 ((k : Nat) - 1 : Int)), (6, i64c (la.getD (k - 1) 0)), (7, i64c (lb.getD (k - 1) 0))]) (fun _ => H) ?_ ?_
        · by_cases h : k - 1 < lb.length
          · refine G_run hN (G_v rfl rfl <| G_v rfl rfl <| G_v rfl rfl <| G_v rfl (g_bool (b := true) rfl (decide_eq_true (by omega))) <| G_nil) ?_
            refine G_if1 rfl ?_
            refine G_run1 hN (G_v rfl rfl <| G_v rfl rfl <| G_v rfl (g_ati (k - 1) rfl rfl rfl rfl rfl (by omega) h) <| G_v rfl (g_load (cs := lb.map i64c) (off := k - 1) rfl rfl rfl rfl rfl (i64_at h)) <| G_v rfl rfl <| G_nil) ?_
            exact G_done () trivial (M1 rfl <| M1 rfl <| M1 rfl <| M1 rfl <| M1 rfl M0) (Heap.Sub.refl H)
          · refine G_run hN (G_v rfl rfl <| G_v rfl rfl <| G_v rfl rfl <| G_v rfl (g_bool (b := false) rfl (decide_eq_false (by omega))) <| G_nil) ?_
            refine G_if0 rfl (G_skip ?_)
            exact G_done () trivial (M1 rfl <| M1 rfl <| M1 rfl <| M1 rfl <| M2 rfl (by rw [getD_ge (by omega)]; rfl) M0) (Heap.Sub.refl H)
        · rintro ⟨⟩ _
          refine G_seq ?_
          have above : ∀ j, k - 1 < j → la.getD j 0 = lb.getD j 0 := fun j hj => i2 j (by omega)
          rcases Nat.lt_trichotomy (la.getD (k - 1) 0) (lb.getD (k - 1) 0) with h | h | h
          · have hlt : a < b := by rw [← va, ← vb]; exact finL la lb da _ above h
            refine G_run hN (G_v rfl rfl <| G_v rfl rfl <| G_v rfl (g_bool (b := true) rfl (decide_eq_true (by omega))) <| G_nil) ?_
            refine G_if1 rfl ?_
            refine G_run hN (G_v rfl rfl <| G_nil) ?_
            exact G_ret (LP_ret (MP_ret (G_end rfl ⟨by rw [if_pos hlt]; rfl, rfl⟩)))
          · refine G_run hN (G_v rfl rfl <| G_v rfl rfl <| G_v rfl (g_bool (b := false) rfl (decide_eq_false (by omega))) <| G_nil) ?_
            refine G_if0 rfl (G_skip (G_pop ?_))
            refine G_run hN (G_v rfl rfl <| G_v rfl rfl <| G_v rfl (g_bool (b := false) rfl (decide_eq_false (by omega))) <| G_nil) ?_
            refine G_if0 rfl (G_skip (G_popb (G_pop ?_)))
            refine G_run1 hN (G_v rfl rfl <| G_v rfl (g_int (b := ((k - 1 : Nat) : Int) - 1) rfl (wi64 (by omega) (by omega) (by omega))) <| G_v rfl rfl <| G_nil) ?_
            refine G_again (k - 1) ⟨by omega, fun j hj => ?_⟩ (by omega) (M1 rfl <| M1 rfl <| M1 rfl M0) (Heap.Sub.refl H)
            rcases Nat.lt_or_ge (k - 1) j with h2 | h2
            · exact above j h2
            · rw [show j = k - 1 by omega]; exact h
          · have hlt : b < a := by rw [← va, ← vb]; exact finL lb la db _ (fun j hj => (above j hj).symm) h
            refine G_run hN (G_v rfl rfl <| G_v rfl rfl <| G_v rfl (g_bool (b := false) rfl (decide_eq_false (by omega))) <| G_nil) ?_
            refine G_if0 rfl (G_skip (G_pop ?_))
            refine G_run hN (G_v rfl rfl <| G_v rfl rfl <| G_v rfl (g_bool (b := true) rfl (decide_eq_true (by omega))) <| G_nil) ?_
            refine G_if1 rfl ?_
            refine G_run hN (G_v rfl rfl <| G_nil) ?_
            exact G_ret (LP_ret (MP_ret (G_end rfl ⟨by rw [if_neg (by omega), if_pos hlt]; rfl, rfl⟩)))
  · rintro ⟨⟩ hab
    refine G_run hN (G_v rfl rfl <| G_nil) ?_
    exact G_ret (G_end rfl ⟨by rw [if_neg (by omega), if_neg (by omega)]; rfl, rfl⟩)
end Go.Eng.R
end
section
namespace Go.Eng.R
open Go Go.RowKit Go.Proofs
set_option maxHeartbeats 4000000
set_option maxRecDepth 10000
def i64z (n : Int) : AV := .int .i64 n
theorem frees_i64 : ∀ l : List Nat, AV.frees (l.map i64c) = true
  | [] => rfl
  | _ :: l => by simp [AV.frees, AV.free, i64c, frees_i64 l]
theorem nT_free (a : Nat) : AV.free (nT a) = true := by simp [nT, AV.free, frees_i64]
theorem i64z_at {L : List Int} {i : Nat} {z : Int} (h : L[i]? = some z) : (L.map i64z)[i]? = some (i64z z) := by rw [List.getElem?_map, h]; rfl
theorem map_c (l : List Nat) : l.map i64c = (l.map Int.ofNat).map i64z := by rw [List.map_map]; rfl
/-- What is left to be done of a row: one may be owed. -/
def owe (c : Nat) : List Nat → List Int
  | [] => []
  | x :: r => ((x : Int) - c) :: r.map Int.ofNat
theorem owe_zero (l : List Nat) : owe 0 l = l.map Int.ofNat := by cases l <;> simp [owe]
theorem seg_i64 (l : List Nat) {n : Nat} (h : l.length = n) : seg (l.map i64c) 0 (n * 1) = some (l.map i64c) := by subst h; simp [seg]; exact List.take_of_length_le (by simp)
theorem src_c (H : Heap) (l : List Nat) : srcCells H 1 (.isl (l.map i64c) l.length) = some (l.map i64c, l.length) := by simp [srcCells]
structure SubI (la lb : List Nat) (i : Nat) (D : List Nat) (c : Nat) (L : List Int) : Prop where
  le : i ≤ la.length
  d : D.length = i
  dg : Dg D
  c1 : c ≤ 1
  v : val D + val (lb.take i) = val (la.take i) + BB ^ i * c
  l : L = D.map Int.ofNat ++ owe c (la.drop i)
theorem SubI.get {la lb D : List Nat} {i c : Nat} {L : List Int} (h : SubI la lb i D c L) (hi : i < la.length) : L[i]? = some ((la.getD i 0 : Int) - c) ∧ L.length = la.length ∧ (∀ z, L.set i z = D.map Int.ofNat ++ z :: (la.drop (i + 1)).map Int.ofNat) := by
  have hdr : la.drop i = la.getD i 0 :: la.drop (i + 1) := drop_getD la hi
  have hL := h.l
  rw [hdr, owe] at hL
  have hlen : (D.map Int.ofNat).length = i := by simp [h.d]
  refine ⟨?_, ?_, fun z => ?_⟩
  · rw [hL, List.getElem?_append_right (by omega), hlen, Nat.sub_self]; rfl
  · rw [hL]; simp [h.d]; omega
  · rw [hL, List.set_append_right _ _ (by omega), hlen, Nat.sub_self]; rfl
/-- One step: what becomes of the owed one. -/
theorem SubI.step {la lb D : List Nat} {i c : Nat} {L : List Int} (h : SubI la lb i D c L) (hi : i < la.length) {x c' : Nat} (hx : x < 10000) (hc : c' ≤ 1) (e : (la.getD i 0 : Int) - c - lb.getD i 0 = (x : Int) - 10000 * c') :
    SubI la lb (i + 1) (D ++ [x]) c' (D.map Int.ofNat ++ (x : Int) :: owe c' (la.drop (i + 1))) := by
  refine ⟨by omega, by simp [h.d], Dg.append.2 ⟨h.dg, Dg.cons.2 ⟨hx, Dg.nil⟩⟩, hc, ?_, by simp⟩
  rw [val_append, h.d, val_take_succ, val_take_succ]
  have hv := h.v
  simp only [val]
  have e2 : la.getD i 0 + 10000 * c' = x + c + lb.getD i 0 := by omega
  rw [Nat.pow_succ]
  generalize BB ^ i = P at *
  simp only [BB] at *
  generalize la.getD i 0 = A at *
  generalize lb.getD i 0 = B at *
  generalize val (lb.take i) = q at *
  generalize val (la.take i) = p at *
  generalize val D = r at *
  have : P * A + P * (10000 * c') = P * x + P * c + P * B := by rw [← Nat.mul_add, e2, Nat.mul_add, Nat.mul_add]
  rw [show x + 10000 * 0 = x by omega, Nat.mul_assoc P 10000 c']
  omega
end Go.Eng.R
end
section
namespace Go.Eng.R
open Go Go.RowKit Go.Proofs
set_option maxHeartbeats 4000000
set_option maxRecDepth 10000
variable {X : ExtF} {Y : LiesF}
def KZ (L : List Int) : Heap := ⟨T.of [(0, .cells (L.map i64z))], 1, .nil⟩
theorem KZ_get (L : List Int) : (KZ L).t.get 0 = some (.cells (L.map i64z)) := rfl
theorem KZ_put {L : List Int} {i : Nat} {z : Int} : Heap.Sub (KZ (L.set i z)) ((KZ L).put 0 (.cells ((L.map i64z).set i (i64z z)))) :=
  HS1' (Nat.le_refl _) (T.get_set_same _ _ _) (by rw [List.map_set])
theorem frzs_c (H : Heap) : ∀ l : List Nat, Frzs H (l.map i64c) (l.map i64c)
  | [] => .nil
  | _ :: l => .cons (.int _ _) (frzs_c H l)
theorem ref1_Sub_ans (hN : CxOk (cz X Y)) (a b : Nat) (ha : Sr a) (hba : b ≤ a) (H : Heap) : Ans (cz X Y) F.ref1_Sub [nT a, nT b] H fun x K => x = nT (a - b) ∧ K = H := by
  have hfr : AV.frees [nT a, nT b] = true := by simp [AV.frees, nT_free]
  rcases Nat.eq_zero_or_pos a with rfl | h0
  · obtain rfl : b = 0 := by omega
    refine Ans_free gl0_free Imp.nilsl rfl ?_ H
    refine G_body hN (fn := B.ref1_Sub) (sz := 49) rfl rfl rfl rfl rfl ?_
    refine G_run hN (G_v rfl rfl <| G_nil) ?_
    refine G_run hN (G_v rfl rfl <| G_v rfl rfl <| G_v rfl rfl <| G_nil) ?_
    refine G_mid (α := Unit) (fun _ => True) (fun _ => [(5, .nilsl)]) (fun _ => H0) ?_ ?_
    · refine G_run hN (G_v rfl rfl <| G_v rfl rfl <| G_v rfl rfl <| G_nil) ?_
      refine G_block ?_
      refine G_loop (α := Unit) (fun _ => True) (fun _ => 0) (fun _ => [(5, .nilsl), (10, .int .i64 0), (11, .int .i64 0)]) (fun _ => H0) () trivial (M1 rfl <| M1 rfl <| M1 rfl M0) (Heap.Sub.refl _) fun _ _ => ?_
      refine G_run hN (G_v rfl rfl <| G_nil) ?_
      refine G_seq ?_
      refine G_if0 rfl ?_
      exact G_exit (G_pops (G_leave (G_popx (G_done () trivial (M1 rfl M0) (Heap.Sub.refl _)))))
    · rintro ⟨⟩ _
      refine G_run hN (G_v rfl rfl <| G_c rfl rfl (ref1_trim_nil hN _) <| G_v rfl rfl <| G_nil) ?_
      exact G_ret (G_end rfl ⟨1, rfl⟩)
  · refine Ans_free gl0_free (Imp.refl (nT (a - b))) hfr ?_ H
    unfold Sr at ha
    unfold nT
    have va := val_digs a
    have vb := val_digs b
    have da := digs_dg a
    have db := digs_dg b
    have hla := (digs_last h0).2
    have hlb : (digs b).length ≤ (digs a).length := len_le_of_lt (Nat.lt_of_le_of_lt hba (lt_pow_len a))
    generalize digs a = la at *
    generalize digs b = lb at *
    refine G_body hN (fn := B.ref1_Sub) (sz := 49) rfl rfl rfl rfl rfl ?_
    refine G_run hN (G_v rfl rfl <| G_nil) ?_
    refine G_run hN (G_v rfl rfl <| G_v rfl (g_appnil (mm := la.length) (news := la.map i64c) rfl rfl rfl rfl rfl rfl rfl (src_c _ _) hla ?_) <| G_v rfl rfl <| G_nil) ?_
    · simp only [roomOk, Bool.and_eq_true, Nat.ble_eq]
      exact ⟨by show (2 * _ + 192) * 8 ≤ _; omega, by omega⟩
    refine G_subH (KZ (la.map Int.ofNat)) (HS1' (Nat.le_refl _) rfl (by rw [map_c])) ?_
    refine G_mid (α := List Nat) (fun D => D.length = la.length ∧ Dg D ∧ val D = a - b) (fun _ => [(5, .slice 0 0 la.length la.length false 1)]) (fun D => KZ (D.map Int.ofNat)) ?_ ?_
    · refine G_run hN (G_v rfl rfl <| G_v rfl rfl <| G_v rfl rfl <| G_nil) ?_
      refine G_block ?_
      refine G_loop (α := Nat × List Int) (fun x => ∃ D c, SubI la lb x.1 D c x.2) (fun x => la.length - x.1) (fun x => [(1, .isl (lb.map i64c) lb.length), (5, .slice 0 0 la.length la.length false 1), (10, .int .i64 (la.length : Nat)), (11, .int .i64 (x.1 : Nat))]) (fun x => KZ x.2)
        (0, la.map Int.ofNat) ⟨[], 0, ⟨Nat.zero_le _, rfl, Dg.nil, by omega, by simp [val], by simp [owe_zero]⟩⟩ (M1 rfl <| M1 rfl <| M1 rfl <| M1 rfl M0) (Heap.Sub.refl _) fun ⟨i, L⟩ ⟨D, c, hI⟩ => ?_
      simp only at hI
      have hile := hI.le
      rcases Nat.lt_or_eq_of_le hI.le with hi | hi
      · obtain ⟨k1, k2, k3⟩ := hI.get hi
        have c1 := hI.c1
        have hA : la.getD i 0 < 10000 := da.get i
        have hB : lb.getD i 0 < 10000 := db.get i
        refine G_run hN (G_v rfl (g_bool (b := true) rfl (decide_eq_true (by omega))) <| G_nil) ?_
        refine G_seq ?_
        refine G_if1 rfl (G_skip (G_pop ?_))
        refine G_seq ?_
        refine G_block ?_
        refine G_run hN (G_v rfl rfl <| G_v rfl rfl <| G_nil) ?_
        generalize hz : ((la.getD i 0 : Int) - c - lb.getD i 0) = z
        refine G_mid (α := Unit) (fun _ => True) (fun _ => [(1, .isl (lb.map i64c) lb.length), (5, .slice 0 0 la.length la.length false 1), (6, .int .i64 (i : Nat)), (10, .int .i64 (la.length : Nat)), (11, .int .i64 (i : Nat))]) (fun _ => KZ (L.set i z)) ?_ ?_
        · by_cases h : i < lb.length
          · refine G_run hN (G_v rfl rfl <| G_v rfl rfl <| G_v rfl rfl <| G_v rfl (g_bool (b := true) rfl (decide_eq_true (by omega))) <| G_nil) ?_
            refine G_if1 rfl ?_
            refine G_drawF1 hN mixed 0 (E_q 0 1 rfl rfl rfl rfl rfl rfl trivial <| E_q 0 2 rfl rfl rfl rfl rfl rfl trivial <| E_q 3 3 rfl rfl rfl rfl rfl (g_idx1 i rfl rfl rfl rfl rfl rfl hi) trivial <| E_q 7 4 rfl rfl rfl rfl rfl (g_load (cs := L.map i64z) (off := 0 + i) rfl rfl rfl rfl rfl (by rw [Nat.zero_add]; exact i64z_at k1)) trivial <| E_q 0 5 rfl rfl rfl rfl rfl rfl trivial <| E_q 0 6 rfl rfl rfl rfl rfl rfl trivial <| E_q 48 7 rfl rfl rfl rfl rfl (g_ati i rfl rfl rfl rfl rfl rfl h) trivial <| E_q 112 8 rfl rfl rfl rfl rfl (g_load (cs := lb.map i64c) (off := i) rfl rfl rfl rfl rfl (i64_at h)) trivial <| E_q 255 9 rfl rfl rfl rfl rfl (g_int (b := z) rfl (wi64 hz (by omega) (by omega))) trivial <| E_q 511 10 rfl rfl rfl rfl rfl (g_idx1 i rfl rfl rfl rfl rfl rfl hi) trivial <| E_s 1023 11 1024 1023 rfl rfl rfl rfl rfl rfl rfl (g_store1 (cs := L.map i64z) rfl rfl rfl rfl rfl rfl (KZ_get L) (by rw [List.length_map]; omega)) (.ord rfl) <| E_nil rfl) ?_
            refine G_done () trivial (M1 rfl <| M1 rfl <| M1 rfl <| M1 rfl <| M1 rfl M0) ?_
            rw [Nat.zero_add]
            exact KZ_put
          · refine G_run hN (G_v rfl rfl <| G_v rfl rfl <| G_v rfl rfl <| G_v rfl (g_bool (b := false) rfl (decide_eq_false (by omega))) <| G_nil) ?_
            refine G_if0 rfl (G_skip ?_)
            refine G_done () trivial (M1 rfl <| M1 rfl <| M1 rfl <| M1 rfl <| M1 rfl M0) ?_
            have e0 : lb.getD i 0 = 0 := getD_ge (by omega)
            have e1 : L.set i z = L := by
              apply List.ext_getElem?
              intro j
              rw [List.getElem?_set]
              split
              · rename_i hj
                subst hj
                rw [if_pos (by omega), k1]
                congr 1
                omega
              · rfl
            rw [e1]
            exact Heap.Sub.refl _
        · rintro ⟨⟩ _
          have g1 : (L.set i z)[i]? = some z := by rw [List.getElem?_set, if_pos rfl, if_pos (by omega)]
          have hl1 : (L.set i z).length = la.length := by rw [List.length_set, k2]
          by_cases hneg : z < 0
          · -- one is owed
            obtain ⟨x, hx⟩ : ∃ x : Nat, (x : Int) = z + 10000 := ⟨(z + 10000).toNat, by omega⟩
            have hx1 : x < 10000 := by omega
            have hnext : i + 1 < la.length := by
              rcases Nat.lt_or_ge (i + 1) la.length with h | h
              · exact h
              · exfalso
                have hn : la.length = i + 1 := by omega
                have e1 : val la = val (la.take i) + BB ^ i * la.getD i 0 := by rw [← val_take_succ, List.take_of_length_le (by omega)]
                have e2 : val lb = val (lb.take i) + BB ^ i * lb.getD i 0 := by rw [← val_take_succ, List.take_of_length_le (by omega)]
                have hv := hI.v
                have hD := val_lt hI.dg
                rw [hI.d] at hD
                have e3 : la.getD i 0 + 1 ≤ c + lb.getD i 0 := by omega
                have e4 := Nat.mul_le_mul_left (BB ^ i) e3
                rw [Nat.mul_add, Nat.mul_add] at e4
                generalize BB ^ i = P at *
                omega
            have hst := hI.step hi (x := x) (c' := 1) hx1 (Nat.le_refl _) (by omega)
            have hdr : la.drop (i + 1) = la.getD (i + 1) 0 :: la.drop (i + 1 + 1) := drop_getD la hnext
            have hA1 : la.getD (i + 1) 0 < 10000 := da.get _
            have hDl : (D.map Int.ofNat).length = i := by simp [hI.d]
            have f1 : (L.set i z).set i (x : Int) = D.map Int.ofNat ++ (x : Int) :: (la.drop (i + 1)).map Int.ofNat := by rw [List.set_set]; exact k3 _
            have g2 : ((L.set i z).set i (x : Int))[i + 1]? = some (la.getD (i + 1) 0 : Int) := by
              rw [f1, List.getElem?_append_right (by omega), hDl, show i + 1 - i = 1 by omega, hdr]; rfl
            have f2 : ((L.set i z).set i (x : Int)).set (i + 1) ((la.getD (i + 1) 0 : Int) - 1) = D.map Int.ofNat ++ (x : Int) :: owe 1 (la.drop (i + 1)) := by
              rw [f1, List.set_append_right _ _ (by omega), hDl, show i + 1 - i = 1 by omega, hdr]; rfl
            refine G_run hN (G_v rfl rfl <| G_v rfl rfl <| G_v rfl (g_idx1 i rfl rfl rfl rfl rfl rfl hi) <| G_v rfl (g_load (cs := (L.set i z).map i64z) (off := 0 + i) rfl rfl rfl rfl rfl (by rw [Nat.zero_add]; exact i64z_at g1)) <| G_v rfl (g_bool (b := true) rfl (decide_eq_true hneg)) <| G_nil) ?_
            refine G_if1 rfl ?_
            refine G_run hN (G_v rfl rfl <| G_v rfl rfl <| G_v rfl (g_idx1 i rfl rfl rfl rfl rfl rfl hi) <| G_v rfl (g_load (cs := (L.set i z).map i64z) (off := 0 + i) rfl rfl rfl rfl rfl (by rw [Nat.zero_add]; exact i64z_at g1)) <| G_v rfl (g_int (b := (x : Int)) rfl (wi64 (by show z + 10000 = _; omega) (by omega) (by omega))) <| G_v rfl (g_idx1 i rfl rfl rfl rfl rfl rfl hi) <| G_s (g_store1 (cs := (L.set i z).map i64z) rfl rfl rfl rfl rfl rfl (KZ_get _) (by rw [List.length_map]; omega)) <| G_nil) ?_
            refine G_subH (KZ ((L.set i z).set i (x : Int))) (by rw [Nat.zero_add]; exact KZ_put) ?_
            refine G_run1 hN (G_v rfl rfl <| G_v rfl rfl <| G_v rfl (g_int (b := ((i + 1 : Nat) : Int)) rfl (wi64 (by omega) (by omega) (by omega))) <| G_v rfl (g_idx1 (i + 1) rfl rfl rfl rfl rfl rfl hnext) <| G_v rfl (g_load (cs := ((L.set i z).set i (x : Int)).map i64z) (off := 0 + (i + 1)) rfl rfl rfl rfl rfl (by rw [Nat.zero_add]; exact i64z_at g2)) <| G_v rfl (g_int (b := (la.getD (i + 1) 0 : Int) - 1) rfl (wi64 rfl (by omega) (by omega))) <| G_v rfl (g_idx1 (i + 1) rfl rfl rfl rfl rfl rfl hnext) <| G_s (g_store1 (cs := ((L.set i z).set i (x : Int)).map i64z) rfl rfl rfl rfl rfl rfl (KZ_get _) (by rw [List.length_map, List.length_set]; omega)) <| G_nil) ?_
            refine G_popb (G_pop ?_)
            refine G_subH (KZ (((L.set i z).set i (x : Int)).set (i + 1) ((la.getD (i + 1) 0 : Int) - 1))) (by rw [Nat.zero_add]; exact KZ_put) ?_
            rw [f2]
            refine G_run1 hN (G_v rfl (g_int (b := ((i + 1 : Nat) : Int)) rfl (wi64 (by omega) (by omega) (by omega))) <| G_v rfl rfl <| G_nil) ?_
            exact G_again (i + 1, _) ⟨_, _, hst⟩ (by simp only; omega) (M1 rfl <| M1 rfl <| M1 rfl <| M1 rfl M0) (Heap.Sub.refl _)
          · obtain ⟨x, hx⟩ : ∃ x : Nat, (x : Int) = z := ⟨z.toNat, by omega⟩
            have hst := hI.step hi (x := x) (c' := 0) (by omega) (by omega) (by omega)
            have f2 : L.set i z = D.map Int.ofNat ++ (x : Int) :: owe 0 (la.drop (i + 1)) := by rw [owe_zero, hx]; exact k3 _
            refine G_run hN (G_v rfl rfl <| G_v rfl rfl <| G_v rfl (g_idx1 i rfl rfl rfl rfl rfl rfl hi) <| G_v rfl (g_load (cs := (L.set i z).map i64z) (off := 0 + i) rfl rfl rfl rfl rfl (by rw [Nat.zero_add]; exact i64z_at g1)) <| G_v rfl (g_bool (b := false) rfl (decide_eq_false hneg)) <| G_nil) ?_
            refine G_if0 rfl (G_skip (G_popb (G_pop ?_)))
            rw [f2]
            refine G_run1 hN (G_v rfl (g_int (b := ((i + 1 : Nat) : Int)) rfl (wi64 (by omega) (by omega) (by omega))) <| G_v rfl rfl <| G_nil) ?_
            exact G_again (i + 1, _) ⟨_, _, hst⟩ (by simp only; omega) (M1 rfl <| M1 rfl <| M1 rfl <| M1 rfl M0) (Heap.Sub.refl _)
      · subst hi
        have hv := hI.v
        have hD := val_lt hI.dg
        rw [hI.d] at hD
        rw [List.take_length, List.take_of_length_le hlb, va, vb] at hv
        have haP : a < BB ^ la.length := by rw [← va]; exact val_lt da
        have c1 := hI.c1
        have hc0 : c = 0 := by
          rcases Nat.eq_zero_or_pos c with h | h
          · exact h
          · exfalso
            obtain rfl : c = 1 := by omega
            rw [Nat.mul_one] at hv
            omega
        subst hc0
        have hLl := hI.l
        rw [List.drop_length, owe, List.append_nil] at hLl
        refine G_run hN (G_v rfl (g_bool (b := false) rfl (decide_eq_false (by omega))) <| G_nil) ?_
        refine G_seq ?_
        refine G_if0 rfl ?_
        exact G_exit (G_pops (G_leave (G_popx (G_done D ⟨hI.d, hI.dg, by rw [Nat.mul_zero] at hv; omega⟩ (M1 rfl M0) (by rw [hLl]; exact Heap.Sub.refl _)))))
    · rintro D ⟨h1, h2, h3⟩
      have htr := ref1_trim_pre hN (L := D) (l := D) h2 (by rw [List.take_length]) (id := 0) (n := la.length) (cap := la.length) (ex := false) (H := KZ (D.map Int.ofNat)) (by rw [KZ_get, map_c]) h1.symm (Nat.le_refl _) (by omega)
      obtain ⟨q1, q2, _⟩ := digs_len_le h2
      rw [h3] at htr q1 q2
      refine G_run hN (G_v rfl rfl <| G_c rfl rfl htr <| G_v rfl rfl <| G_nil) ?_
      refine G_ret (G_end rfl ?_)
      refine .slice (cs := D.map i64c) (l := (digs (a - b)).map i64c) (by rw [KZ_get, map_c]) ?_ ?_
      · conv => rhs; rw [q2]
        simp only [seg, List.drop_zero, Nat.mul_one]
        rw [List.length_take, List.length_map, Nat.min_eq_left q1, List.map_take]
        have : Nat.beq (digs (a - b)).length (digs (a - b)).length = true := by simp
        rw [this]; rfl
      · exact frzs_c _ _
end Go.Eng.R
end
section
namespace Go.Eng.R
set_option maxHeartbeats 4000000
theorem getD_set2 (L : List Nat) (k x j : Nat) (h : k < L.length) : (L.set k x).getD j 0 = if j = k then x else L.getD j 0 := by
  by_cases e : j = k
  · subst e; rw [if_pos rfl, getD_set h]
  · rw [if_neg e, getD_set_ne L x (fun h => e h.symm)]
structure MI (la lb : List Nat) (i j : Nat) (L : List Nat) : Prop where
  len : L.length = la.length + lb.length + 1
  v : val L = val (la.take i) * val lb + BB ^ i * la.getD i 0 * val (lb.take j)
  b1 : ∀ k, L.getD k 0 ≤ 9999 + (if k = i + j ∧ 0 < j then 10003 else 0) + (if k + 1 = i + lb.length ∧ i + j ≤ k then 4 else 0)
  b2 : ∀ k, i + lb.length ≤ k → L.getD k 0 ≤ if k = i + j ∧ 0 < j then 10003 else 0
theorem MI.step {la lb : List Nat} {i j : Nat} {L : List Nat} (h : MI la lb i j L) (hi : i < la.length) (hj : j < lb.length) (da : Dg la) (db : Dg lb) {x : Nat} (hx : x = L.getD (i + j) 0 + la.getD i 0 * lb.getD j 0) :
    x ≤ 100000007 ∧ MI la lb i (j + 1) ((L.set (i + j) (x % 10000)).set (i + j + 1) (L.getD (i + j + 1) 0 + x / 10000)) := by
  have hA : la.getD i 0 ≤ 9999 := by have := da.get i; simp only [BB] at this; omega
  have hB : lb.getD j 0 ≤ 9999 := by have := db.get j; simp only [BB] at this; omega
  have hAB := Nat.mul_le_mul hA hB
  have hl := h.len
  have c1 := h.b1 (i + j)
  have hxb : x ≤ 100000007 := by
    have : L.getD (i + j) 0 ≤ 20006 := by
      refine Nat.le_trans c1 ?_
      split <;> split <;> omega
    omega
  refine ⟨hxb, by simp [hl], ?_, fun k => ?_, fun k hk => ?_⟩
  · have e1 := val_set L (i + j) (x % 10000) (by omega)
    have e2 := val_set (L.set (i + j) (x % 10000)) (i + j + 1) (L.getD (i + j + 1) 0 + x / 10000) (by simp; omega)
    rw [getD_set2 _ _ _ _ (by omega), if_neg (by omega)] at e2
    have hv := h.v
    rw [val_take_succ]
    rw [Nat.pow_succ] at e2
    have hP : BB ^ (i + j) = BB ^ i * BB ^ j := Nat.pow_add ..
    have e3 : BB ^ i * la.getD i 0 * (BB ^ j * lb.getD j 0) = BB ^ (i + j) * (la.getD i 0 * lb.getD j 0) := by rw [hP]; grind
    rw [Nat.mul_add, e3]
    generalize val ((L.set (i + j) (x % 10000)).set (i + j + 1) (L.getD (i + j + 1) 0 + x / 10000)) = W at *
    generalize val (L.set (i + j) (x % 10000)) = V at *
    generalize BB ^ (i + j) = P at *
    generalize la.getD i 0 * lb.getD j 0 = m at *
    have hdm := Nat.div_add_mod x 10000
    generalize x / 10000 = q at *
    generalize x % 10000 = r at *
    generalize L.getD (i + j) 0 = u at *
    generalize L.getD (i + j + 1) 0 = w at *
    simp only [BB] at *
    subst hx
    have e5 : P * (10000 * q) + P * r = P * u + P * m := by rw [← Nat.mul_add, hdm, Nat.mul_add]
    have e6 : P * 10000 * (w + q) = P * 10000 * w + P * (10000 * q) := by rw [Nat.mul_add, Nat.mul_assoc P 10000 q]
    omega
  · rw [getD_set2 _ _ _ _ (by simp; omega), getD_set2 _ _ _ _ (by omega)]
    have hk := h.b1 k
    have hmod : x % 10000 ≤ 9999 := by omega
    have hdiv : x / 10000 ≤ 10000 := by omega
    split
    · rename_i e
      subst e
      rw [if_neg (by omega)] at hk
      rw [if_pos ⟨by omega, by omega⟩]
      split at hk <;> split <;> omega
    · split
      · omega
      · rename_i e1 e2
        rw [if_neg (by omega)] at hk
        rw [if_neg (by omega)]
        split at hk
        · rename_i e3
          rw [if_pos ⟨e3.1, by omega⟩]; omega
        · omega
  · rw [getD_set2 _ _ _ _ (by simp; omega), getD_set2 _ _ _ _ (by omega)]
    have hb := h.b2 k hk
    split
    · rename_i e
      subst e
      rw [if_neg (by omega)] at hb
      rw [if_pos ⟨by omega, by omega⟩]
      omega
    · rw [if_neg (by omega)]
      rw [if_neg (by omega)] at hb
      rw [if_neg (by omega)]
      exact hb
theorem MI.row {la lb : List Nat} {i : Nat} {L : List Nat} (h : MI la lb i lb.length L) : MI la lb (i + 1) 0 L := by
  refine ⟨h.len, ?_, fun k => ?_, fun k hk => ?_⟩
  · rw [h.v, List.take_length, val_take_succ, Nat.add_mul]
    simp [val]
  · have h1 := h.b1 k
    have h2 := h.b2 k
    rw [if_neg (by omega)]
    rw [if_neg (c := k + 1 = i + lb.length ∧ i + lb.length ≤ k) (by omega)] at h1
    by_cases e : k = i + lb.length ∧ 0 < lb.length
    · have := h2 (by omega)
      rw [if_pos e] at this
      rw [if_pos ⟨by omega, by omega⟩]
      omega
    · rw [if_neg e] at h1
      split <;> omega
  · have h2 := h.b2 k (by omega)
    rw [if_neg (by omega)] at h2
    rw [if_neg (by omega)]
    exact h2
/-- The last look from below. -/
structure NI (n t v : Nat) (L : List Nat) : Prop where
  len : L.length = n
  v : val L = v
  lo : ∀ k, k < t → L.getD k 0 ≤ 9999
  hi : ∀ k, L.getD k 0 ≤ 10004 + (if k = t then 1 else 0)
theorem NI.step {n t v : Nat} {L : List Nat} (h : NI n t v L) (ht : t + 1 < n) : NI n (t + 1) v ((L.set (t + 1) (L.getD (t + 1) 0 + L.getD t 0 / 10000)).set t (L.getD t 0 % 10000)) := by
  have hl := h.len
  have c1 := h.hi t
  have c2 := h.hi (t + 1)
  rw [if_pos rfl] at c1
  rw [if_neg (by omega)] at c2
  have hdiv : L.getD t 0 / 10000 ≤ 1 := by omega
  refine ⟨by simp [hl], ?_, fun k hk => ?_, fun k => ?_⟩
  · have e1 := val_set L (t + 1) (L.getD (t + 1) 0 + L.getD t 0 / 10000) (by omega)
    have e2 := val_set (L.set (t + 1) (L.getD (t + 1) 0 + L.getD t 0 / 10000)) t (L.getD t 0 % 10000) (by simp; omega)
    rw [getD_set2 _ _ _ _ (by omega), if_neg (by omega)] at e2
    rw [Nat.pow_succ] at e1
    have hv := h.v
    have hdm := Nat.div_add_mod (L.getD t 0) 10000
    generalize val ((L.set (t + 1) (L.getD (t + 1) 0 + L.getD t 0 / 10000)).set t (L.getD t 0 % 10000)) = W at *
    generalize val (L.set (t + 1) (L.getD (t + 1) 0 + L.getD t 0 / 10000)) = V at *
    generalize BB ^ t = P at *
    generalize L.getD t 0 / 10000 = q at *
    generalize L.getD t 0 % 10000 = r at *
    generalize L.getD t 0 = u at *
    generalize L.getD (t + 1) 0 = w at *
    simp only [BB] at *
    have e5 : P * (10000 * q) + P * r = P * u := by rw [← Nat.mul_add, hdm]
    have e6 : P * 10000 * (w + q) = P * 10000 * w + P * (10000 * q) := by rw [Nat.mul_add, Nat.mul_assoc P 10000 q]
    omega
  · rw [getD_set2 _ _ _ _ (by simp; omega), getD_set2 _ _ _ _ (by omega)]
    split
    · omega
    · rw [if_neg (by omega)]
      exact h.lo k (by omega)
  · rw [getD_set2 _ _ _ _ (by simp; omega), getD_set2 _ _ _ _ (by omega)]
    have := h.hi k
    split
    · omega
    · rename_i e
      rw [if_neg e] at this
      split
      · rename_i e2
        subst e2
        omega
      · exact this
end Go.Eng.R
end
