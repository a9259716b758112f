/-
  Plain numbers: whole numbers as ten digits of 16 bits, the lowest first. No program, no memory.
-/
namespace Go.Proofs.Yteghjdmalbcdfaa.Dg

/-- What digits say. -/
def val : List Int → Int
  | [] => 0
  | d :: l => d + 65536 * val l

/-- The k lowest digits of a number. -/
def dg : Nat → Int → List Int
  | 0, _ => []
  | k + 1, n => n % 65536 :: dg k (n / 65536)

/-- Digit i of a list. -/
def at_ (L : List Int) (i : Nat) : Int := L.getD i 0

theorem at_nil (i : Nat) : at_ [] i = 0 := by simp [at_]
theorem at_zero (d : Int) (l : List Int) : at_ (d :: l) 0 = d := by simp [at_]
theorem at_succ (d : Int) (l : List Int) (i : Nat) : at_ (d :: l) (i + 1) = at_ l i := by simp [at_]
theorem at_set_same (L : List Int) (i : Nat) (v : Int) (h : i < L.length) : at_ (L.set i v) i = v := by simp [at_, h]
theorem at_set_other (L : List Int) (i j : Nat) (v : Int) (h : i ≠ j) : at_ (L.set i v) j = at_ L j := by simp [at_, h]
theorem at_set (L : List Int) (i j : Nat) (v : Int) (h : i < L.length) : at_ (L.set i v) j = if i = j then v else at_ L j := by
  by_cases e : i = j
  · subst e; rw [if_pos rfl, at_set_same L i v h]
  · rw [if_neg e, at_set_other L i j v e]
theorem at_ge (L : List Int) (i : Nat) (h : L.length ≤ i) : at_ L i = 0 := by
  unfold at_; rw [List.getD_eq_getElem?_getD, List.getElem?_eq_none h]; rfl

theorem dg_length : ∀ (k : Nat) (n : Int), (dg k n).length = k
  | 0, _ => rfl
  | k + 1, n => by simp [dg, dg_length k]

theorem val_dg : ∀ (k : Nat) (n : Int), 0 ≤ n → n < 65536 ^ k → val (dg k n) = n
  | 0, n, h0, h1 => by simp at h1; simp [dg, val]; omega
  | k + 1, n, h0, h1 => by
    have h2 : n / 65536 < 65536 ^ k := by
      rw [Int.pow_succ] at h1
      exact Int.ediv_lt_of_lt_mul (by omega) h1
    simp only [dg, val]
    rw [val_dg k (n / 65536) (by omega) h2]
    omega

/-- Every digit is one. -/
def Norm (L : List Int) : Prop := ∀ j, j < L.length → 0 ≤ at_ L j ∧ at_ L j < 65536

theorem Norm.tail {d : Int} {l : List Int} (h : Norm (d :: l)) : Norm l := fun j hj => by
  have := h (j + 1) (by simpa using hj)
  rwa [at_succ] at this
theorem Norm.head {d : Int} {l : List Int} (h : Norm (d :: l)) : 0 ≤ d ∧ d < 65536 := by
  have := h 0 (by simp)
  rwa [at_zero] at this
theorem dg_norm : ∀ (k : Nat) (n : Int), Norm (dg k n)
  | 0, _ => fun j hj => by simp [dg] at hj
  | k + 1, n => fun j hj => by
    cases j with
    | zero => simp only [dg, at_zero]; omega
    | succ j => simp only [dg, at_succ]; exact dg_norm k _ j (by simpa [dg] using hj)

theorem val_nonneg : ∀ (L : List Int), (∀ j, j < L.length → 0 ≤ at_ L j) → 0 ≤ val L
  | [], _ => by simp [val]
  | d :: l, h => by
    have h0 := h 0 (by simp)
    rw [at_zero] at h0
    have := val_nonneg l (fun j hj => by have := h (j + 1) (by simpa using hj); rwa [at_succ] at this)
    simp only [val]; omega

/-- One way alone: digits that are digits are those of their number. -/
theorem dg_val : ∀ (L : List Int), Norm L → dg L.length (val L) = L
  | [], _ => rfl
  | d :: l, h => by
    have hd := h.head
    have ih := dg_val l h.tail
    have e1 : (d + 65536 * val l) % 65536 = d := by omega
    have e2 : (d + 65536 * val l) / 65536 = val l := by omega
    simp only [List.length_cons, dg, val, e1, e2, ih]
theorem eq_dg {L : List Int} {k : Nat} {n : Int} (hl : L.length = k) (h : Norm L) (hv : val L = n) : L = dg k n := by
  subst hl; subst hv; exact (dg_val L h).symm
theorem val_lt : ∀ (L : List Int), Norm L → val L < 65536 ^ L.length
  | [], _ => by simp [val]
  | d :: l, h => by
    have hd := h.head
    have ih := val_lt l h.tail
    simp only [List.length_cons, Int.pow_succ, val]; omega
theorem Norm.val_nonneg {L : List Int} (h : Norm L) : 0 ≤ val L := Dg.val_nonneg L (fun j hj => (h j hj).1)

theorem val_set : ∀ (L : List Int) (j : Nat) (v : Int), j < L.length → val (L.set j v) = val L + (v - at_ L j) * 65536 ^ j
  | [], j, v, h => by simp at h
  | d :: l, 0, v, _ => by simp [val, at_zero]; omega
  | d :: l, j + 1, v, h => by
    simp only [List.set_cons_succ, val, at_succ]
    rw [val_set l j v (by simpa using h), Int.pow_succ]
    generalize (65536 : Int) ^ j = p
    grind

theorem val_take_succ : ∀ (L : List Int) (k : Nat), k < L.length → val (L.take (k + 1)) = val (L.take k) + at_ L k * 65536 ^ k
  | [], k, h => by simp at h
  | d :: l, 0, _ => by simp [val, at_zero]
  | d :: l, k + 1, h => by
    have ih := val_take_succ l k (by simpa using h)
    simp only [List.take_succ_cons, val, at_succ]
    rw [ih, Int.pow_succ]
    generalize (65536 : Int) ^ k = p
    grind

theorem val_drop : ∀ (L : List Int) (k : Nat), k < L.length → val (L.drop k) = at_ L k + 65536 * val (L.drop (k + 1))
  | [], k, h => by simp at h
  | d :: l, 0, _ => by simp [val, at_zero]
  | d :: l, k + 1, h => by simpa [at_succ] using val_drop l k (by simpa using h)

/-- What is greater at the highest place where they part is greater. -/
theorem val_less : ∀ (a b : List Int) (i : Nat), a.length = b.length → Norm a → Norm b → i < a.length → at_ a i < at_ b i → (∀ j, i < j → at_ a j = at_ b j) → val a < val b
  | [], _, i, _, _, _, h, _, _ => by simp at h
  | _ :: _, [], _, h, _, _, _, _, _ => by simp at h
  | x :: a, y :: b, 0, hl, ha, hb, _, hlt, heq => by
    have he : a = b := by
      apply List.ext_getElem?
      intro j
      have hl' : a.length = b.length := by simpa using hl
      by_cases hj : j < a.length
      · have := heq (j + 1) (by omega)
        rw [at_succ, at_succ] at this
        unfold at_ at this
        rw [List.getElem?_eq_getElem hj, List.getElem?_eq_getElem (by omega)]
        simpa [hj, hl' ▸ hj] using this
      · rw [List.getElem?_eq_none (by omega), List.getElem?_eq_none (by omega)]
    rw [at_zero, at_zero] at hlt
    subst he
    simp only [val]; omega
  | x :: a, y :: b, i + 1, hl, ha, hb, hi, hlt, heq => by
    have hx := ha.head
    have hy := hb.head
    have ih := val_less a b i (by simpa using hl) ha.tail hb.tail (by simpa using hi) (by rwa [at_succ, at_succ] at hlt) (fun j hj => by have := heq (j + 1) (by omega); rwa [at_succ, at_succ] at this)
    simp only [val]; omega
theorem val_same (a b : List Int) (hl : a.length = b.length) (h : ∀ j, j < a.length → at_ a j = at_ b j) : val a = val b := by
  have : a = b := by
    apply List.ext_getElem?
    intro j
    by_cases hj : j < a.length
    · have := h j hj
      unfold at_ at this
      rw [List.getElem?_eq_getElem hj, List.getElem?_eq_getElem (by omega)]
      simpa [hj, hl ▸ hj] using this
    · rw [List.getElem?_eq_none (by omega), List.getElem?_eq_none (by omega)]
  rw [this]
theorem list_same (a b : List Int) (hl : a.length = b.length) (h : ∀ j, j < a.length → at_ a j = at_ b j) : a = b := by
  apply List.ext_getElem?
  intro j
  by_cases hj : j < a.length
  · have := h j hj
    unfold at_ at this
    rw [List.getElem?_eq_getElem hj, List.getElem?_eq_getElem (by omega)]
    simpa [hj, hl ▸ hj] using this
  · rw [List.getElem?_eq_none (by omega), List.getElem?_eq_none (by omega)]

/-- The greatest place, and the whole. -/
theorem val_top : ∀ (L : List Int) (k : Nat), (∀ j, j < L.length → 0 ≤ at_ L j) → k < L.length → at_ L k * 65536 ^ k ≤ val L
  | [], _, _, h => by simp at h
  | d :: l, 0, hn, _ => by
    have hl := val_nonneg l (fun j hj => by have := hn (j + 1) (by simpa using hj); rwa [at_succ] at this)
    simp only [at_zero, val, Int.pow_zero]; omega
  | d :: l, k + 1, hn, h => by
    have h0 := hn 0 (by simp)
    rw [at_zero] at h0
    have ih := val_top l k (fun j hj => by have := hn (j + 1) (by simpa using hj); rwa [at_succ] at this) (by simpa using h)
    simp only [at_succ, val]
    rw [Int.pow_succ, Int.mul_comm (65536 ^ k) 65536, ← Int.mul_assoc, Int.mul_comm (at_ l k) 65536, Int.mul_assoc]
    omega

/-! ### carry -/
/-- Behind k steps of 'carry' of digits d. -/
structure Carry (d : List Int) (k : Nat) (M : List Int) : Prop where
  len : M.length = 10
  low : ∀ j, j < k → 0 ≤ at_ M j ∧ at_ M j < 65536
  here : 0 ≤ at_ M k ∧ at_ M k < 1099511627776 + 1099511627776
  high : ∀ j, k < j → at_ M j = at_ d j
  all : val M = val d
/-- Digits that 'carry' may be asked of. -/
structure Small (d : List Int) : Prop where
  len : d.length = 10
  small : ∀ j, 0 ≤ at_ d j ∧ at_ d j < 1099511627776
  fits : val d < 65536 ^ 10
theorem Carry.start {d : List Int} (h : Small d) : Carry d 0 d :=
  ⟨h.len, fun j hj => by omega, by have := h.small 0; omega, fun _ _ => rfl, rfl⟩
def cstep (k : Nat) (M : List Int) : List Int := (M.set (k + 1) (at_ M (k + 1) + at_ M k / 65536)).set k (at_ M k % 65536)
theorem Carry.step {d M : List Int} {k : Nat} (hd : Small d) (h : Carry d k M) (hk : k < 9) : Carry d (k + 1) (cstep k M) := by
  have hl := h.len
  have h0 := h.here
  have h1 := h.high (k + 1) (by omega)
  have h2 := hd.small (k + 1)
  refine ⟨by simp [cstep, hl], fun j hj => ?_, ?_, fun j hj => ?_, ?_⟩
  · unfold cstep
    rw [at_set _ _ _ _ (by simp; omega)]
    split
    · omega
    · rw [at_set_other _ _ _ _ (by omega)]; exact h.low j (by omega)
  · unfold cstep
    rw [at_set_other _ _ _ _ (by omega), at_set_same _ _ _ (by omega)]; omega
  · unfold cstep
    rw [at_set_other _ _ _ _ (by omega), at_set_other _ _ _ _ (by omega)]; exact h.high j (by omega)
  · unfold cstep
    rw [val_set _ _ _ (by simp; omega), val_set _ _ _ (by omega), at_set_other _ _ _ _ (by omega), h.all]
    have e : (at_ M (k + 1) + at_ M k / 65536 - at_ M (k + 1)) * 65536 ^ (k + 1) = (65536 * (at_ M k / 65536)) * 65536 ^ k := by
      rw [Int.pow_succ, show at_ M (k + 1) + at_ M k / 65536 - at_ M (k + 1) = at_ M k / 65536 from by omega, Int.mul_comm (65536 ^ k) 65536, ← Int.mul_assoc, Int.mul_comm (at_ M k / 65536) 65536]
    rw [e, Int.add_assoc, ← Int.add_mul, show 65536 * (at_ M k / 65536) + (at_ M k % 65536 - at_ M k) = 0 from by omega]
    omega
theorem Carry.done {d M : List Int} (hd : Small d) (h : Carry d 9 M) : M = dg 10 (val d) := by
  refine eq_dg h.len (fun j hj => ?_) h.all
  have hl := h.len
  by_cases e : j < 9
  · exact h.low j e
  · obtain rfl : j = 9 := by omega
    have h0 := h.here
    have ht := val_top M 9 (fun i hi => by
      by_cases e : i < 9
      · exact (h.low i e).1
      · obtain rfl : i = 9 := by omega
        exact h0.1) (by omega)
    rw [h.all] at ht
    have hf := hd.fits
    rw [Int.pow_succ] at hf
    refine ⟨h0.1, ?_⟩
    refine Int.not_le.1 (fun hc => ?_)
    have := Int.mul_le_mul_of_nonneg_right hc (show (0 : Int) ≤ 65536 ^ 9 by decide)
    rw [Int.mul_comm 65536] at this
    omega

/-! ### which is smaller -/
def TOP : Int := 65536 ^ 10
theorem TOP_eq : TOP = 65536 ^ 10 := rfl
def cmpI (m n : Int) : Int := if m < n then -1 else if n < m then 1 else 0
theorem cmpI_lt {m n : Int} (h : m < n) : cmpI m n = -1 := by unfold cmpI; rw [if_pos h]
theorem cmpI_gt {m n : Int} (h : n < m) : cmpI m n = 1 := by unfold cmpI; rw [if_neg (by omega), if_pos h]
theorem cmpI_eq {m n : Int} (h : m = n) : cmpI m n = 0 := by unfold cmpI; rw [if_neg (by omega), if_neg (by omega)]
theorem cmpI_range (m n : Int) : -1 ≤ cmpI m n ∧ cmpI m n ≤ 1 := by unfold cmpI; split <;> (try split) <;> omega

/-! ### one less another -/
/-- Behind k steps of a less b. -/
structure Minus (a b : List Int) (k : Nat) (borrow : Int) (M : List Int) : Prop where
  len : M.length = 10
  low : ∀ j, j < k → 0 ≤ at_ M j ∧ at_ M j < 65536
  high : ∀ j, k ≤ j → at_ M j = at_ a j
  bit : 0 ≤ borrow ∧ borrow ≤ 1
  all : val M = val a - val (b.take k) + borrow * 65536 ^ k
theorem Minus.start {a b : List Int} (ha : a.length = 10) : Minus a b 0 0 a :=
  ⟨ha, fun j hj => by omega, fun _ _ => rfl, by omega, by simp [val]⟩
theorem Minus.step {a b M : List Int} {k : Nat} {c : Int} (ha : Norm a) (hb : Norm b) (hla : a.length = 10) (hlb : b.length = 10) (h : Minus a b k c M) (hk : k < 10) :
    Minus a b (k + 1) (1 - (at_ M k + 65536 - at_ b k - c) / 65536) (M.set k ((at_ M k + 65536 - at_ b k - c) % 65536)) := by
  have hl := h.len
  have h1 := h.high k (by omega)
  have h2 := ha k (by omega)
  have h3 := hb k (by omega)
  have h4 := h.bit
  refine ⟨by simp [hl], fun j hj => ?_, fun j hj => ?_, by omega, ?_⟩
  · rw [at_set _ _ _ _ (by omega)]
    split
    · omega
    · exact h.low j (by omega)
  · rw [at_set_other _ _ _ _ (by omega)]; exact h.high j (by omega)
  · rw [val_set _ _ _ (by omega), h.all, val_take_succ _ _ (by omega), Int.pow_succ]
    generalize hx : at_ M k + 65536 - at_ b k - c = x
    have e : x % 65536 = x - 65536 * (x / 65536) := by omega
    have e2 : at_ M k = x - 65536 + at_ b k + c := by omega
    rw [e, e2]
    generalize (65536 : Int) ^ k = p
    generalize x / 65536 = q
    grind
theorem Minus.done {a b M : List Int} {c : Int} (ha : Norm a) (hla : a.length = 10) (hlb : b.length = 10) (h : Minus a b 10 c M) (hle : val b ≤ val a) (hb : 0 ≤ val b) : M = dg 10 (val a - val b) := by
  have hn : Norm M := fun j hj => h.low j (by have := h.len; omega)
  refine eq_dg h.len hn ?_
  have h1 := hn.val_nonneg
  have h2 := val_lt M hn
  have h3 := val_lt a ha
  have h4 := h.bit
  have h5 := h.all
  rw [List.take_of_length_le (by omega)] at h5
  rw [h.len] at h2
  rw [hla] at h3
  have : c = 0 := by
    refine Int.le_antisymm ?_ h4.1
    refine Int.not_lt.1 (fun hc => ?_)
    obtain rfl : c = 1 := by omega
    omega
  subst this
  omega

/-! ### the half -/
/-- Places from k on are halved; the rest goes down. -/
structure Half (d : List Int) (k : Nat) (r : Int) (M : List Int) : Prop where
  len : M.length = 10
  high : ∀ j, k ≤ j → j < 10 → 0 ≤ at_ M j ∧ at_ M j < 65536
  low : ∀ j, j < k → at_ M j = at_ d j
  bit : 0 ≤ r ∧ r ≤ 1
  all : 2 * val (M.drop k) + r = val (d.drop k)
theorem Half.start {d : List Int} (hd : d.length = 10) : Half d 10 0 d :=
  ⟨hd, fun j hj h => by omega, fun _ _ => rfl, by omega, by rw [List.drop_of_length_le (by omega)]; simp [val]⟩
theorem Half.step {d M : List Int} {k : Nat} {r : Int} (hd : Norm d) (hl : d.length = 10) (h : Half d (k + 1) r M) (hk : k < 10) :
    Half d k ((r * 65536 + at_ M k) % 2) (M.set k ((r * 65536 + at_ M k) / 2)) := by
  have hlm := h.len
  have h1 := h.low k (by omega)
  have h2 := hd k (by omega)
  have h4 := h.bit
  refine ⟨by simp [hlm], fun j hj hj2 => ?_, fun j hj => ?_, by omega, ?_⟩
  · rw [at_set _ _ _ _ (by omega)]
    split
    · omega
    · exact h.high j (by omega) hj2
  · rw [at_set_other _ _ _ _ (by omega)]; exact h.low j (by omega)
  · have h5 := h.all
    rw [val_drop _ _ (by simp; omega), val_drop d k (by omega), at_set_same _ _ _ (by omega), List.drop_set_of_lt (by omega), h1]
    omega
theorem Half.done {d M : List Int} {r : Int} (h : Half d 0 r M) : M = dg 10 (val d / 2) := by
  have h1 := h.all
  have h2 := h.bit
  simp only [List.drop_zero] at h1
  exact eq_dg h.len (fun j hj => h.high j (by omega) (by have := h.len; omega)) (by omega)

/-! ### twice, and sums place by place -/
/-- Behind k places at which b was added to a. -/
structure Added (a b : List Int) (k : Nat) (M : List Int) : Prop where
  len : M.length = 10
  low : ∀ j, j < k → at_ M j = at_ a j + at_ b j
  high : ∀ j, k ≤ j → at_ M j = at_ a j
  all : val M = val a + val (b.take k)
theorem Added.start {a b : List Int} (ha : a.length = 10) : Added a b 0 a :=
  ⟨ha, fun j hj => by omega, fun _ _ => rfl, by simp [val]⟩
theorem Added.step {a b M : List Int} {k : Nat} (hlb : b.length = 10) (h : Added a b k M) (hk : k < 10) : Added a b (k + 1) (M.set k (at_ M k + at_ b k)) := by
  have hl := h.len
  have h1 := h.high k (by omega)
  refine ⟨by simp [hl], fun j hj => ?_, fun j hj => ?_, ?_⟩
  · rw [at_set _ _ _ _ (by omega)]
    split
    · rename_i e; subst e; rw [h1]
    · exact h.low j (by omega)
  · rw [at_set_other _ _ _ _ (by omega)]; exact h.high j (by omega)
  · rw [val_set _ _ _ (by omega), h.all, val_take_succ _ _ (by omega), show at_ M k + at_ b k - at_ M k = at_ b k from by omega]
    omega
theorem Added.done {a b M : List Int} (hlb : b.length = 10) (h : Added a b 10 M) : val M = val a + val b := by
  have := h.all
  rwa [List.take_of_length_le (by omega)] at this
theorem Norm.small {L : List Int} (h : Norm L) (hl : L.length = 10) : Small L :=
  ⟨hl, fun j => by
    by_cases hj : j < L.length
    · have := h j hj; omega
    · rw [at_ge L j (by omega)]; omega, by have := val_lt L h; rwa [hl] at this⟩
theorem Added.small {a b M : List Int} (ha : Norm a) (hb : Norm b) (hla : a.length = 10) (hlb : b.length = 10) (h : Added a b 10 M) (hf : val a + val b < 65536 ^ 10) : Small M :=
  ⟨h.len, fun j => by
    by_cases hj : j < 10
    · have h1 := h.low j hj
      have h2 := ha j (by omega)
      have h3 := hb j (by omega)
      omega
    · rw [at_ge M j (by have := h.len; omega)]; omega, by rw [h.done hlb]; exact hf⟩
/-! ### a number's digits, one behind the other -/
def absI (z : Int) : Int := if z < 0 then -z else z
theorem absI_neg {z : Int} (h : z < 0) : absI z = -z := by unfold absI; rw [if_pos h]
theorem absI_pos {z : Int} (h : 0 ≤ z) : absI z = z := by unfold absI; rw [if_neg (by omega)]
theorem absI_nonneg (z : Int) : 0 ≤ absI z := by unfold absI; split <;> omega
/-- Behind k digits of n; y is left. -/
structure OfSt (n : Int) (k : Nat) (y : Int) (M : List Int) : Prop where
  len : M.length = 10
  norm : Norm M
  zero : ∀ j, k ≤ j → at_ M j = 0
  left : 0 ≤ y
  le : y ≤ n
  all : val M + y * 65536 ^ k = n
theorem OfSt.start {n : Int} (h : 0 ≤ n) : OfSt n 0 n [0, 0, 0, 0, 0, 0, 0, 0, 0, 0] :=
  ⟨rfl, fun j hj => by
    have : j = 0 ∨ j = 1 ∨ j = 2 ∨ j = 3 ∨ j = 4 ∨ j = 5 ∨ j = 6 ∨ j = 7 ∨ j = 8 ∨ j = 9 := by simp at hj; omega
    rcases this with rfl | rfl | rfl | rfl | rfl | rfl | rfl | rfl | rfl | rfl <;> decide, fun j _ => by
    by_cases hj : j < 10
    · have : j = 0 ∨ j = 1 ∨ j = 2 ∨ j = 3 ∨ j = 4 ∨ j = 5 ∨ j = 6 ∨ j = 7 ∨ j = 8 ∨ j = 9 := by omega
      rcases this with rfl | rfl | rfl | rfl | rfl | rfl | rfl | rfl | rfl | rfl <;> rfl
    · exact at_ge _ j (by simp; omega), h, Int.le_refl _, by simp [val]⟩
theorem OfSt.step {n y : Int} {k : Nat} {M : List Int} (h : OfSt n k y M) (hk : k < 10) : OfSt n (k + 1) (y / 65536) (M.set k (y % 65536)) := by
  have hl := h.len
  have h1 := h.zero k (by omega)
  have h2 := h.left
  have h4 := h.le
  refine ⟨by simp [hl], fun j hj => ?_, fun j hj => ?_, by omega, by omega, ?_⟩
  · rw [at_set _ _ _ _ (by omega)]
    split
    · omega
    · exact h.norm j (by simpa using hj)
  · rw [at_set_other _ _ _ _ (by omega)]; exact h.zero j (by omega)
  · have h3 := h.all
    rw [val_set _ _ _ (by omega), h1, Int.pow_succ]
    have e : y = 65536 * (y / 65536) + y % 65536 := by omega
    generalize y / 65536 = q at *
    generalize y % 65536 = r at *
    subst e
    generalize (65536 : Int) ^ k = p at *
    grind
theorem OfSt.done {n y : Int} {M : List Int} (h : OfSt n 4 y M) (hn : n < 65536 ^ 4) : M = dg 10 n := by
  have h1 := h.all
  have h2 := h.left
  have h3 := h.norm.val_nonneg
  have : y = 0 := by
    refine Int.le_antisymm (Int.not_lt.1 (fun hc => ?_)) h2
    have := Int.mul_le_mul_of_nonneg_right (show 1 ≤ y by omega) (show (0 : Int) ≤ 65536 ^ 4 by decide)
    omega
  subst this
  exact eq_dg h.len h.norm (by omega)
theorem tmod_neg (y : Int) : (-y).tmod 65536 = -(y.tmod 65536) := Int.neg_tmod ..
theorem tdiv_neg (y : Int) : (-y).tdiv 65536 = -(y.tdiv 65536) := Int.neg_tdiv ..
theorem tmod_pos (y : Int) (h : 0 ≤ y) : y.tmod 65536 = y % 65536 := Int.tmod_eq_emod_of_nonneg h
theorem tdiv_pos (y : Int) (h : 0 ≤ y) : y.tdiv 65536 = y / 65536 := Int.tdiv_eq_ediv_of_nonneg h
theorem dg_zero_iff (n : Int) (h0 : 0 ≤ n) (h : n < TOP) : dg 10 n = [0, 0, 0, 0, 0, 0, 0, 0, 0, 0] ↔ n = 0 := by
  constructor
  · intro he
    have := val_dg 10 n h0 h
    rw [he] at this
    simp [val] at this
    omega
  · rintro rfl; decide
theorem dg_at : ∀ (k j : Nat) (n : Int), j < k → at_ (dg k n) j = n / 65536 ^ j % 65536
  | 0, j, n, h => by omega
  | k + 1, 0, n, _ => by simp [dg, at_]
  | k + 1, j + 1, n, h => by
    simp only [dg, at_succ]
    rw [dg_at k j (n / 65536) (by omega), Int.pow_succ, Int.mul_comm (65536 ^ j) 65536, ← Int.ediv_ediv_of_nonneg (by decide)]
theorem dg_step (n : Int) (j : Nat) : n / 65536 ^ j = n / 65536 ^ (j + 1) * 65536 + n / 65536 ^ j % 65536 := by
  rw [Int.pow_succ, ← Int.ediv_ediv_of_nonneg (Int.pow_nonneg (by decide))]
  omega
theorem dg_le (n : Int) (j : Nat) (h : 0 ≤ n) : 0 ≤ n / 65536 ^ j ∧ n / 65536 ^ j ≤ n := by
  have hp : (0 : Int) < 65536 ^ j := Int.pow_pos (by decide)
  exact ⟨Int.ediv_nonneg h (Int.le_of_lt hp), Int.ediv_le_self _ h⟩
theorem norm10 (n : Int) : Norm (dg 10 n) := dg_norm 10 n
theorem len10 (n : Int) : (dg 10 n).length = 10 := dg_length 10 n
theorem val10 {n : Int} (h0 : 0 ≤ n) (h : n < TOP) : val (dg 10 n) = n := val_dg 10 n h0 h
end Go.Proofs.Yteghjdmalbcdfaa.Dg
