/-
  Floats of 64 bits that are not below nought, plain: values in units of 2 ^ -1074; what is exact.
-/
import Derived.Test.YtaineoceiciloaaBlk
set_option linter.unusedVariables false
set_option linter.unusedSimpArgs false
namespace Go.Proofs.Ytaineoceiciloaa
open Ieee

/-- The value of a rung, in units of 2 ^ -1074. -/
def rv (r : Nat) : Nat := if r < 4503599627370496 then r else (4503599627370496 + r % 4503599627370496) * 2 ^ (r / 4503599627370496 - 1)
/-- Values that a double can have (of those that are not too great). -/
def Rep (v : Nat) : Prop := ∃ m k, v = m * 2 ^ k ∧ m < 9007199254740992
theorem log2_lt' {n k : Nat} (h : n < 2 ^ k) (h0 : n ≠ 0) : n.log2 < k := (Nat.log2_lt h0).2 h
theorem log2_mul {m k : Nat} (h : m ≠ 0) : (m * 2 ^ k).log2 = m.log2 + k := by
  have h1 := Nat.log2_self_le h
  have h2 := Nat.lt_log2_self (n := m)
  have hne : m * 2 ^ k ≠ 0 := Nat.mul_ne_zero h (by have := Nat.two_pow_pos k; omega)
  have hp := Nat.two_pow_pos k
  apply Nat.le_antisymm
  · apply Nat.lt_succ_iff.1
    rw [Nat.log2_lt hne, Nat.succ_eq_add_one, show m.log2 + k + 1 = m.log2 + 1 + k by omega, Nat.pow_add]
    exact Nat.mul_lt_mul_of_pos_right h2 hp
  · rw [Nat.le_log2 hne, Nat.pow_add]
    exact Nat.mul_le_mul_right _ h1
/-- What is rounded to the nearest even at digits that are all nought stays. -/
theorem cut_exact (neg : Bool) (q d : Nat) (h : d ≤ (q * 2 ^ d).log2 + 2) : Toward.even.cut neg (q * 2 ^ d) d = q := by
  unfold Toward.cut
  rw [Nat.min_eq_left h, Nat.one_shiftLeft]
  have hp := Nat.two_pow_pos d
  have h1 : q * 2 ^ d / 2 ^ d = q := Nat.mul_div_cancel _ hp
  have h2 : q * 2 ^ d % 2 ^ d = 0 := Nat.mul_mod_left _ _
  simp only [h1, h2]
  simp
theorem rep_div {v : Nat} (hr : Rep v) (h0 : v ≠ 0) {t : Nat} (ht : t + 52 ≤ v.log2) : ∃ q, v = q * 2 ^ t := by
  obtain ⟨m, k, rfl, hm⟩ := hr
  have hm0 : m ≠ 0 := by rintro rfl; simp at h0
  rw [log2_mul hm0] at ht
  have := log2_lt' (k := 53) (by simpa using hm) hm0
  exact ⟨m * 2 ^ (k - t), by rw [Nat.mul_assoc, ← Nat.pow_add, Nat.sub_add_cancel (by omega)]⟩
/-- What is kept when digits that are all nought are dropped. -/
theorem kept_exact (neg : Bool) {mag a b t v q : Nat} (hv : v * 2 ^ a = mag * 2 ^ b) (hq : v = q * 2 ^ t) (h0 : mag ≠ 0) (hq0 : q ≠ 0) {up dn : Nat} (hup : up = b - (a + t)) (hdn : dn = (a + t) - b) : Toward.even.cut neg (mag <<< up) dn = q := by
  subst hup hdn
  have hv2 : q * 2 ^ (a + t) = mag * 2 ^ b := by
    rw [← hv, hq, Nat.mul_assoc, ← Nat.pow_add, Nat.add_comm t a]
  by_cases h : a + t ≤ b
  · rw [show a + t - b = 0 by omega]
    have e : mag * 2 ^ (b - (a + t)) = q := by
      have hpos := Nat.two_pow_pos (a + t)
      apply Nat.eq_of_mul_eq_mul_right hpos
      rw [Nat.mul_assoc, ← Nat.pow_add, Nat.sub_add_cancel h, hv2]
    have hc := cut_exact neg (mag <<< (b - (a + t))) 0 (by omega)
    rw [Nat.pow_zero, Nat.mul_one] at hc
    rw [hc, Nat.shiftLeft_eq, e]
  · rw [show b - (a + t) = 0 by omega, Nat.shiftLeft_zero]
    have e : mag = q * 2 ^ (a + t - b) := by
      have hpos := Nat.two_pow_pos b
      apply Nat.eq_of_mul_eq_mul_right hpos
      rw [Nat.mul_assoc, ← Nat.pow_add, Nat.sub_add_cancel (by omega), hv2]
    have hl : mag.log2 = q.log2 + (a + t - b) := by rw [e]; exact log2_mul hq0
    have hc := cut_exact neg q (a + t - b) (by rw [← e, hl]; omega)
    rw [← e] at hc
    exact hc
/-- A value that a double can have is written as it is. -/
theorem write_exact (neg : Bool) (mag a b v : Nat) (place : Int) (hpl : place = (b : Int) - a - 1074) (hv : v * 2 ^ a = mag * 2 ^ b) (h0 : mag ≠ 0) (hr : Rep v) (hs : v.log2 < 2000) :
    ∃ r, double.nearest neg mag place = double.word neg r ∧ rv r = v ∧ r < 9007199254740992000 := by
  have hv0 : v ≠ 0 := by
    rintro rfl
    rw [Nat.zero_mul] at hv
    exact Nat.mul_ne_zero h0 (by have := Nat.two_pow_pos b; omega) hv.symm
  have hlog : v.log2 + a = mag.log2 + b := by
    rw [← log2_mul hv0, ← log2_mul h0, hv]
  unfold Format.nearest
  rw [if_neg h0]
  have hlp : double.leastPlace = -1074 := by decide
  have hfb : (double.fractionBits : Int) = 52 := by decide
  have hbn : double.binade = 4503599627370496 := by decide
  have hinf : double.infRung = 9218868437227405312 := by decide
  simp only [hlp, hfb, hbn, hinf]
  by_cases hl : v.log2 ≤ 52
  · have hlast : max (place + mag.log2 - 52) (-1074) = -1074 := by omega
    rw [hlast]
    rw [kept_exact neg hv (show v = v * 2 ^ 0 by rw [Nat.pow_zero, Nat.mul_one]) h0 hv0 (by omega) (by omega)]
    have hv53 : v < 9007199254740992 := by
      have := (Nat.log2_lt hv0).1 (show v.log2 < 53 by omega)
      simpa using this
    refine ⟨v, ?_, ?_, by omega⟩
    · have e : min ((-1074 - -1074 : Int).toNat * 4503599627370496 + v) 9218868437227405312 = v := by
        rw [show (-1074 - -1074 : Int).toNat = 0 from rfl, Nat.zero_mul, Nat.zero_add]
        exact Nat.min_eq_left (by omega)
      rw [e]
    · unfold rv
      split
      · rfl
      · have e1 : v / 4503599627370496 = 1 := by omega
        rw [e1]; simp; omega
  · obtain ⟨q, hq⟩ := rep_div hr hv0 (t := v.log2 - 52) (by omega)
    have hq0 : q ≠ 0 := by rintro rfl; rw [Nat.zero_mul] at hq; exact hv0 hq
    have hlast : max (place + mag.log2 - 52) (-1074) = ((v.log2 - 52 : Nat) : Int) - 1074 := by omega
    rw [hlast]
    have h3 : (((v.log2 - 52 : Nat) : Int) - 1074 - -1074).toNat = v.log2 - 52 := by omega
    rw [h3, kept_exact neg hv hq h0 hq0 (by omega) (by omega)]
    have hqlog : q.log2 = 52 := by
      have := log2_mul (k := v.log2 - 52) hq0
      rw [← hq] at this; omega
    have hq1 : 4503599627370496 ≤ q := by
      have := Nat.log2_self_le hq0
      rw [hqlog] at this; simpa using this
    have hq2 : q < 9007199254740992 := by
      have := Nat.lt_log2_self (n := q)
      rw [hqlog] at this; simpa using this
    refine ⟨(v.log2 - 52) * 4503599627370496 + q, ?_, ?_, ?_⟩
    · rw [Nat.min_eq_left (by omega)]
    · unfold rv
      rw [if_neg (by omega)]
      have e1 : ((v.log2 - 52) * 4503599627370496 + q) / 4503599627370496 = v.log2 - 52 + 1 := by omega
      have e2 : ((v.log2 - 52) * 4503599627370496 + q) % 4503599627370496 = q - 4503599627370496 := by omega
      rw [e1, e2, Nat.add_sub_cancel, Nat.add_sub_of_le hq1]
      exact hq.symm
    · omega
/-- A word not below nought, read. -/
theorem read_rv {r : Nat} (h : r < 9218868437227405312) : ∃ (m k : Nat), double.read r = .number false m ((k : Int) - 1074) ∧ m * 2 ^ k = rv r ∧ m < 9007199254740992 := by
  have hbn : double.binade = 4503599627370496 := by decide
  have hinf : double.infRung = 9218868437227405312 := by decide
  have hsw : double.signWeight = 9223372036854775808 := by decide
  have hlp : double.leastPlace = -1074 := by decide
  unfold Format.read
  simp only [hbn, hinf, hsw, hlp]
  have e1 : r / 9223372036854775808 = 0 := Nat.div_eq_of_lt (by omega)
  have e2 : r % 9223372036854775808 = r := Nat.mod_eq_of_lt (by omega)
  rw [e1, e2]
  by_cases h1 : r < 4503599627370496
  · rw [if_pos h1]
    refine ⟨r, 0, ?_, ?_, by omega⟩
    · simp
    · unfold rv; rw [if_pos h1, Nat.pow_zero, Nat.mul_one]
  · rw [if_neg h1, if_pos h]
    refine ⟨4503599627370496 + r % 4503599627370496, r / 4503599627370496 - 1, ?_, ?_, by omega⟩
    · have e3 : (0 % 2 == 1) = false := by decide
      rw [e3]
      congr 1
      try omega
    · unfold rv; rw [if_neg h1]
theorem rep_rv {r : Nat} (h : r < 9218868437227405312) : Rep (rv r) := by
  obtain ⟨m, k, _, h2, h3⟩ := read_rv h
  exact ⟨m, k, h2.symm, h3⟩
theorem word_pos (r : Nat) : double.word false r = r := rfl
/-! ### Operations -/
/-- The place of one. -/
def T74 : Nat := 1074
theorem t74 : T74 = 1074 := rfl
theorem signed_pos (m k : Nat) : signed false m k = ((m * 2 ^ k : Nat) : Int) := by
  unfold signed
  simp [Nat.shiftLeft_eq]
theorem signed_neg (m k : Nat) : signed true m k = -((m * 2 ^ k : Nat) : Int) := by
  unfold signed
  simp [Nat.shiftLeft_eq]
/-- How two stand to each other. -/
theorem ord_rv {x y : Nat} (hx : x < 9218868437227405312) (hy : y < 9218868437227405312) : double.order x y = some (compare (rv x) (rv y)) := by
  obtain ⟨m, k, e1, v1, _⟩ := read_rv hx
  obtain ⟨n, l, e2, v2, _⟩ := read_rv hy
  unfold Format.order
  rw [e1, e2]
  unfold Datum.order
  simp only [signed_pos]
  congr 1
  have hk : ((k : Int) - 1074 - min ((k : Int) - 1074) ((l : Int) - 1074)).toNat = k - min k l := by omega
  have hl : ((l : Int) - 1074 - min ((k : Int) - 1074) ((l : Int) - 1074)).toNat = l - min k l := by omega
  rw [hk, hl, ← v1, ← v2]
  have a1 : m * 2 ^ k = m * 2 ^ (k - min k l) * 2 ^ (min k l) := by rw [Nat.mul_assoc, ← Nat.pow_add, Nat.sub_add_cancel (by omega)]
  have a2 : n * 2 ^ l = n * 2 ^ (l - min k l) * 2 ^ (min k l) := by rw [Nat.mul_assoc, ← Nat.pow_add, Nat.sub_add_cancel (by omega)]
  have hp := Nat.two_pow_pos (min k l)
  obtain ⟨A, hA⟩ : ∃ A, m * 2 ^ (k - min k l) = A := ⟨_, rfl⟩
  obtain ⟨B, hB⟩ : ∃ B, n * 2 ^ (l - min k l) = B := ⟨_, rfl⟩
  obtain ⟨S, hS⟩ : ∃ S, 2 ^ (min k l) = S := ⟨_, rfl⟩
  rw [a1, a2, hA, hB, hS]
  rw [hS] at hp
  clear a1 a2 hA hB hS hk hl v1 v2 e1 e2
  have H : (A < B ↔ A * S < B * S) ∧ (A = B ↔ A * S = B * S) := by
    constructor
    · exact ⟨fun h => Nat.mul_lt_mul_of_pos_right h hp, fun h => Nat.lt_of_mul_lt_mul_right h⟩
    · exact ⟨fun h => by rw [h], fun h => Nat.eq_of_mul_eq_mul_right hp h⟩
  rw [Int.compare_eq_ite_lt, Nat.compare_eq_ite_lt]
  by_cases h1 : A < B
  · rw [if_pos (by omega), if_pos (H.1.1 h1)]
  · rw [if_neg (by omega), if_neg (fun h => h1 (H.1.2 h))]
    by_cases h2 : B < A
    · rw [if_pos (by omega), if_pos (Nat.mul_lt_mul_of_pos_right h2 hp)]
    · rw [if_neg (by omega), if_neg (fun h => h2 (Nat.lt_of_mul_lt_mul_right h))]
/-- A difference that a double can have. -/
theorem sub_rv {x y : Nat} (hx : x < 9218868437227405312) (hy : y < 9218868437227405312) (hle : rv y ≤ rv x) (hr : Rep (rv x - rv y)) (hs : (rv x).log2 < 2000) : ∃ z, double.sub x y = some z ∧ z < 9007199254740992000 ∧ rv z = rv x - rv y := by
  obtain ⟨m, k, e1, v1, _⟩ := read_rv hx
  obtain ⟨n, l, e2, v2, _⟩ := read_rv hy
  unfold Format.sub
  rw [e1, e2]
  simp only [Datum.opposite, Datum.sum, Bool.not_false, signed_pos, signed_neg, Option.map_some]
  have hk : ((k : Int) - 1074 - min ((k : Int) - 1074) ((l : Int) - 1074)).toNat = k - min k l := by omega
  have hl : ((l : Int) - 1074 - min ((k : Int) - 1074) ((l : Int) - 1074)).toNat = l - min k l := by omega
  rw [hk, hl]
  have a1 : rv x = m * 2 ^ (k - min k l) * 2 ^ (min k l) := by rw [← v1, Nat.mul_assoc, ← Nat.pow_add, Nat.sub_add_cancel (by omega)]
  have a2 : rv y = n * 2 ^ (l - min k l) * 2 ^ (min k l) := by rw [← v2, Nat.mul_assoc, ← Nat.pow_add, Nat.sub_add_cancel (by omega)]
  have hp := Nat.two_pow_pos (min k l)
  obtain ⟨A, hA⟩ : ∃ A, m * 2 ^ (k - min k l) = A := ⟨_, rfl⟩
  obtain ⟨B, hB⟩ : ∃ B, n * 2 ^ (l - min k l) = B := ⟨_, rfl⟩
  rw [hA] at a1 ⊢
  rw [hB] at a2 ⊢
  have hBA : B ≤ A := by
    rw [a1, a2] at hle
    exact Nat.le_of_mul_le_mul_right hle hp
  have ht : ((A : Int) + -(B : Int)) = ((A - B : Nat) : Int) := by omega
  rw [ht]
  have hv : rv x - rv y = (A - B) * 2 ^ (min k l) := by rw [a1, a2, Nat.sub_mul]
  by_cases h0 : A - B = 0
  · rw [if_pos (by omega), h0]
    refine ⟨0, ?_, by omega, ?_⟩
    · show some (double.write (.number _ _ _)) = _
      unfold Format.write Format.nearest
      simp [Format.word]
    · rw [hv, h0, Nat.zero_mul]; rfl
  · rw [if_neg (by omega)]
    have hn : (decide (((A - B : Nat) : Int) < 0)) = false := decide_eq_false (by omega)
    rw [hn, Int.natAbs_natCast]
    obtain ⟨z, h1, h2, h3⟩ := write_exact false (A - B) 0 (min k l) (rv x - rv y) (min ((k : Int) - 1074) ((l : Int) - 1074)) (by omega) (by rw [Nat.pow_zero, Nat.mul_one]; exact hv) h0 hr (by
      have hne : rv x - rv y ≠ 0 := by rw [hv]; exact Nat.mul_ne_zero h0 (by omega)
      have hx0 : rv x ≠ 0 := by omega
      have : (rv x - rv y).log2 ≤ (rv x).log2 := by
        rw [Nat.le_log2 hx0]
        exact Nat.le_trans (Nat.log2_self_le hne) (Nat.sub_le _ _)
      omega)
    refine ⟨z, ?_, h3, h2⟩
    show some (double.nearest false (A - B) (min ((k : Int) - 1074) ((l : Int) - 1074))) = _
    rw [h1]; rfl
/-- Twice as much. -/
theorem dbl_rv {x : Nat} (hx : x < 9218868437227405312) (hs : (rv x).log2 < 1990) : ∃ z, double.mul x 4611686018427387904 = some z ∧ z < 9007199254740992000 ∧ rv z = 2 * rv x := by
  obtain ⟨m, k, e1, v1, hm⟩ := read_rv hx
  have e2 : double.read 4611686018427387904 = .number false 4503599627370496 (-51) := by decide +kernel
  unfold Format.mul
  rw [e1, e2]
  simp only [Datum.product, Option.map_some]
  by_cases h0 : m = 0
  · subst h0
    refine ⟨0, ?_, by omega, ?_⟩
    · show some (double.write (.number _ _ _)) = _
      unfold Format.write Format.nearest
      simp [Format.word]
    · rw [← v1]; simp; rfl
  · have hrep : Rep (2 * rv x) := ⟨m, k + 1, by rw [← v1, Nat.pow_succ]; rw [Nat.mul_comm 2, Nat.mul_assoc], hm⟩
    have hx0 : rv x ≠ 0 := by rw [← v1]; exact Nat.mul_ne_zero h0 (by have := Nat.two_pow_pos k; omega)
    have hl : (2 * rv x).log2 = (rv x).log2 + 1 := by
      have := log2_mul (m := rv x) (k := 1) hx0
      rw [Nat.pow_one, Nat.mul_comm] at this; exact this
    obtain ⟨z, h1, h2, h3⟩ := write_exact false (m * 4503599627370496) 51 k (2 * rv x) ((k : Int) - 1074 + -51) (by omega) (by
      rw [← v1, show (4503599627370496 : Nat) = 2 * 2 ^ 51 from by decide +kernel]
      simp only [Nat.mul_assoc, Nat.mul_comm, Nat.mul_left_comm]) (Nat.mul_ne_zero h0 (by decide)) hrep (by omega)
    refine ⟨z, ?_, h3, h2⟩
    show some (double.nearest false (m * 4503599627370496) ((k : Int) - 1074 + -51)) = _
    rw [h1]; rfl
/-- A whole number as a double. -/
theorem ofNat_rv (n : Nat) (h : n < 9007199254740992) : ∃ z, double.write (.number false n 0) = z ∧ z < 9007199254740992000 ∧ rv z = n * 2 ^ T74 := by
  by_cases h0 : n = 0
  · subst h0
    refine ⟨0, ?_, by omega, by rw [Nat.zero_mul]; rfl⟩
    unfold Format.write Format.nearest
    simp [Format.word]
  · obtain ⟨z, h1, h2, h3⟩ := write_exact false n 0 T74 (n * 2 ^ T74) 0 (by rw [t74]; omega) (by rw [Nat.pow_zero, Nat.mul_one]) h0 ⟨n, T74, rfl, h⟩ (by
      rw [log2_mul h0]
      have := log2_lt' (k := 53) (by simpa using h) h0
      rw [t74]; omega)
    refine ⟨z, ?_, h3, h2⟩
    show double.nearest false n 0 = z
    rw [h1]; rfl
/-- What is whole of it. -/
theorem whole_rv {x : Nat} (hx : x < 9218868437227405312) : (double.read x).toInt .zero = some ((rv x / 2 ^ T74 : Nat) : Int) := by
  obtain ⟨m, k, e1, v1, _⟩ := read_rv hx
  rw [e1]
  unfold Datum.toInt Datum.integral
  simp only [signed_pos, Nat.pow_zero, Nat.mul_one]
  congr 2
  unfold Toward.cut
  simp only [Bool.toNat_false, Nat.add_zero, Nat.one_shiftLeft, Nat.shiftLeft_eq, Nat.one_mul]
  rw [← v1]
  have hT := t74
  by_cases hk : T74 ≤ k
  · have e2 : ((k : Int) - 1074).toNat = k - T74 := by omega
    have e3 : (-((k : Int) - 1074)).toNat = 0 := by omega
    rw [e2, e3, Nat.zero_min, Nat.pow_zero, Nat.div_one]
    have hp := Nat.two_pow_pos T74
    have e4 : m * 2 ^ k = m * 2 ^ (k - T74) * 2 ^ T74 := by rw [Nat.mul_assoc, ← Nat.pow_add, Nat.sub_add_cancel hk]
    rw [e4, Nat.mul_div_cancel _ hp]
  · have e2 : ((k : Int) - 1074).toNat = 0 := by omega
    have e3 : (-((k : Int) - 1074)).toNat = T74 - k := by omega
    rw [e2, e3, Nat.pow_zero, Nat.mul_one]
    have hp := Nat.two_pow_pos k
    have e4 : m * 2 ^ k / 2 ^ T74 = m / 2 ^ (T74 - k) := by
      have e5 : (2 : Nat) ^ T74 = 2 ^ (T74 - k) * 2 ^ k := by rw [← Nat.pow_add, Nat.sub_add_cancel (by omega)]
      rw [e5, Nat.mul_div_mul_right _ _ hp]
    rw [e4]
    by_cases hd : T74 - k ≤ m.log2 + 2
    · rw [Nat.min_eq_left hd]
    · rw [Nat.min_eq_right (by omega)]
      have hlt : m < 2 ^ (m.log2 + 2) := Nat.lt_of_lt_of_le (Nat.lt_log2_self (n := m)) (Nat.pow_le_pow_right (by decide) (by omega))
      have hlt2 : m < 2 ^ (T74 - k) := Nat.lt_of_lt_of_le hlt (Nat.pow_le_pow_right (by decide) (by omega))
      rw [Nat.div_eq_of_lt hlt, Nat.div_eq_of_lt hlt2]
/-- What is behind the point, and twice that, less one: a double can have it. -/
theorem rep_mod {v : Nat} (h : Rep v) (t : Nat) : Rep (v % 2 ^ t) := by
  obtain ⟨m, k, rfl, hm⟩ := h
  by_cases hk : t ≤ k
  · refine ⟨0, 0, ?_, by omega⟩
    have e : m * 2 ^ k = m * 2 ^ (k - t) * 2 ^ t := by rw [Nat.mul_assoc, ← Nat.pow_add, Nat.sub_add_cancel hk]
    rw [e, Nat.mul_mod_left, Nat.zero_mul]
  · refine ⟨m % 2 ^ (t - k), k, ?_, Nat.lt_of_le_of_lt (Nat.mod_le _ _) hm⟩
    have e : (2 : Nat) ^ t = 2 ^ (t - k) * 2 ^ k := by rw [← Nat.pow_add, Nat.sub_add_cancel (by omega)]
    rw [e, Nat.mul_mod_mul_right]
theorem rep_dbl {v : Nat} (h : Rep v) : Rep (2 * v) := by
  obtain ⟨m, k, rfl, hm⟩ := h
  exact ⟨m, k + 1, by rw [Nat.pow_succ, Nat.mul_comm 2, Nat.mul_assoc], hm⟩
end Go.Proofs.Ytaineoceiciloaa
