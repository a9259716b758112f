/-
  Floats, plain: what is rounded stays between what a float can have.
-/
import Derived.Test.YtaineoceiciloaaRtFg
set_option linter.unusedVariables false
set_option linter.unusedSimpArgs false
namespace Go.Proofs.Ytaineoceiciloaa
open Ieee

theorem cut_cases (neg : Bool) (n d : Nat) : Toward.even.cut neg n d = n / 2 ^ d ∨ (Toward.even.cut neg n d = n / 2 ^ d + 1 ∧ n % 2 ^ d ≠ 0) := by
  unfold Toward.cut
  by_cases h : d ≤ n.log2 + 2
  · rw [Nat.min_eq_left h, Nat.one_shiftLeft]
    simp only
    have hp := Nat.two_pow_pos d
    cases e : (decide (2 ^ d < 2 * (n % 2 ^ d)) || (2 ^ d == 2 * (n % 2 ^ d) && n / 2 ^ d % 2 == 1)) with
    | false => left; rfl
    | true =>
      right
      refine ⟨rfl, fun h0 => ?_⟩
      rw [h0] at e
      simp at e
  · rw [Nat.min_eq_right (by omega), Nat.one_shiftLeft]
    simp only
    have h1 : n < 2 ^ (n.log2 + 1) := Nat.lt_log2_self (n := n)
    have h2 : (2 : Nat) ^ (n.log2 + 2) = 2 * 2 ^ (n.log2 + 1) := by rw [Nat.pow_succ, Nat.mul_comm]
    have h3 : n < 2 ^ (n.log2 + 2) := by omega
    have h4 : n < 2 ^ d := Nat.lt_of_lt_of_le h3 (Nat.pow_le_pow_right (by decide) (by omega))
    rw [Nat.div_eq_of_lt h3, Nat.mod_eq_of_lt h3, Nat.div_eq_of_lt h4]
    left
    have e : (decide (2 ^ (n.log2 + 2) < 2 * n) || (2 ^ (n.log2 + 2) == 2 * n && 0 % 2 == 1)) = false := by
      simp
      omega
    rw [e]; rfl
/-- What is kept of v when its last t digits are dropped. -/
theorem kept_cases (neg : Bool) {mag a b t v : Nat} (hv : v * 2 ^ a = mag * 2 ^ b) {up dn : Nat} (hup : up = b - (a + t)) (hdn : dn = (a + t) - b) :
    Toward.even.cut neg (mag <<< up) dn = v / 2 ^ t ∨ (Toward.even.cut neg (mag <<< up) dn = v / 2 ^ t + 1 ∧ v % 2 ^ t ≠ 0) := by
  subst hup hdn
  by_cases h : a + t ≤ b
  · rw [show a + t - b = 0 by omega]
    have e : v = mag * 2 ^ (b - (a + t)) * 2 ^ t := by
      apply Nat.eq_of_mul_eq_mul_right (Nat.two_pow_pos a)
      rw [hv, Nat.mul_assoc, Nat.mul_assoc, ← Nat.pow_add, ← Nat.pow_add]
      congr 2
      omega
    rcases cut_cases neg (mag <<< (b - (a + t))) 0 with h1 | ⟨_, h2⟩
    · left
      rw [h1, Nat.pow_zero, Nat.div_one, Nat.shiftLeft_eq, e, Nat.mul_div_cancel _ (Nat.two_pow_pos t)]
    · exfalso
      rw [Nat.pow_zero, Nat.mod_one] at h2
      exact h2 rfl
  · rw [show b - (a + t) = 0 by omega, Nat.shiftLeft_zero]
    obtain ⟨d, hd⟩ : ∃ d, a + t = b + d := ⟨a + t - b, by omega⟩
    rw [show a + t - b = d by omega]
    have hb := Nat.two_pow_pos b
    have ha := Nat.two_pow_pos a
    have e1 : v / 2 ^ t = mag / 2 ^ d := by
      rw [← Nat.mul_div_mul_right v _ ha, hv, ← Nat.pow_add, show t + a = d + b by omega, Nat.pow_add, Nat.mul_div_mul_right _ _ hb]
    have e2 : v % 2 ^ t * 2 ^ a = mag % 2 ^ d * 2 ^ b := by
      rw [← Nat.mul_mod_mul_right, hv, ← Nat.pow_add, show t + a = d + b by omega, Nat.pow_add, Nat.mul_mod_mul_right]
    rw [e1]
    rcases cut_cases neg mag d with h1 | ⟨h1, h2⟩
    · exact .inl h1
    · refine .inr ⟨h1, fun h0 => h2 ?_⟩
      rw [h0, Nat.zero_mul] at e2
      rcases Nat.mul_eq_zero.1 e2.symm with h3 | h3
      · exact h3
      · omega
theorem log2_mono {a b : Nat} (h : a ≤ b) (ha : a ≠ 0) : a.log2 ≤ b.log2 := by
  rw [Nat.le_log2 (by omega)]
  exact Nat.le_trans (Nat.log2_self_le ha) h
/-- Rounded at its 53rd digit: between whatever a float can have. -/
theorem round_between {v t q : Nat} (hv0 : v ≠ 0) (ht : t + 52 = v.log2) (hq : q = v / 2 ^ t ∨ (q = v / 2 ^ t + 1 ∧ v % 2 ^ t ≠ 0)) :
    4503599627370496 ≤ q ∧ q ≤ 9007199254740992 ∧ (∀ L, Rep L → L ≤ v → L ≤ q * 2 ^ t) ∧ (∀ U, Rep U → v ≤ U → q * 2 ^ t ≤ U) := by
  have hp := Nat.two_pow_pos t
  have h1 := Nat.log2_self_le hv0
  have h2 := Nat.lt_log2_self (n := v)
  rw [← ht, Nat.add_comm t 52, Nat.pow_add] at h1
  rw [← ht, show t + 52 + 1 = 53 + t by omega, Nat.pow_add] at h2
  rw [show (2 : Nat) ^ 52 = 4503599627370496 from by decide] at h1
  rw [show (2 : Nat) ^ 53 = 9007199254740992 from by decide] at h2
  have hlo : 4503599627370496 ≤ v / 2 ^ t := (Nat.le_div_iff_mul_le hp).2 h1
  have hhi : v / 2 ^ t < 9007199254740992 := (Nat.div_lt_iff_lt_mul hp).2 h2
  have hdm := Nat.div_add_mod v (2 ^ t)
  have hql : v / 2 ^ t ≤ q := by rcases hq with h | ⟨h, _⟩ <;> omega
  have hqh : q ≤ 9007199254740992 := by rcases hq with h | ⟨h, _⟩ <;> omega
  refine ⟨by omega, hqh, fun L hL hle => ?_, fun U hU hle => ?_⟩
  · by_cases hL0 : L = 0
    · rw [hL0]; exact Nat.zero_le _
    · by_cases hlog : t + 52 ≤ L.log2
      · obtain ⟨l, rfl⟩ := rep_div hL hL0 hlog
        have : l ≤ v / 2 ^ t := (Nat.le_div_iff_mul_le hp).2 hle
        exact Nat.mul_le_mul_right _ (by omega)
      · have h3 := Nat.lt_log2_self (n := L)
        have h4 : (2 : Nat) ^ (L.log2 + 1) ≤ 2 ^ (52 + t) := Nat.pow_le_pow_right (by decide) (by omega)
        rw [Nat.pow_add 2 52, show (2 : Nat) ^ 52 = 4503599627370496 from by decide] at h4
        have h5 : 4503599627370496 * 2 ^ t ≤ q * 2 ^ t := Nat.mul_le_mul_right _ (by omega)
        omega
  · have hU0 : U ≠ 0 := by omega
    have hul := log2_mono hle hv0
    by_cases hlog : U.log2 = v.log2
    · obtain ⟨u, rfl⟩ := rep_div hU hU0 (t := t) (by omega)
      refine Nat.mul_le_mul_right _ ?_
      rcases hq with h | ⟨h, hne⟩
      · rw [h]
        have := Nat.div_le_div_right (c := 2 ^ t) hle
        rw [Nat.mul_div_cancel _ hp] at this
        exact this
      · rw [h]
        have h6 : v / 2 ^ t < u := by
          rw [Nat.div_lt_iff_lt_mul hp]
          rcases Nat.lt_or_eq_of_le hle with h7 | h7
          · exact h7
          · exfalso; apply hne; rw [h7, Nat.mul_mod_left]
        exact h6
    · have h3 := Nat.log2_self_le hU0
      have h4 : (2 : Nat) ^ (53 + t) ≤ 2 ^ U.log2 := Nat.pow_le_pow_right (by decide) (by omega)
      rw [Nat.pow_add 2 53, show (2 : Nat) ^ 53 = 9007199254740992 from by decide] at h4
      have h5 : q * 2 ^ t ≤ 9007199254740992 * 2 ^ t := Nat.mul_le_mul_right _ hqh
      omega
/-- What is written of any value: between whatever a float can have. -/
theorem write_near (neg : Bool) (mag a b v : Nat) (place : Int) (hpl : place = (b : Int) - a - 1074) (hv : v * 2 ^ a = mag * 2 ^ b) (h0 : mag ≠ 0) (hs : v.log2 < 2000) (hv1 : v ≠ 0) :
    ∃ r, double.nearest neg mag place = double.word neg r ∧ r < 9007199254740992000 ∧ (∀ L, Rep L → L ≤ v → L ≤ rv r) ∧ (∀ U, Rep U → v ≤ U → rv r ≤ U) := by
  by_cases hl : v.log2 ≤ 52
  · have hr : Rep v := by
      refine ⟨v, 0, by rw [Nat.pow_zero, Nat.mul_one], ?_⟩
      have := (Nat.log2_lt hv1).1 (show v.log2 < 53 by omega)
      simpa using this
    obtain ⟨r, h1, h2, h3⟩ := write_exact neg mag a b v place hpl hv h0 hr hs
    exact ⟨r, h1, h3, fun L _ h => by rw [h2]; exact h, fun U _ h => by rw [h2]; exact h⟩
  · have hlog : v.log2 + a = mag.log2 + b := by
      rw [← log2_mul hv1, ← log2_mul h0, hv]
    unfold Format.nearest
    rw [if_neg h0]
    have hlp : double.leastPlace = -1074 := by decide
    have hfb : (double.fractionBits : Int) = 52 := by decide
    have hbn : double.binade = 4503599627370496 := by decide
    have hinf : double.infRung = 9218868437227405312 := by decide
    simp only [hlp, hfb, hbn, hinf]
    have hlast : max (place + mag.log2 - 52) (-1074) = ((v.log2 - 52 : Nat) : Int) - 1074 := by omega
    rw [hlast]
    have h3 : (((v.log2 - 52 : Nat) : Int) - 1074 - -1074).toNat = v.log2 - 52 := by omega
    rw [h3]
    have hk := kept_cases neg hv (t := v.log2 - 52) (up := (place - (((v.log2 - 52 : Nat) : Int) - 1074)).toNat) (dn := ((((v.log2 - 52 : Nat) : Int) - 1074) - place).toNat) (by omega) (by omega)
    generalize Toward.even.cut neg _ _ = q at hk ⊢
    obtain ⟨q1, q2, q3, q4⟩ := round_between hv1 (by omega) hk
    refine ⟨(v.log2 - 52) * 4503599627370496 + q, ?_, by omega, ?_⟩
    · rw [Nat.min_eq_left (by omega)]
    · have hrv : rv ((v.log2 - 52) * 4503599627370496 + q) = q * 2 ^ (v.log2 - 52) := by
        unfold rv
        rw [if_neg (by omega)]
        by_cases hq : q = 9007199254740992
        · subst hq
          have e1 : ((v.log2 - 52) * 4503599627370496 + 9007199254740992) / 4503599627370496 = v.log2 - 52 + 2 := by omega
          have e2 : ((v.log2 - 52) * 4503599627370496 + 9007199254740992) % 4503599627370496 = 0 := by omega
          rw [e1, e2, Nat.add_zero, show v.log2 - 52 + 2 - 1 = v.log2 - 52 + 1 by omega, Nat.pow_succ]
          generalize (2 : Nat) ^ (v.log2 - 52) = S
          omega
        · have e1 : ((v.log2 - 52) * 4503599627370496 + q) / 4503599627370496 = v.log2 - 52 + 1 := by omega
          have e2 : ((v.log2 - 52) * 4503599627370496 + q) % 4503599627370496 = q - 4503599627370496 := by omega
          rw [e1, e2, Nat.add_sub_cancel, Nat.add_sub_of_le q1]
      rw [hrv]
      exact ⟨q3, q4⟩
end Go.Proofs.Ytaineoceiciloaa
