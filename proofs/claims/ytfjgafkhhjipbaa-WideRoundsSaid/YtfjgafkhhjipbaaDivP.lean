/-
  Plain: the long division of two digits of 32 bits.
-/
import Derived.Lib.BitFns
set_option linter.unusedVariables false
set_option linter.unusedSimpArgs false
namespace Go.Proofs.Ytfjgafkhhjipbaa

/-- A first guess of a digit, as it is corrected. -/
structure QG (y1 y0 u u1 q r : Nat) : Prop where
  e : q * y1 + r = u
  ge : (u * 4294967296 + u1) / (y1 * 4294967296 + y0) ≤ q
  le : q ≤ 4294967297
theorem qg_mul (q y1 y0 : Nat) : q * (y1 * 4294967296 + y0) = q * y1 * 4294967296 + q * y0 := by rw [Nat.mul_add, Nat.mul_assoc]
section
variable {y1 y0 u u1 q r : Nat}
theorem QG.start (hy1 : 2147483648 ≤ y1) (hy0 : y0 < 4294967296) (hu1 : u1 < 4294967296) (hu : u < y1 * 4294967296 + y0) : QG y1 y0 u u1 (u / y1) (u - u / y1 * y1) := by
  have h1 := Nat.div_mul_le_self u y1
  refine ⟨by omega, ?_, ?_⟩
  · rw [Nat.le_div_iff_mul_le (by omega)]
    have h2 := Nat.div_mul_le_self (u * 4294967296 + u1) (y1 * 4294967296 + y0)
    generalize (u * 4294967296 + u1) / (y1 * 4294967296 + y0) = t at *
    rw [qg_mul] at h2
    generalize t * y1 = A at *
    omega
  · apply Nat.le_of_lt_succ
    rw [Nat.div_lt_iff_lt_mul (by omega)]
    omega
theorem QG.qt_lt (hy1 : 2147483648 ≤ y1) (hu1 : u1 < 4294967296) (hu : u < y1 * 4294967296 + y0) : (u * 4294967296 + u1) / (y1 * 4294967296 + y0) < 4294967296 := by
  rw [Nat.div_lt_iff_lt_mul (by omega)]
  omega
theorem QG.down (h : QG y1 y0 u u1 q r) (hy1 : 2147483648 ≤ y1) (hu1 : u1 < 4294967296) (hu : u < y1 * 4294967296 + y0) (ht : 4294967296 ≤ q ∨ 4294967296 * r + u1 < q * y0) : 1 ≤ q ∧ QG y1 y0 u u1 (q - 1) (r + y1) := by
  have hlt := QG.qt_lt hy1 hu1 hu
  have hge := h.ge
  have h2 := Nat.div_mul_le_self (u * 4294967296 + u1) (y1 * 4294967296 + y0)
  have hne : (u * 4294967296 + u1) / (y1 * 4294967296 + y0) ≠ q := by
    intro he
    have h3 : q * (y1 * 4294967296 + y0) ≤ u * 4294967296 + u1 := by rw [← he]; exact h2
    rw [qg_mul] at h3
    have e := h.e
    clear h2
    rw [he] at hlt
    generalize q * y1 = A at e h3
    generalize q * y0 = C at ht h3
    omega
  have hq2 := Nat.lt_of_le_of_ne hge hne
  have hq : 1 ≤ q := Nat.lt_of_le_of_lt (Nat.zero_le _) hq2
  refine ⟨hq, ?_, Nat.le_sub_one_of_lt hq2, by have := h.le; omega⟩
  obtain ⟨p, rfl⟩ : ∃ p, q = p + 1 := ⟨q - 1, by omega⟩
  have e := h.e
  rw [Nat.add_mul, Nat.one_mul] at e
  rw [Nat.add_sub_cancel]; omega
theorem QG.fit (h : QG y1 y0 u u1 q r) (hy1 : 2147483648 ≤ y1) (ht : q * y0 ≤ 4294967296 * r + u1) : q = (u * 4294967296 + u1) / (y1 * 4294967296 + y0) := by
  apply Nat.le_antisymm _ h.ge
  rw [Nat.le_div_iff_mul_le (by omega), qg_mul]
  have e := h.e
  generalize q * y1 = A at *
  omega
theorem QG.far (h : QG y1 y0 u u1 q r) (hy1 : 2147483648 ≤ y1) (hy0 : y0 < 4294967296) (hq : q ≤ 4294967296) (hr : 4294967296 ≤ r) : q = (u * 4294967296 + u1) / (y1 * 4294967296 + y0) := by
  refine h.fit hy1 ?_
  have : q * y0 ≤ 4294967296 * y0 := Nat.mul_le_mul_right _ hq
  omega
theorem QG.prod (h : QG y1 y0 u u1 q r) (hy0 : y0 < 4294967296) : q * y0 < 18446744073709551616 := by
  have : q * y0 ≤ 4294967297 * 4294967295 := Nat.mul_le_mul h.le (by omega)
  omega
end
/-- A digit and what is left. -/
theorem dig_rest (y u u1 : Nat) (hu : u < y) (hu1 : u1 < 4294967296) (hy : y < 18446744073709551616) :
    ((u * 4294967296 + u1) % y < y ∧ (u * 4294967296 + u1) = (u * 4294967296 + u1) / y * y + (u * 4294967296 + u1) % y) :=
  ⟨Nat.mod_lt _ (by omega), (Nat.div_add_mod' _ _).symm⟩
/-- Two digits are the quotient. -/
theorem key_divP (B h l c : Nat) (hc : 0 < c) : (h * B + l) / c = h / c * B + (h % c * B + l) / c ∧ (h * B + l) % c = (h % c * B + l) % c := by
  have e : h * B + l = (h % c * B + l) + c * (h / c * B) := by
    have := Nat.mod_add_div h c
    have e2 : h * B = h % c * B + c * (h / c * B) := by
      rw [← Nat.mul_assoc, ← Nat.add_mul, this]
    omega
  constructor
  · rw [e, Nat.add_mul_div_left _ _ hc]; omega
  · rw [e, Nat.add_mul_mod_self_left]
theorem two_join (u u1 u0 : Nat) : u * 18446744073709551616 + (u1 * 4294967296 + u0) = (u * 4294967296 + u1) * 4294967296 + u0 := by omega
theorem two_digits (y u u1 u0 : Nat) (hy : 0 < y) :
    (u * 18446744073709551616 + (u1 * 4294967296 + u0)) / y = (u * 4294967296 + u1) / y * 4294967296 + ((u * 4294967296 + u1) % y * 4294967296 + u0) / y ∧
    (u * 18446744073709551616 + (u1 * 4294967296 + u0)) % y = ((u * 4294967296 + u1) % y * 4294967296 + u0) % y := by
  rw [two_join]
  exact key_divP 4294967296 _ u0 y hy
theorem bitLen_bounds : ∀ (x : Nat), x ≠ 0 → x < 2 ^ 64 → x < 2 ^ Lib.bitLen x ∧ 2 ^ Lib.bitLen x ≤ 2 * x ∧ Lib.bitLen x ≤ 64 ∧ 1 ≤ Lib.bitLen x := by
  intro x
  induction x using Nat.strongRecOn with
  | ind x ih =>
    intro h0 h
    rw [Lib.bitLen_half x h0 h]
    by_cases h1 : x / 2 = 0
    · have : x = 1 := by omega
      subst this
      decide
    · obtain ⟨a, b, c, d⟩ := ih (x / 2) (by omega) h1 (by omega)
      rw [Nat.add_comm, Nat.pow_succ]
      refine ⟨by omega, by omega, ?_, by omega⟩
      apply Nat.le_of_lt_succ
      have : 2 ^ Lib.bitLen (x / 2) < 2 ^ 64 := by omega
      have := (Nat.pow_lt_pow_iff_right (by decide : 1 < 2)).1 this
      omega
end Go.Proofs.Ytfjgafkhhjipbaa
