/-
  Numbers as bytes, seven bits in each, the lowest first: in plain Lean.
-/
import Derived.Lib.VarintBits
set_option linter.unusedVariables false
set_option linter.unusedSimpArgs false
namespace Go.Proofs.Ytdkcccigmejikaa
open Go

/-- A number's bytes. -/
def enc (n : Nat) : List UInt8 := if h : n < 128 then [UInt8.ofNat n] else UInt8.ofNat (128 + n % 128) :: enc (n / 128)
termination_by n
decreasing_by omega
theorem enc_small {n : Nat} (h : n < 128) : enc n = [UInt8.ofNat n] := by rw [enc, dif_pos h]
theorem enc_more {n : Nat} (h : ¬ n < 128) : enc n = UInt8.ofNat (128 + n % 128) :: enc (n / 128) := by rw [enc, dif_neg h]
theorem enc_ne (n : Nat) : enc n ≠ [] := by rw [enc]; split <;> simp
/-- How long. -/
theorem enc_len (k : Nat) : ∀ n, n < 128 ^ k → 0 < k → (enc n).length ≤ k := by
  induction k with
  | zero => intro n _ h; omega
  | succ k ih =>
    intro n hn _
    by_cases h : n < 128
    · rw [enc_small h]; simp
    · rw [enc_more h, List.length_cons]
      cases k with
      | zero => simp at hn; omega
      | succ k =>
        have := ih (n / 128) (by rw [Nat.pow_succ] at hn; omega) (by omega)
        omega
theorem enc_len64 (n : Nat) (h : n < 18446744073709551616) : (enc n).length ≤ 10 :=
  enc_len 10 n (by have : (18446744073709551616 : Nat) ≤ 128 ^ 10 := by decide
                   omega) (by decide)
/-- A number read off bytes, from the k-th on. -/
def rdS (k acc : Nat) : List UInt8 → Option (Nat × List UInt8)
  | [] => none
  | c :: r => if (k = 9 ∧ 1 < c.toNat) ∨ (c.toNat = 0 ∧ 0 < k) then none else if c.toNat < 128 then some (acc + c.toNat * 128 ^ k, r) else rdS (k + 1) (acc + (c.toNat % 128) * 128 ^ k) r
theorem rdS_stop {k acc : Nat} {c : UInt8} {r : List UInt8} (h : (k = 9 ∧ 1 < c.toNat) ∨ (c.toNat = 0 ∧ 0 < k)) : rdS k acc (c :: r) = none := by rw [rdS, if_pos h]
theorem rdS_end {k acc : Nat} {c : UInt8} {r : List UInt8} (h : ¬ ((k = 9 ∧ 1 < c.toNat) ∨ (c.toNat = 0 ∧ 0 < k))) (h1 : c.toNat < 128) : rdS k acc (c :: r) = some (acc + c.toNat * 128 ^ k, r) := by rw [rdS, if_neg h, if_pos h1]
theorem rdS_on {k acc : Nat} {c : UInt8} {r : List UInt8} (h : ¬ ((k = 9 ∧ 1 < c.toNat) ∨ (c.toNat = 0 ∧ 0 < k))) (h1 : ¬ c.toNat < 128) : rdS k acc (c :: r) = rdS (k + 1) (acc + (c.toNat % 128) * 128 ^ k) r := by rw [rdS, if_neg h, if_neg h1]
theorem pow_le9 {k : Nat} (hk : k ≤ 9) : 128 ^ k ≤ 9223372036854775808 := by
  have : (128 : Nat) ^ k ≤ 128 ^ 9 := Nat.pow_le_pow_right (by decide) hk
  simpa using this
theorem acc_on {k acc c : Nat} (h : acc < 128 ^ k) : acc + (c % 128) * 128 ^ k < 128 ^ (k + 1) := by
  have h1 : (c % 128) * 128 ^ k ≤ 127 * 128 ^ k := Nat.mul_le_mul_right _ (by omega)
  rw [Nat.pow_succ]; omega
theorem acc_lt {k acc c : Nat} (h : acc < 128 ^ k) (hk : k ≤ 9) (h9 : k = 9 → c ≤ 1) (hc : c < 128) : acc + c * 128 ^ k < 18446744073709551616 := by
  by_cases h9' : k = 9
  · subst h9'
    have := h9 rfl
    have e : (128 : Nat) ^ 9 = 9223372036854775808 := by decide
    rw [e] at h ⊢
    have : c * 9223372036854775808 ≤ 1 * 9223372036854775808 := Nat.mul_le_mul_right _ this
    omega
  · have h1 := acc_on (c := c) h
    rw [Nat.mod_eq_of_lt hc] at h1
    have : (128 : Nat) ^ (k + 1) ≤ 9223372036854775808 := pow_le9 (by omega)
    omega
/-- What is read is what was put. -/
theorem rdS_enc : ∀ (L : List UInt8) (k acc n : Nat) (rest : List UInt8), acc < 128 ^ k → k ≤ 9 → rdS k acc L = some (n, rest) →
    ∃ m, n = acc + m * 128 ^ k ∧ L = enc m ++ rest ∧ n < 18446744073709551616 ∧ (0 < k → 0 < m)
  | [], k, acc, n, rest, _, _, h => by simp [rdS] at h
  | c :: r, k, acc, n, rest, ha, hk, h => by
    by_cases hs : (k = 9 ∧ 1 < c.toNat) ∨ (c.toNat = 0 ∧ 0 < k)
    · rw [rdS_stop hs] at h; cases h
    · by_cases h1 : c.toNat < 128
      · rw [rdS_end hs h1] at h
        simp only [Option.some.injEq, Prod.mk.injEq] at h
        obtain ⟨rfl, rfl⟩ := h
        refine ⟨c.toNat, rfl, ?_, acc_lt ha hk (by omega) h1, by omega⟩
        rw [enc_small h1, UInt8.ofNat_toNat]; rfl
      · rw [rdS_on hs h1] at h
        have hk9 : k ≠ 9 := by omega
        have hc := c.toNat_lt
        obtain ⟨m, hn, hr, hlt, hpos⟩ := rdS_enc r (k + 1) _ n rest (acc_on ha) (by omega) h
        have hm : 0 < m := hpos (by omega)
        refine ⟨c.toNat % 128 + 128 * m, ?_, ?_, hlt, by omega⟩
        · rw [hn, Nat.pow_succ, Nat.add_mul, Nat.mul_comm 128 m, Nat.mul_assoc m 128, Nat.mul_comm 128 (128 ^ k)]; omega
        · rw [enc_more (by omega), show (c.toNat % 128 + 128 * m) / 128 = m from by omega, hr, List.cons_append]
          congr 1
          rw [show 128 + (c.toNat % 128 + 128 * m) % 128 = c.toNat from by omega, UInt8.ofNat_toNat]
/-- What was put is read. -/
theorem rdS_of_enc : ∀ (m k acc : Nat) (rest : List UInt8), acc < 128 ^ k → k ≤ 9 → acc + m * 128 ^ k < 18446744073709551616 → (0 < k → 0 < m) → rdS k acc (enc m ++ rest) = some (acc + m * 128 ^ k, rest) := by
  intro m
  induction m using Nat.strongRecOn with
  | ind m ih =>
    intro k acc rest ha hk hlt hpos
    have h9 : k = 9 → m ≤ 1 := by
      rintro rfl
      have e : (128 : Nat) ^ 9 = 9223372036854775808 := by decide
      rw [e] at hlt
      apply Nat.le_of_not_lt; intro h2
      have : 2 * 9223372036854775808 ≤ m * 9223372036854775808 := Nat.mul_le_mul_right _ h2
      omega
    by_cases hm : m < 128
    · have ec : (UInt8.ofNat m).toNat = m := by simp; omega
      rw [enc_small hm, List.singleton_append, rdS_end (by rw [ec]; omega) (by rw [ec]; exact hm), ec]
    · have ec : (UInt8.ofNat (128 + m % 128)).toNat = 128 + m % 128 := by simp; omega
      rw [enc_more hm, List.cons_append, rdS_on (by rw [ec]; omega) (by rw [ec]; omega), ec, show (128 + m % 128) % 128 = m % 128 from by omega]
      have key : acc + m % 128 * 128 ^ k + m / 128 * 128 ^ (k + 1) = acc + m * 128 ^ k := by
        rw [Nat.pow_succ, Nat.mul_comm (128 ^ k) 128, ← Nat.mul_assoc, Nat.add_assoc, ← Nat.add_mul]
        congr 2; omega
      have := ih (m / 128) (by omega) (k + 1) (acc + m % 128 * 128 ^ k) rest (acc_on ha) (by omega) (by rw [key]; exact hlt) (by omega)
      rw [this, key]
/-- What a reader answers: the number, what is left, whether it has failed. -/
def rdN (L : List UInt8) (f : Bool) : Nat × List UInt8 × Bool := match rdS 0 0 L with | some (n, r) => (n, r, f) | none => (0, [], true)
theorem rdN_some {L : List UInt8} {f : Bool} {n : Nat} {r : List UInt8} (h : rdS 0 0 L = some (n, r)) : rdN L f = (n, r, f) := by simp [rdN, h]
theorem rdN_none {L : List UInt8} {f : Bool} (h : rdS 0 0 L = none) : rdN L f = (0, [], true) := by simp [rdN, h]
theorem rdS_enc0 {L : List UInt8} {n : Nat} {rest : List UInt8} (h : rdS 0 0 L = some (n, rest)) : L = enc n ++ rest ∧ n < 18446744073709551616 := by
  obtain ⟨m, h1, h2, h3, _⟩ := rdS_enc L 0 0 n rest (by decide) (by decide) h
  have : n = m := by omega
  subst this
  exact ⟨h2, h3⟩
theorem rdS_of_enc0 (n : Nat) (h : n < 18446744073709551616) (rest : List UInt8) : rdS 0 0 (enc n ++ rest) = some (n, rest) := by
  have := rdS_of_enc n 0 0 rest (by decide) (by decide) (by simpa using h) (by omega)
  simpa using this
theorem rdN_lt (L : List UInt8) (f : Bool) : (rdN L f).1 < 18446744073709551616 := by
  cases h : rdS 0 0 L with
  | none => rw [rdN_none h]; decide
  | some x => obtain ⟨n, r⟩ := x; rw [rdN_some h]; exact (rdS_enc0 h).2
theorem rdS_len : ∀ (L : List UInt8) (k acc n : Nat) (rest : List UInt8), rdS k acc L = some (n, rest) → rest.length < L.length
  | [], _, _, _, _, h => by simp [rdS] at h
  | c :: r, k, acc, n, rest, h => by
    rw [rdS] at h
    split at h
    · cases h
    · split at h
      · simp only [Option.some.injEq, Prod.mk.injEq] at h; rw [← h.2]; simp
      · have := rdS_len r _ _ n rest h; simp; omega
/-- The walk's own words for a digit's place. -/
theorem or_step {k acc : Nat} {c : UInt8} (ha : acc < 128 ^ k) (hk : k ≤ 9) (h9 : k = 9 → c.toNat ≤ 1) :
    bits .or .u64 (acc : Int) (IntKind.u64.wrap (IntKind.u64.wrap (bits .and .u8 (c.toNat : Int) 127) * 2 ^ (7 * k))) = ((acc + (c.toNat % 128) * 128 ^ k : Nat) : Int) := by
  have hc := c.toNat_lt
  have e1 : bits .and .u8 (c.toNat : Int) 127 = ((c.toNat % 128 : Nat) : Int) := by rw [u8_and127 _ (by omega) (by omega)]; omega
  have e2 : (2 : Int) ^ (7 * k) = ((128 ^ k : Nat) : Int) := by rw [Int.pow_mul]; simp
  have hb : (c.toNat % 128) * 128 ^ k < 18446744073709551616 := by
    have := acc_lt (k := k) (acc := 0) (c := c.toNat % 128) (Nat.pos_of_ne_zero (by simp)) hk (by intro h; have := h9 h; omega) (by omega)
    omega
  rw [e1, e2, IntKind.wrap_u64 ((c.toNat % 128 : Nat) : Int), show ((c.toNat % 128 : Nat) : Int) % 18446744073709551616 = ((c.toNat % 128 : Nat) : Int) from by omega, ← Int.natCast_mul, IntKind.wrap_u64, show (((c.toNat % 128) * 128 ^ k : Nat) : Int) % 18446744073709551616 = (((c.toNat % 128) * 128 ^ k : Nat) : Int) from by omega]
  have hp := pow_le9 hk
  have e3 : ((2 : Int) ^ (7 * k)) = ((128 ^ k : Nat) : Int) := e2
  rw [bits_join_low .u64 64 (by decide) wraps_u64 (7 * k) (acc : Int) _ (by omega) (by rw [e3]; omega) (by omega) (by omega) (by rw [e3, ← Int.natCast_emod, Nat.mul_mod_left]; rfl) (by omega)]
  omega
/-- The walk's own words for a byte that isn't the last. -/
theorem or_more (n : Nat) : bits .or .u8 (IntKind.u8.wrap (n : Int)) 128 = ((UInt8.ofNat (128 + n % 128)).toNat : Int) := by
  have h : ∀ b : Fin 256, bits .or .u8 ((b.val : Nat) : Int) 128 = ((128 + b.val % 128 : Nat) : Int) := by decide +kernel
  have e : IntKind.u8.wrap (n : Int) = (((⟨n % 256, by omega⟩ : Fin 256).val : Nat) : Int) := by rw [IntKind.wrap_u8]; simp
  rw [e, h]
  simp
  omega
end Go.Proofs.Ytdkcccigmejikaa
