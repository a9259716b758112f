/-
  A hundred times a float, less its points: never more than a half. math.Abs.
-/
import Derived.Test.YtaineoceiciloaaRtRa
import Derived.Test.YtaineoceiciloaaRtFi
import Derived.Laws.BitsAllLaws
set_option linter.unusedVariables false
set_option linter.unusedSimpArgs false
namespace Go.Proofs.Ytaineoceiciloaa
open Go.RowKit Ieee

theorem rhe_near (n d : Nat) (hd : 1 ≤ d) : rhe n d * 2 ^ d ≤ n + 2 ^ (d - 1) ∧ n ≤ rhe n d * 2 ^ d + 2 ^ (d - 1) := by
  have h2 : (2 : Nat) ^ d = 2 * 2 ^ (d - 1) := by
    rw [Nat.mul_comm, ← Nat.pow_succ, Nat.succ_eq_add_one, Nat.sub_add_cancel hd]
  have hp := Nat.two_pow_pos (d - 1)
  have hdm := Nat.div_add_mod n (2 ^ d)
  have hml := Nat.mod_lt n (Nat.two_pow_pos d)
  unfold rhe
  generalize n / 2 ^ d = q at *
  generalize n % 2 ^ d = r at *
  generalize (2 : Nat) ^ (d - 1) = H at *
  generalize (2 : Nat) ^ d = D at *
  have hq : q * D = D * q := Nat.mul_comm _ _
  split
  · rw [Nat.add_mul, Nat.one_mul]
    omega
  · omega
theorem rhe_mono {n m : Nat} (h : n ≤ m) (d : Nat) : rhe n d ≤ rhe m d := by
  have h1 := Nat.div_le_div_right (c := 2 ^ d) h
  have hn := Nat.div_add_mod n (2 ^ d)
  have hm := Nat.div_add_mod m (2 ^ d)
  unfold rhe
  generalize n / 2 ^ d = q at *
  generalize m / 2 ^ d = p at *
  generalize n % 2 ^ d = r at *
  generalize m % 2 ^ d = s at *
  generalize (2 : Nat) ^ (d - 1) = H at *
  generalize (2 : Nat) ^ d = D at *
  by_cases hqp : q = p
  · subst hqp
    have hrs : r ≤ s := by omega
    split <;> split <;> omega
  · split <;> split <;> omega
theorem rhe_whole (q d : Nat) (hd : 1 ≤ d) : rhe (q * 2 ^ d) d = q := by
  unfold rhe
  have h1 : q * 2 ^ d % 2 ^ d = 0 := Nat.mul_mod_left _ _
  have h2 : q * 2 ^ d / 2 ^ d = q := Nat.mul_div_cancel _ (Nat.two_pow_pos d)
  have hp := Nat.two_pow_pos (d - 1)
  rw [h1, h2, if_neg (by omega)]
/-- A hundred times as much, rounded. -/
theorem hun_rv {x : Nat} (hx : x < 9218868437227405312) (h0 : rv x ≠ 0) (hs : (100 * rv x).log2 < 2000) :
    ∃ r, double.mul 4636737291354636288 x = some r ∧ r < 9007199254740992000 ∧ (∀ L, Rep L → L ≤ 100 * rv x → L ≤ rv r) ∧ (∀ U, Rep U → 100 * rv x ≤ U → rv r ≤ U) := by
  obtain ⟨m, k, e1, v1, hm⟩ := read_rv hx
  have e2 : double.read 4636737291354636288 = .number false 7036874417766400 (-46) := by decide +kernel
  have hm0 : m ≠ 0 := by rintro rfl; rw [Nat.zero_mul] at v1; exact h0 v1.symm
  obtain ⟨r, h1, h2, h3, h4⟩ := write_near false (7036874417766400 * m) 46 k (100 * rv x) (-46 + ((k : Int) - 1074)) (by omega) (by
    rw [← v1, show (7036874417766400 : Nat) = 100 * 2 ^ 46 from by decide +kernel]
    simp only [Nat.mul_assoc, Nat.mul_comm, Nat.mul_left_comm]) (Nat.mul_ne_zero (by decide) hm0) hs (by omega)
  refine ⟨r, ?_, h2, h3, h4⟩
  unfold Format.mul
  rw [e1, e2]
  simp only [Datum.product, Option.map_some]
  show some (double.nearest false (7036874417766400 * m) (-46 + ((k : Int) - 1074))) = _
  rw [h1]; rfl
/-- A difference below nought that a double can have. -/
theorem sub_neg {x y : Nat} (hx : x < 9218868437227405312) (hy : y < 9218868437227405312) (hlt : rv x < rv y) (hr : Rep (rv y - rv x)) (hs : (rv y).log2 < 2000) : ∃ z, double.sub x y = some (9223372036854775808 + z) ∧ z < 9007199254740992000 ∧ rv z = rv y - rv x := by
  obtain ⟨m, k, e1, v1, _⟩ := read_rv hx
  obtain ⟨n, l, e2, v2, _⟩ := read_rv hy
  unfold Format.sub
  rw [e1, e2]
  simp only [Datum.opposite, Datum.sum, Bool.not_false, signed_pos, signed_neg, Option.map_some]
  have hk : ((k : Int) - 1074 - min ((k : Int) - 1074) ((l : Int) - 1074)).toNat = k - min k l := by omega
  have hl : ((l : Int) - 1074 - min ((k : Int) - 1074) ((l : Int) - 1074)).toNat = l - min k l := by omega
  rw [hk, hl]
  have a1 : rv x = m * 2 ^ (k - min k l) * 2 ^ (min k l) := by rw [← v1, Nat.mul_assoc, ← Nat.pow_add, Nat.sub_add_cancel (by omega)]
  have a2 : rv y = n * 2 ^ (l - min k l) * 2 ^ (min k l) := by rw [← v2, Nat.mul_assoc, ← Nat.pow_add, Nat.sub_add_cancel (by omega)]
  have hp := Nat.two_pow_pos (min k l)
  obtain ⟨A, hA⟩ : ∃ A, m * 2 ^ (k - min k l) = A := ⟨_, rfl⟩
  obtain ⟨B, hB⟩ : ∃ B, n * 2 ^ (l - min k l) = B := ⟨_, rfl⟩
  rw [hA] at a1 ⊢
  rw [hB] at a2 ⊢
  have hBA : A < B := by
    rw [a1, a2] at hlt
    exact Nat.lt_of_mul_lt_mul_right hlt
  have hv : rv y - rv x = (B - A) * 2 ^ (min k l) := by rw [a1, a2, Nat.sub_mul]
  rw [if_neg (by omega)]
  have hn : (decide (((A : Int) + -(B : Int)) < 0)) = true := decide_eq_true (by omega)
  rw [hn, show ((A : Int) + -(B : Int)).natAbs = B - A by omega]
  obtain ⟨z, h1, h2, h3⟩ := write_exact true (B - A) 0 (min k l) (rv y - rv x) (min ((k : Int) - 1074) ((l : Int) - 1074)) (by omega) (by rw [Nat.pow_zero, Nat.mul_one]; exact hv) (by omega) hr (by
    have hne : rv y - rv x ≠ 0 := by omega
    have := log2_mono (Nat.sub_le (rv y) (rv x)) hne
    omega)
  refine ⟨z, ?_, h3, h2⟩
  show some (double.nearest true (B - A) (min ((k : Int) - 1074) ((l : Int) - 1074))) = _
  rw [h1]; rfl
/-- How far they are from each other. -/
theorem sub_abs {x y : Nat} (hx : x < 9218868437227405312) (hy : y < 9218868437227405312) (d : Nat) (hd : d = if rv y ≤ rv x then rv x - rv y else rv y - rv x) (hr : Rep d) (hsx : (rv x).log2 < 2000) (hsy : (rv y).log2 < 2000) :
    ∃ z u, double.sub x y = some z ∧ z < 18446744073709551616 ∧ z % 9223372036854775808 = u ∧ u < 9218868437227405312 ∧ rv u = d := by
  by_cases h : rv y ≤ rv x
  · rw [if_pos h] at hd
    obtain ⟨z, h1, h2, h3⟩ := sub_rv hx hy h (by rw [← hd]; exact hr) hsx
    exact ⟨z, z, h1, by omega, Nat.mod_eq_of_lt (by omega), by omega, by rw [hd]; exact h3⟩
  · rw [if_neg h] at hd
    obtain ⟨z, h1, h2, h3⟩ := sub_neg hx hy (by omega) (by rw [← hd]; exact hr) hsy
    exact ⟨_, z, h1, by omega, by omega, by omega, by rw [hd]; exact h3⟩
/-- What is less than a float that it was made of, has its digits. -/
theorem rep_dist {R X d : Nat} (hR : Rep R) (hd : d = if X * 2 ^ T74 ≤ R then R - X * 2 ^ T74 else X * 2 ^ T74 - R) (hle : d ≤ R) (hlt : d < 2 ^ T74) : Rep d := by
  obtain ⟨m, k, rfl, hm⟩ := hR
  by_cases hk : k ≤ T74
  · have e : (2 : Nat) ^ T74 = 2 ^ (T74 - k) * 2 ^ k := by rw [← Nat.pow_add, Nat.sub_add_cancel hk]
    have hp := Nat.two_pow_pos k
    have hd2 : ∃ n, d = n * 2 ^ k := by
      rw [e, ← Nat.mul_assoc] at hd
      split at hd
      · exact ⟨m - X * 2 ^ (T74 - k), by rw [hd, Nat.sub_mul]⟩
      · exact ⟨X * 2 ^ (T74 - k) - m, by rw [hd, Nat.sub_mul]⟩
    obtain ⟨n, hn⟩ := hd2
    rw [hn] at hle
    exact ⟨n, k, hn, Nat.lt_of_le_of_lt (Nat.le_of_mul_le_mul_right hle hp) hm⟩
  · have e : (2 : Nat) ^ k = 2 ^ (k - T74) * 2 ^ T74 := by rw [← Nat.pow_add, Nat.sub_add_cancel (by omega)]
    have hp := Nat.two_pow_pos T74
    have hd2 : ∃ n, d = n * 2 ^ T74 := by
      rw [e, ← Nat.mul_assoc] at hd
      split at hd
      · exact ⟨m * 2 ^ (k - T74) - X, by rw [hd, Nat.sub_mul]⟩
      · exact ⟨X - m * 2 ^ (k - T74), by rw [hd, Nat.sub_mul]⟩
    obtain ⟨n, hn⟩ := hd2
    rw [hn] at hlt
    have hn0 : n = 0 := by
      rcases Nat.eq_zero_or_pos n with h | h
      · exact h
      · exfalso
        have := Nat.le_mul_of_pos_left (2 ^ T74) h
        omega
    exact ⟨0, 0, by rw [hn, hn0]; simp, by decide⟩
theorem half_rv : 2 ^ (T74 - 1) < rv 4602678820073366837 := by unfold rv; decide +kernel
/-- What the law asks of a float and its points. -/
def Near (a X : Nat) : Prop := ∃ r c z u, FloatKind.f64.format.mul 4636737291354636288 a = some r ∧ floatOfInt FloatKind.f64 (X : Int) = c ∧ FloatKind.f64.format.sub r c = some z ∧ z < 18446744073709551616 ∧ z % 9223372036854775808 = u ∧ FloatKind.f64.format.order u 4602678820073366837 = some .lt
theorem near_of {x : Nat} (hx : x < 9218868437227405312) (h0 : rv x ≠ 0) (hv : rv x ≤ 100 * 2 ^ T74) : Near x (rhe (100 * rv x) T74) := by
  have h74 : 1 ≤ T74 := by rw [t74]; decide
  obtain ⟨n1, n2⟩ := rhe_near (100 * rv x) T74 h74
  have hX : rhe (100 * rv x) T74 ≤ 10000 := by
    have := rhe_mono (show 100 * rv x ≤ 10000 * 2 ^ T74 by omega) T74
    rw [rhe_whole _ _ h74] at this; exact this
  obtain ⟨X, hXX⟩ : ∃ X, rhe (100 * rv x) T74 = X := ⟨_, rfl⟩
  rw [hXX] at n1 n2 hX ⊢
  have hT : (2 : Nat) ^ T74 = 2 * 2 ^ (T74 - 1) := by
    rw [Nat.mul_comm 2, ← Nat.pow_succ, Nat.succ_eq_add_one, Nat.sub_add_cancel h74]
  have hH := Nat.two_pow_pos (T74 - 1)
  have hb14 : 10000 * 2 ^ T74 < 2 ^ (T74 + 14) := by
    rw [Nat.pow_add, Nat.mul_comm]
    exact Nat.mul_lt_mul_of_pos_left (by decide) (Nat.two_pow_pos T74)
  have hb15 : 20000 * 2 ^ T74 < 2 ^ (T74 + 15) := by
    rw [Nat.pow_add, Nat.mul_comm]
    exact Nat.mul_lt_mul_of_pos_left (by decide) (Nat.two_pow_pos T74)
  obtain ⟨r, r1, r2, r3, r4⟩ := hun_rv hx h0 (Nat.lt_trans (log_T (k := T74 + 14) (by omega) (by rw [t74]; decide)) (by decide))
  have hrl : r < 9218868437227405312 := Nat.lt_trans r2 (by decide)
  obtain ⟨c, c1, c2, c3⟩ := ofNat_rv X (by omega)
  have hcl : c < 9218868437227405312 := Nat.lt_trans c2 (by decide)
  have hhi : rv r ≤ X * 2 ^ T74 + 2 ^ (T74 - 1) := r4 _ ⟨2 * X + 1, T74 - 1, by rw [hT, Nat.add_mul, Nat.one_mul, Nat.mul_comm 2 X, Nat.mul_assoc], by omega⟩ n2
  have hlo : X * 2 ^ T74 ≤ rv r + 2 ^ (T74 - 1) := by
    by_cases hX0 : X = 0
    · rw [hX0, Nat.zero_mul]; exact Nat.zero_le _
    · have hXT : 2 ^ T74 ≤ X * 2 ^ T74 := Nat.le_mul_of_pos_left _ (Nat.pos_of_ne_zero hX0)
      have h5 := r3 (X * 2 ^ T74 - 2 ^ (T74 - 1)) ⟨2 * X - 1, T74 - 1, by rw [hT, Nat.sub_mul, Nat.one_mul, Nat.mul_comm 2 X, Nat.mul_assoc], by omega⟩ (by omega)
      omega
  obtain ⟨d, hd⟩ : ∃ d, d = if rv c ≤ rv r then rv r - rv c else rv c - rv r := ⟨_, rfl⟩
  have hd2 := hd
  rw [c3] at hd2
  have hdh : d ≤ 2 ^ (T74 - 1) := by rw [hd2]; split <;> omega
  have hdr : d ≤ rv r := by
    by_cases hX0 : X = 0
    · rw [hX0, Nat.zero_mul, if_pos (Nat.zero_le _)] at hd2; omega
    · have hXT : 2 ^ T74 ≤ X * 2 ^ T74 := Nat.le_mul_of_pos_left _ (Nat.pos_of_ne_zero hX0)
      omega
  have hrep : Rep d := rep_dist (rep_rv hrl) hd2 hdr (by omega)
  have hXTb : X * 2 ^ T74 ≤ 10000 * 2 ^ T74 := Nat.mul_le_mul_right _ hX
  obtain ⟨z, u, z1, z2, z3, z4, z5⟩ := sub_abs hrl hcl d hd hrep (Nat.lt_trans (log_T (k := T74 + 15) (by omega) (by rw [t74]; decide)) (by decide)) (Nat.lt_trans (log_T (k := T74 + 15) (by rw [c3]; omega) (by rw [t74]; decide)) (by decide))
  refine ⟨r, c, z, u, r1, by rw [near_write, c1], z1, z2, z3, ?_⟩
  rw [show FloatKind.f64.format = double from rfl, ord_rv z4 (by decide), z5]
  have := half_rv
  rw [Nat.compare_eq_lt.2 (by omega)]
theorem near_zero : Near 0 0 := ⟨0, 0, 0, 0, by decide +kernel, by decide +kernel, by decide +kernel, by decide, by decide, by decide +kernel⟩
theorem near_nzero : Near 9223372036854775808 0 := ⟨9223372036854775808, 0, 9223372036854775808, 0, by decide +kernel, by decide +kernel, by decide +kernel, by decide, by decide, by decide +kernel⟩
theorem abs_bits (z u : Nat) (h : z < 18446744073709551616) (hu : z % 9223372036854775808 = u) : bits BinOp.andNot IntKind.u64 (z : Int) 9223372036854775808 = (u : Int) := by
  have h1 := u64_andNot_nat z 9223372036854775808 h (by decide)
  have h2 : z &&& (18446744073709551615 - 9223372036854775808) = z % 9223372036854775808 := Nat.and_two_pow_sub_one_eq_mod z 63
  rw [h2, hu] at h1
  exact h1
set_option maxRecDepth 20000 in
set_option maxHeartbeats 800000 in
theorem abs_any (w : World) (z u : Nat) (h : z < 18446744073709551616) (hu : z % 9223372036854775808 = u) : Calls Try.prog 16 #[.float .f64 z] w fun e w' => e = .returned (.float .f64 u) ∧ w' = w := by
  have hb := fun w => bits_runI z z rfl w
  have hf := fun w => frombits_runI u u rfl w
  have ha := abs_bits z u h hu
  clear h hu
  go_enter Try.func16, Try.ntmps16
  go_wp2
  go_ret
  exact ⟨rfl, rfl⟩
end Go.Proofs.Ytaineoceiciloaa
