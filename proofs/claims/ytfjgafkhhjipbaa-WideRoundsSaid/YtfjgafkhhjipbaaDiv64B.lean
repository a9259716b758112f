/-
  math/bits.Div64: the quotient and the rest.
-/
import Derived.Test.YtfjgafkhhjipbaaDiv64
set_option linter.unusedVariables false
set_option linter.unusedSimpArgs false
namespace Go.Proofs.Ytfjgafkhhjipbaa
open Go.RowKit Dg Go.Shelf

theorem pow_split (s : Nat) (h : s ≤ 64) : (2 ^ s) * 2 ^ (64 - s) = 18446744073709551616 := by rw [← Nat.pow_add, Nat.add_sub_cancel' h]
set_option maxRecDepth 100000 in
set_option maxHeartbeats 1600000 in
theorem div64_any (h l c : Nat) (hhc : h < c) (hl : l < 18446744073709551616) (hc : c < 9223372036854775808) : DivOk h l c := by
  by_cases hh : h = 0
  · subst hh; exact div64_0 l c hl (by omega) (by omega)
  intro w
  obtain ⟨b1, b2, b3, b4⟩ := bitLen_bounds c (by omega) (by omega)
  obtain ⟨s, hs⟩ : ∃ s, 64 - Lib.bitLen c = s := ⟨_, rfl⟩
  have hb63 : Lib.bitLen c ≤ 63 := by
    apply Nat.le_of_lt_succ
    apply (Nat.pow_lt_pow_iff_right (by decide : 1 < 2)).1
    omega
  have hLZ := fun W => lz64_any c (by omega) s hs b3 W
  have hb : Lib.bitLen c = 64 - s := by omega
  have hs0 : 1 ≤ s := by omega
  have hs1 : s ≤ 63 := by omega
  rw [hb] at b1 b2
  have hP := pow_split s (by omega)
  have hPpos : 0 < 2 ^ s := Nat.pow_pos (by decide)
  have hcast : ((2 ^ s : Nat) : Int) = (2 : Int) ^ s := by simp
  have hcast2 : ((2 ^ (64 - s) : Nat) : Int) = (2 : Int) ^ (64 - s) := by simp
  obtain ⟨P, hPe⟩ : ∃ P, 2 ^ s = P := ⟨_, rfl⟩
  obtain ⟨R, hRe⟩ : ∃ R, 2 ^ (64 - s) = R := ⟨_, rfl⟩
  -- the numbers
  have y1 : c * 2 ^ s < 18446744073709551616 := by
    have := Nat.mul_lt_mul_of_pos_right b1 hPpos
    rw [Nat.mul_comm (2 ^ (64 - s)), hP] at this; exact this
  have y2 : 9223372036854775808 ≤ c * 2 ^ s := by
    have := Nat.mul_le_mul_right (2 ^ s) b2
    rw [Nat.mul_comm (2 ^ (64 - s)), hP, Nat.mul_assoc] at this; omega
  have hy : h * 2 ^ s < c * 2 ^ s := Nat.mul_lt_mul_of_pos_right hhc hPpos
  have hl1 : l / 2 ^ (64 - s) < 2 ^ s := by
    rw [Nat.div_lt_iff_lt_mul (Nat.pow_pos (by decide)), hP]; exact hl
  have hu2 : h * 2 ^ s + l / 2 ^ (64 - s) < c * 2 ^ s := by
    have : (h + 1) * 2 ^ s ≤ c * 2 ^ s := Nat.mul_le_mul_right _ hhc
    rw [Nat.add_mul, Nat.one_mul] at this; omega
  have hT : l * 2 ^ s = l / 2 ^ (64 - s) * 18446744073709551616 + l * 2 ^ s % 18446744073709551616 := by
    have h1 : l * 2 ^ s / 18446744073709551616 = l / 2 ^ (64 - s) := by
      rw [← hP, Nat.mul_comm l, Nat.mul_div_mul_left _ _ hPpos]
    rw [← h1]; exact (Nat.div_add_mod' _ _).symm
  have hTl : l * 2 ^ s % 18446744073709551616 < 18446744073709551616 := Nat.mod_lt _ (by decide)
  have hor : h * 2 ^ s ||| l / 2 ^ (64 - s) = h * 2 ^ s + l / 2 ^ (64 - s) := nat_join s _ _ (Nat.mul_mod_left _ _) hl1
  have hN : (h * 18446744073709551616 + l) * 2 ^ s = (h * 2 ^ s + l / 2 ^ (64 - s)) * 18446744073709551616 + l * 2 ^ s % 18446744073709551616 := by
    rw [Nat.add_mul, Nat.mul_right_comm h]
    generalize l * 2 ^ s = L at *
    generalize h * 2 ^ s = a at *
    generalize l / 2 ^ (64 - s) = b at *
    omega
  have hc0 : 0 < c := by omega
  have hq : (h * 18446744073709551616 + l) / c = ((h * 18446744073709551616 + l) * 2 ^ s) / (c * 2 ^ s) := (Nat.mul_div_mul_right _ _ hPpos).symm
  have hm : (h * 18446744073709551616 + l) % c = ((h * 18446744073709551616 + l) * 2 ^ s) % (c * 2 ^ s) / 2 ^ s := by
    rw [Nat.mul_mod_mul_right, Nat.mul_div_cancel _ hPpos]
  rw [hq, hm, hN]
  have g5 : ((l : Int)) / 2 ^ (64 - s) = ((l / 2 ^ (64 - s) : Nat) : Int) := by rw [Int.natCast_ediv, hcast2]
  have g1 : IntKind.u64.wrap ((c : Int) * 2 ^ s) = ((c * 2 ^ s : Nat) : Int) := by
    rw [← hcast, ← Int.natCast_mul, IntKind.wrap_u64]
    generalize c * 2 ^ s = y at *; omega
  have g4 : IntKind.u64.wrap ((h : Int) * 2 ^ s) = ((h * 2 ^ s : Nat) : Int) := by
    rw [← hcast, ← Int.natCast_mul, IntKind.wrap_u64]
    generalize h * 2 ^ s = y at *; omega
  have g7 : IntKind.u64.wrap ((l : Int) * 2 ^ s) = ((l * 2 ^ s % 18446744073709551616 : Nat) : Int) := by
    rw [← hcast, ← Int.natCast_mul, IntKind.wrap_u64]
    generalize l * 2 ^ s = y at *; omega
  have g6 : bits .or .u64 ((h * 2 ^ s : Nat) : Int) ((l / 2 ^ (64 - s) : Nat) : Int) = ((h * 2 ^ s + l / 2 ^ (64 - s) : Nat) : Int) := by
    rw [u64_or_nat _ _ (by omega) (by omega), hor]
  generalize hyy : c * 2 ^ s = y at *
  generalize huu : h * 2 ^ s + l / 2 ^ (64 - s) = u at *
  generalize htt : l * 2 ^ s % 18446744073709551616 = t at *
  generalize h * 2 ^ s = hs' at *
  generalize l / 2 ^ (64 - s) = ls' at *
  have m3 : bits .and .u64 (y : Int) 4294967295 = ((y % 4294967296 : Nat) : Int) := by
    have := u64_and_nat y 4294967295 y1 (by omega)
    rw [show y &&& 4294967295 = y % 4294967296 from Nat.and_two_pow_sub_one_eq_mod y 32] at this
    exact this
  have m9 : bits .and .u64 (t : Int) 4294967295 = ((t % 4294967296 : Nat) : Int) := by
    have := u64_and_nat t 4294967295 hTl (by omega)
    rw [show t &&& 4294967295 = t % 4294967296 from Nat.and_two_pow_sub_one_eq_mod t 32] at this
    exact this
  have hyd : y / 4294967296 * 4294967296 + y % 4294967296 = y := Nat.div_add_mod' _ _
  have htd : t / 4294967296 * 4294967296 + t % 4294967296 = t := Nat.div_add_mod' _ _
  have td := two_digits y u (t / 4294967296) (t % 4294967296) (by omega)
  rw [htd] at td
  rw [td.1, td.2]
  clear td
  have lt1 : (u * 4294967296 + t / 4294967296) / y < 4294967296 := by rw [Nat.div_lt_iff_lt_mul (by omega)]; omega
  have lt2 : (u * 4294967296 + t / 4294967296) % y < y := Nat.mod_lt _ (by omega)
  have eq1 : u * 4294967296 + t / 4294967296 = (u * 4294967296 + t / 4294967296) / y * y + (u * 4294967296 + t / 4294967296) % y := (Nat.div_add_mod' _ _).symm
  obtain ⟨qt, hqt⟩ : ∃ n, (u * 4294967296 + t / 4294967296) / y = n := ⟨_, rfl⟩
  obtain ⟨u21, hu21⟩ : ∃ n, (u * 4294967296 + t / 4294967296) % y = n := ⟨_, rfl⟩
  rw [hqt, hu21] at eq1
  rw [hqt] at lt1
  rw [hu21] at lt2
  rw [hqt, hu21]
  have lt3 : (u21 * 4294967296 + t % 4294967296) / y < 4294967296 := by rw [Nat.div_lt_iff_lt_mul (by omega)]; omega
  have lt4 : (u21 * 4294967296 + t % 4294967296) % y < y := Nat.mod_lt _ (by omega)
  have eq2 : u21 * 4294967296 + t % 4294967296 = (u21 * 4294967296 + t % 4294967296) / y * y + (u21 * 4294967296 + t % 4294967296) % y := (Nat.div_add_mod' _ _).symm
  obtain ⟨qt2, hqt2⟩ : ∃ n, (u21 * 4294967296 + t % 4294967296) / y = n := ⟨_, rfl⟩
  obtain ⟨rr, hrr⟩ : ∃ n, (u21 * 4294967296 + t % 4294967296) % y = n := ⟨_, rfl⟩
  rw [hqt2, hrr] at eq2
  rw [hqt2] at lt3
  rw [hrr] at lt4
  rw [hqt2, hrr]
  have hY1 : 2147483648 ≤ y / 4294967296 := by omega
  have G1 := QG.start (u := u) hY1 (Nat.mod_lt y (by decide : 0 < 4294967296)) (show t / 4294967296 < 4294967296 by omega) (by rw [hyd]; exact hu2)
  have G2 := QG.start (u := u21) hY1 (Nat.mod_lt y (by decide : 0 < 4294967296)) (Nat.mod_lt t (by decide : 0 < 4294967296)) (by rw [hyd]; exact lt2)
  have r1 : u - u / (y / 4294967296) * (y / 4294967296) < y / 4294967296 := by rw [Nat.mul_comm, ← Nat.mod_eq_sub]; exact Nat.mod_lt _ (by omega)
  have r2 : u21 - u21 / (y / 4294967296) * (y / 4294967296) < y / 4294967296 := by rw [Nat.mul_comm, ← Nat.mod_eq_sub]; exact Nat.mod_lt _ (by omega)
  have q1u : u / (y / 4294967296) * (y / 4294967296) ≤ u := Nat.div_mul_le_self _ _
  have q2u : u21 / (y / 4294967296) * (y / 4294967296) ≤ u21 := Nat.div_mul_le_self _ _
  have c1 : ((u / (y / 4294967296) : Nat) : Int) * ((y / 4294967296 : Nat) : Int) = ((u / (y / 4294967296) * (y / 4294967296) : Nat) : Int) := by rw [Int.natCast_mul]
  have c2 : ((u21 / (y / 4294967296) : Nat) : Int) * ((y / 4294967296 : Nat) : Int) = ((u21 / (y / 4294967296) * (y / 4294967296) : Nat) : Int) := by rw [Int.natCast_mul]
  have d1 : (u : Int) / ((y / 4294967296 : Nat) : Int) = ((u / (y / 4294967296) : Nat) : Int) := (Int.natCast_ediv _ _).symm
  have d2 : (u21 : Int) / ((y / 4294967296 : Nat) : Int) = ((u21 / (y / 4294967296) : Nat) : Int) := (Int.natCast_ediv _ _).symm
  have w1 : (qt : Int) * (y : Int) = ((qt * y : Nat) : Int) := by rw [Int.natCast_mul]
  have w2 : (qt2 : Int) * (y : Int) = ((qt2 * y : Nat) : Int) := by rw [Int.natCast_mul]
  obtain ⟨Y1, hY1e⟩ : ∃ n, y / 4294967296 = n := ⟨_, rfl⟩
  obtain ⟨Y0, hY0e⟩ : ∃ n, y % 4294967296 = n := ⟨_, rfl⟩
  obtain ⟨U1, hU1e⟩ : ∃ n, t / 4294967296 = n := ⟨_, rfl⟩
  obtain ⟨U0, hU0e⟩ : ∃ n, t % 4294967296 = n := ⟨_, rfl⟩
  have b1 : Y1 < 4294967296 := by omega
  have b2 : Y0 < 4294967296 := by omega
  have b3 : U1 < 4294967296 := by omega
  have b4 : U0 < 4294967296 := by omega
  have e2 : (y : Int) / 4294967296 = (Y1 : Int) := by omega
  have e8 : (t : Int) / 4294967296 = (U1 : Int) := by omega
  rw [hY1e] at hY1
  rw [hY1e] at G1
  rw [hY1e] at G2
  rw [hY1e] at r1 r2 q1u q2u c1 c2 d1 d2
  rw [hY1e] at hyd
  rw [hY0e] at m3 hyd G1 G2
  rw [hU1e] at hqt eq1 G1
  rw [hU0e] at m9 hqt2 eq2 G2
  clear htd hY1e hY0e hU1e hU0e hN hq hm hT hor
  obtain ⟨Q1, hQ1⟩ : ∃ n, u / Y1 = n := ⟨_, rfl⟩
  obtain ⟨Q2, hQ2⟩ : ∃ n, u21 / Y1 = n := ⟨_, rfl⟩
  rw [hQ1] at G1 r1 q1u c1 d1
  rw [hQ2] at G2 r2 q2u c2 d2
  obtain ⟨z1, hz1⟩ : ∃ n, Q1 * Y1 = n := ⟨_, rfl⟩
  obtain ⟨z2, hz2⟩ : ∃ n, Q2 * Y1 = n := ⟨_, rfl⟩
  rw [hz1] at G1 r1 q1u c1
  rw [hz2] at G2 r2 q2u c2
  obtain ⟨p1, hp1⟩ : ∃ n, qt * y = n := ⟨_, rfl⟩
  obtain ⟨p2, hp2⟩ : ∃ n, qt2 * y = n := ⟨_, rfl⟩
  rw [hp1] at eq1 w1
  rw [hp2] at eq2 w2
  have f2 : IntKind.u64.wrap ((u : Int) / (Y1 : Int) * (Y1 : Int)) = (z1 : Int) := by rw [d1, c1, IntKind.wrap_u64]; omega
  have f3 : IntKind.u64.wrap ((u : Int) - (z1 : Int)) = ((u - z1 : Nat) : Int) := by rw [IntKind.wrap_u64]; omega
  have f6 : IntKind.u64.wrap ((u21 : Int) / (Y1 : Int) * (Y1 : Int)) = (z2 : Int) := by rw [d2, c2, IntKind.wrap_u64]; omega
  have f7 : IntKind.u64.wrap ((u21 : Int) - (z2 : Int)) = ((u21 - z2 : Nat) : Int) := by rw [IntKind.wrap_u64]; omega
  have f4 : IntKind.u64.wrap (IntKind.u64.wrap (IntKind.u64.wrap ((u : Int) * 4294967296) + (U1 : Int)) - IntKind.u64.wrap ((qt : Int) * (y : Int))) = (u21 : Int) := by rw [w1]; simp only [IntKind.wrap_u64]; omega
  have f8 : IntKind.u64.wrap (IntKind.u64.wrap (IntKind.u64.wrap ((u21 : Int) * 4294967296) + (U0 : Int)) - IntKind.u64.wrap ((qt2 : Int) * (y : Int))) = (rr : Int) := by rw [w2]; simp only [IntKind.wrap_u64]; omega
  have f9 : (rr : Int) / 2 ^ s = ((rr / 2 ^ s : Nat) : Int) := by rw [Int.natCast_ediv, hcast]
  have hy' : (y : Int) = (Y1 : Int) * 4294967296 + (Y0 : Int) := by omega
  have n1 : ((u : Int).toNat * 4294967296 + (U1 : Int).toNat) / ((Y1 : Int).toNat * 4294967296 + (Y0 : Int).toNat) = (qt : Int).toNat := by simp only [Int.toNat_natCast]; rw [hyd]; exact hqt
  have n2 : ((u21 : Int).toNat * 4294967296 + (U0 : Int).toNat) / ((Y1 : Int).toNat * 4294967296 + (Y0 : Int).toNat) = (qt2 : Int).toNat := by simp only [Int.toNat_natCast]; rw [hyd]; exact hqt2
  have G1' : QG (Y1 : Int).toNat (Y0 : Int).toNat (u : Int).toNat (U1 : Int).toNat (Q1 : Int).toNat ((u - z1 : Nat) : Int).toNat := by simp only [Int.toNat_natCast]; exact G1
  have G2' : QG (Y1 : Int).toNat (Y0 : Int).toNat (u21 : Int).toNat (U0 : Int).toNat (Q2 : Int).toNat ((u21 - z2 : Nat) : Int).toNat := by simp only [Int.toNat_natCast]; exact G2
  have k1 : (0 : Int) < h := by omega
  have k2 : (h : Int) < c := by omega
  have k3 : (l : Int) < 18446744073709551616 := by omega
  have k4 : (c : Int) < 9223372036854775808 := by omega
  have k5 : (2147483648 : Int) ≤ (Y1 : Int) := by omega
  have k6 : (Y1 : Int) < 4294967296 := by omega
  have k7 : (Y0 : Int) < 4294967296 := by omega
  have k8 : (0 : Int) < (y : Int) := by omega
  have k9 : (y : Int) < 18446744073709551616 := by omega
  have k10 : (u : Int) < y := by omega
  have k11 : (U1 : Int) < 4294967296 := by omega
  have k12 : (U0 : Int) < 4294967296 := by omega
  have k13 : (u21 : Int) < y := by omega
  have k14 : ((u - z1 : Nat) : Int) < 4294967296 := by omega
  have k15 : ((u21 - z2 : Nat) : Int) < 4294967296 := by omega
  have k16 : (qt : Int) * 4294967296 + (qt2 : Int) = ((qt * 4294967296 + qt2 : Nat) : Int) := by omega
  have k17 : ((qt * 4294967296 + qt2 : Nat) : Int) < 18446744073709551616 := by omega
  have z (n : Nat) : (0 : Int) ≤ (n : Int) := Int.natCast_nonneg n
  clear eq1 eq2 lt1 lt2 lt3 lt4 hqt hqt2 hu21 hrr
  have fin := div64_core (h : Int) (l : Int) (c : Int) s y Y1 Y0 hs' ls' u t U1 U0 qt u21 qt2 rr ((rr / 2 ^ s : Nat) : Int) Q1 ((u - z1 : Nat) : Int) z1 Q2 ((u21 - z2 : Nat) : Int) z2
    k1 k2 (z l) k3 k4 hs0 hs1 (Lib.hid hLZ) g1 e2 m3 g4 g5 g6 g7 e8 m9 k5 k6 (z _) k7 (Lib.hid hy') k8 k9 (z _) k10 (z _) (z _) k11 (z _) k12 (z _) (Lib.hid n1) (z _) k13 (z _) (Lib.hid n2) (Lib.hid d1) f2 f3 (z _) (z _) (Lib.hid k14) (Lib.hid G1') f4 (Lib.hid d2) f6 f7 (z _) (z _) (Lib.hid k15) (Lib.hid G2') f8 (z _) f9 _ (Lib.hid (And.intro k16 k17)) w
  exact fin.mono fun e w' h => ⟨h.1, by rw [h.2]; exact Below.refl _ _⟩
end Go.Proofs.Ytfjgafkhhjipbaa
