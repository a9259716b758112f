/-
  The walks of wide.Cross and the reference's Cross.
-/
import Derived.Test.YtdiejmokbmaejaaWide
import Derived.Test.YtdiejmokbmaejaaMono
import Derived.Test.YtdiejmokbmaejaaTimes
set_option linter.unusedVariables false
set_option linter.unusedSimpArgs false
namespace Go.Proofs.Ytdiejmokbmaejaa
open Go.RowKit Dg

theorem cmp_or (x y : Int) : (if cmpI (absI x / 18446744073709551616) (absI y / 18446744073709551616) = 0 then cmpI (absI x % 18446744073709551616) (absI y % 18446744073709551616) else cmpI (absI x / 18446744073709551616) (absI y / 18446744073709551616)) = cmpI (absI x) (absI y) := by
  have hx := absI_nonneg x; have hy := absI_nonneg y
  generalize absI x = a at *
  generalize absI y = b at *
  unfold cmpI
  split <;> (repeat' split) <;> omega
theorem cross_sign (x y : Int) : cmpI x y = if x < 0 then (if y < 0 then -cmpI (absI x) (absI y) else -1) else (if y < 0 then 1 else cmpI (absI x) (absI y)) := by
  unfold cmpI absI
  repeat' split
  all_goals omega
theorem times_lt {a b : Int} (ha1 : -9223372036854775808 ≤ a) (ha2 : a ≤ 9223372036854775807) (hb1 : -9223372036854775808 ≤ b) (hb2 : b ≤ 9223372036854775807) : absI (a * b) ≤ 85070591730234615865843651857942052864 := by
  rw [absI_nat, Int.natAbs_mul]
  have : a.natAbs * b.natAbs ≤ 9223372036854775808 * 9223372036854775808 := Nat.mul_le_mul (by omega) (by omega)
  omega
theorem rcross_any (a b c d : Int) (ha0 : -9223372036854775808 ≤ a) (ha1 : a ≤ 9223372036854775807) (hb0 : -9223372036854775808 ≤ b) (hb1 : b ≤ 9223372036854775807) (hc0 : -9223372036854775808 ≤ c) (hc1 : c ≤ 9223372036854775807) (hd0 : -9223372036854775808 ≤ d) (hd1 : d ≤ 9223372036854775807) (w : World) :
    Calls Try.prog 29 #[.int .i64 a, .int .i64 b, .int .i64 c, .int .i64 d] w fun e w' => e = .returned (.int .i64 (cmpI (a * b) (c * d))) ∧ Below w.heap.size w w' := by
  have HX := Lib.hid (fun W => times_any a b ha0 ha1 hb0 hb1 W)
  have HY := Lib.hid (fun W => times_any c d hc0 hc1 hd0 hd1 W)
  have hx := times_lt ha0 ha1 hb0 hb1
  have hy := times_lt hc0 hc1 hd0 hd1
  have HC := Lib.hid (fun W => compare_any (a * b) (c * d) (by simp only [TOP]; omega) W)
  obtain ⟨x, ex⟩ : ∃ z, a * b = z := ⟨_, rfl⟩
  obtain ⟨y, ey⟩ : ∃ z, c * d = z := ⟨_, rfl⟩
  rw [ex] at HX HC; rw [ey] at HY HC; rw [ex, ey]
  clear ex ey hx hy
  obtain ⟨X, eX⟩ : ∃ X, N x = X := ⟨_, rfl⟩
  obtain ⟨Y, eY⟩ : ∃ Y, N y = Y := ⟨_, rfl⟩
  rw [eX] at HX HC; rw [eY] at HY HC
  clear eX eY
  go_enter Try.func29, Try.ntmps29
  go_wp2_with fail
  refine (HX.out _).mono ?_
  rintro e w1 ⟨rfl, hb1⟩
  have B1 := Lib.hid hb1
  clear hb1
  go_wp2_with fail
  refine (HY.out _).mono ?_
  rintro e w2 ⟨rfl, hb2⟩
  have B2 := Lib.hid (below_on B1.out B1.out.size hb2)
  clear hb2 B1
  go_wp2_with fail
  refine (HC.out _).mono ?_
  rintro e w3 ⟨rfl, hb3⟩
  have B3 := Lib.hid (below_on B2.out B2.out.size hb3)
  clear hb3 B2
  go_wp2
  go_ret
  exact ⟨rfl, B3.out⟩
end Go.Proofs.Ytdiejmokbmaejaa
