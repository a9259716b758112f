/-
  What wide answers, at any numbers of 64 bits; the chapter's examples.
-/
import Derived.Test.YtfjgafkhhjipbaaFloor
import Derived.Test.YtfjgafkhhjipbaaEven
import Derived.Test.YtfjgafkhhjipbaaDiv64B
set_option linter.unusedVariables false
set_option linter.unusedSimpArgs false
namespace Go.Proofs.Ytfjgafkhhjipbaa
open Go.RowKit Dg Go.Shelf

theorem i64_wf {x : Int} (h : (Lit.int .i64 x).wf = true) : -9223372036854775808 ≤ x ∧ x ≤ 9223372036854775807 := by
  simpa [Lit.wf, IntKind.min, IntKind.max, IntKind.signed, IntKind.bits] using h
theorem divOk_any (p c : Nat) (hp : p ≤ 85070591730234615865843651857942052864) (hc : c ≤ 9223372036854775807) (hc0 : 0 < c) : DivOk (p / 18446744073709551616 % c) (p % 18446744073709551616) c :=
  div64_any _ _ _ (Nat.mod_lt _ hc0) (Nat.mod_lt _ (by decide)) (by omega)
def floorS (a b c : Int) : Int × Int := if c ≤ 0 then (0, 12) else cutI (a * b / c)
def evenS (a b c : Int) : Int × Int := if c ≤ 0 then (0, 12) else cutI (evI (a * b) c.toNat)
theorem wfloor_S (a b c : Int) (ha : -9223372036854775808 ≤ a ∧ a ≤ 9223372036854775807) (hb : -9223372036854775808 ≤ b ∧ b ≤ 9223372036854775807) (hc : c ≤ 9223372036854775807) (w : World) :
    Calls Try.prog 12 #[.int .i64 a, .int .i64 b, .int .i64 c] w fun e w' => e = .returned (.tuple #[.int .i64 (floorS a b c).1, .int .i64 (floorS a b c).2]) ∧ Below w.heap.size w w' := by
  unfold floorS
  by_cases h : c ≤ 0
  · rw [if_pos h]
    exact (wfloor_zero a b c h w).mono fun e w' h => ⟨h.1, by rw [h.2]; exact Below.refl _ _⟩
  · rw [if_neg h]
    obtain ⟨C, rfl⟩ := Int.eq_ofNat_of_zero_le (show 0 ≤ c by omega)
    exact wfloor_any a b C ha.1 ha.2 hb.1 hb.2 (by omega) (by omega) (divOk_any _ _ (prod_lt ha.1 ha.2 hb.1 hb.2) (by omega) (by omega)) w
theorem weven_S (a b c : Int) (ha : -9223372036854775808 ≤ a ∧ a ≤ 9223372036854775807) (hb : -9223372036854775808 ≤ b ∧ b ≤ 9223372036854775807) (hc : c ≤ 9223372036854775807) (w : World) :
    Calls Try.prog 14 #[.int .i64 a, .int .i64 b, .int .i64 c] w fun e w' => e = .returned (.tuple #[.int .i64 (evenS a b c).1, .int .i64 (evenS a b c).2]) ∧ Below w.heap.size w w' := by
  unfold evenS
  by_cases h : c ≤ 0
  · rw [if_pos h]
    exact (weven_zero a b c h w).mono fun e w' h => ⟨h.1, by rw [h.2]; exact Below.refl _ _⟩
  · rw [if_neg h]
    obtain ⟨C, rfl⟩ := Int.eq_ofNat_of_zero_le (show 0 ≤ c by omega)
    rw [Int.toNat_natCast]
    exact weven_any a b C ha.1 ha.2 hb.1 hb.2 (by omega) (by omega) (divOk_any _ _ (prod_lt ha.1 ha.2 hb.1 hb.2) (by omega) (by omega)) w
set_option maxRecDepth 8000 in
theorem walive_any (w : World) : Calls Try.prog 11 #[] w fun e w' => e = .returned (.bool true) ∧ Below w.heap.size w w' := by
  have H1 := fun W => wfloor_S (-7) 1 2 (by decide) (by decide) (by decide) W
  have H2 := fun W => weven_S 5 1 2 (by decide) (by decide) (by decide) W
  have H3 := fun W => weven_S 7 1 2 (by decide) (by decide) (by decide) W
  rw [show floorS (-7) 1 2 = (-4, 0) from by decide] at H1
  rw [show evenS 5 1 2 = (2, 0) from by decide] at H2
  rw [show evenS 7 1 2 = (4, 0) from by decide] at H3
  have K1 := Lib.hid H1; have K2 := Lib.hid H2; have K3 := Lib.hid H3
  clear H1 H2 H3
  go_enter Try.func11, Try.ntmps11
  go_wp2_with fail
  refine (K1.out _).mono ?_
  rintro e w1 ⟨rfl, k1⟩
  go_wp2_with fail
  refine (K2.out _).mono ?_
  rintro e w2 ⟨rfl, k2⟩
  have B2 := Lib.hid (below_on k1 k1.size k2)
  clear k1 k2
  go_wp2_with fail
  refine (K3.out _).mono ?_
  rintro e w3 ⟨rfl, k3⟩
  have B3 := Lib.hid (below_on B2.out B2.out.size k3)
  clear k3
  go_wp2
  go_ret
  exact ⟨rfl, B3.out⟩
end Go.Proofs.Ytfjgafkhhjipbaa
