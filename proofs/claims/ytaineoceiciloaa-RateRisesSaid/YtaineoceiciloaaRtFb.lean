/-
  math.IsNaN and math/bits.Len64 at any number.
-/
import Derived.Test.YtaineoceiciloaaRtFa
import Derived.Test.YtaineoceiciloaaRtP
import Derived.Shelf.Strconv.Itoa0
set_option linter.unusedVariables false
set_option linter.unusedSimpArgs false
namespace Go.Proofs.Ytaineoceiciloaa
open Go.RowKit Go.Shelf

def renL : Go.Shelf.Ren := { f := fun k => if k = 129 then 33 else 0, t := fun k => if k = 3 then 3 else if k = 4 then 4 else if k = 5 then 5 else if k = 9 then 9 else if k = 46 then 63 else if k = 53 then 39 else 0, g := fun k => k }
theorem layL : Lays.n129 Try.prog renL where
  mixed := by kernel_rfl
  f129 := by kernel_rfl
  t3 := by kernel_rfl
  a3 := fun w => by rfl
  z3 := fun w => by rfl
  v3 := fun w => by rfl
  t4 := by kernel_rfl
  a4 := fun w => by rfl
  z4 := fun w => by rfl
  v4 := fun w => by rfl
  t5 := by kernel_rfl
  a5 := fun w => by rfl
  z5 := fun w => by rfl
  v5 := fun w => by rfl
  t9 := by kernel_rfl
  a9 := fun w => by rfl
  z9 := fun w => by rfl
  v9 := fun w => by rfl
  t46 := by kernel_rfl
  a46 := fun w => by rfl
  z46 := fun w => by rfl
  v46 := fun w => by rfl
  t53 := by kernel_rfl
  a53 := fun w => by rfl
  z53 := fun w => by rfl
  v53 := fun w => by rfl
theorem len64_any (n : Nat) (h : n < 18446744073709551616) (w : World) : Calls Try.prog 33 #[.int .u64 n] w fun e w' => e = .returned (.int .i64 (Lib.bitLen n : Nat)) ∧ w' = w := by
  have := Any.bits_Len64 layL (n : Int) w (by omega) (by omega)
  rw [Int.toNat_natCast] at this
  exact this
set_option maxRecDepth 8000 in
theorem isnan_x (x : Nat) (c : Option Ordering) (hc : FloatKind.f64.format.order x x = c) (w : World) : Calls Try.prog 31 #[.float .f64 x] w fun e w' => e = .returned (.bool (c != some .eq)) ∧ w' = w := by
  go_enter Try.func31, Try.ntmps31
  go_wp2
  go_ret
  exact ⟨rfl, rfl⟩
end Go.Proofs.Ytaineoceiciloaa
