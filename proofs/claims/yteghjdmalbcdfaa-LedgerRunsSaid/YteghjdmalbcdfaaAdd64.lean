/-
  The walk of bits.Add64: by the shelf's contract.
-/
import Derived.Test.YteghjdmalbcdfaaBlk
import Derived.Shelf.Spec.BitsCarry
set_option linter.unusedVariables false
set_option linter.unusedSimpArgs false
namespace Go.Proofs.Yteghjdmalbcdfaa
open Go.RowKit Go.Shelf

def renA : Go.Shelf.Ren := { f := fun k => if k = 25 then 35 else 0, t := fun k => 66, g := fun k => k }
theorem layA : Lays7.n25 Try.prog renA where
  mixed := by kernel_rfl
  f25 := by kernel_rfl
  t22 := by kernel_rfl
  a22 := fun w => by rfl
  z22 := fun w => by rfl
  v22 := fun w => by rfl
  i22 := by kernel_rfl
theorem add64_run (x y : Nat) (w : World) : (callFunc 35 #[.int .u64 x, .int .u64 y, .int .u64 0]).run Try.prog w = .ok (.value (.tuple #[.int .u64 (((x + y) % 18446744073709551616 : Nat) : Int), .int .u64 (((x + y) / 18446744073709551616 : Nat) : Int)])) w :=
  Any7.bits_Add64 layA x y 0 (by decide) w
end Go.Proofs.Yteghjdmalbcdfaa
