/-
  Plain: a whole number, if it is one of 64 bits.
-/
import Derived.Test.YteghjdmalbcdfaaBlk
set_option linter.unusedVariables false
set_option linter.unusedSimpArgs false
namespace Go.Proofs.Yteghjdmalbcdfaa
open Go.RowKit

/-- What Cut says of a number. -/
def cutI (z : Int) : Int × Int := if -9223372036854775808 ≤ z ∧ z ≤ 9223372036854775807 then (z, 0) else (0, 11)
theorem cutI_in {z : Int} (h1 : -9223372036854775808 ≤ z) (h2 : z ≤ 9223372036854775807) : cutI z = (z, 0) := by unfold cutI; rw [if_pos ⟨h1, h2⟩]
theorem cutI_out {z : Int} (h : z < -9223372036854775808 ∨ 9223372036854775807 < z) : cutI z = (0, 11) := by unfold cutI; rw [if_neg (by omega)]
theorem ret_two {k l : IntKind} {a b c d : Int} (h : a = b) (h' : c = d) : Ending.returned (.tuple #[.int k a, .int l c]) = .returned (.tuple #[.int k b, .int l d]) := by rw [h, h']

end Go.Proofs.Yteghjdmalbcdfaa
