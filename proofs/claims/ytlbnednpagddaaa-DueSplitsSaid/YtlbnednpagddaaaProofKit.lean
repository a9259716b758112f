/-
  Words for the proofs of the rows: a law that answers true and leaves what was there as it was.
-/
import Derived.Test.YtlbnednpagddaaaRows
import Derived.Test.YtlbnednpagddaaaArr
import Derived.ProofKit
import Derived.Lib.SmallJoins
import Derived.Carry
set_option linter.unusedVariables false
set_option linter.unusedSimpArgs false
namespace Go.Proofs.Ytlbnednpagddaaa
open Go.ChangeShapes Go.WideShapes Go.ChangeAt Go.RowKit

theorem ownK : ownKnob Try.prog.godebug = none := by kernel_rfl
theorem laidK : laidOutB Try.prog = true := by kernel_rfl
end Go.Proofs.Ytlbnednpagddaaa
