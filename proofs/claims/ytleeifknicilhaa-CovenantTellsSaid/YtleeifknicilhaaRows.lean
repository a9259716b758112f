/-
  No cell of these rows narrows 'for every input' (looked for: loops, veiled, ifaces, maps, wideKeys, modest, calm, conditions, laid).
  DERIVED. THE GIVEN ROWS OF THIS SEAT. 5 by the template 'for every input the law returns true; each argument reads behind the call as it read before'; 0 by the template 'total and deterministic' (their statements: YtleeifknicilhaaTotals.lean).
  GIVEN WITH THE SEED: the statements are not yours to turn. If you find one false, say at which input.
  Laid BY PROGRAM, IN A SANDBOX (cutbox-rows.mjs): the forced cells as the released guide's own fill.sh prints them over the translation 4905c1f91f84da53… (all of the seat's roots in one cut). By AI agents, Wed Nov 11 2026. No macro, syntax, notation, axiom, sorry.
-/
import Derived.Test.YtleeifknicilhaaChecked
import GoSem.Claim
import GoSem.ClaimJoined
import GoSem.ClaimMapViews
import Derived.JoinedTies
import Derived.KernelRfl
namespace Go.Proofs.Ytleeifknicilhaa
/- THE CELL 'sum', in the pinned program and in every row, IS THE sha256 OF THE DUMP (.gsa) THAT YtleeifknicilhaaProg.lean LOADS. Nothing in Lean hashes anything: it is a label: what it is worth is what the hold of that sum in a sandbox is worth. -/
noncomputable def Try.pinned : Pinned := { name := "ytleeifknicilhaa", sum := "4905c1f91f84da53a0cec3c4542fd294f44c4f5df9d484eb91fc389dd4a3d7d4", checked := Try.checked }
namespace Rows
def none {H : Type} : Left H := { results := [], args := [] }

/-- 'falseworklaw19.CovenantNames': WHATEVER THE INPUT: true; the input reads as it did. -/
def covenantNamesSpec : ChangeSpec := { name := "covenantNames", fn := fun _ => fun
  | [] => { results := [.lit (.bool true)], args := [] }
  | _ => none }
def covenantNamesRow : OpenClaim := { program := "ytleeifknicilhaa", sum := "4905c1f91f84da53a0cec3c4542fd294f44c4f5df9d484eb91fc389dd4a3d7d4", func := "falsework/falseworklaw19.CovenantNames", spec := "covenantNames", inPlace := ["math/bits.Add64"], named := ["math/bits.divideError", "math/bits.overflowError"], apart := false }
def CovenantNamesSaid : Prop := covenantNamesRow.holds Try.pinned (OpenSpec.ofChange covenantNamesSpec)

/-- ITS FALSE NEIGHBOUR: 'it returns false'. Refute it at one input. -/
def covenantNamesWrong : ChangeSpec := { name := "covenantNames", fn := fun _ => fun
  | [] => { results := [.lit (.bool false)], args := [] }
  | _ => none }
def CovenantNamesWrongFalsely : Prop := covenantNamesRow.holds Try.pinned (OpenSpec.ofChange covenantNamesWrong)

/-- 'falseworklaw19.CovenantTells': WHATEVER THE INPUT: true; the input reads as it did. -/
def covenantTellsSpec : ChangeSpec := { name := "covenantTells", fn := fun _ => fun
  | [d1, d2] => { results := [.lit (.bool true)], args := [d1, d2] }
  | _ => none }
def covenantTellsRow : OpenClaim := { program := "ytleeifknicilhaa", sum := "4905c1f91f84da53a0cec3c4542fd294f44c4f5df9d484eb91fc389dd4a3d7d4", func := "falsework/falseworklaw19.CovenantTells", spec := "covenantTells", inPlace := ["math/bits.Add64"], named := ["math/bits.divideError", "math/bits.overflowError"], apart := false }
def CovenantTellsSaid : Prop := covenantTellsRow.holds Try.pinned (OpenSpec.ofChange covenantTellsSpec)

/-- ITS FALSE NEIGHBOUR: 'it returns false'. Refute it at one input. -/
def covenantTellsWrong : ChangeSpec := { name := "covenantTells", fn := fun _ => fun
  | [d1, d2] => { results := [.lit (.bool false)], args := [d1, d2] }
  | _ => none }
def CovenantTellsWrongFalsely : Prop := covenantTellsRow.holds Try.pinned (OpenSpec.ofChange covenantTellsWrong)

/-- 'falseworklaw19.CovenantMost': WHATEVER THE INPUT: true; the input reads as it did. -/
def covenantMostSpec : ChangeSpec := { name := "covenantMost", fn := fun _ => fun
  | [d1, d2] => { results := [.lit (.bool true)], args := [d1, d2] }
  | _ => none }
def covenantMostRow : OpenClaim := { program := "ytleeifknicilhaa", sum := "4905c1f91f84da53a0cec3c4542fd294f44c4f5df9d484eb91fc389dd4a3d7d4", func := "falsework/falseworklaw19.CovenantMost", spec := "covenantMost", inPlace := ["math/bits.Add64"], named := ["math/bits.divideError", "math/bits.overflowError"], apart := false }
def CovenantMostSaid : Prop := covenantMostRow.holds Try.pinned (OpenSpec.ofChange covenantMostSpec)

/-- ITS FALSE NEIGHBOUR: 'it returns false'. Refute it at one input. -/
def covenantMostWrong : ChangeSpec := { name := "covenantMost", fn := fun _ => fun
  | [d1, d2] => { results := [.lit (.bool false)], args := [d1, d2] }
  | _ => none }
def CovenantMostWrongFalsely : Prop := covenantMostRow.holds Try.pinned (OpenSpec.ofChange covenantMostWrong)

/-- 'falseworklaw19.CovenantScales': WHATEVER THE INPUT: true; the input reads as it did. -/
def covenantScalesSpec : ChangeSpec := { name := "covenantScales", fn := fun _ => fun
  | [d1, d2, d3] => { results := [.lit (.bool true)], args := [d1, d2, d3] }
  | _ => none }
def covenantScalesRow : OpenClaim := { program := "ytleeifknicilhaa", sum := "4905c1f91f84da53a0cec3c4542fd294f44c4f5df9d484eb91fc389dd4a3d7d4", func := "falsework/falseworklaw19.CovenantScales", spec := "covenantScales", inPlace := ["math/bits.Add64"], named := ["math/bits.divideError", "math/bits.overflowError"], apart := false }
def CovenantScalesSaid : Prop := covenantScalesRow.holds Try.pinned (OpenSpec.ofChange covenantScalesSpec)

/-- ITS FALSE NEIGHBOUR: 'it returns false'. Refute it at one input. -/
def covenantScalesWrong : ChangeSpec := { name := "covenantScales", fn := fun _ => fun
  | [d1, d2, d3] => { results := [.lit (.bool false)], args := [d1, d2, d3] }
  | _ => none }
def CovenantScalesWrongFalsely : Prop := covenantScalesRow.holds Try.pinned (OpenSpec.ofChange covenantScalesWrong)

/-- 'falseworklaw19.CovenantBalance': WHATEVER THE INPUT: true; the input reads as it did. -/
def covenantBalanceSpec : ChangeSpec := { name := "covenantBalance", fn := fun _ => fun
  | [d1, d2] => { results := [.lit (.bool true)], args := [d1, d2] }
  | _ => none }
def covenantBalanceRow : OpenClaim := { program := "ytleeifknicilhaa", sum := "4905c1f91f84da53a0cec3c4542fd294f44c4f5df9d484eb91fc389dd4a3d7d4", func := "falsework/falseworklaw19.CovenantBalance", spec := "covenantBalance", inPlace := ["math/bits.Add64"], named := ["math/bits.divideError", "math/bits.overflowError"], apart := false }
def CovenantBalanceSaid : Prop := covenantBalanceRow.holds Try.pinned (OpenSpec.ofChange covenantBalanceSpec)

/-- ITS FALSE NEIGHBOUR: 'it returns false'. Refute it at one input. -/
def covenantBalanceWrong : ChangeSpec := { name := "covenantBalance", fn := fun _ => fun
  | [d1, d2] => { results := [.lit (.bool false)], args := [d1, d2] }
  | _ => none }
def CovenantBalanceWrongFalsely : Prop := covenantBalanceRow.holds Try.pinned (OpenSpec.ofChange covenantBalanceWrong)

/- THE SECOND FORM. 'bulk': how many values and letters a reading holds, each counted each time it is reached (what is shared counts as often as it is met; a slice's spare places count too). A statement '..UptoSaid' is the law's where the arguments, and the package variables that the reading takes, are together of bulk at most 1048576: NARROWER than '..Said'. Prove '..Said' where nothing that the law and all that it calls make is longer than what came in: it says more and counts as full. Else prove '..UptoSaid'. A law counts once. -/
mutual
def uptoBulk {H : Type} : DataW H → Nat
  | .lit (.string bytes) => bytes.length + 1
  | .lit _ => 1
  | .nil => 1
  | .ptr d => uptoBulk d + 1
  | .slice elems spare => uptoBulkAll elems + uptoBulkAll spare + 1
  | .agg parts => uptoBulkAll parts + 1
  | .iface _ d => uptoBulk d + 1
  | .map entries => uptoBulkEntries entries + 1
  | .held _ => 1
def uptoBulkAll {H : Type} : List (DataW H) → Nat
  | [] => 0
  | d :: r => uptoBulk d + uptoBulkAll r
def uptoBulkEntries {H : Type} : List (Lit × DataW H) → Nat
  | [] => 0
  | x :: r => uptoBulkEntry x + uptoBulkEntries r
def uptoBulkEntry {H : Type} : Lit × DataW H → Nat
  | (.string bytes, d) => bytes.length + uptoBulk d + 1
  | (_, d) => uptoBulk d + 1
 end
def uptoSmall : (H : Type) → List (DataW H) → Bool := fun _ ds => decide (uptoBulkAll ds ≤ 1048576)
def OpenSpec.upto (s : _root_.Go.ChangeSpec) : _root_.Go.OpenSpec := { _root_.Go.OpenSpec.ofChange s with cond := some uptoSmall }

/-- 'falseworklaw19.CovenantNames', WHERE WHAT IT READS IS OF BULK AT MOST 1048576: true; the input reads as it did. -/
def covenantNamesUptoRow : OpenClaim := { program := "ytleeifknicilhaa", sum := "4905c1f91f84da53a0cec3c4542fd294f44c4f5df9d484eb91fc389dd4a3d7d4", func := "falsework/falseworklaw19.CovenantNames", spec := "covenantNames", inPlace := ["math/bits.Add64"], named := ["math/bits.divideError", "math/bits.overflowError"], apart := false, narrowed := true }
def CovenantNamesUptoSaid : Prop := covenantNamesUptoRow.holds Try.pinned (OpenSpec.upto covenantNamesSpec)

/-- 'falseworklaw19.CovenantTells', WHERE WHAT IT READS IS OF BULK AT MOST 1048576: true; the input reads as it did. -/
def covenantTellsUptoRow : OpenClaim := { program := "ytleeifknicilhaa", sum := "4905c1f91f84da53a0cec3c4542fd294f44c4f5df9d484eb91fc389dd4a3d7d4", func := "falsework/falseworklaw19.CovenantTells", spec := "covenantTells", inPlace := ["math/bits.Add64"], named := ["math/bits.divideError", "math/bits.overflowError"], apart := false, narrowed := true }
def CovenantTellsUptoSaid : Prop := covenantTellsUptoRow.holds Try.pinned (OpenSpec.upto covenantTellsSpec)

/-- 'falseworklaw19.CovenantMost', WHERE WHAT IT READS IS OF BULK AT MOST 1048576: true; the input reads as it did. -/
def covenantMostUptoRow : OpenClaim := { program := "ytleeifknicilhaa", sum := "4905c1f91f84da53a0cec3c4542fd294f44c4f5df9d484eb91fc389dd4a3d7d4", func := "falsework/falseworklaw19.CovenantMost", spec := "covenantMost", inPlace := ["math/bits.Add64"], named := ["math/bits.divideError", "math/bits.overflowError"], apart := false, narrowed := true }
def CovenantMostUptoSaid : Prop := covenantMostUptoRow.holds Try.pinned (OpenSpec.upto covenantMostSpec)

/-- 'falseworklaw19.CovenantScales', WHERE WHAT IT READS IS OF BULK AT MOST 1048576: true; the input reads as it did. -/
def covenantScalesUptoRow : OpenClaim := { program := "ytleeifknicilhaa", sum := "4905c1f91f84da53a0cec3c4542fd294f44c4f5df9d484eb91fc389dd4a3d7d4", func := "falsework/falseworklaw19.CovenantScales", spec := "covenantScales", inPlace := ["math/bits.Add64"], named := ["math/bits.divideError", "math/bits.overflowError"], apart := false, narrowed := true }
def CovenantScalesUptoSaid : Prop := covenantScalesUptoRow.holds Try.pinned (OpenSpec.upto covenantScalesSpec)

/-- 'falseworklaw19.CovenantBalance', WHERE WHAT IT READS IS OF BULK AT MOST 1048576: true; the input reads as it did. -/
def covenantBalanceUptoRow : OpenClaim := { program := "ytleeifknicilhaa", sum := "4905c1f91f84da53a0cec3c4542fd294f44c4f5df9d484eb91fc389dd4a3d7d4", func := "falsework/falseworklaw19.CovenantBalance", spec := "covenantBalance", inPlace := ["math/bits.Add64"], named := ["math/bits.divideError", "math/bits.overflowError"], apart := false, narrowed := true }
def CovenantBalanceUptoSaid : Prop := covenantBalanceUptoRow.holds Try.pinned (OpenSpec.upto covenantBalanceSpec)

end Rows
end Go.Proofs.Ytleeifknicilhaa
