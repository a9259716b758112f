/-
  No cell of these rows narrows 'for every input' (looked for: loops, veiled, ifaces, maps, wideKeys, modest, calm, conditions, laid).
  DERIVED. THE GIVEN ROWS OF THIS SEAT. 4 by the template 'for every input the law returns true; each argument reads behind the call as it read before'; 0 by the template 'total and deterministic' (their statements: YthcimllkcaknhaaTotals.lean).
  GIVEN WITH THE SEED: the statements are not yours to turn. If you find one false, say at which input.
  Laid BY PROGRAM, IN A SANDBOX (cutbox-rows.mjs): the forced cells as the released guide's own fill.sh prints them over the translation b6027d15e44494ec… (all of the seat's roots in one cut). By AI agents, Wed Nov 11 2026. No macro, syntax, notation, axiom, sorry.
-/
import Derived.Test.YthcimllkcaknhaaChecked
import GoSem.Claim
import GoSem.ClaimJoined
import GoSem.ClaimMapViews
import Derived.JoinedTies
import Derived.KernelRfl
namespace Go.Proofs.Ythcimllkcaknhaa
/- THE CELL 'sum', in the pinned program and in every row, IS THE sha256 OF THE DUMP (.gsa) THAT YthcimllkcaknhaaProg.lean LOADS. Nothing in Lean hashes anything: it is a label: what it is worth is what the hold of that sum in a sandbox is worth. -/
noncomputable def Try.pinned : Pinned := { name := "ythcimllkcaknhaa", sum := "b6027d15e44494ecfc0c37d17fbef4760b0cc198ea3381e353222c9f3be6d8f1", checked := Try.checked }
namespace Rows
def none {H : Type} : Left H := { results := [], args := [] }

/-- 'falseworklaw16.TrancheNames': WHATEVER THE INPUT: true; the input reads as it did. -/
def trancheNamesSpec : ChangeSpec := { name := "trancheNames", fn := fun _ => fun
  | [] => { results := [.lit (.bool true)], args := [] }
  | _ => none }
def trancheNamesRow : OpenClaim := { program := "ythcimllkcaknhaa", sum := "b6027d15e44494ecfc0c37d17fbef4760b0cc198ea3381e353222c9f3be6d8f1", func := "falsework/falseworklaw16.TrancheNames", spec := "trancheNames", unfollowed := true, recurses := true, apart := false }
def TrancheNamesSaid : Prop := trancheNamesRow.holds Try.pinned (OpenSpec.ofChange trancheNamesSpec)

/-- ITS FALSE NEIGHBOUR: 'it returns false'. Refute it at one input. -/
def trancheNamesWrong : ChangeSpec := { name := "trancheNames", fn := fun _ => fun
  | [] => { results := [.lit (.bool false)], args := [] }
  | _ => none }
def TrancheNamesWrongFalsely : Prop := trancheNamesRow.holds Try.pinned (OpenSpec.ofChange trancheNamesWrong)

/-- 'falseworklaw16.TrancheRuns': WHATEVER THE INPUT: true; the input reads as it did. -/
def trancheRunsSpec : ChangeSpec := { name := "trancheRuns", fn := fun _ => fun
  | [d1, d2] => { results := [.lit (.bool true)], args := [d1, d2] }
  | _ => none }
def trancheRunsRow : OpenClaim := { program := "ythcimllkcaknhaa", sum := "b6027d15e44494ecfc0c37d17fbef4760b0cc198ea3381e353222c9f3be6d8f1", func := "falsework/falseworklaw16.TrancheRuns", spec := "trancheRuns", unfollowed := true, recurses := true, apart := false }
def TrancheRunsSaid : Prop := trancheRunsRow.holds Try.pinned (OpenSpec.ofChange trancheRunsSpec)

/-- ITS FALSE NEIGHBOUR: 'it returns false'. Refute it at one input. -/
def trancheRunsWrong : ChangeSpec := { name := "trancheRuns", fn := fun _ => fun
  | [d1, d2] => { results := [.lit (.bool false)], args := [d1, d2] }
  | _ => none }
def TrancheRunsWrongFalsely : Prop := trancheRunsRow.holds Try.pinned (OpenSpec.ofChange trancheRunsWrong)

/-- 'falseworklaw16.TrancheExact': WHATEVER THE INPUT: true; the input reads as it did. -/
def trancheExactSpec : ChangeSpec := { name := "trancheExact", fn := fun _ => fun
  | [d1, d2] => { results := [.lit (.bool true)], args := [d1, d2] }
  | _ => none }
def trancheExactRow : OpenClaim := { program := "ythcimllkcaknhaa", sum := "b6027d15e44494ecfc0c37d17fbef4760b0cc198ea3381e353222c9f3be6d8f1", func := "falsework/falseworklaw16.TrancheExact", spec := "trancheExact", unfollowed := true, recurses := true, apart := false }
def TrancheExactSaid : Prop := trancheExactRow.holds Try.pinned (OpenSpec.ofChange trancheExactSpec)

/-- ITS FALSE NEIGHBOUR: 'it returns false'. Refute it at one input. -/
def trancheExactWrong : ChangeSpec := { name := "trancheExact", fn := fun _ => fun
  | [d1, d2] => { results := [.lit (.bool false)], args := [d1, d2] }
  | _ => none }
def TrancheExactWrongFalsely : Prop := trancheExactRow.holds Try.pinned (OpenSpec.ofChange trancheExactWrong)

/-- 'falseworklaw16.TrancheSplits': WHATEVER THE INPUT: true; the input reads as it did. -/
def trancheSplitsSpec : ChangeSpec := { name := "trancheSplits", fn := fun _ => fun
  | [d1, d2, d3] => { results := [.lit (.bool true)], args := [d1, d2, d3] }
  | _ => none }
def trancheSplitsRow : OpenClaim := { program := "ythcimllkcaknhaa", sum := "b6027d15e44494ecfc0c37d17fbef4760b0cc198ea3381e353222c9f3be6d8f1", func := "falsework/falseworklaw16.TrancheSplits", spec := "trancheSplits", unfollowed := true, recurses := true, apart := false }
def TrancheSplitsSaid : Prop := trancheSplitsRow.holds Try.pinned (OpenSpec.ofChange trancheSplitsSpec)

/-- ITS FALSE NEIGHBOUR: 'it returns false'. Refute it at one input. -/
def trancheSplitsWrong : ChangeSpec := { name := "trancheSplits", fn := fun _ => fun
  | [d1, d2, d3] => { results := [.lit (.bool false)], args := [d1, d2, d3] }
  | _ => none }
def TrancheSplitsWrongFalsely : Prop := trancheSplitsRow.holds Try.pinned (OpenSpec.ofChange trancheSplitsWrong)

/- THE SECOND FORM. 'bulk': how many values and letters a reading holds, each counted each time it is reached (what is shared counts as often as it is met; a slice's spare places count too). A statement '..UptoSaid' is the law's where the arguments, and the package variables that the reading takes, are together of bulk at most 1048576: NARROWER than '..Said'. Prove '..Said' where nothing that the law and all that it calls make is longer than what came in: it says more and counts as full. Else prove '..UptoSaid'. A law counts once. -/
mutual
def uptoBulk {H : Type} : DataW H → Nat
  | .lit (.string bytes) => bytes.length + 1
  | .lit _ => 1
  | .nil => 1
  | .ptr d => uptoBulk d + 1
  | .slice elems spare => uptoBulkAll elems + uptoBulkAll spare + 1
  | .agg parts => uptoBulkAll parts + 1
  | .iface _ d => uptoBulk d + 1
  | .map entries => uptoBulkEntries entries + 1
  | .held _ => 1
def uptoBulkAll {H : Type} : List (DataW H) → Nat
  | [] => 0
  | d :: r => uptoBulk d + uptoBulkAll r
def uptoBulkEntries {H : Type} : List (Lit × DataW H) → Nat
  | [] => 0
  | x :: r => uptoBulkEntry x + uptoBulkEntries r
def uptoBulkEntry {H : Type} : Lit × DataW H → Nat
  | (.string bytes, d) => bytes.length + uptoBulk d + 1
  | (_, d) => uptoBulk d + 1
 end
def uptoSmall : (H : Type) → List (DataW H) → Bool := fun _ ds => decide (uptoBulkAll ds ≤ 1048576)
def OpenSpec.upto (s : _root_.Go.ChangeSpec) : _root_.Go.OpenSpec := { _root_.Go.OpenSpec.ofChange s with cond := some uptoSmall }

/-- 'falseworklaw16.TrancheNames', WHERE WHAT IT READS IS OF BULK AT MOST 1048576: true; the input reads as it did. -/
def trancheNamesUptoRow : OpenClaim := { program := "ythcimllkcaknhaa", sum := "b6027d15e44494ecfc0c37d17fbef4760b0cc198ea3381e353222c9f3be6d8f1", func := "falsework/falseworklaw16.TrancheNames", spec := "trancheNames", unfollowed := true, recurses := true, apart := false, narrowed := true }
def TrancheNamesUptoSaid : Prop := trancheNamesUptoRow.holds Try.pinned (OpenSpec.upto trancheNamesSpec)

/-- 'falseworklaw16.TrancheRuns', WHERE WHAT IT READS IS OF BULK AT MOST 1048576: true; the input reads as it did. -/
def trancheRunsUptoRow : OpenClaim := { program := "ythcimllkcaknhaa", sum := "b6027d15e44494ecfc0c37d17fbef4760b0cc198ea3381e353222c9f3be6d8f1", func := "falsework/falseworklaw16.TrancheRuns", spec := "trancheRuns", unfollowed := true, recurses := true, apart := false, narrowed := true }
def TrancheRunsUptoSaid : Prop := trancheRunsUptoRow.holds Try.pinned (OpenSpec.upto trancheRunsSpec)

/-- 'falseworklaw16.TrancheExact', WHERE WHAT IT READS IS OF BULK AT MOST 1048576: true; the input reads as it did. -/
def trancheExactUptoRow : OpenClaim := { program := "ythcimllkcaknhaa", sum := "b6027d15e44494ecfc0c37d17fbef4760b0cc198ea3381e353222c9f3be6d8f1", func := "falsework/falseworklaw16.TrancheExact", spec := "trancheExact", unfollowed := true, recurses := true, apart := false, narrowed := true }
def TrancheExactUptoSaid : Prop := trancheExactUptoRow.holds Try.pinned (OpenSpec.upto trancheExactSpec)

/-- 'falseworklaw16.TrancheSplits', WHERE WHAT IT READS IS OF BULK AT MOST 1048576: true; the input reads as it did. -/
def trancheSplitsUptoRow : OpenClaim := { program := "ythcimllkcaknhaa", sum := "b6027d15e44494ecfc0c37d17fbef4760b0cc198ea3381e353222c9f3be6d8f1", func := "falsework/falseworklaw16.TrancheSplits", spec := "trancheSplits", unfollowed := true, recurses := true, apart := false, narrowed := true }
def TrancheSplitsUptoSaid : Prop := trancheSplitsUptoRow.holds Try.pinned (OpenSpec.upto trancheSplitsSpec)

end Rows
end Go.Proofs.Ythcimllkcaknhaa
