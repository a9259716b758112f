/-
  No cell of these rows narrows 'for every input' (looked for: loops, veiled, ifaces, maps, wideKeys, modest, calm, conditions, laid).
  DERIVED. THE GIVEN ROWS OF THIS SEAT. 5 by the template 'for every input the law returns true; each argument reads behind the call as it read before'; 0 by the template 'total and deterministic' (their statements: YtdiejmokbmaejaaTotals.lean).
  GIVEN WITH THE SEED: the statements are not yours to turn. If you find one false, say at which input.
  Laid BY PROGRAM, IN A SANDBOX (cutbox-rows.mjs): the forced cells as the released guide's own fill.sh prints them over the translation 548bdee8fbee3354… (all of the seat's roots in one cut). By AI agents, Wed Nov 11 2026. No macro, syntax, notation, axiom, sorry.
-/
import Derived.Test.YtdiejmokbmaejaaChecked
import GoSem.Claim
import GoSem.ClaimJoined
import GoSem.ClaimMapViews
import Derived.JoinedTies
import Derived.KernelRfl
namespace Go.Proofs.Ytdiejmokbmaejaa
/- THE CELL 'sum', in the pinned program and in every row, IS THE sha256 OF THE DUMP (.gsa) THAT YtdiejmokbmaejaaProg.lean LOADS. Nothing in Lean hashes anything: it is a label: what it is worth is what the hold of that sum in a sandbox is worth. -/
noncomputable def Try.pinned : Pinned := { name := "ytdiejmokbmaejaa", sum := "548bdee8fbee3354b497ae334c2d7173ac8cfd8116035a6cfeb98a39503b619c", checked := Try.checked }
namespace Rows
def none {H : Type} : Left H := { results := [], args := [] }

/-- 'falseworklaw14.BudgetTells': WHATEVER THE INPUT: true; the input reads as it did. -/
def budgetTellsSpec : ChangeSpec := { name := "budgetTells", fn := fun _ => fun
  | [d1, d2] => { results := [.lit (.bool true)], args := [d1, d2] }
  | _ => none }
def budgetTellsRow : OpenClaim := { program := "ytdiejmokbmaejaa", sum := "548bdee8fbee3354b497ae334c2d7173ac8cfd8116035a6cfeb98a39503b619c", func := "falsework/falseworklaw14.BudgetTells", spec := "budgetTells", inPlace := ["math/bits.Add64"], unfollowed := true, recurses := true, named := ["math/bits.divideError", "math/bits.overflowError"], apart := false }
def BudgetTellsSaid : Prop := budgetTellsRow.holds Try.pinned (OpenSpec.ofChange budgetTellsSpec)

/-- ITS FALSE NEIGHBOUR: 'it returns false'. Refute it at one input. -/
def budgetTellsWrong : ChangeSpec := { name := "budgetTells", fn := fun _ => fun
  | [d1, d2] => { results := [.lit (.bool false)], args := [d1, d2] }
  | _ => none }
def BudgetTellsWrongFalsely : Prop := budgetTellsRow.holds Try.pinned (OpenSpec.ofChange budgetTellsWrong)

/-- 'falseworklaw14.BudgetBack': WHATEVER THE INPUT: true; the input reads as it did. -/
def budgetBackSpec : ChangeSpec := { name := "budgetBack", fn := fun _ => fun
  | [d1, d2, d3] => { results := [.lit (.bool true)], args := [d1, d2, d3] }
  | _ => none }
def budgetBackRow : OpenClaim := { program := "ytdiejmokbmaejaa", sum := "548bdee8fbee3354b497ae334c2d7173ac8cfd8116035a6cfeb98a39503b619c", func := "falsework/falseworklaw14.BudgetBack", spec := "budgetBack", inPlace := ["math/bits.Add64"], unfollowed := true, recurses := true, named := ["math/bits.divideError", "math/bits.overflowError"], apart := false }
def BudgetBackSaid : Prop := budgetBackRow.holds Try.pinned (OpenSpec.ofChange budgetBackSpec)

/-- ITS FALSE NEIGHBOUR: 'it returns false'. Refute it at one input. -/
def budgetBackWrong : ChangeSpec := { name := "budgetBack", fn := fun _ => fun
  | [d1, d2, d3] => { results := [.lit (.bool false)], args := [d1, d2, d3] }
  | _ => none }
def BudgetBackWrongFalsely : Prop := budgetBackRow.holds Try.pinned (OpenSpec.ofChange budgetBackWrong)

/-- 'falseworklaw14.BudgetNames': WHATEVER THE INPUT: true; the input reads as it did. -/
def budgetNamesSpec : ChangeSpec := { name := "budgetNames", fn := fun _ => fun
  | [] => { results := [.lit (.bool true)], args := [] }
  | _ => none }
def budgetNamesRow : OpenClaim := { program := "ytdiejmokbmaejaa", sum := "548bdee8fbee3354b497ae334c2d7173ac8cfd8116035a6cfeb98a39503b619c", func := "falsework/falseworklaw14.BudgetNames", spec := "budgetNames", inPlace := ["math/bits.Add64"], unfollowed := true, recurses := true, named := ["math/bits.divideError", "math/bits.overflowError"], apart := false }
def BudgetNamesSaid : Prop := budgetNamesRow.holds Try.pinned (OpenSpec.ofChange budgetNamesSpec)

/-- ITS FALSE NEIGHBOUR: 'it returns false'. Refute it at one input. -/
def budgetNamesWrong : ChangeSpec := { name := "budgetNames", fn := fun _ => fun
  | [] => { results := [.lit (.bool false)], args := [] }
  | _ => none }
def BudgetNamesWrongFalsely : Prop := budgetNamesRow.holds Try.pinned (OpenSpec.ofChange budgetNamesWrong)

/-- 'falseworklaw14.BudgetRuns': WHATEVER THE INPUT: true; the input reads as it did. -/
def budgetRunsSpec : ChangeSpec := { name := "budgetRuns", fn := fun _ => fun
  | [d1, d2] => { results := [.lit (.bool true)], args := [d1, d2] }
  | _ => none }
def budgetRunsRow : OpenClaim := { program := "ytdiejmokbmaejaa", sum := "548bdee8fbee3354b497ae334c2d7173ac8cfd8116035a6cfeb98a39503b619c", func := "falsework/falseworklaw14.BudgetRuns", spec := "budgetRuns", inPlace := ["math/bits.Add64"], unfollowed := true, recurses := true, named := ["math/bits.divideError", "math/bits.overflowError"], apart := false }
def BudgetRunsSaid : Prop := budgetRunsRow.holds Try.pinned (OpenSpec.ofChange budgetRunsSpec)

/-- ITS FALSE NEIGHBOUR: 'it returns false'. Refute it at one input. -/
def budgetRunsWrong : ChangeSpec := { name := "budgetRuns", fn := fun _ => fun
  | [d1, d2] => { results := [.lit (.bool false)], args := [d1, d2] }
  | _ => none }
def BudgetRunsWrongFalsely : Prop := budgetRunsRow.holds Try.pinned (OpenSpec.ofChange budgetRunsWrong)

/-- 'falseworklaw14.BudgetStays': WHATEVER THE INPUT: true; the input reads as it did. -/
def budgetStaysSpec : ChangeSpec := { name := "budgetStays", fn := fun _ => fun
  | [d1, d2] => { results := [.lit (.bool true)], args := [d1, d2] }
  | _ => none }
def budgetStaysRow : OpenClaim := { program := "ytdiejmokbmaejaa", sum := "548bdee8fbee3354b497ae334c2d7173ac8cfd8116035a6cfeb98a39503b619c", func := "falsework/falseworklaw14.BudgetStays", spec := "budgetStays", inPlace := ["math/bits.Add64"], unfollowed := true, recurses := true, named := ["math/bits.divideError", "math/bits.overflowError"], apart := false }
def BudgetStaysSaid : Prop := budgetStaysRow.holds Try.pinned (OpenSpec.ofChange budgetStaysSpec)

/-- ITS FALSE NEIGHBOUR: 'it returns false'. Refute it at one input. -/
def budgetStaysWrong : ChangeSpec := { name := "budgetStays", fn := fun _ => fun
  | [d1, d2] => { results := [.lit (.bool false)], args := [d1, d2] }
  | _ => none }
def BudgetStaysWrongFalsely : Prop := budgetStaysRow.holds Try.pinned (OpenSpec.ofChange budgetStaysWrong)

/- THE SECOND FORM. 'bulk': how many values and letters a reading holds, each counted each time it is reached (what is shared counts as often as it is met; a slice's spare places count too). A statement '..UptoSaid' is the law's where the arguments, and the package variables that the reading takes, are together of bulk at most 1048576: NARROWER than '..Said'. Prove '..Said' where nothing that the law and all that it calls make is longer than what came in: it says more and counts as full. Else prove '..UptoSaid'. A law counts once. -/
mutual
def uptoBulk {H : Type} : DataW H → Nat
  | .lit (.string bytes) => bytes.length + 1
  | .lit _ => 1
  | .nil => 1
  | .ptr d => uptoBulk d + 1
  | .slice elems spare => uptoBulkAll elems + uptoBulkAll spare + 1
  | .agg parts => uptoBulkAll parts + 1
  | .iface _ d => uptoBulk d + 1
  | .map entries => uptoBulkEntries entries + 1
  | .held _ => 1
def uptoBulkAll {H : Type} : List (DataW H) → Nat
  | [] => 0
  | d :: r => uptoBulk d + uptoBulkAll r
def uptoBulkEntries {H : Type} : List (Lit × DataW H) → Nat
  | [] => 0
  | x :: r => uptoBulkEntry x + uptoBulkEntries r
def uptoBulkEntry {H : Type} : Lit × DataW H → Nat
  | (.string bytes, d) => bytes.length + uptoBulk d + 1
  | (_, d) => uptoBulk d + 1
 end
def uptoSmall : (H : Type) → List (DataW H) → Bool := fun _ ds => decide (uptoBulkAll ds ≤ 1048576)
def OpenSpec.upto (s : _root_.Go.ChangeSpec) : _root_.Go.OpenSpec := { _root_.Go.OpenSpec.ofChange s with cond := some uptoSmall }

/-- 'falseworklaw14.BudgetTells', WHERE WHAT IT READS IS OF BULK AT MOST 1048576: true; the input reads as it did. -/
def budgetTellsUptoRow : OpenClaim := { program := "ytdiejmokbmaejaa", sum := "548bdee8fbee3354b497ae334c2d7173ac8cfd8116035a6cfeb98a39503b619c", func := "falsework/falseworklaw14.BudgetTells", spec := "budgetTells", inPlace := ["math/bits.Add64"], unfollowed := true, recurses := true, named := ["math/bits.divideError", "math/bits.overflowError"], apart := false, narrowed := true }
def BudgetTellsUptoSaid : Prop := budgetTellsUptoRow.holds Try.pinned (OpenSpec.upto budgetTellsSpec)

/-- 'falseworklaw14.BudgetBack', WHERE WHAT IT READS IS OF BULK AT MOST 1048576: true; the input reads as it did. -/
def budgetBackUptoRow : OpenClaim := { program := "ytdiejmokbmaejaa", sum := "548bdee8fbee3354b497ae334c2d7173ac8cfd8116035a6cfeb98a39503b619c", func := "falsework/falseworklaw14.BudgetBack", spec := "budgetBack", inPlace := ["math/bits.Add64"], unfollowed := true, recurses := true, named := ["math/bits.divideError", "math/bits.overflowError"], apart := false, narrowed := true }
def BudgetBackUptoSaid : Prop := budgetBackUptoRow.holds Try.pinned (OpenSpec.upto budgetBackSpec)

/-- 'falseworklaw14.BudgetNames', WHERE WHAT IT READS IS OF BULK AT MOST 1048576: true; the input reads as it did. -/
def budgetNamesUptoRow : OpenClaim := { program := "ytdiejmokbmaejaa", sum := "548bdee8fbee3354b497ae334c2d7173ac8cfd8116035a6cfeb98a39503b619c", func := "falsework/falseworklaw14.BudgetNames", spec := "budgetNames", inPlace := ["math/bits.Add64"], unfollowed := true, recurses := true, named := ["math/bits.divideError", "math/bits.overflowError"], apart := false, narrowed := true }
def BudgetNamesUptoSaid : Prop := budgetNamesUptoRow.holds Try.pinned (OpenSpec.upto budgetNamesSpec)

/-- 'falseworklaw14.BudgetRuns', WHERE WHAT IT READS IS OF BULK AT MOST 1048576: true; the input reads as it did. -/
def budgetRunsUptoRow : OpenClaim := { program := "ytdiejmokbmaejaa", sum := "548bdee8fbee3354b497ae334c2d7173ac8cfd8116035a6cfeb98a39503b619c", func := "falsework/falseworklaw14.BudgetRuns", spec := "budgetRuns", inPlace := ["math/bits.Add64"], unfollowed := true, recurses := true, named := ["math/bits.divideError", "math/bits.overflowError"], apart := false, narrowed := true }
def BudgetRunsUptoSaid : Prop := budgetRunsUptoRow.holds Try.pinned (OpenSpec.upto budgetRunsSpec)

/-- 'falseworklaw14.BudgetStays', WHERE WHAT IT READS IS OF BULK AT MOST 1048576: true; the input reads as it did. -/
def budgetStaysUptoRow : OpenClaim := { program := "ytdiejmokbmaejaa", sum := "548bdee8fbee3354b497ae334c2d7173ac8cfd8116035a6cfeb98a39503b619c", func := "falsework/falseworklaw14.BudgetStays", spec := "budgetStays", inPlace := ["math/bits.Add64"], unfollowed := true, recurses := true, named := ["math/bits.divideError", "math/bits.overflowError"], apart := false, narrowed := true }
def BudgetStaysUptoSaid : Prop := budgetStaysUptoRow.holds Try.pinned (OpenSpec.upto budgetStaysSpec)

end Rows
end Go.Proofs.Ytdiejmokbmaejaa
