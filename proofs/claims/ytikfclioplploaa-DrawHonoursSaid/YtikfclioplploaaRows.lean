/-
  No cell of these rows narrows 'for every input' (looked for: loops, veiled, ifaces, maps, wideKeys, modest, calm, conditions, laid).
  DERIVED. THE GIVEN ROWS OF THIS SEAT. 3 by the template 'for every input the law returns true; each argument reads behind the call as it read before'; 0 by the template 'total and deterministic' (their statements: YtikfclioplploaaTotals.lean).
  GIVEN WITH THE SEED: the statements are not yours to turn. If you find one false, say at which input.
  Laid BY PROGRAM, IN A SANDBOX (cutbox-rows.mjs): the forced cells as the released guide's own fill.sh prints them over the translation dcb18ea2e0691acc… (all of the seat's roots in one cut). By AI agents, Wed Nov 11 2026. No macro, syntax, notation, axiom, sorry.
-/
import Derived.Test.YtikfclioplploaaChecked
import GoSem.Claim
import GoSem.ClaimJoined
import GoSem.ClaimMapViews
import Derived.JoinedTies
import Derived.KernelRfl
namespace Go.Proofs.Ytikfclioplploaa
/- THE CELL 'sum', in the pinned program and in every row, IS THE sha256 OF THE DUMP (.gsa) THAT YtikfclioplploaaProg.lean LOADS. Nothing in Lean hashes anything: it is a label: what it is worth is what the hold of that sum in a sandbox is worth. -/
noncomputable def Try.pinned : Pinned := { name := "ytikfclioplploaa", sum := "dcb18ea2e0691acc2cdfce4081e438521b5a59d494c14c2115b800ea3118aff9", checked := Try.checked }
namespace Rows
def none {H : Type} : Left H := { results := [], args := [] }

/-- 'falseworklaw15.DrawNames': WHATEVER THE INPUT: true; the input reads as it did. -/
def drawNamesSpec : ChangeSpec := { name := "drawNames", fn := fun _ => fun
  | [] => { results := [.lit (.bool true)], args := [] }
  | _ => none }
def drawNamesRow : OpenClaim := { program := "ytikfclioplploaa", sum := "dcb18ea2e0691acc2cdfce4081e438521b5a59d494c14c2115b800ea3118aff9", func := "falsework/falseworklaw15.DrawNames", spec := "drawNames", inPlace := ["math/bits.Add64"], unfollowed := true, recurses := true, named := ["math/bits.divideError", "math/bits.overflowError"], apart := false }
def DrawNamesSaid : Prop := drawNamesRow.holds Try.pinned (OpenSpec.ofChange drawNamesSpec)

/-- ITS FALSE NEIGHBOUR: 'it returns false'. Refute it at one input. -/
def drawNamesWrong : ChangeSpec := { name := "drawNames", fn := fun _ => fun
  | [] => { results := [.lit (.bool false)], args := [] }
  | _ => none }
def DrawNamesWrongFalsely : Prop := drawNamesRow.holds Try.pinned (OpenSpec.ofChange drawNamesWrong)

/-- 'falseworklaw15.DrawRuns': WHATEVER THE INPUT: true; the input reads as it did. -/
def drawRunsSpec : ChangeSpec := { name := "drawRuns", fn := fun _ => fun
  | [d1, d2, d3] => { results := [.lit (.bool true)], args := [d1, d2, d3] }
  | _ => none }
def drawRunsRow : OpenClaim := { program := "ytikfclioplploaa", sum := "dcb18ea2e0691acc2cdfce4081e438521b5a59d494c14c2115b800ea3118aff9", func := "falsework/falseworklaw15.DrawRuns", spec := "drawRuns", inPlace := ["math/bits.Add64"], unfollowed := true, recurses := true, named := ["math/bits.divideError", "math/bits.overflowError"], apart := false }
def DrawRunsSaid : Prop := drawRunsRow.holds Try.pinned (OpenSpec.ofChange drawRunsSpec)

/-- ITS FALSE NEIGHBOUR: 'it returns false'. Refute it at one input. -/
def drawRunsWrong : ChangeSpec := { name := "drawRuns", fn := fun _ => fun
  | [d1, d2, d3] => { results := [.lit (.bool false)], args := [d1, d2, d3] }
  | _ => none }
def DrawRunsWrongFalsely : Prop := drawRunsRow.holds Try.pinned (OpenSpec.ofChange drawRunsWrong)

/-- 'falseworklaw15.DrawHonours': WHATEVER THE INPUT: true; the input reads as it did. -/
def drawHonoursSpec : ChangeSpec := { name := "drawHonours", fn := fun _ => fun
  | [d1, d2, d3] => { results := [.lit (.bool true)], args := [d1, d2, d3] }
  | _ => none }
def drawHonoursRow : OpenClaim := { program := "ytikfclioplploaa", sum := "dcb18ea2e0691acc2cdfce4081e438521b5a59d494c14c2115b800ea3118aff9", func := "falsework/falseworklaw15.DrawHonours", spec := "drawHonours", inPlace := ["math/bits.Add64"], unfollowed := true, recurses := true, named := ["math/bits.divideError", "math/bits.overflowError"], apart := false }
def DrawHonoursSaid : Prop := drawHonoursRow.holds Try.pinned (OpenSpec.ofChange drawHonoursSpec)

/-- ITS FALSE NEIGHBOUR: 'it returns false'. Refute it at one input. -/
def drawHonoursWrong : ChangeSpec := { name := "drawHonours", fn := fun _ => fun
  | [d1, d2, d3] => { results := [.lit (.bool false)], args := [d1, d2, d3] }
  | _ => none }
def DrawHonoursWrongFalsely : Prop := drawHonoursRow.holds Try.pinned (OpenSpec.ofChange drawHonoursWrong)

/- THE SECOND FORM. 'bulk': how many values and letters a reading holds, each counted each time it is reached (what is shared counts as often as it is met; a slice's spare places count too). A statement '..UptoSaid' is the law's where the arguments, and the package variables that the reading takes, are together of bulk at most 1048576: NARROWER than '..Said'. Prove '..Said' where nothing that the law and all that it calls make is longer than what came in: it says more and counts as full. Else prove '..UptoSaid'. A law counts once. -/
mutual
def uptoBulk {H : Type} : DataW H → Nat
  | .lit (.string bytes) => bytes.length + 1
  | .lit _ => 1
  | .nil => 1
  | .ptr d => uptoBulk d + 1
  | .slice elems spare => uptoBulkAll elems + uptoBulkAll spare + 1
  | .agg parts => uptoBulkAll parts + 1
  | .iface _ d => uptoBulk d + 1
  | .map entries => uptoBulkEntries entries + 1
  | .held _ => 1
def uptoBulkAll {H : Type} : List (DataW H) → Nat
  | [] => 0
  | d :: r => uptoBulk d + uptoBulkAll r
def uptoBulkEntries {H : Type} : List (Lit × DataW H) → Nat
  | [] => 0
  | x :: r => uptoBulkEntry x + uptoBulkEntries r
def uptoBulkEntry {H : Type} : Lit × DataW H → Nat
  | (.string bytes, d) => bytes.length + uptoBulk d + 1
  | (_, d) => uptoBulk d + 1
 end
def uptoSmall : (H : Type) → List (DataW H) → Bool := fun _ ds => decide (uptoBulkAll ds ≤ 1048576)
def OpenSpec.upto (s : _root_.Go.ChangeSpec) : _root_.Go.OpenSpec := { _root_.Go.OpenSpec.ofChange s with cond := some uptoSmall }

/-- 'falseworklaw15.DrawNames', WHERE WHAT IT READS IS OF BULK AT MOST 1048576: true; the input reads as it did. -/
def drawNamesUptoRow : OpenClaim := { program := "ytikfclioplploaa", sum := "dcb18ea2e0691acc2cdfce4081e438521b5a59d494c14c2115b800ea3118aff9", func := "falsework/falseworklaw15.DrawNames", spec := "drawNames", inPlace := ["math/bits.Add64"], unfollowed := true, recurses := true, named := ["math/bits.divideError", "math/bits.overflowError"], apart := false, narrowed := true }
def DrawNamesUptoSaid : Prop := drawNamesUptoRow.holds Try.pinned (OpenSpec.upto drawNamesSpec)

/-- 'falseworklaw15.DrawRuns', WHERE WHAT IT READS IS OF BULK AT MOST 1048576: true; the input reads as it did. -/
def drawRunsUptoRow : OpenClaim := { program := "ytikfclioplploaa", sum := "dcb18ea2e0691acc2cdfce4081e438521b5a59d494c14c2115b800ea3118aff9", func := "falsework/falseworklaw15.DrawRuns", spec := "drawRuns", inPlace := ["math/bits.Add64"], unfollowed := true, recurses := true, named := ["math/bits.divideError", "math/bits.overflowError"], apart := false, narrowed := true }
def DrawRunsUptoSaid : Prop := drawRunsUptoRow.holds Try.pinned (OpenSpec.upto drawRunsSpec)

/-- 'falseworklaw15.DrawHonours', WHERE WHAT IT READS IS OF BULK AT MOST 1048576: true; the input reads as it did. -/
def drawHonoursUptoRow : OpenClaim := { program := "ytikfclioplploaa", sum := "dcb18ea2e0691acc2cdfce4081e438521b5a59d494c14c2115b800ea3118aff9", func := "falsework/falseworklaw15.DrawHonours", spec := "drawHonours", inPlace := ["math/bits.Add64"], unfollowed := true, recurses := true, named := ["math/bits.divideError", "math/bits.overflowError"], apart := false, narrowed := true }
def DrawHonoursUptoSaid : Prop := drawHonoursUptoRow.holds Try.pinned (OpenSpec.upto drawHonoursSpec)

end Rows
end Go.Proofs.Ytikfclioplploaa
