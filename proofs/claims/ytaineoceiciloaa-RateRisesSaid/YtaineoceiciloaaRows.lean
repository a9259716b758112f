/-
  No cell of these rows narrows 'for every input' (looked for: loops, veiled, ifaces, maps, wideKeys, modest, calm, conditions, laid).
  DERIVED. THE GIVEN ROWS OF THIS SEAT. 6 by the template 'for every input the law returns true; each argument reads behind the call as it read before'; 0 by the template 'total and deterministic' (their statements: YtaineoceiciloaaTotals.lean).
  GIVEN WITH THE SEED: the statements are not yours to turn. If you find one false, say at which input.
  Laid BY PROGRAM, IN A SANDBOX (cutbox-rows.mjs): the forced cells as the released guide's own fill.sh prints them over the translation 1a781c21d079d5ee… (all of the seat's roots in one cut). By AI agents, Wed Nov 11 2026. No macro, syntax, notation, axiom, sorry.
-/
import Derived.Test.YtaineoceiciloaaChecked
import GoSem.Claim
import GoSem.ClaimJoined
import GoSem.ClaimMapViews
import Derived.JoinedTies
import Derived.KernelRfl
namespace Go.Proofs.Ytaineoceiciloaa
/- THE CELL 'sum', in the pinned program and in every row, IS THE sha256 OF THE DUMP (.gsa) THAT YtaineoceiciloaaProg.lean LOADS. Nothing in Lean hashes anything: it is a label: what it is worth is what the hold of that sum in a sandbox is worth. -/
noncomputable def Try.pinned : Pinned := { name := "ytaineoceiciloaa", sum := "1a781c21d079d5ee3838d4ee7b2228ff39784ef5760216128a606666dd5a5d97", checked := Try.checked }
namespace Rows
def none {H : Type} : Left H := { results := [], args := [] }

/-- 'falseworklaw05.RateTells': WHATEVER THE INPUT: true; the input reads as it did. -/
def rateTellsSpec : ChangeSpec := { name := "rateTells", fn := fun _ => fun
  | [d1, d2, d3] => { results := [.lit (.bool true)], args := [d1, d2, d3] }
  | _ => none }
def rateTellsRow : OpenClaim := { program := "ytaineoceiciloaa", sum := "1a781c21d079d5ee3838d4ee7b2228ff39784ef5760216128a606666dd5a5d97", func := "falsework/falseworklaw05.RateTells", spec := "rateTells", inPlace := ["math.Float64bits"], unfollowed := true, recurses := true, apart := false }
def RateTellsSaid : Prop := rateTellsRow.holds Try.pinned (OpenSpec.ofChange rateTellsSpec)

/-- ITS FALSE NEIGHBOUR: 'it returns false'. Refute it at one input. -/
def rateTellsWrong : ChangeSpec := { name := "rateTells", fn := fun _ => fun
  | [d1, d2, d3] => { results := [.lit (.bool false)], args := [d1, d2, d3] }
  | _ => none }
def RateTellsWrongFalsely : Prop := rateTellsRow.holds Try.pinned (OpenSpec.ofChange rateTellsWrong)

/-- 'falseworklaw05.RateRises': WHATEVER THE INPUT: true; the input reads as it did. -/
def rateRisesSpec : ChangeSpec := { name := "rateRises", fn := fun _ => fun
  | [d1, d2] => { results := [.lit (.bool true)], args := [d1, d2] }
  | _ => none }
def rateRisesRow : OpenClaim := { program := "ytaineoceiciloaa", sum := "1a781c21d079d5ee3838d4ee7b2228ff39784ef5760216128a606666dd5a5d97", func := "falsework/falseworklaw05.RateRises", spec := "rateRises", inPlace := ["math.Float64bits", "math.Float64frombits"], unfollowed := true, recurses := true, apart := false }
def RateRisesSaid : Prop := rateRisesRow.holds Try.pinned (OpenSpec.ofChange rateRisesSpec)

/-- ITS FALSE NEIGHBOUR: 'it returns false'. Refute it at one input. -/
def rateRisesWrong : ChangeSpec := { name := "rateRises", fn := fun _ => fun
  | [d1, d2] => { results := [.lit (.bool false)], args := [d1, d2] }
  | _ => none }
def RateRisesWrongFalsely : Prop := rateRisesRow.holds Try.pinned (OpenSpec.ofChange rateRisesWrong)

/-- 'falseworklaw05.RatePoints': WHATEVER THE INPUT: true; the input reads as it did. -/
def ratePointsSpec : ChangeSpec := { name := "ratePoints", fn := fun _ => fun
  | [d1, d2] => { results := [.lit (.bool true)], args := [d1, d2] }
  | _ => none }
def ratePointsRow : OpenClaim := { program := "ytaineoceiciloaa", sum := "1a781c21d079d5ee3838d4ee7b2228ff39784ef5760216128a606666dd5a5d97", func := "falsework/falseworklaw05.RatePoints", spec := "ratePoints", inPlace := ["math.Float64bits", "math.Float64frombits"], unfollowed := true, recurses := true, apart := false }
def RatePointsSaid : Prop := ratePointsRow.holds Try.pinned (OpenSpec.ofChange ratePointsSpec)

/-- ITS FALSE NEIGHBOUR: 'it returns false'. Refute it at one input. -/
def ratePointsWrong : ChangeSpec := { name := "ratePoints", fn := fun _ => fun
  | [d1, d2] => { results := [.lit (.bool false)], args := [d1, d2] }
  | _ => none }
def RatePointsWrongFalsely : Prop := ratePointsRow.holds Try.pinned (OpenSpec.ofChange ratePointsWrong)

/-- 'falseworklaw05.RateTables': WHATEVER THE INPUT: true; the input reads as it did. -/
def rateTablesSpec : ChangeSpec := { name := "rateTables", fn := fun _ => fun
  | [d1, d2, d3] => { results := [.lit (.bool true)], args := [d1, d2, d3] }
  | _ => none }
def rateTablesRow : OpenClaim := { program := "ytaineoceiciloaa", sum := "1a781c21d079d5ee3838d4ee7b2228ff39784ef5760216128a606666dd5a5d97", func := "falsework/falseworklaw05.RateTables", spec := "rateTables", inPlace := ["math.Float64bits"], unfollowed := true, recurses := true, apart := false }
def RateTablesSaid : Prop := rateTablesRow.holds Try.pinned (OpenSpec.ofChange rateTablesSpec)

/-- ITS FALSE NEIGHBOUR: 'it returns false'. Refute it at one input. -/
def rateTablesWrong : ChangeSpec := { name := "rateTables", fn := fun _ => fun
  | [d1, d2, d3] => { results := [.lit (.bool false)], args := [d1, d2, d3] }
  | _ => none }
def RateTablesWrongFalsely : Prop := rateTablesRow.holds Try.pinned (OpenSpec.ofChange rateTablesWrong)

/-- 'falseworklaw05.RateBounds': WHATEVER THE INPUT: true; the input reads as it did. -/
def rateBoundsSpec : ChangeSpec := { name := "rateBounds", fn := fun _ => fun
  | [d1, d2, d3] => { results := [.lit (.bool true)], args := [d1, d2, d3] }
  | _ => none }
def rateBoundsRow : OpenClaim := { program := "ytaineoceiciloaa", sum := "1a781c21d079d5ee3838d4ee7b2228ff39784ef5760216128a606666dd5a5d97", func := "falsework/falseworklaw05.RateBounds", spec := "rateBounds", inPlace := ["math.Float64bits"], unfollowed := true, recurses := true, apart := false }
def RateBoundsSaid : Prop := rateBoundsRow.holds Try.pinned (OpenSpec.ofChange rateBoundsSpec)

/-- ITS FALSE NEIGHBOUR: 'it returns false'. Refute it at one input. -/
def rateBoundsWrong : ChangeSpec := { name := "rateBounds", fn := fun _ => fun
  | [d1, d2, d3] => { results := [.lit (.bool false)], args := [d1, d2, d3] }
  | _ => none }
def RateBoundsWrongFalsely : Prop := rateBoundsRow.holds Try.pinned (OpenSpec.ofChange rateBoundsWrong)

/-- 'falseworklaw05.RateNames': WHATEVER THE INPUT: true; the input reads as it did. -/
def rateNamesSpec : ChangeSpec := { name := "rateNames", fn := fun _ => fun
  | [] => { results := [.lit (.bool true)], args := [] }
  | _ => none }
def rateNamesRow : OpenClaim := { program := "ytaineoceiciloaa", sum := "1a781c21d079d5ee3838d4ee7b2228ff39784ef5760216128a606666dd5a5d97", func := "falsework/falseworklaw05.RateNames", spec := "rateNames", inPlace := ["math.Float64bits", "math.Float64frombits"], unfollowed := true, recurses := true, apart := false }
def RateNamesSaid : Prop := rateNamesRow.holds Try.pinned (OpenSpec.ofChange rateNamesSpec)

/-- ITS FALSE NEIGHBOUR: 'it returns false'. Refute it at one input. -/
def rateNamesWrong : ChangeSpec := { name := "rateNames", fn := fun _ => fun
  | [] => { results := [.lit (.bool false)], args := [] }
  | _ => none }
def RateNamesWrongFalsely : Prop := rateNamesRow.holds Try.pinned (OpenSpec.ofChange rateNamesWrong)

/- THE SECOND FORM. 'bulk': how many values and letters a reading holds, each counted each time it is reached (what is shared counts as often as it is met; a slice's spare places count too). A statement '..UptoSaid' is the law's where the arguments, and the package variables that the reading takes, are together of bulk at most 1048576: NARROWER than '..Said'. Prove '..Said' where nothing that the law and all that it calls make is longer than what came in: it says more and counts as full. Else prove '..UptoSaid'. A law counts once. -/
mutual
def uptoBulk {H : Type} : DataW H → Nat
  | .lit (.string bytes) => bytes.length + 1
  | .lit _ => 1
  | .nil => 1
  | .ptr d => uptoBulk d + 1
  | .slice elems spare => uptoBulkAll elems + uptoBulkAll spare + 1
  | .agg parts => uptoBulkAll parts + 1
  | .iface _ d => uptoBulk d + 1
  | .map entries => uptoBulkEntries entries + 1
  | .held _ => 1
def uptoBulkAll {H : Type} : List (DataW H) → Nat
  | [] => 0
  | d :: r => uptoBulk d + uptoBulkAll r
def uptoBulkEntries {H : Type} : List (Lit × DataW H) → Nat
  | [] => 0
  | x :: r => uptoBulkEntry x + uptoBulkEntries r
def uptoBulkEntry {H : Type} : Lit × DataW H → Nat
  | (.string bytes, d) => bytes.length + uptoBulk d + 1
  | (_, d) => uptoBulk d + 1
 end
def uptoSmall : (H : Type) → List (DataW H) → Bool := fun _ ds => decide (uptoBulkAll ds ≤ 1048576)
def OpenSpec.upto (s : _root_.Go.ChangeSpec) : _root_.Go.OpenSpec := { _root_.Go.OpenSpec.ofChange s with cond := some uptoSmall }

/-- 'falseworklaw05.RateTells', WHERE WHAT IT READS IS OF BULK AT MOST 1048576: true; the input reads as it did. -/
def rateTellsUptoRow : OpenClaim := { program := "ytaineoceiciloaa", sum := "1a781c21d079d5ee3838d4ee7b2228ff39784ef5760216128a606666dd5a5d97", func := "falsework/falseworklaw05.RateTells", spec := "rateTells", inPlace := ["math.Float64bits"], unfollowed := true, recurses := true, apart := false, narrowed := true }
def RateTellsUptoSaid : Prop := rateTellsUptoRow.holds Try.pinned (OpenSpec.upto rateTellsSpec)

/-- 'falseworklaw05.RateRises', WHERE WHAT IT READS IS OF BULK AT MOST 1048576: true; the input reads as it did. -/
def rateRisesUptoRow : OpenClaim := { program := "ytaineoceiciloaa", sum := "1a781c21d079d5ee3838d4ee7b2228ff39784ef5760216128a606666dd5a5d97", func := "falsework/falseworklaw05.RateRises", spec := "rateRises", inPlace := ["math.Float64bits", "math.Float64frombits"], unfollowed := true, recurses := true, apart := false, narrowed := true }
def RateRisesUptoSaid : Prop := rateRisesUptoRow.holds Try.pinned (OpenSpec.upto rateRisesSpec)

/-- 'falseworklaw05.RatePoints', WHERE WHAT IT READS IS OF BULK AT MOST 1048576: true; the input reads as it did. -/
def ratePointsUptoRow : OpenClaim := { program := "ytaineoceiciloaa", sum := "1a781c21d079d5ee3838d4ee7b2228ff39784ef5760216128a606666dd5a5d97", func := "falsework/falseworklaw05.RatePoints", spec := "ratePoints", inPlace := ["math.Float64bits", "math.Float64frombits"], unfollowed := true, recurses := true, apart := false, narrowed := true }
def RatePointsUptoSaid : Prop := ratePointsUptoRow.holds Try.pinned (OpenSpec.upto ratePointsSpec)

/-- 'falseworklaw05.RateTables', WHERE WHAT IT READS IS OF BULK AT MOST 1048576: true; the input reads as it did. -/
def rateTablesUptoRow : OpenClaim := { program := "ytaineoceiciloaa", sum := "1a781c21d079d5ee3838d4ee7b2228ff39784ef5760216128a606666dd5a5d97", func := "falsework/falseworklaw05.RateTables", spec := "rateTables", inPlace := ["math.Float64bits"], unfollowed := true, recurses := true, apart := false, narrowed := true }
def RateTablesUptoSaid : Prop := rateTablesUptoRow.holds Try.pinned (OpenSpec.upto rateTablesSpec)

/-- 'falseworklaw05.RateBounds', WHERE WHAT IT READS IS OF BULK AT MOST 1048576: true; the input reads as it did. -/
def rateBoundsUptoRow : OpenClaim := { program := "ytaineoceiciloaa", sum := "1a781c21d079d5ee3838d4ee7b2228ff39784ef5760216128a606666dd5a5d97", func := "falsework/falseworklaw05.RateBounds", spec := "rateBounds", inPlace := ["math.Float64bits"], unfollowed := true, recurses := true, apart := false, narrowed := true }
def RateBoundsUptoSaid : Prop := rateBoundsUptoRow.holds Try.pinned (OpenSpec.upto rateBoundsSpec)

/-- 'falseworklaw05.RateNames', WHERE WHAT IT READS IS OF BULK AT MOST 1048576: true; the input reads as it did. -/
def rateNamesUptoRow : OpenClaim := { program := "ytaineoceiciloaa", sum := "1a781c21d079d5ee3838d4ee7b2228ff39784ef5760216128a606666dd5a5d97", func := "falsework/falseworklaw05.RateNames", spec := "rateNames", inPlace := ["math.Float64bits", "math.Float64frombits"], unfollowed := true, recurses := true, apart := false, narrowed := true }
def RateNamesUptoSaid : Prop := rateNamesUptoRow.holds Try.pinned (OpenSpec.upto rateNamesSpec)

end Rows
end Go.Proofs.Ytaineoceiciloaa
