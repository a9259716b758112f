/-
  No cell of these rows narrows 'for every input' (looked for: loops, veiled, ifaces, maps, wideKeys, modest, calm, conditions, laid).
  DERIVED. THE GIVEN ROWS OF THIS SEAT. 7 by the template 'for every input the law returns true; each argument reads behind the call as it read before'; 0 by the template 'total and deterministic' (their statements: YtlbnednpagddaaaTotals.lean).
  GIVEN WITH THE SEED: the statements are not yours to turn. If you find one false, say at which input.
  Laid BY PROGRAM, IN A SANDBOX (cutbox-rows.mjs): the forced cells as the released guide's own fill.sh prints them over the translation 123cf96295f150fe… (all of the seat's roots in one cut). By AI agents, Wed Nov 11 2026. No macro, syntax, notation, axiom, sorry.
-/
import Derived.Test.YtlbnednpagddaaaChecked
import GoSem.Claim
import GoSem.ClaimJoined
import GoSem.ClaimMapViews
import Derived.JoinedTies
import Derived.KernelRfl
namespace Go.Proofs.Ytlbnednpagddaaa
/- THE CELL 'sum', in the pinned program and in every row, IS THE sha256 OF THE DUMP (.gsa) THAT YtlbnednpagddaaaProg.lean LOADS. Nothing in Lean hashes anything: it is a label: what it is worth is what the hold of that sum in a sandbox is worth. -/
noncomputable def Try.pinned : Pinned := { name := "ytlbnednpagddaaa", sum := "123cf96295f150fe4cdb595d72276202b8e7ee0e7d0a0eee0d14c5723887779e", checked := Try.checked }
namespace Rows
def none {H : Type} : Left H := { results := [], args := [] }

/-- 'falseworklaw17.DueSplits': WHATEVER THE INPUT: true; the input reads as it did. -/
def dueSplitsSpec : ChangeSpec := { name := "dueSplits", fn := fun _ => fun
  | [d1, d2] => { results := [.lit (.bool true)], args := [d1, d2] }
  | _ => none }
def dueSplitsRow : OpenClaim := { program := "ytlbnednpagddaaa", sum := "123cf96295f150fe4cdb595d72276202b8e7ee0e7d0a0eee0d14c5723887779e", func := "falsework/falseworklaw17.DueSplits", spec := "dueSplits", apart := false }
def DueSplitsSaid : Prop := dueSplitsRow.holds Try.pinned (OpenSpec.ofChange dueSplitsSpec)

/-- ITS FALSE NEIGHBOUR: 'it returns false'. Refute it at one input. -/
def dueSplitsWrong : ChangeSpec := { name := "dueSplits", fn := fun _ => fun
  | [d1, d2] => { results := [.lit (.bool false)], args := [d1, d2] }
  | _ => none }
def DueSplitsWrongFalsely : Prop := dueSplitsRow.holds Try.pinned (OpenSpec.ofChange dueSplitsWrong)

/-- 'falseworklaw17.DueOrder': WHATEVER THE INPUT: true; the input reads as it did. -/
def dueOrderSpec : ChangeSpec := { name := "dueOrder", fn := fun _ => fun
  | [d1, d2, d3] => { results := [.lit (.bool true)], args := [d1, d2, d3] }
  | _ => none }
def dueOrderRow : OpenClaim := { program := "ytlbnednpagddaaa", sum := "123cf96295f150fe4cdb595d72276202b8e7ee0e7d0a0eee0d14c5723887779e", func := "falsework/falseworklaw17.DueOrder", spec := "dueOrder", apart := false }
def DueOrderSaid : Prop := dueOrderRow.holds Try.pinned (OpenSpec.ofChange dueOrderSpec)

/-- ITS FALSE NEIGHBOUR: 'it returns false'. Refute it at one input. -/
def dueOrderWrong : ChangeSpec := { name := "dueOrder", fn := fun _ => fun
  | [d1, d2, d3] => { results := [.lit (.bool false)], args := [d1, d2, d3] }
  | _ => none }
def DueOrderWrongFalsely : Prop := dueOrderRow.holds Try.pinned (OpenSpec.ofChange dueOrderWrong)

/-- 'falseworklaw17.DueReserve': WHATEVER THE INPUT: true; the input reads as it did. -/
def dueReserveSpec : ChangeSpec := { name := "dueReserve", fn := fun _ => fun
  | [d1, d2, d3] => { results := [.lit (.bool true)], args := [d1, d2, d3] }
  | _ => none }
def dueReserveRow : OpenClaim := { program := "ytlbnednpagddaaa", sum := "123cf96295f150fe4cdb595d72276202b8e7ee0e7d0a0eee0d14c5723887779e", func := "falsework/falseworklaw17.DueReserve", spec := "dueReserve", apart := false }
def DueReserveSaid : Prop := dueReserveRow.holds Try.pinned (OpenSpec.ofChange dueReserveSpec)

/-- ITS FALSE NEIGHBOUR: 'it returns false'. Refute it at one input. -/
def dueReserveWrong : ChangeSpec := { name := "dueReserve", fn := fun _ => fun
  | [d1, d2, d3] => { results := [.lit (.bool false)], args := [d1, d2, d3] }
  | _ => none }
def DueReserveWrongFalsely : Prop := dueReserveRow.holds Try.pinned (OpenSpec.ofChange dueReserveWrong)

/-- 'falseworklaw17.DueBills': WHATEVER THE INPUT: true; the input reads as it did. -/
def dueBillsSpec : ChangeSpec := { name := "dueBills", fn := fun _ => fun
  | [d1, d2] => { results := [.lit (.bool true)], args := [d1, d2] }
  | _ => none }
def dueBillsRow : OpenClaim := { program := "ytlbnednpagddaaa", sum := "123cf96295f150fe4cdb595d72276202b8e7ee0e7d0a0eee0d14c5723887779e", func := "falsework/falseworklaw17.DueBills", spec := "dueBills", apart := false }
def DueBillsSaid : Prop := dueBillsRow.holds Try.pinned (OpenSpec.ofChange dueBillsSpec)

/-- ITS FALSE NEIGHBOUR: 'it returns false'. Refute it at one input. -/
def dueBillsWrong : ChangeSpec := { name := "dueBills", fn := fun _ => fun
  | [d1, d2] => { results := [.lit (.bool false)], args := [d1, d2] }
  | _ => none }
def DueBillsWrongFalsely : Prop := dueBillsRow.holds Try.pinned (OpenSpec.ofChange dueBillsWrong)

/-- 'falseworklaw17.DueUnused': WHATEVER THE INPUT: true; the input reads as it did. -/
def dueUnusedSpec : ChangeSpec := { name := "dueUnused", fn := fun _ => fun
  | [d1, d2] => { results := [.lit (.bool true)], args := [d1, d2] }
  | _ => none }
def dueUnusedRow : OpenClaim := { program := "ytlbnednpagddaaa", sum := "123cf96295f150fe4cdb595d72276202b8e7ee0e7d0a0eee0d14c5723887779e", func := "falsework/falseworklaw17.DueUnused", spec := "dueUnused", apart := false }
def DueUnusedSaid : Prop := dueUnusedRow.holds Try.pinned (OpenSpec.ofChange dueUnusedSpec)

/-- ITS FALSE NEIGHBOUR: 'it returns false'. Refute it at one input. -/
def dueUnusedWrong : ChangeSpec := { name := "dueUnused", fn := fun _ => fun
  | [d1, d2] => { results := [.lit (.bool false)], args := [d1, d2] }
  | _ => none }
def DueUnusedWrongFalsely : Prop := dueUnusedRow.holds Try.pinned (OpenSpec.ofChange dueUnusedWrong)

/-- 'falseworklaw17.DueCharges': WHATEVER THE INPUT: true; the input reads as it did. -/
def dueChargesSpec : ChangeSpec := { name := "dueCharges", fn := fun _ => fun
  | [d1, d2] => { results := [.lit (.bool true)], args := [d1, d2] }
  | _ => none }
def dueChargesRow : OpenClaim := { program := "ytlbnednpagddaaa", sum := "123cf96295f150fe4cdb595d72276202b8e7ee0e7d0a0eee0d14c5723887779e", func := "falsework/falseworklaw17.DueCharges", spec := "dueCharges", inPlace := ["math/bits.Add64"], named := ["math/bits.divideError", "math/bits.overflowError"], apart := false }
def DueChargesSaid : Prop := dueChargesRow.holds Try.pinned (OpenSpec.ofChange dueChargesSpec)

/-- ITS FALSE NEIGHBOUR: 'it returns false'. Refute it at one input. -/
def dueChargesWrong : ChangeSpec := { name := "dueCharges", fn := fun _ => fun
  | [d1, d2] => { results := [.lit (.bool false)], args := [d1, d2] }
  | _ => none }
def DueChargesWrongFalsely : Prop := dueChargesRow.holds Try.pinned (OpenSpec.ofChange dueChargesWrong)

/-- 'falseworklaw17.DueNames': WHATEVER THE INPUT: true; the input reads as it did. -/
def dueNamesSpec : ChangeSpec := { name := "dueNames", fn := fun _ => fun
  | [] => { results := [.lit (.bool true)], args := [] }
  | _ => none }
def dueNamesRow : OpenClaim := { program := "ytlbnednpagddaaa", sum := "123cf96295f150fe4cdb595d72276202b8e7ee0e7d0a0eee0d14c5723887779e", func := "falsework/falseworklaw17.DueNames", spec := "dueNames", inPlace := ["math/bits.Add64"], named := ["math/bits.divideError", "math/bits.overflowError"], apart := false }
def DueNamesSaid : Prop := dueNamesRow.holds Try.pinned (OpenSpec.ofChange dueNamesSpec)

/-- ITS FALSE NEIGHBOUR: 'it returns false'. Refute it at one input. -/
def dueNamesWrong : ChangeSpec := { name := "dueNames", fn := fun _ => fun
  | [] => { results := [.lit (.bool false)], args := [] }
  | _ => none }
def DueNamesWrongFalsely : Prop := dueNamesRow.holds Try.pinned (OpenSpec.ofChange dueNamesWrong)

/- THE SECOND FORM. 'bulk': how many values and letters a reading holds, each counted each time it is reached (what is shared counts as often as it is met; a slice's spare places count too). A statement '..UptoSaid' is the law's where the arguments, and the package variables that the reading takes, are together of bulk at most 1048576: NARROWER than '..Said'. Prove '..Said' where nothing that the law and all that it calls make is longer than what came in: it says more and counts as full. Else prove '..UptoSaid'. A law counts once. -/
mutual
def uptoBulk {H : Type} : DataW H → Nat
  | .lit (.string bytes) => bytes.length + 1
  | .lit _ => 1
  | .nil => 1
  | .ptr d => uptoBulk d + 1
  | .slice elems spare => uptoBulkAll elems + uptoBulkAll spare + 1
  | .agg parts => uptoBulkAll parts + 1
  | .iface _ d => uptoBulk d + 1
  | .map entries => uptoBulkEntries entries + 1
  | .held _ => 1
def uptoBulkAll {H : Type} : List (DataW H) → Nat
  | [] => 0
  | d :: r => uptoBulk d + uptoBulkAll r
def uptoBulkEntries {H : Type} : List (Lit × DataW H) → Nat
  | [] => 0
  | x :: r => uptoBulkEntry x + uptoBulkEntries r
def uptoBulkEntry {H : Type} : Lit × DataW H → Nat
  | (.string bytes, d) => bytes.length + uptoBulk d + 1
  | (_, d) => uptoBulk d + 1
 end
def uptoSmall : (H : Type) → List (DataW H) → Bool := fun _ ds => decide (uptoBulkAll ds ≤ 1048576)
def OpenSpec.upto (s : _root_.Go.ChangeSpec) : _root_.Go.OpenSpec := { _root_.Go.OpenSpec.ofChange s with cond := some uptoSmall }

/-- 'falseworklaw17.DueSplits', WHERE WHAT IT READS IS OF BULK AT MOST 1048576: true; the input reads as it did. -/
def dueSplitsUptoRow : OpenClaim := { program := "ytlbnednpagddaaa", sum := "123cf96295f150fe4cdb595d72276202b8e7ee0e7d0a0eee0d14c5723887779e", func := "falsework/falseworklaw17.DueSplits", spec := "dueSplits", apart := false, narrowed := true }
def DueSplitsUptoSaid : Prop := dueSplitsUptoRow.holds Try.pinned (OpenSpec.upto dueSplitsSpec)

/-- 'falseworklaw17.DueOrder', WHERE WHAT IT READS IS OF BULK AT MOST 1048576: true; the input reads as it did. -/
def dueOrderUptoRow : OpenClaim := { program := "ytlbnednpagddaaa", sum := "123cf96295f150fe4cdb595d72276202b8e7ee0e7d0a0eee0d14c5723887779e", func := "falsework/falseworklaw17.DueOrder", spec := "dueOrder", apart := false, narrowed := true }
def DueOrderUptoSaid : Prop := dueOrderUptoRow.holds Try.pinned (OpenSpec.upto dueOrderSpec)

/-- 'falseworklaw17.DueReserve', WHERE WHAT IT READS IS OF BULK AT MOST 1048576: true; the input reads as it did. -/
def dueReserveUptoRow : OpenClaim := { program := "ytlbnednpagddaaa", sum := "123cf96295f150fe4cdb595d72276202b8e7ee0e7d0a0eee0d14c5723887779e", func := "falsework/falseworklaw17.DueReserve", spec := "dueReserve", apart := false, narrowed := true }
def DueReserveUptoSaid : Prop := dueReserveUptoRow.holds Try.pinned (OpenSpec.upto dueReserveSpec)

/-- 'falseworklaw17.DueBills', WHERE WHAT IT READS IS OF BULK AT MOST 1048576: true; the input reads as it did. -/
def dueBillsUptoRow : OpenClaim := { program := "ytlbnednpagddaaa", sum := "123cf96295f150fe4cdb595d72276202b8e7ee0e7d0a0eee0d14c5723887779e", func := "falsework/falseworklaw17.DueBills", spec := "dueBills", apart := false, narrowed := true }
def DueBillsUptoSaid : Prop := dueBillsUptoRow.holds Try.pinned (OpenSpec.upto dueBillsSpec)

/-- 'falseworklaw17.DueUnused', WHERE WHAT IT READS IS OF BULK AT MOST 1048576: true; the input reads as it did. -/
def dueUnusedUptoRow : OpenClaim := { program := "ytlbnednpagddaaa", sum := "123cf96295f150fe4cdb595d72276202b8e7ee0e7d0a0eee0d14c5723887779e", func := "falsework/falseworklaw17.DueUnused", spec := "dueUnused", apart := false, narrowed := true }
def DueUnusedUptoSaid : Prop := dueUnusedUptoRow.holds Try.pinned (OpenSpec.upto dueUnusedSpec)

/-- 'falseworklaw17.DueCharges', WHERE WHAT IT READS IS OF BULK AT MOST 1048576: true; the input reads as it did. -/
def dueChargesUptoRow : OpenClaim := { program := "ytlbnednpagddaaa", sum := "123cf96295f150fe4cdb595d72276202b8e7ee0e7d0a0eee0d14c5723887779e", func := "falsework/falseworklaw17.DueCharges", spec := "dueCharges", inPlace := ["math/bits.Add64"], named := ["math/bits.divideError", "math/bits.overflowError"], apart := false, narrowed := true }
def DueChargesUptoSaid : Prop := dueChargesUptoRow.holds Try.pinned (OpenSpec.upto dueChargesSpec)

/-- 'falseworklaw17.DueNames', WHERE WHAT IT READS IS OF BULK AT MOST 1048576: true; the input reads as it did. -/
def dueNamesUptoRow : OpenClaim := { program := "ytlbnednpagddaaa", sum := "123cf96295f150fe4cdb595d72276202b8e7ee0e7d0a0eee0d14c5723887779e", func := "falsework/falseworklaw17.DueNames", spec := "dueNames", inPlace := ["math/bits.Add64"], named := ["math/bits.divideError", "math/bits.overflowError"], apart := false, narrowed := true }
def DueNamesUptoSaid : Prop := dueNamesUptoRow.holds Try.pinned (OpenSpec.upto dueNamesSpec)

end Rows
end Go.Proofs.Ytlbnednpagddaaa
