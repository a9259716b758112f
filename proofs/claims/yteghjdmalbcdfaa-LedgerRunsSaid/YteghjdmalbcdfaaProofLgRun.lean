/-
  LedgerRuns, proved: whatever is posted and taken back, all answers, all entries, all balances are as the document has them; no condition.
-/
import Derived.Test.YteghjdmalbcdfaaProofKit
import Derived.Test.YteghjdmalbcdfaaProofRec
import Derived.Test.YteghjdmalbcdfaaProofActs
import Derived.Test.YteghjdmalbcdfaaLgRun
set_option linter.unusedVariables false
set_option linter.unusedSimpArgs false
namespace Go.Proofs.Yteghjdmalbcdfaa
open Go.ChangeShapes Go.WideShapes Go.ChangeAt Go.RowKit

set_option maxRecDepth 100000 in
theorem ledgerRuns_lifted (os : Os) (started : os.Started) (H : Type) (enc : TypeId × Value → H) :
    ReturnsInHanded {} Try.checked os 6 .any (Rows.ledgerRunsSpec.pre6 enc Try.prog Try.f6 Rows.ledgerRunsRow.domain false) (Rows.ledgerRunsSpec.post enc Try.prog Try.f6 false true false false) := by
  refine returnsInHanded_of_change (C := Try.checked) ownK started (by kernel_rfl) Try.func6
    (ChangeSpec.witness6 (enc := enc) (C := Try.checked) false ⟨#[], #[.slice none 0 0], []⟩ 8 (by kernel_rfl) (by kernel_rfl) (by kernel_rfl) (by kernel_rfl)) ?_
  intro W base args ds gs before hval0 hW hcnd _
  have hval : ∀ (j : Nat) t v, Try.f6.params[j]? = some t → args[j]? = some v → Value.okWide Try.prog W .any base t v := hval0
  have hW' := hW
  obtain ⟨p, q, hA0, hV, rfl, hfz, hnd⟩ := hW
  have hA : DataW.TrodAll enc Try.prog W 0 (fun _ => true) true Try.f6.params.toList args.toList ds p := hA0
  rw [Try.params6] at hA hval
  obtain ⟨v0, d0, rfl, rfl, h0⟩ := trodAll_one hA
  obtain ⟨rfl, rfl⟩ := trodVars_none hV
  have k0 := h0
  obtain ⟨ao0, cap0, L0, rfl, hs0, hl0⟩ := open_acts Try.underlying31 Try.underlying36 (by kernel_rfl) (by kernel_rfl) (by kernel_rfl) rfl rfl rfl (by kernel_rfl) (by kernel_rfl) (by kernel_rfl) Try.underlying48 (by kernel_rfl) (by kernel_rfl) (by kernel_rfl) (kinds_i64 (by kernel_rfl)) (hval 0 31 v0 rfl rfl) h0
  clear hA0 hval0
  simp only [List.append_nil] at hW'
  refine (ledgerRuns_law ao0 cap0 L0 W ⟨hs0, hl0⟩).mono fun e W' ⟨he, hb⟩ => ?_
  subst he
  exact ⟨_, rfl, _, _, _, [], _, [], hW', trodAll_mk1 (shut_bool Try.underlying4 true), trodAll_mk1 (Below.trod laidK (by kernel_rfl) (of_decide_eq_true (by kernel_rfl)) k0 hb (fun x hx => by first | (simp at hx; done) | (have := hW'.lt x (by simp [hx]); simpa using this))), rfl, hb.frame _, fun h => by cases h⟩
theorem ledgerRuns_holds : Rows.LedgerRunsSaid :=
  OpenClaim.holds_of_wide 6 Try.f6 rfl rfl rfl rfl rfl rfl rfl ⟨rfl, rfl, rfl, rfl, rfl⟩ rfl rfl rfl rfl rfl (by kernel_rfl) Try.func6 (by kernel_rfl)
    (of_decide_eq_true (by kernel_rfl)) (by unfold Func.isWrapper; first | (rw [if_pos (by decide +kernel)]; kernel_rfl) | (rw [if_neg (by decide +kernel)]; exact ⟨rfl, rfl⟩))
    (fun os started H enc _ => ledgerRuns_lifted os started H enc)
end Go.Proofs.Yteghjdmalbcdfaa
