/-
  CovenantTells, proved: of any figures and limits whether they can be, and which covenants hold, as the document says; no condition.
-/
import Derived.Test.YtleeifknicilhaaProofKit
import Derived.Test.YtleeifknicilhaaProofAgg
import Derived.Test.YtleeifknicilhaaCovLawD
set_option linter.unusedVariables false
set_option linter.unusedSimpArgs false
namespace Go.Proofs.Ytleeifknicilhaa
open Go.ChangeShapes Go.WideShapes Go.ChangeAt Go.RowKit

set_option maxRecDepth 100000 in
theorem covenantTells_lifted (os : Os) (started : os.Started) (H : Type) (enc : TypeId × Value → H) :
    ReturnsInHanded {} Try.checked os 4 .any (Rows.covenantTellsSpec.pre6 enc Try.prog Try.f4 Rows.covenantTellsRow.domain false) (Rows.covenantTellsSpec.post enc Try.prog Try.f4 false true false false) := by
  refine returnsInHanded_of_change (C := Try.checked) ownK started (by kernel_rfl) Try.func4
    (ChangeSpec.witness6 (enc := enc) (C := Try.checked) false ⟨#[], #[.agg #[.int .i64 0, .int .i64 0, .int .i64 0, .int .i64 0, .int .i64 0], .agg #[.int .i64 0, .int .i64 0, .int .i64 0]], []⟩ 8 (by kernel_rfl) (by kernel_rfl) (by kernel_rfl) (by kernel_rfl)) ?_
  intro W base args ds gs before hval0 hW hcnd _
  have hval : ∀ (j : Nat) t v, Try.f4.params[j]? = some t → args[j]? = some v → Value.okWide Try.prog W .any base t v := hval0
  have hW' := hW
  obtain ⟨p, q, hA0, hV, rfl, hfz, hnd⟩ := hW
  have hA : DataW.TrodAll enc Try.prog W 0 (fun _ => true) true Try.f4.params.toList args.toList ds p := hA0
  rw [Try.params4] at hA hval
  obtain ⟨v0, v1, d0, d1, p0, p1, rfl, rfl, rfl, h0, h1⟩ := trodAll_two hA
  obtain ⟨rfl, rfl⟩ := trodVars_none hV
  have k0 := h0
  have k1 := h1
  obtain ⟨L0, rfl, hL0, wL0⟩ := open_aggI Try.underlying26 (by kernel_rfl) (by kernel_rfl) (kinds_w64 (by kernel_rfl)) (hval 0 26 v0 rfl rfl) h0
  obtain ⟨l0_0, l0_1, l0_2, l0_3, l0_4, rfl⟩ := list5 L0 hL0
  obtain ⟨L1, rfl, hL1, wL1⟩ := open_aggI Try.underlying28 (by kernel_rfl) (by kernel_rfl) (kinds_w64 (by kernel_rfl)) (hval 1 28 v1 rfl rfl) h1
  obtain ⟨l1_0, l1_1, l1_2, rfl⟩ := list3 L1 hL1
  clear hA0 hval0
  simp only [List.append_nil] at hW'
  refine (covTells_law l0_0 l0_1 l0_2 l0_3 l0_4 wL0 l1_0 l1_1 l1_2 wL1 W).mono fun e W' ⟨he, hb⟩ => ?_
  subst he
  exact ⟨_, rfl, _, _, _, [], _, [], hW', trodAll_mk1 (shut_bool Try.underlying4 true), trodAll_mk2 (Below.trod laidK (by kernel_rfl) (of_decide_eq_true (by kernel_rfl)) k0 hb (fun x hx => by first | (simp at hx; done) | (have := hW'.lt x (by simp [hx]); simpa using this))) (Below.trod laidK (by kernel_rfl) (of_decide_eq_true (by kernel_rfl)) k1 hb (fun x hx => by first | (simp at hx; done) | (have := hW'.lt x (by simp [hx]); simpa using this))), rfl, hb.frame _, fun h => by cases h⟩
theorem covenantTells_holds : Rows.CovenantTellsSaid :=
  OpenClaim.holds_of_wide 4 Try.f4 rfl rfl rfl rfl rfl rfl rfl ⟨rfl, rfl, rfl, rfl, rfl⟩ rfl rfl rfl rfl rfl (by kernel_rfl) Try.func4 (by kernel_rfl)
    (of_decide_eq_true (by kernel_rfl)) (by unfold Func.isWrapper; first | (rw [if_pos (by decide +kernel)]; kernel_rfl) | (rw [if_neg (by decide +kernel)]; exact ⟨rfl, rfl⟩))
    (fun os started H enc _ => covenantTells_lifted os started H enc)
end Go.Proofs.Ytleeifknicilhaa
