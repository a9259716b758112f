/-
  DrawRuns, proved: whatever is done with any draws on any lines, all answers are those of the document, and what was handed in stays; no condition.
-/
import Derived.Test.YtikfclioplploaaProofKit
import Derived.Test.YtikfclioplploaaProofRec
import Derived.Test.YtikfclioplploaaDwRu
set_option linter.unusedVariables false
set_option linter.unusedSimpArgs false
namespace Go.Proofs.Ytikfclioplploaa
open Go.ChangeShapes Go.WideShapes Go.ChangeAt Go.RowKit

set_option maxRecDepth 100000 in
theorem drawRuns_lifted (os : Os) (started : os.Started) (H : Type) (enc : TypeId × Value → H) :
    ReturnsInHanded {} Try.checked os 4 .any (Rows.drawRunsSpec.pre6 enc Try.prog Try.f4 Rows.drawRunsRow.domain false) (Rows.drawRunsSpec.post enc Try.prog Try.f4 false true false false) := by
  refine returnsInHanded_of_change (C := Try.checked) ownK started (by kernel_rfl) Try.func4
    (ChangeSpec.witness6 (enc := enc) (C := Try.checked) false ⟨#[], #[.slice none 0 0, .slice none 0 0, .slice none 0 0], []⟩ 8 (by kernel_rfl) (by kernel_rfl) (by kernel_rfl) (by kernel_rfl)) ?_
  intro W base args ds gs before hval0 hW hcnd _
  have hval : ∀ (j : Nat) t v, Try.f4.params[j]? = some t → args[j]? = some v → Value.okWide Try.prog W .any base t v := hval0
  have hW' := hW
  obtain ⟨p, q, hA0, hV, rfl, hfz, hnd⟩ := hW
  have hA : DataW.TrodAll enc Try.prog W 0 (fun _ => true) true Try.f4.params.toList args.toList ds p := hA0
  rw [Try.params4] at hA hval
  obtain ⟨v0, v1, v2, d0, d1, d2, p0, p1, p2, rfl, rfl, rfl, h0, h1, h2⟩ := trodAll_three hA
  obtain ⟨rfl, rfl⟩ := trodVars_none hV
  have k0 := h0
  have k1 := h1
  have k2 := h2
  obtain ⟨ao0, cap0, L0, rfl, hs0, wL0⟩ := open_rec ints3 ints3_ex ints3_len Try.underlying25 Try.underlying33 (by kernel_rfl) (by kernel_rfl) (by kernel_rfl) (kinds_i64 (by kernel_rfl)) (hval 0 25 v0 rfl rfl) h0
  obtain ⟨ao1, cap1, L1, rfl, hs1, wL1⟩ := open_rec ints4 ints4_ex ints4_len Try.underlying24 Try.underlying23 (by kernel_rfl) (by kernel_rfl) (by kernel_rfl) (kinds_i64 (by kernel_rfl)) (hval 1 24 v1 rfl rfl) h1
  obtain ⟨ao2, cap2, L2, rfl, hs2, wL2⟩ := open_rec ints4 ints4_ex ints4_len Try.underlying35 Try.underlying38 (by kernel_rfl) (by kernel_rfl) (by kernel_rfl) (kinds_i64 (by kernel_rfl)) (hval 2 35 v2 rfl rfl) h2
  clear hA0 hval0
  simp only [List.append_nil] at hW'
  refine (drawRuns_law ao0 cap0 L0 ao1 cap1 L1 ao2 cap2 L2 W hs0 hs1 hs2).mono fun e W' ⟨he, hb⟩ => ?_
  subst he
  exact ⟨_, rfl, _, _, _, [], _, [], hW', trodAll_mk1 (shut_bool Try.underlying4 true), trodAll_mk3 (Below.trod laidK (by kernel_rfl) (of_decide_eq_true (by kernel_rfl)) k0 hb (fun x hx => by first | (simp at hx; done) | (have := hW'.lt x (by simp [hx]); simpa using this))) (Below.trod laidK (by kernel_rfl) (of_decide_eq_true (by kernel_rfl)) k1 hb (fun x hx => by first | (simp at hx; done) | (have := hW'.lt x (by simp [hx]); simpa using this))) (Below.trod laidK (by kernel_rfl) (of_decide_eq_true (by kernel_rfl)) k2 hb (fun x hx => by first | (simp at hx; done) | (have := hW'.lt x (by simp [hx]); simpa using this))), rfl, hb.frame _, fun h => by cases h⟩
theorem drawRuns_holds : Rows.DrawRunsSaid :=
  OpenClaim.holds_of_wide 4 Try.f4 rfl rfl rfl rfl rfl rfl rfl ⟨rfl, rfl, rfl, rfl, rfl⟩ rfl rfl rfl rfl rfl (by kernel_rfl) Try.func4 (by kernel_rfl)
    (of_decide_eq_true (by kernel_rfl)) (by unfold Func.isWrapper; first | (rw [if_pos (by decide +kernel)]; kernel_rfl) | (rw [if_neg (by decide +kernel)]; exact ⟨rfl, rfl⟩))
    (fun os started H enc _ => drawRuns_lifted os started H enc)
end Go.Proofs.Ytikfclioplploaa
