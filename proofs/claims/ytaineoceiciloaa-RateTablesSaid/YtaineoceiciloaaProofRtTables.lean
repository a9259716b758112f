/-
  RateTables, proved: which terms and which resets can be; any reset added; the list stays; no condition.
-/
import Derived.Test.YtaineoceiciloaaProofKit
import Derived.Test.YtaineoceiciloaaProofAgg
import Derived.Test.YtaineoceiciloaaProofRec
import Derived.Test.YtaineoceiciloaaRtTabL
set_option linter.unusedVariables false
set_option linter.unusedSimpArgs false
namespace Go.Proofs.Ytaineoceiciloaa
open Go.ChangeShapes Go.WideShapes Go.ChangeAt Go.RowKit

set_option maxRecDepth 100000 in
theorem rateTables_lifted (os : Os) (started : os.Started) (H : Type) (enc : TypeId × Value → H) :
    ReturnsInHanded {} Try.checked os 6 .any (Rows.rateTablesSpec.pre6 enc Try.prog Try.f6 Rows.rateTablesRow.domain false) (Rows.rateTablesSpec.post enc Try.prog Try.f6 false true false false) := by
  refine returnsInHanded_of_change (C := Try.checked) ownK started (by kernel_rfl) Try.func6
    (ChangeSpec.witness6 (enc := enc) (C := Try.checked) false ⟨#[], #[.agg #[.int .i64 0, .int .i64 0, .int .i64 0], .slice none 0 0, .agg #[.int .i64 0, .int .i64 0]], []⟩ 8 (by kernel_rfl) (by kernel_rfl) (by kernel_rfl) (by kernel_rfl)) ?_
  intro W base args ds gs before hval0 hW hcnd _
  have hval : ∀ (j : Nat) t v, Try.f6.params[j]? = some t → args[j]? = some v → Value.okWide Try.prog W .any base t v := hval0
  have hW' := hW
  obtain ⟨p, q, hA0, hV, rfl, hfz, hnd⟩ := hW
  have hA : DataW.TrodAll enc Try.prog W 0 (fun _ => true) true Try.f6.params.toList args.toList ds p := hA0
  rw [Try.params6] at hA hval
  obtain ⟨v0, v1, v2, d0, d1, d2, p0, p1, p2, rfl, rfl, rfl, h0, h1, h2⟩ := trodAll_three hA
  obtain ⟨rfl, rfl⟩ := trodVars_none hV
  have k0 := h0
  have k1 := h1
  have k2 := h2
  obtain ⟨L0, rfl, hL0, wL0⟩ := open_aggI Try.underlying23 (by kernel_rfl) (by kernel_rfl) (kinds_w64 (by kernel_rfl)) (hval 0 23 v0 rfl rfl) h0
  obtain ⟨l0_0, l0_1, l0_2, rfl⟩ := list3 L0 hL0
  obtain ⟨ao1, cap1, L1, rfl, hs1, wL1⟩ := open_rec ints2 ints2_ex ints2_len Try.underlying24 Try.underlying46 (by kernel_rfl) (by kernel_rfl) (by kernel_rfl) (kinds_i64 (by kernel_rfl)) (hval 1 24 v1 rfl rfl) h1
  obtain ⟨L2, rfl, hL2, wL2⟩ := open_aggI Try.underlying46 (by kernel_rfl) (by kernel_rfl) (kinds_w64 (by kernel_rfl)) (hval 2 46 v2 rfl rfl) h2
  obtain ⟨l2_0, l2_1, rfl⟩ := list2 L2 hL2
  clear hA0 hval0
  simp only [List.append_nil] at hW'
  refine (rateTables_law l0_0 l0_1 l0_2 ao1 cap1 L1 l2_0 l2_1 W hs1).mono fun e W' ⟨he, hb⟩ => ?_
  subst he
  exact ⟨_, rfl, _, _, _, [], _, [], hW', trodAll_mk1 (shut_bool Try.underlying4 true), trodAll_mk3 (Below.trod laidK (by kernel_rfl) (of_decide_eq_true (by kernel_rfl)) k0 hb (fun x hx => by first | (simp at hx; done) | (have := hW'.lt x (by simp [hx]); simpa using this))) (Below.trod laidK (by kernel_rfl) (of_decide_eq_true (by kernel_rfl)) k1 hb (fun x hx => by first | (simp at hx; done) | (have := hW'.lt x (by simp [hx]); simpa using this))) (Below.trod laidK (by kernel_rfl) (of_decide_eq_true (by kernel_rfl)) k2 hb (fun x hx => by first | (simp at hx; done) | (have := hW'.lt x (by simp [hx]); simpa using this))), rfl, hb.frame _, fun h => by cases h⟩
theorem rateTables_holds : Rows.RateTablesSaid :=
  OpenClaim.holds_of_wide 6 Try.f6 rfl rfl rfl rfl rfl rfl rfl ⟨rfl, rfl, rfl, rfl, rfl⟩ rfl rfl rfl rfl rfl (by kernel_rfl) Try.func6 (by kernel_rfl)
    (of_decide_eq_true (by kernel_rfl)) (by unfold Func.isWrapper; first | (rw [if_pos (by decide +kernel)]; kernel_rfl) | (rw [if_neg (by decide +kernel)]; exact ⟨rfl, rfl⟩))
    (fun os started H enc _ => rateTables_lifted os started H enc)
end Go.Proofs.Ytaineoceiciloaa
