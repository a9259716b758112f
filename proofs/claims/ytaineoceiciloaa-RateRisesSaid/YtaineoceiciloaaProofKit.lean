/-
  Words for the proofs of the rows: a law that answers true and leaves what was there as it was; arrays of integers opened.
-/
import Derived.Test.YtaineoceiciloaaRows
import Derived.ProofKit
import Derived.OpenShut
import Derived.Lib.SmallJoins
import Derived.Carry
set_option linter.unusedVariables false
set_option linter.unusedSimpArgs false
namespace Go.Proofs.Ytaineoceiciloaa
open Go.ChangeShapes Go.WideShapes Go.ChangeAt Go.RowKit

theorem ownK : ownKnob Try.prog.godebug = none := by kernel_rfl
theorem laidK : laidOutB Try.prog = true := by kernel_rfl
theorem okWide_arr {P : Program} {w : World} {r : Reach} {base : Nat} {t e : TypeId} {n : Nat} {v : Value} (ht : P.underlying t = some (.array n e)) (h : Value.okWide P w r base t v) : ∃ cs, v = .agg cs ∧ cs.size = P.cellsOf t := by
  simp only [Value.okWide, ht] at h
  obtain ⟨cs, h1, h2, _⟩ := h
  exact ⟨cs, h1, h2⟩
/-- An array of integers, by value, opened. -/
theorem open_arr_ints {H : Type} {enc : TypeId × Value → H} {P : Program} {w W : World} {r : Reach} {base b0 : Nat} {spare : Nat → Bool} {held : Bool} {t e : TypeId} {k : IntKind} {n : Nat} {v : Value} {d : DataW H} {p : List MemPlace}
    (ht : P.underlying t = some (.array n e)) (he : P.underlying e = some (.int k)) (hC : P.cellsOf e = 1) (hT : P.cellsOf t = n) (hv : Value.okWide P W r b0 t v) (h : DataW.Trod enc P w base spare held t v d p) :
    ∃ L : List Int, v = .agg (L.map (Value.int k)).toArray ∧ L.length = n ∧ ∀ x ∈ L, (Lit.int k x).wf = true := by
  obtain ⟨cs, rfl, hsz⟩ := okWide_arr ht hv
  obtain ⟨fuel, hf⟩ := h
  obtain ⟨xs, m, _, ex, hlen, hl, hel⟩ := DataW.trod_array ht hf
  have key : ∀ i, i < n → ∃ x, cs[i]? = some (.int k x) ∧ (Lit.int k x).wf = true := by
    intro i hi
    have hE := hel i hi
    rw [hC, Nat.mul_one, List.getElem?_eq_getElem (by omega)] at hE
    obtain ⟨z, e1, _, wz⟩ := DataW.trod_int he hE
    refine ⟨z, ?_, wz⟩
    have h0 : (((Value.agg cs).cells.toList.drop i).take 1)[0]? = some (.int k z) := by rw [e1]; rfl
    simpa [Value.cells] using h0
  rw [hT] at hsz
  refine ⟨(List.range n).map fun i => match (cs[i]? : Option Value) with | some (Value.int _ x) => x | _ => 0, ?_, by simp, ?_⟩
  · congr 1
    apply Array.ext_getElem?
    intro i
    by_cases hi : i < n
    · obtain ⟨x, hx, _⟩ := key i hi
      simp [hi, hx]
    · rw [Array.getElem?_eq_none (by omega), Array.getElem?_eq_none (by simp; omega)]
  · intro x hx
    obtain ⟨i, hi, rfl⟩ := List.mem_map.1 hx
    obtain ⟨z, hz, wz⟩ := key i (List.mem_range.1 hi)
    simp only [hz]
    exact wz
theorem list2 {α : Type} : ∀ (L : List α), L.length = 2 → ∃ x0 x1, L = [x0, x1]
  | [x0, x1], _ => ⟨x0, x1, rfl⟩
theorem list3 {α : Type} : ∀ (L : List α), L.length = 3 → ∃ x0 x1 x2, L = [x0, x1, x2]
  | [x0, x1, x2], _ => ⟨x0, x1, x2, rfl⟩
theorem list4 {α : Type} : ∀ (L : List α), L.length = 4 → ∃ x0 x1 x2 x3, L = [x0, x1, x2, x3]
  | [x0, x1, x2, x3], _ => ⟨x0, x1, x2, x3, rfl⟩
theorem list5 {α : Type} : ∀ (L : List α), L.length = 5 → ∃ x0 x1 x2 x3 x4, L = [x0, x1, x2, x3, x4]
  | [x0, x1, x2, x3, x4], _ => ⟨x0, x1, x2, x3, x4, rfl⟩
theorem list6 {α : Type} : ∀ (L : List α), L.length = 6 → ∃ x0 x1 x2 x3 x4 x5, L = [x0, x1, x2, x3, x4, x5]
  | [x0, x1, x2, x3, x4, x5], _ => ⟨x0, x1, x2, x3, x4, x5, rfl⟩
theorem list7 {α : Type} : ∀ (L : List α), L.length = 7 → ∃ x0 x1 x2 x3 x4 x5 x6, L = [x0, x1, x2, x3, x4, x5, x6]
  | [x0, x1, x2, x3, x4, x5, x6], _ => ⟨x0, x1, x2, x3, x4, x5, x6, rfl⟩
theorem list8 {α : Type} : ∀ (L : List α), L.length = 8 → ∃ x0 x1 x2 x3 x4 x5 x6 x7, L = [x0, x1, x2, x3, x4, x5, x6, x7]
  | [x0, x1, x2, x3, x4, x5, x6, x7], _ => ⟨x0, x1, x2, x3, x4, x5, x6, x7, rfl⟩
end Go.Proofs.Ytaineoceiciloaa
