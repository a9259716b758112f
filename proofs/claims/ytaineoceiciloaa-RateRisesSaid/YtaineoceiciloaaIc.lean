/-
  Rows of integers as cells; their sums.
-/
import Derived.Test.YtaineoceiciloaaSl
set_option linter.unusedVariables false
set_option linter.unusedSimpArgs false
namespace Go.Proofs.Ytaineoceiciloaa
open Go.RowKit

/-- A row of integers as cells. -/
def ic (L : List Int) : List Value := L.map (Value.int .i64)
theorem ic_len (L : List Int) : (ic L).length = L.length := by simp [ic]
theorem ic_at {L : List Int} {k : Nat} {x : Int} (h : L[k]? = some x) : (ic L)[k]? = some (.int .i64 x) := by simp [ic, h]
def sumI : List Int → Int
  | [] => 0
  | x :: l => x + sumI l
theorem sumI_app (L M : List Int) : sumI (L ++ M) = sumI L + sumI M := by
  induction L with
  | nil => simp [sumI]
  | cons t l ih => simp only [List.cons_append, sumI, ih]; omega
theorem sumI_take {L : List Int} {k : Nat} {x : Int} (h : L[k]? = some x) : sumI (L.take (k + 1)) = sumI (L.take k) + x := by
  obtain ⟨hk, rfl⟩ := List.getElem?_eq_some_iff.1 h
  rw [List.take_succ_eq_append_getElem hk, sumI_app]; simp [sumI]
theorem sumI_in {L : List Int} (h : ∀ x ∈ L, -9223372036854775808 ≤ x ∧ x ≤ 9223372036854775807) : -9223372036854775808 * L.length ≤ sumI L ∧ sumI L ≤ 9223372036854775807 * L.length := by
  induction L with
  | nil => simp [sumI]
  | cons x l ih =>
    have h1 := h x (by simp)
    have h2 := ih fun y hy => h y (by simp [hy])
    simp only [sumI, List.length_cons]
    omega
theorem size_i64 (w : World) : (sizeOf 2).run Try.prog w = .ok 1 w := by
  obtain ⟨i, hi, _, hs, _⟩ := info_parts (show (Try.prog.info? 2).map (fun i => (i.zero, i.size, i.bytes)) = some (some (.int .i64 0), 1, 8) by kernel_rfl)
  simp [sizeOf, typeInfo, hi, hs]
end Go.Proofs.Ytaineoceiciloaa
