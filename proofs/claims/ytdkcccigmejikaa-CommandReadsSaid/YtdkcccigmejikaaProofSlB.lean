/-
  Words for the proofs of the rows: a slice of bytes opened, and where its block lies.
-/
import Derived.Test.YtdkcccigmejikaaProofSl
set_option linter.unusedVariables false
set_option linter.unusedSimpArgs false
set_option maxRecDepth 20000
namespace Go.Proofs.Ytdkcccigmejikaa
open Go.ChangeShapes Go.WideShapes Go.ChangeAt Go.RowKit

theorem slice_lt {P : Program} {W : World} {r : Reach} {b0 : Nat} {t e : TypeId} {a : Addr} {n cap : Nat} (ht : P.underlying t = some (.slice e)) (hv : Value.okWide P W r b0 t (.slice (some a) n cap)) : a.block < W.heap.size := by
  unfold Value.okWide at hv
  rw [ht] at hv
  simp only at hv
  unfold Cell.okWide at hv
  rw [ht] at hv
  simp only at hv
  unfold Cell.ok at hv
  rw [ht] at hv
  simp only at hv
  obtain ⟨_, _, _, _, row, cells, hs, _⟩ := hv
  unfold World.shape? at hs
  by_cases hb : a.block < W.heap.size
  · exact hb
  · rw [Array.getElem?_eq_none (by omega)] at hs
    cases hs
/-- A slice of bytes, opened; its block is there. -/
theorem open_bytesB {H : Type} {enc : TypeId × Value → H} {W : World} {r : Reach} {b0 : Nat} {v : Value} {d : DataW H} {p : List MemPlace}
    (hv : Value.okWide Try.prog W r b0 27 v) (h : DataW.Trod enc Try.prog W 0 (fun _ => true) true 27 v d p) : ∃ (ao : Option Addr) (cap : Nat) (L : List UInt8), v = .slice ao L.length cap ∧ Sl W ao L.length cap (bc L) ∧ ∀ a, ao = some a → a.block < W.heap.size := by
  obtain ⟨L, ao, cap, rfl, hs⟩ := open_bytes hv h
  refine ⟨ao, cap, L, rfl, hs, fun a e => ?_⟩
  subst e
  exact slice_lt Try.underlying27 hv
end Go.Proofs.Ytdkcccigmejikaa
