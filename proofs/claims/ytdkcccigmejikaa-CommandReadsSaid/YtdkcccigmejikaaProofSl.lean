/-
  Words for the proofs of the rows: slices opened.
-/
import Derived.Test.YtdkcccigmejikaaProofInts
import Derived.Test.YtdkcccigmejikaaBy
import Derived.ChangeSlices
import Derived.SliceStrings
set_option linter.unusedVariables false
set_option linter.unusedSimpArgs false
set_option maxRecDepth 20000
namespace Go.Proofs.Ytdkcccigmejikaa
open Go.ChangeShapes Go.WideShapes Go.ChangeAt Go.RowKit

/-- A slice of texts, opened. -/
theorem open_strs {H : Type} {enc : TypeId × Value → H} {P : Program} {W : World} {r : Reach} {b0 : Nat} {t e : TypeId} {v : Value} {d : DataW H} {p : List MemPlace}
    (ht : P.underlying t = some (.slice e)) (he : P.underlying e = some .string) (hC : P.cellsOf e = 1) (hv : Value.okWide P W r b0 t v) (h : DataW.Trod enc P W 0 (fun _ => true) true t v d p) :
    ∃ (ao : Option Addr) (cap : Nat) (L : List ByteArray), v = .slice ao L.length cap ∧ Sl W ao L.length cap (L.map Value.string) := by
  obtain ⟨ao, n, cap, rfl⟩ := okWide_slice ht hv
  obtain ⟨fuel, hf⟩ := h
  rcases open_strings ht he hC hf with ⟨hcs, hx⟩ | ⟨a, len', cap', zs, hcs, _, hl, hm, hz, hx, hcell, hwz⟩
  · simp [Value.cells] at hcs
    obtain ⟨rfl, rfl, rfl⟩ := hcs
    exact ⟨none, 0, [], rfl, Sl.of_nil W⟩
  · simp [Value.cells] at hcs
    obtain ⟨rfl, rfl, rfl⟩ := hcs
    simp only [if_true] at hz
    have hlen : (zs.take n).length = n := by rw [List.length_take]; omega
    refine ⟨some a, cap, zs.take n, by rw [hlen], ⟨by simp, by omega, by simp, fun hne => ?_⟩⟩
    have hn : 0 < n := by
      apply Nat.pos_of_ne_zero
      rintro rfl
      simp at hne
    obtain ⟨b, off, spot⟩ := a
    have h0 := hcell 0 (by omega)
    have hspot : spot = none := by simpa [Addr.add] using World.cell?_spot h0
    subst hspot
    refine ⟨b, off, rfl, fun j u hu => ?_⟩
    have hj : j < n := by
      have := (List.getElem?_eq_some_iff.1 hu).1
      simp at this; omega
    have hc := hcell j (by omega)
    have e1 : (⟨b, off, none⟩ : Addr).add j = ⟨b, off + j, none⟩ := by unfold Addr.add; split <;> simp_all
    rw [e1] at hc
    rw [hc, ← hu]
    simp [List.getElem?_take_of_lt hj, List.getD, List.getElem?_eq_getElem (show j < zs.length by omega)]
/-- A slice of bytes, opened. -/
theorem open_bytes {H : Type} {enc : TypeId × Value → H} {W : World} {r : Reach} {b0 : Nat} {v : Value} {d : DataW H} {p : List MemPlace}
    (hv : Value.okWide Try.prog W r b0 27 v) (h : DataW.Trod enc Try.prog W 0 (fun _ => true) true 27 v d p) : ∃ L, SlB W v L := by
  obtain ⟨ao, cap, L, rfl, hs, hw⟩ := open_sl Try.underlying27 Try.underlying5 (by kernel_rfl) hv h
  refine ⟨L.map fun x => UInt8.ofNat x.toNat, ao, cap, by rw [List.length_map], ?_⟩
  have e : bc (L.map fun x => UInt8.ofNat x.toNat) = L.map (Value.int .u8) := by
    rw [bc, List.map_map]
    apply List.map_congr_left
    intro x hx
    have := hw x hx
    simp [Lit.wf, IntKind.min, IntKind.max, IntKind.signed, IntKind.bits] at this
    show Value.int .u8 ((UInt8.ofNat x.toNat).toNat : Int) = _
    congr 1
    simp; omega
  rw [e, List.length_map]
  exact hs
end Go.Proofs.Ytdkcccigmejikaa
