/-
  Words for the proofs of the rows: a record of a whole number and a slice of whole numbers, by value, opened.
-/
import Derived.Test.YtdkcccigmejikaaProofAgg
import Derived.Test.YtdkcccigmejikaaProofInts
set_option linter.unusedVariables false
set_option linter.unusedSimpArgs false
namespace Go.Proofs.Ytdkcccigmejikaa
open Go.ChangeShapes Go.WideShapes Go.ChangeAt Go.RowKit Go.Deep

/-- A slice of integers, opened where it stands in a record. -/
theorem open_sl_cs {H : Type} {enc : TypeId × Value → H} {P : Program} {W : World} {t e : TypeId} {k : IntKind} {v : Value} {fuel : Nat} {x : DataW H × List MemPlace}
    (ht : P.underlying t = some (.slice e)) (he : P.underlying e = some (.int k)) (hC : P.cellsOf e = 1) (hf : DataW.trod enc P W 0 (fun _ => true) true fuel t [v] = some x) :
    ∃ (ao : Option Addr) (cap : Nat) (L : List Int), v = .slice ao L.length cap ∧ Sl W ao L.length cap (L.map (Value.int k)) ∧ ∀ x ∈ L, (Lit.int k x).wf = true := by
  rcases open_ints ht he hC hf with ⟨hcs, hx⟩ | ⟨a, n, cap, zs, hcs, _, hl, hm, hz, hx, hcell, hwz⟩
  · obtain rfl : v = .slice none 0 0 := by simpa using hcs
    exact ⟨none, 0, [], rfl, Sl.of_nil W, by simp⟩
  · obtain rfl : v = .slice (some a) n cap := by simpa using hcs
    simp only [if_true] at hz
    have hlen : (zs.take n).length = n := by rw [List.length_take]; omega
    refine ⟨some a, cap, zs.take n, by rw [hlen], ⟨by simp, by omega, by simp, fun hne => ?_⟩, fun x hx => hwz x (List.mem_of_mem_take hx)⟩
    have hn : 0 < n := by
      apply Nat.pos_of_ne_zero
      rintro rfl
      simp at hne
    obtain ⟨b, off, spot⟩ := a
    have h0 := hcell 0 (by omega)
    have hspot : spot = none := by simpa [Addr.add] using World.cell?_spot h0
    subst hspot
    refine ⟨b, off, rfl, fun j u hu => ?_⟩
    have hj : j < n := by
      have := (List.getElem?_eq_some_iff.1 hu).1
      simp at this; omega
    have hc := hcell j (by omega)
    have e1 : (⟨b, off, none⟩ : Addr).add j = ⟨b, off + j, none⟩ := by unfold Addr.add; split <;> simp_all
    rw [e1] at hc
    rw [hc, ← hu]
    simp [List.getElem?_take_of_lt hj, List.getD, List.getElem?_eq_getElem (show j < zs.length by omega)]
theorem open_ans {H : Type} {enc : TypeId × Value → H} {P : Program} {W : World} {r : Reach} {b0 : Nat} {t e : TypeId} {fs : Array Field} {f0 f1 : Field} {v : Value} {d : DataW H} {p : List MemPlace} (hs : P.underlying t = some (.struct fs)) (hone : oneCellFields P fs = true) (hC : P.cellsOf t = fs.size) (hS : fs.size = 2)
    (hf0 : fs[0]? = some f0) (hf1 : fs[1]? = some f1) (k0 : P.underlying f0.type = some (.int .i64)) (k1 : P.underlying f1.type = some (.slice e)) (he : P.underlying e = some (.int .i64)) (hCe : P.cellsOf e = 1)
    (hv : Value.okWide P W r b0 t v) (h : DataW.Trod enc P W 0 (fun _ => true) true t v d p) :
    ∃ (x : Int) (ao : Option Addr) (cap : Nat) (L : List Int), v = .agg #[.int .i64 x, .slice ao L.length cap] ∧ (Lit.int .i64 x).wf = true ∧ Sl W ao L.length cap (L.map (Value.int .i64)) ∧ ∀ x ∈ L, (Lit.int .i64 x).wf = true := by
  obtain ⟨cs, rfl, hsz⟩ := okWide_struct hs hv
  obtain ⟨fuel, hf⟩ := h
  obtain ⟨xs, n, _, hx, hcl, hlen, hg⟩ := DataW.trod_struct hs hf
  obtain ⟨l⟩ := cs
  have hl : l.length = 2 := by have := hsz.trans (hC.trans hS); simpa using this
  obtain ⟨a, b, rfl⟩ : ∃ a b, l = [a, b] := by
    match l, hl with
    | [a, b], _ => exact ⟨a, b, rfl⟩
  obtain ⟨ho, hk⟩ := hone_of hone 0 _ hf0
  have h1 := hg 0 _ hf0
  rw [ho, hk] at h1
  obtain ⟨ho2, hk2⟩ := hone_of hone 1 _ hf1
  have h2 := hg 1 _ hf1
  rw [ho2, hk2] at h2
  have hy0 : xs[0]? = some (xs[0]'(by omega)) := List.getElem?_eq_getElem (by omega)
  have hy1 : xs[1]? = some (xs[1]'(by omega)) := List.getElem?_eq_getElem (by omega)
  simp only [Value.cells] at h1 h2
  obtain ⟨z, hzv, _, wz⟩ := DataW.trod_int k0 (h1.trans hy0)
  obtain ⟨ao, cap, L, hb, hL, wL⟩ := open_sl_cs k1 he hCe (h2.trans hy1)
  simp at hzv
  subst hzv hb
  exact ⟨z, ao, cap, L, rfl, wz, hL, wL⟩
end Go.Proofs.Ytdkcccigmejikaa
