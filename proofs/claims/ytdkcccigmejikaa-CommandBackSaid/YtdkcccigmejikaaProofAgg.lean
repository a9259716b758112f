/-
  Words for the proofs of the rows: records of whole numbers, by value, opened.
-/
import Derived.Test.YtdkcccigmejikaaProofKit
import Derived.Deep.Slices
import Derived.Deep.Fields
import Derived.ChangeSame
set_option linter.unusedVariables false
set_option linter.unusedSimpArgs false
namespace Go.Proofs.Ytdkcccigmejikaa
open Go.ChangeShapes Go.WideShapes Go.ChangeAt Go.RowKit Go.Deep

/-- Is a field a whole number of 64 bits with a sign? -/
def isW64 (P : Program) (f : Field) : Bool := match P.underlying f.type with | some (.int .i64) => true | _ => false
theorem kinds_w64 {P : Program} {fs : Array Field} (h : fs.all (isW64 P) = true) (j : Nat) (f : Field) (hj : fs[j]? = some f) : P.underlying f.type = some (.int .i64) := by
  have h1 := (Array.all_eq_true'.1 h) f (Array.mem_of_getElem? hj)
  unfold isW64 at h1
  split at h1
  · assumption
  · cases h1
section
variable {H : Type} {enc : TypeId × Value → H} {P : Program} {w : World} {base : Nat} {spare : Nat → Bool} {held : Bool}
theorem cells_ints (S : Nat) (l : List Value) (hl : l.length = S) (h : ∀ j, j < S → ∃ z, l[j]? = some (.int .i64 z) ∧ (Lit.int .i64 z).wf = true) :
    ∃ L : List Int, l = L.map (Value.int .i64) ∧ ∀ z ∈ L, (Lit.int .i64 z).wf = true := by
  induction l generalizing S with
  | nil => exact ⟨[], rfl, by simp⟩
  | cons v l ih =>
    obtain ⟨z, hz, wz⟩ := h 0 (by simp at hl; omega)
    obtain ⟨L, hL, wL⟩ := ih l.length rfl (fun j hj => by
      have := h (j + 1) (by simp at hl; omega)
      simpa using this)
    simp at hz
    exact ⟨z :: L, by rw [hz, hL]; rfl, by intro x hx; rcases List.mem_cons.1 hx with rfl | hx
                                           · exact wz
                                           · exact wL x hx⟩
/-- A record of whole numbers of 64 bits, by value. -/
theorem open_aggI {r : Reach} {b0 : Nat} {t : TypeId} {fs : Array Field} {v : Value} {d : DataW H} {p : List MemPlace} (hs : P.underlying t = some (.struct fs)) (hone : oneCellFields P fs = true) (hC : P.cellsOf t = fs.size)
    (hI : ∀ (j : Nat) (f : Field), fs[j]? = some f → P.underlying f.type = some (.int .i64)) (hv : Value.okWide P w r b0 t v) (h : DataW.Trod enc P w base spare held t v d p) :
    ∃ L : List Int, v = .agg (L.map (Value.int .i64)).toArray ∧ L.length = fs.size ∧ ∀ z ∈ L, (Lit.int .i64 z).wf = true := by
  obtain ⟨cs, rfl, hsz⟩ := okWide_struct hs hv
  obtain ⟨fuel, hf⟩ := h
  obtain ⟨xs, n, _, hx, hcl, hlen, hg⟩ := DataW.trod_struct hs hf
  obtain ⟨l⟩ := cs
  have hl : l.length = fs.size := by simpa using hsz.trans hC
  obtain ⟨L, hL, wL⟩ := cells_ints fs.size l hl (fun j hj => by
    have hj' : fs[j]? = some fs[j] := Array.getElem?_eq_getElem hj
    obtain ⟨ho, hk⟩ := hone_of hone j _ hj'
    have h1 := hg j _ hj'
    rw [ho, hk] at h1
    have hjl : j < l.length := by omega
    have h2 : ((Value.agg ⟨l⟩).cells.toList.drop j).take 1 = [l[j]] := by
      simp [Value.cells]
      rw [List.drop_eq_getElem_cons hjl]
      rfl
    have hys : xs[j]? = some (xs[j]'(by omega)) := List.getElem?_eq_getElem (by omega)
    first | rw [h2] at h1 | (simp only [Value.cells] at h1 h2; rw [h2] at h1)
    obtain ⟨z, hzv, _, wz⟩ := DataW.trod_int (hI j _ hj') (h1.trans hys)
    simp at hzv
    exact ⟨z, by rw [List.getElem?_eq_getElem hjl, hzv], wz⟩)
  subst hL
  exact ⟨L, rfl, by simpa using hl, wL⟩
end
end Go.Proofs.Ytdkcccigmejikaa
