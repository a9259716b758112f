/-
  Words for the walks: a block and its cells, what stays as it was.
-/
import Derived.Test.YtaineoceiciloaaProg
import Derived.WalkKit
import Derived.WalkSpells
import Derived.WalkLawsBesides
import Derived.RegionTactic
import Derived.ChangeAlike
import Derived.Deep.QuietTactic
import Derived.BigQuiet
import Derived.BigRegion
import Derived.Deep.MidRow
import Derived.Deep.RegionWith
import Derived.Deep.DeepFit
import Derived.Deep.DeepMust
import Derived.Deep.LoopGhost
import Derived.Deep.DeepCutAuto
import Derived.Deep.CutBlock
import Derived.Lib.Hide
import Derived.IntWalk
import Derived.KernelRfl
set_option linter.unusedVariables false
set_option linter.unusedSimpArgs false
namespace Go.Proofs.Ytaineoceiciloaa
open Go.RowKit

/-- A block and its cells. -/
structure Blk (w : World) (b : Nat) (T : TypeId) (C : List Value) : Prop where
  at_ : w.heap[b]? = some (.cells C.toArray T (0, 0))
section
variable {w w' : World} {b B T : Nat} {C : List Value}
theorem Blk.cell (h : Blk w b T C) (j : Nat) (v : Value) (hj : C[j]? = some v) : w.cell? ⟨b, j, none⟩ = some v := by
  rw [cell_of_row w b j _ _ _ h.at_]
  simpa using hj
theorem Blk.frozen (h : Blk w b T C) (j : Nat) : w.frozen? ⟨b, j, none⟩ = false := frozen_of_row w b j _ _ h.at_
theorem Blk.set (h : Blk w b T C) (j : Nat) (v : Value) : Blk (w.setCell ⟨b, j, none⟩ v) b T (C.set j v) := by
  refine ⟨?_⟩
  rw [heap_setCell_same w b j _ T _ h.at_]
  simp
theorem Blk.drew (h : Blk w b T C) : Blk w.drew b T C := ⟨h.at_⟩
theorem Blk.below (h : Blk w b T C) (hb : Below B w w') (hl : b < B) : Blk w' b T C := ⟨by rw [hb.block b hl]; exact h.at_⟩
theorem Blk.lt (h : Blk w b T C) : b < w.heap.size := by
  have := h.at_
  by_cases hb : b < w.heap.size
  · exact hb
  · rw [Array.getElem?_eq_none (by omega)] at this; simp at this
theorem Blk.keeps (h : Blk w b T C) (hb : Below w.heap.size w w') : Blk w' b T C := h.below hb h.lt
theorem Blk.other (h : Blk w b T C) (a : Addr) (v : Value) (hn : b ≠ a.block) : Blk (w.setCell a v) b T C := ⟨by rw [heap_setCell_other w a b v hn]; exact h.at_⟩
theorem Blk.alloc (h : Blk w b T C) (o : Obj) : Blk (w.alloc o) b T C := ⟨by rw [Below.heap_alloc w o b h.lt]; exact h.at_⟩
theorem Blk.new (w : World) (T : Nat) (C : List Value) : Blk (w.alloc (.cells C.toArray T)) w.heap.size T C := ⟨heap_alloc_new w _⟩
theorem Blk.range (h : Blk w b T C) : w.rangeAt b 0 C := fun j v hv => by
  rw [Nat.zero_add]; exact h.cell j v hv
theorem Blk.rangeMid (h : Blk w b T C) (o n : Nat) : w.rangeAt b o ((C.drop o).take n) := fun j v hv => by
  have hj := (List.getElem?_eq_some_iff.1 hv).1
  rw [List.length_take, List.length_drop] at hj
  rw [List.getElem?_take, if_pos (by omega), List.getElem?_drop] at hv
  exact h.cell (o + j) v hv
theorem Blk.thereMid (h : Blk w b T C) (o n : Nat) (hn : o + n ≤ C.length) : w.there b o n := fun j hj =>
  ⟨by rw [h.cell (o + j) _ (List.getElem?_eq_getElem (by omega))]; rfl, h.frozen _⟩
theorem Blk.setCells : ∀ (vs : List Value) (o : Nat) {w : World} {C : List Value}, Blk w b T C → o + vs.length ≤ C.length → Blk (w.setCells b o vs) b T (C.take o ++ vs ++ C.drop (o + vs.length))
  | [], o, w, C, h, _ => by simpa [World.setCells] using h
  | v :: r, o, w, C, h, hl => by
    have hl' : o + 1 + r.length ≤ C.length := by simp at hl; omega
    have h1 := Blk.setCells r (o + 1) (h.set o v) (by simpa using hl')
    have e : (C.set o v).take (o + 1) ++ r ++ (C.set o v).drop (o + 1 + r.length) = C.take o ++ (v :: r) ++ C.drop (o + (v :: r).length) := by
      rw [List.take_set, List.drop_set_of_lt (by omega), List.take_succ_eq_append_getElem (by omega), List.set_append_right _ _ (by simp; omega)]
      simp [show min o C.length = o from by omega, show o + 1 + r.length = o + (r.length + 1) from by omega]
    rw [World.setCells, ← e]
    exact h1
/-- The whole block anew. -/
theorem Blk.setAll (h : Blk w b T C) (vs : List Value) (hl : vs.length = C.length) : Blk (w.setCells b 0 vs) b T vs := by
  have := Blk.setCells vs 0 h (by omega)
  simpa [hl] using this
theorem below_setCells : ∀ (vs : List Value) (o : Nat) {w w1 : World}, Below B w w1 → B ≤ b → Below B w (w1.setCells b o vs)
  | [], _, _, _, h, _ => h
  | v :: r, o, _, _, h, hb => below_setCells r (o + 1) (h.setCell (p := ⟨b, o, none⟩) hb v) hb
theorem heap_size_setCells (vs : List Value) (o : Nat) (w : World) : (w.setCells b o vs).heap.size = w.heap.size := by
  induction vs generalizing o w with
  | nil => rfl
  | cons v r ih => rw [World.setCells, ih]; simp
theorem Blk.otherCells {b' : Nat} (vs : List Value) (o : Nat) (h : Blk w b T C) (hn : b ≠ b') : Blk (w.setCells b' o vs) b T C := by
  induction vs generalizing o w with
  | nil => exact h
  | cons v r ih => exact ih (o + 1) (h.other ⟨b', o, none⟩ v hn)
end

theorem pw_belowN {B : Nat} {w W : World} (h : Below B w W) (n : Nat) : Below B w (W.drewN n) := ⟨h.os, h.tape, h.output, h.size, h.block⟩
theorem Blk.drewN {w : World} {b T : Nat} {C : List Value} (h : Blk w b T C) (n : Nat) : Blk (w.drewN n) b T C := ⟨h.at_⟩
theorem Blk.new2 (w : World) (o : Obj) (T : Nat) (C : List Value) : Blk ((w.alloc o).alloc (.cells C.toArray T)) (w.heap.size + 1) T C := ⟨heap_alloc2_new w _ _⟩
theorem Blk.new3 (w : World) (o p : Obj) (T : Nat) (C : List Value) : Blk (((w.alloc o).alloc p).alloc (.cells C.toArray T)) (w.heap.size + 2) T C := ⟨by
  rw [show w.heap.size + 2 = ((w.alloc o).alloc p).heap.size from by simp]; exact heap_alloc_new _ _⟩
theorem Blk.new4 (w : World) (o p q : Obj) (T : Nat) (C : List Value) : Blk ((((w.alloc o).alloc p).alloc q).alloc (.cells C.toArray T)) (w.heap.size + 3) T C := ⟨by
  rw [show w.heap.size + 3 = (((w.alloc o).alloc p).alloc q).heap.size from by simp]; exact heap_alloc_new _ _⟩
theorem Blk.new5 (w : World) (o p q r : Obj) (T : Nat) (C : List Value) : Blk (((((w.alloc o).alloc p).alloc q).alloc r).alloc (.cells C.toArray T)) (w.heap.size + 4) T C := ⟨by
  rw [show w.heap.size + 4 = ((((w.alloc o).alloc p).alloc q).alloc r).heap.size from by simp]; exact heap_alloc_new _ _⟩
theorem below_new1 (w : World) (o : Obj) : Below w.heap.size w (w.alloc o) := (Below.refl _ _).alloc (Nat.le_refl _) o
theorem below_new2 (w : World) (o p : Obj) : Below w.heap.size w ((w.alloc o).alloc p) := (below_new1 w o).alloc (by simp) p
theorem below_new3 (w : World) (o p q : Obj) : Below w.heap.size w (((w.alloc o).alloc p).alloc q) := (below_new2 w o p).alloc (by simp; omega) q
theorem below_new4 (w : World) (o p q r : Obj) : Below w.heap.size w ((((w.alloc o).alloc p).alloc q).alloc r) := (below_new3 w o p q).alloc (by simp; omega) r
theorem below_new5 (w : World) (o p q r s : Obj) : Below w.heap.size w (((((w.alloc o).alloc p).alloc q).alloc r).alloc s) := (below_new4 w o p q r).alloc (by simp; omega) s
theorem below_new6 (w : World) (o p q r s t : Obj) : Below w.heap.size w ((((((w.alloc o).alloc p).alloc q).alloc r).alloc s).alloc t) := (below_new5 w o p q r s).alloc (by simp; omega) t
/-- Behind a callee's blocks. -/
theorem below_on {B : Nat} {w w1 w2 : World} (h : Below B w w1) (hB : B ≤ w1.heap.size) (k : Below w1.heap.size w1 w2) : Below B w w2 := h.trans (k.mono hB)
end Go.Proofs.Ytaineoceiciloaa
