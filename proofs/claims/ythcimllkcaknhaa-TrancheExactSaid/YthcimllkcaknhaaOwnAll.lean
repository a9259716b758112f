/-
  Several slices of the call's own side by side: each in a block of its own; one grows, the others stay.
-/
import Derived.Test.YthcimllkcaknhaaSl
set_option linter.unusedVariables false
set_option linter.unusedSimpArgs false
namespace Go.Proofs.Ythcimllkcaknhaa
open Go.RowKit

/-- Slices of the call's own: the element's type, the value, the cells; no two in one block. -/
def OwnAll (w : World) (B : Nat) (R : List (TypeId × Value × List Value)) : Prop :=
  (∀ (i : Nat) x, R[i]? = some x → w.ownsRow B x.1 1 x.2.1 x.2.2.length x.2.2) ∧ (∀ (i j : Nat) x y g, R[i]? = some x → R[j]? = some y → x.2.1.ownBlock = some g → y.2.1.ownBlock = some g → i = j)
theorem OwnAll.none (w : World) (B : Nat) : OwnAll w B [] := ⟨fun i x h => by simp at h, fun i j x y g h => by simp at h⟩
theorem OwnAll.get {w : World} {B : Nat} {R : List (TypeId × Value × List Value)} (h : OwnAll w B R) (i : Nat) {T v C} (hi : R[i]? = some (T, v, C)) : w.ownsRow B T 1 v C.length C := h.1 i _ hi
theorem owns_keeps {w w' : World} {B e n : Nat} {v : Value} {C : List Value} (h : w.ownsRow B e 1 v n C) (hb : Below w.heap.size w w') : w'.ownsRow B e 1 v n C := by
  refine ⟨h.1, ?_⟩
  rcases h.2 with h2 | ⟨g, cap, cur, e, hb2, hg, r⟩
  · exact .inl h2
  · refine .inr ⟨g, cap, cur, e, hb2, ?_, r⟩
    rw [hb.block g ((Array.getElem?_eq_some_iff.1 hg).1)]; exact hg
theorem OwnAll.keeps {w w' : World} {B : Nat} {R : List (TypeId × Value × List Value)} (h : OwnAll w B R) (hb : Below w.heap.size w w') : OwnAll w' B R :=
  ⟨fun i x hi => owns_keeps (h.1 i x hi) hb, h.2⟩
/-- One more, made anew. -/
theorem OwnAll.add {w w' : World} {B : Nat} {R : List (TypeId × Value × List Value)} (h : OwnAll w B R) (hb : Below w.heap.size w w') (hB : B ≤ w.heap.size) {T : TypeId} {v : Value} {C : List Value} (hn : w'.ownsRow w.heap.size T 1 v C.length C) : OwnAll w' B ((T, v, C) :: R) := by
  have up : w'.ownsRow B T 1 v C.length C := by
    refine ⟨hn.1, ?_⟩
    rcases hn.2 with h2 | ⟨g, cap, cur, e, hb2, r⟩
    · exact .inl h2
    · exact .inr ⟨g, cap, cur, e, Nat.le_trans hB hb2, r⟩
  refine ⟨fun i x hi => ?_, fun i j x y g hi hj hx hy => ?_⟩
  · cases i with
    | zero => obtain rfl := Option.some.inj hi; exact up
    | succ i => exact owns_keeps (h.1 i x hi) hb
  · cases i with
    | zero =>
      cases j with
      | zero => rfl
      | succ j =>
        obtain rfl := Option.some.inj hi
        have h1 := (World.ownsRow.lt hn g hx).1
        have h2 := (World.ownsRow.lt (h.1 j y hj) g hy).2
        omega
    | succ i =>
      cases j with
      | zero =>
        obtain rfl := Option.some.inj hj
        have h1 := (World.ownsRow.lt hn g hy).1
        have h2 := (World.ownsRow.lt (h.1 i x hi) g hx).2
        omega
      | succ j => exact congrArg _ (h.2 i j x y g hi hj hx hy)
/-- One grows. -/
theorem OwnAll.grow {w w' : World} {B : Nat} {R : List (TypeId × Value × List Value)} (h : OwnAll w B R) (i : Nat) {T : TypeId} {v v' : Value} {C C' : List Value} (hi : R[i]? = some (T, v, C)) (hn : w'.ownsRow B T 1 v' C'.length C') (hg : w.grownBy w' v.ownBlock)
    (hf : ∀ g, v'.ownBlock = some g → v.ownBlock = some g ∨ w.heap.size ≤ g) : OwnAll w' B (R.set i (T, v', C')) := by
  have hil : i < R.length := (List.getElem?_eq_some_iff.1 hi).1
  refine ⟨fun j x hj => ?_, fun j k x y g hj hk hx hy => ?_⟩
  · by_cases hji : i = j
    · subst hji
      rw [List.getElem?_set_self hil] at hj
      obtain rfl := Option.some.inj hj
      exact hn
    · rw [List.getElem?_set_ne hji] at hj
      refine (h.1 j x hj).kept hg ?_
      cases hb : x.2.1.ownBlock with
      | none => exact .inl rfl
      | some g =>
        right
        intro hc
        exact hji (h.2 j i x (T, v, C) g hj hi hb hc.symm).symm
  · by_cases hji : i = j
    · subst hji
      by_cases hki : i = k
      · exact hki
      · rw [List.getElem?_set_self hil] at hj
        rw [List.getElem?_set_ne hki] at hk
        obtain rfl := Option.some.inj hj
        rcases hf g hx with h1 | h1
        · exact h.2 i k (T, v, C) y g hi hk h1 hy
        · have := (World.ownsRow.lt (h.1 k y hk) g hy).2; omega
    · rw [List.getElem?_set_ne hji] at hj
      by_cases hki : i = k
      · subst hki
        rw [List.getElem?_set_self hil] at hk
        obtain rfl := Option.some.inj hk
        rcases hf g hy with h1 | h1
        · exact h.2 j i x (T, v, C) g hj hi hx h1
        · have := (World.ownsRow.lt (h.1 j x hj) g hx).2; omega
      · rw [List.getElem?_set_ne hki] at hk
        exact h.2 j k x y g hj hk hx hy
theorem OwnAll.below {w w' w0 : World} {B : Nat} {R : List (TypeId × Value × List Value)} (h : OwnAll w B R) (i : Nat) {T v C} (hi : R[i]? = some (T, v, C)) (hg : w.grownBy w' v.ownBlock) (hB : B ≤ w0.heap.size) (hb : Below B w0 w) : Below B w0 w' :=
  hb.grown hg (Nat.le_trans hB hb.size) (fun k hk => (World.ownsRow.lt (h.get i hi) k hk).1)
end Go.Proofs.Ythcimllkcaknhaa
