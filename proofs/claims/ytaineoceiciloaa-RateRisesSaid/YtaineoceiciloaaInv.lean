/-
  A region that draws its order: one fact that every operation hands on, in whatever order.
-/
import Derived.Test.YtaineoceiciloaaBlk
import Derived.OrdersHeld
import Derived.Deep.RegionHeld3
set_option linter.unusedVariables false
set_option linter.unusedSimpArgs false
namespace Go.Proofs.Ytaineoceiciloaa
open Go.RowKit
/-- Each operation waits for earlier ones alone. -/
def edgesBack (ops : Array Oper) : Bool := (List.range ops.size).all fun i => match ops[i]? with
  | some o => o.after.all fun e => !Region.binds .any e || decide (e.on < i)
  | none => true
section
variable {P : Program} {ops : Array Oper} {Q : Exit → Act → World → Prop}
theorem edges_spec (h : edgesBack ops = true) {i : Nat} {o : Oper} (hi : ops[i]? = some o) : ∀ e ∈ o.after, Region.binds .any e = true → e.on < i := by
  intro e he hbd
  have hlt : i < ops.size := (Array.getElem?_eq_some_iff.1 hi).1
  have h1 := List.all_eq_true.1 h i (List.mem_range.2 hlt)
  simp only [hi] at h1
  have h2 := Array.all_eq_true_iff_forall_mem.1 h1 e he
  rw [hbd, Bool.not_true, Bool.false_or] at h2
  exact of_decide_eq_true h2
/-- What a region draws is any order: a fact on who has come up, on the frame and on the world, that each operation hands on. -/
theorem region_inv {id : Nat} {a : Act} {w : World} (hm : P.follows .mixedOrders = true) (hb : edgesBack ops = true) (Inv : (Nat → Bool) → Act → World → Prop)
    (h0 : Inv (fun _ => false) a w.drew)
    (hstep : ∀ (i : Nat) (o : Oper) (L : Nat → Bool) (a : Act) (w : World), ops[i]? = some o → L i = false → (∀ e ∈ o.after, Region.binds .any e = true → L e.on = true) → Inv L a w →
      ∀ K : Act → World → Prop, (∀ a w, Inv (fun j => if j = i then true else L j) a w → K a w) → if Region.wanted o (yielded ops a.tmps) = true then Oper.wp P o a w K Q else K (a.put o.dst undef) w)
    (hend : ∀ (L : Nat → Bool) (a : Act) (w : World), (∀ i, i < ops.size → L i = true) → Inv L a w → Q .normal a w) : (Code.region id ops true).wp P Q a w := by
  have key : ∀ (fuel : Nat) (listed : Array Bool) (a : Act) (w : World), listed.size = ops.size → listed.toList.count false ≤ fuel → Inv (fun j => listed.getD j false) a w → wpAny P .any ops Q fuel listed a w := by
    have fin : ∀ (listed : Array Bool) (a : Act) (w : World), listed.size = ops.size → Region.ready .any ops listed = [] → Inv (fun j => listed.getD j false) a w → Q .normal a w := by
      intro listed a w hs hr hI
      refine hend _ a w (fun i => ?_) hI
      induction i using Nat.strongRecOn with
      | ind i ih =>
        intro hi
        show listed.getD i false = true
        cases hv : listed.getD i false with
        | true => rfl
        | false =>
          have hmem : i ∈ Region.ready .any ops listed := mem_ready.2 ⟨by
            have : i < listed.size := by omega
            simp only [Array.getD, this, dif_pos] at hv ⊢
            exact hv, ops[i], Array.getElem?_eq_getElem hi, fun e he hbd => by
            have := edges_spec hb (Array.getElem?_eq_getElem hi) e he hbd
            exact ih e.on this (by omega)⟩
          rw [hr] at hmem
          cases hmem
    intro fuel
    induction fuel with
    | zero =>
      intro listed a w hs hc hI
      have hr : Region.ready .any ops listed = [] := by
        refine List.eq_nil_iff_forall_not_mem.2 (fun i hi => ?_)
        obtain ⟨h1, o, ho, _⟩ := mem_ready.1 hi
        have hlt : i < listed.size := by have := (Array.getElem?_eq_some_iff.1 ho).1; omega
        simp only [Array.getD, hlt, dif_pos] at h1
        have : false ∈ listed.toList := by
          rw [← h1]; exact Array.getElem_mem_toList hlt
        have := List.count_pos_iff.2 this
        omega
      exact ⟨hr, fin listed a w hs hr hI⟩
    | succ fuel ih =>
      intro listed a w hs hc hI
      refine ⟨fun hr => fin listed a w hs hr hI, fun i hi => ?_⟩
      obtain ⟨h1, o, ho, hall⟩ := mem_ready.1 hi
      have hlt : i < listed.size := by have := (Array.getElem?_eq_some_iff.1 ho).1; omega
      refine wpOp_step ho (fun K hK => hstep i o (fun j => listed.getD j false) a w ho (by
        simp only [Array.getD, hlt, dif_pos] at h1 ⊢
        exact h1) hall hI K (fun a' w' hI' => hK a' w' (ih _ a' w' (by simp [hs]) ?_ ?_)))
      · rw [Array.toList_setIfInBounds]
        have hv : listed.toList[i]'(by simpa using hlt) = false := by
          simp only [Array.getD, hlt, dif_pos] at h1
          simpa using h1
        have hp : 0 < listed.toList.count false := List.count_pos_iff.2 (by rw [← hv]; exact List.getElem_mem _)
        rw [List.count_set (by simpa using hlt), hv]
        rw [if_pos (by decide), if_neg (by decide)]
        omega
      · have e : (fun j => (listed.setIfInBounds i true).getD j false) = fun j => if j = i then true else listed.getD j false := by
          funext j
          by_cases hj : j = i
          · subst hj; simp [Array.getD, hlt]
          · rw [if_neg hj, getD_set_ne false (Ne.symm hj)]
        rw [e]
        exact hI'
  refine wp_region_any hm (key _ _ _ _ (by simp) ?_ ?_)
  · simp
  · have e : (fun j => (Array.replicate ops.size false).getD j false) = fun _ => false := by
      funext j
      simp [Array.getD]
    rw [e]
    exact h0
end
end Go.Proofs.Ytaineoceiciloaa
