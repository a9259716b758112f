/-
  A region that draws its order, in which memory may be made and written: what stands between the operations' values and the world is handed on by each operation.
-/
import Derived.Test.YtaineoceiciloaaFlow
set_option linter.unusedVariables false
set_option linter.unusedSimpArgs false
namespace Go.Proofs.Ytaineoceiciloaa
open Go.RowKit
/-- Each operation that writes a slot writes one of its own. -/
def apartS (ops : Array Oper) (S : List (Option Nat)) (n : Nat) : Bool :=
  (S.length == ops.size) && ((List.range ops.size).all fun i => match ops[i]?, S[i]? with
    | some o, some none => o.dst == none
    | some o, some (some s) => o.dst == some s && Nat.blt s n && ((List.range i).all fun j => !(S[j]? == some (some s)))
    | _, _ => false)
/-- The slots with their values. -/
def pairsOf (V : Nat → Value) : Nat → List (Option Nat) → List (Nat × Value)
  | _, [] => []
  | i, none :: r => pairsOf V (i + 1) r
  | i, some s :: r => (s, V i) :: pairsOf V (i + 1) r
theorem mem_pairs {V : Nat → Value} : ∀ (S : List (Option Nat)) (i : Nat) (x : Nat × Value), x ∈ pairsOf V i S ↔ ∃ j, S[j]? = some (some x.1) ∧ x.2 = V (i + j)
  | [], i, x => by simp [pairsOf]
  | none :: r, i, x => by
    rw [pairsOf, mem_pairs r (i + 1) x]
    constructor
    · rintro ⟨j, h1, h2⟩
      exact ⟨j + 1, by simpa using h1, by rw [h2]; congr 1; omega⟩
    · rintro ⟨j, h1, h2⟩
      cases j with
      | zero => simp at h1
      | succ j => exact ⟨j, by simpa using h1, by rw [h2]; congr 1; omega⟩
  | some s :: r, i, x => by
    rw [pairsOf, List.mem_cons, mem_pairs r (i + 1) x]
    constructor
    · rintro (rfl | ⟨j, h1, h2⟩)
      · exact ⟨0, rfl, rfl⟩
      · exact ⟨j + 1, by simpa using h1, by rw [h2]; congr 1; omega⟩
    · rintro ⟨j, h1, h2⟩
      cases j with
      | zero =>
        left
        obtain ⟨x1, x2⟩ := x
        simp at h1 h2
        rw [h1, h2]
      | succ j => exact .inr ⟨j, by simpa using h1, by rw [h2]; congr 1; omega⟩
theorem laid_one {s : Nat} {v : Value} : ∀ (D : List (Nat × Value)) (fr : Array Value), (s, v) ∈ D → s < fr.size → (∀ x ∈ D, x.1 = s → x.2 = v) → (laid fr D)[s]? = some v
  | [], _, h, _, _ => by cases h
  | x :: r, fr, h, hs, hu => by
    rw [laid]
    by_cases hr : (s, v) ∈ r
    · exact laid_one r _ hr (by simpa using hs) (fun y hy => hu y (List.mem_cons_of_mem _ hy))
    · have hx : x = (s, v) := by
        rcases List.mem_cons.1 h with h | h
        · exact h.symm
        · exact absurd h hr
      subst hx
      rw [laid_off r _ (fun y hy he => hr (by
        have := hu y (List.mem_cons_of_mem _ hy) he
        obtain ⟨y1, y2⟩ := y
        simp only at he this
        rw [← he, ← this]; exact hy))]
      simp [hs]
section
variable {P : Program} {ops : Array Oper} {Q : Exit → Act → World → Prop}
theorem apartS_spec {S : List (Option Nat)} {n : Nat} (h : apartS ops S n = true) : S.length = ops.size ∧ ∀ (i : Nat) (o : Oper), ops[i]? = some o → S[i]? = some o.dst ∧ ∀ s, o.dst = some s → s < n ∧ ∀ j, j < i → S[j]? ≠ some (some s) := by
  unfold apartS at h
  rw [Bool.and_eq_true] at h
  have hl : S.length = ops.size := by simpa using h.1
  refine ⟨hl, fun i o ho => ?_⟩
  have hi : i < ops.size := (Array.getElem?_eq_some_iff.1 ho).1
  have h2 := List.all_eq_true.1 h.2 i (List.mem_range.2 hi)
  have hx : S[i]? = some S[i] := List.getElem?_eq_getElem (by omega)
  rw [ho, hx] at h2
  rw [hx]
  cases hs : S[i] with
  | none =>
    rw [hs] at h2
    have e : o.dst = none := by simpa using h2
    exact ⟨by rw [e], fun s he => by rw [e] at he; cases he⟩
  | some s =>
    rw [hs] at h2
    simp only [Bool.and_eq_true] at h2
    have e : o.dst = some s := by simpa using h2.1.1
    refine ⟨by rw [e], fun s' he => ?_⟩
    rw [e] at he
    obtain rfl := Option.some.inj he
    refine ⟨Nat.le_of_ble_eq_true h2.1.2, fun j hj hy => ?_⟩
    have h3 := List.all_eq_true.1 h2.2 j (List.mem_range.2 hj)
    rw [hy] at h3
    simp at h3
/-- What an operation finds. -/
structure FoundR (S : List (Option Nat)) (fr : Array Value) (o : Oper) (L : Nat → Bool) (V : Nat → Value) (a : Act) : Prop where
  up : ∀ e ∈ o.after, Region.binds .any e = true → L e.on = true
  dep : ∀ e ∈ o.after, Region.binds .any e = true → ∀ s, S[e.on]? = some (some s) → a.tmps.getD s undef = V e.on
  rest : ∀ s, (S.all fun x => !(x == some s)) = true → a.tmps.getD s undef = fr.getD s undef
  size : a.tmps.size = fr.size
theorem region_rel {id : Nat} {fr : Array Value} {w : World} (hm : P.follows .mixedOrders = true) (hb : edgesBack ops = true) (S : List (Option Nat)) (hS : apartS ops S fr.size = true) (R : (Nat → Bool) → (Nat → Value) → World → Prop)
    (h0 : R (fun _ => false) (fun _ => undef) w.drew)
    (hstep : ∀ (i : Nat) (o : Oper) (L : Nat → Bool) (V : Nat → Value) (a : Act) (w : World), ops[i]? = some o → L i = false → FoundR S fr o L V a → R L V w →
      ∀ K : Act → World → Prop, (∀ v w', R (fun j => if j = i then true else L j) (fun j => if j = i then v else V j) w' → K (a.put o.dst v) w') → if Region.wanted o (yielded ops a.tmps) = true then Oper.wp P o a w K Q else K (a.put o.dst undef) w)
    (hend : ∀ (L : Nat → Bool) (V : Nat → Value) (w : World), (∀ i, i < ops.size → L i = true) → R L V w → Q .normal ⟨laid fr (pairsOf V 0 S), []⟩ w) : (Code.region id ops true).wp P Q ⟨fr, []⟩ w := by
  obtain ⟨hlen, hap⟩ := apartS_spec hS
  refine region_inv hm hb (fun L a w => ∃ V : Nat → Value, a.defers = [] ∧ a.tmps.size = fr.size ∧ (∀ i s, L i = true → S[i]? = some (some s) → a.tmps[s]? = some (V i)) ∧ (∀ s, (∀ x ∈ S, x ≠ some s) → a.tmps[s]? = fr[s]?) ∧ R L V w) ?_ ?_ ?_
  · exact ⟨_, rfl, rfl, nofun, fun _ _ => rfl, h0⟩
  · rintro i o L a w ho hL hd ⟨V, hdf, hsz, hon, hoff, hk⟩ K hK
    obtain ⟨hx, hs⟩ := hap i o ho
    refine hstep i o L V a w ho hL ⟨hd, ?_, ?_, hsz⟩ hk K (fun v w' hk' => hK _ _ ⟨_, ?_, ?_, ?_, ?_, hk'⟩)
    · intro e he hbd s' hx'
      rw [Array.getD_eq_getD_getElem?, hon e.on s' (hd e he hbd) hx']; rfl
    · intro s' hs'
      rw [Array.getD_eq_getD_getElem?, Array.getD_eq_getD_getElem?, hoff s' (fun x hx => by
        have := List.all_eq_true.1 hs' x hx
        simpa using this)]
    · cases hd : o.dst <;> exact hdf
    · cases hd : o.dst <;> simp [Act.put, hsz]
    · intro j s' hj hx'
      by_cases hji : j = i
      · subst hji
        have hds : o.dst = some s' := by rw [hx] at hx'; exact Option.some.inj hx'
        rw [hds]
        show (a.tmps.setIfInBounds s' v)[s']? = some (if j = j then v else V j)
        rw [Array.getElem?_setIfInBounds]
        simp [hsz, (hs s' hds).1]
      · replace hj : (if j = i then true else L j) = true := hj
        rw [if_neg hji] at hj
        show _ = some (if j = i then v else V j)
        rw [if_neg hji]
        cases hdo : o.dst with
        | none => exact hon j s' hj hx'
        | some s =>
          have hne : s ≠ s' := by
            rintro rfl
            rcases Nat.lt_or_gt_of_ne hji with h | h
            · exact (hs s hdo).2 j h hx'
            · have hjl : j < ops.size := by
                have := (List.getElem?_eq_some_iff.1 hx').1
                omega
              obtain ⟨hy, hbj⟩ := hap j _ (Array.getElem?_eq_getElem hjl)
              rw [hx'] at hy
              exact (hbj s (Option.some.inj hy).symm).2 i h (by rw [hx, hdo])
          show (a.tmps.setIfInBounds s v)[s']? = some (V j)
          rw [Array.getElem?_setIfInBounds, if_neg hne]
          exact hon j s' hj hx'
    · intro s' hs'
      cases hdo : o.dst with
      | none => exact hoff s' hs'
      | some s =>
        show (a.tmps.setIfInBounds s v)[s']? = fr[s']?
        rw [Array.getElem?_setIfInBounds, if_neg (fun he => hs' (some s) (List.mem_of_getElem? (by rw [hx, hdo])) (by rw [he]))]
        exact hoff s' hs'
  · rintro L a w hall ⟨V, hdf, hsz, hon, hoff, hk⟩
    have : a = ⟨laid fr (pairsOf V 0 S), []⟩ := by
      obtain ⟨t, d⟩ := a
      simp only at hdf hsz hon hoff
      subst hdf
      congr 1
      apply Array.ext_getElem?
      intro s
      by_cases hin : ∀ x ∈ S, x ≠ some s
      · rw [hoff s hin, laid_off _ fr (fun x hx he => ?_)]
        obtain ⟨j, h1, _⟩ := (mem_pairs S 0 x).1 hx
        rw [he] at h1
        exact hin _ (List.mem_of_getElem? h1) rfl
      · have : ∃ x ∈ S, x = some s := by
          apply Classical.byContradiction
          intro hc
          exact hin (fun x hx he => hc ⟨x, hx, he⟩)
        obtain ⟨_, hx, rfl⟩ := this
        obtain ⟨i, hi, hiv⟩ := List.mem_iff_getElem.1 hx
        have hx' : S[i]? = some (some s) := by rw [List.getElem?_eq_getElem hi, hiv]
        have hio : i < ops.size := by omega
        obtain ⟨hy, hs⟩ := hap i _ (Array.getElem?_eq_getElem hio)
        rw [hx'] at hy
        have hds := (Option.some.inj hy).symm
        rw [hon i s (hall i hio) hx', laid_one _ fr ((mem_pairs S 0 (s, V i)).2 ⟨i, hx', by simp⟩) (hs s hds).1 ?_]
        rintro ⟨y1, y2⟩ hy' he
        simp only at he
        subst he
        obtain ⟨j, h1, h2⟩ := (mem_pairs S 0 (y1, y2)).1 hy'
        simp only [Nat.zero_add] at h1 h2
        have hji : j = i := by
          apply Classical.byContradiction
          intro hji
          rcases Nat.lt_or_gt_of_ne hji with h | h
          · exact (hs _ hds).2 j h h1
          · have hjl : j < ops.size := by
              have := (List.getElem?_eq_some_iff.1 h1).1
              omega
            obtain ⟨hz, hbj⟩ := hap j _ (Array.getElem?_eq_getElem hjl)
            rw [h1] at hz
            exact (hbj _ (Option.some.inj hz).symm).2 i h hx'
        subst hji
        exact h2
    subst this
    exact hend L V w hall hk
end
end Go.Proofs.Ytaineoceiciloaa
