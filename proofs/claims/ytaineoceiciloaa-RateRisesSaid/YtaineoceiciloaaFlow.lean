/-
  A region that draws its order, each of whose operations yields one known value whatever the order: it ends with all of these values.
-/
import Derived.Test.YtaineoceiciloaaInv
set_option linter.unusedVariables false
set_option linter.unusedSimpArgs false
namespace Go.Proofs.Ytaineoceiciloaa
open Go.RowKit
/-- The frame with the values laid in, in turn. -/
def laid (fr : Array Value) : List (Nat × Value) → Array Value
  | [] => fr
  | x :: r => laid (fr.setIfInBounds x.1 x.2) r
/-- Each operation writes a slot of its own. -/
def apartB (ops : Array Oper) (D : List (Nat × Value)) (n : Nat) : Bool :=
  (D.length == ops.size) && ((List.range ops.size).all fun i => match ops[i]?, D[i]? with
    | some o, some x => o.dst == some x.1 && Nat.blt x.1 n && ((List.range i).all fun j => match D[j]? with | some y => !(y.1 == x.1) | none => false)
    | _, _ => false)
theorem laid_size (D : List (Nat × Value)) (fr : Array Value) : (laid fr D).size = fr.size := by
  induction D generalizing fr with
  | nil => rfl
  | cons x r ih => rw [laid, ih]; simp
theorem laid_off {s : Nat} : ∀ (D : List (Nat × Value)) (fr : Array Value), (∀ x ∈ D, x.1 ≠ s) → (laid fr D)[s]? = fr[s]?
  | [], _, _ => rfl
  | x :: r, fr, h => by
    rw [laid, laid_off r _ (fun y hy => h y (List.mem_cons_of_mem _ hy)), Array.getElem?_setIfInBounds]
    rw [if_neg (h x (List.mem_cons_self ..))]
theorem laid_on {s : Nat} {v : Value} : ∀ (D : List (Nat × Value)) (fr : Array Value) (i : Nat), D[i]? = some (s, v) → s < fr.size → (∀ j y, i < j → D[j]? = some y → y.1 ≠ s) → (laid fr D)[s]? = some v
  | [], _, i, h, _, _ => by simp at h
  | x :: r, fr, 0, h, hs, hn => by
    obtain rfl : x = (s, v) := by simpa using h
    rw [laid, laid_off r _ (fun y hy => by
      obtain ⟨j, hj, rfl⟩ := List.mem_iff_getElem.1 hy
      exact hn (j + 1) _ (by omega) (by simp [hj]))]
    simp [hs]
  | x :: r, fr, i + 1, h, hs, hn => by
    rw [laid]
    exact laid_on r _ i (by simpa using h) (by simpa using hs) (fun j y hj hy => hn (j + 1) y (by omega) (by simpa using hy))
section
variable {P : Program} {ops : Array Oper} {Q : Exit → Act → World → Prop}
theorem apart_spec {D : List (Nat × Value)} {n : Nat} (h : apartB ops D n = true) : D.length = ops.size ∧ ∀ (i : Nat) (o : Oper), ops[i]? = some o → ∃ x : Nat × Value, D[i]? = some x ∧ o.dst = some x.1 ∧ x.1 < n ∧ ∀ (j : Nat) (y : Nat × Value), j < i → D[j]? = some y → y.1 ≠ x.1 := by
  unfold apartB at h
  rw [Bool.and_eq_true] at h
  have hl : D.length = ops.size := by simpa using h.1
  refine ⟨hl, fun i o ho => ?_⟩
  have hi : i < ops.size := (Array.getElem?_eq_some_iff.1 ho).1
  have h2 := List.all_eq_true.1 h.2 i (List.mem_range.2 hi)
  have hx : D[i]? = some D[i] := List.getElem?_eq_getElem (by omega)
  rw [ho, hx] at h2
  simp only [Bool.and_eq_true] at h2
  refine ⟨_, hx, by simpa using h2.1.1, Nat.le_of_ble_eq_true h2.1.2, fun j y hj hy => ?_⟩
  have h3 := List.all_eq_true.1 h2.2 j (List.mem_range.2 hj)
  rw [hy] at h3
  simpa using h3
/-- What an operation finds: each operation that it waits for has left its value; the other slots are as they were. -/
structure Found (ops : Array Oper) (D : List (Nat × Value)) (fr : Array Value) (o : Oper) (a : Act) : Prop where
  dep : ∀ e ∈ o.after, Region.binds .any e = true → ∀ s v, D[e.on]? = some (s, v) → a.tmps.getD s undef = v
  rest : ∀ s, (D.all fun x => !(x.1 == s)) = true → a.tmps.getD s undef = fr.getD s undef
  size : a.tmps.size = fr.size
theorem region_flow {id : Nat} {fr : Array Value} {w : World} (hm : P.follows .mixedOrders = true) (hb : edgesBack ops = true) (D : List (Nat × Value)) (hD : apartB ops D fr.size = true) (Keep : World → Prop)
    (h0 : Keep w.drew)
    (hstep : ∀ (i : Nat) (o : Oper) (s : Nat) (v : Value) (a : Act) (w : World), ops[i]? = some o → D[i]? = some (s, v) → Found ops D fr o a → Keep w →
      ∀ K : Act → World → Prop, (∀ w', Keep w' → K (a.put o.dst v) w') → if Region.wanted o (yielded ops a.tmps) = true then Oper.wp P o a w K Q else K (a.put o.dst undef) w)
    (hend : ∀ w, Keep w → Q .normal ⟨laid fr D, []⟩ w) : (Code.region id ops true).wp P Q ⟨fr, []⟩ w := by
  obtain ⟨hlen, hap⟩ := apart_spec hD
  refine region_inv hm hb (fun L a w => a.defers = [] ∧ a.tmps.size = fr.size ∧ (∀ i s v, L i = true → D[i]? = some (s, v) → a.tmps[s]? = some v) ∧ (∀ s, (∀ x ∈ D, x.1 ≠ s) → a.tmps[s]? = fr[s]?) ∧ Keep w) ?_ ?_ ?_
  · exact ⟨rfl, rfl, nofun, fun _ _ => rfl, h0⟩
  · rintro i o L a w ho hL hd ⟨hdf, hsz, hon, hoff, hk⟩ K hK
    obtain ⟨⟨s, v⟩, hx, hdst, hs, hbef⟩ := hap i o ho
    simp only at hdst hs hbef
    refine hstep i o s v a w ho hx ⟨?_, ?_, hsz⟩ hk K (fun w' hk' => hK _ _ ?_)
    · intro e he hbd s' v' hx'
      rw [Array.getD_eq_getD_getElem?, hon e.on s' v' (hd e he hbd) hx']; rfl
    · intro s' hs'
      rw [Array.getD_eq_getD_getElem?, Array.getD_eq_getD_getElem?, hoff s' (fun x hx => by
        have := List.all_eq_true.1 hs' x hx
        simpa using this)]
    · rw [hdst]
      refine ⟨hdf, by simp [Act.put, hsz], ?_, ?_, hk'⟩
      · intro j s' v' hj hx'
        show (a.tmps.setIfInBounds s v)[s']? = some v'
        rw [Array.getElem?_setIfInBounds]
        by_cases hji : j = i
        · subst hji
          rw [hx] at hx'
          obtain ⟨rfl, rfl⟩ := Prod.mk.inj (Option.some.inj hx')
          simp [hsz, hs]
        · replace hj : (if j = i then true else L j) = true := hj
          rw [if_neg hji] at hj
          have hne : s ≠ s' := by
            rcases Nat.lt_or_gt_of_ne hji with h | h
            · exact (hbef j _ h hx').symm
            · have hjl : j < ops.size := by
                have := (List.getElem?_eq_some_iff.1 hx').1
                omega
              obtain ⟨y, hy, _, _, hbj⟩ := hap j _ (Array.getElem?_eq_getElem hjl)
              rw [hx'] at hy
              obtain rfl := Option.some.inj hy
              exact hbj i _ h hx
          rw [if_neg hne]
          exact hon j s' v' hj hx'
      · intro s' hs'
        show (a.tmps.setIfInBounds s v)[s']? = fr[s']?
        rw [Array.getElem?_setIfInBounds, if_neg (hs' (s, v) (List.mem_of_getElem? hx))]
        exact hoff s' hs'
  · rintro L a w hall ⟨hdf, hsz, hon, hoff, hk⟩
    have : a = ⟨laid fr D, []⟩ := by
      obtain ⟨t, d⟩ := a
      simp only at hdf hsz hon hoff
      subst hdf
      congr 1
      apply Array.ext_getElem?
      intro s
      by_cases hin : ∀ x ∈ D, x.1 ≠ s
      · rw [hoff s hin, laid_off D fr hin]
      · have : ∃ x ∈ D, x.1 = s := by
          apply Classical.byContradiction
          intro hc
          exact hin (fun x hx he => hc ⟨x, hx, he⟩)
        obtain ⟨⟨s', v⟩, hx, rfl⟩ := this
        obtain ⟨i, hi, hiv⟩ := List.mem_iff_getElem.1 hx
        have hx' : D[i]? = some (s', v) := by rw [List.getElem?_eq_getElem hi, hiv]
        have hio : i < ops.size := by omega
        obtain ⟨y, hy, _, hs, hbef⟩ := hap i _ (Array.getElem?_eq_getElem hio)
        rw [hx'] at hy
        obtain rfl := Option.some.inj hy
        rw [hon i s' v (hall i hio) hx', laid_on D fr i hx' hs (fun j z hj hz => ?_)]
        have hjl : j < ops.size := by
          have := (List.getElem?_eq_some_iff.1 hz).1
          omega
        obtain ⟨y, hy, _, _, hbj⟩ := hap j _ (Array.getElem?_eq_getElem hjl)
        rw [hz] at hy
        obtain rfl := Option.some.inj hy
        exact (hbj i _ hj hx').symm
    subst this
    exact hend w hk
theorem wanted_yes {o : Oper} {a : Act} {g : Nat} {b : Bool} {og : Oper} {s : Nat} (hg : o.guard = some (g, b)) (ho : ops[g]? = some og) (hs : og.dst = some s) (hl : s < a.tmps.size) (hv : a.tmps.getD s undef = .bool b) : Region.wanted o (yielded ops a.tmps) = true := by
  have e : a.tmps[s]? = some (.bool b) := by
    rw [Array.getD_eq_getD_getElem?, Array.getElem?_eq_getElem hl] at hv
    rw [Array.getElem?_eq_getElem hl]; exact congrArg some hv
  unfold Region.wanted
  rw [hg]
  simp only [yielded, ho, hs, Option.bind_some, e]
  simp
theorem wanted_no {o : Oper} {a : Act} {g : Nat} {b c : Bool} {og : Oper} {s : Nat} (hg : o.guard = some (g, b)) (ho : ops[g]? = some og) (hs : og.dst = some s) (hl : s < a.tmps.size) (hv : a.tmps.getD s undef = .bool c) (hbc : (c == b) = false) : ¬ Region.wanted o (yielded ops a.tmps) = true := by
  have e : a.tmps[s]? = some (.bool c) := by
    rw [Array.getD_eq_getD_getElem?, Array.getElem?_eq_getElem hl] at hv
    rw [Array.getElem?_eq_getElem hl]; exact congrArg some hv
  unfold Region.wanted
  rw [hg]
  simp only [yielded, ho, hs, Option.bind_some, e]
  simpa using hbc
theorem wanted_undef {o : Oper} {a : Act} {g : Nat} {b : Bool} {og : Oper} {s : Nat} (hg : o.guard = some (g, b)) (ho : ops[g]? = some og) (hs : og.dst = some s) (hl : s < a.tmps.size) (hv : a.tmps.getD s undef = undef) : ¬ Region.wanted o (yielded ops a.tmps) = true := by
  have e : a.tmps[s]? = some undef := by
    rw [Array.getD_eq_getD_getElem?, Array.getElem?_eq_getElem hl] at hv
    rw [Array.getElem?_eq_getElem hl]; exact congrArg some hv
  unfold Region.wanted
  rw [hg]
  simp only [yielded, ho, hs, Option.bind_some, e]
  simp [undef]
end
end Go.Proofs.Ytaineoceiciloaa
