/-
  A region that draws its order, in which memory is made but none that was there is written: what each operation yields is told of its value and of every later world.
-/
import Derived.Test.YtaineoceiciloaaRel
set_option linter.unusedVariables false
set_option linter.unusedSimpArgs false
namespace Go.Proofs.Ytaineoceiciloaa
open Go.RowKit
/-- What an operation finds. -/
structure FoundM (S : List (Option Nat)) (fr : Array Value) (T : Nat → Value → World → Prop) (o : Oper) (V : Nat → Value) (a : Act) (W : World) : Prop where
  dep : ∀ e ∈ o.after, Region.binds .any e = true → T e.on (V e.on) W ∧ ∀ s, S[e.on]? = some (some s) → a.tmps.getD s undef = V e.on
  rest : ∀ s, (S.all fun x => !(x == some s)) = true → a.tmps.getD s undef = fr.getD s undef
  size : a.tmps.size = fr.size
theorem region_mono {P : Program} {ops : Array Oper} {Q : Exit → Act → World → Prop} {id : Nat} {fr : Array Value} {w : World} (hm : P.follows .mixedOrders = true) (hb : edgesBack ops = true) (S : List (Option Nat)) (hS : apartS ops S fr.size = true)
    (B : Nat) (w0 : World) (hB : Below B w0 w) (hB0 : B ≤ w0.heap.size) (T : Nat → Value → World → Prop) (hT : ∀ i v W W', T i v W → Below W.heap.size W W' → T i v W')
    (hstep : ∀ (i : Nat) (o : Oper) (V : Nat → Value) (a : Act) (W : World), ops[i]? = some o → FoundM S fr T o V a W → Below w.heap.size w W →
      ∀ K : Act → World → Prop, (∀ v W', Below W.heap.size W W' → T i v W' → K (a.put o.dst v) W') → if Region.wanted o (yielded ops a.tmps) = true then Oper.wp P o a W K Q else K (a.put o.dst undef) W)
    (hend : ∀ (V : Nat → Value) (W : World), (∀ i, i < ops.size → T i (V i) W) → Below w.heap.size w W → Below B w0 W → Q .normal ⟨laid fr (pairsOf V 0 S), []⟩ W) : (Code.region id ops true).wp P Q ⟨fr, []⟩ w := by
  refine region_rel hm hb S hS (fun L V W => Below w.heap.size w W ∧ ∀ i, L i = true → T i (V i) W) ?_ ?_ ?_
  · exact ⟨(Below.refl _ _).drew, nofun⟩
  · rintro i o L V a W ho hL hf ⟨hbw, hall⟩ K hK
    refine hstep i o V a W ho ⟨fun e he hbd => ⟨hall _ (hf.up e he hbd), hf.dep e he hbd⟩, hf.rest, hf.size⟩ hbw K (fun v W' hb' ht => hK v W' ⟨below_on hbw hbw.size hb', fun j hj => ?_⟩)
    by_cases hji : j = i
    · subst hji
      show T j (if j = j then v else V j) W'
      rw [if_pos rfl]; exact ht
    · replace hj : (if j = i then true else L j) = true := hj
      rw [if_neg hji] at hj
      show T j (if j = i then v else V j) W'
      rw [if_neg hji]
      exact hT j _ W W' (hall j hj) hb'
  · rintro L V W hall ⟨hbw, ht⟩
    exact hend V W (fun i hi => ht i (hall i hi)) hbw (below_on hB (Nat.le_trans hB0 hB.size) hbw)
/-- As 'region_mono', under whatever order of worlds. -/
theorem region_ext {P : Program} {ops : Array Oper} {Q : Exit → Act → World → Prop} {id : Nat} {fr : Array Value} {w : World} (hm : P.follows .mixedOrders = true) (hb : edgesBack ops = true) (S : List (Option Nat)) (hS : apartS ops S fr.size = true)
    (E : World → World → Prop) (hEt : ∀ a b c, E a b → E b c → E a c) (hEd : E w w.drew) (T : Nat → Value → World → Prop) (hT : ∀ i v W W', T i v W → E W W' → T i v W')
    (hstep : ∀ (i : Nat) (o : Oper) (V : Nat → Value) (a : Act) (W : World), ops[i]? = some o → FoundM S fr T o V a W → E w W →
      ∀ K : Act → World → Prop, (∀ v W', E W W' → T i v W' → K (a.put o.dst v) W') → if Region.wanted o (yielded ops a.tmps) = true then Oper.wp P o a W K Q else K (a.put o.dst undef) W)
    (hend : ∀ (V : Nat → Value) (W : World), (∀ i, i < ops.size → T i (V i) W) → E w W → Q .normal ⟨laid fr (pairsOf V 0 S), []⟩ W) : (Code.region id ops true).wp P Q ⟨fr, []⟩ w := by
  refine region_rel hm hb S hS (fun L V W => E w W ∧ ∀ i, L i = true → T i (V i) W) ?_ ?_ ?_
  · exact ⟨hEd, nofun⟩
  · rintro i o L V a W ho hL hf ⟨hbw, hall⟩ K hK
    refine hstep i o V a W ho ⟨fun e he hbd => ⟨hall _ (hf.up e he hbd), hf.dep e he hbd⟩, hf.rest, hf.size⟩ hbw K (fun v W' hb' ht => hK v W' ⟨hEt _ _ _ hbw hb', fun j hj => ?_⟩)
    by_cases hji : j = i
    · subst hji
      show T j (if j = j then v else V j) W'
      rw [if_pos rfl]; exact ht
    · replace hj : (if j = i then true else L j) = true := hj
      rw [if_neg hji] at hj
      show T j (if j = i then v else V j) W'
      rw [if_neg hji]
      exact hT j _ W W' (hall j hj) hb'
  · rintro L V W hall ⟨hbw, ht⟩
    exact hend V W (fun i hi => ht i (hall i hi)) hbw
end Go.Proofs.Ytaineoceiciloaa
