/-
  A region that draws its order, in which memory is made but none that was there is written, till one operation that is behind all others (an append in place); what stands behind it only hands on.
-/
import Derived.Test.YtdkcccigmejikaaMono
set_option linter.unusedVariables false
set_option linter.unusedSimpArgs false
namespace Go.Proofs.Ytdkcccigmejikaa
open Go.RowKit

/-- Each pair is an operation and one that it waits for. -/
def depsOk (ops : Array Oper) (Dp : List (Nat × Nat)) : Bool := Dp.all fun p => match ops[p.1]? with
  | some o => o.after.any fun e => e.on == p.2 && Region.binds .any e
  | none => false
/-- Is all below n waited for? -/
def waits (Dp : List (Nat × Nat)) : Nat → List Nat → List Nat
  | 0, l => l
  | k + 1, l => waits Dp k (l ++ (Dp.filter fun p => l.contains p.1).map (·.2))
theorem waits_ok {Dp : List (Nat × Nat)} {Ld : Nat → Bool} (h : ∀ p, p ∈ Dp → Ld p.1 = true → Ld p.2 = true) : ∀ (k : Nat) (l : List Nat), (∀ i, i ∈ l → Ld i = true) → ∀ i, i ∈ waits Dp k l → Ld i = true
  | 0, l, hl, i, hi => hl i hi
  | k + 1, l, hl, i, hi => by
    refine waits_ok h k _ (fun j hj => ?_) i hi
    rcases List.mem_append.1 hj with hj | hj
    · exact hl j hj
    · obtain ⟨p, hp, rfl⟩ := List.mem_map.1 hj
      obtain ⟨hp1, hp2⟩ := List.mem_filter.1 hp
      exact h p hp1 (hl _ (by simpa using hp2))
theorem region_then {P : Program} {ops : Array Oper} {Q : Exit → Act → World → Prop} {id : Nat} {fr : Array Value} {w : World} (hm : P.follows .mixedOrders = true) (hb : edgesBack ops = true) (S : List (Option Nat)) (hS : apartS ops S fr.size = true)
    (N : Nat) (Dp : List (Nat × Nat)) (hDp : depsOk ops Dp = true) (hN : ((List.range N).all fun i => (waits Dp N [N]).contains i) = true) (hN2 : ((List.range ops.size).all fun i => Nat.ble i N || Dp.contains (i, N)) = true) (hNs : N < ops.size)
    (T : Nat → Value → World → Prop) (hT : ∀ i v W W', T i v W → Below W.heap.size W W' → T i v W') (T0 : Nat → Value → Prop) (hT0 : ∀ i v W, T i v W → T0 i v)
    (Pf : Value → World → Prop) (T2 : Nat → Value → Value → Prop)
    (hstep : ∀ (i : Nat) (o : Oper) (V : Nat → Value) (a : Act) (W : World), i < N → ops[i]? = some o → FoundM S fr T o V a W → Below w.heap.size w W →
      ∀ K : Act → World → Prop, (∀ v W', Below W.heap.size W W' → T i v W' → K (a.put o.dst v) W') → if Region.wanted o (yielded ops a.tmps) = true then Oper.wp P o a W K Q else K (a.put o.dst undef) W)
    (hlast : ∀ (o : Oper) (V : Nat → Value) (a : Act) (W : World), ops[N]? = some o → FoundM S fr T o V a W → (∀ i, i < N → T i (V i) W) → Below w.heap.size w W →
      ∀ K : Act → World → Prop, (∀ v W', Pf v W' → K (a.put o.dst v) W') → if Region.wanted o (yielded ops a.tmps) = true then Oper.wp P o a W K Q else K (a.put o.dst undef) W)
    (hmore : ∀ (i : Nat) (o : Oper) (L : Nat → Bool) (V : Nat → Value) (a : Act) (W : World), N < i → ops[i]? = some o → FoundR S fr o L V a → Pf (V N) W → (∀ j, N < j → j < ops.size → L j = true → T2 j (V N) (V j)) →
      ∀ K : Act → World → Prop, (∀ v, T2 i (V N) v → K (a.put o.dst v) W) → if Region.wanted o (yielded ops a.tmps) = true then Oper.wp P o a W K Q else K (a.put o.dst undef) W)
    (hend : ∀ (V : Nat → Value) (W : World), (∀ i, i < N → T0 i (V i)) → Pf (V N) W → (∀ i, N < i → i < ops.size → T2 i (V N) (V i)) → Q .normal ⟨laid fr (pairsOf V 0 S), []⟩ W) : (Code.region id ops true).wp P Q ⟨fr, []⟩ w := by
  have hall : ∀ Ld : Nat → Bool, (∀ p, p ∈ Dp → Ld p.1 = true → Ld p.2 = true) → Ld N = true → ∀ i, i < N → Ld i = true := by
    intro Ld hc hn i hi
    refine waits_ok hc N [N] (fun j hj => ?_) i ?_
    · obtain rfl : j = N := by simpa using hj
      exact hn
    · have := List.all_eq_true.1 hN i (List.mem_range.2 hi)
      simpa using this
  have hup : ∀ {i : Nat} {o : Oper} {Ld : Nat → Bool} {V : Nat → Value} {a : Act}, ops[i]? = some o → FoundR S fr o Ld V a → ∀ j, (i, j) ∈ Dp → Ld j = true := by
    intro i o Ld V a ho hf j hj
    have := List.all_eq_true.1 hDp _ hj
    simp only [ho] at this
    obtain ⟨e, he1, he2⟩ := Array.any_eq_true'.1 this
    simp only [Bool.and_eq_true, beq_iff_eq] at he2
    have := hf.up e he1 he2.2
    rw [he2.1] at this; exact this
  refine region_rel hm hb S hS (fun L V W => (∀ p, p ∈ Dp → L p.1 = true → L p.2 = true) ∧ (∀ i, i < N → L i = true → T0 i (V i)) ∧ (L N = false → Below w.heap.size w W ∧ ∀ i, i < N → L i = true → T i (V i) W) ∧ (L N = true → Pf (V N) W) ∧ (∀ i, N < i → i < ops.size → L i = true → T2 i (V N) (V i))) ?_ ?_ ?_
  · exact ⟨nofun, nofun, fun _ => ⟨(Below.refl _ _).drew, nofun⟩, nofun, nofun⟩
  · rintro i o L V a W ho hL hf ⟨hc, h0, h1, h2, h3⟩ K hK
    have hcl : ∀ p, p ∈ Dp → (if p.1 = i then true else L p.1) = true → (if p.2 = i then true else L p.2) = true := by
      intro p hp hp1
      by_cases e2 : p.2 = i
      · rw [if_pos e2]
      · rw [if_neg e2]
        by_cases e1 : p.1 = i
        · exact hup ho hf p.2 (by rw [← e1]; exact hp)
        · rw [if_neg e1] at hp1; exact hc p hp hp1
    by_cases hiN : i < N
    · have hn : L N = false := by
        cases e : L N with
        | false => rfl
        | true => rw [hall L hc e i hiN] at hL; cases hL
      obtain ⟨hbw, ht⟩ := h1 hn
      have hNi : N ≠ i := by omega
      refine hstep i o V a W hiN ho ⟨fun e he hbd => ⟨?_, hf.dep e he hbd⟩, hf.rest, hf.size⟩ hbw K (fun v W' hb' hv => hK v W' ⟨hcl, ?_, ?_, ?_, ?_⟩)
      · exact ht _ (by have := edges_spec hb ho e he hbd; omega) (hf.up e he hbd)
      · intro j hj hlj
        by_cases e : j = i
        · subst e; simp only [if_pos]; exact hT0 _ _ _ hv
        · simp only [if_neg e] at hlj ⊢; exact h0 j hj hlj
      · intro _
        refine ⟨below_on hbw hbw.size hb', fun j hj hlj => ?_⟩
        by_cases e : j = i
        · subst e; simp only [if_pos]; exact hv
        · simp only [if_neg e] at hlj ⊢; exact hT j _ W W' (ht j hj hlj) hb'
      · intro h; simp only [if_neg hNi] at h; rw [hn] at h; cases h
      · intro j hj hjs hlj
        have e : j ≠ i := by omega
        simp only [if_neg e, if_neg hNi] at hlj ⊢
        exact h3 j hj hjs hlj
    · by_cases hin : i = N
      · subst hin
        obtain ⟨hbw, ht⟩ := h1 hL
        have hallT : ∀ j, j < i → T j (V j) W := fun j hj => ht j hj (hall (fun k => if k = i then true else L k) (fun p hp hp1 => hcl p hp hp1) (by simp) j hj |> fun h => by simpa [show j ≠ i by omega] using h)
        refine hlast o V a W ho ⟨fun e he hbd => ⟨?_, hf.dep e he hbd⟩, hf.rest, hf.size⟩ hallT hbw K (fun v W' hv => hK v W' ⟨hcl, ?_, ?_, ?_, ?_⟩)
        · exact hallT _ (edges_spec hb ho e he hbd)
        · intro j hj hlj
          have e : j ≠ i := by omega
          simp only [if_neg e] at hlj ⊢; exact h0 j hj hlj
        · intro h; simp at h
        · intro _; simp only [if_pos]; exact hv
        · intro j hj hjs hlj
          have e : j ≠ i := by omega
          simp only [if_neg e] at hlj
          have h8 := List.all_eq_true.1 hN2 j (List.mem_range.2 hjs)
          simp only [Bool.or_eq_true, Nat.ble_eq] at h8
          rcases h8 with h8 | h8
          · omega
          · have := hc (j, i) (by simpa using h8) hlj
            rw [hL] at this; cases this
      · have hNi : N ≠ i := fun e => hin e.symm
        have hlt : i < ops.size := (Array.getElem?_eq_some_iff.1 ho).1
        have hp : (i, N) ∈ Dp := by
          have h8 := List.all_eq_true.1 hN2 i (List.mem_range.2 hlt)
          simp only [Bool.or_eq_true, Nat.ble_eq] at h8
          rcases h8 with h8 | h8
          · omega
          · simpa using h8
        have hn := hup ho hf N hp
        refine hmore i o L V a W (by omega) ho hf (h2 hn) h3 K (fun v hv => hK v W ⟨hcl, ?_, ?_, ?_, ?_⟩)
        · intro j hj hlj
          have e : j ≠ i := by omega
          simp only [if_neg e] at hlj ⊢; exact h0 j hj hlj
        · intro h; simp only [if_neg hNi] at h; rw [hn] at h; cases h
        · intro _; simp only [if_neg hNi]; exact h2 hn
        · intro j hj hjs hlj
          by_cases e : j = i
          · subst e; simp only [if_pos, if_neg hNi]; exact hv
          · simp only [if_neg e, if_neg hNi] at hlj ⊢; exact h3 j hj hjs hlj
  · rintro L V W hl ⟨hc, h0, h1, h2, h3⟩
    exact hend V W (fun i hi => h0 i hi (hl i (by omega))) (h2 (hl N hNs)) (fun i hi hs => h3 i hi hs (hl i hs))
end Go.Proofs.Ytdkcccigmejikaa
