/-
  A region that draws its order and ends in stores (each behind all that stands ahead of it): what is ahead makes memory at most.
-/
import Derived.Test.YteghjdmalbcdfaaMono
set_option linter.unusedVariables false
set_option linter.unusedSimpArgs false
namespace Go.Proofs.Yteghjdmalbcdfaa
open Go.RowKit
/-- Are the operations from N on each behind all ahead of them? -/
def tailB (ops : Array Oper) (N : Nat) : Bool :=
  (List.range ops.size).all fun i => decide (i < N) || ((ops[i]?).any fun o => (List.range i).all fun j => o.after.any fun e => e.on == j && Region.binds .any e)
theorem tailB_spec {ops : Array Oper} {N : Nat} (h : tailB ops N = true) {i : Nat} {o : Oper} (ho : ops[i]? = some o) (hN : N ≤ i) {j : Nat} (hj : j < i) : ∃ e ∈ o.after, e.on = j ∧ Region.binds .any e = true := by
  have hi : i < ops.size := (Array.getElem?_eq_some_iff.1 ho).1
  have h1 := List.all_eq_true.1 h i (List.mem_range.2 hi)
  rw [ho] at h1
  rcases Bool.or_eq_true _ _ ▸ h1 with h2 | h2
  · have := of_decide_eq_true h2; omega
  · have h3 := List.all_eq_true.1 h2 j (List.mem_range.2 hj)
    obtain ⟨e, he, h4⟩ := Array.any_eq_true'.1 h3
    rw [Bool.and_eq_true] at h4
    exact ⟨e, he, by simpa using h4.1, h4.2⟩
/-- What an operation of the tail finds. -/
structure FoundT (S : List (Option Nat)) (fr : Array Value) (o : Oper) (V : Nat → Value) (a : Act) : Prop where
  dep : ∀ e ∈ o.after, Region.binds .any e = true → ∀ s, S[e.on]? = some (some s) → a.tmps.getD s undef = V e.on
  rest : ∀ s, (S.all fun x => !(x == some s)) = true → a.tmps.getD s undef = fr.getD s undef
  size : a.tmps.size = fr.size
/-- Blocks that are made apart. -/
def Apart (D : List Nat) (V : Nat → Value) : Prop := ∀ i j, D.contains i = true → D.contains j = true → i ≠ j → ∀ g g', V i = .pointer (some ⟨g, 0, none⟩) → V j = .pointer (some ⟨g', 0, none⟩) → g ≠ g'
/-- The world behind a store through a pointer. -/
def stc (v : Value) (C : List Value) (W : World) : World := match v with | .pointer (some a) => W.setCells a.block a.off C | _ => W
theorem region_tail {P : Program} {ops : Array Oper} {Q : Exit → Act → World → Prop} {id : Nat} {fr : Array Value} {w : World} (hm : P.follows .mixedOrders = true) (hb : edgesBack ops = true) (S : List (Option Nat)) (hS : apartS ops S fr.size = true)
    (N : Nat) (hNs : N ≤ ops.size) (hN : tailB ops N = true) (D : List Nat) (hD : (D.all fun i => decide (i < N)) = true)
    (B : Nat) (w0 : World) (hB : Below B w0 w) (hB0 : B ≤ w0.heap.size) (T : Nat → Value → World → Prop) (hT : ∀ i v W W', T i v W → Below W.heap.size W W' → T i v W')
    (hTD : ∀ i v W g, D.contains i = true → T i v W → v = .pointer (some ⟨g, 0, none⟩) → g < W.heap.size)
    (Z : Nat → (Nat → Value) → World → World → Prop) (hZ0 : ∀ V W, Z 0 V W W) (hZ1 : ∀ V W W', Z 0 V W W' → W' = W) (hZV : ∀ t V V' W W', (∀ i, i < N → V i = V' i) → Z t V W W' → Z t V' W W')
    (hstep : ∀ (i : Nat) (o : Oper) (V : Nat → Value) (a : Act) (W : World), i < N → ops[i]? = some o → FoundM S fr T o V a W → Below w.heap.size w W →
      ∀ K : Act → World → Prop, (∀ v W', Below W.heap.size W W' → T i v W' → (D.contains i = true → ∃ g, v = .pointer (some ⟨g, 0, none⟩) ∧ W.heap.size ≤ g) → K (a.put o.dst v) W') → if Region.wanted o (yielded ops a.tmps) = true then Oper.wp P o a W K Q else K (a.put o.dst undef) W)
    (htail : ∀ (j : Nat) (o : Oper) (V : Nat → Value) (a : Act) (W W1 : World), ops[N + j]? = some o → FoundT S fr o V a → Below w.heap.size w W → (∀ i, i < N → T i (V i) W) → Apart D V → Z j V W W1 →
      ∀ K : Act → World → Prop, (∀ v W2, Z (j + 1) V W W2 → K (a.put o.dst v) W2) → if Region.wanted o (yielded ops a.tmps) = true then Oper.wp P o a W1 K Q else K (a.put o.dst undef) W1)
    (hend : ∀ (V : Nat → Value) (W W1 : World), (∀ i, i < N → T i (V i) W) → Apart D V → Below w.heap.size w W → Below B w0 W → Z (ops.size - N) V W W1 → Q .normal ⟨laid fr (pairsOf V 0 S), []⟩ W1) : (Code.region id ops true).wp P Q ⟨fr, []⟩ w := by
  have hDN : ∀ i, D.contains i = true → i < N := fun i hi => by
    have := List.all_eq_true.1 hD i (List.contains_iff_mem.1 hi)
    exact of_decide_eq_true this
  refine region_rel hm hb S hS (fun L V W => ∃ (t : Nat) (W0 : World), (∀ j, L (N + j) = true ↔ j < t) ∧ (∀ i, i < N → L i = true → T i (V i) W0) ∧ (0 < t → ∀ i, i < N → L i = true) ∧ t ≤ ops.size - N ∧ (∀ i j, D.contains i = true → D.contains j = true → i ≠ j → L i = true → L j = true → ∀ g g', V i = .pointer (some ⟨g, 0, none⟩) → V j = .pointer (some ⟨g', 0, none⟩) → g ≠ g') ∧ Below w.heap.size w W0 ∧ Z t V W0 W) ?_ ?_ ?_
  · exact ⟨0, w.drew, fun j => ⟨nofun, fun h => absurd h (Nat.not_lt_zero _)⟩, fun _ _ => nofun, fun h => absurd h (Nat.lt_irrefl _), Nat.zero_le _, fun _ _ _ _ _ => nofun, (Below.refl _ _).drew, hZ0 _ _⟩
  · rintro i o L V a W ho hL hf ⟨t, W0, h1, h2, h3, h4, h5, hbw, hz⟩ K hK
    by_cases hi : i < N
    · have ht : t = 0 := by
        rcases Nat.eq_zero_or_pos t with h | h
        · exact h
        · rw [h3 h i hi] at hL; cases hL
      subst ht
      obtain rfl := hZ1 _ _ _ hz
      have hNL : ∀ e ∈ o.after, Region.binds .any e = true → e.on < N := by
        intro e he hbd
        apply Nat.lt_of_not_le
        intro hle
        have := (h1 (e.on - N)).1 (by rw [show N + (e.on - N) = e.on from by omega]; exact hf.up e he hbd)
        omega
      refine hstep i o V a W hi ho ⟨fun e he hbd => ⟨h2 _ (hNL e he hbd) (hf.up e he hbd), hf.dep e he hbd⟩, hf.rest, hf.size⟩ hbw K (fun v W' hb' ht hfr => hK v W' ⟨0, W', fun j => ?_, fun j hjN hj => ?_, fun h => absurd h (Nat.lt_irrefl _), Nat.zero_le _, fun j k hj hk hjk hLj hLk g g' hgj hgk => ?_, below_on hbw hbw.size hb', hZ0 _ _⟩)
      · show (if N + j = i then true else L (N + j)) = true ↔ _
        rw [if_neg (by omega)]
        exact h1 j
      · by_cases hji : j = i
        · subst hji
          show T j (if j = j then v else V j) W'
          rw [if_pos rfl]; exact ht
        · replace hj : (if j = i then true else L j) = true := hj
          rw [if_neg hji] at hj
          show T j (if j = i then v else V j) W'
          rw [if_neg hji]
          exact hT j _ W W' (h2 j hjN hj) hb'
      · replace hLj : (if j = i then true else L j) = true := hLj
        replace hLk : (if k = i then true else L k) = true := hLk
        replace hgj : (if j = i then v else V j) = _ := hgj
        replace hgk : (if k = i then v else V k) = _ := hgk
        by_cases hji : j = i
        · subst hji
          rw [if_pos rfl] at hgj
          rw [if_neg (fun e => hjk e.symm)] at hLk hgk
          obtain ⟨g0, e0, hg0⟩ := hfr hj
          rw [hgj] at e0
          have eg : g = g0 := by simpa using e0
          have := hTD k _ W g' hk (h2 k (hDN k hk) hLk) hgk
          omega
        · rw [if_neg hji] at hLj hgj
          by_cases hki : k = i
          · subst hki
            rw [if_pos rfl] at hgk
            obtain ⟨g0, e0, hg0⟩ := hfr hk
            rw [hgk] at e0
            have eg : g' = g0 := by simpa using e0
            have := hTD j _ W g hj (h2 j (hDN j hj) hLj) hgj
            omega
          · rw [if_neg hki] at hLk hgk
            exact h5 j k hj hk hjk hLj hLk g g' hgj hgk
    · obtain ⟨j, rfl⟩ : ∃ j, i = N + j := ⟨i - N, by omega⟩
      have hup : ∀ k, k < N + j → L k = true := by
        intro k hk
        obtain ⟨e, he, he1, he2⟩ := tailB_spec hN ho (by omega) hk
        rw [← he1]; exact hf.up e he he2
      have ht : t = j := by
        have ha : ¬ j < t := fun h => by rw [(h1 j).2 h] at hL; cases hL
        rcases Nat.eq_zero_or_pos j with h | h
        · omega
        · have := (h1 (j - 1)).1 (hup _ (by omega))
          omega
      subst ht
      refine htail t o V a W0 W ho ⟨hf.dep, hf.rest, hf.size⟩ hbw (fun i hi => h2 i hi (hup i (by omega))) (fun i k hi hk hik g g' => h5 i k hi hk hik (hup i (by have := hDN i hi; omega)) (hup k (by have := hDN k hk; omega)) g g') hz K (fun v W2 hz2 => hK v W2 ⟨t + 1, W0, fun j => ?_, fun j hjN hj => ?_, fun _ j hjN => ?_, by have := (Array.getElem?_eq_some_iff.1 ho).1; omega, fun j k hj hk hjk hLj hLk g g' hgj hgk => ?_, hbw, hZV _ V _ _ _ (fun i hi => ?_) hz2⟩)
      · show (if N + j = N + t then true else L (N + j)) = true ↔ _
        by_cases hjt : j = t
        · subst hjt; simp
        · rw [if_neg (by omega), h1 j]; omega
      · show T j (if j = N + t then v else V j) W0
        rw [if_neg (by omega)]
        replace hj : (if j = N + t then true else L j) = true := hj
        rw [if_neg (by omega)] at hj
        exact h2 j hjN hj
      · show (if j = N + t then true else L j) = true
        rw [if_neg (by omega)]
        exact hup j (by omega)
      · have nj := hDN j hj
        have nk := hDN k hk
        replace hgj : (if j = N + t then v else V j) = _ := hgj
        replace hgk : (if k = N + t then v else V k) = _ := hgk
        rw [if_neg (by omega)] at hgj hgk
        exact h5 j k hj hk hjk (hup j (by omega)) (hup k (by omega)) g g' hgj hgk
      · show V i = if i = N + t then v else V i
        rw [if_neg (by omega)]
  · rintro L V W hall ⟨t, W0, h1, h2, h3, h4, h5, hbw, hz⟩
    have ht : t = ops.size - N := by
      apply Nat.le_antisymm h4
      apply Nat.le_of_not_lt
      intro hlt
      have := (h1 t).1 (hall _ (by omega))
      omega
    subst ht
    exact hend V W0 W (fun i hi => h2 i hi (hall i (by omega))) (fun i k hi hk hik g g' => h5 i k hi hk hik (hall i (by have := hDN i hi; omega)) (hall k (by have := hDN k hk; omega)) g g') hbw (below_on hB (Nat.le_trans hB0 hB.size) hbw) hz
/-- As 'tailB', but for operations that float: these touch no memory. -/
def tailF (ops : Array Oper) (N : Nat) (F : List Nat) : Bool :=
  (List.range ops.size).all fun i => decide (i < N) || ((ops[i]?).any fun o => (List.range i).all fun j => F.contains j || o.after.any fun e => e.on == j && Region.binds .any e)
theorem tailF_spec {ops : Array Oper} {N : Nat} {F : List Nat} (h : tailF ops N F = true) {i : Nat} {o : Oper} (ho : ops[i]? = some o) (hN : N ≤ i) {j : Nat} (hj : j < i) (hF : F.contains j = false) : ∃ e ∈ o.after, e.on = j ∧ Region.binds .any e = true := by
  have hi : i < ops.size := (Array.getElem?_eq_some_iff.1 ho).1
  have h1 := List.all_eq_true.1 h i (List.mem_range.2 hi)
  rw [ho] at h1
  rcases Bool.or_eq_true _ _ ▸ h1 with h2 | h2
  · have := of_decide_eq_true h2; omega
  · have h3 := List.all_eq_true.1 h2 j (List.mem_range.2 hj)
    rw [hF, Bool.false_or] at h3
    obtain ⟨e, he, h4⟩ := Array.any_eq_true'.1 h3
    rw [Bool.and_eq_true] at h4
    exact ⟨e, he, by simpa using h4.1, h4.2⟩
/-- As 'region_tail', with operations that float: these may come behind stores. -/
theorem region_tailF {P : Program} {ops : Array Oper} {Q : Exit → Act → World → Prop} {id : Nat} {fr : Array Value} {w : World} (hm : P.follows .mixedOrders = true) (hb : edgesBack ops = true) (S : List (Option Nat)) (hS : apartS ops S fr.size = true)
    (N : Nat) (hNs : N ≤ ops.size) (F : List Nat) (hN : tailF ops N F = true) (hFN : (F.all fun i => decide (i < N)) = true) (D : List Nat) (hD : (D.all fun i => decide (i < N) && !F.contains i) = true)
    (B : Nat) (w0 : World) (hB : Below B w0 w) (hB0 : B ≤ w0.heap.size) (T : Nat → Value → World → Prop) (hT : ∀ i v W W', T i v W → Below W.heap.size W W' → T i v W')
    (hTD : ∀ i v W g, D.contains i = true → T i v W → v = .pointer (some ⟨g, 0, none⟩) → g < W.heap.size)
    (Z : Nat → (Nat → Value) → World → World → Prop) (hZ0 : ∀ V W, Z 0 V W W) (hZ1 : ∀ V W W', Z 0 V W W' → W' = W) (hZV : ∀ t V V' W W', (∀ i, i < N → F.contains i = false → V i = V' i) → Z t V W W' → Z t V' W W')
    (hstep : ∀ (i : Nat) (o : Oper) (V : Nat → Value) (a : Act) (W : World), i < N → F.contains i = false → ops[i]? = some o → FoundM S fr T o V a W → Below w.heap.size w W →
      ∀ K : Act → World → Prop, (∀ v W', Below W.heap.size W W' → T i v W' → (D.contains i = true → ∃ g, v = .pointer (some ⟨g, 0, none⟩) ∧ W.heap.size ≤ g) → K (a.put o.dst v) W') → if Region.wanted o (yielded ops a.tmps) = true then Oper.wp P o a W K Q else K (a.put o.dst undef) W)
    (hfloat : ∀ (i : Nat) (o : Oper) (V : Nat → Value) (a : Act) (W W0 : World), F.contains i = true → ops[i]? = some o → FoundM S fr T o V a W0 →
      ∀ K : Act → World → Prop, (∀ v, T i v W0 → K (a.put o.dst v) W) → if Region.wanted o (yielded ops a.tmps) = true then Oper.wp P o a W K Q else K (a.put o.dst undef) W)
    (htail : ∀ (j : Nat) (o : Oper) (V : Nat → Value) (a : Act) (W W1 : World), ops[N + j]? = some o → FoundT S fr o V a → Below w.heap.size w W → (∀ i, i < N → (F.contains i = false ∨ ∃ e ∈ o.after, e.on = i ∧ Region.binds .any e = true) → T i (V i) W) → Apart D V → Z j V W W1 →
      ∀ K : Act → World → Prop, (∀ v W2, Z (j + 1) V W W2 → K (a.put o.dst v) W2) → if Region.wanted o (yielded ops a.tmps) = true then Oper.wp P o a W1 K Q else K (a.put o.dst undef) W1)
    (hend : ∀ (V : Nat → Value) (W W1 : World), (∀ i, i < N → T i (V i) W) → Apart D V → Below w.heap.size w W → Below B w0 W → Z (ops.size - N) V W W1 → Q .normal ⟨laid fr (pairsOf V 0 S), []⟩ W1) : (Code.region id ops true).wp P Q ⟨fr, []⟩ w := by
  have hDN : ∀ i, D.contains i = true → i < N ∧ F.contains i = false := fun i hi => by
    have := List.all_eq_true.1 hD i (List.contains_iff_mem.1 hi)
    simpa using this
  have hFlt : ∀ i, F.contains i = true → i < N := fun i hi => of_decide_eq_true (List.all_eq_true.1 hFN i (List.contains_iff_mem.1 hi))
  refine region_rel hm hb S hS (fun L V W => ∃ (t : Nat) (W0 : World), (∀ j, L (N + j) = true ↔ j < t) ∧ (∀ i, i < N → L i = true → T i (V i) W0) ∧ (0 < t → ∀ i, i < N → F.contains i = false → L i = true) ∧ t ≤ ops.size - N ∧ (∀ i j, D.contains i = true → D.contains j = true → i ≠ j → L i = true → L j = true → ∀ g g', V i = .pointer (some ⟨g, 0, none⟩) → V j = .pointer (some ⟨g', 0, none⟩) → g ≠ g') ∧ Below w.heap.size w W0 ∧ Z t V W0 W) ?_ ?_ ?_
  · exact ⟨0, w.drew, fun j => ⟨nofun, fun h => absurd h (Nat.not_lt_zero _)⟩, fun _ _ => nofun, fun h => absurd h (Nat.lt_irrefl _), Nat.zero_le _, fun _ _ _ _ _ => nofun, (Below.refl _ _).drew, hZ0 _ _⟩
  · rintro i o L V a W ho hL hf ⟨t, W0, h1, h2, h3, h4, h5, hbw, hz⟩ K hK
    by_cases hi : i < N
    · cases hFi : F.contains i with
      | true =>
        have hNL : ∀ e ∈ o.after, Region.binds .any e = true → e.on < N := fun e he hbd => Nat.lt_trans (edges_spec hb ho e he hbd) hi
        refine hfloat i o V a W W0 hFi ho ⟨fun e he hbd => ⟨h2 _ (hNL e he hbd) (hf.up e he hbd), hf.dep e he hbd⟩, hf.rest, hf.size⟩ K (fun v ht => hK v W ⟨t, W0, fun j => ?_, fun j hjN hj => ?_, fun h0 j hjN hjF => ?_, h4, fun j k hj hk hjk hLj hLk g g' hgj hgk => ?_, hbw, hZV _ V _ _ _ (fun j hj hjF => ?_) hz⟩)
        · show (if N + j = i then true else L (N + j)) = true ↔ _
          rw [if_neg (by omega)]
          exact h1 j
        · by_cases hji : j = i
          · subst hji
            show T j (if j = j then v else V j) W0
            rw [if_pos rfl]; exact ht
          · replace hj : (if j = i then true else L j) = true := hj
            rw [if_neg hji] at hj
            show T j (if j = i then v else V j) W0
            rw [if_neg hji]
            exact h2 j hjN hj
        · show (if j = i then true else L j) = true
          by_cases hji : j = i
          · rw [if_pos hji]
          · rw [if_neg hji]; exact h3 h0 j hjN hjF
        · have nj : j ≠ i := fun e => by have := (hDN j hj).2; rw [e, hFi] at this; cases this
          have nk : k ≠ i := fun e => by have := (hDN k hk).2; rw [e, hFi] at this; cases this
          replace hLj : (if j = i then true else L j) = true := hLj
          replace hLk : (if k = i then true else L k) = true := hLk
          replace hgj : (if j = i then v else V j) = _ := hgj
          replace hgk : (if k = i then v else V k) = _ := hgk
          rw [if_neg nj] at hLj hgj
          rw [if_neg nk] at hLk hgk
          exact h5 j k hj hk hjk hLj hLk g g' hgj hgk
        · have nj : j ≠ i := fun e => by rw [e, hFi] at hjF; cases hjF
          show V j = if j = i then v else V j
          rw [if_neg nj]
      | false =>
        have ht : t = 0 := by
          rcases Nat.eq_zero_or_pos t with h | h
          · exact h
          · rw [h3 h i hi hFi] at hL; cases hL
        subst ht
        obtain rfl := hZ1 _ _ _ hz
        have hNL : ∀ e ∈ o.after, Region.binds .any e = true → e.on < N := fun e he hbd => Nat.lt_trans (edges_spec hb ho e he hbd) hi
        refine hstep i o V a W hi hFi ho ⟨fun e he hbd => ⟨h2 _ (hNL e he hbd) (hf.up e he hbd), hf.dep e he hbd⟩, hf.rest, hf.size⟩ hbw K (fun v W' hb' ht hfr => hK v W' ⟨0, W', fun j => ?_, fun j hjN hj => ?_, fun h => absurd h (Nat.lt_irrefl _), Nat.zero_le _, fun j k hj hk hjk hLj hLk g g' hgj hgk => ?_, below_on hbw hbw.size hb', hZ0 _ _⟩)
        · show (if N + j = i then true else L (N + j)) = true ↔ _
          rw [if_neg (by omega)]
          exact h1 j
        · by_cases hji : j = i
          · subst hji
            show T j (if j = j then v else V j) W'
            rw [if_pos rfl]; exact ht
          · replace hj : (if j = i then true else L j) = true := hj
            rw [if_neg hji] at hj
            show T j (if j = i then v else V j) W'
            rw [if_neg hji]
            exact hT j _ W W' (h2 j hjN hj) hb'
        · replace hLj : (if j = i then true else L j) = true := hLj
          replace hLk : (if k = i then true else L k) = true := hLk
          replace hgj : (if j = i then v else V j) = _ := hgj
          replace hgk : (if k = i then v else V k) = _ := hgk
          by_cases hji : j = i
          · subst hji
            rw [if_pos rfl] at hgj
            rw [if_neg (fun e => hjk e.symm)] at hLk hgk
            obtain ⟨g0, e0, hg0⟩ := hfr hj
            rw [hgj] at e0
            have eg : g = g0 := by simpa using e0
            have := hTD k _ W g' hk (h2 k (hDN k hk).1 hLk) hgk
            omega
          · rw [if_neg hji] at hLj hgj
            by_cases hki : k = i
            · subst hki
              rw [if_pos rfl] at hgk
              obtain ⟨g0, e0, hg0⟩ := hfr hk
              rw [hgk] at e0
              have eg : g' = g0 := by simpa using e0
              have := hTD j _ W g hj (h2 j (hDN j hj).1 hLj) hgj
              omega
            · rw [if_neg hki] at hLk hgk
              exact h5 j k hj hk hjk hLj hLk g g' hgj hgk
    · obtain ⟨j, rfl⟩ : ∃ j, i = N + j := ⟨i - N, by omega⟩
      have hup : ∀ k, k < N + j → F.contains k = false → L k = true := by
        intro k hk hkF
        obtain ⟨e, he, he1, he2⟩ := tailF_spec hN ho (by omega) hk hkF
        rw [← he1]; exact hf.up e he he2
      have hnF : ∀ k, N ≤ k → F.contains k = false := fun k hk => by
        cases h : F.contains k with
        | false => rfl
        | true => have := hFlt k h; omega
      have ht : t = j := by
        have ha : ¬ j < t := fun h => by rw [(h1 j).2 h] at hL; cases hL
        rcases Nat.eq_zero_or_pos j with h | h
        · omega
        · have := (h1 (j - 1)).1 (hup _ (by omega) (hnF _ (by omega)))
          omega
      subst ht
      refine htail t o V a W0 W ho ⟨hf.dep, hf.rest, hf.size⟩ hbw (fun i hi hor => h2 i hi (by
        rcases hor with hF' | ⟨e, he, he1, he2⟩
        · exact hup i (by omega) hF'
        · rw [← he1]; exact hf.up e he he2)) (fun i k hi hk hik g g' => h5 i k hi hk hik (hup i (by have := (hDN i hi).1; omega) (hDN i hi).2) (hup k (by have := (hDN k hk).1; omega) (hDN k hk).2) g g') hz K (fun v W2 hz2 => hK v W2 ⟨t + 1, W0, fun j => ?_, fun j hjN hj => ?_, fun _ j hjN hjF => ?_, by have := (Array.getElem?_eq_some_iff.1 ho).1; omega, fun j k hj hk hjk hLj hLk g g' hgj hgk => ?_, hbw, hZV _ V _ _ _ (fun i hi _ => ?_) hz2⟩)
      · show (if N + j = N + t then true else L (N + j)) = true ↔ _
        by_cases hjt : j = t
        · subst hjt; simp
        · rw [if_neg (by omega), h1 j]; omega
      · show T j (if j = N + t then v else V j) W0
        rw [if_neg (by omega)]
        replace hj : (if j = N + t then true else L j) = true := hj
        rw [if_neg (by omega)] at hj
        exact h2 j hjN hj
      · show (if j = N + t then true else L j) = true
        rw [if_neg (by omega)]
        exact hup j (by omega) hjF
      · have nj := (hDN j hj).1
        have nk := (hDN k hk).1
        replace hgj : (if j = N + t then v else V j) = _ := hgj
        replace hgk : (if k = N + t then v else V k) = _ := hgk
        rw [if_neg (by omega)] at hgj hgk
        exact h5 j k hj hk hjk (hup j (by omega) (hDN j hj).2) (hup k (by omega) (hDN k hk).2) g g' hgj hgk
      · show V i = if i = N + t then v else V i
        rw [if_neg (by omega)]
  · rintro L V W hall ⟨t, W0, h1, h2, h3, h4, h5, hbw, hz⟩
    have ht : t = ops.size - N := by
      apply Nat.le_antisymm h4
      apply Nat.le_of_not_lt
      intro hlt
      have := (h1 t).1 (hall _ (by omega))
      omega
    subst ht
    exact hend V W0 W (fun i hi => h2 i hi (hall i (by omega))) (fun i k hi hk hik g g' => h5 i k hi hk hik (hall i (by have := (hDN i hi).1; omega)) (hall k (by have := (hDN k hk).1; omega)) g g') hbw (below_on hB (Nat.le_trans hB0 hB.size) hbw) hz
end Go.Proofs.Yteghjdmalbcdfaa
