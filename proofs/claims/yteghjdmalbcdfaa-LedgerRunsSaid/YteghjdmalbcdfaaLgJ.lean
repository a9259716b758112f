/-
  What is posted keeps all balances 0 together: plain.
-/
import Derived.Test.YteghjdmalbcdfaaLgI
import Derived.Test.YteghjdmalbcdfaaLgH
set_option linter.unusedVariables false
set_option linter.unusedSimpArgs false
namespace Go.Proofs.Yteghjdmalbcdfaa
open Go.RowKit Dg

theorem accG_cons (t : Lg) (L : List Lg) (a : Int) : sumI (accG (t :: L) a) = (if t.1 = a then t.2 else 0) + sumI (accG L a) := by
  unfold accG
  rw [List.filter_cons]
  by_cases h : t.1 = a
  · simp [h, sumI]
  · simp [h]
theorem sumG_cons (t : Lg) (L : List Lg) : sumG (t :: L) = t.2 + sumG L := rfl
/-- Each leg is of one of the eight accounts. -/
theorem acc_sum : ∀ (L : List Lg), L.all okLg = true → sumI (accG L 0) + sumI (accG L 1) + sumI (accG L 2) + sumI (accG L 3) + sumI (accG L 4) + sumI (accG L 5) + sumI (accG L 6) + sumI (accG L 7) = sumG L
  | [], _ => rfl
  | t :: L, h => by
    rw [List.all_cons, Bool.and_eq_true] at h
    have ih := acc_sum L h.2
    obtain ⟨h0, h7, _⟩ := (okLg_iff t).1 h.1
    rw [sumG_cons, ← ih]
    simp only [accG_cons]
    obtain h | h | h | h | h | h | h | h : t.1 = 0 ∨ t.1 = 1 ∨ t.1 = 2 ∨ t.1 = 3 ∨ t.1 = 4 ∨ t.1 = 5 ∨ t.1 = 6 ∨ t.1 = 7 := by omega
    all_goals
      rw [h]
      simp only [reduceIte, Int.reduceEq]
      omega
theorem newT_sum (T : List Int) (h8 : T.length = 8) (L : List Lg) (h : L.all okLg = true) : sumI (newT T L) = sumI T + sumG L := by
  match T, h8 with
  | [a0, a1, a2, a3, a4, a5, a6, a7], _ =>
    rw [← acc_sum L h]
    show sumI [sumAt [a0, a1, a2, a3, a4, a5, a6, a7] L 0, sumAt [a0, a1, a2, a3, a4, a5, a6, a7] L 1, sumAt [a0, a1, a2, a3, a4, a5, a6, a7] L 2, sumAt [a0, a1, a2, a3, a4, a5, a6, a7] L 3, sumAt [a0, a1, a2, a3, a4, a5, a6, a7] L 4, sumAt [a0, a1, a2, a3, a4, a5, a6, a7] L 5, sumAt [a0, a1, a2, a3, a4, a5, a6, a7] L 6, sumAt [a0, a1, a2, a3, a4, a5, a6, a7] L 7] = _
    simp only [sumI, sumAt, List.getD_cons_zero, List.getD_cons_succ]
    show a0 + sumI (accG L 0) + _ = _
    simp only [Int.cast_ofNat_Int, Int.natCast_zero, Int.natCast_one]
    omega
theorem newT_in {T : List Int} {L : List Lg} (h : okK T L 8 = true) : ∀ x ∈ newT T L, -9223372036854775808 ≤ x ∧ x ≤ 9223372036854775807 := by
  intro x hx
  unfold newT mixT at hx
  obtain ⟨a, ha, rfl⟩ := List.mem_map.1 hx
  have ha8 : a < 8 := List.mem_range.1 ha
  rw [if_pos ha8]
  unfold okK at h
  have := List.all_eq_true.1 h a ha
  simpa [inI] using this
/-- Balances that are 0 together. -/
structure OkB (T : List Int) : Prop where
  len : T.length = 8
  rng : ∀ x ∈ T, -9223372036854775808 ≤ x ∧ x ≤ 9223372036854775807
  sum : sumI T = 0
/-- Entries that can be. -/
structure OkE (E : List (List Lg)) (n : Nat) : Prop where
  len : E.length ≤ n
  rt : ∀ L ∈ E, rightG L = true
  rng : ∀ L ∈ E, ∀ t ∈ L, -9223372036854775808 ≤ t.2 ∧ t.2 ≤ 9223372036854775807
theorem OkE.more {E : List (List Lg)} {n m : Nat} (h : OkE E n) (hm : n ≤ m) : OkE E m := ⟨Nat.le_trans h.len hm, h.rt, h.rng⟩
theorem rightG_all {L : List Lg} (h : rightG L = true) : (2 ≤ L.length ∧ L.length ≤ 16) ∧ L.all okLg = true ∧ sumG L = 0 := by
  unfold rightG at h
  simp only [Bool.and_eq_true, decide_eq_true_eq] at h
  exact ⟨h.1.1, h.1.2, h.2⟩
theorem OkE.sz {E : List (List Lg)} {n : Nat} (h : OkE E n) : ∀ L ∈ E, 1 ≤ L.length ∧ L.length ≤ 1000 := fun L hL => by
  have := (rightG_all (h.rt L hL)).1; omega
theorem OkB.zero : OkB z8 := ⟨rfl, z8_in, rfl⟩
theorem OkE.nil (n : Nat) : OkE [] n := ⟨Nat.zero_le _, by simp, by simp⟩
/-- What Post leaves. -/
theorem post_ok {T : List Int} {E : List (List Lg)} {L : List Lg} {n : Nat} (hT : OkB T) (hE : OkE E n) (hL : ∀ t ∈ L, -9223372036854775808 ≤ t.2 ∧ t.2 ≤ 9223372036854775807) {s : List Int × List (List Lg) × Int × Int} (hs : postS T E L = s) : OkB s.1 ∧ OkE s.2.1 (n + 1) := by
  unfold postS at hs
  split at hs
  · subst hs; exact ⟨hT, hE.more (by omega)⟩
  · split at hs
    · subst hs; exact ⟨hT, hE.more (by omega)⟩
    · split at hs
      · rename_i h
        subst hs
        unfold addS at h ⊢
        by_cases hr : rightG L = true
        · rw [if_pos hr] at h ⊢
          by_cases hk : okK T L 8 = true
          · rw [if_pos hk]
            obtain ⟨_, ha, h0⟩ := rightG_all hr
            refine ⟨⟨mixT_len _ _ _, newT_in hk, by rw [newT_sum T hT.len L ha, hT.sum, h0]; rfl⟩, ⟨by simp; exact hE.len, fun M hM => ?_, fun M hM => ?_⟩⟩
            · rcases List.mem_append.1 hM with h | h
              · exact hE.rt M h
              · obtain rfl := List.mem_singleton.1 h; exact hr
            · rcases List.mem_append.1 hM with h | h
              · exact hE.rng M h
              · obtain rfl := List.mem_singleton.1 h; exact hL
          · rw [if_neg hk] at h; cases h
        · rw [if_neg hr] at h; cases h
      · subst hs; exact ⟨hT, hE.more (by omega)⟩
theorem negG_in {L : List Lg} (h : okNeg L = true) (hL : ∀ t ∈ L, -9223372036854775808 ≤ t.2 ∧ t.2 ≤ 9223372036854775807) : ∀ t ∈ negG L, -9223372036854775808 ≤ t.2 ∧ t.2 ≤ 9223372036854775807 := by
  intro t ht
  obtain ⟨u, hu, rfl⟩ := List.mem_map.1 ht
  have h1 := hL u hu
  have h2 : u.2 ≠ -9223372036854775808 := by simpa using List.all_eq_true.1 h u hu
  show -9223372036854775808 ≤ -u.2 ∧ -u.2 ≤ 9223372036854775807
  omega
theorem getD_mem {α : Type} {E : List α} {k : Nat} {d : α} (h : k < E.length) : E.getD k d ∈ E := by
  rw [List.getD_eq_getElem?_getD, List.getElem?_eq_getElem h]; exact List.getElem_mem h
theorem rev_ok {T : List Int} {E : List (List Lg)} {k : Int} {n : Nat} (hT : OkB T) (hE : OkE E n) {s : List Int × List (List Lg) × Int × Int} (hs : revS T E k = s) : OkB s.1 ∧ OkE s.2.1 (n + 1) := by
  unfold revS at hs
  split at hs
  · rename_i h
    split at hs
    · rename_i hk
      exact post_ok hT hE (negG_in hk (hE.rng _ (getD_mem (by omega)))) hs
    · subst hs; exact ⟨hT, hE.more (by omega)⟩
  · subst hs; exact ⟨hT, hE.more (by omega)⟩
/-! ### Both sides -/
theorem pos_neg (T : List Int) : sumI (posT T) + sumI (negT T) = sumI T ∧ 0 ≤ sumI (posT T) := by
  induction T with
  | nil => exact ⟨rfl, Int.le_refl _⟩
  | cons x T ih =>
    unfold posT negT at *
    rw [List.filter_cons, List.filter_cons]
    by_cases h : 0 < x
    · simp only [h, decide_true, reduceIte, Bool.not_true, Bool.false_eq_true, sumI]
      omega
    · simp only [h, decide_false, reduceIte, Bool.not_false, Bool.false_eq_true, sumI]
      omega
theorem sides_ok {T : List Int} (h : sumI T = 0) {s : Int × Int × Int} (hs : sidesS T = s) : (s.2.2 = 0 ∧ s.1 = s.2.1 ∧ 0 ≤ s.1) ∨ s.2.2 = 11 := by
  obtain ⟨h1, h2⟩ := pos_neg T
  have hn : sumI (negT T) = -sumI (posT T) := by omega
  unfold sidesS at hs
  rw [hn] at hs
  generalize sumI (posT T) = p at *
  rcases cutI_two p with ⟨e, e1, e2⟩ | e
  · rcases cutI_two (-p) with ⟨f, f1, f2⟩ | f
    · rw [e, f] at hs
      subst hs
      refine .inl ⟨rfl, ?_, h2⟩
      show p = wrap64 (- -p)
      rw [Int.neg_neg]; unfold wrap64; omega
    · rw [e, f] at hs
      subst hs
      exact .inr rfl
  · rw [e] at hs
    subst hs
    exact .inr rfl
/-! ### Posted and taken back -/
theorem accG_neg (L : List Lg) (a : Int) : sumI (accG (negG L) a) = -sumI (accG L a) := by
  induction L with
  | nil => rfl
  | cons t L ih =>
    show sumI (accG ((t.1, -t.2) :: negG L) a) = _
    rw [accG_cons, accG_cons, ih]
    split <;> omega
theorem newT_back {T : List Int} (h8 : T.length = 8) (L : List Lg) : newT (newT T L) (negG L) = T := by
  refine List.ext_getElem? fun j => ?_
  by_cases hj : j < 8
  · unfold newT
    rw [mixT_at hj, if_pos hj]
    unfold sumAt
    rw [accG_neg, List.getD_eq_getElem?_getD, mixT_at hj, if_pos hj, List.getElem?_eq_getElem (by omega : j < T.length)]
    simp only [Option.getD_some]
    unfold sumAt
    rw [List.getD_eq_getElem?_getD, List.getElem?_eq_getElem (by omega : j < T.length)]
    simp only [Option.getD_some]
    congr 1; omega
  · rw [List.getElem?_eq_none (by rw [newT, mixT_len]; omega), List.getElem?_eq_none (by omega)]
theorem sumG_neg (L : List Lg) : sumG (negG L) = -sumG L := by
  induction L with
  | nil => rfl
  | cons t L ih =>
    show sumG ((t.1, -t.2) :: negG L) = _
    rw [sumG_cons, sumG_cons, ih]; omega
theorem rightG_neg {L : List Lg} (h : rightG L = true) : rightG (negG L) = true := by
  obtain ⟨h1, h2, h3⟩ := rightG_all h
  unfold rightG
  have ha : (negG L).all okLg = true := by
    rw [List.all_eq_true]
    intro t ht
    obtain ⟨u, hu, rfl⟩ := List.mem_map.1 ht
    have := (okLg_iff u).1 (List.all_eq_true.1 h2 u hu)
    exact (okLg_iff _).2 ⟨this.1, this.2.1, by show -u.2 ≠ 0; omega⟩
  rw [ha, sumG_neg, h3, negG_len]
  simp; omega
theorem post_cases {T : List Int} {E : List (List Lg)} {L : List Lg} {s : List Int × List (List Lg) × Int × Int} (hs : postS T E L = s) :
    (s.2.2.2 ≠ 0 ∧ s.1 = T ∧ ((s.2.2.2 = 131 ∧ rightG L = false) ∨ s.2.2.2 = 132 ∨ s.2.2.2 = 11)) ∨ (s.2.2.2 = 0 ∧ rightG L = true ∧ s = (newT T L, E ++ [L], (E.length : Int), 0)) := by
  unfold postS at hs
  unfold addS at hs
  by_cases hr : rightG L = true
  · rw [if_pos hr] at hs
    by_cases hk : okK T L 8 = true
    · rw [if_pos hk] at hs
      simp only [reduceIte, show ¬ (0 : Int) = 131 by decide] at hs
      split at hs
      · subst hs; exact .inl ⟨by show ¬ (132 : Int) = 0; decide, rfl, .inr (.inl rfl)⟩
      · subst hs; exact .inr ⟨rfl, hr, rfl⟩
    · rw [if_neg hk] at hs
      simp only [show ¬ (11 : Int) = 131 by decide, show ¬ (11 : Int) = 0 by decide, if_false] at hs
      split at hs
      · subst hs; exact .inl ⟨by show ¬ (132 : Int) = 0; decide, rfl, .inr (.inl rfl)⟩
      · subst hs; exact .inl ⟨by show ¬ (11 : Int) = 0; decide, rfl, .inr (.inr rfl)⟩
  · rw [if_neg hr] at hs
    simp only [reduceIte] at hs
    subst hs; exact .inl ⟨by show ¬ (131 : Int) = 0; decide, rfl, .inl ⟨rfl, by simpa using hr⟩⟩
/-- What is posted and taken back is as if it hadn't been. -/
theorem post_back {T : List Int} {E : List (List Lg)} {L : List Lg} (h8 : T.length = 8) {s q : List Int × List (List Lg) × Int × Int} (hs : postS T E L = s) (h0 : s.2.2.2 = 0) (hq : revS s.1 s.2.1 s.2.2.1 = q) :
    (q.2.2.2 = 0 ∧ q.1 = T) ∨ q.2.2.2 = 11 ∨ q.2.2.2 = 132 := by
  rcases post_cases hs with ⟨h, _⟩ | ⟨_, hr, e⟩
  · exact absurd h0 h
  · rw [e] at hq
    unfold revS at hq
    simp only [] at hq
    rw [if_pos ⟨by omega, by simp; omega⟩, Int.toNat_natCast] at hq
    rw [show (E ++ [L]).getD E.length [] = L from by rw [List.getD_eq_getElem?_getD, List.getElem?_append_right (Nat.le_refl _), Nat.sub_self]; rfl] at hq
    split at hq
    · rcases post_cases hq with ⟨a, b, c⟩ | ⟨a, _, b⟩
      · rcases c with ⟨_, c⟩ | c | c
        · rw [rightG_neg hr] at c; cases c
        · exact .inr (.inr c)
        · exact .inr (.inl c)
      · rw [b]; exact .inl ⟨rfl, newT_back h8 L⟩
    · subst hq; exact .inr (.inl rfl)
end Go.Proofs.Yteghjdmalbcdfaa
