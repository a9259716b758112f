/-
  What is posted, plain: the balances are sums over all entries; the document's answers are the program's.
-/
import Derived.Test.YteghjdmalbcdfaaLgJ
set_option linter.unusedVariables false
set_option linter.unusedSimpArgs false
namespace Go.Proofs.Yteghjdmalbcdfaa
open Go.RowKit Dg

/-- All amounts of an account, over all entries. -/
def accE (E : List (List Lg)) (a : Int) : List Int := E.flatMap (fun L => accG L a)
theorem accE_snoc (E : List (List Lg)) (L : List Lg) (a : Int) : accE (E ++ [L]) a = accE E a ++ accG L a := by simp [accE]
theorem accE_take {E : List (List Lg)} {k : Nat} {L : List Lg} (h : E[k]? = some L) (a : Int) : accE (E.take (k + 1)) a = accE (E.take k) a ++ accG L a := by
  obtain ⟨hk, rfl⟩ := List.getElem?_eq_some_iff.1 h
  rw [List.take_succ_eq_append_getElem hk, accE_snoc]
theorem accE_len {E : List (List Lg)} {n : Nat} (h : ∀ L ∈ E, L.length ≤ n) (a : Int) : (accE E a).length ≤ n * E.length := by
  induction E with
  | nil => simp [accE]
  | cons L E ih =>
    have h1 := h L (by simp)
    have h2 := accG_len L a
    have h3 := ih (fun M hM => h M (by simp [hM]))
    have e : accE (L :: E) a = accG L a ++ accE E a := by simp [accE]
    rw [e, List.length_append, List.length_cons, Nat.mul_add]; omega
theorem accE_in {E : List (List Lg)} (h : ∀ L ∈ E, ∀ t ∈ L, -9223372036854775808 ≤ t.2 ∧ t.2 ≤ 9223372036854775807) (a : Int) : ∀ x ∈ accE E a, -9223372036854775808 ≤ x ∧ x ≤ 9223372036854775807 := by
  intro x hx
  unfold accE at hx
  obtain ⟨L, hL, hx⟩ := List.mem_flatMap.1 hx
  exact accG_in (h L hL) a x hx
def balE (E : List (List Lg)) (a : Int) : Int := sumI (accE E a)
theorem balE_snoc (E : List (List Lg)) (L : List Lg) (a : Int) : balE (E ++ [L]) a = balE E a + sumI (accG L a) := by
  unfold balE; rw [accE_snoc, sumI_app]
/-- No balance is too great. -/
def okN (E : List (List Lg)) (k : Nat) : Bool := (List.range k).all (fun a => inI (balE E a))
theorem okN_step {E : List (List Lg)} {k : Nat} (h : okN E k = true) (h2 : inI (balE E k) = true) : okN E (k + 1) = true := by
  unfold okN at *
  rw [List.range_succ, List.all_append, h]; simp [h2]
theorem okN_not {E : List (List Lg)} {k : Nat} (hk : k < 8) (h2 : inI (balE E k) = false) : okN E 8 = false := by
  unfold okN
  rw [List.all_eq_false]
  exact ⟨k, by simpa using hk, by simp [h2]⟩
/-- The document's Post; its Reverse. -/
def rpostS (E : List (List Lg)) (L : List Lg) : List (List Lg) × Int × Int :=
  if rightG L = false then (E, 0, 131) else if 4096 ≤ E.length then (E, 0, 132) else if okN (E ++ [L]) 8 = true then (E ++ [L], E.length, 0) else (E, 0, 11)
def rrevS (E : List (List Lg)) (k : Int) : List (List Lg) × Int × Int :=
  if 0 ≤ k ∧ k < E.length then (if okNeg (E.getD k.toNat []) = true then rpostS E (negG (E.getD k.toNat [])) else (E, 0, 11)) else (E, 0, 132)
/-- Balances that are the sums over all entries. -/
def OkT (T : List Int) (E : List (List Lg)) : Prop := ∀ a, a < 8 → T.getD a 0 = balE E (a : Int)
theorem OkT.zero : OkT z8 [] := by
  intro a ha
  rcases (show a = 0 ∨ a = 1 ∨ a = 2 ∨ a = 3 ∨ a = 4 ∨ a = 5 ∨ a = 6 ∨ a = 7 by omega) with rfl | rfl | rfl | rfl | rfl | rfl | rfl | rfl <;> rfl
theorem sumAt_bal {T : List Int} {E : List (List Lg)} (h : OkT T E) (L : List Lg) {a : Nat} (ha : a < 8) : sumAt T L a = balE (E ++ [L]) a := by
  unfold sumAt; rw [balE_snoc, h a ha]
theorem okK_okN {T : List Int} {E : List (List Lg)} (h : OkT T E) (L : List Lg) : okK T L 8 = okN (E ++ [L]) 8 := by
  have H : (List.range 8).all (fun a => inI (sumAt T L a)) = true ↔ (List.range 8).all (fun a => inI (balE (E ++ [L]) a)) = true := by
    rw [List.all_eq_true, List.all_eq_true]
    constructor
    · intro h1 a ha; have := h1 a ha; rwa [sumAt_bal h L (List.mem_range.1 ha)] at this
    · intro h1 a ha; have := h1 a ha; rwa [← sumAt_bal h L (List.mem_range.1 ha)] at this
  unfold okK okN
  exact Bool.eq_iff_iff.2 H
theorem newT_ok {T : List Int} {E : List (List Lg)} (h : OkT T E) (L : List Lg) : OkT (newT T L) (E ++ [L]) := by
  intro a ha
  have := mixT_at (T := T) (L := L) (k := 8) ha
  rw [if_pos ha] at this
  rw [List.getD_eq_getElem?_getD]
  unfold newT
  rw [this, sumAt_bal h L ha]; rfl
theorem post_same {T : List Int} {E : List (List Lg)} {L : List Lg} (h : OkT T E) {s : List Int × List (List Lg) × Int × Int} (hs : postS T E L = s) : rpostS E L = s.2 ∧ OkT s.1 s.2.1 := by
  unfold postS addS at hs
  unfold rpostS
  by_cases h1 : rightG L = true
  · rw [if_pos h1] at hs
    rw [if_neg (by rw [h1]; decide), ← okK_okN h L]
    by_cases h2 : okK T L 8 = true
    · rw [if_pos h2] at hs
      rw [if_pos h2]
      simp only at hs
      rw [if_neg (by decide)] at hs
      by_cases h3 : 4096 ≤ E.length
      · rw [if_pos h3] at hs; rw [if_pos h3]; subst hs; exact ⟨rfl, h⟩
      · rw [if_neg h3, if_pos trivial] at hs; rw [if_neg h3]; subst hs; exact ⟨rfl, newT_ok h L⟩
    · rw [if_neg h2] at hs
      rw [if_neg h2]
      simp only at hs
      rw [if_neg (by decide)] at hs
      by_cases h3 : 4096 ≤ E.length
      · rw [if_pos h3] at hs; rw [if_pos h3]; subst hs; exact ⟨rfl, h⟩
      · rw [if_neg h3, if_neg (by decide)] at hs; rw [if_neg h3]; subst hs; exact ⟨rfl, h⟩
  · rw [if_neg h1] at hs
    rw [if_pos (by simpa using h1)]
    simp only at hs
    rw [if_pos trivial] at hs
    subst hs; exact ⟨rfl, h⟩
theorem rev_same {T : List Int} {E : List (List Lg)} {k : Int} (h : OkT T E) {s : List Int × List (List Lg) × Int × Int} (hs : revS T E k = s) : rrevS E k = s.2 ∧ OkT s.1 s.2.1 := by
  unfold revS at hs
  unfold rrevS
  by_cases h1 : 0 ≤ k ∧ k < E.length
  · rw [if_pos h1] at hs; rw [if_pos h1]
    by_cases h2 : okNeg (E.getD k.toNat []) = true
    · rw [if_pos h2] at hs; rw [if_pos h2]; exact post_same h hs
    · rw [if_neg h2] at hs; rw [if_neg h2]; subst hs; exact ⟨rfl, h⟩
  · rw [if_neg h1] at hs; rw [if_neg h1]; subst hs; exact ⟨rfl, h⟩
theorem accG_out {L : List Lg} (h : L.all okLg = true) {a : Int} (ha : ¬ (0 ≤ a ∧ a < 8)) : accG L a = [] := by
  unfold accG
  rw [List.map_eq_nil_iff, List.filter_eq_nil_iff]
  intro t ht e
  have h1 := List.all_eq_true.1 h t ht
  obtain ⟨h0, h7, _⟩ := (okLg_iff t).1 h1
  have : t.1 = a := by simpa using e
  omega
theorem balE_out {E : List (List Lg)} (h : ∀ L ∈ E, rightG L = true) {a : Int} (ha : ¬ (0 ≤ a ∧ a < 8)) : balE E a = 0 := by
  unfold balE
  have : accE E a = [] := by
    unfold accE
    rw [List.flatMap_eq_nil_iff]
    intro L hL
    exact accG_out (rightG_all (h L hL)).2.1 ha
  rw [this]; rfl
/-- The balance of any number, as the program has it. -/
theorem balS_E {T : List Int} {E : List (List Lg)} (h : OkT T E) (hr : ∀ L ∈ E, rightG L = true) (k : Int) : balS T k = balE E k := by
  unfold balS
  by_cases hk : 0 ≤ k ∧ k < 8
  · rw [if_pos hk]
    obtain ⟨n, rfl⟩ := Int.eq_ofNat_of_zero_le hk.1
    rw [Int.toNat_natCast]
    exact h n (by omega)
  · rw [if_neg hk, balE_out hr hk]
theorem balE_cut {T : List Int} {E : List (List Lg)} (h : OkT T E) (hT : OkB T) (hr : ∀ L ∈ E, rightG L = true) (k : Int) : cutI (balE E k) = (balE E k, 0) := by
  rw [← balS_E h hr k]
  have : -9223372036854775808 ≤ balS T k ∧ balS T k ≤ 9223372036854775807 := by
    unfold balS
    split
    · exact getD_in hT.rng _
    · exact ⟨by decide, by decide⟩
  exact cutI_in this.1 this.2
end Go.Proofs.Yteghjdmalbcdfaa
