/-
  Lines of a budget: what each change keeps, plain.
-/
import Derived.Test.YtikfclioplploaaBgBk
set_option linter.unusedVariables false
set_option linter.unusedSimpArgs false
namespace Go.Proofs.Ytikfclioplploaa
open Go.RowKit Dg

/-! ### What each does to lines that can be -/
theorem turnS_nil {L : List Ln} {k : Nat} {t : Ln} (h : ¬ (turnS L k t).2 = 0) : (turnS L k t).1 = [] := by
  unfold turnS at h ⊢; split at h
  · simp at h
  · rename_i h1; rw [if_neg h1]
theorem cutS_nil {L : List Ln} {k a : Int} (h : ¬ (cutS L k a).2 = 0) : (cutS L k a).1 = [] := by
  unfold cutS at h ⊢
  repeat' split at h
  · rename_i h1 h2; rw [if_pos h1, if_pos h2]; exact turnS_nil h
  · rename_i h1 h2; rw [if_pos h1, if_neg h2]
  · rename_i h1; rw [if_neg h1]
theorem inspS_nil {L : List Ln} {k a : Int} (h : ¬ (inspS L k a).2 = 0) : (inspS L k a).1 = [] := by
  unfold inspS at h ⊢
  repeat' split at h
  · rename_i h1 h2 h3; rw [if_pos h1, if_pos h2, if_pos h3]
  · rename_i h1 h2 h3; rw [if_pos h1, if_pos h2, if_neg h3]; exact turnS_nil h
  · rename_i h1 h2; rw [if_pos h1, if_neg h2]
  · rename_i h1; rw [if_neg h1]
theorem payS_nil {L : List Ln} {k a c : Int} (h : ¬ (payS L k a c).2 = 0) : (payS L k a c).1 = [] := by
  unfold payS at h ⊢
  repeat' split at h
  · rename_i h1 h2; rw [if_pos h1, if_pos h2]; exact turnS_nil h
  · rename_i h1 h2; rw [if_pos h1, if_neg h2]
  · rename_i h1; rw [if_neg h1]
theorem relS_nil {L : List Ln} {k : Int} (h : ¬ (relS L k).2.2 = 0) : (relS L k).1 = [] := by
  unfold relS at h ⊢
  repeat' split at h
  · rename_i h1 h2; rw [if_pos h1, if_pos h2]; exact turnS_nil h
  · rename_i h1 h2; rw [if_pos h1, if_neg h2]
  · rename_i h1; rw [if_neg h1]
theorem moveS_nil {L : List Ln} {f t a : Int} (h : ¬ (moveS L f t a).2 = 0) : (moveS L f t a).1 = [] := by
  unfold moveS at h ⊢
  repeat' split at h
  · rename_i h1 h2; rw [if_pos h1, if_pos h2]
  · rename_i h1 h2 h3; rw [if_pos h1, if_neg h2, if_pos h3]
  · simp at h
  · rename_i h1 h2 h3 h4 h5; rw [if_pos h1, if_neg h2, if_neg h3, if_pos h4, if_neg h5]
  · rename_i h1 h2 h3 h4; rw [if_pos h1, if_neg h2, if_neg h3, if_neg h4]
  · rename_i h1; rw [if_neg h1]
/-- One line anew, that can be. -/
theorem turn_keeps {L K : List Ln} {k : Int} {t : Ln} (h0 : thereS L [k] = true) (h : turnS L k.toNat t = (K, 0)) : rightL K = true ∧ K.length = L.length ∧ totS K = totS L - (atL L k).1 + t.1 := by
  obtain ⟨hr, n, hn, rfl⟩ := thereS_one h0
  rw [Int.toNat_natCast] at h
  unfold turnS at h
  split at h
  · rename_i hok
    have e : L.set n t = K := by simpa using h
    subst e
    obtain ⟨x, hx⟩ : ∃ t, L[n]? = some t := ⟨_, List.getElem?_eq_getElem hn⟩
    exact ⟨right_set hr hok, List.length_set, by rw [tot_set hx, atL_nat hx]⟩
  · simp at h
theorem cut_keeps {L K : List Ln} {k a : Int} (h : cutS L k a = (K, 0)) : rightL K = true ∧ K.length = L.length ∧ totS K = totS L - a := by
  unfold cutS at h
  repeat' split at h
  · rename_i h1 h2
    obtain ⟨r1, r2, r3⟩ := turn_keeps h1 h
    refine ⟨r1, r2, ?_⟩
    rw [r3]; show totS L - (atL L k).1 + ((atL L k).1 - a) = _; omega
  · simp at h
  · simp at h
theorem cut_am {L K : List Ln} {k a : Int} (h : cutS L k a = (K, 0)) : 1 ≤ a ∧ a ≤ 1000000000000 := by
  unfold cutS at h
  repeat' split at h
  · rename_i h1 h2; exact h2
  · simp at h
  · simp at h
theorem insp_keeps {L K : List Ln} {k a : Int} (h : inspS L k a = (K, 0)) : rightL K = true ∧ K.length = L.length ∧ totS K = totS L := by
  unfold inspS at h
  repeat' split at h
  · simp at h
  · rename_i h1 h2 h3
    obtain ⟨r1, r2, r3⟩ := turn_keeps h1 h
    refine ⟨r1, r2, ?_⟩
    rw [r3]; show totS L - (atL L k).1 + (atL L k).1 = _; omega
  · simp at h
  · simp at h
theorem pay_keeps {L K : List Ln} {k a c : Int} (h : payS L k a c = (K, 0)) : rightL K = true ∧ K.length = L.length ∧ totS K = totS L := by
  unfold payS at h
  repeat' split at h
  · rename_i h1 h2
    obtain ⟨r1, r2, r3⟩ := turn_keeps h1 h
    refine ⟨r1, r2, ?_⟩
    rw [r3]; show totS L - (atL L k).1 + (atL L k).1 = _; omega
  · simp at h
  · simp at h
theorem rel_keeps {L K : List Ln} {k hd : Int} (h : relS L k = (K, hd, 0)) : rightL K = true ∧ K.length = L.length ∧ totS K = totS L := by
  unfold relS at h
  repeat' split at h
  · rename_i h1 h2
    simp only [Prod.mk.injEq] at h
    obtain ⟨e1, _, e2⟩ := h
    obtain ⟨r1, r2, r3⟩ := turn_keeps h1 (K := K) (Prod.ext e1 e2)
    refine ⟨r1, r2, ?_⟩
    rw [r3]; show totS L - (atL L k).1 + (atL L k).1 = _; omega
  · simp at h
  · simp at h
end Go.Proofs.Ytikfclioplploaa
