/-
  Draws, plain: on lines whose budgets get no less what is approved fits, and can be funded.
-/
import Derived.Test.YtikfclioplploaaDwD
import Derived.Test.YtikfclioplploaaBgPl
set_option linter.unusedVariables false
set_option linter.unusedSimpArgs false
namespace Go.Proofs.Ytikfclioplploaa
open Go.RowKit Dg

theorem pend_set {k : Int} : ∀ {D : List Dw} {n : Nat} {l a s : Int} (_ : D[n]? = some (l, a, s)) (z : Int), pendS k (D.set n (l, a, z)) = pendS k D - (if l = k ∧ s = 1 then a else 0) + (if l = k ∧ z = 1 then a else 0)
  | [], n, _, _, _, h, _ => by simp at h
  | t :: D, 0, l, a, s, h, z => by
    obtain rfl : t = (l, a, s) := by simpa using h
    simp only [List.set_cons_zero, pendS]
    omega
  | t :: D, n + 1, l, a, s, h, z => by
    have ih := pend_set (k := k) (D := D) (n := n) (by simpa using h) z
    simp only [List.set_cons_succ, pendS, ih]
    omega
theorem pend_ge {k : Int} : ∀ {D : List Dw} {n : Nat} {a : Int} (_ : D.all okDw = true) (_ : D[n]? = some (k, a, 1)), a ≤ pendS k D
  | [], n, _, _, h => by simp at h
  | t :: D, 0, a, ho, h => by
    obtain rfl : t = (k, a, 1) := by simpa using h
    rw [List.all_cons, Bool.and_eq_true] at ho
    have := (pend_in ho.2 k).1
    simp only [pendS]
    rw [if_pos (by simp)]
    omega
  | t :: D, n + 1, a, ho, h => by
    rw [List.all_cons, Bool.and_eq_true] at ho
    have ih := pend_ge (k := k) (D := D) (n := n) ho.2 (by simpa using h)
    have := (okDw_nums ho.1).2.1
    simp only [pendS]
    split <;> omega
/-- What is used of a line, of all. -/
def usedS (t : Ln) : Int := t.2.2.1 + t.2.2.2
def sumU : List Ln → Int
  | [] => 0
  | t :: L => usedS t + sumU L
theorem sumU_app (L M : List Ln) : sumU (L ++ M) = sumU L + sumU M := by
  induction L with
  | nil => simp [sumU]
  | cons t l ih => simp only [List.cons_append, sumU, ih]; omega
theorem sumU_take {L : List Ln} {n : Nat} {t : Ln} (h : L[n]? = some t) : sumU (L.take (n + 1)) = sumU (L.take n) + usedS t := by
  obtain ⟨hk, rfl⟩ := List.getElem?_eq_some_iff.1 h
  rw [List.take_succ_eq_append_getElem hk, sumU_app]; simp [sumU]
theorem sumU_set : ∀ {L : List Ln} {n : Nat} {t : Ln} (_ : L[n]? = some t) (u : Ln), sumU (L.set n u) = sumU L - usedS t + usedS u
  | [], n, _, h, _ => by simp at h
  | x :: L, 0, t, h, u => by
    obtain rfl : x = t := by simpa using h
    simp only [List.set_cons_zero, sumU]; omega
  | x :: L, n + 1, t, h, u => by
    have ih := sumU_set (L := L) (n := n) (t := t) (by simpa using h) u
    simp only [List.set_cons_succ, sumU, ih]; omega
theorem sumU_in {L : List Ln} (h : L.all okLn = true) : 0 ≤ sumU L ∧ sumU L ≤ 1000000000000 * L.length := by
  induction L with
  | nil => simp [sumU]
  | cons t l ih =>
    rw [List.all_cons, Bool.and_eq_true] at h
    have i1 := ih h.2
    obtain ⟨b, p, x, y⟩ := t
    have i2 := okLn_nums h.1
    have i3 := cap_in (b := b) (p := p) (by omega) (by omega) (by omega) (by omega)
    simp only [sumU, usedS, List.length_cons, Int.natCast_add, Int.natCast_one]
    omega
theorem sumU_at {L : List Ln} (h : rightL L = true) (n : Nat) : 0 ≤ sumU (L.take n) ∧ sumU (L.take n) ≤ 16000000000000 := by
  obtain ⟨_, h1, h2⟩ := rightL_true h
  have h3 : (L.take n).all okLn = true := by
    rw [List.all_eq_true] at h2 ⊢
    exact fun t ht => h2 t (List.mem_of_mem_take ht)
  have := sumU_in h3
  have : (L.take n).length ≤ 16 := by rw [List.length_take]; omega
  omega
/-- What holds all along. -/
structure Fits (D : List Dw) (L : List Ln) : Prop where
  rd : rightW D = true
  rl : rightL L = true
  fit : ∀ (n : Nat) t, L[n]? = some t → usedS t + pendS (n : Int) D ≤ capS t.1 t.2.1
  inl : ∀ t, t ∈ D → t.2.2 = 1 → t.1 < (L.length : Int)
theorem fits_new {B : List Int} {L : List Ln} (h : newS B = (L, 0)) : Fits [] L ∧ sumU L = 0 := by
  unfold newS at h
  split at h
  · rename_i h1
    have e : bare B = L := by simpa using h
    subst e
    have z : ∀ t, t ∈ bare B → usedS t = 0 := by
      intro t ht
      unfold bare at ht
      obtain ⟨b, _, rfl⟩ := List.mem_map.1 ht
      rfl
    refine ⟨⟨rfl, h1, fun n t ht => ?_, by simp⟩, ?_⟩
    · rw [z t (List.mem_of_getElem? ht)]
      have := okLn_nums (show okLn (t.1, t.2.1, t.2.2.1, t.2.2.2) = true from List.all_eq_true.1 (rightL_true h1).2.2 _ (List.mem_of_getElem? ht))
      have := cap_in (b := t.1) (p := t.2.1) (by omega) (by omega) (by omega) (by omega)
      show 0 + 0 ≤ _
      omega
    · clear h h1
      generalize bare B = L at z
      induction L with
      | nil => rfl
      | cons t l ih =>
        simp only [sumU]
        rw [z t (by simp), ih (fun u hu => z u (by simp [hu]))]; rfl
  · simp at h
theorem rightW_set {D : List Dw} {n : Nat} {t : Dw} (h : rightW D = true) (ht : okDw t = true) : rightW (D.set n t) = true := by
  obtain ⟨h1, h2⟩ := rightW_true h
  unfold rightW
  rw [List.length_set, decide_eq_true h1, Bool.true_and, List.all_eq_true]
  intro x hx
  rcases List.mem_or_eq_of_mem_set hx with hx | rfl
  · exact List.all_eq_true.1 h2 x hx
  · exact ht
theorem okDw_of {l a s : Int} (h : (0 ≤ l ∧ l ≤ 15) ∧ (1 ≤ a ∧ a ≤ 1000000000000) ∧ (0 ≤ s ∧ s ≤ 3)) : okDw (l, a, s) = true := by
  simp only [okDw, okA, Bool.and_eq_true, decide_eq_true_eq]
  omega
theorem fits_ask {D K : List Dw} {L : List Ln} {k a n : Int} (h : Fits D L) (hs : askS D L k a = (K, n, 0)) : Fits K L := by
  unfold askS at hs
  split at hs
  · rename_i h1
    split at hs
    · rename_i h2
      split at hs
      · rename_i h3
        have e : D ++ [(k, a, 0)] = K := by simp only [Prod.mk.injEq] at hs; exact hs.1
        subst e
        obtain ⟨_, m, hm, rfl⟩ := thereS_one h2
        have h16 := (rightL_true h.rl).2.1
        obtain ⟨a0, a1⟩ := (okA_iff a).1 h3
        have hok : okDw ((m : Int), a, 0) = true := okDw_of (by omega)
        obtain ⟨r1, r2⟩ := rightW_true h1.1
        refine ⟨?_, h.rl, fun n t ht => ?_, fun t ht hst => ?_⟩
        · unfold rightW
          rw [List.length_append, List.all_append, r2]
          simp only [List.length_cons, List.length_nil, List.all_cons, List.all_nil, hok, Bool.and_true, decide_eq_true_eq]
          omega
        · rw [pend_app]
          have := h.fit n t ht
          simp only [pendS]
          rw [if_neg (fun e => by have := e.2; omega)]
          omega
        · rcases List.mem_append.1 ht with ht | ht
          · exact h.inl t ht hst
          · obtain rfl : t = ((m : Int), a, 0) := by simpa using ht
            simp at hst
      · simp at hs
    · simp at hs
  · simp at hs
theorem fits_appr {D K : List Dw} {L : List Ln} {no : Int} (h : Fits D L) (hs : apprS D L no = (K, 0)) : Fits K L := by
  unfold apprS at hs
  split at hs
  · rename_i h1
    obtain ⟨hr, n, l, a, st, rfl, hn, ht, hat, hst, hf⟩ := find_ok h1
    have hst0 : st = 0 := by
      have := List.mem_of_elem_eq_true hst
      simpa using this
    subst hst0
    rw [hat] at hs
    split at hs
    · rename_i h2
      split at hs
      · simp at hs
      · rename_i h3
        have e : D.set n (l, a, 1) = K := by
          have := (Prod.mk.injEq _ _ _ _).mp hs
          simpa using this.1
        subst e
        obtain ⟨_, m, hm, e2⟩ := thereS_one h2
        have e2' : l = (m : Int) := e2
        subst e2'
        have hnm := okDw_nums (List.all_eq_true.1 (rightW_true hr).2 _ (List.mem_of_getElem? ht))
        replace hnm : (0 ≤ (m : Int) ∧ (m : Int) ≤ 15) ∧ (1 ≤ a ∧ a ≤ 1000000000000) ∧ (0 ≤ (0 : Int) ∧ (0 : Int) ≤ 3) := hnm
        refine ⟨rightW_set hr (okDw_of (by omega)), h.rl, fun j t hj => ?_, fun t hj hst => ?_⟩
        · rw [pend_set ht 1]
          have hfit := h.fit j t hj
          rw [if_neg (fun e => by have := e.2; omega)]
          by_cases hjm : m = j
          · subst hjm
            rw [if_pos ⟨rfl, rfl⟩]
            have ea : atL L (m : Int) = t := atL_nat hj
            replace h3 : ¬ capS (atL L (m : Int)).1 (atL L (m : Int)).2.1 < (atL L (m : Int)).2.2.1 + (atL L (m : Int)).2.2.2 + pendS (m : Int) D + a := h3
            rw [ea] at h3
            unfold usedS
            omega
          · rw [if_neg (fun e => hjm (by have := e.1; omega))]
            omega
        · rcases List.mem_or_eq_of_mem_set hj with hj | rfl
          · exact h.inl t hj hst
          · show (m : Int) < _
            omega
    · simp at hs
  · rename_i h1
    simp only [Prod.mk.injEq] at hs
    exact absurd hs.2 h1
theorem fits_ref {D K : List Dw} {L : List Ln} {no : Int} (h : Fits D L) (hs : refS D no = (K, 0)) : Fits K L := by
  unfold refS at hs
  split at hs
  · rename_i h1
    obtain ⟨hr, n, l, a, st, rfl, hn, ht, hat, hst, hf⟩ := find_ok h1
    rw [hat] at hs
    have e : D.set n (l, a, 3) = K := by
      have := (Prod.mk.injEq _ _ _ _).mp hs
      simpa using this.1
    subst e
    have hnm := okDw_nums (List.all_eq_true.1 (rightW_true hr).2 _ (List.mem_of_getElem? ht))
    replace hnm : (0 ≤ l ∧ l ≤ 15) ∧ (1 ≤ a ∧ a ≤ 1000000000000) ∧ (0 ≤ st ∧ st ≤ 3) := hnm
    refine ⟨rightW_set hr (okDw_of (by omega)), h.rl, fun j t hj => ?_, fun t hj hst => ?_⟩
    · rw [pend_set ht 3]
      have hfit := h.fit j t hj
      rw [if_neg (c := l = (j : Int) ∧ (3 : Int) = 1) (fun e => by have := e.2; omega)]
      split <;> omega
    · rcases List.mem_or_eq_of_mem_set hj with hj | rfl
      · exact h.inl t hj hst
      · simp at hst
  · rename_i h1
    simp only [Prod.mk.injEq] at hs
    exact absurd hs.2 h1
theorem cap_up {b p q : Int} (hb : 0 ≤ b) (h : p ≤ q) : capS b p ≤ capS b q := by
  unfold capS
  have := Int.mul_le_mul_of_nonneg_left h hb
  generalize b * p = x at *
  generalize b * q = y at *
  omega
theorem fits_insp {D : List Dw} {L M : List Ln} {k a : Int} (h : Fits D L) (hs : inspS L k a = (M, 0)) : Fits D M ∧ sumU M = sumU L := by
  have hk := insp_keeps hs
  unfold inspS at hs
  repeat' split at hs
  · simp at hs
  · rename_i h1 h2 h3
    obtain ⟨hr, n, hn, rfl⟩ := thereS_one h1
    rw [Int.toNat_natCast] at hs
    unfold turnS at hs
    split at hs
    · rename_i hok
      obtain ⟨⟨b, p, x, y⟩, hx⟩ : ∃ t, L[n]? = some t := ⟨_, List.getElem?_eq_getElem hn⟩
      have e : L.set n ((atL L n).1, a, (atL L n).2.2) = M := by simpa using hs
      rw [atL_nat hx] at e h3
      replace e : L.set n (b, a, x, y) = M := e
      replace h3 : ¬ a < p := h3
      subst e
      have hnm := okLn_nums (List.all_eq_true.1 (rightL_true hr).2.2 _ (List.mem_of_getElem? hx))
      refine ⟨⟨h.rd, hk.1, fun j t hj => ?_, fun t ht hst => by rw [List.length_set]; exact h.inl t ht hst⟩, ?_⟩
      · by_cases hjn : n = j
        · subst hjn
          rw [List.getElem?_set_self hn] at hj
          obtain rfl := Option.some.inj hj
          have h5 := h.fit n _ hx
          have := cap_up (b := b) (p := p) (q := a) (by omega) (by omega)
          show usedS (b, a, x, y) + _ ≤ capS b a
          have e5 : usedS (b, a, x, y) = usedS (b, p, x, y) := rfl
          rw [e5]
          replace h5 : usedS (b, p, x, y) + pendS n D ≤ capS b p := h5
          omega
        · rw [List.getElem?_set_ne hjn] at hj
          exact h.fit j t hj
      · rw [sumU_set hx]; show sumU L - (x + y) + (x + y) = _; omega
    · simp at hs
  · simp at hs
  · simp at hs
theorem fits_fund {D : List Dw} {L : List Ln} {n : Nat} {l a r : Int} (h : Fits D L) (ht : D[n]? = some (l, a, 1)) (r0 : 0 ≤ r) (r1 : r ≤ 10000) :
    ∃ (M : List Ln) (paid held : Int), fundS D L n r = (D.set n (l, a, 2), M, (0, 0, paid, held), 0) ∧ 0 ≤ paid ∧ 0 ≤ held ∧ paid + held = a ∧ a ≤ 1000000000000 ∧ Fits (D.set n (l, a, 2)) M ∧ sumU M = sumU L + a ∧ fundS (D.set n (l, a, 2)) M n r = ([], [], (0, 0, 0, 0), 152) := by
  have hn := (List.getElem?_eq_some_iff.1 ht).1
  have hnm := okDw_nums (List.all_eq_true.1 (rightW_true h.rd).2 _ (List.mem_of_getElem? ht))
  replace hnm : (0 ≤ l ∧ l ≤ 15) ∧ (1 ≤ a ∧ a ≤ 1000000000000) ∧ (0 ≤ (1 : Int) ∧ (1 : Int) ≤ 3) := hnm
  have hll := h.inl _ (List.mem_of_getElem? ht) rfl
  replace hll : l < (L.length : Int) := hll
  obtain ⟨m, rfl⟩ := Int.eq_ofNat_of_zero_le hnm.1.1
  have hm : m < L.length := by omega
  obtain ⟨⟨b, p, x, y⟩, hx⟩ : ∃ t, L[m]? = some t := ⟨_, List.getElem?_eq_getElem hm⟩
  have hln := okLn_nums (List.all_eq_true.1 (rightL_true h.rl).2.2 _ (List.mem_of_getElem? hx))
  have hfit := h.fit m _ hx
  replace hfit : (x + y) + pendS m D ≤ capS b p := hfit
  have hge := pend_ge (rightW_true h.rd).2 ht
  have hci := cap_in (b := b) (p := p) (by omega) (by omega) (by omega) (by omega)
  have hcs := cap_in (b := a) (p := r) (by omega) (by omega) r0 r1
  have hth : thereW D n = true := by simp [thereW, inN, h.rd, hn]
  have hat := atW_nat ht
  have hf : findS D n [1] = (((m : Int), a, 1), 0) := by
    unfold findS; rw [if_pos hth, hat]; rfl
  have hst : stripS a r = (capS a r, a - capS a r, 0) := by unfold stripS; rw [if_pos ⟨r0, r1⟩]
  have hthL : thereS L [(m : Int)] = true := by simp [thereS, inN, h.rl, hm]
  obtain ⟨c, hc⟩ : ∃ c, capS a r = c := ⟨_, rfl⟩
  rw [hc] at hst hcs
  have hokL : okLn (b, p, x + (a - c), y + c) = true := by
    simp only [okLn, okM, Bool.and_eq_true, decide_eq_true_eq]
    omega
  have hpay : payS L (m : Int) (a - c) c = (L.set m (b, p, x + (a - c), y + c), 0) := by
    unfold payS
    rw [if_pos hthL, if_pos ⟨(okM_iff _).2 (by omega), (okM_iff _).2 (by omega), by omega⟩, atL_nat hx, Int.toNat_natCast]
    unfold turnS
    rw [if_pos hokL]
  have hW : rightW (D.set n ((m : Int), a, 2)) = true := rightW_set h.rd (okDw_of (by omega))
  refine ⟨L.set m (b, p, x + (a - c), y + c), a - c, c, ?_, by omega, by omega, by omega, by omega, ⟨hW, right_set h.rl hokL, fun j t hj => ?_, fun t hj hst => ?_⟩, ?_, ?_⟩
  · unfold fundS
    rw [hf, if_pos rfl, hat]
    show (if (stripS a r).2.2 = 0 then _ else _) = _
    rw [hst, if_pos rfl, hpay, if_pos rfl, Int.toNat_natCast]
  · rw [pend_set ht 2]
    rw [if_neg (c := (m : Int) = (j : Int) ∧ (2 : Int) = 1) (fun e => by have := e.2; omega)]
    by_cases hjm : m = j
    · subst hjm
      rw [List.getElem?_set_self hm] at hj
      obtain rfl := Option.some.inj hj
      rw [if_pos ⟨rfl, rfl⟩]
      show (x + (a - c)) + (y + c) + _ ≤ capS b p
      omega
    · rw [List.getElem?_set_ne hjm] at hj
      have := h.fit j t hj
      rw [if_neg (fun e => hjm (by have := e.1; omega))]
      omega
  · rw [List.length_set]
    rcases List.mem_or_eq_of_mem_set hj with hj | rfl
    · exact h.inl t hj hst
    · simp at hst
  · rw [sumU_set hx]; show sumU L - (x + y) + ((x + (a - c)) + (y + c)) = _; omega
  · have ht2 : (D.set n ((m : Int), a, 2))[n]? = some ((m : Int), a, 2) := by rw [List.getElem?_set_self hn]
    have hth2 : thereW (D.set n ((m : Int), a, 2)) n = true := by simp [thereW, inN, hW, hn]
    unfold fundS findS
    rw [if_pos hth2, atW_nat ht2]
    rfl
end Go.Proofs.Ytikfclioplploaa
