/-
  The law BudgetBack.
-/
import Derived.Test.YtikfclioplploaaBgM
import Derived.Test.YtikfclioplploaaBgS
set_option linter.unusedVariables false
set_option linter.unusedSimpArgs false
namespace Go.Proofs.Ytikfclioplploaa
open Go.RowKit Dg

theorem all_set {L : List Ln} {k : Nat} {t : Ln} (h : L.all okLn = true) (ht : okLn t = true) : (L.set k t).all okLn = true := by
  rw [List.all_eq_true] at h ⊢
  intro x hx
  rcases List.mem_or_eq_of_mem_set hx with h1 | rfl
  · exact h x h1
  · exact ht
theorem right_set {L : List Ln} {k : Nat} {t : Ln} (h : rightL L = true) (ht : okLn t = true) : rightL (L.set k t) = true := by
  obtain ⟨h1, h2, h3⟩ := rightL_true h
  unfold rightL
  rw [List.length_set, all_set h3 ht]; simp [h1, h2]
theorem tot_set {L : List Ln} {k : Nat} {t u : Ln} (h : L[k]? = some t) : totS (L.set k u) = totS L - t.1 + u.1 := by
  induction L generalizing k with
  | nil => simp at h
  | cons x l ih =>
    cases k with
    | zero =>
      have e : x = t := by simpa using h
      subst e
      simp only [List.set_cons_zero, totS]; omega
    | succ k =>
      have := ih (by simpa using h)
      simp only [List.set_cons_succ, totS, this]; omega
theorem atL_nat {L : List Ln} {k : Nat} {t : Ln} (h : L[k]? = some t) : atL L (k : Int) = t := by
  unfold atL; rw [Int.toNat_natCast, List.getD_eq_getElem?_getD, h]; rfl
theorem thereS_nat {L : List Ln} {k : Nat} (h : rightL L = true) (hk : k < L.length) : thereS L [(k : Int)] = true := by
  simp [thereS, inN, h]; omega
theorem thereS_nat2 {L : List Ln} {k m : Nat} (h : rightL L = true) (hk : k < L.length) (hm : m < L.length) : thereS L [(k : Int), (m : Int)] = true := by
  simp [thereS, inN, h]; omega
theorem cap_mono {b c p : Int} (h : b ≤ c) (hp : 0 ≤ p) : capS b p ≤ capS c p := by
  have := Int.mul_le_mul_of_nonneg_right h hp
  unfold capS
  exact Int.ediv_le_ediv (by decide) this
/-- What Move says when it does. -/
theorem moveS_ok {L : List Ln} {f t a : Int} (h : (moveS L f t a).2 = 0) : ∃ (n m : Nat) (x y : Ln), f = n ∧ t = m ∧ n ≠ m ∧ 1 ≤ a ∧ a ≤ 1000000000000 ∧ rightL L = true ∧ L[n]? = some x ∧ L[m]? = some y ∧ okLn (x.1 - a, x.2) = true ∧ y.1 + a ≤ 1000000000000 ∧ (moveS L f t a).1 = (L.set n (x.1 - a, x.2)).set m (y.1 + a, y.2) := by
  unfold moveS at h ⊢
  split at h
  · rename_i h1
    rw [if_pos h1]
    obtain ⟨_, m, hm, rfl⟩ := thereS_two h1
    split at h
    · simp at h
    · rename_i h2
      rw [if_neg h2]
      split at h
      · simp at h
      · rename_i h3
        rw [if_neg h3]
        split at h
        · rename_i h4
          rw [if_pos h4]
          obtain ⟨a1, a2, hr, n, hn, rfl, hok, hM⟩ := cutS_ok h4
          have hnm : n ≠ m := fun e => h3 (by rw [e])
          obtain ⟨x, hx⟩ : ∃ t, L[n]? = some t := ⟨_, List.getElem?_eq_getElem hn⟩
          obtain ⟨y, hy⟩ : ∃ t, L[m]? = some t := ⟨_, List.getElem?_eq_getElem hm⟩
          rw [atL_nat hx] at hok hM
          have hyM : (cutS L n a).1[m]? = some y := by rw [hM, List.getElem?_set_ne hnm]; exact hy
          rw [atL_nat hyM] at h ⊢
          split at h
          · rename_i h5
            rw [if_pos h5]
            exact ⟨n, m, x, y, rfl, rfl, hnm, a1, a2, hr, hx, hy, hok, h5, by rw [hM, Int.toNat_natCast]⟩
          · simp at h
        · rename_i h4
          exact absurd h h4
  · simp at h
theorem moveS_do {L : List Ln} {n m : Nat} {x y : Ln} {a : Int} (hr : rightL L = true) (hx : L[n]? = some x) (hy : L[m]? = some y) (hnm : n ≠ m) (a1 : 1 ≤ a) (a2 : a ≤ 1000000000000) (hok : okLn (x.1 - a, x.2) = true) (h5 : y.1 + a ≤ 1000000000000) : moveS L n m a = ((L.set n (x.1 - a, x.2)).set m (y.1 + a, y.2), 0) := by
  have hn := (List.getElem?_eq_some_iff.1 hx).1
  have hm := (List.getElem?_eq_some_iff.1 hy).1
  have hcut : cutS L n a = (L.set n (x.1 - a, x.2), 0) := by
    unfold cutS
    rw [if_pos (thereS_nat hr hn), if_pos ⟨a1, a2⟩, atL_nat hx, turnS, if_pos hok, Int.toNat_natCast]
  unfold moveS
  rw [if_pos (thereS_nat2 hr hn hm), hcut]
  have hyM : (L.set n (x.1 - a, x.2))[m]? = some y := by rw [List.getElem?_set_ne hnm]; exact hy
  rw [if_neg (by show ¬ (0 : Int) = 142; decide), if_neg (by omega), if_pos rfl]
  show (if (atL (L.set n (x.1 - a, x.2)) m).1 + a ≤ 1000000000000 then _ else _) = _
  rw [atL_nat hyM, if_pos h5, Int.toNat_natCast]
theorem ok_more {y : Ln} {a : Int} (h : okLn y = true) (a1 : 1 ≤ a) (h5 : y.1 + a ≤ 1000000000000) : okLn (y.1 + a, y.2) = true := by
  obtain ⟨⟨b0, b1⟩, ⟨p0, p1⟩, ⟨x0, x1⟩, ⟨y0, y1⟩, hc⟩ := okLn_true h
  have := cap_mono (b := y.1) (c := y.1 + a) (p := y.2.1) (by omega) p0
  simp only [okLn, okM, Bool.and_eq_true, decide_eq_true_eq]
  omega
/-- There and back. -/
theorem move_back {L K : List Ln} {f t a : Int} (h : moveS L f t a = (K, 0)) : moveS K t f a = (L, 0) ∧ rightL K = true ∧ totS K = totS L ∧ rightL L = true ∧ K.length = L.length := by
  obtain ⟨n, m, x, y, rfl, rfl, hnm, a1, a2, hr, hx, hy, hok, h5, hK⟩ := moveS_ok (by rw [h])
  rw [h] at hK
  replace hK : K = (L.set n (x.1 - a, x.2)).set m (y.1 + a, y.2) := hK
  have hn := (List.getElem?_eq_some_iff.1 hx).1
  have hm := (List.getElem?_eq_some_iff.1 hy).1
  obtain ⟨l1, l2, hall⟩ := rightL_true hr
  have hyo := List.all_eq_true.1 hall _ (List.mem_of_getElem? hy)
  have hxo := List.all_eq_true.1 hall _ (List.mem_of_getElem? hx)
  have hmo := ok_more hyo a1 h5
  have hrK : rightL K = true := by rw [hK]; exact right_set (right_set hr hok) hmo
  have hKn : K[n]? = some (x.1 - a, x.2) := by rw [hK, List.getElem?_set_ne hnm.symm, List.getElem?_set_self hn]
  have hKm : K[m]? = some (y.1 + a, y.2) := by rw [hK, List.getElem?_set_self (by rw [List.length_set]; exact hm)]
  refine ⟨?_, hrK, ?_, hr, by rw [hK, List.length_set, List.length_set]⟩
  · have e1 : ((y.1 + a, y.2).1 - a, (y.1 + a, y.2).2) = y := by
      show (y.1 + a - a, y.2) = y
      rw [Int.add_sub_cancel]
    have e2 : ((x.1 - a, x.2).1 + a, (x.1 - a, x.2).2) = x := by
      show (x.1 - a + a, x.2) = x
      rw [Int.sub_add_cancel]
    have hxb := (okLn_true hxo).1
    rw [moveS_do hrK hKm hKn hnm.symm a1 a2 (by rw [e1]; exact hyo) (by show x.1 - a + a ≤ _; omega), e1, e2]
    congr 1
    refine List.ext_getElem? fun j => ?_
    by_cases jn : n = j
    · subst jn
      rw [List.getElem?_set_self (by rw [List.length_set, hK, List.length_set, List.length_set]; exact hn), hx]
    · rw [List.getElem?_set_ne jn]
      by_cases jm : m = j
      · subst jm
        rw [List.getElem?_set_self (by rw [hK, List.length_set, List.length_set]; exact hm), hy]
      · rw [List.getElem?_set_ne jm, hK, List.getElem?_set_ne jm, List.getElem?_set_ne jn]
  · have hym : (L.set n (x.1 - a, x.2))[m]? = some y := by rw [List.getElem?_set_ne hnm]; exact hy
    rw [hK, tot_set hym, tot_set hx]
    show totS L - x.1 + (x.1 - a) - y.1 + (y.1 + a) = totS L
    omega
theorem newS_ok {B : List Int} (h : (newS B).2 = 0) : rightL (bare B) = true ∧ newS B = (bare B, 0) := by
  unfold newS at h ⊢
  split at h
  · rename_i h1
    exact ⟨h1, by rw [if_pos h1]⟩
  · simp at h
/-- Of a line without payments: all its work is done, one is paid, and it is cut down. -/
theorem bare_at {B : List Int} {k : Nat} {t : Ln} (h : (bare B)[k]? = some t) : ∃ b, t = (b, 0, 0, 0) := by
  unfold bare at h
  rw [List.getElem?_map] at h
  cases hb : B[k]? with
  | none => rw [hb] at h; simp at h
  | some b => rw [hb] at h; exact ⟨b, (Option.some.inj h).symm⟩
theorem cap_all (b : Int) : capS b 10000 = b := by unfold capS; omega
theorem ok_b {b c d : Int} (h1 : 0 ≤ b) (h2 : b ≤ 1000000000000) (h3 : 0 ≤ c) (h4 : c ≤ b) : okLn (b, 10000, c, 0) = true := by
  simp only [okLn, okM, cap_all, Bool.and_eq_true, decide_eq_true_eq]
  omega
theorem back_plain {L : List Ln} {k : Nat} {b : Int} (hr : rightL L = true) (ht : L[k]? = some (b, 0, 0, 0)) (h2 : 2 ≤ b) :
    inspS L k 10000 = (L.set k (b, 10000, 0, 0), 0) ∧ payS (L.set k (b, 10000, 0, 0)) k 1 0 = (L.set k (b, 10000, 1, 0), 0) ∧ cutS (L.set k (b, 10000, 1, 0)) k (b - 1) = (L.set k (1, 10000, 1, 0), 0) ∧ cutS (L.set k (b, 10000, 1, 0)) k b = ([], 143) := by
  have hk := (List.getElem?_eq_some_iff.1 ht).1
  obtain ⟨l1, l2, hall⟩ := rightL_true hr
  have hto := (okLn_true (List.all_eq_true.1 hall _ (List.mem_of_getElem? ht))).1
  have b1 : b ≤ 1000000000000 := hto.2
  have o1 : okLn (b, 10000, 0, 0) = true := ok_b (d := 0) (by omega) b1 (by omega) (by omega)
  have o2 : okLn (b, 10000, 1, 0) = true := ok_b (d := 0) (by omega) b1 (by omega) (by omega)
  have o3 : okLn (1, 10000, 1, 0) = true := by decide
  have r1 := right_set (k := k) hr o1
  have r2 := right_set (k := k) hr o2
  have s1 : (L.set k (b, 10000, 0, 0))[k]? = some (b, 10000, 0, 0) := List.getElem?_set_self hk
  have s2 : (L.set k (b, 10000, 1, 0))[k]? = some (b, 10000, 1, 0) := List.getElem?_set_self hk
  have t1 := thereS_nat hr hk
  have t2 := thereS_nat (k := k) r1 (by rw [List.length_set]; exact hk)
  have t3 := thereS_nat (k := k) r2 (by rw [List.length_set]; exact hk)
  refine ⟨?_, ?_, ?_, ?_⟩
  · unfold inspS
    rw [if_pos t1, if_pos (by decide), atL_nat ht, if_neg (by show ¬ (10000 : Int) < 0; decide), turnS, Int.toNat_natCast]
    show (if okLn (b, 10000, 0, 0) = true then _ else _) = _
    rw [if_pos o1]
  · unfold payS
    rw [if_pos t2, if_pos (by decide), atL_nat s1, turnS, Int.toNat_natCast]
    show (if okLn (b, 10000, 1, 0) = true then ((L.set k (b, 10000, 0, 0)).set k (b, 10000, 1, 0), 0) else _) = _
    rw [if_pos o2, List.set_set]
  · unfold cutS
    rw [if_pos t3, if_pos (by omega), atL_nat s2, turnS, Int.toNat_natCast]
    show (if okLn (b - (b - 1), 10000, 1, 0) = true then ((L.set k (b, 10000, 1, 0)).set k (b - (b - 1), 10000, 1, 0), 0) else _) = _
    rw [show b - (b - 1) = 1 by omega, if_pos o3, List.set_set]
  · unfold cutS
    rw [if_pos t3, if_pos (by omega), atL_nat s2, turnS, Int.toNat_natCast]
    show (if okLn (b - b, 10000, 1, 0) = true then _ else _) = _
    rw [show b - b = 0 by omega, if_neg (by decide)]
end Go.Proofs.Ytikfclioplploaa
