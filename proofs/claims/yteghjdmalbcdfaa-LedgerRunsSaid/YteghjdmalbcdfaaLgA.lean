/-
  Balances with legs: plain.
-/
import Derived.Test.YteghjdmalbcdfaaLgR
set_option linter.unusedVariables false
set_option linter.unusedSimpArgs false
namespace Go.Proofs.Yteghjdmalbcdfaa
open Go.RowKit Dg

/-! ### Eight balances as cells -/
def ia (L : List Int) : Array Value := (ic L).toArray
theorem ia_size (L : List Int) : (ia L).size = L.length := by simp [ia, ic]
theorem ia_all (L : List Int) : (ia L).all (·.oneCell') = true := all_oneCell_toArray (ic_one L)
def z8 : List Int := [0, 0, 0, 0, 0, 0, 0, 0]
theorem info_i8 : (Try.prog.info? 22).map (·.size) = some 8 := by kernel_rfl
section
variable {ops : Array Oper} {rest : List Oper} {op : Oper} {a : Act} {w : World} {Q : Exit → Act → World → Prop}
theorem ld_i8 (hgd : op.guard = none) (x : Operand) (ho : op.op = .load 22 x) (b o : Nat) (hx : a.eval x = .pointer (some ⟨b, o, none⟩)) (M : List Int) (hl : M.length = 8) (hc : w.rangeAt b o (ic M))
    (h : wpList Try.prog ops Q rest (a.put op.dst (.agg (ia M))) w) : wpList Try.prog ops Q (op :: rest) a w :=
  wpList_load_mid hgd _ x ho b o hx (ic M) _ hc Try.underlying22 rfl (by rw [ic_len, hl]; exact info_i8) h
theorem st_i8 (hgd : op.guard = none) (x y : Operand) (ho : op.op = .store 22 x y) (b o : Nat) (hx : a.eval x = .pointer (some ⟨b, o, none⟩)) (M : List Int) (hy : a.eval y = .agg (ia M)) (hl : M.length = 8) (hc : w.there b o 8)
    (h : ∀ W, Hid (W = w.setCells b o (ic M)) → wpList Try.prog ops Q rest (a.put op.dst undef) W) : wpList Try.prog ops Q (op :: rest) a w :=
  wpList_store_mid hgd _ x y ho b o (ia M) hx hy (by rw [ia_size, hl]; exact hc) (by rw [ia_size, hl]; exact info_i8) (ia_all M) (h _ (Lib.hid (by simp [ia])))
end
theorem Blk.ic_set {w : World} {b T : Nat} {M : List Int} (h : Blk w b T (ic M)) (k : Nat) (v : Int) : Blk (w.setCell ⟨b, k, none⟩ (.int .i64 v)) b T (ic (M.set k v)) := by
  have := h.set k (.int .i64 v)
  rwa [show (ic M).set k (.int .i64 v) = ic (M.set k v) from by simp [ic]] at this
/-! ### Sums of an account's amounts -/
def accG (L : List Lg) (a : Int) : List Int := (L.filter (fun t => decide (t.1 = a))).map (·.2)
theorem accG_yes {L : List Lg} {k : Nat} {t : Lg} (h : L[k]? = some t) {a : Int} (ha : t.1 = a) : accG (L.take (k + 1)) a = accG (L.take k) a ++ [t.2] := by
  obtain ⟨hk, rfl⟩ := List.getElem?_eq_some_iff.1 h
  unfold accG
  rw [List.take_succ_eq_append_getElem hk, List.filter_append, List.map_append]; simp [ha]
theorem accG_no {L : List Lg} {k : Nat} {t : Lg} (h : L[k]? = some t) {a : Int} (ha : ¬ t.1 = a) : accG (L.take (k + 1)) a = accG (L.take k) a := by
  obtain ⟨hk, rfl⟩ := List.getElem?_eq_some_iff.1 h
  unfold accG
  rw [List.take_succ_eq_append_getElem hk, List.filter_append, List.map_append]; simp [ha]
theorem accG_len (L : List Lg) (a : Int) : (accG L a).length ≤ L.length := by
  unfold accG; rw [List.length_map]; exact List.length_filter_le _ _
theorem accG_in {L : List Lg} (h : ∀ t ∈ L, -9223372036854775808 ≤ t.2 ∧ t.2 ≤ 9223372036854775807) (a : Int) : ∀ x ∈ accG L a, -9223372036854775808 ≤ x ∧ x ≤ 9223372036854775807 := by
  intro x hx
  obtain ⟨t, ht, rfl⟩ := List.mem_map.1 hx
  exact h t (List.mem_filter.1 ht).1
def sumAt (T : List Int) (L : List Lg) (a : Nat) : Int := T.getD a 0 + sumI (accG L a)
def inI (x : Int) : Bool := decide (-9223372036854775808 ≤ x) && decide (x ≤ 9223372036854775807)
/-- Behind the first k accounts. -/
def mixT (T : List Int) (L : List Lg) (k : Nat) : List Int := (List.range 8).map (fun a => if a < k then sumAt T L a else T.getD a 0)
def newT (T : List Int) (L : List Lg) : List Int := mixT T L 8
def okK (T : List Int) (L : List Lg) (k : Nat) : Bool := (List.range k).all (fun a => inI (sumAt T L a))
def addS (T : List Int) (L : List Lg) : List Int × Int := if rightG L = true then (if okK T L 8 = true then (newT T L, 0) else (z8, 11)) else (z8, 131)
theorem mixT_len (T : List Int) (L : List Lg) (k : Nat) : (mixT T L k).length = 8 := by simp [mixT]
theorem mixT_zero {T : List Int} (hT : T.length = 8) (L : List Lg) : mixT T L 0 = T := by
  refine List.ext_getElem? fun j => ?_
  unfold mixT
  rw [List.getElem?_map]
  by_cases hj : j < 8
  · rw [List.getElem?_range hj, List.getElem?_eq_getElem (by omega : j < T.length)]; simp [hT, hj]
  · rw [List.getElem?_eq_none (by simp; omega), List.getElem?_eq_none (by omega)]; rfl
theorem mixT_at {T : List Int} {L : List Lg} {k j : Nat} (hj : j < 8) : (mixT T L k)[j]? = some (if j < k then sumAt T L j else T.getD j 0) := by
  unfold mixT
  rw [List.getElem?_map, List.getElem?_range hj]; rfl
theorem mixT_set (T : List Int) (L : List Lg) {k : Nat} (hk : k < 8) : (mixT T L k).set k (sumAt T L k) = mixT T L (k + 1) := by
  refine List.ext_getElem? fun j => ?_
  rw [List.getElem?_set]
  by_cases hj : j < 8
  · rw [mixT_at hj]
    by_cases e : k = j
    · subst e; rw [if_pos rfl, if_pos (by rw [mixT_len]; exact hk), mixT_at hj, if_pos (by omega)]
    · rw [if_neg e, mixT_at hj]
      by_cases h1 : j < k
      · rw [if_pos h1, if_pos (by omega)]
      · rw [if_neg h1, if_neg (by omega)]
  · rw [if_neg (by omega), List.getElem?_eq_none (by rw [mixT_len]; omega), List.getElem?_eq_none (by rw [mixT_len]; omega)]
theorem mixT_same {T : List Int} {L : List Lg} {k j : Nat} (hj : j < 8) (h : k ≤ j) : (mixT T L k)[j]? = some (T.getD j 0) := by
  rw [mixT_at hj, if_neg (by omega)]
theorem okK_step {T : List Int} {L : List Lg} {k : Nat} (h : okK T L k = true) (h2 : inI (sumAt T L k) = true) : okK T L (k + 1) = true := by
  unfold okK at *
  rw [List.range_succ, List.all_append, h]; simp [h2]
theorem okK_not {T : List Int} {L : List Lg} {k : Nat} (hk : k < 8) (h2 : inI (sumAt T L k) = false) : okK T L 8 = false := by
  unfold okK
  rw [List.all_eq_false]
  exact ⟨k, by simpa using hk, by simp [h2]⟩
theorem cutI_inI {z : Int} (h : inI z = true) : cutI z = (z, 0) := by
  simp [inI] at h; exact cutI_in h.1 h.2
theorem cutI_notI {z : Int} (h : inI z = false) : cutI z = (0, 11) := by
  have : ¬ (-9223372036854775808 ≤ z ∧ z ≤ 9223372036854775807) := by
    intro hh; simp [inI, hh.1, hh.2] at h
  exact cutI_out (by omega)
theorem getD_in {T : List Int} (hT : ∀ x ∈ T, -9223372036854775808 ≤ x ∧ x ≤ 9223372036854775807) (k : Nat) : -9223372036854775808 ≤ T.getD k 0 ∧ T.getD k 0 ≤ 9223372036854775807 := by
  rw [List.getD_eq_getElem?_getD]
  cases h : T[k]? with
  | none => simp
  | some x => exact hT x (List.mem_of_getElem? h)
end Go.Proofs.Yteghjdmalbcdfaa
