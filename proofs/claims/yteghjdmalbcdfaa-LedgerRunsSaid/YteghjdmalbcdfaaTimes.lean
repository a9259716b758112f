/-
  The walk of the reference's Times: the product of two numbers of 64 bits.
-/
import Derived.Test.YteghjdmalbcdfaaCompare
import Derived.Test.YteghjdmalbcdfaaCutI
set_option linter.unusedVariables false
set_option linter.unusedSimpArgs false
namespace Go.Proofs.Yteghjdmalbcdfaa
open Go.RowKit Dg

section
variable {ops : Array Oper} {rest : List Oper} {op : Oper} {a : Act} {w : World} {Q : Exit → Act → World → Prop}
/-- A guarded load of digits that is wanted. -/
theorem ld_arr_w (hw : Region.wanted op (yielded ops a.tmps) = true) (x : Operand) (ho : op.op = .load 67 x) (b o : Nat) (hx : a.eval x = .pointer (some ⟨b, o, none⟩)) (M : List Int) (hl : M.length = 10) (hc : w.rangeAt b o (du M))
    (h : wpList Try.prog ops Q rest (a.put op.dst (.agg (ds M))) w) : wpList Try.prog ops Q (op :: rest) a w :=
  wpList_step fun _ hK => by
    rw [if_pos hw]
    exact wp_load_mid _ x ho b o hx (du M) _ hc Try.underlying67 rfl (by rw [du_len, hl]; exact info_arr) (hK _ _ h)
theorem st_N (hgd : op.guard = none) (x y : Operand) (ho : op.op = .store 69 x y) (b o : Nat) (hx : a.eval x = .pointer (some ⟨b, o, none⟩)) (z : Int) (hy : a.eval y = .agg (N z)) (hc : w.there b o 11)
    (h : wpList Try.prog ops Q rest (a.put op.dst undef) (w.setCells b o (nl z))) : wpList Try.prog ops Q (op :: rest) a w :=
  st_num hgd x y ho b o hx _ _ hy (len10 _) hc h
theorem ld_N (hgd : op.guard = none) (x : Operand) (ho : op.op = .load 69 x) (b o : Nat) (hx : a.eval x = .pointer (some ⟨b, o, none⟩)) (z : Int) (hc : w.rangeAt b o (nl z))
    (h : wpList Try.prog ops Q rest (a.put op.dst (.agg (N z))) w) : wpList Try.prog ops Q (op :: rest) a w :=
  ld_num hgd x ho b o hx _ _ (len10 _) hc h
theorem res_N {fn : Func} {p : Tmp} (h : fn.results = #[.cell p 69]) (tmps : Array Value) (w : World) (g : Nat) (z : Int)
    (hp : tmps.getD p undef = .pointer (some ⟨g, 0, none⟩)) (hg : Blk w g 69 (nl z)) : (results fn tmps).run Try.prog w = .ok (.agg (N z)) w :=
  res_num h tmps w g _ _ (len10 _) hp hg
end

theorem Blk.newN (w : World) (T : Nat) (z : Int) : Blk (w.alloc (.cells (N z) T)) w.heap.size T (nl z) := Blk.new w T (nl z)
theorem Blk.new2N (w : World) (o : Obj) (T : Nat) (z : Int) : Blk ((w.alloc o).alloc (.cells (N z) T)) (w.heap.size + 1) T (nl z) := Blk.new2 w o T (nl z)
theorem nl_sign (z : Int) : (nl z)[0]? = some (.bool (decide (z < 0))) := rfl
theorem nl_digit (z : Int) (j : Nat) (h : j < 10) : (nl z)[1 + j]? = some (.int .u64 (at_ (dg 10 (absI z)) j)) := nu_at' _ _ j (by rw [len10]; exact h)
theorem Blk.ndigits {w : World} {b T : Nat} {z : Int} (h : Blk w b T (nl z)) : w.rangeAt b 1 (du (dg 10 (absI z))) := Blk.digits h (len10 _)
theorem nl_neg {z : Int} (h : z < 0) : nl z = nu true (dg 10 (-z)) := by unfold nl; rw [decide_eq_true h, absI_neg h]
theorem nl_pos {z : Int} (h : 0 ≤ z) : nl z = nu false (dg 10 z) := by unfold nl; rw [decide_eq_false (by omega), absI_pos h]

/-! ### the plain law -/
theorem dg_take : ∀ (k j : Nat) (n : Int), j ≤ k → (dg k n).take j = dg j n
  | k, 0, n, _ => by simp [dg]
  | 0, j + 1, n, h => by omega
  | k + 1, j + 1, n, h => by simp only [dg, List.take_succ_cons]; rw [dg_take k j _ (by omega)]
theorem take4 (n : Int) (h0 : 0 ≤ n) (h : n < 65536 ^ 4) : val ((dg 10 n).take 4) = n := by rw [dg_take 10 4 n (by omega)]; exact val_dg 4 n h0 h
/-- Behind k products of digit xi, from place i on, with y's. -/
structure Rowed (S : List Int) (xi : Int) (y : List Int) (i k : Nat) (M : List Int) : Prop where
  len : M.length = 10
  far : ∀ j, i + k ≤ j → at_ M j = at_ S j
  low : ∀ j, 0 ≤ at_ M j ∧ at_ M j < 8589934592
  all : val M = val S + xi * 65536 ^ i * val (y.take k)
theorem norm_all {S : List Int} (h : Norm S) (j : Nat) : 0 ≤ at_ S j ∧ at_ S j < 65536 := by
  by_cases hj : j < S.length
  · exact h j hj
  · rw [at_ge S j (by omega)]; omega
theorem Rowed.start {S : List Int} (hS : Norm S) (hl : S.length = 10) (xi : Int) (y : List Int) (i : Nat) : Rowed S xi y i 0 S :=
  ⟨hl, fun _ _ => rfl, fun j => by have := norm_all hS j; omega, by simp [val]⟩
theorem prod_small {p q : Int} (h1 : 0 ≤ p) (h2 : p < 65536) (h3 : 0 ≤ q) (h4 : q < 65536) : 0 ≤ p * q ∧ p * q ≤ 4294836225 := by
  refine ⟨Int.mul_nonneg h1 h3, ?_⟩
  have := Int.mul_le_mul (show p ≤ 65535 by omega) (show q ≤ 65535 by omega) h3 (by decide)
  omega
theorem Rowed.step {S y M : List Int} {xi : Int} {i k : Nat} (hS : Norm S) (hy : Norm y) (hly : y.length = 10) (hx0 : 0 ≤ xi) (hx : xi < 65536) (h : Rowed S xi y i k M) (hk : i + k < 10) (hk2 : k < 10) :
    Rowed S xi y i (k + 1) (M.set (i + k) (at_ M (i + k) + xi * at_ y k)) := by
  have hl := h.len
  have hy0 := norm_all hy k
  have hp := prod_small hx0 hx hy0.1 hy0.2
  have hf := h.far (i + k) (by omega)
  have hs := norm_all hS (i + k)
  refine ⟨by simp [hl], fun j hj => ?_, fun j => ?_, ?_⟩
  · rw [at_set_other _ _ _ _ (by omega)]; exact h.far j (by omega)
  · rw [at_set _ _ _ _ (by omega)]
    split
    · rw [hf]; omega
    · exact h.low j
  · rw [val_set _ _ _ (by omega), h.all, val_take_succ _ _ (by omega), show at_ M (i + k) + xi * at_ y k - at_ M (i + k) = xi * at_ y k from by omega, Int.pow_add]
    generalize (65536 : Int) ^ i = p
    generalize (65536 : Int) ^ k = q
    grind
theorem Rowed.small {S y M : List Int} {xi : Int} {i k : Nat} (h : Rowed S xi y i k M) (hf : val S + xi * 65536 ^ i * val (y.take k) < 65536 ^ 10) : Small M :=
  ⟨h.len, fun j => by have := h.low j; omega, by rw [h.all]; exact hf⟩
/-- What the rows come to. -/
theorem rows_next (x : List Int) (b : Int) (i : Nat) (hi : i < x.length) : val (x.take i) * b + at_ x i * 65536 ^ i * b = val (x.take (i + 1)) * b := by
  rw [val_take_succ _ _ hi, Int.add_mul]
theorem take_bound (x : List Int) (hx : Norm x) (i : Nat) (hi : i ≤ 4) (hl : x.length = 10) : 0 ≤ val (x.take i) ∧ val (x.take i) ≤ 65536 ^ 4 := by
  have hn : Norm (x.take i) := fun j hj => by
    rw [List.length_take] at hj
    have := hx j (by omega)
    unfold at_ at *
    rw [List.getD_eq_getElem?_getD, List.getElem?_take, if_pos (by omega)]
    exact this
  refine ⟨hn.val_nonneg, ?_⟩
  have h1 := val_lt _ hn
  rw [List.length_take] at h1
  have h2 : (65536 : Int) ^ (min i x.length) ≤ 65536 ^ 4 := by
    have : min i x.length = i := by omega
    rw [this]
    have : i = 0 ∨ i = 1 ∨ i = 2 ∨ i = 3 ∨ i = 4 := by omega
    rcases this with rfl | rfl | rfl | rfl | rfl <;> decide
  omega
theorem mul_bound {p q : Int} (h1 : 0 ≤ p) (h2 : p ≤ 65536 ^ 4) (h3 : 0 ≤ q) (h4 : q ≤ 65536 ^ 4) : 0 ≤ p * q ∧ p * q ≤ 65536 ^ 8 := by
  refine ⟨Int.mul_nonneg h1 h3, ?_⟩
  have := Int.mul_le_mul h2 h4 h3 (by decide)
  omega

theorem absI_mul (a b : Int) : absI (a * b) = absI a * absI b := by
  have e : ∀ z : Int, absI z = (z.natAbs : Int) := fun z => by unfold absI; split <;> omega
  rw [e, e, e, Int.natAbs_mul]; simp
theorem mul_same {a b : Int} (h : a < 0 ↔ b < 0) : nl (a * b) = nu false (dg 10 (absI a * absI b)) := by
  rw [← absI_mul]
  have : 0 ≤ a * b := by
    by_cases ha : a < 0
    · exact Int.mul_nonneg_of_nonpos_of_nonpos (by omega) (by have := h.1 ha; omega)
    · exact Int.mul_nonneg (by omega) (by have : ¬ b < 0 := fun hb => ha (h.2 hb); omega)
  rw [nl_pos this, absI_pos this]
theorem mul_neg_zero {a b : Int} (h : absI a * absI b = 0) : nl (a * b) = nu false (dg 10 (absI a * absI b)) := by
  rw [← absI_mul] at h ⊢
  have : a * b = 0 := by unfold absI at h; split at h <;> omega
  rw [this]; rfl
theorem mul_diff {a b : Int} (h : ¬ (a < 0 ↔ b < 0)) (hn : ¬ absI a * absI b = 0) : nl (a * b) = nu true (dg 10 (absI a * absI b)) := by
  rw [← absI_mul] at hn ⊢
  have : a * b ≤ 0 := by
    by_cases ha : a < 0
    · have hb : ¬ b < 0 := fun hb => h ⟨fun _ => hb, fun _ => ha⟩
      exact Int.mul_nonpos_of_nonpos_of_nonneg (by omega) (by omega)
    · have hb : b < 0 := by
        by_cases hb : b < 0
        · exact hb
        · exact absurd ⟨fun x => absurd x ha, fun x => absurd x hb⟩ h
      exact Int.mul_nonpos_of_nonneg_of_nonpos (by omega) (by omega)
  have hz : a * b ≠ 0 := fun hz => hn (by rw [hz]; rfl)
  have : a * b < 0 := by omega
  rw [nl_neg this, absI_neg this]
attribute [local irreducible] N nl dg
attribute [local go_sem] heap_size_setCells
end Go.Proofs.Yteghjdmalbcdfaa
