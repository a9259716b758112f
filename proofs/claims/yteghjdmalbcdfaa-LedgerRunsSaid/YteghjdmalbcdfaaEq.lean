/-
  Two rows of ten digits are compared: the reference's '==' on arrays.
-/
import Derived.Test.YteghjdmalbcdfaaLess
set_option linter.unusedVariables false
set_option linter.unusedSimpArgs false
namespace Go.Proofs.Yteghjdmalbcdfaa
open Go.RowKit Dg

theorem size_digit (w : World) : (sizeOf 66).run Try.prog w = .ok 1 w := by kernel_rfl
theorem part_digit (w : World) (L : List Int) (i : Nat) (h : i < L.length) : (part 66 (ds L) (i * 1)).run Try.prog w = .ok (.int .u64 (Dg.at_ L i)) w := by
  have ha : (isAgg 66).run Try.prog w = .ok false w := by kernel_rfl
  unfold part
  simp [ds, du, go_sem, h, ha, Dg.at_]
theorem each_digit (L M : List Int) (w : World) (f : Nat → Option Bool × Unit → Sem (ForInStep (Option Bool × Unit)))
    (hf : ∀ i s, i < 10 → (f i s).run Try.prog w = if at_ L i = at_ M i then .ok (.yield (none, ())) w else .ok (.done (some false, ())) w) :
    ∀ (is : List Nat), (∀ i ∈ is, i < 10) → (forIn is (none, ()) f).run Try.prog w = .ok (if ∀ i ∈ is, at_ L i = at_ M i then (none, ()) else (some false, ())) w := by
  intro is
  induction is with
  | nil => intro _; simp
  | cons i is ih =>
    intro h
    have ih' := ih (fun j hj => h j (List.mem_cons_of_mem _ hj))
    rw [List.forIn_cons, Sem.run_bind, hf i _ (h i (List.mem_cons_self ..))]
    by_cases e : at_ L i = at_ M i
    · rw [if_pos e]
      simp only [Result.andThen_ok]
      rw [ih']
      congr 1
      simp [e]
    · rw [if_neg e]
      simp [e]
theorem eq_arr (L M : List Int) (hl : L.length = 10) (hm : M.length = 10) (d : Nat) (w : World) : (Op.equalIn (d + 2) 67 (.agg (ds L)) (.agg (ds M))).run Try.prog w = .ok (decide (L = M)) w := by
  unfold Op.equalIn
  simp only [Sem.run_bind, run_underlying Try.underlying67, Result.andThen_ok, size_digit, Std.Legacy.Range.forIn_eq_forIn_range']
  have hr : List.range' [:10].start [:10].size [:10].step = List.range' 0 10 := rfl
  rw [hr]
  rw [each_digit L M w _ (fun i s hi => by
    simp only [Sem.run_bind, part_digit w L i (by omega), part_digit w M i (by omega), Result.andThen_ok, run_equalIn_int w d 66 .u64 .u64 _ _ Try.underlying66]
    by_cases e : at_ L i = at_ M i
    · simp [e]
    · simp [e]) _ (fun i hi => by simpa using hi)]
  simp only [Result.andThen_ok]
  by_cases e : L = M
  · subst e; simp
  · have : ¬ ∀ i ∈ List.range' 0 10, at_ L i = at_ M i := fun hc => e (list_same L M (by omega) (fun j hj => hc j (by rw [List.mem_range'_1]; omega)))
    rw [if_neg this]
    simp [e]
/-- As the walk meets it: is a number's row of digits the row of noughts? -/
theorem eq_noughts (n : Int) (h0 : 0 ≤ n) (h : n < TOP) (w : World) : (Op.equalIn 10000 67 (.agg (ds (dg 10 n))) (.agg #[.int .u64 0, .int .u64 0, .int .u64 0, .int .u64 0, .int .u64 0, .int .u64 0, .int .u64 0, .int .u64 0, .int .u64 0, .int .u64 0])).run Try.prog w = .ok (decide (n = 0)) w := by
  have := eq_arr (dg 10 n) z10 (len10 n) rfl 9998 w
  rw [show decide (n = 0) = decide (dg 10 n = z10) from by rw [decide_eq_decide]; exact (dg_zero_iff n h0 h).symm]
  exact this
theorem ten (L : List Int) (h : L.length = 10) : ∃ x0 x1 x2 x3 x4 x5 x6 x7 x8 x9, L = [x0, x1, x2, x3, x4, x5, x6, x7, x8, x9] := by
  match L, h with
  | [x0, x1, x2, x3, x4, x5, x6, x7, x8, x9], _ => exact ⟨x0, x1, x2, x3, x4, x5, x6, x7, x8, x9, rfl⟩
theorem eq_lit (x0 x1 x2 x3 x4 x5 x6 x7 x8 x9 : Int) (w : World) : (Op.equalIn 10000 67 (.agg #[.int .u64 x0, .int .u64 x1, .int .u64 x2, .int .u64 x3, .int .u64 x4, .int .u64 x5, .int .u64 x6, .int .u64 x7, .int .u64 x8, .int .u64 x9]) (.agg #[.int .u64 0, .int .u64 0, .int .u64 0, .int .u64 0, .int .u64 0, .int .u64 0, .int .u64 0, .int .u64 0, .int .u64 0, .int .u64 0])).run Try.prog w = .ok (decide ([x0, x1, x2, x3, x4, x5, x6, x7, x8, x9] = z10)) w :=
  eq_arr [x0, x1, x2, x3, x4, x5, x6, x7, x8, x9] z10 rfl rfl 9998 w
end Go.Proofs.Yteghjdmalbcdfaa
