/-
  Percentages of points: each is read back (tried one by one, by the kernel).
-/
import Derived.Test.YtaineoceiciloaaRtFd
set_option linter.unusedVariables false
set_option linter.unusedSimpArgs false
namespace Go.Proofs.Ytaineoceiciloaa
open Go.RowKit Ieee

/-- A hundredth of a whole number, as a double. -/
def pct (k : Nat) : Nat := (double.div (double.write (.number false k 0)) 4636737291354636288).getD 0
/-- Is it one, and read back? -/
def pctOk (k : Nat) : Bool := (double.div (double.write (.number false k 0)) 4636737291354636288).isSome && decide (pct k < 18446744073709551616) && decide (pS (pct k) = ((k : Int), 0))
def pctAll : Nat → Nat → Bool
  | _, 0 => true
  | s, n + 1 => pctOk (s + n) && pctAll s n
theorem pctAll_at : ∀ (s n : Nat), pctAll s n = true → ∀ k, s ≤ k → k < s + n → pctOk k = true
  | s, 0, _, k, h1, h2 => absurd h2 (Nat.not_lt.2 h1)
  | s, n + 1, h, k, h1, h2 => by
    unfold pctAll at h
    rw [Bool.and_eq_true] at h
    by_cases e : k = s + n
    · rw [e]; exact h.1
    · exact pctAll_at s n h.2 k h1 (by omega)
theorem pct0 : pctAll 0 500 = true := by decide +kernel
theorem pct1 : pctAll 500 500 = true := by decide +kernel
theorem pct2 : pctAll 1000 500 = true := by decide +kernel
theorem pct3 : pctAll 1500 500 = true := by decide +kernel
theorem pct4 : pctAll 2000 500 = true := by decide +kernel
theorem pct5 : pctAll 2500 500 = true := by decide +kernel
theorem pct6 : pctAll 3000 500 = true := by decide +kernel
theorem pct7 : pctAll 3500 500 = true := by decide +kernel
theorem pct8 : pctAll 4000 500 = true := by decide +kernel
theorem pct9 : pctAll 4500 500 = true := by decide +kernel
theorem pct10 : pctAll 5000 500 = true := by decide +kernel
theorem pct11 : pctAll 5500 500 = true := by decide +kernel
theorem pct12 : pctAll 6000 500 = true := by decide +kernel
theorem pct13 : pctAll 6500 500 = true := by decide +kernel
theorem pct14 : pctAll 7000 500 = true := by decide +kernel
theorem pct15 : pctAll 7500 500 = true := by decide +kernel
theorem pct16 : pctAll 8000 500 = true := by decide +kernel
theorem pct17 : pctAll 8500 500 = true := by decide +kernel
theorem pct18 : pctAll 9000 500 = true := by decide +kernel
theorem pct19 : pctAll 9500 500 = true := by decide +kernel
theorem pct20 : pctAll 10000 1 = true := by decide +kernel
theorem pct_ok (k : Nat) (h : k ≤ 10000) : pctOk k = true := by
  by_cases h0 : k < 500
  · exact pctAll_at 0 500 pct0 k (by omega) (by omega)
  by_cases h1 : k < 1000
  · exact pctAll_at 500 500 pct1 k (by omega) (by omega)
  by_cases h2 : k < 1500
  · exact pctAll_at 1000 500 pct2 k (by omega) (by omega)
  by_cases h3 : k < 2000
  · exact pctAll_at 1500 500 pct3 k (by omega) (by omega)
  by_cases h4 : k < 2500
  · exact pctAll_at 2000 500 pct4 k (by omega) (by omega)
  by_cases h5 : k < 3000
  · exact pctAll_at 2500 500 pct5 k (by omega) (by omega)
  by_cases h6 : k < 3500
  · exact pctAll_at 3000 500 pct6 k (by omega) (by omega)
  by_cases h7 : k < 4000
  · exact pctAll_at 3500 500 pct7 k (by omega) (by omega)
  by_cases h8 : k < 4500
  · exact pctAll_at 4000 500 pct8 k (by omega) (by omega)
  by_cases h9 : k < 5000
  · exact pctAll_at 4500 500 pct9 k (by omega) (by omega)
  by_cases h10 : k < 5500
  · exact pctAll_at 5000 500 pct10 k (by omega) (by omega)
  by_cases h11 : k < 6000
  · exact pctAll_at 5500 500 pct11 k (by omega) (by omega)
  by_cases h12 : k < 6500
  · exact pctAll_at 6000 500 pct12 k (by omega) (by omega)
  by_cases h13 : k < 7000
  · exact pctAll_at 6500 500 pct13 k (by omega) (by omega)
  by_cases h14 : k < 7500
  · exact pctAll_at 7000 500 pct14 k (by omega) (by omega)
  by_cases h15 : k < 8000
  · exact pctAll_at 7500 500 pct15 k (by omega) (by omega)
  by_cases h16 : k < 8500
  · exact pctAll_at 8000 500 pct16 k (by omega) (by omega)
  by_cases h17 : k < 9000
  · exact pctAll_at 8500 500 pct17 k (by omega) (by omega)
  by_cases h18 : k < 9500
  · exact pctAll_at 9000 500 pct18 k (by omega) (by omega)
  by_cases h19 : k < 10000
  · exact pctAll_at 9500 500 pct19 k (by omega) (by omega)
  exact pctAll_at 10000 1 pct20 k (by omega) (by omega)
/-- What is a hundredth, and what is read back. -/
theorem pct_all (k : Nat) (h : k ≤ 10000) : double.div (double.write (.number false k 0)) 4636737291354636288 = some (pct k) ∧ pct k < 18446744073709551616 ∧ pS (pct k) = ((k : Int), 0) := by
  have h1 := pct_ok k h
  unfold pctOk at h1
  rw [Bool.and_eq_true, Bool.and_eq_true, decide_eq_true_eq, decide_eq_true_eq] at h1
  obtain ⟨⟨h2, h3⟩, h4⟩ := h1
  refine ⟨?_, h3, h4⟩
  unfold pct
  cases e : double.div (double.write (.number false k 0)) 4636737291354636288 with
  | none => rw [e] at h2; cases h2
  | some z => rfl
end Go.Proofs.Ytaineoceiciloaa
