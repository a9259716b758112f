/-
  Resets: comparisons in the search for a day.
-/
import Derived.Test.YtaineoceiciloaaRtD
set_option linter.unusedVariables false
set_option linter.unusedSimpArgs false
namespace Go.Proofs.Ytaineoceiciloaa
open Go.RowKit

theorem isnan_any (x : Int) (w : World) : Calls Try.prog 34 #[.int .i64 x] w fun e w' => e = .returned (.bool false) ∧ w' = w := by
  go_enter Try.func34, Try.ntmps34
  go_wp2
  go_ret
  exact ⟨rfl, rfl⟩
def cmp3 (a b : Int) : Int := if a < b then -1 else if b < a then 1 else 0
theorem cmp_any (a b : Int) (w : World) : Calls Try.prog 30 #[.int .i64 a, .int .i64 b] w fun e w' => e = .returned (.int .i64 (cmp3 a b)) ∧ w' = w := by
  have H := fun x W => isnan_any x W
  unfold cmp3
  by_cases h1 : a < b
  · rw [if_pos h1]
    go_enter Try.func30, Try.ntmps30
    go_wp2
    go_ret
    exact ⟨rfl, rfl⟩
  · rw [if_neg h1]
    by_cases h2 : b < a
    · rw [if_pos h2]
      go_enter Try.func30, Try.ntmps30
      go_wp2
      go_ret
      exact ⟨rfl, rfl⟩
    · rw [if_neg h2]
      go_enter Try.func30, Try.ntmps30
      go_wp2
      go_ret
      exact ⟨rfl, rfl⟩
theorem at1_any (d x n : Int) (w : World) : Calls Try.prog 29 #[.agg #[.int .i64 d, .int .i64 x], .int .i64 n] w fun e w' => e = .returned (.int .i64 (cmp3 d n)) ∧ Below w.heap.size w w' := by
  have H := Lib.hid (fun W => cmp_any d n W)
  obtain ⟨q, hq⟩ : ∃ q, cmp3 d n = q := ⟨_, rfl⟩
  rw [hq] at H ⊢
  clear hq
  go_enter Try.func29, Try.ntmps29
  go_wp2_with fail
  refine (H.out _).mono ?_
  rintro e w1 ⟨rfl, rfl⟩
  go_wp2
  go_ret
  exact ⟨rfl, below_new1 _ _⟩
end Go.Proofs.Ytaineoceiciloaa
