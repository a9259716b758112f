/-
  rate.Percent; the reference's Points, on to its loops.
-/
import Derived.Test.YtaineoceiciloaaRtFe
import Derived.Test.YtaineoceiciloaaSl
import Derived.Laws.FloatArith
set_option linter.unusedVariables false
set_option linter.unusedSimpArgs false
namespace Go.Proofs.Ytaineoceiciloaa
open Go.RowKit Ieee

set_option maxRecDepth 20000 in
set_option maxHeartbeats 800000 in
theorem percent_ok (w : World) (k : Nat) (h : (k : Int) ≤ 10000) (p : Nat) (hp : FloatKind.f64.format.div (floatOfInt FloatKind.f64 (k : Int)) 4636737291354636288 = some p) :
    Calls Try.prog 19 #[.int .i64 k] w fun e w' => e = .returned (.tuple #[.float .f64 p, .int .i64 0]) ∧ w' = w := by
  have h0 : ¬ (k : Int) < 0 := by omega
  have hq := fun w => run_float_arith (P := Try.prog) w .quo 35 .f64 _ _ p hp
  go_enter Try.func19, Try.ntmps19
  go_wp2
  go_ret2
  exact ⟨rfl, rfl⟩
set_option maxRecDepth 20000 in
set_option maxHeartbeats 800000 in
theorem percent_bad (w : World) (k : Int) (h : k < 0 ∨ 10000 < k) :
    Calls Try.prog 19 #[.int .i64 k] w fun e w' => e = .returned (.tuple #[.float .f64 0, .int .i64 51]) ∧ w' = w := by
  by_cases h0 : k < 0
  · clear h
    go_enter Try.func19, Try.ntmps19
    go_wp2
    go_ret2
    exact ⟨rfl, rfl⟩
  · have h1 : 10000 < k := h.resolve_left h0
    clear h
    go_enter Try.func19, Try.ntmps19
    go_wp2
    go_ret2
    exact ⟨rfl, rfl⟩
theorem near_write (k : Nat) : floatOfInt FloatKind.f64 (k : Int) = double.write (.number false k 0) := by
  show double.write (.number (decide ((k : Int) < 0)) (k : Int).natAbs 0) = _
  rw [decide_eq_false (by omega), Int.natAbs_natCast]
end Go.Proofs.Ytaineoceiciloaa
