/-
  Covenants: the laws CovenantNames, CovenantBalance.
-/
import Derived.Test.YtleeifknicilhaaCovD
set_option linter.unusedVariables false
set_option linter.unusedSimpArgs false
namespace Go.Proofs.Ytleeifknicilhaa
open Go.RowKit Dg

set_option maxRecDepth 8000 in
set_option maxHeartbeats 1600000 in
theorem covNames_walk (w : World) : Calls Try.prog 3 #[] w fun e w' => e = .returned (.bool true) ∧ Below w.heap.size w w' := by
  have H1 := fun W => broken_any (-1) 0 0 0 0 0 0 0 (by decide) (by decide) (by decide) (by decide) (by decide) (by decide) (by decide) (by decide) W
  have H2 := fun W => most_any 0 0 0 0 0 10001 0 0 W
  rw [show brS (-1) 0 0 0 0 0 0 0 = (0, 191) from by decide] at H1
  rw [show moS 0 0 0 0 0 10001 0 0 = (0, 191) from by decide] at H2
  have K1 := Lib.hid H1; have K2 := Lib.hid H2; have K3 := Lib.hid calive_any
  clear H1 H2
  go_enter Try.func3, Try.ntmps3
  go_wp2_with fail
  refine (K1.out _).mono ?_
  rintro e w1 ⟨rfl, hb1⟩
  go_wp2_with fail
  refine (K2.out _).mono ?_
  rintro e w2 ⟨rfl, hb2⟩
  have B2 := Lib.hid (below_on hb1 hb1.size hb2)
  clear hb1 hb2
  go_wp2_with fail
  refine (K3.out _).mono ?_
  rintro e w3 ⟨rfl, hb3⟩
  have B3 := Lib.hid (below_on B2.out B2.out.size hb3)
  go_wp2
  go_ret
  exact ⟨rfl, B3.out⟩
set_option maxRecDepth 8000 in
theorem covBalance_walk (a b : Int) (ha : i64 a) (hb : i64 b) (w : World) : Calls Try.prog 7 #[.int .i64 a, .int .i64 b] w fun e w' => e = .returned (.bool true) ∧ Below w.heap.size w w' := by
  have H2 := fun W => rcross_any a 1 b 1 ha.1 ha.2 (by decide) (by decide) hb.1 hb.2 (by decide) (by decide) W
  have hr := cmpI_range (a * 1) (b * 1)
  have hiff : (cmpI (a * 1) (b * 1) ≥ 0) ↔ b ≤ a := by unfold cmpI; split <;> (try split) <;> omega
  obtain ⟨q, hq⟩ : ∃ q, cmpI (a * 1) (b * 1) = q := ⟨_, rfl⟩
  rw [hq] at hr hiff H2
  have K2 := Lib.hid H2; have K3 := Lib.hid calive_any
  clear H2 hq ha hb
  by_cases h : b ≤ a
  all_goals
    have hq := hiff.2
    have hq2 := hiff.1
    go_enter Try.func7, Try.ntmps7
    go_wp2_with fail
    refine (K3.out _).mono ?_
    rintro e w1 ⟨rfl, hb1⟩
    go_wp2_with fail
    refine (inbal_any a b _).mono ?_
    rintro e w2 ⟨rfl, rfl⟩
    go_wp2_with fail
    refine (K2.out _).mono ?_
    rintro e w3 ⟨rfl, hb3⟩
    have B3 := Lib.hid (below_on hb1 hb1.size hb3)
    clear hb1 hb3
    have hqq : (0 ≤ q) = (b ≤ a) := propext hiff
    go_wp2
    go_ret
    exact ⟨ret_bool (by first | (simp [h]; done) | (simp [h]; omega)), B3.out⟩
theorem i64_wf {x : Int} (h : (Lit.int .i64 x).wf = true) : i64 x := by
  simpa [i64, Lit.wf, IntKind.min, IntKind.max, IntKind.signed, IntKind.bits] using h
theorem covBalance_law (a : Int) (ha : (Lit.int .i64 a).wf = true) (b : Int) (hb : (Lit.int .i64 b).wf = true) (w : World) : Calls Try.prog 7 #[.int .i64 a, .int .i64 b] w fun e w' => e = .returned (.bool true) ∧ Below w.heap.size w w' := covBalance_walk a b (i64_wf ha) (i64_wf hb) w
end Go.Proofs.Ytleeifknicilhaa
