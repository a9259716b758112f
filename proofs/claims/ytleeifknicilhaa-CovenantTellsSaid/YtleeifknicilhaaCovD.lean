/-
  Covenants: InBalance, the chapter's example.
-/
import Derived.Test.YtleeifknicilhaaCovC
set_option linter.unusedVariables false
set_option linter.unusedSimpArgs false
namespace Go.Proofs.Ytleeifknicilhaa
open Go.RowKit Dg

theorem ret_bool {a b : Bool} (h : a = b) : Ending.returned (.bool a) = .returned (.bool b) := by rw [h]
theorem inbal_any (a b : Int) (w : World) :
    Calls Try.prog 18 #[.int .i64 a, .int .i64 b] w fun e w' => e = .returned (.bool (decide (b ≤ a))) ∧ w' = w := by
  by_cases h : b ≤ a
  all_goals
    go_enter Try.func18, Try.ntmps18
    go_wp2
    go_ret
    simp [h]
set_option maxRecDepth 8000 in
set_option maxHeartbeats 1600000 in
theorem calive_any (w : World) : Calls Try.prog 10 #[] w fun e w' => e = .returned (.bool true) ∧ Below w.heap.size w w' := by
  have H1 := fun W => broken_any 800 1000 1600 125 100 8000 5000 12500 (by decide) (by decide) (by decide) (by decide) (by decide) (by decide) (by decide) (by decide) W
  have H2 := fun W => broken_any 801 1000 1600 125 100 8000 5000 12500 (by decide) (by decide) (by decide) (by decide) (by decide) (by decide) (by decide) (by decide) W
  have H3 := fun W => most_any 801 1000 1600 125 100 8000 5000 12500 W
  have H4 := fun W => cltc_any 801 1000 1600 125 100 8000 5000 12500 (by decide) (by decide) (by decide) W
  rw [show brS 800 1000 1600 125 100 8000 5000 12500 = (0, 0) from by decide] at H1
  rw [show brS 801 1000 1600 125 100 8000 5000 12500 = (3, 0) from by decide] at H2
  rw [show moS 801 1000 1600 125 100 8000 5000 12500 = (800, 0) from by decide] at H3
  rw [show ltcB 801 1000 8000 = false from by decide] at H4
  have K1 := Lib.hid H1; have K2 := Lib.hid H2; have K3 := Lib.hid H3; have K4 := Lib.hid H4
  clear H1 H2 H3 H4
  have HB := Lib.hid (below_new2 w (.cells #[.int .i64 800, .int .i64 1000, .int .i64 1600, .int .i64 125, .int .i64 100] 26) (.cells #[.int .i64 8000, .int .i64 5000, .int .i64 12500] 28))
  have HA := Lib.hid ((Blk.new w 26 [.int .i64 800, .int .i64 1000, .int .i64 1600, .int .i64 125, .int .i64 100]).alloc (.cells #[.int .i64 8000, .int .i64 5000, .int .i64 12500] 28))
  have HC := Lib.hid (Blk.new2 w (.cells #[.int .i64 800, .int .i64 1000, .int .i64 1600, .int .i64 125, .int .i64 100] 26) 28 [.int .i64 8000, .int .i64 5000, .int .i64 12500])
  go_enter Try.func10, Try.ntmps10
  go_wp2_with fail
  refine (K1.out _).mono ?_
  rintro e w1 ⟨rfl, hb1⟩
  have HB1 := Lib.hid (below_on HB.out HB.out.size hb1)
  have HA1 := Lib.hid (HA.out.keeps hb1); have HC1 := Lib.hid (HC.out.keeps hb1)
  clear hb1
  have hA := HA1.out; have hC := HC1.out
  have a0 := hA.cell 0 _ rfl; have a1 := hA.cell 1 _ rfl; have a2 := hA.cell 2 _ rfl; have a3 := hA.cell 3 _ rfl; have a4 := hA.cell 4 _ rfl; have c0 := hC.cell 0 _ rfl; have c1 := hC.cell 1 _ rfl; have c2 := hC.cell 2 _ rfl
  have fz := hA.frozen 0
  go_wp2_with fail
  have HAs := Lib.hid (HA1.out.set 0 (.int .i64 801)); have HCs := Lib.hid (HC1.out.other ⟨w.heap.size, 0, none⟩ (.int .i64 801) (by simp))
  have HBs := Lib.hid (HB1.out.setCell (p := ⟨w.heap.size, 0, none⟩) (Nat.le_refl _) (.int .i64 801))
  clear fz
  refine (K2.out _).mono ?_
  rintro e w2 ⟨rfl, hb⟩
  have HB2 := Lib.hid (below_on HBs.out HBs.out.size hb)
  have HA2 := Lib.hid (HAs.out.keeps hb); have HC2 := Lib.hid (HCs.out.keeps hb)
  clear hb a0 a1 a2 a3 a4 c0 c1 c2 hA hC
  have hA := HA2.out; have hC := HC2.out
  have a0 := hA.cell 0 _ rfl; have a1 := hA.cell 1 _ rfl; have a2 := hA.cell 2 _ rfl; have a3 := hA.cell 3 _ rfl; have a4 := hA.cell 4 _ rfl; have c0 := hC.cell 0 _ rfl; have c1 := hC.cell 1 _ rfl; have c2 := hC.cell 2 _ rfl
  go_wp2_with fail
  refine (K3.out _).mono ?_
  rintro e w3 ⟨rfl, hb⟩
  have HB3 := Lib.hid (below_on HB2.out HB2.out.size hb)
  have HA3 := Lib.hid (HA2.out.keeps hb); have HC3 := Lib.hid (HC2.out.keeps hb)
  clear hb a0 a1 a2 a3 a4 c0 c1 c2 hA hC
  have hA := HA3.out; have hC := HC3.out
  have a0 := hA.cell 0 _ rfl; have a1 := hA.cell 1 _ rfl; have a2 := hA.cell 2 _ rfl; have a3 := hA.cell 3 _ rfl; have a4 := hA.cell 4 _ rfl; have c0 := hC.cell 0 _ rfl; have c1 := hC.cell 1 _ rfl; have c2 := hC.cell 2 _ rfl
  go_wp2_with fail
  refine (K4.out _).mono ?_
  rintro e w4 ⟨rfl, hb⟩
  have HB4 := Lib.hid (below_on HB3.out HB3.out.size hb)
  have HA4 := Lib.hid (HA3.out.keeps hb); have HC4 := Lib.hid (HC3.out.keeps hb)
  clear hb a0 a1 a2 a3 a4 c0 c1 c2 hA hC
  have hA := HA4.out; have hC := HC4.out
  have a0 := hA.cell 0 _ rfl; have a1 := hA.cell 1 _ rfl; have a2 := hA.cell 2 _ rfl; have a3 := hA.cell 3 _ rfl; have a4 := hA.cell 4 _ rfl; have c0 := hC.cell 0 _ rfl; have c1 := hC.cell 1 _ rfl; have c2 := hC.cell 2 _ rfl
  go_wp2_with fail
  refine (inbal_any 5 5 _).mono ?_
  rintro e w5 ⟨rfl, rfl⟩
  go_wp2_with fail
  refine (inbal_any 4 5 _).mono ?_
  rintro e w6 ⟨rfl, rfl⟩
  go_wp2
  go_ret
  exact ⟨rfl, HB4.out⟩
end Go.Proofs.Ytleeifknicilhaa
