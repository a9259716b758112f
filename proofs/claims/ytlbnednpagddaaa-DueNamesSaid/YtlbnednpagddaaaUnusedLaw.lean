/-
  The walk of the law DueUnused: it answers true at every input.
-/
import Derived.Test.YtlbnednpagddaaaAlive
import Derived.Test.YtlbnednpagddaaaRefUnused
set_option linter.unusedVariables false
set_option linter.unusedSimpArgs false
namespace Go.Proofs.Ytlbnednpagddaaa
open Go.RowKit

/-- Both answer the same, whatever is asked. -/
theorem unused_both (a p d r : Int) : ∃ x y n : Int,
    (∀ W, Calls Try.prog 18 #[.int .i64 a, .int .i64 p, .int .i64 d, .int .i64 r] W fun e w' => e = .returned (.tuple #[.int .i64 x, .int .i64 y, .int .i64 n]) ∧ Below W.heap.size W w') ∧
    (∀ W, Calls Try.prog 19 #[.int .i64 a, .int .i64 p, .int .i64 d, .int .i64 r] W fun e w' => e = .returned (.tuple #[.int .i64 x, .int .i64 y, .int .i64 n]) ∧ Below W.heap.size W w') := by
  rcases ask_or a p d r with h | h
  · exact ⟨_, _, _, unused_good a p d r h, runused_good a p d r h⟩
  · exact ⟨_, _, _, unused_bad a p d r h, runused_bad a p d r h⟩

set_option maxRecDepth 8000 in
set_option maxHeartbeats 1600000 in
theorem unused_law (a p r d : Int) (w : World) :
    Calls Try.prog 7 #[.agg #[.int .i64 a, .int .i64 p, .int .i64 r], .int .i64 d] w fun e w' => e = .returned (.bool true) ∧ Below w.heap.size w w' := by
  obtain ⟨x, y, n, K1, K2⟩ := unused_both a p d r
  have H1 := Lib.hid K1
  have H2 := Lib.hid K2
  clear K1 K2
  go_enter Try.func7, Try.ntmps7
  go_wp2_with fail
  refine (alive_any _).mono ?_
  rintro e w1 ⟨rfl, hb⟩
  have hN := (Blk.new w 37 [.int .i64 a, .int .i64 p, .int .i64 r]).keeps hb
  have hB := below_on (below_new1 w _) (by simp) hb
  have N0 := hN.cell 0 _ rfl; have N1 := hN.cell 1 _ rfl; have N2 := hN.cell 2 _ rfl; have Nf := hN.frozen; have Nn := hN.lt
  clear hb
  go_wp2_with fail
  refine (H1.out _).mono ?_
  rintro e w2 ⟨rfl, hb⟩
  have hN2 := hN.keeps hb
  have hB2 := below_on hB (by omega) hb
  clear N0 N1 N2 Nf Nn hb hB hN H1
  have N0 := hN2.cell 0 _ rfl; have N1 := hN2.cell 1 _ rfl; have N2 := hN2.cell 2 _ rfl; have Nf := hN2.frozen; have Nn := hN2.lt
  go_wp2_with fail
  refine (H2.out _).mono ?_
  rintro e w3 ⟨rfl, hb⟩
  have hB3 := below_on hB2 hB2.size hb
  clear N0 N1 N2 Nf Nn hb hB2 hN2 H2
  go_wp2
  go_ret
  exact ⟨rfl, hB3⟩
end Go.Proofs.Ytlbnednpagddaaa
