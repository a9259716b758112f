/-
  The walk of the law DueOrder: it answers true at every input.
-/
import Derived.Test.YtlbnednpagddaaaOrderLawA
import Derived.Test.YtlbnednpagddaaaOrderLawB
set_option linter.unusedVariables false
set_option linter.unusedSimpArgs false
namespace Go.Proofs.Ytlbnednpagddaaa
open Go.RowKit

set_option maxRecDepth 8000 in
/-- Out of range: nothing is asked. -/
theorem order_out (A B C a b : Int) (h : a < 0 ∨ (0 ≤ a ∧ b < 0) ∨ (0 ≤ a ∧ 0 ≤ b ∧ 10000000000000 < a) ∨ (0 ≤ a ∧ 0 ≤ b ∧ a ≤ 10000000000000 ∧ 10000000000000 < b)) (w : World) :
    Calls Try.prog 4 #[.agg #[.int .i64 A, .int .i64 B, .int .i64 C], .int .i64 a, .int .i64 b] w fun e w' => e = .returned (.bool true) ∧ Below w.heap.size w w' := by
  rcases h with h1 | ⟨h1, h2⟩ | ⟨h1, h2, h3⟩ | ⟨h1, h2, h3, h4⟩
  all_goals
    go_enter Try.func4, Try.ntmps4
    go_wp2_with fail
    refine (alive_any _).mono ?_
    rintro e w1 ⟨rfl, hb⟩
    have hB := below_on (below_new1 w _) (by simp) hb
    clear hb
    go_wp2
    go_ret
    exact ⟨rfl, hB⟩
set_option maxRecDepth 8000 in
/-- No dues: the error. -/
theorem order_bad (A B C a b : Int) (ha : 0 ≤ a ∧ a ≤ 10000000000000) (hb : 0 ≤ b ∧ b ≤ 10000000000000) (h : okD A B C = false) (w : World) :
    Calls Try.prog 4 #[.agg #[.int .i64 A, .int .i64 B, .int .i64 C], .int .i64 a, .int .i64 b] w fun e w' => e = .returned (.bool true) ∧ Below w.heap.size w w' := by
  have H1 := Lib.hid (fun W => split_any A B C (a + b) ((0, 0, 0), (0, 0, 0, 0), 171) (by unfold splitS; rw [h]; rfl) W)
  have HR := Lib.hid (fun W => right_any A B C false h W)
  obtain ⟨a0, a1⟩ := ha
  obtain ⟨b0, b1⟩ := hb
  clear h
  simp only [dv, pv] at H1
  go_enter Try.func4, Try.ntmps4
  go_wp2_with fail
  refine (alive_any _).mono ?_
  rintro e w1 ⟨rfl, hb⟩
  have hD := (Blk.new w 23 [.int .i64 A, .int .i64 B, .int .i64 C]).keeps hb
  have hB := below_on (below_new1 w _) (by simp) hb
  have D0 := hD.cell 0 _ rfl; have D1 := hD.cell 1 _ rfl; have D2 := hD.cell 2 _ rfl; have Df := hD.frozen; have Dn := hD.lt
  clear hb
  go_wp2_with fail
  refine (H1.out _).mono ?_
  rintro e w2 ⟨rfl, hb⟩
  have hD2 := hD.keeps hb
  have hB2 := below_on hB hB.size hb
  clear D0 D1 D2 Df Dn hb hD hB
  have D0 := hD2.cell 0 _ rfl; have D1 := hD2.cell 1 _ rfl; have D2 := hD2.cell 2 _ rfl; have Df := hD2.frozen; have Dn := hD2.lt
  go_wp2_with fail
  refine (HR.out _).mono ?_
  rintro e w3 ⟨rfl, hb⟩
  have hB3 := below_on ((hB2.alloc hB2.size _).alloc (by simp; omega) _) (by simp; omega) hb
  clear D0 D1 D2 Df Dn hb hD2 hB2
  go_wp2
  go_ret
  exact ⟨rfl, hB3⟩
theorem order_law (A B C a b : Int) (w : World) :
    Calls Try.prog 4 #[.agg #[.int .i64 A, .int .i64 B, .int .i64 C], .int .i64 a, .int .i64 b] w fun e w' => e = .returned (.bool true) ∧ Below w.heap.size w w' := by
  by_cases h : (0 ≤ a ∧ a ≤ 10000000000000) ∧ (0 ≤ b ∧ b ≤ 10000000000000)
  · cases hd : okD A B C with
    | false => exact order_bad A B C a b h.1 h.2 hd w
    | true =>
      obtain ⟨_, _, _, _, _, _, _, _, _, _, _, _, _, _, _, _, _, _, ho⟩ := order_plain hd h.1 h.2
      rcases Int.lt_or_le 0 _ with h4 | h4
      · exact order_b A B C a b h.1 h.2 ho h4 w
      · exact order_a A B C a b h.1 h.2 ho (Int.not_lt.2 h4) w
  · exact order_out A B C a b (by omega) w
end Go.Proofs.Ytlbnednpagddaaa
