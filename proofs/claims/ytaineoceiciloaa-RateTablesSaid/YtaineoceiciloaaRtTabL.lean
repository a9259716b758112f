/-
  The law RateTables, of tables of whatever length.
-/
import Derived.Test.YtaineoceiciloaaRtTab
set_option linter.unusedVariables false
set_option linter.unusedSimpArgs false
namespace Go.Proofs.Ytaineoceiciloaa
open Go.RowKit

set_option maxRecDepth 8000 in
theorem rateTables_law (m f c : Int) (ao : Option Addr) (cap : Nat) (L : List Rt) (d x : Int) (w : World) (h : SlR w ao cap L) :
    Calls Try.prog 6 #[.agg #[.int .i64 m, .int .i64 f, .int .i64 c], .slice ao L.length cap, .agg #[.int .i64 d, .int .i64 x]] w fun e w' => e = .returned (.bool true) ∧ Below w.heap.size w w' := by
  by_cases hl : L.length ≤ 100
  · exact rateTables_core m f c ao cap L d x w h hl
  · have HAl := Lib.hid (fun W => ralive_any W)
    have HB0 := Lib.hid (below_new2 w (.cells #[.int .i64 m, .int .i64 f, .int .i64 c] 23) (.cells #[.int .i64 d, .int .i64 x] 46))
    have hl100 : (100 : Int) < L.length := by omega
    clear h hl
    go_enter Try.func6, Try.ntmps6
    go_wp2_with fail
    refine (HAl.out _).mono ?_
    rintro e w1 ⟨rfl, hb1⟩
    have HB1 := Lib.hid (below_on HB0.out HB0.out.size hb1)
    clear hb1
    go_wp2
    go_ret
    exact ⟨rfl, HB1.out⟩
end Go.Proofs.Ytaineoceiciloaa
