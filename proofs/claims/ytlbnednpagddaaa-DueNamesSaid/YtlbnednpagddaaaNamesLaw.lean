/-
  The walk of the law DueNames: it answers true.
-/
import Derived.Test.YtlbnednpagddaaaUnusedLaw
import Derived.Test.YtlbnednpagddaaaCharge
set_option linter.unusedVariables false
set_option linter.unusedSimpArgs false
namespace Go.Proofs.Ytlbnednpagddaaa
open Go.RowKit

set_option maxRecDepth 8000 in
set_option maxHeartbeats 1600000 in
theorem names_law (w : World) :
    Calls Try.prog 9 #[] w fun e w' => e = .returned (.bool true) ∧ Below w.heap.size w w' := by
  have H1 := Lib.hid (fun W => bill_any (-1) 0 0 (-1) 0 0 ((0, 0, 0), 0, 171) (by decide) W)
  have H2 := Lib.hid (fun W => bill_any 0 0 0 (-1) 0 0 ((0, 0, 0), 0, 142) (by decide) W)
  have H3 := Lib.hid (fun W => charge_any 0 0 0 10001 ((0, 0, 0), 0, 142) (by decide) W)
  have H4 := Lib.hid (fun W => split_any 0 0 0 20000000000001 ((0, 0, 0), (0, 0, 0, 0), 142) (by decide) W)
  have H5 := Lib.hid (fun W => unused_bad 1 1 367 0 (by unfold BadAsk; decide) W)
  simp only [dv, pv] at H1 H2 H3 H4
  go_enter Try.func9, Try.ntmps9
  go_wp2_with fail
  refine (H1.out _).mono ?_
  rintro e w1 ⟨rfl, hb⟩
  have HB1 := Lib.hid hb
  clear hb H1
  go_wp2_with fail
  refine (H2.out _).mono ?_
  rintro e w2 ⟨rfl, hb⟩
  trace_state
  have HB2 := Lib.hid (below_on (HB1.out.alloc HB1.out.size _) (HB1.out.alloc HB1.out.size _).size hb)
  clear hb H2
  go_wp2_with fail
  refine (H3.out _).mono ?_
  rintro e w3 ⟨rfl, hb⟩
  have HB3 := Lib.hid (below_on (HB2.out.alloc HB2.out.size _) (HB2.out.alloc HB2.out.size _).size hb)
  clear hb H3
  go_wp2_with fail
  refine (H4.out _).mono ?_
  rintro e w4 ⟨rfl, hb⟩
  have HB4 := Lib.hid (below_on (HB3.out.alloc HB3.out.size _) (HB3.out.alloc HB3.out.size _).size hb)
  clear hb H4
  go_wp2_with fail
  refine (H5.out _).mono ?_
  rintro e w5 ⟨rfl, hb⟩
  have hc := HB4.out.alloc HB4.out.size (.cells #[.int .i64 0, .int .i64 0, .int .i64 0] 23)
  have HB5 := Lib.hid (below_on (hc.alloc hc.size _) (hc.alloc hc.size _).size hb)
  clear hb hc H5
  go_wp2_with fail
  refine (alive_any _).mono ?_
  rintro e w6 ⟨rfl, hb⟩
  have HB6 := Lib.hid (below_on HB5.out HB5.out.size hb)
  clear hb
  go_wp2
  go_ret
  exact ⟨rfl, HB6.out⟩
end Go.Proofs.Ytlbnednpagddaaa
