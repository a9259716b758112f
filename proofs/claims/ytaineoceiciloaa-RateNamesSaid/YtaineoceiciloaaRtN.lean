/-
  The law RateNames.
-/
import Derived.Test.YtaineoceiciloaaRtA
set_option linter.unusedVariables false
set_option linter.unusedSimpArgs false
namespace Go.Proofs.Ytaineoceiciloaa
open Go.RowKit

set_option maxRecDepth 8000 in
theorem copysign_a (w : World) : Calls Try.prog 25 #[.float .f64 0, .float .f64 13830554455654793216] w fun e w' => e = .returned (.float .f64 9223372036854775808) ∧ w' = w := by
  have h0 := fun w => bits_runI 0 0 rfl w
  have h1 := fun w => bits_runI 13830554455654793216 13830554455654793216 rfl w
  have b1 : bits BinOp.andNot IntKind.u64 0 9223372036854775808 = 0 := by kernel_rfl
  have b2 : bits BinOp.and IntKind.u64 13830554455654793216 9223372036854775808 = 9223372036854775808 := by kernel_rfl
  have b3 : bits BinOp.or IntKind.u64 0 9223372036854775808 = 9223372036854775808 := by kernel_rfl
  have h2 := fun w => frombits_runI 9223372036854775808 9223372036854775808 rfl w
  go_enter Try.func25, Try.ntmps25
  go_wp2
  go_ret
  exact ⟨rfl, rfl⟩
set_option maxRecDepth 8000 in
theorem mnan_any (w : World) : Calls Try.prog 26 #[] w fun e w' => e = .returned (.float .f64 9221120237041090561) ∧ w' = w := by
  have h2 := fun w => frombits_runI 9221120237041090561 9221120237041090561 rfl w
  go_enter Try.func26, Try.ntmps26
  go_wp2
  go_ret
  exact ⟨rfl, rfl⟩
set_option maxRecDepth 8000 in
theorem inf_p (w : World) : Calls Try.prog 27 #[.int .i64 1] w fun e w' => e = .returned (.float .f64 9218868437227405312) ∧ w' = w := by
  have h2 := fun w => frombits_runI 9218868437227405312 9218868437227405312 rfl w
  go_enter Try.func27, Try.ntmps27
  go_wp2
  go_ret
  exact ⟨rfl, rfl⟩
set_option maxRecDepth 8000 in
theorem inf_m (w : World) : Calls Try.prog 27 #[.int .i64 (-1)] w fun e w' => e = .returned (.float .f64 18442240474082181120) ∧ w' = w := by
  have h2 := fun w => frombits_runI 18442240474082181120 18442240474082181120 rfl w
  go_enter Try.func27, Try.ntmps27
  go_wp2
  go_ret
  exact ⟨rfl, rfl⟩
set_option maxRecDepth 8000 in
theorem percent_bad (w : World) : Calls Try.prog 19 #[.int .i64 10001] w fun e w' => e = .returned (.tuple #[.float .f64 0, .int .i64 51]) ∧ w' = w := by
  go_enter Try.func19, Try.ntmps19
  go_wp2
  exact bodyPost_ret (v := .tuple #[.float .f64 0, .int .i64 51]) (by simp [results, Try.results19, go_sem]) rfl ⟨rfl, rfl⟩
theorem rateN : rateS 0 0 0 [] 5 = (0, 52) := by decide
set_option maxRecDepth 8000 in
set_option maxHeartbeats 1600000 in
theorem rateNames_law (w : World) : Calls Try.prog 8 #[] w fun e w' => e = .returned (.bool true) ∧ Below w.heap.size w w' := by
  have HR := Lib.hid (rate_any w 0 0 0 none 0 [] 5 (Rk.of_nil w 2) _ rateN (by decide))
  have C1 := Lib.hid (copysign_a w); have C2 := Lib.hid (mnan_any w); have C3 := Lib.hid (inf_p w); have C4 := Lib.hid (inf_m w); have C5 := Lib.hid (percent_bad w)
  have P1 := Lib.hid (points_z w); have P2 := Lib.hid (points_n w); have P3 := Lib.hid (points_p w); have P4 := Lib.hid (points_m w); have P5 := Lib.hid (points_h w)
  have HAl := Lib.hid (fun W => ralive_any W)
  go_enter Try.func8, Try.ntmps8
  go_wp2_with fail
  refine C1.out.mono ?_; rintro e w1 ⟨rfl, rfl⟩
  go_wp2_with fail
  refine P1.out.mono ?_; rintro e w1 ⟨rfl, rfl⟩
  go_wp2_with fail
  refine C2.out.mono ?_; rintro e w1 ⟨rfl, rfl⟩
  go_wp2_with fail
  refine P2.out.mono ?_; rintro e w1 ⟨rfl, rfl⟩
  go_wp2_with fail
  refine C3.out.mono ?_; rintro e w1 ⟨rfl, rfl⟩
  go_wp2_with fail
  refine P3.out.mono ?_; rintro e w1 ⟨rfl, rfl⟩
  go_wp2_with fail
  refine C4.out.mono ?_; rintro e w1 ⟨rfl, rfl⟩
  go_wp2_with fail
  refine P4.out.mono ?_; rintro e w1 ⟨rfl, rfl⟩
  go_wp2_with fail
  refine P5.out.mono ?_; rintro e w1 ⟨rfl, rfl⟩
  go_wp2_with fail
  refine C5.out.mono ?_; rintro e w1 ⟨rfl, rfl⟩
  go_wp2_with fail
  refine HR.out.mono ?_; rintro e w2 ⟨rfl, hb2⟩
  go_wp2_with fail
  refine (HAl.out _).mono ?_
  rintro e w3 ⟨rfl, hb3⟩
  have HB3 := Lib.hid (below_on hb2 hb2.size hb3)
  clear hb2 hb3
  go_wp2
  go_ret
  exact ⟨rfl, HB3.out⟩
end Go.Proofs.Ytaineoceiciloaa
