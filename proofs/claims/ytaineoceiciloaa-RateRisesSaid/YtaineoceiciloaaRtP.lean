/-
  The walk of rate.Points at the examples' floats.
-/
import Derived.Test.YtaineoceiciloaaBlk
import Derived.Laws.Externs
set_option linter.unusedVariables false
set_option linter.unusedSimpArgs false
namespace Go.Proofs.Ytaineoceiciloaa
open Go.RowKit

theorem frombits_run (n : Nat) (w : World) : (callFunc 17 #[.int .u64 n]).run Try.prog w = .ok (.value (.float .f64 n)) w := by
  rw [run_callFunc_extern Try.func17 (by kernel_rfl) (by kernel_rfl) (by kernel_rfl) (e := Extern.MathFloatBits.float64frombits) (by kernel_rfl)]
  rfl
theorem bits_run (n : Nat) (w : World) : (callFunc 32 #[.float .f64 n]).run Try.prog w = .ok (.value (.int .u64 n)) w := by
  rw [run_callFunc_extern Try.func32 (by kernel_rfl) (by kernel_rfl) (by kernel_rfl) (e := Extern.MathFloatBits.float64bits) (by kernel_rfl)]
  rfl
theorem frombits_runI (x : Int) (n : Nat) (h : x = n) (w : World) : (callFunc 17 #[.int .u64 x]).run Try.prog w = .ok (.value (.float .f64 n)) w := by rw [h]; exact frombits_run n w
theorem bits_runI (x : Int) (n : Nat) (h : x = n) (w : World) : (callFunc 32 #[.float .f64 n]).run Try.prog w = .ok (.value (.int .u64 x)) w := by rw [h]; exact bits_run n w
set_option maxRecDepth 8000 in
theorem nan_a (w : World) : Calls Try.prog 31 #[.float .f64 4616471093031469056] w fun e w' => e = .returned (.bool false) ∧ w' = w := by
  have o1 : FloatKind.f64.format.order 4616471093031469056 4616471093031469056 = some Ordering.eq := by kernel_rfl
  go_enter Try.func31, Try.ntmps31
  go_wp2
  go_ret
  exact ⟨rfl, rfl⟩
set_option maxRecDepth 8000 in
theorem len_a (w : World) : Calls Try.prog 33 #[.int .u64 478507460408115200] w fun e w' => e = .returned (.int .i64 59) ∧ w' = w := by
  go_enter Try.func33, Try.ntmps33
  go_wp2
  go_ret
  exact ⟨by kernel_rfl, rfl⟩
set_option maxRecDepth 8000 in
theorem points_a (w : World) : Calls Try.prog 15 #[.float .f64 4616471093031469056] w fun e w' => e = .returned (.tuple #[.int .i64 425, .int .i64 0]) ∧ w' = w := by
  have HN := Lib.hid (nan_a w)
  have hb := fun w => bits_runI 4616471093031469056 4616471093031469056 rfl w
  have o2 : FloatKind.f64.format.order 4616471093031469056 0 = some Ordering.gt := by kernel_rfl
  have o3 : FloatKind.f64.format.order 4616471093031469056 4636737291354636288 = some Ordering.lt := by kernel_rfl
  have b1 : bits BinOp.and IntKind.u64 4616471093031469056 4503599627370495 = 281474976710656 := by kernel_rfl
  have b2 : bits BinOp.or IntKind.u64 281474976710656 4503599627370496 = 4785074604081152 := by kernel_rfl
  have b3 : IntKind.u64.wrap (4785074604081152 * 100) = 478507460408115200 := by kernel_rfl
  have b4 : bits BinOp.and IntKind.u64 478507460408115200 1125899906842623 = 0 := by kernel_rfl
  have HLn := Lib.hid (fun W => len_a W)
  go_enter Try.func15, Try.ntmps15
  go_wp2_with fail
  refine HN.out.mono ?_
  rintro e w1 ⟨rfl, rfl⟩
  go_wp2_with fail
  refine (HLn.out _).mono ?_
  rintro e w2 ⟨rfl, rfl⟩
  go_wp2
  go_ret2
  exact ⟨rfl, rfl⟩
set_option maxRecDepth 8000 in
theorem nan_b (w : World) : Calls Try.prog 31 #[.float .f64 4572414629676717179] w fun e w' => e = .returned (.bool false) ∧ w' = w := by
  have o1 : FloatKind.f64.format.order 4572414629676717179 4572414629676717179 = some Ordering.eq := by kernel_rfl
  go_enter Try.func31, Try.ntmps31
  go_wp2
  go_ret
  exact ⟨rfl, rfl⟩
set_option maxRecDepth 8000 in
theorem len_b (w : World) : Calls Try.prog 33 #[.int .u64 576460752303423500] w fun e w' => e = .returned (.int .i64 60) ∧ w' = w := by
  go_enter Try.func33, Try.ntmps33
  go_wp2
  go_ret
  exact ⟨by kernel_rfl, rfl⟩
set_option maxRecDepth 8000 in
theorem points_b (w : World) : Calls Try.prog 15 #[.float .f64 4572414629676717179] w fun e w' => e = .returned (.tuple #[.int .i64 1, .int .i64 0]) ∧ w' = w := by
  have HN := Lib.hid (nan_b w)
  have hb := fun w => bits_runI 4572414629676717179 4572414629676717179 rfl w
  have o2 : FloatKind.f64.format.order 4572414629676717179 0 = some Ordering.gt := by kernel_rfl
  have o3 : FloatKind.f64.format.order 4572414629676717179 4636737291354636288 = some Ordering.lt := by kernel_rfl
  have b1 : bits BinOp.and IntKind.u64 4572414629676717179 4503599627370495 = 1261007895663739 := by kernel_rfl
  have b2 : bits BinOp.or IntKind.u64 1261007895663739 4503599627370496 = 5764607523034235 := by kernel_rfl
  have b3 : IntKind.u64.wrap (5764607523034235 * 100) = 576460752303423500 := by kernel_rfl
  have b4 : bits BinOp.and IntKind.u64 576460752303423500 1152921504606846975 = 576460752303423500 := by kernel_rfl
  have HLn := Lib.hid (fun W => len_b W)
  go_enter Try.func15, Try.ntmps15
  go_wp2_with fail
  refine HN.out.mono ?_
  rintro e w1 ⟨rfl, rfl⟩
  go_wp2_with fail
  refine (HLn.out _).mono ?_
  rintro e w2 ⟨rfl, rfl⟩
  go_wp2
  go_ret2
  exact ⟨rfl, rfl⟩
set_option maxRecDepth 8000 in
theorem nan_z (w : World) : Calls Try.prog 31 #[.float .f64 9223372036854775808] w fun e w' => e = .returned (.bool false) ∧ w' = w := by
  have o1 : FloatKind.f64.format.order 9223372036854775808 9223372036854775808 = some Ordering.eq := by kernel_rfl
  go_enter Try.func31, Try.ntmps31
  go_wp2
  go_ret
  exact ⟨rfl, rfl⟩
set_option maxRecDepth 8000 in
theorem points_z (w : World) : Calls Try.prog 15 #[.float .f64 9223372036854775808] w fun e w' => e = .returned (.tuple #[.int .i64 0, .int .i64 0]) ∧ w' = w := by
  have HN := Lib.hid (nan_z w)
  have hb := fun w => bits_runI 9223372036854775808 9223372036854775808 rfl w
  have o2 : FloatKind.f64.format.order 9223372036854775808 0 = some Ordering.eq := by kernel_rfl
  have o3 : FloatKind.f64.format.order 9223372036854775808 4636737291354636288 = some Ordering.lt := by kernel_rfl
  go_enter Try.func15, Try.ntmps15
  go_wp2_with fail
  refine HN.out.mono ?_
  rintro e w1 ⟨rfl, rfl⟩
  go_wp2
  go_ret2
  exact ⟨rfl, rfl⟩
set_option maxRecDepth 8000 in
theorem nan_n (w : World) : Calls Try.prog 31 #[.float .f64 9221120237041090561] w fun e w' => e = .returned (.bool true) ∧ w' = w := by
  have o1 : FloatKind.f64.format.order 9221120237041090561 9221120237041090561 = none := by kernel_rfl
  go_enter Try.func31, Try.ntmps31
  go_wp2
  go_ret
  exact ⟨rfl, rfl⟩
set_option maxRecDepth 8000 in
theorem points_n (w : World) : Calls Try.prog 15 #[.float .f64 9221120237041090561] w fun e w' => e = .returned (.tuple #[.int .i64 0, .int .i64 51]) ∧ w' = w := by
  have HN := Lib.hid (nan_n w)
  have hb := fun w => bits_runI 9221120237041090561 9221120237041090561 rfl w
  have o2 : FloatKind.f64.format.order 9221120237041090561 0 = none := by kernel_rfl
  have o3 : FloatKind.f64.format.order 9221120237041090561 4636737291354636288 = none := by kernel_rfl
  go_enter Try.func15, Try.ntmps15
  go_wp2_with fail
  refine HN.out.mono ?_
  rintro e w1 ⟨rfl, rfl⟩
  go_wp2
  go_ret2
  exact ⟨rfl, rfl⟩
set_option maxRecDepth 8000 in
theorem nan_p (w : World) : Calls Try.prog 31 #[.float .f64 9218868437227405312] w fun e w' => e = .returned (.bool false) ∧ w' = w := by
  have o1 : FloatKind.f64.format.order 9218868437227405312 9218868437227405312 = some Ordering.eq := by kernel_rfl
  go_enter Try.func31, Try.ntmps31
  go_wp2
  go_ret
  exact ⟨rfl, rfl⟩
set_option maxRecDepth 8000 in
theorem points_p (w : World) : Calls Try.prog 15 #[.float .f64 9218868437227405312] w fun e w' => e = .returned (.tuple #[.int .i64 0, .int .i64 51]) ∧ w' = w := by
  have HN := Lib.hid (nan_p w)
  have hb := fun w => bits_runI 9218868437227405312 9218868437227405312 rfl w
  have o2 : FloatKind.f64.format.order 9218868437227405312 0 = some Ordering.gt := by kernel_rfl
  have o3 : FloatKind.f64.format.order 9218868437227405312 4636737291354636288 = some Ordering.gt := by kernel_rfl
  go_enter Try.func15, Try.ntmps15
  go_wp2_with fail
  refine HN.out.mono ?_
  rintro e w1 ⟨rfl, rfl⟩
  go_wp2
  go_ret2
  exact ⟨rfl, rfl⟩
set_option maxRecDepth 8000 in
theorem nan_m (w : World) : Calls Try.prog 31 #[.float .f64 18442240474082181120] w fun e w' => e = .returned (.bool false) ∧ w' = w := by
  have o1 : FloatKind.f64.format.order 18442240474082181120 18442240474082181120 = some Ordering.eq := by kernel_rfl
  go_enter Try.func31, Try.ntmps31
  go_wp2
  go_ret
  exact ⟨rfl, rfl⟩
set_option maxRecDepth 8000 in
theorem points_m (w : World) : Calls Try.prog 15 #[.float .f64 18442240474082181120] w fun e w' => e = .returned (.tuple #[.int .i64 0, .int .i64 51]) ∧ w' = w := by
  have HN := Lib.hid (nan_m w)
  have hb := fun w => bits_runI 18442240474082181120 18442240474082181120 rfl w
  have o2 : FloatKind.f64.format.order 18442240474082181120 0 = some Ordering.lt := by kernel_rfl
  have o3 : FloatKind.f64.format.order 18442240474082181120 4636737291354636288 = some Ordering.lt := by kernel_rfl
  go_enter Try.func15, Try.ntmps15
  go_wp2_with fail
  refine HN.out.mono ?_
  rintro e w1 ⟨rfl, rfl⟩
  go_wp2
  go_ret2
  exact ⟨rfl, rfl⟩
set_option maxRecDepth 8000 in
theorem nan_h (w : World) : Calls Try.prog 31 #[.float .f64 4636737291354636289] w fun e w' => e = .returned (.bool false) ∧ w' = w := by
  have o1 : FloatKind.f64.format.order 4636737291354636289 4636737291354636289 = some Ordering.eq := by kernel_rfl
  go_enter Try.func31, Try.ntmps31
  go_wp2
  go_ret
  exact ⟨rfl, rfl⟩
set_option maxRecDepth 8000 in
theorem points_h (w : World) : Calls Try.prog 15 #[.float .f64 4636737291354636289] w fun e w' => e = .returned (.tuple #[.int .i64 0, .int .i64 51]) ∧ w' = w := by
  have HN := Lib.hid (nan_h w)
  have hb := fun w => bits_runI 4636737291354636289 4636737291354636289 rfl w
  have o2 : FloatKind.f64.format.order 4636737291354636289 0 = some Ordering.gt := by kernel_rfl
  have o3 : FloatKind.f64.format.order 4636737291354636289 4636737291354636288 = some Ordering.gt := by kernel_rfl
  go_enter Try.func15, Try.ntmps15
  go_wp2_with fail
  refine HN.out.mono ?_
  rintro e w1 ⟨rfl, rfl⟩
  go_wp2
  go_ret2
  exact ⟨rfl, rfl⟩
end Go.Proofs.Ytaineoceiciloaa
