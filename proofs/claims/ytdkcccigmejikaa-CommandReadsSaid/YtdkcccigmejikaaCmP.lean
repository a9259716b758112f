/-
  Commands: the chapter's example.
-/
import Derived.Test.YtdkcccigmejikaaCmN
set_option linter.unusedVariables false
set_option linter.unusedSimpArgs false
set_option maxRecDepth 20000
namespace Go.Proofs.Ytdkcccigmejikaa
open Go.RowKit

def exC : Cm := ⟨10, 1, 0, 0, 0, 0, [], 0, 0, 0, 0, 0, 0, 0, 0, 0, 0, 0, 0, 0, 0, 0, 0⟩
theorem exC_wf : exC.wf := ⟨by simp [exC, Cm.H, in64], by simp [exC, in64], by simp [exC, Cm.N, in64], by simp [exC, Cm.F, in64]⟩
theorem exC_bytes : exC.bytes = ([10, 2, 0, 0, 0, 0], 0) := by decide +kernel
theorem exA_pack : packA 0 [-1] = ([0, 1, 1], 0) := by decide +kernel
theorem exA_open : openA [0, 1, 1] = ((0, [-1]), 0) := by decide +kernel
theorem exC_call (w : World) : Calls Try.prog 15 #[.agg #[.int .i64 10, .int .i64 1, .int .i64 0, .int .i64 0, .int .i64 0, .int .i64 0, .slice none 0 0, .int .i64 0, .int .i64 0, .int .i64 0, .int .i64 0, .int .i64 0, .int .i64 0, .int .i64 0, .int .i64 0, .int .i64 0, .int .i64 0, .int .i64 0, .int .i64 0, .int .i64 0, .int .i64 0, .int .i64 0, .int .i64 0]] w fun e w' => ∃ v', e = .returned (.tuple #[v', .int .i64 0]) ∧ OwB w' w.heap.size v' [10, 2, 0, 0, 0, 0] ∧ Below w.heap.size w w' :=
  cbytes_any w none 0 exC (Sl.of_nil w) exC_wf _ exC_bytes
theorem calive_any (w : World) : Calls Try.prog 9 #[] w fun e w' => e = .returned (.bool true) ∧ Below w.heap.size w w' := by
  have HC := Lib.hid (exC_call w)
  have HB0 := Lib.hid (Below.refl w.heap.size w)
  have hst : (str [10, 2, 0, 0, 0, 0]).toList = [10, 2, 0, 0, 0, 0] := by decide +kernel
  go_enter Try.func9, Try.ntmps9
  go_wp2_with fail
  refine HC.out.mono ?_
  rintro e w1 ⟨v1, rfl, ho1, hb1⟩
  have HB1 := Lib.hid hb1
  have h1 := ho1.sl
  have HV1 : Hid (SlB w1 v1 [10, 2, 0, 0, 0, 0]) := h1
  have HBs := Lib.hid (hb1.alloc hb1.size (.cells #[.int .i64 (-1)] 2))
  have HP := Lib.hid (cpack_any _ 0 _ 1 [-1] (sl_i1 w1 (-1)) (by simp [in64]) (by decide) _ exA_pack)
  have HV1b := Lib.hid (SlB.keeps h1 (below_new1 w1 (.cells #[.int .i64 (-1)] 2)))
  clear ho1 hb1 h1 HC HV1 HB1 HB0
  go_wp2_with fail
  refine HP.out.mono ?_
  rintro e w2 ⟨v2, rfl, ho2, hb2⟩
  have h2 := ho2.sl
  have HB2 := Lib.hid (below_on HBs.out HBs.out.size hb2)
  have HV2 := Lib.hid (SlB.keeps HV1b.out hb2)
  have HO := Lib.hid (copen_any w2 v2 [0, 1, 1] h2 (by decide) _ exA_open)
  clear ho2 hb2 h2 HBs HP HV1b
  go_wp2_with fail
  refine HO.out.mono ?_
  rintro e w3 ⟨ao, cap, rfl, hs3, hb3⟩
  have HB3 := Lib.hid (below_on HB2.out HB2.out.size hb3)
  have HB4 := Lib.hid (HB3.out.alloc HB3.out.size (.cells #[.int .i64 0, .slice ao 1 cap] 25))
  have HV3 := Lib.hid (SlB.keeps (SlB.keeps HV2.out hb3) (below_new1 w3 (.cells #[.int .i64 0, .slice ao 1 cap] 25)))
  have hs4 := Sl.keeps hs3 (below_new1 w3 (.cells #[.int .i64 0, .slice ao 1 cap] 25))
  obtain ⟨b, off, rfl, hc⟩ := hs4.at_ 0 _ rfl
  have hc0 : (w3.alloc (.cells #[.int .i64 0, .slice (some ⟨b, off, none⟩) 1 cap] 25)).cell? ⟨b, off, none⟩ = some (.int .i64 (-1)) := hc
  clear hc hb3 hs3 hs4 HO HV2 HB2 HB3
  go_wp2_with (refine to_text (by rfl) _ rfl _ rfl _ HV3.out ?_)
  go_ret
  exact ⟨rfl, HB4.out⟩
end Go.Proofs.Ytdkcccigmejikaa
