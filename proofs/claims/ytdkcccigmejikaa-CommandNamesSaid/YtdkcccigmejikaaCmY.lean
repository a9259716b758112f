/-
  Law CommandNames: the walk.
-/
import Derived.Test.YtdkcccigmejikaaCmX
import Derived.Test.YtdkcccigmejikaaCmP
set_option linter.unusedVariables false
set_option linter.unusedSimpArgs false
set_option maxRecDepth 20000
namespace Go.Proofs.Ytdkcccigmejikaa
open Go.RowKit

theorem zC_wf : zC.wf := ⟨by simp [zC, Cm.H, in64], by simp [zC, in64], by simp [zC, Cm.N, in64], by simp [zC, Cm.F, in64]⟩
theorem zC_bytes : zC.bytes = ([], 221) := by decide +kernel
theorem nil_read : readP [] = (zC, 221) := by
  unfold readP
  rw [if_neg (by decide +kernel)]
theorem five_pack : packA 5 [1] = ([], 221) := by decide +kernel
theorem nil_open : openA [] = ((0, []), 221) := by decide +kernel
set_option maxHeartbeats 3200000 in
theorem cnames_law (w : World) : Calls Try.prog 6 #[] w fun e w' => e = .returned (.bool true) ∧ Below w.heap.size w w' := by
  have HC := Lib.hid (cbytes_any w none 0 zC (Sl.of_nil w) zC_wf _ zC_bytes)
  have HB0 := Lib.hid (Below.refl w.heap.size w)
  go_enter Try.func6, Try.ntmps6
  go_wp2_with fail
  refine HC.out.mono ?_
  rintro e w1 ⟨v1, rfl, ho1, hb1⟩
  have HB1 := Lib.hid hb1
  have HR := Lib.hid (cread2_any w1 (.slice none 0 0) [] (slB_nil _) (by simp) _ nil_read)
  clear ho1 hb1 HC HB0
  go_wp2_with fail
  refine HR.out.mono ?_
  rintro e w2 ⟨v2, rfl, ho2, hb2⟩
  have HB2 := Lib.hid (below_on HB1.out HB1.out.size hb2)
  have HAl := Lib.hid (Blk.new w2 45 (zC.C (.slice none 0 0)))
  have HB3 := Lib.hid (HB2.out.alloc HB2.out.size (.cells (zC.C (.slice none 0 0)).toArray 45))
  have HTH := Lib.hid (HAl.out.thereMid 0 23 (by decide))
  have hov : v2.oneCell' = true := by obtain ⟨a9, c9, rfl, _⟩ := OwI.sl ho2; rfl
  have HOV := Lib.hid hov
  have HGA := Lib.hid HB2.out.size
  clear ho2 hb2 HR HB1 hov
  go_wp2_with (first | (refine st_cm rfl _ _ rfl w2.heap.size rfl zC v2 HOV.out rfl HTH.out ?_) | fail)
  intro w3 hW
  have HB4 : Hid (Below w.heap.size w w3) := by show Below _ _ _; rw [hW.out]; exact below_setCells _ _ HB3.out HGA.out
  have HBi := Lib.hid (HB4.out.alloc HB4.out.size (.cells #[.int .i64 1] 2))
  have HP := Lib.hid (cpack_any _ 5 _ 1 [1] (sl_i1 w3 1) (by simp [in64]) (by decide) _ five_pack)
  clear hW HAl HTH HB3 HOV HB2 HGA
  go_wp2_with fail
  refine HP.out.mono ?_
  rintro e w4 ⟨v4, rfl, ho4, hb4⟩
  have HB5 := Lib.hid (below_on HBi.out HBi.out.size hb4)
  have HO := Lib.hid (copen_any w4 (.slice none 0 0) [] (slB_nil _) (by simp) _ nil_open)
  clear ho4 hb4 HP HBi HB4
  go_wp2_with fail
  refine HO.out.mono ?_
  rintro e w5 ⟨a5, c5, rfl, hs5, hb5⟩
  have HB6 := Lib.hid (below_on HB5.out HB5.out.size hb5)
  have HB7 := Lib.hid (HB6.out.alloc HB6.out.size (.cells #[.int .i64 0, .slice a5 0 c5] 25))
  have HA := Lib.hid (fun U => calive_any U)
  have HK := Lib.hid (fun k U => asks_any k U)
  clear hs5 hb5 HO HB5 HB6
  go_wp2_with fail
  refine (HA.out _).mono ?_
  rintro e w6 ⟨rfl, hb6⟩
  have HB8 := Lib.hid (below_on HB7.out HB7.out.size hb6)
  clear hb6 HB7 HA
  go_wp2_with fail
  refine (HK.out 20 _ true (by decide)).mono ?_
  rintro e w7 ⟨rfl, hb7⟩
  have HB9 := Lib.hid (below_on HB8.out HB8.out.size hb7)
  clear hb7 HB8
  go_wp2_with fail
  refine (HK.out 25 _ true (by decide)).mono ?_
  rintro e w8 ⟨rfl, hb8⟩
  have HBa := Lib.hid (below_on HB9.out HB9.out.size hb8)
  clear hb8 HB9
  go_wp2_with fail
  refine (HK.out 19 _ false (by decide)).mono ?_
  rintro e w9 ⟨rfl, hb9⟩
  have HBb := Lib.hid (below_on HBa.out HBa.out.size hb9)
  clear hb9 HBa
  go_wp2_with fail
  refine (HK.out 26 _ false (by decide)).mono ?_
  rintro e w10 ⟨rfl, hb10⟩
  have HBc := Lib.hid (below_on HBb.out HBb.out.size hb10)
  clear hb10 HBb HK
  go_wp2
  go_ret
  exact ⟨rfl, HBc.out⟩
end Go.Proofs.Ytdkcccigmejikaa
