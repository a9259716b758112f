/-
  The walk of the chapter's examples.
-/
import Derived.Test.YtoafkjilkfohjaaInts
set_option linter.unusedVariables false
set_option linter.unusedSimpArgs false
namespace Go.Proofs.Ytoafkjilkfohjaa
open Go.RowKit

theorem enc_alive : ([] ++ encs [300]) ++ encs ([-1].map zig) = [172, 2, 1] := by
  simp only [encs, List.flatMap_cons, List.flatMap_nil, List.map, List.nil_append, List.append_nil]
  rw [enc_more (by decide), enc_small (by decide), enc_small (by decide)]
  decide
set_option maxRecDepth 8000 in
set_option maxHeartbeats 1600000 in
theorem alive_any (w : World) : Calls Try.prog 8 #[] w fun e w' => e = .returned (.bool true) ∧ Below w.heap.size w w' := by
  have hp : Calls Try.prog 12 #[.slice none 0 0, .slice (some ⟨w.heap.size, 0, none⟩) 1 1] (w.alloc (.cells #[.int .u64 300] 26)) _ :=
    pnum_any (w.alloc (.cells #[.int .u64 300] 26)) (.slice none 0 0) [] (own_nil _ 0).sl (some ⟨w.heap.size, 0, none⟩) 1 [300] (sl_unit w _ _ _ rfl) (by simp) (by simp)
  have HP := Lib.hid hp
  clear hp
  have HB0 := Lib.hid (below_new1 w (.cells #[.int .u64 300] 26))
  go_enter Try.func8, Try.ntmps8
  go_wp2_with fail
  refine HP.out.mono ?_
  rintro e w1 ⟨v1, rfl, ho1, hb1⟩
  have HB1 := Lib.hid (below_on HB0.out HB0.out.size hb1)
  have hi : Calls Try.prog 20 #[v1, .slice (some ⟨w1.heap.size, 0, none⟩) 1 1] (w1.alloc (.cells #[.int .i64 (-1)] 2)) _ :=
    pint_any (w1.alloc (.cells #[.int .i64 (-1)] 2)) v1 ([] ++ encs [300]) (SlB.keeps ho1.sl (below_new1 w1 _)) (some ⟨w1.heap.size, 0, none⟩) 1 [-1] (sl_unit w1 _ _ _ rfl) (by simp) (by
      have := encs_len (N := [300]) (by simp)
      simp at this ⊢; omega)
  rw [enc_alive] at hi
  have HI := Lib.hid hi
  have HB2 := Lib.hid (HB1.out.alloc HB1.out.size (.cells #[.int .i64 (-1)] 2))
  clear hi hb1 ho1
  go_wp2_with fail
  refine HI.out.mono ?_
  rintro e w2 ⟨v2, rfl, ho2, hb2⟩
  have HB3 := Lib.hid (below_on HB2.out HB2.out.size hb2)
  have HN := Lib.hid (new_any w2 v2 _ ho2.sl (by simp))
  clear hb2
  go_wp2_with fail
  refine HN.out.mono ?_
  rintro e w3 ⟨r, rfl, hr3, hrl, hb3⟩
  have HT := Lib.hid (ho2.sl.keeps hb3)
  have HB4 := Lib.hid (below_on HB3.out HB3.out.size hb3)
  have HM := Lib.hid (rnum_any w3 r _ _ hr3)
  clear hb3 ho2
  have hst : (str [172, 2, 1]).toList = [172, 2, 1] := by decide +kernel
  go_wp2_with (refine to_text (by rfl) _ rfl _ rfl _ HT.out ?_)
  have e1 : rdN [172, 2, 1] false = (300, [1], false) := by decide +kernel
  have e2 : rdN [1] false = (1, [], false) := by decide +kernel
  have e3 : back 1 = -1 := by decide +kernel
  rw [e1] at HM
  refine HM.out.mono ?_
  rintro e w4 ⟨rfl, h4, hg4⟩
  have HB5 := Lib.hid (HB4.out.grown hg4 HB4.out.size (fun k hk => by cases hk; exact Nat.le_trans HB3.out.size hrl))
  have HI2 := Lib.hid (rint_any w4 r _ _ h4)
  rw [e2, e3] at HI2
  clear h4 hg4 HM HT
  go_wp2_with fail
  refine HI2.out.mono ?_
  rintro e w5 ⟨rfl, h5, hg5⟩
  have HB6 := Lib.hid (HB5.out.grown hg5 HB5.out.size (fun k hk => by cases hk; exact Nat.le_trans HB3.out.size hrl))
  have HE := Lib.hid (ended_any w5 r _ _ h5)
  clear h5 hg5 HI2
  go_wp2_with fail
  refine HE.out.mono ?_
  rintro e w6 ⟨rfl, rfl⟩
  go_wp2
  go_ret
  exact ⟨rfl, HB6.out⟩
end Go.Proofs.Ytoafkjilkfohjaa
