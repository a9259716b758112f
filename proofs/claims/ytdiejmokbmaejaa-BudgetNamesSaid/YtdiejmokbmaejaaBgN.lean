/-
  The law BudgetNames.
-/
import Derived.Test.YtdiejmokbmaejaaBgA
set_option linter.unusedVariables false
set_option linter.unusedSimpArgs false
namespace Go.Proofs.Ytdiejmokbmaejaa
open Go.RowKit Dg

def lN : List Ln := [(5, 0, 0, 0), (5, 0, 0, 0)]
theorem n0 : newS [] = ([], 141) := by decide
theorem n1 : newS [-1] = ([], 141) := by decide
theorem n2 : newS [1000000000001] = ([], 141) := by decide
theorem n3 : newS [5, 5] = (lN, 0) := by decide
theorem n4 : moveS lN 0 1 0 = ([], 142) := by decide
theorem n5 : moveS lN 0 0 1 = ([], 141) := by decide
theorem n6 : relS lN 0 = ([], 0, 143) := by decide
set_option maxRecDepth 8000 in
set_option maxHeartbeats 3200000 in
theorem budgetNames_law (w : World) : Calls Try.prog 5 #[] w fun e w' => e = .returned (.bool true) ∧ Below w.heap.size w w' := by
  have H0 := Lib.hid (bnew_any w none 0 [] (Sl.of_nil w) _ n0 (by decide))
  have HAl := Lib.hid (fun W => balive_any W)
  go_enter Try.func5, Try.ntmps5
  go_wp2_with fail
  refine H0.out.mono ?_
  rintro e w1 ⟨v1, rfl, _, hb1⟩
  have HB1 := Lib.hid hb1
  have HB1a := Lib.hid (hb1.alloc hb1.size (.cells #[.int .i64 (-1)] 2))
  have H1 := Lib.hid (bnew_any _ _ 1 [-1] (sl_i1 w1 (-1)) _ n1 (by decide))
  clear hb1 H0
  go_wp2_with fail
  refine H1.out.mono ?_
  rintro e w2 ⟨v2, rfl, _, hb2⟩
  have hb2' := below_on HB1a.out HB1a.out.size hb2
  have HB2a := Lib.hid (hb2'.alloc hb2'.size (.cells #[.int .i64 1000000000001] 2))
  have H2 := Lib.hid (bnew_any _ _ 1 [1000000000001] (sl_i1 w2 1000000000001) _ n2 (by decide))
  clear hb2 hb2' H1
  go_wp2_with fail
  refine H2.out.mono ?_
  rintro e w3 ⟨v3, rfl, _, hb3⟩
  have hb3' := below_on HB2a.out HB2a.out.size hb3
  have HB3a := Lib.hid (hb3'.alloc hb3'.size (.cells #[.int .i64 5, .int .i64 5] 2))
  have H3 := Lib.hid (bnew_any _ _ 2 [5, 5] (sl_i2 w3 5 5) _ n3 (by decide))
  clear hb3 hb3' H2
  go_wp2_with fail
  refine H3.out.mono ?_
  rintro e w4 ⟨v4, rfl, ho4, hb4⟩
  have HB4 := Lib.hid (below_on HB3a.out HB3a.out.size hb4)
  obtain ⟨a4, c4, rfl, hs4⟩ := OwL.sl ho4
  have HS4 : Hid (SlL w4 a4 c4 lN) := hs4
  have H4 := Lib.hid (bmove_any w4 a4 c4 lN HS4.out 0 1 0 _ n4)
  have e1 : lN.length = 2 := rfl
  rw [e1] at H4
  simp only [e1]
  clear ho4 hs4 hb4 H3
  go_wp2_with fail
  refine H4.out.mono ?_
  rintro e w5 ⟨v5, rfl, _, hb5⟩
  have HB5 := Lib.hid (below_on HB4.out HB4.out.size hb5)
  have HS5 := Lib.hid (HS4.out.keeps hb5)
  have H5 := Lib.hid (bmove_any w5 a4 c4 lN HS5.out 0 0 1 _ n5)
  rw [e1] at H5
  clear hb5 H4
  go_wp2_with fail
  refine H5.out.mono ?_
  rintro e w6 ⟨v6, rfl, _, hb6⟩
  have HB6 := Lib.hid (below_on HB5.out HB5.out.size hb6)
  have HS6 := Lib.hid (HS5.out.keeps hb6)
  have H6 := Lib.hid (brel_any w6 a4 c4 lN HS6.out 0 _ n6)
  rw [e1] at H6
  clear hb6 H5
  go_wp2_with fail
  refine H6.out.mono ?_
  rintro e w7 ⟨v7, rfl, _, hb7⟩
  have HB7 := Lib.hid (below_on HB6.out HB6.out.size hb7)
  clear hb7 H6
  go_wp2_with fail
  refine (HAl.out _).mono ?_
  rintro e w8 ⟨rfl, hb8⟩
  have HB8 := Lib.hid (below_on HB7.out HB7.out.size hb8)
  clear hb8
  go_wp2
  go_ret
  exact ⟨rfl, HB8.out⟩
end Go.Proofs.Ytdiejmokbmaejaa
