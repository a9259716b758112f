/-
  The walks of the chapter's example, and of the law TrancheNames.
-/
import Derived.Test.YthcimllkcaknhaaTrAdd
set_option linter.unusedVariables false
set_option linter.unusedSimpArgs false
namespace Go.Proofs.Ythcimllkcaknhaa
open Go.RowKit

set_option maxRecDepth 8000 in
set_option maxHeartbeats 1600000 in
theorem talive_any (w : World) : Calls Try.prog 10 #[] w fun e w' => e = .returned (.bool true) ∧ Below w.heap.size w w' := by
  have HA := Lib.hid (tadd_any w none 0 [] 100000 ([(100000, 0, 0)], 0) (by decide) (Rk.of_nil w 3) (by decide))
  have HD := Lib.hid (fun W ao cap h => day1_any W ao cap [(100000, 0, 0)] 425 ([(100000, 2900000, 11)], 11, 0) (by decide) h)
  have HO := Lib.hid (fun W ao cap h => owed_any W ao cap [(100000, 2900000, 11)] h (by decide) (by decide))
  have HP := Lib.hid (fun W ao cap h => posted_any W ao cap [(100000, 2900000, 11)] h (by decide) (by decide))
  go_enter Try.func10, Try.ntmps10
  go_wp2_with fail
  refine HA.out.mono ?_
  rintro e w1 ⟨v1, rfl, ho1, hb1⟩
  obtain ⟨ao1, cap1, rfl, hs1, _⟩ := Rk.own ho1
  have HD1 := Lib.hid (HD.out w1 ao1 cap1 hs1)
  have HB1 := Lib.hid hb1
  clear HA HD ho1 hs1 hb1
  go_wp2_with fail
  refine HD1.out.mono ?_
  rintro e w2 ⟨v2, rfl, ho2, hb2⟩
  obtain ⟨ao2, cap2, rfl, hs2, _⟩ := Rk.own ho2
  obtain ⟨g, rfl, hg1, hg2, c0, c1, c2, fz⟩ := own_tr (k := 0) ho2 rfl rfl
  have HS2 := Lib.hid hs2
  have HB2 := Lib.hid (below_on HB1.out HB1.out.size hb2)
  have HO1 := Lib.hid (HO.out w2 _ _ hs2)
  simp only [Nat.zero_mul, Nat.zero_add] at c0 c1 c2
  clear HD1 ho2 hs2 hb2 HO
  go_wp2_with fail
  refine HO1.out.mono ?_
  rintro e w3 ⟨rfl, hb3⟩
  have HP1 := Lib.hid (HP.out w3 _ _ (HS2.out.keeps hb3))
  have HB3 := Lib.hid (below_on HB2.out HB2.out.size hb3)
  clear hb3 HO1 HP c0 c1 c2 fz
  go_wp2_with fail
  refine HP1.out.mono ?_
  rintro e w4 ⟨rfl, hb4⟩
  have HB4 := Lib.hid (below_on HB3.out HB3.out.size hb4)
  clear hb4
  go_wp2
  go_ret
  exact ⟨rfl, HB4.out⟩
theorem made_rc (n : Nat) : (madeCells (Value.agg #[.int .i64 0, .int .i64 0, .int .i64 0]).cells (n * 3)).toList = rc trc (List.replicate n (0, 0, 0)) := by
  apply List.ext_getElem?
  intro j
  by_cases hj : j < n * 3
  · have hr : (List.replicate n ((0, 0, 0) : Tr))[j / 3]? = some (0, 0, 0) := by rw [List.getElem?_replicate, if_pos (by omega)]
    have h3 : j % 3 < 3 := Nat.mod_lt _ (by decide)
    have hz : (trc (0, 0, 0))[j % 3]? = some (.int .i64 0) := by
      rcases (by omega : j % 3 = 0 ∨ j % 3 = 1 ∨ j % 3 = 2) with h | h | h <;> rw [h] <;> rfl
    have := rc_at trc_len hr (j % 3) _ hz
    rw [show j / 3 * 3 + j % 3 = j from by omega] at this
    rw [this]
    have hq : ([Value.int .i64 0, .int .i64 0, .int .i64 0] : List Value)[j % 3]?.getD default = .int .i64 0 := by
      rcases (by omega : j % 3 = 0 ∨ j % 3 = 1 ∨ j % 3 = 2) with h | h | h <;> rw [h] <;> rfl
    simp [madeCells, hj, Value.cells]
    exact hq
  · rw [List.getElem?_eq_none (by simp [madeCells]; omega), List.getElem?_eq_none (by rw [rc_len trc_len]; simp; omega)]
theorem full_add : addS (List.replicate 256 (0, 0, 0)) 1 = ([], 161) := by
  have h1 : rightT (List.replicate 256 (0, 0, 0)) = true := by decide +kernel
  have h2 : rightT (List.replicate 256 (0, 0, 0) ++ [(1, 0, 0)]) = false := by
    unfold rightT
    rw [List.length_append, List.length_replicate]; rfl
  unfold addS
  rw [h1, if_pos rfl, if_pos (by decide), h2]; rfl
set_option maxRecDepth 8000 in
set_option maxHeartbeats 1600000 in
theorem tnames_law (w : World) : Calls Try.prog 3 #[] w fun e w' => e = .returned (.bool true) ∧ Below w.heap.size w w' := by
  have H1 := Lib.hid (tadd_any w none 0 [] 0 ([], 142) (by decide) (Rk.of_nil w 3) (by decide))
  have H2 := Lib.hid (fun W ao cap h => tadd_any W ao cap (List.replicate 256 (0, 0, 0)) 1 ([], 161) full_add h (by decide))
  have H3 := Lib.hid (fun W => day1_any W none 0 [] 10001 ([], 0, 52) (by decide) (Rk.of_nil W 3))
  have H4 := Lib.hid (fun W => days_any W none 0 [] 1 367 ([], 0, 142) (by decide) (Rk.of_nil W 3))
  go_enter Try.func3, Try.ntmps3
  go_wp2_with fail
  refine H1.out.mono ?_
  rintro e w1 ⟨v1, rfl, _, hb1⟩
  have HB1 := Lib.hid hb1
  clear hb1
  go_wp2_with fail
  obtain ⟨i, hi, hz, hsize, hby⟩ := info_parts info_tr
  obtain ⟨w2, hrun, ho2, hg2⟩ := run_make_full (P := Try.prog) w1 w.heap.size 22 56 i _ 3 Try.underlying22 hi hz hsize .i64 .i64 256 (by rw [hby]; decide) (by decide) HB1.out.size
  rw [show ((256 : Nat) : Int) = 256 from rfl] at hrun
  rw [hrun]
  rw [made_rc] at ho2
  obtain ⟨ao2, cap2, hv2, hs2, _⟩ := Rk.own ho2
  have HS2 : Hid (SlT w2 ao2 cap2 (List.replicate 256 (0, 0, 0))) := hs2
  have HB2 := Lib.hid (HB1.out.grown hg2 HB1.out.size (fun k hk => by cases hk))
  have H2' := Lib.hid (H2.out w2 ao2 cap2 hs2)
  simp only [Value.slice.injEq] at hv2
  obtain ⟨rfl, _, rfl⟩ := hv2
  rw [show (List.replicate 256 ((0, 0, 0) : Tr)).length = 256 from by decide] at H2'
  clear hi hz hsize hby hrun ho2 hg2 hs2 H2
  show Oper.upon _ _ _ _ _ (.ok (.value (.slice (some ⟨w1.heap.size, 0, none⟩) 256 256)) w2)
  go_wp2_with fail
  refine H2'.out.mono ?_
  rintro e w3 ⟨v3, rfl, _, hb3⟩
  have HB3 := Lib.hid (below_on HB2.out HB2.out.size hb3)
  clear hb3
  go_wp2_with fail
  refine (H3.out _).mono ?_
  rintro e w4 ⟨v4, rfl, _, hb4⟩
  have HB4 := Lib.hid (below_on HB3.out HB3.out.size hb4)
  clear hb4
  go_wp2_with fail
  refine (H4.out _).mono ?_
  rintro e w5 ⟨v5, rfl, _, hb5⟩
  have HB5 := Lib.hid (below_on HB4.out HB4.out.size hb5)
  clear hb5
  go_wp2_with fail
  refine (talive_any _).mono ?_
  rintro e w6 ⟨rfl, hb6⟩
  have HB6 := Lib.hid (below_on HB5.out HB5.out.size hb6)
  clear hb6
  go_wp2
  go_ret
  exact ⟨rfl, HB6.out⟩
end Go.Proofs.Ythcimllkcaknhaa
