/-
  The walk of the law WideCrosses.
-/
import Derived.Test.YtfjgafkhhjipbaaWideA
import Derived.Test.YtfjgafkhhjipbaaCross
set_option linter.unusedVariables false
set_option linter.unusedSimpArgs false
namespace Go.Proofs.Ytfjgafkhhjipbaa
open Go.RowKit Dg Go.Shelf

set_option maxRecDepth 8000 in
set_option maxHeartbeats 3200000 in
theorem crosses_core (a b c d o : Int) (hX : ∀ W, Calls Try.prog 26 #[.int .i64 a, .int .i64 b, .int .i64 c, .int .i64 d] W fun e w' => e = .returned (.int .i64 o) ∧ Below W.heap.size W w')
    (hY : ∀ W, Calls Try.prog 27 #[.int .i64 a, .int .i64 b, .int .i64 c, .int .i64 d] W fun e w' => e = .returned (.int .i64 o) ∧ Below W.heap.size W w') (w : World) :
    Calls Try.prog 6 #[.agg #[.int .i64 a, .int .i64 b], .agg #[.int .i64 c, .int .i64 d]] w fun e w' => e = .returned (.bool true) ∧ Below w.heap.size w w' := by
  have HV := Lib.hid (fun W => walive_any W)
  have HX := Lib.hid hX
  have HY := Lib.hid hY
  clear hX hY
  have HA := Lib.hid ((Blk.new w 44 [.int .i64 a, .int .i64 b]).alloc (.cells #[.int .i64 c, .int .i64 d] 44))
  have HB := Lib.hid (Blk.new2 w (.cells #[.int .i64 a, .int .i64 b] 44) 44 [.int .i64 c, .int .i64 d])
  have HBW := Lib.hid (below_new2 w (.cells #[.int .i64 a, .int .i64 b] 44) (.cells #[.int .i64 c, .int .i64 d] 44))
  go_enter Try.func6, Try.ntmps6
  go_wp2_with fail
  refine region_mono (by kernel_rfl) (by kernel_rfl) [some 5, some 6, some 7, some 8, some 9, some 10, some 11, some 12, some 13, some 14, some 15, some 16, some 17, some 18, some 19, some 20, some 21, some 22, some 23, some 24, some 25, some 26, some 4] (by kernel_rfl) w.heap.size w HBW.out (Nat.le_refl _) (fun i v WW => match i with | 0 => v = .bool true | 1 => v = .bool true | 2 => v = .pointer (some ⟨w.heap.size, 0, none⟩) | 3 => v = .int .i64 a | 4 => v = .pointer (some ⟨w.heap.size, 1, none⟩) | 5 => v = .int .i64 b | 6 => v = .pointer (some ⟨w.heap.size + 1, 0, none⟩) | 7 => v = .int .i64 c | 8 => v = .pointer (some ⟨w.heap.size + 1, 1, none⟩) | 9 => v = .int .i64 d | 10 => v = .int .i64 o | 11 => v = .pointer (some ⟨w.heap.size, 0, none⟩) | 12 => v = .int .i64 a | 13 => v = .pointer (some ⟨w.heap.size, 1, none⟩) | 14 => v = .int .i64 b | 15 => v = .pointer (some ⟨w.heap.size + 1, 0, none⟩) | 16 => v = .int .i64 c | 17 => v = .pointer (some ⟨w.heap.size + 1, 1, none⟩) | 18 => v = .int .i64 d | 19 => v = .int .i64 o | 20 => v = .bool true | 21 => v = .bool true | 22 => v = .bool true | _ => True) ?_ ?_ ?_
  · intro i v WW WX h hbx
    rcases i with _ | _ | _ | _ | _ | _ | _ | _ | _ | _ | _ | _ | _ | _ | _ | _ | _ | _ | _ | _ | _ | _ | _ | i
    · exact h
    · exact h
    · exact h
    · exact h
    · exact h
    · exact h
    · exact h
    · exact h
    · exact h
    · exact h
    · exact h
    · exact h
    · exact h
    · exact h
    · exact h
    · exact h
    · exact h
    · exact h
    · exact h
    · exact h
    · exact h
    · exact h
    · exact h
    · trivial
  · intro iI oO V AC WW ho hf hbw K hK
    have hlt : iI < 23 := (Array.getElem?_eq_some_iff.1 ho).1
    rcases iI with _ | _ | _ | _ | _ | _ | _ | _ | _ | _ | _ | _ | _ | _ | _ | _ | _ | _ | _ | _ | _ | _ | _ | iI
    · obtain rfl := Option.some.inj (show some _ = some oO from ho)
      rw [if_pos (by rfl)]
      go_simp
      refine (HV.out WW).mono ?_
      rintro e w6 ⟨rfl, hb6⟩
      exact hK _ _ hb6 rfl
    · obtain rfl := Option.some.inj (show some _ = some oO from ho)
      rw [if_pos (by rfl)]
      have q5 : AC.tmps.getD 5 undef = .bool true := ((hf.dep ⟨0, .data⟩ (by simp) rfl).2 5 rfl).trans (hf.dep ⟨0, .data⟩ (by simp) rfl).1
      go_simp
      exact hK _ _ (Below.refl _ _) rfl
    · obtain rfl := Option.some.inj (show some _ = some oO from ho)
      rw [if_pos (wanted_yes (s := 6) rfl rfl rfl (by rw [hf.size]; simp) (((hf.dep ⟨1, .guard⟩ (by simp) rfl).2 6 rfl).trans (hf.dep ⟨1, .guard⟩ (by simp) rfl).1))]
      have q2 : AC.tmps.getD 2 undef = .pointer (some ⟨w.heap.size, 0, none⟩) := hf.rest 2 (by kernel_rfl)
      go_simp
      exact hK _ _ (Below.refl _ _) rfl
    · obtain rfl := Option.some.inj (show some _ = some oO from ho)
      rw [if_pos (wanted_yes (s := 6) rfl rfl rfl (by rw [hf.size]; simp) (((hf.dep ⟨1, .guard⟩ (by simp) rfl).2 6 rfl).trans (hf.dep ⟨1, .guard⟩ (by simp) rfl).1))]
      have q7 : AC.tmps.getD 7 undef = .pointer (some ⟨w.heap.size, 0, none⟩) := ((hf.dep ⟨2, .data⟩ (by simp) rfl).2 7 rfl).trans (hf.dep ⟨2, .data⟩ (by simp) rfl).1
      have hk := HA.out.keeps hbw
      have z0 := hk.cell 0 _ rfl
      go_simp
      exact hK _ _ (Below.refl _ _) rfl
    · obtain rfl := Option.some.inj (show some _ = some oO from ho)
      rw [if_pos (wanted_yes (s := 6) rfl rfl rfl (by rw [hf.size]; simp) (((hf.dep ⟨1, .guard⟩ (by simp) rfl).2 6 rfl).trans (hf.dep ⟨1, .guard⟩ (by simp) rfl).1))]
      have q2 : AC.tmps.getD 2 undef = .pointer (some ⟨w.heap.size, 0, none⟩) := hf.rest 2 (by kernel_rfl)
      go_simp
      exact hK _ _ (Below.refl _ _) rfl
    · obtain rfl := Option.some.inj (show some _ = some oO from ho)
      rw [if_pos (wanted_yes (s := 6) rfl rfl rfl (by rw [hf.size]; simp) (((hf.dep ⟨1, .guard⟩ (by simp) rfl).2 6 rfl).trans (hf.dep ⟨1, .guard⟩ (by simp) rfl).1))]
      have q9 : AC.tmps.getD 9 undef = .pointer (some ⟨w.heap.size, 1, none⟩) := ((hf.dep ⟨4, .data⟩ (by simp) rfl).2 9 rfl).trans (hf.dep ⟨4, .data⟩ (by simp) rfl).1
      have hk := HA.out.keeps hbw
      have z1 := hk.cell 1 _ rfl
      go_simp
      exact hK _ _ (Below.refl _ _) rfl
    · obtain rfl := Option.some.inj (show some _ = some oO from ho)
      rw [if_pos (wanted_yes (s := 6) rfl rfl rfl (by rw [hf.size]; simp) (((hf.dep ⟨1, .guard⟩ (by simp) rfl).2 6 rfl).trans (hf.dep ⟨1, .guard⟩ (by simp) rfl).1))]
      have q3 : AC.tmps.getD 3 undef = .pointer (some ⟨w.heap.size + 1, 0, none⟩) := hf.rest 3 (by kernel_rfl)
      go_simp
      exact hK _ _ (Below.refl _ _) rfl
    · obtain rfl := Option.some.inj (show some _ = some oO from ho)
      rw [if_pos (wanted_yes (s := 6) rfl rfl rfl (by rw [hf.size]; simp) (((hf.dep ⟨1, .guard⟩ (by simp) rfl).2 6 rfl).trans (hf.dep ⟨1, .guard⟩ (by simp) rfl).1))]
      have q11 : AC.tmps.getD 11 undef = .pointer (some ⟨w.heap.size + 1, 0, none⟩) := ((hf.dep ⟨6, .data⟩ (by simp) rfl).2 11 rfl).trans (hf.dep ⟨6, .data⟩ (by simp) rfl).1
      have hk := HB.out.keeps hbw
      have z0 := hk.cell 0 _ rfl
      go_simp
      exact hK _ _ (Below.refl _ _) rfl
    · obtain rfl := Option.some.inj (show some _ = some oO from ho)
      rw [if_pos (wanted_yes (s := 6) rfl rfl rfl (by rw [hf.size]; simp) (((hf.dep ⟨1, .guard⟩ (by simp) rfl).2 6 rfl).trans (hf.dep ⟨1, .guard⟩ (by simp) rfl).1))]
      have q3 : AC.tmps.getD 3 undef = .pointer (some ⟨w.heap.size + 1, 0, none⟩) := hf.rest 3 (by kernel_rfl)
      go_simp
      exact hK _ _ (Below.refl _ _) rfl
    · obtain rfl := Option.some.inj (show some _ = some oO from ho)
      rw [if_pos (wanted_yes (s := 6) rfl rfl rfl (by rw [hf.size]; simp) (((hf.dep ⟨1, .guard⟩ (by simp) rfl).2 6 rfl).trans (hf.dep ⟨1, .guard⟩ (by simp) rfl).1))]
      have q13 : AC.tmps.getD 13 undef = .pointer (some ⟨w.heap.size + 1, 1, none⟩) := ((hf.dep ⟨8, .data⟩ (by simp) rfl).2 13 rfl).trans (hf.dep ⟨8, .data⟩ (by simp) rfl).1
      have hk := HB.out.keeps hbw
      have z1 := hk.cell 1 _ rfl
      go_simp
      exact hK _ _ (Below.refl _ _) rfl
    · obtain rfl := Option.some.inj (show some _ = some oO from ho)
      rw [if_pos (wanted_yes (s := 6) rfl rfl rfl (by rw [hf.size]; simp) (((hf.dep ⟨1, .guard⟩ (by simp) rfl).2 6 rfl).trans (hf.dep ⟨1, .guard⟩ (by simp) rfl).1))]
      have q8 : AC.tmps.getD 8 undef = .int .i64 a := ((hf.dep ⟨3, .data⟩ (by simp) rfl).2 8 rfl).trans (hf.dep ⟨3, .data⟩ (by simp) rfl).1
      have q10 : AC.tmps.getD 10 undef = .int .i64 b := ((hf.dep ⟨5, .data⟩ (by simp) rfl).2 10 rfl).trans (hf.dep ⟨5, .data⟩ (by simp) rfl).1
      have q12 : AC.tmps.getD 12 undef = .int .i64 c := ((hf.dep ⟨7, .data⟩ (by simp) rfl).2 12 rfl).trans (hf.dep ⟨7, .data⟩ (by simp) rfl).1
      have q14 : AC.tmps.getD 14 undef = .int .i64 d := ((hf.dep ⟨9, .data⟩ (by simp) rfl).2 14 rfl).trans (hf.dep ⟨9, .data⟩ (by simp) rfl).1
      go_simp
      refine (HX.out WW).mono ?_
      rintro e w6 ⟨rfl, hb6⟩
      exact hK _ _ hb6 rfl
    · obtain rfl := Option.some.inj (show some _ = some oO from ho)
      rw [if_pos (wanted_yes (s := 6) rfl rfl rfl (by rw [hf.size]; simp) (((hf.dep ⟨1, .guard⟩ (by simp) rfl).2 6 rfl).trans (hf.dep ⟨1, .guard⟩ (by simp) rfl).1))]
      have q2 : AC.tmps.getD 2 undef = .pointer (some ⟨w.heap.size, 0, none⟩) := hf.rest 2 (by kernel_rfl)
      go_simp
      exact hK _ _ (Below.refl _ _) rfl
    · obtain rfl := Option.some.inj (show some _ = some oO from ho)
      rw [if_pos (wanted_yes (s := 6) rfl rfl rfl (by rw [hf.size]; simp) (((hf.dep ⟨1, .guard⟩ (by simp) rfl).2 6 rfl).trans (hf.dep ⟨1, .guard⟩ (by simp) rfl).1))]
      have q16 : AC.tmps.getD 16 undef = .pointer (some ⟨w.heap.size, 0, none⟩) := ((hf.dep ⟨11, .data⟩ (by simp) rfl).2 16 rfl).trans (hf.dep ⟨11, .data⟩ (by simp) rfl).1
      have hk := HA.out.keeps hbw
      have z0 := hk.cell 0 _ rfl
      go_simp
      exact hK _ _ (Below.refl _ _) rfl
    · obtain rfl := Option.some.inj (show some _ = some oO from ho)
      rw [if_pos (wanted_yes (s := 6) rfl rfl rfl (by rw [hf.size]; simp) (((hf.dep ⟨1, .guard⟩ (by simp) rfl).2 6 rfl).trans (hf.dep ⟨1, .guard⟩ (by simp) rfl).1))]
      have q2 : AC.tmps.getD 2 undef = .pointer (some ⟨w.heap.size, 0, none⟩) := hf.rest 2 (by kernel_rfl)
      go_simp
      exact hK _ _ (Below.refl _ _) rfl
    · obtain rfl := Option.some.inj (show some _ = some oO from ho)
      rw [if_pos (wanted_yes (s := 6) rfl rfl rfl (by rw [hf.size]; simp) (((hf.dep ⟨1, .guard⟩ (by simp) rfl).2 6 rfl).trans (hf.dep ⟨1, .guard⟩ (by simp) rfl).1))]
      have q18 : AC.tmps.getD 18 undef = .pointer (some ⟨w.heap.size, 1, none⟩) := ((hf.dep ⟨13, .data⟩ (by simp) rfl).2 18 rfl).trans (hf.dep ⟨13, .data⟩ (by simp) rfl).1
      have hk := HA.out.keeps hbw
      have z1 := hk.cell 1 _ rfl
      go_simp
      exact hK _ _ (Below.refl _ _) rfl
    · obtain rfl := Option.some.inj (show some _ = some oO from ho)
      rw [if_pos (wanted_yes (s := 6) rfl rfl rfl (by rw [hf.size]; simp) (((hf.dep ⟨1, .guard⟩ (by simp) rfl).2 6 rfl).trans (hf.dep ⟨1, .guard⟩ (by simp) rfl).1))]
      have q3 : AC.tmps.getD 3 undef = .pointer (some ⟨w.heap.size + 1, 0, none⟩) := hf.rest 3 (by kernel_rfl)
      go_simp
      exact hK _ _ (Below.refl _ _) rfl
    · obtain rfl := Option.some.inj (show some _ = some oO from ho)
      rw [if_pos (wanted_yes (s := 6) rfl rfl rfl (by rw [hf.size]; simp) (((hf.dep ⟨1, .guard⟩ (by simp) rfl).2 6 rfl).trans (hf.dep ⟨1, .guard⟩ (by simp) rfl).1))]
      have q20 : AC.tmps.getD 20 undef = .pointer (some ⟨w.heap.size + 1, 0, none⟩) := ((hf.dep ⟨15, .data⟩ (by simp) rfl).2 20 rfl).trans (hf.dep ⟨15, .data⟩ (by simp) rfl).1
      have hk := HB.out.keeps hbw
      have z0 := hk.cell 0 _ rfl
      go_simp
      exact hK _ _ (Below.refl _ _) rfl
    · obtain rfl := Option.some.inj (show some _ = some oO from ho)
      rw [if_pos (wanted_yes (s := 6) rfl rfl rfl (by rw [hf.size]; simp) (((hf.dep ⟨1, .guard⟩ (by simp) rfl).2 6 rfl).trans (hf.dep ⟨1, .guard⟩ (by simp) rfl).1))]
      have q3 : AC.tmps.getD 3 undef = .pointer (some ⟨w.heap.size + 1, 0, none⟩) := hf.rest 3 (by kernel_rfl)
      go_simp
      exact hK _ _ (Below.refl _ _) rfl
    · obtain rfl := Option.some.inj (show some _ = some oO from ho)
      rw [if_pos (wanted_yes (s := 6) rfl rfl rfl (by rw [hf.size]; simp) (((hf.dep ⟨1, .guard⟩ (by simp) rfl).2 6 rfl).trans (hf.dep ⟨1, .guard⟩ (by simp) rfl).1))]
      have q22 : AC.tmps.getD 22 undef = .pointer (some ⟨w.heap.size + 1, 1, none⟩) := ((hf.dep ⟨17, .data⟩ (by simp) rfl).2 22 rfl).trans (hf.dep ⟨17, .data⟩ (by simp) rfl).1
      have hk := HB.out.keeps hbw
      have z1 := hk.cell 1 _ rfl
      go_simp
      exact hK _ _ (Below.refl _ _) rfl
    · obtain rfl := Option.some.inj (show some _ = some oO from ho)
      rw [if_pos (wanted_yes (s := 6) rfl rfl rfl (by rw [hf.size]; simp) (((hf.dep ⟨1, .guard⟩ (by simp) rfl).2 6 rfl).trans (hf.dep ⟨1, .guard⟩ (by simp) rfl).1))]
      have q17 : AC.tmps.getD 17 undef = .int .i64 a := ((hf.dep ⟨12, .data⟩ (by simp) rfl).2 17 rfl).trans (hf.dep ⟨12, .data⟩ (by simp) rfl).1
      have q19 : AC.tmps.getD 19 undef = .int .i64 b := ((hf.dep ⟨14, .data⟩ (by simp) rfl).2 19 rfl).trans (hf.dep ⟨14, .data⟩ (by simp) rfl).1
      have q21 : AC.tmps.getD 21 undef = .int .i64 c := ((hf.dep ⟨16, .data⟩ (by simp) rfl).2 21 rfl).trans (hf.dep ⟨16, .data⟩ (by simp) rfl).1
      have q23 : AC.tmps.getD 23 undef = .int .i64 d := ((hf.dep ⟨18, .data⟩ (by simp) rfl).2 23 rfl).trans (hf.dep ⟨18, .data⟩ (by simp) rfl).1
      go_simp
      refine (HY.out WW).mono ?_
      rintro e w6 ⟨rfl, hb6⟩
      exact hK _ _ hb6 rfl
    · obtain rfl := Option.some.inj (show some _ = some oO from ho)
      rw [if_pos (wanted_yes (s := 6) rfl rfl rfl (by rw [hf.size]; simp) (((hf.dep ⟨1, .guard⟩ (by simp) rfl).2 6 rfl).trans (hf.dep ⟨1, .guard⟩ (by simp) rfl).1))]
      have q15 : AC.tmps.getD 15 undef = .int .i64 o := ((hf.dep ⟨10, .data⟩ (by simp) rfl).2 15 rfl).trans (hf.dep ⟨10, .data⟩ (by simp) rfl).1
      have q24 : AC.tmps.getD 24 undef = .int .i64 o := ((hf.dep ⟨19, .data⟩ (by simp) rfl).2 24 rfl).trans (hf.dep ⟨19, .data⟩ (by simp) rfl).1
      go_simp
      exact hK _ _ (Below.refl _ _) rfl
    · obtain rfl := Option.some.inj (show some _ = some oO from ho)
      rw [if_pos (by rfl)]
      have q6 : AC.tmps.getD 6 undef = .bool true := ((hf.dep ⟨1, .data⟩ (by simp) rfl).2 6 rfl).trans (hf.dep ⟨1, .data⟩ (by simp) rfl).1
      have q25 : AC.tmps.getD 25 undef = .bool true := ((hf.dep ⟨20, .data⟩ (by simp) rfl).2 25 rfl).trans (hf.dep ⟨20, .data⟩ (by simp) rfl).1
      go_simp
      exact hK _ _ (Below.refl _ _) rfl
    · obtain rfl := Option.some.inj (show some _ = some oO from ho)
      rw [if_pos (by rfl)]
      have q26 : AC.tmps.getD 26 undef = .bool true := ((hf.dep ⟨21, .data⟩ (by simp) rfl).2 26 rfl).trans (hf.dep ⟨21, .data⟩ (by simp) rfl).1
      go_simp
      exact hK _ _ (Below.refl _ _) rfl
    · omega
  · intro V WW hall hbw hBW
    have vv0 : V 0 = .bool true := hall 0 (by decide)
    have vv1 : V 1 = .bool true := hall 1 (by decide)
    have vv2 : V 2 = .pointer (some ⟨w.heap.size, 0, none⟩) := hall 2 (by decide)
    have vv3 : V 3 = .int .i64 a := hall 3 (by decide)
    have vv4 : V 4 = .pointer (some ⟨w.heap.size, 1, none⟩) := hall 4 (by decide)
    have vv5 : V 5 = .int .i64 b := hall 5 (by decide)
    have vv6 : V 6 = .pointer (some ⟨w.heap.size + 1, 0, none⟩) := hall 6 (by decide)
    have vv7 : V 7 = .int .i64 c := hall 7 (by decide)
    have vv8 : V 8 = .pointer (some ⟨w.heap.size + 1, 1, none⟩) := hall 8 (by decide)
    have vv9 : V 9 = .int .i64 d := hall 9 (by decide)
    have vv10 : V 10 = .int .i64 o := hall 10 (by decide)
    have vv11 : V 11 = .pointer (some ⟨w.heap.size, 0, none⟩) := hall 11 (by decide)
    have vv12 : V 12 = .int .i64 a := hall 12 (by decide)
    have vv13 : V 13 = .pointer (some ⟨w.heap.size, 1, none⟩) := hall 13 (by decide)
    have vv14 : V 14 = .int .i64 b := hall 14 (by decide)
    have vv15 : V 15 = .pointer (some ⟨w.heap.size + 1, 0, none⟩) := hall 15 (by decide)
    have vv16 : V 16 = .int .i64 c := hall 16 (by decide)
    have vv17 : V 17 = .pointer (some ⟨w.heap.size + 1, 1, none⟩) := hall 17 (by decide)
    have vv18 : V 18 = .int .i64 d := hall 18 (by decide)
    have vv19 : V 19 = .int .i64 o := hall 19 (by decide)
    have vv20 : V 20 = .bool true := hall 20 (by decide)
    have vv21 : V 21 = .bool true := hall 21 (by decide)
    have vv22 : V 22 = .bool true := hall 22 (by decide)
    clear hall
    simp only [pairsOf, laid, Nat.zero_add, Nat.reduceAdd, vv0, vv1, vv2, vv3, vv4, vv5, vv6, vv7, vv8, vv9, vv10, vv11, vv12, vv13, vv14, vv15, vv16, vv17, vv18, vv19, vv20, vv21, vv22, List.setIfInBounds_toArray, List.set_cons_zero, List.set_cons_succ]
    clear vv0 vv1 vv2 vv3 vv4 vv5 vv6 vv7 vv8 vv9 vv10 vv11 vv12 vv13 vv14 vv15 vv16 vv17 vv18 vv19 vv20 vv21 vv22
    go_wp2
    go_ret
    exact ⟨rfl, hBW⟩
theorem crosses_law (a b : Int) (wa : ∀ x ∈ [a, b], (Lit.int .i64 x).wf = true) (c d : Int) (wc : ∀ x ∈ [c, d], (Lit.int .i64 x).wf = true) (w : World) :
    Calls Try.prog 6 #[.agg #[.int .i64 a, .int .i64 b], .agg #[.int .i64 c, .int .i64 d]] w fun e w' => e = .returned (.bool true) ∧ Below w.heap.size w w' := by
  obtain ⟨a0, a1⟩ := i64_wf (wa a (by simp))
  obtain ⟨b0, b1⟩ := i64_wf (wa b (by simp))
  obtain ⟨c0, c1⟩ := i64_wf (wc c (by simp))
  obtain ⟨d0, d1⟩ := i64_wf (wc d (by simp))
  exact crosses_core a b c d _ (cross_any a b c d a0 a1 b0 b1 c0 c1 d0 d1) (rcross_any a b c d a0 a1 b0 b1 c0 c1 d0 d1) w
end Go.Proofs.Ytfjgafkhhjipbaa
