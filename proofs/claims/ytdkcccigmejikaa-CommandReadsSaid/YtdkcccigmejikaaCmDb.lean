/-
  Commands: the walk of the reference's Same: where later numbers differ.
-/
import Derived.Test.YtdkcccigmejikaaCmC
import Derived.Test.YtdkcccigmejikaaMono
set_option linter.unusedVariables false
set_option linter.unusedSimpArgs false
set_option maxRecDepth 20000
namespace Go.Proofs.Ytdkcccigmejikaa
open Go.RowKit

set_option maxHeartbeats 40000000 in
theorem rsame22_l4 (w : World) (ao bo : Option Addr) (cap dap : Nat) (L M : List Int) (k lo a b n p x0 x1 x2 x3 x4 x5 x6 x7 x8 x9 x10 f0 f1 f2 f3 f4 n' p' f0' f1' f2' f3' f4' x0' x1' x2' x3' x4' x5' x6' x7' x8' x9' x10' : Int) (ej : ¬ n = n') :
    Calls Try.prog 20 #[.agg #[.int .i64 k, .int .i64 lo, .int .i64 a, .int .i64 b, .int .i64 n, .int .i64 p, .slice ao L.length cap, .int .i64 x0, .int .i64 x1, .int .i64 x2, .int .i64 x3, .int .i64 x4, .int .i64 x5, .int .i64 x6, .int .i64 x7, .int .i64 x8, .int .i64 x9, .int .i64 x10, .int .i64 f0, .int .i64 f1, .int .i64 f2, .int .i64 f3, .int .i64 f4], .agg #[.int .i64 k, .int .i64 lo, .int .i64 a, .int .i64 b, .int .i64 n', .int .i64 p', .slice bo M.length dap, .int .i64 x0', .int .i64 x1', .int .i64 x2', .int .i64 x3', .int .i64 x4', .int .i64 x5', .int .i64 x6', .int .i64 x7', .int .i64 x8', .int .i64 x9', .int .i64 x10', .int .i64 f0', .int .i64 f1', .int .i64 f2', .int .i64 f3', .int .i64 f4']] w fun e w' => e = .returned (.bool false) ∧ Below w.heap.size w w' := by
  have HB0 := Lib.hid (below_new2 w (.cells #[.int .i64 k, .int .i64 lo, .int .i64 a, .int .i64 b, .int .i64 n, .int .i64 p, .slice ao L.length cap, .int .i64 x0, .int .i64 x1, .int .i64 x2, .int .i64 x3, .int .i64 x4, .int .i64 x5, .int .i64 x6, .int .i64 x7, .int .i64 x8, .int .i64 x9, .int .i64 x10, .int .i64 f0, .int .i64 f1, .int .i64 f2, .int .i64 f3, .int .i64 f4] 45) (.cells #[.int .i64 k, .int .i64 lo, .int .i64 a, .int .i64 b, .int .i64 n', .int .i64 p', .slice bo M.length dap, .int .i64 x0', .int .i64 x1', .int .i64 x2', .int .i64 x3', .int .i64 x4', .int .i64 x5', .int .i64 x6', .int .i64 x7', .int .i64 x8', .int .i64 x9', .int .i64 x10', .int .i64 f0', .int .i64 f1', .int .i64 f2', .int .i64 f3', .int .i64 f4'] 45))
  have HA0 := Lib.hid ((Blk.new w 45 [.int .i64 k, .int .i64 lo, .int .i64 a, .int .i64 b, .int .i64 n, .int .i64 p, .slice ao L.length cap, .int .i64 x0, .int .i64 x1, .int .i64 x2, .int .i64 x3, .int .i64 x4, .int .i64 x5, .int .i64 x6, .int .i64 x7, .int .i64 x8, .int .i64 x9, .int .i64 x10, .int .i64 f0, .int .i64 f1, .int .i64 f2, .int .i64 f3, .int .i64 f4]).alloc (.cells #[.int .i64 k, .int .i64 lo, .int .i64 a, .int .i64 b, .int .i64 n', .int .i64 p', .slice bo M.length dap, .int .i64 x0', .int .i64 x1', .int .i64 x2', .int .i64 x3', .int .i64 x4', .int .i64 x5', .int .i64 x6', .int .i64 x7', .int .i64 x8', .int .i64 x9', .int .i64 x10', .int .i64 f0', .int .i64 f1', .int .i64 f2', .int .i64 f3', .int .i64 f4'] 45))
  have HB_0 := Lib.hid (Blk.new2 w (.cells #[.int .i64 k, .int .i64 lo, .int .i64 a, .int .i64 b, .int .i64 n, .int .i64 p, .slice ao L.length cap, .int .i64 x0, .int .i64 x1, .int .i64 x2, .int .i64 x3, .int .i64 x4, .int .i64 x5, .int .i64 x6, .int .i64 x7, .int .i64 x8, .int .i64 x9, .int .i64 x10, .int .i64 f0, .int .i64 f1, .int .i64 f2, .int .i64 f3, .int .i64 f4] 45) 45 [.int .i64 k, .int .i64 lo, .int .i64 a, .int .i64 b, .int .i64 n', .int .i64 p', .slice bo M.length dap, .int .i64 x0', .int .i64 x1', .int .i64 x2', .int .i64 x3', .int .i64 x4', .int .i64 x5', .int .i64 x6', .int .i64 x7', .int .i64 x8', .int .i64 x9', .int .i64 x10', .int .i64 f0', .int .i64 f1', .int .i64 f2', .int .i64 f3', .int .i64 f4'])
  have HN1 := Lib.hid (fun U => rnumbers_any U ao cap L x0 x1 x2 x3 x4 x5 x6 x7 x8 x9 x10)
  have HN2 := Lib.hid (fun U => rnumbers_any U bo dap M x0' x1' x2' x3' x4' x5' x6' x7' x8' x9' x10')
  have qq : (n == n') = false := by simpa using ej
  go_enter Try.func20, Try.ntmps20
  go_wp2
  obtain ⟨gb, hgb⟩ : ∃ g, w.heap.size + 1 = g := ⟨_, rfl⟩
  obtain ⟨ga, hga⟩ : ∃ g, w.heap.size = g := ⟨_, rfl⟩
  rw [hga] at HA0
  rw [hgb] at HB_0
  simp only [hgb]
  simp only [hga]
  clear hga hgb
  refine region_mono (by kernel_rfl) (by kernel_rfl) [some 5, some 6, some 7, some 8, some 9, some 10, some 11, some 12, some 13, some 14, some 15, some 16, some 17, some 18, some 19, some 20, some 21, some 22, some 23, some 24, some 25, some 26, some 27, some 28, some 29, some 30, some 31, some 32, some 33, some 34, some 35, some 36, some 37, some 38, some 39, some 40, some 41, some 42, some 43, some 44, some 45, some 46, some 47, some 48, some 49, some 50, some 51, some 52, some 53, some 54, some 55, some 56, some 57, some 58, some 59, some 60, some 61, some 62, some 63, some 64, some 65, some 66, some 67, some 68, some 69, some 4] (by kernel_rfl) w.heap.size w HB0.out (Nat.le_refl _) (fun i v WW => match i with | 0 => v = .pointer (some ⟨ga, 0, none⟩) | 1 => v = .int .i64 k | 2 => v = .pointer (some ⟨gb, 0, none⟩) | 3 => v = .int .i64 k | 4 => v = .bool true | 5 => v = .bool true | 6 => v = .pointer (some ⟨ga, 1, none⟩) | 7 => v = .int .i64 lo | 8 => v = .pointer (some ⟨gb, 1, none⟩) | 9 => v = .int .i64 lo | 10 => v = .bool true | 11 => v = .bool true | 12 => v = .bool true | 13 => v = .pointer (some ⟨ga, 2, none⟩) | 14 => v = .int .i64 a | 15 => v = .pointer (some ⟨gb, 2, none⟩) | 16 => v = .int .i64 a | 17 => v = .bool true | 18 => v = .bool true | 19 => v = .bool true | 20 => v = .pointer (some ⟨ga, 3, none⟩) | 21 => v = .int .i64 b | 22 => v = .pointer (some ⟨gb, 3, none⟩) | 23 => v = .int .i64 b | 24 => v = .bool true | 25 => v = .bool true | 26 => v = .bool true | 27 => v = .pointer (some ⟨ga, 4, none⟩) | 28 => v = .int .i64 n | 29 => v = .pointer (some ⟨gb, 4, none⟩) | 30 => v = .int .i64 n' | 31 => v = .bool false | 32 => v = .bool false | 33 => v = .bool false | 34 => v = undef | 35 => v = undef | 36 => v = undef | 37 => v = undef | 38 => v = undef | 39 => v = .bool false | 40 => v = .bool false | 41 => v = undef | 42 => v = undef | 43 => v = undef | 44 => v = undef | 45 => v = undef | 46 => v = .bool false | 47 => v = .bool false | 48 => v = undef | 49 => v = undef | 50 => v = undef | 51 => v = undef | 52 => v = undef | 53 => v = undef | 54 => v = undef | 55 => v = .bool false | 56 => v = .bool false | 57 => v = undef | 58 => v = undef | 59 => v = undef | 60 => v = undef | 61 => v = undef | 62 => v = undef | 63 => v = undef | 64 => v = .bool false | 65 => v = .bool false | _ => True) ?_ ?_ ?_
  · intro i v WW WX h hbx
    rcases i with _ | _ | _ | _ | _ | _ | _ | _ | _ | _ | _ | _ | _ | _ | _ | _ | _ | _ | _ | _ | _ | _ | _ | _ | _ | _ | _ | _ | _ | _ | _ | _ | _ | _ | _ | _ | _ | _ | _ | _ | _ | _ | _ | _ | _ | _ | _ | _ | _ | _ | _ | _ | _ | _ | _ | _ | _ | _ | _ | _ | _ | _ | _ | _ | _ | _ | i
    · exact h
    · exact h
    · exact h
    · exact h
    · exact h
    · exact h
    · exact h
    · exact h
    · exact h
    · exact h
    · exact h
    · exact h
    · exact h
    · exact h
    · exact h
    · exact h
    · exact h
    · exact h
    · exact h
    · exact h
    · exact h
    · exact h
    · exact h
    · exact h
    · exact h
    · exact h
    · exact h
    · exact h
    · exact h
    · exact h
    · exact h
    · exact h
    · exact h
    · exact h
    · exact h
    · exact h
    · exact h
    · exact h
    · exact h
    · exact h
    · exact h
    · exact h
    · exact h
    · exact h
    · exact h
    · exact h
    · exact h
    · exact h
    · exact h
    · exact h
    · exact h
    · exact h
    · exact h
    · exact h
    · exact h
    · exact h
    · exact h
    · exact h
    · exact h
    · exact h
    · exact h
    · exact h
    · exact h
    · exact h
    · exact h
    · exact h
    · trivial
  · intro iI oO V AC WW ho hf hbw K hK
    have hlt : iI < 66 := by have := (Array.getElem?_eq_some_iff.1 ho).1; first | exact this | simpa using this
    rcases iI with _ | _ | _ | _ | _ | _ | _ | _ | _ | _ | _ | _ | _ | _ | _ | _ | _ | _ | _ | _ | _ | _ | _ | _ | _ | _ | _ | _ | _ | _ | _ | _ | _ | _ | _ | _ | _ | _ | _ | _ | _ | _ | _ | _ | _ | _ | _ | _ | _ | _ | _ | _ | _ | _ | _ | _ | _ | _ | _ | _ | _ | _ | _ | _ | _ | _ | iI
    · obtain rfl := Option.some.inj (show some _ = some oO from ho)
      rw [if_pos (by rfl)]
      have q2 : AC.tmps.getD 2 undef = .pointer (some ⟨ga, 0, none⟩) := hf.rest 2 (by kernel_rfl)
      go_simp
      exact hK _ _ (Below.refl _ _) rfl
    · obtain rfl := Option.some.inj (show some _ = some oO from ho)
      rw [if_pos (by rfl)]
      have q5 : AC.tmps.getD 5 undef = .pointer (some ⟨ga, 0, none⟩) := ((hf.dep ⟨0, .data⟩ (by simp) rfl).2 5 rfl).trans (hf.dep ⟨0, .data⟩ (by simp) rfl).1
      have hG := HA0.out.keeps hbw
      have z0 := hG.cell 0 _ rfl
      go_simp
      exact hK _ _ (Below.refl _ _) rfl
    · obtain rfl := Option.some.inj (show some _ = some oO from ho)
      rw [if_pos (by rfl)]
      have q3 : AC.tmps.getD 3 undef = .pointer (some ⟨gb, 0, none⟩) := hf.rest 3 (by kernel_rfl)
      go_simp
      exact hK _ _ (Below.refl _ _) rfl
    · obtain rfl := Option.some.inj (show some _ = some oO from ho)
      rw [if_pos (by rfl)]
      have q7 : AC.tmps.getD 7 undef = .pointer (some ⟨gb, 0, none⟩) := ((hf.dep ⟨2, .data⟩ (by simp) rfl).2 7 rfl).trans (hf.dep ⟨2, .data⟩ (by simp) rfl).1
      have hG := HB_0.out.keeps hbw
      have z0 := hG.cell 0 _ rfl
      go_simp
      exact hK _ _ (Below.refl _ _) rfl
    · obtain rfl := Option.some.inj (show some _ = some oO from ho)
      rw [if_pos (by rfl)]
      have q6 : AC.tmps.getD 6 undef = .int .i64 k := ((hf.dep ⟨1, .data⟩ (by simp) rfl).2 6 rfl).trans (hf.dep ⟨1, .data⟩ (by simp) rfl).1
      have q8 : AC.tmps.getD 8 undef = .int .i64 k := ((hf.dep ⟨3, .data⟩ (by simp) rfl).2 8 rfl).trans (hf.dep ⟨3, .data⟩ (by simp) rfl).1
      go_simp
      exact hK _ _ (Below.refl _ _) rfl
    · obtain rfl := Option.some.inj (show some _ = some oO from ho)
      rw [if_pos (by rfl)]
      have q9 : AC.tmps.getD 9 undef = .bool true := ((hf.dep ⟨4, .data⟩ (by simp) rfl).2 9 rfl).trans (hf.dep ⟨4, .data⟩ (by simp) rfl).1
      go_simp
      exact hK _ _ (Below.refl _ _) rfl
    · obtain rfl := Option.some.inj (show some _ = some oO from ho)
      rw [if_pos (wanted_yes (s := 10) rfl rfl rfl (by rw [hf.size]; simp) (((hf.dep ⟨5, .guard⟩ (by simp) rfl).2 10 rfl).trans (hf.dep ⟨5, .guard⟩ (by simp) rfl).1))]
      have q2 : AC.tmps.getD 2 undef = .pointer (some ⟨ga, 0, none⟩) := hf.rest 2 (by kernel_rfl)
      go_simp
      exact hK _ _ (Below.refl _ _) rfl
    · obtain rfl := Option.some.inj (show some _ = some oO from ho)
      rw [if_pos (wanted_yes (s := 10) rfl rfl rfl (by rw [hf.size]; simp) (((hf.dep ⟨5, .guard⟩ (by simp) rfl).2 10 rfl).trans (hf.dep ⟨5, .guard⟩ (by simp) rfl).1))]
      have q11 : AC.tmps.getD 11 undef = .pointer (some ⟨ga, 1, none⟩) := ((hf.dep ⟨6, .data⟩ (by simp) rfl).2 11 rfl).trans (hf.dep ⟨6, .data⟩ (by simp) rfl).1
      have hG := HA0.out.keeps hbw
      have z1 := hG.cell 1 _ rfl
      go_simp
      exact hK _ _ (Below.refl _ _) rfl
    · obtain rfl := Option.some.inj (show some _ = some oO from ho)
      rw [if_pos (wanted_yes (s := 10) rfl rfl rfl (by rw [hf.size]; simp) (((hf.dep ⟨5, .guard⟩ (by simp) rfl).2 10 rfl).trans (hf.dep ⟨5, .guard⟩ (by simp) rfl).1))]
      have q3 : AC.tmps.getD 3 undef = .pointer (some ⟨gb, 0, none⟩) := hf.rest 3 (by kernel_rfl)
      go_simp
      exact hK _ _ (Below.refl _ _) rfl
    · obtain rfl := Option.some.inj (show some _ = some oO from ho)
      rw [if_pos (wanted_yes (s := 10) rfl rfl rfl (by rw [hf.size]; simp) (((hf.dep ⟨5, .guard⟩ (by simp) rfl).2 10 rfl).trans (hf.dep ⟨5, .guard⟩ (by simp) rfl).1))]
      have q13 : AC.tmps.getD 13 undef = .pointer (some ⟨gb, 1, none⟩) := ((hf.dep ⟨8, .data⟩ (by simp) rfl).2 13 rfl).trans (hf.dep ⟨8, .data⟩ (by simp) rfl).1
      have hG := HB_0.out.keeps hbw
      have z1 := hG.cell 1 _ rfl
      go_simp
      exact hK _ _ (Below.refl _ _) rfl
    · obtain rfl := Option.some.inj (show some _ = some oO from ho)
      rw [if_pos (wanted_yes (s := 10) rfl rfl rfl (by rw [hf.size]; simp) (((hf.dep ⟨5, .guard⟩ (by simp) rfl).2 10 rfl).trans (hf.dep ⟨5, .guard⟩ (by simp) rfl).1))]
      have q12 : AC.tmps.getD 12 undef = .int .i64 lo := ((hf.dep ⟨7, .data⟩ (by simp) rfl).2 12 rfl).trans (hf.dep ⟨7, .data⟩ (by simp) rfl).1
      have q14 : AC.tmps.getD 14 undef = .int .i64 lo := ((hf.dep ⟨9, .data⟩ (by simp) rfl).2 14 rfl).trans (hf.dep ⟨9, .data⟩ (by simp) rfl).1
      go_simp
      exact hK _ _ (Below.refl _ _) rfl
    · obtain rfl := Option.some.inj (show some _ = some oO from ho)
      rw [if_pos (by rfl)]
      have q10 : AC.tmps.getD 10 undef = .bool true := ((hf.dep ⟨5, .data⟩ (by simp) rfl).2 10 rfl).trans (hf.dep ⟨5, .data⟩ (by simp) rfl).1
      have q15 : AC.tmps.getD 15 undef = .bool true := ((hf.dep ⟨10, .data⟩ (by simp) rfl).2 15 rfl).trans (hf.dep ⟨10, .data⟩ (by simp) rfl).1
      go_simp
      exact hK _ _ (Below.refl _ _) rfl
    · obtain rfl := Option.some.inj (show some _ = some oO from ho)
      rw [if_pos (by rfl)]
      have q16 : AC.tmps.getD 16 undef = .bool true := ((hf.dep ⟨11, .data⟩ (by simp) rfl).2 16 rfl).trans (hf.dep ⟨11, .data⟩ (by simp) rfl).1
      go_simp
      exact hK _ _ (Below.refl _ _) rfl
    · obtain rfl := Option.some.inj (show some _ = some oO from ho)
      rw [if_pos (wanted_yes (s := 17) rfl rfl rfl (by rw [hf.size]; simp) (((hf.dep ⟨12, .guard⟩ (by simp) rfl).2 17 rfl).trans (hf.dep ⟨12, .guard⟩ (by simp) rfl).1))]
      have q2 : AC.tmps.getD 2 undef = .pointer (some ⟨ga, 0, none⟩) := hf.rest 2 (by kernel_rfl)
      go_simp
      exact hK _ _ (Below.refl _ _) rfl
    · obtain rfl := Option.some.inj (show some _ = some oO from ho)
      rw [if_pos (wanted_yes (s := 17) rfl rfl rfl (by rw [hf.size]; simp) (((hf.dep ⟨12, .guard⟩ (by simp) rfl).2 17 rfl).trans (hf.dep ⟨12, .guard⟩ (by simp) rfl).1))]
      have q18 : AC.tmps.getD 18 undef = .pointer (some ⟨ga, 2, none⟩) := ((hf.dep ⟨13, .data⟩ (by simp) rfl).2 18 rfl).trans (hf.dep ⟨13, .data⟩ (by simp) rfl).1
      have hG := HA0.out.keeps hbw
      have z2 := hG.cell 2 _ rfl
      go_simp
      exact hK _ _ (Below.refl _ _) rfl
    · obtain rfl := Option.some.inj (show some _ = some oO from ho)
      rw [if_pos (wanted_yes (s := 17) rfl rfl rfl (by rw [hf.size]; simp) (((hf.dep ⟨12, .guard⟩ (by simp) rfl).2 17 rfl).trans (hf.dep ⟨12, .guard⟩ (by simp) rfl).1))]
      have q3 : AC.tmps.getD 3 undef = .pointer (some ⟨gb, 0, none⟩) := hf.rest 3 (by kernel_rfl)
      go_simp
      exact hK _ _ (Below.refl _ _) rfl
    · obtain rfl := Option.some.inj (show some _ = some oO from ho)
      rw [if_pos (wanted_yes (s := 17) rfl rfl rfl (by rw [hf.size]; simp) (((hf.dep ⟨12, .guard⟩ (by simp) rfl).2 17 rfl).trans (hf.dep ⟨12, .guard⟩ (by simp) rfl).1))]
      have q20 : AC.tmps.getD 20 undef = .pointer (some ⟨gb, 2, none⟩) := ((hf.dep ⟨15, .data⟩ (by simp) rfl).2 20 rfl).trans (hf.dep ⟨15, .data⟩ (by simp) rfl).1
      have hG := HB_0.out.keeps hbw
      have z2 := hG.cell 2 _ rfl
      go_simp
      exact hK _ _ (Below.refl _ _) rfl
    · obtain rfl := Option.some.inj (show some _ = some oO from ho)
      rw [if_pos (wanted_yes (s := 17) rfl rfl rfl (by rw [hf.size]; simp) (((hf.dep ⟨12, .guard⟩ (by simp) rfl).2 17 rfl).trans (hf.dep ⟨12, .guard⟩ (by simp) rfl).1))]
      have q19 : AC.tmps.getD 19 undef = .int .i64 a := ((hf.dep ⟨14, .data⟩ (by simp) rfl).2 19 rfl).trans (hf.dep ⟨14, .data⟩ (by simp) rfl).1
      have q21 : AC.tmps.getD 21 undef = .int .i64 a := ((hf.dep ⟨16, .data⟩ (by simp) rfl).2 21 rfl).trans (hf.dep ⟨16, .data⟩ (by simp) rfl).1
      go_simp
      exact hK _ _ (Below.refl _ _) rfl
    · obtain rfl := Option.some.inj (show some _ = some oO from ho)
      rw [if_pos (by rfl)]
      have q17 : AC.tmps.getD 17 undef = .bool true := ((hf.dep ⟨12, .data⟩ (by simp) rfl).2 17 rfl).trans (hf.dep ⟨12, .data⟩ (by simp) rfl).1
      have q22 : AC.tmps.getD 22 undef = .bool true := ((hf.dep ⟨17, .data⟩ (by simp) rfl).2 22 rfl).trans (hf.dep ⟨17, .data⟩ (by simp) rfl).1
      go_simp
      exact hK _ _ (Below.refl _ _) rfl
    · obtain rfl := Option.some.inj (show some _ = some oO from ho)
      rw [if_pos (by rfl)]
      have q23 : AC.tmps.getD 23 undef = .bool true := ((hf.dep ⟨18, .data⟩ (by simp) rfl).2 23 rfl).trans (hf.dep ⟨18, .data⟩ (by simp) rfl).1
      go_simp
      exact hK _ _ (Below.refl _ _) rfl
    · obtain rfl := Option.some.inj (show some _ = some oO from ho)
      rw [if_pos (wanted_yes (s := 24) rfl rfl rfl (by rw [hf.size]; simp) (((hf.dep ⟨19, .guard⟩ (by simp) rfl).2 24 rfl).trans (hf.dep ⟨19, .guard⟩ (by simp) rfl).1))]
      have q2 : AC.tmps.getD 2 undef = .pointer (some ⟨ga, 0, none⟩) := hf.rest 2 (by kernel_rfl)
      go_simp
      exact hK _ _ (Below.refl _ _) rfl
    · obtain rfl := Option.some.inj (show some _ = some oO from ho)
      rw [if_pos (wanted_yes (s := 24) rfl rfl rfl (by rw [hf.size]; simp) (((hf.dep ⟨19, .guard⟩ (by simp) rfl).2 24 rfl).trans (hf.dep ⟨19, .guard⟩ (by simp) rfl).1))]
      have q25 : AC.tmps.getD 25 undef = .pointer (some ⟨ga, 3, none⟩) := ((hf.dep ⟨20, .data⟩ (by simp) rfl).2 25 rfl).trans (hf.dep ⟨20, .data⟩ (by simp) rfl).1
      have hG := HA0.out.keeps hbw
      have z3 := hG.cell 3 _ rfl
      go_simp
      exact hK _ _ (Below.refl _ _) rfl
    · obtain rfl := Option.some.inj (show some _ = some oO from ho)
      rw [if_pos (wanted_yes (s := 24) rfl rfl rfl (by rw [hf.size]; simp) (((hf.dep ⟨19, .guard⟩ (by simp) rfl).2 24 rfl).trans (hf.dep ⟨19, .guard⟩ (by simp) rfl).1))]
      have q3 : AC.tmps.getD 3 undef = .pointer (some ⟨gb, 0, none⟩) := hf.rest 3 (by kernel_rfl)
      go_simp
      exact hK _ _ (Below.refl _ _) rfl
    · obtain rfl := Option.some.inj (show some _ = some oO from ho)
      rw [if_pos (wanted_yes (s := 24) rfl rfl rfl (by rw [hf.size]; simp) (((hf.dep ⟨19, .guard⟩ (by simp) rfl).2 24 rfl).trans (hf.dep ⟨19, .guard⟩ (by simp) rfl).1))]
      have q27 : AC.tmps.getD 27 undef = .pointer (some ⟨gb, 3, none⟩) := ((hf.dep ⟨22, .data⟩ (by simp) rfl).2 27 rfl).trans (hf.dep ⟨22, .data⟩ (by simp) rfl).1
      have hG := HB_0.out.keeps hbw
      have z3 := hG.cell 3 _ rfl
      go_simp
      exact hK _ _ (Below.refl _ _) rfl
    · obtain rfl := Option.some.inj (show some _ = some oO from ho)
      rw [if_pos (wanted_yes (s := 24) rfl rfl rfl (by rw [hf.size]; simp) (((hf.dep ⟨19, .guard⟩ (by simp) rfl).2 24 rfl).trans (hf.dep ⟨19, .guard⟩ (by simp) rfl).1))]
      have q26 : AC.tmps.getD 26 undef = .int .i64 b := ((hf.dep ⟨21, .data⟩ (by simp) rfl).2 26 rfl).trans (hf.dep ⟨21, .data⟩ (by simp) rfl).1
      have q28 : AC.tmps.getD 28 undef = .int .i64 b := ((hf.dep ⟨23, .data⟩ (by simp) rfl).2 28 rfl).trans (hf.dep ⟨23, .data⟩ (by simp) rfl).1
      go_simp
      exact hK _ _ (Below.refl _ _) rfl
    · obtain rfl := Option.some.inj (show some _ = some oO from ho)
      rw [if_pos (by rfl)]
      have q24 : AC.tmps.getD 24 undef = .bool true := ((hf.dep ⟨19, .data⟩ (by simp) rfl).2 24 rfl).trans (hf.dep ⟨19, .data⟩ (by simp) rfl).1
      have q29 : AC.tmps.getD 29 undef = .bool true := ((hf.dep ⟨24, .data⟩ (by simp) rfl).2 29 rfl).trans (hf.dep ⟨24, .data⟩ (by simp) rfl).1
      go_simp
      exact hK _ _ (Below.refl _ _) rfl
    · obtain rfl := Option.some.inj (show some _ = some oO from ho)
      rw [if_pos (by rfl)]
      have q30 : AC.tmps.getD 30 undef = .bool true := ((hf.dep ⟨25, .data⟩ (by simp) rfl).2 30 rfl).trans (hf.dep ⟨25, .data⟩ (by simp) rfl).1
      go_simp
      exact hK _ _ (Below.refl _ _) rfl
    · obtain rfl := Option.some.inj (show some _ = some oO from ho)
      rw [if_pos (wanted_yes (s := 31) rfl rfl rfl (by rw [hf.size]; simp) (((hf.dep ⟨26, .guard⟩ (by simp) rfl).2 31 rfl).trans (hf.dep ⟨26, .guard⟩ (by simp) rfl).1))]
      have q2 : AC.tmps.getD 2 undef = .pointer (some ⟨ga, 0, none⟩) := hf.rest 2 (by kernel_rfl)
      go_simp
      exact hK _ _ (Below.refl _ _) rfl
    · obtain rfl := Option.some.inj (show some _ = some oO from ho)
      rw [if_pos (wanted_yes (s := 31) rfl rfl rfl (by rw [hf.size]; simp) (((hf.dep ⟨26, .guard⟩ (by simp) rfl).2 31 rfl).trans (hf.dep ⟨26, .guard⟩ (by simp) rfl).1))]
      have q32 : AC.tmps.getD 32 undef = .pointer (some ⟨ga, 4, none⟩) := ((hf.dep ⟨27, .data⟩ (by simp) rfl).2 32 rfl).trans (hf.dep ⟨27, .data⟩ (by simp) rfl).1
      have hG := HA0.out.keeps hbw
      have z4 := hG.cell 4 _ rfl
      go_simp
      exact hK _ _ (Below.refl _ _) rfl
    · obtain rfl := Option.some.inj (show some _ = some oO from ho)
      rw [if_pos (wanted_yes (s := 31) rfl rfl rfl (by rw [hf.size]; simp) (((hf.dep ⟨26, .guard⟩ (by simp) rfl).2 31 rfl).trans (hf.dep ⟨26, .guard⟩ (by simp) rfl).1))]
      have q3 : AC.tmps.getD 3 undef = .pointer (some ⟨gb, 0, none⟩) := hf.rest 3 (by kernel_rfl)
      go_simp
      exact hK _ _ (Below.refl _ _) rfl
    · obtain rfl := Option.some.inj (show some _ = some oO from ho)
      rw [if_pos (wanted_yes (s := 31) rfl rfl rfl (by rw [hf.size]; simp) (((hf.dep ⟨26, .guard⟩ (by simp) rfl).2 31 rfl).trans (hf.dep ⟨26, .guard⟩ (by simp) rfl).1))]
      have q34 : AC.tmps.getD 34 undef = .pointer (some ⟨gb, 4, none⟩) := ((hf.dep ⟨29, .data⟩ (by simp) rfl).2 34 rfl).trans (hf.dep ⟨29, .data⟩ (by simp) rfl).1
      have hG := HB_0.out.keeps hbw
      have z4 := hG.cell 4 _ rfl
      go_simp
      exact hK _ _ (Below.refl _ _) rfl
    · obtain rfl := Option.some.inj (show some _ = some oO from ho)
      rw [if_pos (wanted_yes (s := 31) rfl rfl rfl (by rw [hf.size]; simp) (((hf.dep ⟨26, .guard⟩ (by simp) rfl).2 31 rfl).trans (hf.dep ⟨26, .guard⟩ (by simp) rfl).1))]
      have q33 : AC.tmps.getD 33 undef = .int .i64 n := ((hf.dep ⟨28, .data⟩ (by simp) rfl).2 33 rfl).trans (hf.dep ⟨28, .data⟩ (by simp) rfl).1
      have q35 : AC.tmps.getD 35 undef = .int .i64 n' := ((hf.dep ⟨30, .data⟩ (by simp) rfl).2 35 rfl).trans (hf.dep ⟨30, .data⟩ (by simp) rfl).1
      go_simp
      exact hK _ _ (Below.refl _ _) rfl
    · obtain rfl := Option.some.inj (show some _ = some oO from ho)
      rw [if_pos (by rfl)]
      have q31 : AC.tmps.getD 31 undef = .bool true := ((hf.dep ⟨26, .data⟩ (by simp) rfl).2 31 rfl).trans (hf.dep ⟨26, .data⟩ (by simp) rfl).1
      have q36 : AC.tmps.getD 36 undef = .bool false := ((hf.dep ⟨31, .data⟩ (by simp) rfl).2 36 rfl).trans (hf.dep ⟨31, .data⟩ (by simp) rfl).1
      go_simp
      exact hK _ _ (Below.refl _ _) rfl
    · obtain rfl := Option.some.inj (show some _ = some oO from ho)
      rw [if_pos (by rfl)]
      have q37 : AC.tmps.getD 37 undef = .bool false := ((hf.dep ⟨32, .data⟩ (by simp) rfl).2 37 rfl).trans (hf.dep ⟨32, .data⟩ (by simp) rfl).1
      go_simp
      exact hK _ _ (Below.refl _ _) rfl
    · obtain rfl := Option.some.inj (show some _ = some oO from ho)
      rw [if_neg (wanted_no (s := 38) rfl rfl rfl (by rw [hf.size]; simp) (((hf.dep ⟨33, .guard⟩ (by simp) rfl).2 38 rfl).trans (hf.dep ⟨33, .guard⟩ (by simp) rfl).1) rfl)]
      exact hK _ _ (Below.refl _ _) rfl
    · obtain rfl := Option.some.inj (show some _ = some oO from ho)
      rw [if_neg (wanted_no (s := 38) rfl rfl rfl (by rw [hf.size]; simp) (((hf.dep ⟨33, .guard⟩ (by simp) rfl).2 38 rfl).trans (hf.dep ⟨33, .guard⟩ (by simp) rfl).1) rfl)]
      exact hK _ _ (Below.refl _ _) rfl
    · obtain rfl := Option.some.inj (show some _ = some oO from ho)
      rw [if_neg (wanted_no (s := 38) rfl rfl rfl (by rw [hf.size]; simp) (((hf.dep ⟨33, .guard⟩ (by simp) rfl).2 38 rfl).trans (hf.dep ⟨33, .guard⟩ (by simp) rfl).1) rfl)]
      exact hK _ _ (Below.refl _ _) rfl
    · obtain rfl := Option.some.inj (show some _ = some oO from ho)
      rw [if_neg (wanted_no (s := 38) rfl rfl rfl (by rw [hf.size]; simp) (((hf.dep ⟨33, .guard⟩ (by simp) rfl).2 38 rfl).trans (hf.dep ⟨33, .guard⟩ (by simp) rfl).1) rfl)]
      exact hK _ _ (Below.refl _ _) rfl
    · obtain rfl := Option.some.inj (show some _ = some oO from ho)
      rw [if_neg (wanted_no (s := 38) rfl rfl rfl (by rw [hf.size]; simp) (((hf.dep ⟨33, .guard⟩ (by simp) rfl).2 38 rfl).trans (hf.dep ⟨33, .guard⟩ (by simp) rfl).1) rfl)]
      exact hK _ _ (Below.refl _ _) rfl
    · obtain rfl := Option.some.inj (show some _ = some oO from ho)
      rw [if_pos (by rfl)]
      have q38 : AC.tmps.getD 38 undef = .bool false := ((hf.dep ⟨33, .data⟩ (by simp) rfl).2 38 rfl).trans (hf.dep ⟨33, .data⟩ (by simp) rfl).1
      have q43 : AC.tmps.getD 43 undef = undef := ((hf.dep ⟨38, .data⟩ (by simp) rfl).2 43 rfl).trans (hf.dep ⟨38, .data⟩ (by simp) rfl).1
      go_simp
      exact hK _ _ (Below.refl _ _) rfl
    · obtain rfl := Option.some.inj (show some _ = some oO from ho)
      rw [if_pos (by rfl)]
      have q44 : AC.tmps.getD 44 undef = .bool false := ((hf.dep ⟨39, .data⟩ (by simp) rfl).2 44 rfl).trans (hf.dep ⟨39, .data⟩ (by simp) rfl).1
      go_simp
      exact hK _ _ (Below.refl _ _) rfl
    · obtain rfl := Option.some.inj (show some _ = some oO from ho)
      rw [if_neg (wanted_no (s := 45) rfl rfl rfl (by rw [hf.size]; simp) (((hf.dep ⟨40, .guard⟩ (by simp) rfl).2 45 rfl).trans (hf.dep ⟨40, .guard⟩ (by simp) rfl).1) rfl)]
      exact hK _ _ (Below.refl _ _) rfl
    · obtain rfl := Option.some.inj (show some _ = some oO from ho)
      rw [if_neg (wanted_no (s := 45) rfl rfl rfl (by rw [hf.size]; simp) (((hf.dep ⟨40, .guard⟩ (by simp) rfl).2 45 rfl).trans (hf.dep ⟨40, .guard⟩ (by simp) rfl).1) rfl)]
      exact hK _ _ (Below.refl _ _) rfl
    · obtain rfl := Option.some.inj (show some _ = some oO from ho)
      rw [if_neg (wanted_no (s := 45) rfl rfl rfl (by rw [hf.size]; simp) (((hf.dep ⟨40, .guard⟩ (by simp) rfl).2 45 rfl).trans (hf.dep ⟨40, .guard⟩ (by simp) rfl).1) rfl)]
      exact hK _ _ (Below.refl _ _) rfl
    · obtain rfl := Option.some.inj (show some _ = some oO from ho)
      rw [if_neg (wanted_no (s := 45) rfl rfl rfl (by rw [hf.size]; simp) (((hf.dep ⟨40, .guard⟩ (by simp) rfl).2 45 rfl).trans (hf.dep ⟨40, .guard⟩ (by simp) rfl).1) rfl)]
      exact hK _ _ (Below.refl _ _) rfl
    · obtain rfl := Option.some.inj (show some _ = some oO from ho)
      rw [if_neg (wanted_no (s := 45) rfl rfl rfl (by rw [hf.size]; simp) (((hf.dep ⟨40, .guard⟩ (by simp) rfl).2 45 rfl).trans (hf.dep ⟨40, .guard⟩ (by simp) rfl).1) rfl)]
      exact hK _ _ (Below.refl _ _) rfl
    · obtain rfl := Option.some.inj (show some _ = some oO from ho)
      rw [if_pos (by rfl)]
      have q45 : AC.tmps.getD 45 undef = .bool false := ((hf.dep ⟨40, .data⟩ (by simp) rfl).2 45 rfl).trans (hf.dep ⟨40, .data⟩ (by simp) rfl).1
      have q50 : AC.tmps.getD 50 undef = undef := ((hf.dep ⟨45, .data⟩ (by simp) rfl).2 50 rfl).trans (hf.dep ⟨45, .data⟩ (by simp) rfl).1
      go_simp
      exact hK _ _ (Below.refl _ _) rfl
    · obtain rfl := Option.some.inj (show some _ = some oO from ho)
      rw [if_pos (by rfl)]
      have q51 : AC.tmps.getD 51 undef = .bool false := ((hf.dep ⟨46, .data⟩ (by simp) rfl).2 51 rfl).trans (hf.dep ⟨46, .data⟩ (by simp) rfl).1
      go_simp
      exact hK _ _ (Below.refl _ _) rfl
    · obtain rfl := Option.some.inj (show some _ = some oO from ho)
      rw [if_neg (wanted_no (s := 52) rfl rfl rfl (by rw [hf.size]; simp) (((hf.dep ⟨47, .guard⟩ (by simp) rfl).2 52 rfl).trans (hf.dep ⟨47, .guard⟩ (by simp) rfl).1) rfl)]
      exact hK _ _ (Below.refl _ _) rfl
    · obtain rfl := Option.some.inj (show some _ = some oO from ho)
      rw [if_neg (wanted_no (s := 52) rfl rfl rfl (by rw [hf.size]; simp) (((hf.dep ⟨47, .guard⟩ (by simp) rfl).2 52 rfl).trans (hf.dep ⟨47, .guard⟩ (by simp) rfl).1) rfl)]
      exact hK _ _ (Below.refl _ _) rfl
    · obtain rfl := Option.some.inj (show some _ = some oO from ho)
      rw [if_neg (wanted_no (s := 52) rfl rfl rfl (by rw [hf.size]; simp) (((hf.dep ⟨47, .guard⟩ (by simp) rfl).2 52 rfl).trans (hf.dep ⟨47, .guard⟩ (by simp) rfl).1) rfl)]
      exact hK _ _ (Below.refl _ _) rfl
    · obtain rfl := Option.some.inj (show some _ = some oO from ho)
      rw [if_neg (wanted_no (s := 52) rfl rfl rfl (by rw [hf.size]; simp) (((hf.dep ⟨47, .guard⟩ (by simp) rfl).2 52 rfl).trans (hf.dep ⟨47, .guard⟩ (by simp) rfl).1) rfl)]
      exact hK _ _ (Below.refl _ _) rfl
    · obtain rfl := Option.some.inj (show some _ = some oO from ho)
      rw [if_neg (wanted_no (s := 52) rfl rfl rfl (by rw [hf.size]; simp) (((hf.dep ⟨47, .guard⟩ (by simp) rfl).2 52 rfl).trans (hf.dep ⟨47, .guard⟩ (by simp) rfl).1) rfl)]
      exact hK _ _ (Below.refl _ _) rfl
    · obtain rfl := Option.some.inj (show some _ = some oO from ho)
      rw [if_neg (wanted_no (s := 52) rfl rfl rfl (by rw [hf.size]; simp) (((hf.dep ⟨47, .guard⟩ (by simp) rfl).2 52 rfl).trans (hf.dep ⟨47, .guard⟩ (by simp) rfl).1) rfl)]
      exact hK _ _ (Below.refl _ _) rfl
    · obtain rfl := Option.some.inj (show some _ = some oO from ho)
      rw [if_neg (wanted_no (s := 52) rfl rfl rfl (by rw [hf.size]; simp) (((hf.dep ⟨47, .guard⟩ (by simp) rfl).2 52 rfl).trans (hf.dep ⟨47, .guard⟩ (by simp) rfl).1) rfl)]
      exact hK _ _ (Below.refl _ _) rfl
    · obtain rfl := Option.some.inj (show some _ = some oO from ho)
      rw [if_pos (by rfl)]
      have q52 : AC.tmps.getD 52 undef = .bool false := ((hf.dep ⟨47, .data⟩ (by simp) rfl).2 52 rfl).trans (hf.dep ⟨47, .data⟩ (by simp) rfl).1
      have q59 : AC.tmps.getD 59 undef = undef := ((hf.dep ⟨54, .data⟩ (by simp) rfl).2 59 rfl).trans (hf.dep ⟨54, .data⟩ (by simp) rfl).1
      go_simp
      exact hK _ _ (Below.refl _ _) rfl
    · obtain rfl := Option.some.inj (show some _ = some oO from ho)
      rw [if_pos (by rfl)]
      have q60 : AC.tmps.getD 60 undef = .bool false := ((hf.dep ⟨55, .data⟩ (by simp) rfl).2 60 rfl).trans (hf.dep ⟨55, .data⟩ (by simp) rfl).1
      go_simp
      exact hK _ _ (Below.refl _ _) rfl
    · obtain rfl := Option.some.inj (show some _ = some oO from ho)
      rw [if_neg (wanted_no (s := 61) rfl rfl rfl (by rw [hf.size]; simp) (((hf.dep ⟨56, .guard⟩ (by simp) rfl).2 61 rfl).trans (hf.dep ⟨56, .guard⟩ (by simp) rfl).1) rfl)]
      exact hK _ _ (Below.refl _ _) rfl
    · obtain rfl := Option.some.inj (show some _ = some oO from ho)
      rw [if_neg (wanted_no (s := 61) rfl rfl rfl (by rw [hf.size]; simp) (((hf.dep ⟨56, .guard⟩ (by simp) rfl).2 61 rfl).trans (hf.dep ⟨56, .guard⟩ (by simp) rfl).1) rfl)]
      exact hK _ _ (Below.refl _ _) rfl
    · obtain rfl := Option.some.inj (show some _ = some oO from ho)
      rw [if_neg (wanted_no (s := 61) rfl rfl rfl (by rw [hf.size]; simp) (((hf.dep ⟨56, .guard⟩ (by simp) rfl).2 61 rfl).trans (hf.dep ⟨56, .guard⟩ (by simp) rfl).1) rfl)]
      exact hK _ _ (Below.refl _ _) rfl
    · obtain rfl := Option.some.inj (show some _ = some oO from ho)
      rw [if_neg (wanted_no (s := 61) rfl rfl rfl (by rw [hf.size]; simp) (((hf.dep ⟨56, .guard⟩ (by simp) rfl).2 61 rfl).trans (hf.dep ⟨56, .guard⟩ (by simp) rfl).1) rfl)]
      exact hK _ _ (Below.refl _ _) rfl
    · obtain rfl := Option.some.inj (show some _ = some oO from ho)
      rw [if_neg (wanted_no (s := 61) rfl rfl rfl (by rw [hf.size]; simp) (((hf.dep ⟨56, .guard⟩ (by simp) rfl).2 61 rfl).trans (hf.dep ⟨56, .guard⟩ (by simp) rfl).1) rfl)]
      exact hK _ _ (Below.refl _ _) rfl
    · obtain rfl := Option.some.inj (show some _ = some oO from ho)
      rw [if_neg (wanted_no (s := 61) rfl rfl rfl (by rw [hf.size]; simp) (((hf.dep ⟨56, .guard⟩ (by simp) rfl).2 61 rfl).trans (hf.dep ⟨56, .guard⟩ (by simp) rfl).1) rfl)]
      exact hK _ _ (Below.refl _ _) rfl
    · obtain rfl := Option.some.inj (show some _ = some oO from ho)
      rw [if_neg (wanted_no (s := 61) rfl rfl rfl (by rw [hf.size]; simp) (((hf.dep ⟨56, .guard⟩ (by simp) rfl).2 61 rfl).trans (hf.dep ⟨56, .guard⟩ (by simp) rfl).1) rfl)]
      exact hK _ _ (Below.refl _ _) rfl
    · obtain rfl := Option.some.inj (show some _ = some oO from ho)
      rw [if_pos (by rfl)]
      have q61 : AC.tmps.getD 61 undef = .bool false := ((hf.dep ⟨56, .data⟩ (by simp) rfl).2 61 rfl).trans (hf.dep ⟨56, .data⟩ (by simp) rfl).1
      have q68 : AC.tmps.getD 68 undef = undef := ((hf.dep ⟨63, .data⟩ (by simp) rfl).2 68 rfl).trans (hf.dep ⟨63, .data⟩ (by simp) rfl).1
      go_simp
      exact hK _ _ (Below.refl _ _) rfl
    · obtain rfl := Option.some.inj (show some _ = some oO from ho)
      rw [if_pos (by rfl)]
      have q69 : AC.tmps.getD 69 undef = .bool false := ((hf.dep ⟨64, .data⟩ (by simp) rfl).2 69 rfl).trans (hf.dep ⟨64, .data⟩ (by simp) rfl).1
      go_simp
      exact hK _ _ (Below.refl _ _) rfl
    · omega
  · intro V WW hall hbw hBW
    have vv0 : V 0 = .pointer (some ⟨ga, 0, none⟩) := hall 0 (by decide)
    have vv1 : V 1 = .int .i64 k := hall 1 (by decide)
    have vv2 : V 2 = .pointer (some ⟨gb, 0, none⟩) := hall 2 (by decide)
    have vv3 : V 3 = .int .i64 k := hall 3 (by decide)
    have vv4 : V 4 = .bool true := hall 4 (by decide)
    have vv5 : V 5 = .bool true := hall 5 (by decide)
    have vv6 : V 6 = .pointer (some ⟨ga, 1, none⟩) := hall 6 (by decide)
    have vv7 : V 7 = .int .i64 lo := hall 7 (by decide)
    have vv8 : V 8 = .pointer (some ⟨gb, 1, none⟩) := hall 8 (by decide)
    have vv9 : V 9 = .int .i64 lo := hall 9 (by decide)
    have vv10 : V 10 = .bool true := hall 10 (by decide)
    have vv11 : V 11 = .bool true := hall 11 (by decide)
    have vv12 : V 12 = .bool true := hall 12 (by decide)
    have vv13 : V 13 = .pointer (some ⟨ga, 2, none⟩) := hall 13 (by decide)
    have vv14 : V 14 = .int .i64 a := hall 14 (by decide)
    have vv15 : V 15 = .pointer (some ⟨gb, 2, none⟩) := hall 15 (by decide)
    have vv16 : V 16 = .int .i64 a := hall 16 (by decide)
    have vv17 : V 17 = .bool true := hall 17 (by decide)
    have vv18 : V 18 = .bool true := hall 18 (by decide)
    have vv19 : V 19 = .bool true := hall 19 (by decide)
    have vv20 : V 20 = .pointer (some ⟨ga, 3, none⟩) := hall 20 (by decide)
    have vv21 : V 21 = .int .i64 b := hall 21 (by decide)
    have vv22 : V 22 = .pointer (some ⟨gb, 3, none⟩) := hall 22 (by decide)
    have vv23 : V 23 = .int .i64 b := hall 23 (by decide)
    have vv24 : V 24 = .bool true := hall 24 (by decide)
    have vv25 : V 25 = .bool true := hall 25 (by decide)
    have vv26 : V 26 = .bool true := hall 26 (by decide)
    have vv27 : V 27 = .pointer (some ⟨ga, 4, none⟩) := hall 27 (by decide)
    have vv28 : V 28 = .int .i64 n := hall 28 (by decide)
    have vv29 : V 29 = .pointer (some ⟨gb, 4, none⟩) := hall 29 (by decide)
    have vv30 : V 30 = .int .i64 n' := hall 30 (by decide)
    have vv31 : V 31 = .bool false := hall 31 (by decide)
    have vv32 : V 32 = .bool false := hall 32 (by decide)
    have vv33 : V 33 = .bool false := hall 33 (by decide)
    have vv34 : V 34 = undef := hall 34 (by decide)
    have vv35 : V 35 = undef := hall 35 (by decide)
    have vv36 : V 36 = undef := hall 36 (by decide)
    have vv37 : V 37 = undef := hall 37 (by decide)
    have vv38 : V 38 = undef := hall 38 (by decide)
    have vv39 : V 39 = .bool false := hall 39 (by decide)
    have vv40 : V 40 = .bool false := hall 40 (by decide)
    have vv41 : V 41 = undef := hall 41 (by decide)
    have vv42 : V 42 = undef := hall 42 (by decide)
    have vv43 : V 43 = undef := hall 43 (by decide)
    have vv44 : V 44 = undef := hall 44 (by decide)
    have vv45 : V 45 = undef := hall 45 (by decide)
    have vv46 : V 46 = .bool false := hall 46 (by decide)
    have vv47 : V 47 = .bool false := hall 47 (by decide)
    have vv48 : V 48 = undef := hall 48 (by decide)
    have vv49 : V 49 = undef := hall 49 (by decide)
    have vv50 : V 50 = undef := hall 50 (by decide)
    have vv51 : V 51 = undef := hall 51 (by decide)
    have vv52 : V 52 = undef := hall 52 (by decide)
    have vv53 : V 53 = undef := hall 53 (by decide)
    have vv54 : V 54 = undef := hall 54 (by decide)
    have vv55 : V 55 = .bool false := hall 55 (by decide)
    have vv56 : V 56 = .bool false := hall 56 (by decide)
    have vv57 : V 57 = undef := hall 57 (by decide)
    have vv58 : V 58 = undef := hall 58 (by decide)
    have vv59 : V 59 = undef := hall 59 (by decide)
    have vv60 : V 60 = undef := hall 60 (by decide)
    have vv61 : V 61 = undef := hall 61 (by decide)
    have vv62 : V 62 = undef := hall 62 (by decide)
    have vv63 : V 63 = undef := hall 63 (by decide)
    have vv64 : V 64 = .bool false := hall 64 (by decide)
    have vv65 : V 65 = .bool false := hall 65 (by decide)
    clear hall
    simp only [pairsOf, laid, Nat.zero_add, Nat.reduceAdd, vv0, vv1, vv2, vv3, vv4, vv5, vv6, vv7, vv8, vv9, vv10, vv11, vv12, vv13, vv14, vv15, vv16, vv17, vv18, vv19, vv20, vv21, vv22, vv23, vv24, vv25, vv26, vv27, vv28, vv29, vv30, vv31, vv32, vv33, vv34, vv35, vv36, vv37, vv38, vv39, vv40, vv41, vv42, vv43, vv44, vv45, vv46, vv47, vv48, vv49, vv50, vv51, vv52, vv53, vv54, vv55, vv56, vv57, vv58, vv59, vv60, vv61, vv62, vv63, vv64, vv65, List.setIfInBounds_toArray, List.set_cons_zero, List.set_cons_succ]
    clear vv0 vv1 vv2 vv3 vv4 vv5 vv6 vv7 vv8 vv9 vv10 vv11 vv12 vv13 vv14 vv15 vv16 vv17 vv18 vv19 vv20 vv21 vv22 vv23 vv24 vv25 vv26 vv27 vv28 vv29 vv30 vv31 vv32 vv33 vv34 vv35 vv36 vv37 vv38 vv39 vv40 vv41 vv42 vv43 vv44 vv45 vv46 vv47 vv48 vv49 vv50 vv51 vv52 vv53 vv54 vv55 vv56 vv57 vv58 vv59 vv60 vv61 vv62 vv63 vv64 vv65
    have HW := Lib.hid hBW
    clear hbw hBW
    go_wp2
    go_ret
    exact ⟨rfl, HW.out⟩
set_option maxHeartbeats 40000000 in
theorem rsame22_l5 (w : World) (ao bo : Option Addr) (cap dap : Nat) (L M : List Int) (k lo a b n p x0 x1 x2 x3 x4 x5 x6 x7 x8 x9 x10 f0 f1 f2 f3 f4 p' f0' f1' f2' f3' f4' x0' x1' x2' x3' x4' x5' x6' x7' x8' x9' x10' : Int) (ej : ¬ p = p') :
    Calls Try.prog 20 #[.agg #[.int .i64 k, .int .i64 lo, .int .i64 a, .int .i64 b, .int .i64 n, .int .i64 p, .slice ao L.length cap, .int .i64 x0, .int .i64 x1, .int .i64 x2, .int .i64 x3, .int .i64 x4, .int .i64 x5, .int .i64 x6, .int .i64 x7, .int .i64 x8, .int .i64 x9, .int .i64 x10, .int .i64 f0, .int .i64 f1, .int .i64 f2, .int .i64 f3, .int .i64 f4], .agg #[.int .i64 k, .int .i64 lo, .int .i64 a, .int .i64 b, .int .i64 n, .int .i64 p', .slice bo M.length dap, .int .i64 x0', .int .i64 x1', .int .i64 x2', .int .i64 x3', .int .i64 x4', .int .i64 x5', .int .i64 x6', .int .i64 x7', .int .i64 x8', .int .i64 x9', .int .i64 x10', .int .i64 f0', .int .i64 f1', .int .i64 f2', .int .i64 f3', .int .i64 f4']] w fun e w' => e = .returned (.bool false) ∧ Below w.heap.size w w' := by
  have HB0 := Lib.hid (below_new2 w (.cells #[.int .i64 k, .int .i64 lo, .int .i64 a, .int .i64 b, .int .i64 n, .int .i64 p, .slice ao L.length cap, .int .i64 x0, .int .i64 x1, .int .i64 x2, .int .i64 x3, .int .i64 x4, .int .i64 x5, .int .i64 x6, .int .i64 x7, .int .i64 x8, .int .i64 x9, .int .i64 x10, .int .i64 f0, .int .i64 f1, .int .i64 f2, .int .i64 f3, .int .i64 f4] 45) (.cells #[.int .i64 k, .int .i64 lo, .int .i64 a, .int .i64 b, .int .i64 n, .int .i64 p', .slice bo M.length dap, .int .i64 x0', .int .i64 x1', .int .i64 x2', .int .i64 x3', .int .i64 x4', .int .i64 x5', .int .i64 x6', .int .i64 x7', .int .i64 x8', .int .i64 x9', .int .i64 x10', .int .i64 f0', .int .i64 f1', .int .i64 f2', .int .i64 f3', .int .i64 f4'] 45))
  have HA0 := Lib.hid ((Blk.new w 45 [.int .i64 k, .int .i64 lo, .int .i64 a, .int .i64 b, .int .i64 n, .int .i64 p, .slice ao L.length cap, .int .i64 x0, .int .i64 x1, .int .i64 x2, .int .i64 x3, .int .i64 x4, .int .i64 x5, .int .i64 x6, .int .i64 x7, .int .i64 x8, .int .i64 x9, .int .i64 x10, .int .i64 f0, .int .i64 f1, .int .i64 f2, .int .i64 f3, .int .i64 f4]).alloc (.cells #[.int .i64 k, .int .i64 lo, .int .i64 a, .int .i64 b, .int .i64 n, .int .i64 p', .slice bo M.length dap, .int .i64 x0', .int .i64 x1', .int .i64 x2', .int .i64 x3', .int .i64 x4', .int .i64 x5', .int .i64 x6', .int .i64 x7', .int .i64 x8', .int .i64 x9', .int .i64 x10', .int .i64 f0', .int .i64 f1', .int .i64 f2', .int .i64 f3', .int .i64 f4'] 45))
  have HB_0 := Lib.hid (Blk.new2 w (.cells #[.int .i64 k, .int .i64 lo, .int .i64 a, .int .i64 b, .int .i64 n, .int .i64 p, .slice ao L.length cap, .int .i64 x0, .int .i64 x1, .int .i64 x2, .int .i64 x3, .int .i64 x4, .int .i64 x5, .int .i64 x6, .int .i64 x7, .int .i64 x8, .int .i64 x9, .int .i64 x10, .int .i64 f0, .int .i64 f1, .int .i64 f2, .int .i64 f3, .int .i64 f4] 45) 45 [.int .i64 k, .int .i64 lo, .int .i64 a, .int .i64 b, .int .i64 n, .int .i64 p', .slice bo M.length dap, .int .i64 x0', .int .i64 x1', .int .i64 x2', .int .i64 x3', .int .i64 x4', .int .i64 x5', .int .i64 x6', .int .i64 x7', .int .i64 x8', .int .i64 x9', .int .i64 x10', .int .i64 f0', .int .i64 f1', .int .i64 f2', .int .i64 f3', .int .i64 f4'])
  have HN1 := Lib.hid (fun U => rnumbers_any U ao cap L x0 x1 x2 x3 x4 x5 x6 x7 x8 x9 x10)
  have HN2 := Lib.hid (fun U => rnumbers_any U bo dap M x0' x1' x2' x3' x4' x5' x6' x7' x8' x9' x10')
  have qq : (p == p') = false := by simpa using ej
  go_enter Try.func20, Try.ntmps20
  go_wp2
  obtain ⟨gb, hgb⟩ : ∃ g, w.heap.size + 1 = g := ⟨_, rfl⟩
  obtain ⟨ga, hga⟩ : ∃ g, w.heap.size = g := ⟨_, rfl⟩
  rw [hga] at HA0
  rw [hgb] at HB_0
  simp only [hgb]
  simp only [hga]
  clear hga hgb
  refine region_mono (by kernel_rfl) (by kernel_rfl) [some 5, some 6, some 7, some 8, some 9, some 10, some 11, some 12, some 13, some 14, some 15, some 16, some 17, some 18, some 19, some 20, some 21, some 22, some 23, some 24, some 25, some 26, some 27, some 28, some 29, some 30, some 31, some 32, some 33, some 34, some 35, some 36, some 37, some 38, some 39, some 40, some 41, some 42, some 43, some 44, some 45, some 46, some 47, some 48, some 49, some 50, some 51, some 52, some 53, some 54, some 55, some 56, some 57, some 58, some 59, some 60, some 61, some 62, some 63, some 64, some 65, some 66, some 67, some 68, some 69, some 4] (by kernel_rfl) w.heap.size w HB0.out (Nat.le_refl _) (fun i v WW => match i with | 0 => v = .pointer (some ⟨ga, 0, none⟩) | 1 => v = .int .i64 k | 2 => v = .pointer (some ⟨gb, 0, none⟩) | 3 => v = .int .i64 k | 4 => v = .bool true | 5 => v = .bool true | 6 => v = .pointer (some ⟨ga, 1, none⟩) | 7 => v = .int .i64 lo | 8 => v = .pointer (some ⟨gb, 1, none⟩) | 9 => v = .int .i64 lo | 10 => v = .bool true | 11 => v = .bool true | 12 => v = .bool true | 13 => v = .pointer (some ⟨ga, 2, none⟩) | 14 => v = .int .i64 a | 15 => v = .pointer (some ⟨gb, 2, none⟩) | 16 => v = .int .i64 a | 17 => v = .bool true | 18 => v = .bool true | 19 => v = .bool true | 20 => v = .pointer (some ⟨ga, 3, none⟩) | 21 => v = .int .i64 b | 22 => v = .pointer (some ⟨gb, 3, none⟩) | 23 => v = .int .i64 b | 24 => v = .bool true | 25 => v = .bool true | 26 => v = .bool true | 27 => v = .pointer (some ⟨ga, 4, none⟩) | 28 => v = .int .i64 n | 29 => v = .pointer (some ⟨gb, 4, none⟩) | 30 => v = .int .i64 n | 31 => v = .bool true | 32 => v = .bool true | 33 => v = .bool true | 34 => v = .pointer (some ⟨ga, 5, none⟩) | 35 => v = .int .i64 p | 36 => v = .pointer (some ⟨gb, 5, none⟩) | 37 => v = .int .i64 p' | 38 => v = .bool false | 39 => v = .bool false | 40 => v = .bool false | 41 => v = undef | 42 => v = undef | 43 => v = undef | 44 => v = undef | 45 => v = undef | 46 => v = .bool false | 47 => v = .bool false | 48 => v = undef | 49 => v = undef | 50 => v = undef | 51 => v = undef | 52 => v = undef | 53 => v = undef | 54 => v = undef | 55 => v = .bool false | 56 => v = .bool false | 57 => v = undef | 58 => v = undef | 59 => v = undef | 60 => v = undef | 61 => v = undef | 62 => v = undef | 63 => v = undef | 64 => v = .bool false | 65 => v = .bool false | _ => True) ?_ ?_ ?_
  · intro i v WW WX h hbx
    rcases i with _ | _ | _ | _ | _ | _ | _ | _ | _ | _ | _ | _ | _ | _ | _ | _ | _ | _ | _ | _ | _ | _ | _ | _ | _ | _ | _ | _ | _ | _ | _ | _ | _ | _ | _ | _ | _ | _ | _ | _ | _ | _ | _ | _ | _ | _ | _ | _ | _ | _ | _ | _ | _ | _ | _ | _ | _ | _ | _ | _ | _ | _ | _ | _ | _ | _ | i
    · exact h
    · exact h
    · exact h
    · exact h
    · exact h
    · exact h
    · exact h
    · exact h
    · exact h
    · exact h
    · exact h
    · exact h
    · exact h
    · exact h
    · exact h
    · exact h
    · exact h
    · exact h
    · exact h
    · exact h
    · exact h
    · exact h
    · exact h
    · exact h
    · exact h
    · exact h
    · exact h
    · exact h
    · exact h
    · exact h
    · exact h
    · exact h
    · exact h
    · exact h
    · exact h
    · exact h
    · exact h
    · exact h
    · exact h
    · exact h
    · exact h
    · exact h
    · exact h
    · exact h
    · exact h
    · exact h
    · exact h
    · exact h
    · exact h
    · exact h
    · exact h
    · exact h
    · exact h
    · exact h
    · exact h
    · exact h
    · exact h
    · exact h
    · exact h
    · exact h
    · exact h
    · exact h
    · exact h
    · exact h
    · exact h
    · exact h
    · trivial
  · intro iI oO V AC WW ho hf hbw K hK
    have hlt : iI < 66 := by have := (Array.getElem?_eq_some_iff.1 ho).1; first | exact this | simpa using this
    rcases iI with _ | _ | _ | _ | _ | _ | _ | _ | _ | _ | _ | _ | _ | _ | _ | _ | _ | _ | _ | _ | _ | _ | _ | _ | _ | _ | _ | _ | _ | _ | _ | _ | _ | _ | _ | _ | _ | _ | _ | _ | _ | _ | _ | _ | _ | _ | _ | _ | _ | _ | _ | _ | _ | _ | _ | _ | _ | _ | _ | _ | _ | _ | _ | _ | _ | _ | iI
    · obtain rfl := Option.some.inj (show some _ = some oO from ho)
      rw [if_pos (by rfl)]
      have q2 : AC.tmps.getD 2 undef = .pointer (some ⟨ga, 0, none⟩) := hf.rest 2 (by kernel_rfl)
      go_simp
      exact hK _ _ (Below.refl _ _) rfl
    · obtain rfl := Option.some.inj (show some _ = some oO from ho)
      rw [if_pos (by rfl)]
      have q5 : AC.tmps.getD 5 undef = .pointer (some ⟨ga, 0, none⟩) := ((hf.dep ⟨0, .data⟩ (by simp) rfl).2 5 rfl).trans (hf.dep ⟨0, .data⟩ (by simp) rfl).1
      have hG := HA0.out.keeps hbw
      have z0 := hG.cell 0 _ rfl
      go_simp
      exact hK _ _ (Below.refl _ _) rfl
    · obtain rfl := Option.some.inj (show some _ = some oO from ho)
      rw [if_pos (by rfl)]
      have q3 : AC.tmps.getD 3 undef = .pointer (some ⟨gb, 0, none⟩) := hf.rest 3 (by kernel_rfl)
      go_simp
      exact hK _ _ (Below.refl _ _) rfl
    · obtain rfl := Option.some.inj (show some _ = some oO from ho)
      rw [if_pos (by rfl)]
      have q7 : AC.tmps.getD 7 undef = .pointer (some ⟨gb, 0, none⟩) := ((hf.dep ⟨2, .data⟩ (by simp) rfl).2 7 rfl).trans (hf.dep ⟨2, .data⟩ (by simp) rfl).1
      have hG := HB_0.out.keeps hbw
      have z0 := hG.cell 0 _ rfl
      go_simp
      exact hK _ _ (Below.refl _ _) rfl
    · obtain rfl := Option.some.inj (show some _ = some oO from ho)
      rw [if_pos (by rfl)]
      have q6 : AC.tmps.getD 6 undef = .int .i64 k := ((hf.dep ⟨1, .data⟩ (by simp) rfl).2 6 rfl).trans (hf.dep ⟨1, .data⟩ (by simp) rfl).1
      have q8 : AC.tmps.getD 8 undef = .int .i64 k := ((hf.dep ⟨3, .data⟩ (by simp) rfl).2 8 rfl).trans (hf.dep ⟨3, .data⟩ (by simp) rfl).1
      go_simp
      exact hK _ _ (Below.refl _ _) rfl
    · obtain rfl := Option.some.inj (show some _ = some oO from ho)
      rw [if_pos (by rfl)]
      have q9 : AC.tmps.getD 9 undef = .bool true := ((hf.dep ⟨4, .data⟩ (by simp) rfl).2 9 rfl).trans (hf.dep ⟨4, .data⟩ (by simp) rfl).1
      go_simp
      exact hK _ _ (Below.refl _ _) rfl
    · obtain rfl := Option.some.inj (show some _ = some oO from ho)
      rw [if_pos (wanted_yes (s := 10) rfl rfl rfl (by rw [hf.size]; simp) (((hf.dep ⟨5, .guard⟩ (by simp) rfl).2 10 rfl).trans (hf.dep ⟨5, .guard⟩ (by simp) rfl).1))]
      have q2 : AC.tmps.getD 2 undef = .pointer (some ⟨ga, 0, none⟩) := hf.rest 2 (by kernel_rfl)
      go_simp
      exact hK _ _ (Below.refl _ _) rfl
    · obtain rfl := Option.some.inj (show some _ = some oO from ho)
      rw [if_pos (wanted_yes (s := 10) rfl rfl rfl (by rw [hf.size]; simp) (((hf.dep ⟨5, .guard⟩ (by simp) rfl).2 10 rfl).trans (hf.dep ⟨5, .guard⟩ (by simp) rfl).1))]
      have q11 : AC.tmps.getD 11 undef = .pointer (some ⟨ga, 1, none⟩) := ((hf.dep ⟨6, .data⟩ (by simp) rfl).2 11 rfl).trans (hf.dep ⟨6, .data⟩ (by simp) rfl).1
      have hG := HA0.out.keeps hbw
      have z1 := hG.cell 1 _ rfl
      go_simp
      exact hK _ _ (Below.refl _ _) rfl
    · obtain rfl := Option.some.inj (show some _ = some oO from ho)
      rw [if_pos (wanted_yes (s := 10) rfl rfl rfl (by rw [hf.size]; simp) (((hf.dep ⟨5, .guard⟩ (by simp) rfl).2 10 rfl).trans (hf.dep ⟨5, .guard⟩ (by simp) rfl).1))]
      have q3 : AC.tmps.getD 3 undef = .pointer (some ⟨gb, 0, none⟩) := hf.rest 3 (by kernel_rfl)
      go_simp
      exact hK _ _ (Below.refl _ _) rfl
    · obtain rfl := Option.some.inj (show some _ = some oO from ho)
      rw [if_pos (wanted_yes (s := 10) rfl rfl rfl (by rw [hf.size]; simp) (((hf.dep ⟨5, .guard⟩ (by simp) rfl).2 10 rfl).trans (hf.dep ⟨5, .guard⟩ (by simp) rfl).1))]
      have q13 : AC.tmps.getD 13 undef = .pointer (some ⟨gb, 1, none⟩) := ((hf.dep ⟨8, .data⟩ (by simp) rfl).2 13 rfl).trans (hf.dep ⟨8, .data⟩ (by simp) rfl).1
      have hG := HB_0.out.keeps hbw
      have z1 := hG.cell 1 _ rfl
      go_simp
      exact hK _ _ (Below.refl _ _) rfl
    · obtain rfl := Option.some.inj (show some _ = some oO from ho)
      rw [if_pos (wanted_yes (s := 10) rfl rfl rfl (by rw [hf.size]; simp) (((hf.dep ⟨5, .guard⟩ (by simp) rfl).2 10 rfl).trans (hf.dep ⟨5, .guard⟩ (by simp) rfl).1))]
      have q12 : AC.tmps.getD 12 undef = .int .i64 lo := ((hf.dep ⟨7, .data⟩ (by simp) rfl).2 12 rfl).trans (hf.dep ⟨7, .data⟩ (by simp) rfl).1
      have q14 : AC.tmps.getD 14 undef = .int .i64 lo := ((hf.dep ⟨9, .data⟩ (by simp) rfl).2 14 rfl).trans (hf.dep ⟨9, .data⟩ (by simp) rfl).1
      go_simp
      exact hK _ _ (Below.refl _ _) rfl
    · obtain rfl := Option.some.inj (show some _ = some oO from ho)
      rw [if_pos (by rfl)]
      have q10 : AC.tmps.getD 10 undef = .bool true := ((hf.dep ⟨5, .data⟩ (by simp) rfl).2 10 rfl).trans (hf.dep ⟨5, .data⟩ (by simp) rfl).1
      have q15 : AC.tmps.getD 15 undef = .bool true := ((hf.dep ⟨10, .data⟩ (by simp) rfl).2 15 rfl).trans (hf.dep ⟨10, .data⟩ (by simp) rfl).1
      go_simp
      exact hK _ _ (Below.refl _ _) rfl
    · obtain rfl := Option.some.inj (show some _ = some oO from ho)
      rw [if_pos (by rfl)]
      have q16 : AC.tmps.getD 16 undef = .bool true := ((hf.dep ⟨11, .data⟩ (by simp) rfl).2 16 rfl).trans (hf.dep ⟨11, .data⟩ (by simp) rfl).1
      go_simp
      exact hK _ _ (Below.refl _ _) rfl
    · obtain rfl := Option.some.inj (show some _ = some oO from ho)
      rw [if_pos (wanted_yes (s := 17) rfl rfl rfl (by rw [hf.size]; simp) (((hf.dep ⟨12, .guard⟩ (by simp) rfl).2 17 rfl).trans (hf.dep ⟨12, .guard⟩ (by simp) rfl).1))]
      have q2 : AC.tmps.getD 2 undef = .pointer (some ⟨ga, 0, none⟩) := hf.rest 2 (by kernel_rfl)
      go_simp
      exact hK _ _ (Below.refl _ _) rfl
    · obtain rfl := Option.some.inj (show some _ = some oO from ho)
      rw [if_pos (wanted_yes (s := 17) rfl rfl rfl (by rw [hf.size]; simp) (((hf.dep ⟨12, .guard⟩ (by simp) rfl).2 17 rfl).trans (hf.dep ⟨12, .guard⟩ (by simp) rfl).1))]
      have q18 : AC.tmps.getD 18 undef = .pointer (some ⟨ga, 2, none⟩) := ((hf.dep ⟨13, .data⟩ (by simp) rfl).2 18 rfl).trans (hf.dep ⟨13, .data⟩ (by simp) rfl).1
      have hG := HA0.out.keeps hbw
      have z2 := hG.cell 2 _ rfl
      go_simp
      exact hK _ _ (Below.refl _ _) rfl
    · obtain rfl := Option.some.inj (show some _ = some oO from ho)
      rw [if_pos (wanted_yes (s := 17) rfl rfl rfl (by rw [hf.size]; simp) (((hf.dep ⟨12, .guard⟩ (by simp) rfl).2 17 rfl).trans (hf.dep ⟨12, .guard⟩ (by simp) rfl).1))]
      have q3 : AC.tmps.getD 3 undef = .pointer (some ⟨gb, 0, none⟩) := hf.rest 3 (by kernel_rfl)
      go_simp
      exact hK _ _ (Below.refl _ _) rfl
    · obtain rfl := Option.some.inj (show some _ = some oO from ho)
      rw [if_pos (wanted_yes (s := 17) rfl rfl rfl (by rw [hf.size]; simp) (((hf.dep ⟨12, .guard⟩ (by simp) rfl).2 17 rfl).trans (hf.dep ⟨12, .guard⟩ (by simp) rfl).1))]
      have q20 : AC.tmps.getD 20 undef = .pointer (some ⟨gb, 2, none⟩) := ((hf.dep ⟨15, .data⟩ (by simp) rfl).2 20 rfl).trans (hf.dep ⟨15, .data⟩ (by simp) rfl).1
      have hG := HB_0.out.keeps hbw
      have z2 := hG.cell 2 _ rfl
      go_simp
      exact hK _ _ (Below.refl _ _) rfl
    · obtain rfl := Option.some.inj (show some _ = some oO from ho)
      rw [if_pos (wanted_yes (s := 17) rfl rfl rfl (by rw [hf.size]; simp) (((hf.dep ⟨12, .guard⟩ (by simp) rfl).2 17 rfl).trans (hf.dep ⟨12, .guard⟩ (by simp) rfl).1))]
      have q19 : AC.tmps.getD 19 undef = .int .i64 a := ((hf.dep ⟨14, .data⟩ (by simp) rfl).2 19 rfl).trans (hf.dep ⟨14, .data⟩ (by simp) rfl).1
      have q21 : AC.tmps.getD 21 undef = .int .i64 a := ((hf.dep ⟨16, .data⟩ (by simp) rfl).2 21 rfl).trans (hf.dep ⟨16, .data⟩ (by simp) rfl).1
      go_simp
      exact hK _ _ (Below.refl _ _) rfl
    · obtain rfl := Option.some.inj (show some _ = some oO from ho)
      rw [if_pos (by rfl)]
      have q17 : AC.tmps.getD 17 undef = .bool true := ((hf.dep ⟨12, .data⟩ (by simp) rfl).2 17 rfl).trans (hf.dep ⟨12, .data⟩ (by simp) rfl).1
      have q22 : AC.tmps.getD 22 undef = .bool true := ((hf.dep ⟨17, .data⟩ (by simp) rfl).2 22 rfl).trans (hf.dep ⟨17, .data⟩ (by simp) rfl).1
      go_simp
      exact hK _ _ (Below.refl _ _) rfl
    · obtain rfl := Option.some.inj (show some _ = some oO from ho)
      rw [if_pos (by rfl)]
      have q23 : AC.tmps.getD 23 undef = .bool true := ((hf.dep ⟨18, .data⟩ (by simp) rfl).2 23 rfl).trans (hf.dep ⟨18, .data⟩ (by simp) rfl).1
      go_simp
      exact hK _ _ (Below.refl _ _) rfl
    · obtain rfl := Option.some.inj (show some _ = some oO from ho)
      rw [if_pos (wanted_yes (s := 24) rfl rfl rfl (by rw [hf.size]; simp) (((hf.dep ⟨19, .guard⟩ (by simp) rfl).2 24 rfl).trans (hf.dep ⟨19, .guard⟩ (by simp) rfl).1))]
      have q2 : AC.tmps.getD 2 undef = .pointer (some ⟨ga, 0, none⟩) := hf.rest 2 (by kernel_rfl)
      go_simp
      exact hK _ _ (Below.refl _ _) rfl
    · obtain rfl := Option.some.inj (show some _ = some oO from ho)
      rw [if_pos (wanted_yes (s := 24) rfl rfl rfl (by rw [hf.size]; simp) (((hf.dep ⟨19, .guard⟩ (by simp) rfl).2 24 rfl).trans (hf.dep ⟨19, .guard⟩ (by simp) rfl).1))]
      have q25 : AC.tmps.getD 25 undef = .pointer (some ⟨ga, 3, none⟩) := ((hf.dep ⟨20, .data⟩ (by simp) rfl).2 25 rfl).trans (hf.dep ⟨20, .data⟩ (by simp) rfl).1
      have hG := HA0.out.keeps hbw
      have z3 := hG.cell 3 _ rfl
      go_simp
      exact hK _ _ (Below.refl _ _) rfl
    · obtain rfl := Option.some.inj (show some _ = some oO from ho)
      rw [if_pos (wanted_yes (s := 24) rfl rfl rfl (by rw [hf.size]; simp) (((hf.dep ⟨19, .guard⟩ (by simp) rfl).2 24 rfl).trans (hf.dep ⟨19, .guard⟩ (by simp) rfl).1))]
      have q3 : AC.tmps.getD 3 undef = .pointer (some ⟨gb, 0, none⟩) := hf.rest 3 (by kernel_rfl)
      go_simp
      exact hK _ _ (Below.refl _ _) rfl
    · obtain rfl := Option.some.inj (show some _ = some oO from ho)
      rw [if_pos (wanted_yes (s := 24) rfl rfl rfl (by rw [hf.size]; simp) (((hf.dep ⟨19, .guard⟩ (by simp) rfl).2 24 rfl).trans (hf.dep ⟨19, .guard⟩ (by simp) rfl).1))]
      have q27 : AC.tmps.getD 27 undef = .pointer (some ⟨gb, 3, none⟩) := ((hf.dep ⟨22, .data⟩ (by simp) rfl).2 27 rfl).trans (hf.dep ⟨22, .data⟩ (by simp) rfl).1
      have hG := HB_0.out.keeps hbw
      have z3 := hG.cell 3 _ rfl
      go_simp
      exact hK _ _ (Below.refl _ _) rfl
    · obtain rfl := Option.some.inj (show some _ = some oO from ho)
      rw [if_pos (wanted_yes (s := 24) rfl rfl rfl (by rw [hf.size]; simp) (((hf.dep ⟨19, .guard⟩ (by simp) rfl).2 24 rfl).trans (hf.dep ⟨19, .guard⟩ (by simp) rfl).1))]
      have q26 : AC.tmps.getD 26 undef = .int .i64 b := ((hf.dep ⟨21, .data⟩ (by simp) rfl).2 26 rfl).trans (hf.dep ⟨21, .data⟩ (by simp) rfl).1
      have q28 : AC.tmps.getD 28 undef = .int .i64 b := ((hf.dep ⟨23, .data⟩ (by simp) rfl).2 28 rfl).trans (hf.dep ⟨23, .data⟩ (by simp) rfl).1
      go_simp
      exact hK _ _ (Below.refl _ _) rfl
    · obtain rfl := Option.some.inj (show some _ = some oO from ho)
      rw [if_pos (by rfl)]
      have q24 : AC.tmps.getD 24 undef = .bool true := ((hf.dep ⟨19, .data⟩ (by simp) rfl).2 24 rfl).trans (hf.dep ⟨19, .data⟩ (by simp) rfl).1
      have q29 : AC.tmps.getD 29 undef = .bool true := ((hf.dep ⟨24, .data⟩ (by simp) rfl).2 29 rfl).trans (hf.dep ⟨24, .data⟩ (by simp) rfl).1
      go_simp
      exact hK _ _ (Below.refl _ _) rfl
    · obtain rfl := Option.some.inj (show some _ = some oO from ho)
      rw [if_pos (by rfl)]
      have q30 : AC.tmps.getD 30 undef = .bool true := ((hf.dep ⟨25, .data⟩ (by simp) rfl).2 30 rfl).trans (hf.dep ⟨25, .data⟩ (by simp) rfl).1
      go_simp
      exact hK _ _ (Below.refl _ _) rfl
    · obtain rfl := Option.some.inj (show some _ = some oO from ho)
      rw [if_pos (wanted_yes (s := 31) rfl rfl rfl (by rw [hf.size]; simp) (((hf.dep ⟨26, .guard⟩ (by simp) rfl).2 31 rfl).trans (hf.dep ⟨26, .guard⟩ (by simp) rfl).1))]
      have q2 : AC.tmps.getD 2 undef = .pointer (some ⟨ga, 0, none⟩) := hf.rest 2 (by kernel_rfl)
      go_simp
      exact hK _ _ (Below.refl _ _) rfl
    · obtain rfl := Option.some.inj (show some _ = some oO from ho)
      rw [if_pos (wanted_yes (s := 31) rfl rfl rfl (by rw [hf.size]; simp) (((hf.dep ⟨26, .guard⟩ (by simp) rfl).2 31 rfl).trans (hf.dep ⟨26, .guard⟩ (by simp) rfl).1))]
      have q32 : AC.tmps.getD 32 undef = .pointer (some ⟨ga, 4, none⟩) := ((hf.dep ⟨27, .data⟩ (by simp) rfl).2 32 rfl).trans (hf.dep ⟨27, .data⟩ (by simp) rfl).1
      have hG := HA0.out.keeps hbw
      have z4 := hG.cell 4 _ rfl
      go_simp
      exact hK _ _ (Below.refl _ _) rfl
    · obtain rfl := Option.some.inj (show some _ = some oO from ho)
      rw [if_pos (wanted_yes (s := 31) rfl rfl rfl (by rw [hf.size]; simp) (((hf.dep ⟨26, .guard⟩ (by simp) rfl).2 31 rfl).trans (hf.dep ⟨26, .guard⟩ (by simp) rfl).1))]
      have q3 : AC.tmps.getD 3 undef = .pointer (some ⟨gb, 0, none⟩) := hf.rest 3 (by kernel_rfl)
      go_simp
      exact hK _ _ (Below.refl _ _) rfl
    · obtain rfl := Option.some.inj (show some _ = some oO from ho)
      rw [if_pos (wanted_yes (s := 31) rfl rfl rfl (by rw [hf.size]; simp) (((hf.dep ⟨26, .guard⟩ (by simp) rfl).2 31 rfl).trans (hf.dep ⟨26, .guard⟩ (by simp) rfl).1))]
      have q34 : AC.tmps.getD 34 undef = .pointer (some ⟨gb, 4, none⟩) := ((hf.dep ⟨29, .data⟩ (by simp) rfl).2 34 rfl).trans (hf.dep ⟨29, .data⟩ (by simp) rfl).1
      have hG := HB_0.out.keeps hbw
      have z4 := hG.cell 4 _ rfl
      go_simp
      exact hK _ _ (Below.refl _ _) rfl
    · obtain rfl := Option.some.inj (show some _ = some oO from ho)
      rw [if_pos (wanted_yes (s := 31) rfl rfl rfl (by rw [hf.size]; simp) (((hf.dep ⟨26, .guard⟩ (by simp) rfl).2 31 rfl).trans (hf.dep ⟨26, .guard⟩ (by simp) rfl).1))]
      have q33 : AC.tmps.getD 33 undef = .int .i64 n := ((hf.dep ⟨28, .data⟩ (by simp) rfl).2 33 rfl).trans (hf.dep ⟨28, .data⟩ (by simp) rfl).1
      have q35 : AC.tmps.getD 35 undef = .int .i64 n := ((hf.dep ⟨30, .data⟩ (by simp) rfl).2 35 rfl).trans (hf.dep ⟨30, .data⟩ (by simp) rfl).1
      go_simp
      exact hK _ _ (Below.refl _ _) rfl
    · obtain rfl := Option.some.inj (show some _ = some oO from ho)
      rw [if_pos (by rfl)]
      have q31 : AC.tmps.getD 31 undef = .bool true := ((hf.dep ⟨26, .data⟩ (by simp) rfl).2 31 rfl).trans (hf.dep ⟨26, .data⟩ (by simp) rfl).1
      have q36 : AC.tmps.getD 36 undef = .bool true := ((hf.dep ⟨31, .data⟩ (by simp) rfl).2 36 rfl).trans (hf.dep ⟨31, .data⟩ (by simp) rfl).1
      go_simp
      exact hK _ _ (Below.refl _ _) rfl
    · obtain rfl := Option.some.inj (show some _ = some oO from ho)
      rw [if_pos (by rfl)]
      have q37 : AC.tmps.getD 37 undef = .bool true := ((hf.dep ⟨32, .data⟩ (by simp) rfl).2 37 rfl).trans (hf.dep ⟨32, .data⟩ (by simp) rfl).1
      go_simp
      exact hK _ _ (Below.refl _ _) rfl
    · obtain rfl := Option.some.inj (show some _ = some oO from ho)
      rw [if_pos (wanted_yes (s := 38) rfl rfl rfl (by rw [hf.size]; simp) (((hf.dep ⟨33, .guard⟩ (by simp) rfl).2 38 rfl).trans (hf.dep ⟨33, .guard⟩ (by simp) rfl).1))]
      have q2 : AC.tmps.getD 2 undef = .pointer (some ⟨ga, 0, none⟩) := hf.rest 2 (by kernel_rfl)
      go_simp
      exact hK _ _ (Below.refl _ _) rfl
    · obtain rfl := Option.some.inj (show some _ = some oO from ho)
      rw [if_pos (wanted_yes (s := 38) rfl rfl rfl (by rw [hf.size]; simp) (((hf.dep ⟨33, .guard⟩ (by simp) rfl).2 38 rfl).trans (hf.dep ⟨33, .guard⟩ (by simp) rfl).1))]
      have q39 : AC.tmps.getD 39 undef = .pointer (some ⟨ga, 5, none⟩) := ((hf.dep ⟨34, .data⟩ (by simp) rfl).2 39 rfl).trans (hf.dep ⟨34, .data⟩ (by simp) rfl).1
      have hG := HA0.out.keeps hbw
      have z5 := hG.cell 5 _ rfl
      go_simp
      exact hK _ _ (Below.refl _ _) rfl
    · obtain rfl := Option.some.inj (show some _ = some oO from ho)
      rw [if_pos (wanted_yes (s := 38) rfl rfl rfl (by rw [hf.size]; simp) (((hf.dep ⟨33, .guard⟩ (by simp) rfl).2 38 rfl).trans (hf.dep ⟨33, .guard⟩ (by simp) rfl).1))]
      have q3 : AC.tmps.getD 3 undef = .pointer (some ⟨gb, 0, none⟩) := hf.rest 3 (by kernel_rfl)
      go_simp
      exact hK _ _ (Below.refl _ _) rfl
    · obtain rfl := Option.some.inj (show some _ = some oO from ho)
      rw [if_pos (wanted_yes (s := 38) rfl rfl rfl (by rw [hf.size]; simp) (((hf.dep ⟨33, .guard⟩ (by simp) rfl).2 38 rfl).trans (hf.dep ⟨33, .guard⟩ (by simp) rfl).1))]
      have q41 : AC.tmps.getD 41 undef = .pointer (some ⟨gb, 5, none⟩) := ((hf.dep ⟨36, .data⟩ (by simp) rfl).2 41 rfl).trans (hf.dep ⟨36, .data⟩ (by simp) rfl).1
      have hG := HB_0.out.keeps hbw
      have z5 := hG.cell 5 _ rfl
      go_simp
      exact hK _ _ (Below.refl _ _) rfl
    · obtain rfl := Option.some.inj (show some _ = some oO from ho)
      rw [if_pos (wanted_yes (s := 38) rfl rfl rfl (by rw [hf.size]; simp) (((hf.dep ⟨33, .guard⟩ (by simp) rfl).2 38 rfl).trans (hf.dep ⟨33, .guard⟩ (by simp) rfl).1))]
      have q40 : AC.tmps.getD 40 undef = .int .i64 p := ((hf.dep ⟨35, .data⟩ (by simp) rfl).2 40 rfl).trans (hf.dep ⟨35, .data⟩ (by simp) rfl).1
      have q42 : AC.tmps.getD 42 undef = .int .i64 p' := ((hf.dep ⟨37, .data⟩ (by simp) rfl).2 42 rfl).trans (hf.dep ⟨37, .data⟩ (by simp) rfl).1
      go_simp
      exact hK _ _ (Below.refl _ _) rfl
    · obtain rfl := Option.some.inj (show some _ = some oO from ho)
      rw [if_pos (by rfl)]
      have q38 : AC.tmps.getD 38 undef = .bool true := ((hf.dep ⟨33, .data⟩ (by simp) rfl).2 38 rfl).trans (hf.dep ⟨33, .data⟩ (by simp) rfl).1
      have q43 : AC.tmps.getD 43 undef = .bool false := ((hf.dep ⟨38, .data⟩ (by simp) rfl).2 43 rfl).trans (hf.dep ⟨38, .data⟩ (by simp) rfl).1
      go_simp
      exact hK _ _ (Below.refl _ _) rfl
    · obtain rfl := Option.some.inj (show some _ = some oO from ho)
      rw [if_pos (by rfl)]
      have q44 : AC.tmps.getD 44 undef = .bool false := ((hf.dep ⟨39, .data⟩ (by simp) rfl).2 44 rfl).trans (hf.dep ⟨39, .data⟩ (by simp) rfl).1
      go_simp
      exact hK _ _ (Below.refl _ _) rfl
    · obtain rfl := Option.some.inj (show some _ = some oO from ho)
      rw [if_neg (wanted_no (s := 45) rfl rfl rfl (by rw [hf.size]; simp) (((hf.dep ⟨40, .guard⟩ (by simp) rfl).2 45 rfl).trans (hf.dep ⟨40, .guard⟩ (by simp) rfl).1) rfl)]
      exact hK _ _ (Below.refl _ _) rfl
    · obtain rfl := Option.some.inj (show some _ = some oO from ho)
      rw [if_neg (wanted_no (s := 45) rfl rfl rfl (by rw [hf.size]; simp) (((hf.dep ⟨40, .guard⟩ (by simp) rfl).2 45 rfl).trans (hf.dep ⟨40, .guard⟩ (by simp) rfl).1) rfl)]
      exact hK _ _ (Below.refl _ _) rfl
    · obtain rfl := Option.some.inj (show some _ = some oO from ho)
      rw [if_neg (wanted_no (s := 45) rfl rfl rfl (by rw [hf.size]; simp) (((hf.dep ⟨40, .guard⟩ (by simp) rfl).2 45 rfl).trans (hf.dep ⟨40, .guard⟩ (by simp) rfl).1) rfl)]
      exact hK _ _ (Below.refl _ _) rfl
    · obtain rfl := Option.some.inj (show some _ = some oO from ho)
      rw [if_neg (wanted_no (s := 45) rfl rfl rfl (by rw [hf.size]; simp) (((hf.dep ⟨40, .guard⟩ (by simp) rfl).2 45 rfl).trans (hf.dep ⟨40, .guard⟩ (by simp) rfl).1) rfl)]
      exact hK _ _ (Below.refl _ _) rfl
    · obtain rfl := Option.some.inj (show some _ = some oO from ho)
      rw [if_neg (wanted_no (s := 45) rfl rfl rfl (by rw [hf.size]; simp) (((hf.dep ⟨40, .guard⟩ (by simp) rfl).2 45 rfl).trans (hf.dep ⟨40, .guard⟩ (by simp) rfl).1) rfl)]
      exact hK _ _ (Below.refl _ _) rfl
    · obtain rfl := Option.some.inj (show some _ = some oO from ho)
      rw [if_pos (by rfl)]
      have q45 : AC.tmps.getD 45 undef = .bool false := ((hf.dep ⟨40, .data⟩ (by simp) rfl).2 45 rfl).trans (hf.dep ⟨40, .data⟩ (by simp) rfl).1
      have q50 : AC.tmps.getD 50 undef = undef := ((hf.dep ⟨45, .data⟩ (by simp) rfl).2 50 rfl).trans (hf.dep ⟨45, .data⟩ (by simp) rfl).1
      go_simp
      exact hK _ _ (Below.refl _ _) rfl
    · obtain rfl := Option.some.inj (show some _ = some oO from ho)
      rw [if_pos (by rfl)]
      have q51 : AC.tmps.getD 51 undef = .bool false := ((hf.dep ⟨46, .data⟩ (by simp) rfl).2 51 rfl).trans (hf.dep ⟨46, .data⟩ (by simp) rfl).1
      go_simp
      exact hK _ _ (Below.refl _ _) rfl
    · obtain rfl := Option.some.inj (show some _ = some oO from ho)
      rw [if_neg (wanted_no (s := 52) rfl rfl rfl (by rw [hf.size]; simp) (((hf.dep ⟨47, .guard⟩ (by simp) rfl).2 52 rfl).trans (hf.dep ⟨47, .guard⟩ (by simp) rfl).1) rfl)]
      exact hK _ _ (Below.refl _ _) rfl
    · obtain rfl := Option.some.inj (show some _ = some oO from ho)
      rw [if_neg (wanted_no (s := 52) rfl rfl rfl (by rw [hf.size]; simp) (((hf.dep ⟨47, .guard⟩ (by simp) rfl).2 52 rfl).trans (hf.dep ⟨47, .guard⟩ (by simp) rfl).1) rfl)]
      exact hK _ _ (Below.refl _ _) rfl
    · obtain rfl := Option.some.inj (show some _ = some oO from ho)
      rw [if_neg (wanted_no (s := 52) rfl rfl rfl (by rw [hf.size]; simp) (((hf.dep ⟨47, .guard⟩ (by simp) rfl).2 52 rfl).trans (hf.dep ⟨47, .guard⟩ (by simp) rfl).1) rfl)]
      exact hK _ _ (Below.refl _ _) rfl
    · obtain rfl := Option.some.inj (show some _ = some oO from ho)
      rw [if_neg (wanted_no (s := 52) rfl rfl rfl (by rw [hf.size]; simp) (((hf.dep ⟨47, .guard⟩ (by simp) rfl).2 52 rfl).trans (hf.dep ⟨47, .guard⟩ (by simp) rfl).1) rfl)]
      exact hK _ _ (Below.refl _ _) rfl
    · obtain rfl := Option.some.inj (show some _ = some oO from ho)
      rw [if_neg (wanted_no (s := 52) rfl rfl rfl (by rw [hf.size]; simp) (((hf.dep ⟨47, .guard⟩ (by simp) rfl).2 52 rfl).trans (hf.dep ⟨47, .guard⟩ (by simp) rfl).1) rfl)]
      exact hK _ _ (Below.refl _ _) rfl
    · obtain rfl := Option.some.inj (show some _ = some oO from ho)
      rw [if_neg (wanted_no (s := 52) rfl rfl rfl (by rw [hf.size]; simp) (((hf.dep ⟨47, .guard⟩ (by simp) rfl).2 52 rfl).trans (hf.dep ⟨47, .guard⟩ (by simp) rfl).1) rfl)]
      exact hK _ _ (Below.refl _ _) rfl
    · obtain rfl := Option.some.inj (show some _ = some oO from ho)
      rw [if_neg (wanted_no (s := 52) rfl rfl rfl (by rw [hf.size]; simp) (((hf.dep ⟨47, .guard⟩ (by simp) rfl).2 52 rfl).trans (hf.dep ⟨47, .guard⟩ (by simp) rfl).1) rfl)]
      exact hK _ _ (Below.refl _ _) rfl
    · obtain rfl := Option.some.inj (show some _ = some oO from ho)
      rw [if_pos (by rfl)]
      have q52 : AC.tmps.getD 52 undef = .bool false := ((hf.dep ⟨47, .data⟩ (by simp) rfl).2 52 rfl).trans (hf.dep ⟨47, .data⟩ (by simp) rfl).1
      have q59 : AC.tmps.getD 59 undef = undef := ((hf.dep ⟨54, .data⟩ (by simp) rfl).2 59 rfl).trans (hf.dep ⟨54, .data⟩ (by simp) rfl).1
      go_simp
      exact hK _ _ (Below.refl _ _) rfl
    · obtain rfl := Option.some.inj (show some _ = some oO from ho)
      rw [if_pos (by rfl)]
      have q60 : AC.tmps.getD 60 undef = .bool false := ((hf.dep ⟨55, .data⟩ (by simp) rfl).2 60 rfl).trans (hf.dep ⟨55, .data⟩ (by simp) rfl).1
      go_simp
      exact hK _ _ (Below.refl _ _) rfl
    · obtain rfl := Option.some.inj (show some _ = some oO from ho)
      rw [if_neg (wanted_no (s := 61) rfl rfl rfl (by rw [hf.size]; simp) (((hf.dep ⟨56, .guard⟩ (by simp) rfl).2 61 rfl).trans (hf.dep ⟨56, .guard⟩ (by simp) rfl).1) rfl)]
      exact hK _ _ (Below.refl _ _) rfl
    · obtain rfl := Option.some.inj (show some _ = some oO from ho)
      rw [if_neg (wanted_no (s := 61) rfl rfl rfl (by rw [hf.size]; simp) (((hf.dep ⟨56, .guard⟩ (by simp) rfl).2 61 rfl).trans (hf.dep ⟨56, .guard⟩ (by simp) rfl).1) rfl)]
      exact hK _ _ (Below.refl _ _) rfl
    · obtain rfl := Option.some.inj (show some _ = some oO from ho)
      rw [if_neg (wanted_no (s := 61) rfl rfl rfl (by rw [hf.size]; simp) (((hf.dep ⟨56, .guard⟩ (by simp) rfl).2 61 rfl).trans (hf.dep ⟨56, .guard⟩ (by simp) rfl).1) rfl)]
      exact hK _ _ (Below.refl _ _) rfl
    · obtain rfl := Option.some.inj (show some _ = some oO from ho)
      rw [if_neg (wanted_no (s := 61) rfl rfl rfl (by rw [hf.size]; simp) (((hf.dep ⟨56, .guard⟩ (by simp) rfl).2 61 rfl).trans (hf.dep ⟨56, .guard⟩ (by simp) rfl).1) rfl)]
      exact hK _ _ (Below.refl _ _) rfl
    · obtain rfl := Option.some.inj (show some _ = some oO from ho)
      rw [if_neg (wanted_no (s := 61) rfl rfl rfl (by rw [hf.size]; simp) (((hf.dep ⟨56, .guard⟩ (by simp) rfl).2 61 rfl).trans (hf.dep ⟨56, .guard⟩ (by simp) rfl).1) rfl)]
      exact hK _ _ (Below.refl _ _) rfl
    · obtain rfl := Option.some.inj (show some _ = some oO from ho)
      rw [if_neg (wanted_no (s := 61) rfl rfl rfl (by rw [hf.size]; simp) (((hf.dep ⟨56, .guard⟩ (by simp) rfl).2 61 rfl).trans (hf.dep ⟨56, .guard⟩ (by simp) rfl).1) rfl)]
      exact hK _ _ (Below.refl _ _) rfl
    · obtain rfl := Option.some.inj (show some _ = some oO from ho)
      rw [if_neg (wanted_no (s := 61) rfl rfl rfl (by rw [hf.size]; simp) (((hf.dep ⟨56, .guard⟩ (by simp) rfl).2 61 rfl).trans (hf.dep ⟨56, .guard⟩ (by simp) rfl).1) rfl)]
      exact hK _ _ (Below.refl _ _) rfl
    · obtain rfl := Option.some.inj (show some _ = some oO from ho)
      rw [if_pos (by rfl)]
      have q61 : AC.tmps.getD 61 undef = .bool false := ((hf.dep ⟨56, .data⟩ (by simp) rfl).2 61 rfl).trans (hf.dep ⟨56, .data⟩ (by simp) rfl).1
      have q68 : AC.tmps.getD 68 undef = undef := ((hf.dep ⟨63, .data⟩ (by simp) rfl).2 68 rfl).trans (hf.dep ⟨63, .data⟩ (by simp) rfl).1
      go_simp
      exact hK _ _ (Below.refl _ _) rfl
    · obtain rfl := Option.some.inj (show some _ = some oO from ho)
      rw [if_pos (by rfl)]
      have q69 : AC.tmps.getD 69 undef = .bool false := ((hf.dep ⟨64, .data⟩ (by simp) rfl).2 69 rfl).trans (hf.dep ⟨64, .data⟩ (by simp) rfl).1
      go_simp
      exact hK _ _ (Below.refl _ _) rfl
    · omega
  · intro V WW hall hbw hBW
    have vv0 : V 0 = .pointer (some ⟨ga, 0, none⟩) := hall 0 (by decide)
    have vv1 : V 1 = .int .i64 k := hall 1 (by decide)
    have vv2 : V 2 = .pointer (some ⟨gb, 0, none⟩) := hall 2 (by decide)
    have vv3 : V 3 = .int .i64 k := hall 3 (by decide)
    have vv4 : V 4 = .bool true := hall 4 (by decide)
    have vv5 : V 5 = .bool true := hall 5 (by decide)
    have vv6 : V 6 = .pointer (some ⟨ga, 1, none⟩) := hall 6 (by decide)
    have vv7 : V 7 = .int .i64 lo := hall 7 (by decide)
    have vv8 : V 8 = .pointer (some ⟨gb, 1, none⟩) := hall 8 (by decide)
    have vv9 : V 9 = .int .i64 lo := hall 9 (by decide)
    have vv10 : V 10 = .bool true := hall 10 (by decide)
    have vv11 : V 11 = .bool true := hall 11 (by decide)
    have vv12 : V 12 = .bool true := hall 12 (by decide)
    have vv13 : V 13 = .pointer (some ⟨ga, 2, none⟩) := hall 13 (by decide)
    have vv14 : V 14 = .int .i64 a := hall 14 (by decide)
    have vv15 : V 15 = .pointer (some ⟨gb, 2, none⟩) := hall 15 (by decide)
    have vv16 : V 16 = .int .i64 a := hall 16 (by decide)
    have vv17 : V 17 = .bool true := hall 17 (by decide)
    have vv18 : V 18 = .bool true := hall 18 (by decide)
    have vv19 : V 19 = .bool true := hall 19 (by decide)
    have vv20 : V 20 = .pointer (some ⟨ga, 3, none⟩) := hall 20 (by decide)
    have vv21 : V 21 = .int .i64 b := hall 21 (by decide)
    have vv22 : V 22 = .pointer (some ⟨gb, 3, none⟩) := hall 22 (by decide)
    have vv23 : V 23 = .int .i64 b := hall 23 (by decide)
    have vv24 : V 24 = .bool true := hall 24 (by decide)
    have vv25 : V 25 = .bool true := hall 25 (by decide)
    have vv26 : V 26 = .bool true := hall 26 (by decide)
    have vv27 : V 27 = .pointer (some ⟨ga, 4, none⟩) := hall 27 (by decide)
    have vv28 : V 28 = .int .i64 n := hall 28 (by decide)
    have vv29 : V 29 = .pointer (some ⟨gb, 4, none⟩) := hall 29 (by decide)
    have vv30 : V 30 = .int .i64 n := hall 30 (by decide)
    have vv31 : V 31 = .bool true := hall 31 (by decide)
    have vv32 : V 32 = .bool true := hall 32 (by decide)
    have vv33 : V 33 = .bool true := hall 33 (by decide)
    have vv34 : V 34 = .pointer (some ⟨ga, 5, none⟩) := hall 34 (by decide)
    have vv35 : V 35 = .int .i64 p := hall 35 (by decide)
    have vv36 : V 36 = .pointer (some ⟨gb, 5, none⟩) := hall 36 (by decide)
    have vv37 : V 37 = .int .i64 p' := hall 37 (by decide)
    have vv38 : V 38 = .bool false := hall 38 (by decide)
    have vv39 : V 39 = .bool false := hall 39 (by decide)
    have vv40 : V 40 = .bool false := hall 40 (by decide)
    have vv41 : V 41 = undef := hall 41 (by decide)
    have vv42 : V 42 = undef := hall 42 (by decide)
    have vv43 : V 43 = undef := hall 43 (by decide)
    have vv44 : V 44 = undef := hall 44 (by decide)
    have vv45 : V 45 = undef := hall 45 (by decide)
    have vv46 : V 46 = .bool false := hall 46 (by decide)
    have vv47 : V 47 = .bool false := hall 47 (by decide)
    have vv48 : V 48 = undef := hall 48 (by decide)
    have vv49 : V 49 = undef := hall 49 (by decide)
    have vv50 : V 50 = undef := hall 50 (by decide)
    have vv51 : V 51 = undef := hall 51 (by decide)
    have vv52 : V 52 = undef := hall 52 (by decide)
    have vv53 : V 53 = undef := hall 53 (by decide)
    have vv54 : V 54 = undef := hall 54 (by decide)
    have vv55 : V 55 = .bool false := hall 55 (by decide)
    have vv56 : V 56 = .bool false := hall 56 (by decide)
    have vv57 : V 57 = undef := hall 57 (by decide)
    have vv58 : V 58 = undef := hall 58 (by decide)
    have vv59 : V 59 = undef := hall 59 (by decide)
    have vv60 : V 60 = undef := hall 60 (by decide)
    have vv61 : V 61 = undef := hall 61 (by decide)
    have vv62 : V 62 = undef := hall 62 (by decide)
    have vv63 : V 63 = undef := hall 63 (by decide)
    have vv64 : V 64 = .bool false := hall 64 (by decide)
    have vv65 : V 65 = .bool false := hall 65 (by decide)
    clear hall
    simp only [pairsOf, laid, Nat.zero_add, Nat.reduceAdd, vv0, vv1, vv2, vv3, vv4, vv5, vv6, vv7, vv8, vv9, vv10, vv11, vv12, vv13, vv14, vv15, vv16, vv17, vv18, vv19, vv20, vv21, vv22, vv23, vv24, vv25, vv26, vv27, vv28, vv29, vv30, vv31, vv32, vv33, vv34, vv35, vv36, vv37, vv38, vv39, vv40, vv41, vv42, vv43, vv44, vv45, vv46, vv47, vv48, vv49, vv50, vv51, vv52, vv53, vv54, vv55, vv56, vv57, vv58, vv59, vv60, vv61, vv62, vv63, vv64, vv65, List.setIfInBounds_toArray, List.set_cons_zero, List.set_cons_succ]
    clear vv0 vv1 vv2 vv3 vv4 vv5 vv6 vv7 vv8 vv9 vv10 vv11 vv12 vv13 vv14 vv15 vv16 vv17 vv18 vv19 vv20 vv21 vv22 vv23 vv24 vv25 vv26 vv27 vv28 vv29 vv30 vv31 vv32 vv33 vv34 vv35 vv36 vv37 vv38 vv39 vv40 vv41 vv42 vv43 vv44 vv45 vv46 vv47 vv48 vv49 vv50 vv51 vv52 vv53 vv54 vv55 vv56 vv57 vv58 vv59 vv60 vv61 vv62 vv63 vv64 vv65
    have HW := Lib.hid hBW
    clear hbw hBW
    go_wp2
    go_ret
    exact ⟨rfl, HW.out⟩
set_option maxHeartbeats 40000000 in
theorem rsame22_l6 (w : World) (ao bo : Option Addr) (cap dap : Nat) (L M : List Int) (k lo a b n p x0 x1 x2 x3 x4 x5 x6 x7 x8 x9 x10 f0 f1 f2 f3 f4 f0' f1' f2' f3' f4' x0' x1' x2' x3' x4' x5' x6' x7' x8' x9' x10' : Int) (ej : ¬ f0 = f0') :
    Calls Try.prog 20 #[.agg #[.int .i64 k, .int .i64 lo, .int .i64 a, .int .i64 b, .int .i64 n, .int .i64 p, .slice ao L.length cap, .int .i64 x0, .int .i64 x1, .int .i64 x2, .int .i64 x3, .int .i64 x4, .int .i64 x5, .int .i64 x6, .int .i64 x7, .int .i64 x8, .int .i64 x9, .int .i64 x10, .int .i64 f0, .int .i64 f1, .int .i64 f2, .int .i64 f3, .int .i64 f4], .agg #[.int .i64 k, .int .i64 lo, .int .i64 a, .int .i64 b, .int .i64 n, .int .i64 p, .slice bo M.length dap, .int .i64 x0', .int .i64 x1', .int .i64 x2', .int .i64 x3', .int .i64 x4', .int .i64 x5', .int .i64 x6', .int .i64 x7', .int .i64 x8', .int .i64 x9', .int .i64 x10', .int .i64 f0', .int .i64 f1', .int .i64 f2', .int .i64 f3', .int .i64 f4']] w fun e w' => e = .returned (.bool false) ∧ Below w.heap.size w w' := by
  have HB0 := Lib.hid (below_new2 w (.cells #[.int .i64 k, .int .i64 lo, .int .i64 a, .int .i64 b, .int .i64 n, .int .i64 p, .slice ao L.length cap, .int .i64 x0, .int .i64 x1, .int .i64 x2, .int .i64 x3, .int .i64 x4, .int .i64 x5, .int .i64 x6, .int .i64 x7, .int .i64 x8, .int .i64 x9, .int .i64 x10, .int .i64 f0, .int .i64 f1, .int .i64 f2, .int .i64 f3, .int .i64 f4] 45) (.cells #[.int .i64 k, .int .i64 lo, .int .i64 a, .int .i64 b, .int .i64 n, .int .i64 p, .slice bo M.length dap, .int .i64 x0', .int .i64 x1', .int .i64 x2', .int .i64 x3', .int .i64 x4', .int .i64 x5', .int .i64 x6', .int .i64 x7', .int .i64 x8', .int .i64 x9', .int .i64 x10', .int .i64 f0', .int .i64 f1', .int .i64 f2', .int .i64 f3', .int .i64 f4'] 45))
  have HA0 := Lib.hid ((Blk.new w 45 [.int .i64 k, .int .i64 lo, .int .i64 a, .int .i64 b, .int .i64 n, .int .i64 p, .slice ao L.length cap, .int .i64 x0, .int .i64 x1, .int .i64 x2, .int .i64 x3, .int .i64 x4, .int .i64 x5, .int .i64 x6, .int .i64 x7, .int .i64 x8, .int .i64 x9, .int .i64 x10, .int .i64 f0, .int .i64 f1, .int .i64 f2, .int .i64 f3, .int .i64 f4]).alloc (.cells #[.int .i64 k, .int .i64 lo, .int .i64 a, .int .i64 b, .int .i64 n, .int .i64 p, .slice bo M.length dap, .int .i64 x0', .int .i64 x1', .int .i64 x2', .int .i64 x3', .int .i64 x4', .int .i64 x5', .int .i64 x6', .int .i64 x7', .int .i64 x8', .int .i64 x9', .int .i64 x10', .int .i64 f0', .int .i64 f1', .int .i64 f2', .int .i64 f3', .int .i64 f4'] 45))
  have HB_0 := Lib.hid (Blk.new2 w (.cells #[.int .i64 k, .int .i64 lo, .int .i64 a, .int .i64 b, .int .i64 n, .int .i64 p, .slice ao L.length cap, .int .i64 x0, .int .i64 x1, .int .i64 x2, .int .i64 x3, .int .i64 x4, .int .i64 x5, .int .i64 x6, .int .i64 x7, .int .i64 x8, .int .i64 x9, .int .i64 x10, .int .i64 f0, .int .i64 f1, .int .i64 f2, .int .i64 f3, .int .i64 f4] 45) 45 [.int .i64 k, .int .i64 lo, .int .i64 a, .int .i64 b, .int .i64 n, .int .i64 p, .slice bo M.length dap, .int .i64 x0', .int .i64 x1', .int .i64 x2', .int .i64 x3', .int .i64 x4', .int .i64 x5', .int .i64 x6', .int .i64 x7', .int .i64 x8', .int .i64 x9', .int .i64 x10', .int .i64 f0', .int .i64 f1', .int .i64 f2', .int .i64 f3', .int .i64 f4'])
  have HN1 := Lib.hid (fun U => rnumbers_any U ao cap L x0 x1 x2 x3 x4 x5 x6 x7 x8 x9 x10)
  have HN2 := Lib.hid (fun U => rnumbers_any U bo dap M x0' x1' x2' x3' x4' x5' x6' x7' x8' x9' x10')
  have qq : (f0 == f0') = false := by simpa using ej
  go_enter Try.func20, Try.ntmps20
  go_wp2
  obtain ⟨gb, hgb⟩ : ∃ g, w.heap.size + 1 = g := ⟨_, rfl⟩
  obtain ⟨ga, hga⟩ : ∃ g, w.heap.size = g := ⟨_, rfl⟩
  rw [hga] at HA0
  rw [hgb] at HB_0
  simp only [hgb]
  simp only [hga]
  clear hga hgb
  refine region_mono (by kernel_rfl) (by kernel_rfl) [some 5, some 6, some 7, some 8, some 9, some 10, some 11, some 12, some 13, some 14, some 15, some 16, some 17, some 18, some 19, some 20, some 21, some 22, some 23, some 24, some 25, some 26, some 27, some 28, some 29, some 30, some 31, some 32, some 33, some 34, some 35, some 36, some 37, some 38, some 39, some 40, some 41, some 42, some 43, some 44, some 45, some 46, some 47, some 48, some 49, some 50, some 51, some 52, some 53, some 54, some 55, some 56, some 57, some 58, some 59, some 60, some 61, some 62, some 63, some 64, some 65, some 66, some 67, some 68, some 69, some 4] (by kernel_rfl) w.heap.size w HB0.out (Nat.le_refl _) (fun i v WW => match i with | 0 => v = .pointer (some ⟨ga, 0, none⟩) | 1 => v = .int .i64 k | 2 => v = .pointer (some ⟨gb, 0, none⟩) | 3 => v = .int .i64 k | 4 => v = .bool true | 5 => v = .bool true | 6 => v = .pointer (some ⟨ga, 1, none⟩) | 7 => v = .int .i64 lo | 8 => v = .pointer (some ⟨gb, 1, none⟩) | 9 => v = .int .i64 lo | 10 => v = .bool true | 11 => v = .bool true | 12 => v = .bool true | 13 => v = .pointer (some ⟨ga, 2, none⟩) | 14 => v = .int .i64 a | 15 => v = .pointer (some ⟨gb, 2, none⟩) | 16 => v = .int .i64 a | 17 => v = .bool true | 18 => v = .bool true | 19 => v = .bool true | 20 => v = .pointer (some ⟨ga, 3, none⟩) | 21 => v = .int .i64 b | 22 => v = .pointer (some ⟨gb, 3, none⟩) | 23 => v = .int .i64 b | 24 => v = .bool true | 25 => v = .bool true | 26 => v = .bool true | 27 => v = .pointer (some ⟨ga, 4, none⟩) | 28 => v = .int .i64 n | 29 => v = .pointer (some ⟨gb, 4, none⟩) | 30 => v = .int .i64 n | 31 => v = .bool true | 32 => v = .bool true | 33 => v = .bool true | 34 => v = .pointer (some ⟨ga, 5, none⟩) | 35 => v = .int .i64 p | 36 => v = .pointer (some ⟨gb, 5, none⟩) | 37 => v = .int .i64 p | 38 => v = .bool true | 39 => v = .bool true | 40 => v = .bool true | 41 => v = .pointer (some ⟨ga, 18, none⟩) | 42 => v = .agg #[.int .i64 f0, .int .i64 f1, .int .i64 f2, .int .i64 f3, .int .i64 f4] | 43 => v = .pointer (some ⟨gb, 18, none⟩) | 44 => v = .agg #[.int .i64 f0', .int .i64 f1', .int .i64 f2', .int .i64 f3', .int .i64 f4'] | 45 => v = .bool false | 46 => v = .bool false | 47 => v = .bool false | 48 => v = undef | 49 => v = undef | 50 => v = undef | 51 => v = undef | 52 => v = undef | 53 => v = undef | 54 => v = undef | 55 => v = .bool false | 56 => v = .bool false | 57 => v = undef | 58 => v = undef | 59 => v = undef | 60 => v = undef | 61 => v = undef | 62 => v = undef | 63 => v = undef | 64 => v = .bool false | 65 => v = .bool false | _ => True) ?_ ?_ ?_
  · intro i v WW WX h hbx
    rcases i with _ | _ | _ | _ | _ | _ | _ | _ | _ | _ | _ | _ | _ | _ | _ | _ | _ | _ | _ | _ | _ | _ | _ | _ | _ | _ | _ | _ | _ | _ | _ | _ | _ | _ | _ | _ | _ | _ | _ | _ | _ | _ | _ | _ | _ | _ | _ | _ | _ | _ | _ | _ | _ | _ | _ | _ | _ | _ | _ | _ | _ | _ | _ | _ | _ | _ | i
    · exact h
    · exact h
    · exact h
    · exact h
    · exact h
    · exact h
    · exact h
    · exact h
    · exact h
    · exact h
    · exact h
    · exact h
    · exact h
    · exact h
    · exact h
    · exact h
    · exact h
    · exact h
    · exact h
    · exact h
    · exact h
    · exact h
    · exact h
    · exact h
    · exact h
    · exact h
    · exact h
    · exact h
    · exact h
    · exact h
    · exact h
    · exact h
    · exact h
    · exact h
    · exact h
    · exact h
    · exact h
    · exact h
    · exact h
    · exact h
    · exact h
    · exact h
    · exact h
    · exact h
    · exact h
    · exact h
    · exact h
    · exact h
    · exact h
    · exact h
    · exact h
    · exact h
    · exact h
    · exact h
    · exact h
    · exact h
    · exact h
    · exact h
    · exact h
    · exact h
    · exact h
    · exact h
    · exact h
    · exact h
    · exact h
    · exact h
    · trivial
  · intro iI oO V AC WW ho hf hbw K hK
    have hlt : iI < 66 := by have := (Array.getElem?_eq_some_iff.1 ho).1; first | exact this | simpa using this
    rcases iI with _ | _ | _ | _ | _ | _ | _ | _ | _ | _ | _ | _ | _ | _ | _ | _ | _ | _ | _ | _ | _ | _ | _ | _ | _ | _ | _ | _ | _ | _ | _ | _ | _ | _ | _ | _ | _ | _ | _ | _ | _ | _ | _ | _ | _ | _ | _ | _ | _ | _ | _ | _ | _ | _ | _ | _ | _ | _ | _ | _ | _ | _ | _ | _ | _ | _ | iI
    · obtain rfl := Option.some.inj (show some _ = some oO from ho)
      rw [if_pos (by rfl)]
      have q2 : AC.tmps.getD 2 undef = .pointer (some ⟨ga, 0, none⟩) := hf.rest 2 (by kernel_rfl)
      go_simp
      exact hK _ _ (Below.refl _ _) rfl
    · obtain rfl := Option.some.inj (show some _ = some oO from ho)
      rw [if_pos (by rfl)]
      have q5 : AC.tmps.getD 5 undef = .pointer (some ⟨ga, 0, none⟩) := ((hf.dep ⟨0, .data⟩ (by simp) rfl).2 5 rfl).trans (hf.dep ⟨0, .data⟩ (by simp) rfl).1
      have hG := HA0.out.keeps hbw
      have z0 := hG.cell 0 _ rfl
      go_simp
      exact hK _ _ (Below.refl _ _) rfl
    · obtain rfl := Option.some.inj (show some _ = some oO from ho)
      rw [if_pos (by rfl)]
      have q3 : AC.tmps.getD 3 undef = .pointer (some ⟨gb, 0, none⟩) := hf.rest 3 (by kernel_rfl)
      go_simp
      exact hK _ _ (Below.refl _ _) rfl
    · obtain rfl := Option.some.inj (show some _ = some oO from ho)
      rw [if_pos (by rfl)]
      have q7 : AC.tmps.getD 7 undef = .pointer (some ⟨gb, 0, none⟩) := ((hf.dep ⟨2, .data⟩ (by simp) rfl).2 7 rfl).trans (hf.dep ⟨2, .data⟩ (by simp) rfl).1
      have hG := HB_0.out.keeps hbw
      have z0 := hG.cell 0 _ rfl
      go_simp
      exact hK _ _ (Below.refl _ _) rfl
    · obtain rfl := Option.some.inj (show some _ = some oO from ho)
      rw [if_pos (by rfl)]
      have q6 : AC.tmps.getD 6 undef = .int .i64 k := ((hf.dep ⟨1, .data⟩ (by simp) rfl).2 6 rfl).trans (hf.dep ⟨1, .data⟩ (by simp) rfl).1
      have q8 : AC.tmps.getD 8 undef = .int .i64 k := ((hf.dep ⟨3, .data⟩ (by simp) rfl).2 8 rfl).trans (hf.dep ⟨3, .data⟩ (by simp) rfl).1
      go_simp
      exact hK _ _ (Below.refl _ _) rfl
    · obtain rfl := Option.some.inj (show some _ = some oO from ho)
      rw [if_pos (by rfl)]
      have q9 : AC.tmps.getD 9 undef = .bool true := ((hf.dep ⟨4, .data⟩ (by simp) rfl).2 9 rfl).trans (hf.dep ⟨4, .data⟩ (by simp) rfl).1
      go_simp
      exact hK _ _ (Below.refl _ _) rfl
    · obtain rfl := Option.some.inj (show some _ = some oO from ho)
      rw [if_pos (wanted_yes (s := 10) rfl rfl rfl (by rw [hf.size]; simp) (((hf.dep ⟨5, .guard⟩ (by simp) rfl).2 10 rfl).trans (hf.dep ⟨5, .guard⟩ (by simp) rfl).1))]
      have q2 : AC.tmps.getD 2 undef = .pointer (some ⟨ga, 0, none⟩) := hf.rest 2 (by kernel_rfl)
      go_simp
      exact hK _ _ (Below.refl _ _) rfl
    · obtain rfl := Option.some.inj (show some _ = some oO from ho)
      rw [if_pos (wanted_yes (s := 10) rfl rfl rfl (by rw [hf.size]; simp) (((hf.dep ⟨5, .guard⟩ (by simp) rfl).2 10 rfl).trans (hf.dep ⟨5, .guard⟩ (by simp) rfl).1))]
      have q11 : AC.tmps.getD 11 undef = .pointer (some ⟨ga, 1, none⟩) := ((hf.dep ⟨6, .data⟩ (by simp) rfl).2 11 rfl).trans (hf.dep ⟨6, .data⟩ (by simp) rfl).1
      have hG := HA0.out.keeps hbw
      have z1 := hG.cell 1 _ rfl
      go_simp
      exact hK _ _ (Below.refl _ _) rfl
    · obtain rfl := Option.some.inj (show some _ = some oO from ho)
      rw [if_pos (wanted_yes (s := 10) rfl rfl rfl (by rw [hf.size]; simp) (((hf.dep ⟨5, .guard⟩ (by simp) rfl).2 10 rfl).trans (hf.dep ⟨5, .guard⟩ (by simp) rfl).1))]
      have q3 : AC.tmps.getD 3 undef = .pointer (some ⟨gb, 0, none⟩) := hf.rest 3 (by kernel_rfl)
      go_simp
      exact hK _ _ (Below.refl _ _) rfl
    · obtain rfl := Option.some.inj (show some _ = some oO from ho)
      rw [if_pos (wanted_yes (s := 10) rfl rfl rfl (by rw [hf.size]; simp) (((hf.dep ⟨5, .guard⟩ (by simp) rfl).2 10 rfl).trans (hf.dep ⟨5, .guard⟩ (by simp) rfl).1))]
      have q13 : AC.tmps.getD 13 undef = .pointer (some ⟨gb, 1, none⟩) := ((hf.dep ⟨8, .data⟩ (by simp) rfl).2 13 rfl).trans (hf.dep ⟨8, .data⟩ (by simp) rfl).1
      have hG := HB_0.out.keeps hbw
      have z1 := hG.cell 1 _ rfl
      go_simp
      exact hK _ _ (Below.refl _ _) rfl
    · obtain rfl := Option.some.inj (show some _ = some oO from ho)
      rw [if_pos (wanted_yes (s := 10) rfl rfl rfl (by rw [hf.size]; simp) (((hf.dep ⟨5, .guard⟩ (by simp) rfl).2 10 rfl).trans (hf.dep ⟨5, .guard⟩ (by simp) rfl).1))]
      have q12 : AC.tmps.getD 12 undef = .int .i64 lo := ((hf.dep ⟨7, .data⟩ (by simp) rfl).2 12 rfl).trans (hf.dep ⟨7, .data⟩ (by simp) rfl).1
      have q14 : AC.tmps.getD 14 undef = .int .i64 lo := ((hf.dep ⟨9, .data⟩ (by simp) rfl).2 14 rfl).trans (hf.dep ⟨9, .data⟩ (by simp) rfl).1
      go_simp
      exact hK _ _ (Below.refl _ _) rfl
    · obtain rfl := Option.some.inj (show some _ = some oO from ho)
      rw [if_pos (by rfl)]
      have q10 : AC.tmps.getD 10 undef = .bool true := ((hf.dep ⟨5, .data⟩ (by simp) rfl).2 10 rfl).trans (hf.dep ⟨5, .data⟩ (by simp) rfl).1
      have q15 : AC.tmps.getD 15 undef = .bool true := ((hf.dep ⟨10, .data⟩ (by simp) rfl).2 15 rfl).trans (hf.dep ⟨10, .data⟩ (by simp) rfl).1
      go_simp
      exact hK _ _ (Below.refl _ _) rfl
    · obtain rfl := Option.some.inj (show some _ = some oO from ho)
      rw [if_pos (by rfl)]
      have q16 : AC.tmps.getD 16 undef = .bool true := ((hf.dep ⟨11, .data⟩ (by simp) rfl).2 16 rfl).trans (hf.dep ⟨11, .data⟩ (by simp) rfl).1
      go_simp
      exact hK _ _ (Below.refl _ _) rfl
    · obtain rfl := Option.some.inj (show some _ = some oO from ho)
      rw [if_pos (wanted_yes (s := 17) rfl rfl rfl (by rw [hf.size]; simp) (((hf.dep ⟨12, .guard⟩ (by simp) rfl).2 17 rfl).trans (hf.dep ⟨12, .guard⟩ (by simp) rfl).1))]
      have q2 : AC.tmps.getD 2 undef = .pointer (some ⟨ga, 0, none⟩) := hf.rest 2 (by kernel_rfl)
      go_simp
      exact hK _ _ (Below.refl _ _) rfl
    · obtain rfl := Option.some.inj (show some _ = some oO from ho)
      rw [if_pos (wanted_yes (s := 17) rfl rfl rfl (by rw [hf.size]; simp) (((hf.dep ⟨12, .guard⟩ (by simp) rfl).2 17 rfl).trans (hf.dep ⟨12, .guard⟩ (by simp) rfl).1))]
      have q18 : AC.tmps.getD 18 undef = .pointer (some ⟨ga, 2, none⟩) := ((hf.dep ⟨13, .data⟩ (by simp) rfl).2 18 rfl).trans (hf.dep ⟨13, .data⟩ (by simp) rfl).1
      have hG := HA0.out.keeps hbw
      have z2 := hG.cell 2 _ rfl
      go_simp
      exact hK _ _ (Below.refl _ _) rfl
    · obtain rfl := Option.some.inj (show some _ = some oO from ho)
      rw [if_pos (wanted_yes (s := 17) rfl rfl rfl (by rw [hf.size]; simp) (((hf.dep ⟨12, .guard⟩ (by simp) rfl).2 17 rfl).trans (hf.dep ⟨12, .guard⟩ (by simp) rfl).1))]
      have q3 : AC.tmps.getD 3 undef = .pointer (some ⟨gb, 0, none⟩) := hf.rest 3 (by kernel_rfl)
      go_simp
      exact hK _ _ (Below.refl _ _) rfl
    · obtain rfl := Option.some.inj (show some _ = some oO from ho)
      rw [if_pos (wanted_yes (s := 17) rfl rfl rfl (by rw [hf.size]; simp) (((hf.dep ⟨12, .guard⟩ (by simp) rfl).2 17 rfl).trans (hf.dep ⟨12, .guard⟩ (by simp) rfl).1))]
      have q20 : AC.tmps.getD 20 undef = .pointer (some ⟨gb, 2, none⟩) := ((hf.dep ⟨15, .data⟩ (by simp) rfl).2 20 rfl).trans (hf.dep ⟨15, .data⟩ (by simp) rfl).1
      have hG := HB_0.out.keeps hbw
      have z2 := hG.cell 2 _ rfl
      go_simp
      exact hK _ _ (Below.refl _ _) rfl
    · obtain rfl := Option.some.inj (show some _ = some oO from ho)
      rw [if_pos (wanted_yes (s := 17) rfl rfl rfl (by rw [hf.size]; simp) (((hf.dep ⟨12, .guard⟩ (by simp) rfl).2 17 rfl).trans (hf.dep ⟨12, .guard⟩ (by simp) rfl).1))]
      have q19 : AC.tmps.getD 19 undef = .int .i64 a := ((hf.dep ⟨14, .data⟩ (by simp) rfl).2 19 rfl).trans (hf.dep ⟨14, .data⟩ (by simp) rfl).1
      have q21 : AC.tmps.getD 21 undef = .int .i64 a := ((hf.dep ⟨16, .data⟩ (by simp) rfl).2 21 rfl).trans (hf.dep ⟨16, .data⟩ (by simp) rfl).1
      go_simp
      exact hK _ _ (Below.refl _ _) rfl
    · obtain rfl := Option.some.inj (show some _ = some oO from ho)
      rw [if_pos (by rfl)]
      have q17 : AC.tmps.getD 17 undef = .bool true := ((hf.dep ⟨12, .data⟩ (by simp) rfl).2 17 rfl).trans (hf.dep ⟨12, .data⟩ (by simp) rfl).1
      have q22 : AC.tmps.getD 22 undef = .bool true := ((hf.dep ⟨17, .data⟩ (by simp) rfl).2 22 rfl).trans (hf.dep ⟨17, .data⟩ (by simp) rfl).1
      go_simp
      exact hK _ _ (Below.refl _ _) rfl
    · obtain rfl := Option.some.inj (show some _ = some oO from ho)
      rw [if_pos (by rfl)]
      have q23 : AC.tmps.getD 23 undef = .bool true := ((hf.dep ⟨18, .data⟩ (by simp) rfl).2 23 rfl).trans (hf.dep ⟨18, .data⟩ (by simp) rfl).1
      go_simp
      exact hK _ _ (Below.refl _ _) rfl
    · obtain rfl := Option.some.inj (show some _ = some oO from ho)
      rw [if_pos (wanted_yes (s := 24) rfl rfl rfl (by rw [hf.size]; simp) (((hf.dep ⟨19, .guard⟩ (by simp) rfl).2 24 rfl).trans (hf.dep ⟨19, .guard⟩ (by simp) rfl).1))]
      have q2 : AC.tmps.getD 2 undef = .pointer (some ⟨ga, 0, none⟩) := hf.rest 2 (by kernel_rfl)
      go_simp
      exact hK _ _ (Below.refl _ _) rfl
    · obtain rfl := Option.some.inj (show some _ = some oO from ho)
      rw [if_pos (wanted_yes (s := 24) rfl rfl rfl (by rw [hf.size]; simp) (((hf.dep ⟨19, .guard⟩ (by simp) rfl).2 24 rfl).trans (hf.dep ⟨19, .guard⟩ (by simp) rfl).1))]
      have q25 : AC.tmps.getD 25 undef = .pointer (some ⟨ga, 3, none⟩) := ((hf.dep ⟨20, .data⟩ (by simp) rfl).2 25 rfl).trans (hf.dep ⟨20, .data⟩ (by simp) rfl).1
      have hG := HA0.out.keeps hbw
      have z3 := hG.cell 3 _ rfl
      go_simp
      exact hK _ _ (Below.refl _ _) rfl
    · obtain rfl := Option.some.inj (show some _ = some oO from ho)
      rw [if_pos (wanted_yes (s := 24) rfl rfl rfl (by rw [hf.size]; simp) (((hf.dep ⟨19, .guard⟩ (by simp) rfl).2 24 rfl).trans (hf.dep ⟨19, .guard⟩ (by simp) rfl).1))]
      have q3 : AC.tmps.getD 3 undef = .pointer (some ⟨gb, 0, none⟩) := hf.rest 3 (by kernel_rfl)
      go_simp
      exact hK _ _ (Below.refl _ _) rfl
    · obtain rfl := Option.some.inj (show some _ = some oO from ho)
      rw [if_pos (wanted_yes (s := 24) rfl rfl rfl (by rw [hf.size]; simp) (((hf.dep ⟨19, .guard⟩ (by simp) rfl).2 24 rfl).trans (hf.dep ⟨19, .guard⟩ (by simp) rfl).1))]
      have q27 : AC.tmps.getD 27 undef = .pointer (some ⟨gb, 3, none⟩) := ((hf.dep ⟨22, .data⟩ (by simp) rfl).2 27 rfl).trans (hf.dep ⟨22, .data⟩ (by simp) rfl).1
      have hG := HB_0.out.keeps hbw
      have z3 := hG.cell 3 _ rfl
      go_simp
      exact hK _ _ (Below.refl _ _) rfl
    · obtain rfl := Option.some.inj (show some _ = some oO from ho)
      rw [if_pos (wanted_yes (s := 24) rfl rfl rfl (by rw [hf.size]; simp) (((hf.dep ⟨19, .guard⟩ (by simp) rfl).2 24 rfl).trans (hf.dep ⟨19, .guard⟩ (by simp) rfl).1))]
      have q26 : AC.tmps.getD 26 undef = .int .i64 b := ((hf.dep ⟨21, .data⟩ (by simp) rfl).2 26 rfl).trans (hf.dep ⟨21, .data⟩ (by simp) rfl).1
      have q28 : AC.tmps.getD 28 undef = .int .i64 b := ((hf.dep ⟨23, .data⟩ (by simp) rfl).2 28 rfl).trans (hf.dep ⟨23, .data⟩ (by simp) rfl).1
      go_simp
      exact hK _ _ (Below.refl _ _) rfl
    · obtain rfl := Option.some.inj (show some _ = some oO from ho)
      rw [if_pos (by rfl)]
      have q24 : AC.tmps.getD 24 undef = .bool true := ((hf.dep ⟨19, .data⟩ (by simp) rfl).2 24 rfl).trans (hf.dep ⟨19, .data⟩ (by simp) rfl).1
      have q29 : AC.tmps.getD 29 undef = .bool true := ((hf.dep ⟨24, .data⟩ (by simp) rfl).2 29 rfl).trans (hf.dep ⟨24, .data⟩ (by simp) rfl).1
      go_simp
      exact hK _ _ (Below.refl _ _) rfl
    · obtain rfl := Option.some.inj (show some _ = some oO from ho)
      rw [if_pos (by rfl)]
      have q30 : AC.tmps.getD 30 undef = .bool true := ((hf.dep ⟨25, .data⟩ (by simp) rfl).2 30 rfl).trans (hf.dep ⟨25, .data⟩ (by simp) rfl).1
      go_simp
      exact hK _ _ (Below.refl _ _) rfl
    · obtain rfl := Option.some.inj (show some _ = some oO from ho)
      rw [if_pos (wanted_yes (s := 31) rfl rfl rfl (by rw [hf.size]; simp) (((hf.dep ⟨26, .guard⟩ (by simp) rfl).2 31 rfl).trans (hf.dep ⟨26, .guard⟩ (by simp) rfl).1))]
      have q2 : AC.tmps.getD 2 undef = .pointer (some ⟨ga, 0, none⟩) := hf.rest 2 (by kernel_rfl)
      go_simp
      exact hK _ _ (Below.refl _ _) rfl
    · obtain rfl := Option.some.inj (show some _ = some oO from ho)
      rw [if_pos (wanted_yes (s := 31) rfl rfl rfl (by rw [hf.size]; simp) (((hf.dep ⟨26, .guard⟩ (by simp) rfl).2 31 rfl).trans (hf.dep ⟨26, .guard⟩ (by simp) rfl).1))]
      have q32 : AC.tmps.getD 32 undef = .pointer (some ⟨ga, 4, none⟩) := ((hf.dep ⟨27, .data⟩ (by simp) rfl).2 32 rfl).trans (hf.dep ⟨27, .data⟩ (by simp) rfl).1
      have hG := HA0.out.keeps hbw
      have z4 := hG.cell 4 _ rfl
      go_simp
      exact hK _ _ (Below.refl _ _) rfl
    · obtain rfl := Option.some.inj (show some _ = some oO from ho)
      rw [if_pos (wanted_yes (s := 31) rfl rfl rfl (by rw [hf.size]; simp) (((hf.dep ⟨26, .guard⟩ (by simp) rfl).2 31 rfl).trans (hf.dep ⟨26, .guard⟩ (by simp) rfl).1))]
      have q3 : AC.tmps.getD 3 undef = .pointer (some ⟨gb, 0, none⟩) := hf.rest 3 (by kernel_rfl)
      go_simp
      exact hK _ _ (Below.refl _ _) rfl
    · obtain rfl := Option.some.inj (show some _ = some oO from ho)
      rw [if_pos (wanted_yes (s := 31) rfl rfl rfl (by rw [hf.size]; simp) (((hf.dep ⟨26, .guard⟩ (by simp) rfl).2 31 rfl).trans (hf.dep ⟨26, .guard⟩ (by simp) rfl).1))]
      have q34 : AC.tmps.getD 34 undef = .pointer (some ⟨gb, 4, none⟩) := ((hf.dep ⟨29, .data⟩ (by simp) rfl).2 34 rfl).trans (hf.dep ⟨29, .data⟩ (by simp) rfl).1
      have hG := HB_0.out.keeps hbw
      have z4 := hG.cell 4 _ rfl
      go_simp
      exact hK _ _ (Below.refl _ _) rfl
    · obtain rfl := Option.some.inj (show some _ = some oO from ho)
      rw [if_pos (wanted_yes (s := 31) rfl rfl rfl (by rw [hf.size]; simp) (((hf.dep ⟨26, .guard⟩ (by simp) rfl).2 31 rfl).trans (hf.dep ⟨26, .guard⟩ (by simp) rfl).1))]
      have q33 : AC.tmps.getD 33 undef = .int .i64 n := ((hf.dep ⟨28, .data⟩ (by simp) rfl).2 33 rfl).trans (hf.dep ⟨28, .data⟩ (by simp) rfl).1
      have q35 : AC.tmps.getD 35 undef = .int .i64 n := ((hf.dep ⟨30, .data⟩ (by simp) rfl).2 35 rfl).trans (hf.dep ⟨30, .data⟩ (by simp) rfl).1
      go_simp
      exact hK _ _ (Below.refl _ _) rfl
    · obtain rfl := Option.some.inj (show some _ = some oO from ho)
      rw [if_pos (by rfl)]
      have q31 : AC.tmps.getD 31 undef = .bool true := ((hf.dep ⟨26, .data⟩ (by simp) rfl).2 31 rfl).trans (hf.dep ⟨26, .data⟩ (by simp) rfl).1
      have q36 : AC.tmps.getD 36 undef = .bool true := ((hf.dep ⟨31, .data⟩ (by simp) rfl).2 36 rfl).trans (hf.dep ⟨31, .data⟩ (by simp) rfl).1
      go_simp
      exact hK _ _ (Below.refl _ _) rfl
    · obtain rfl := Option.some.inj (show some _ = some oO from ho)
      rw [if_pos (by rfl)]
      have q37 : AC.tmps.getD 37 undef = .bool true := ((hf.dep ⟨32, .data⟩ (by simp) rfl).2 37 rfl).trans (hf.dep ⟨32, .data⟩ (by simp) rfl).1
      go_simp
      exact hK _ _ (Below.refl _ _) rfl
    · obtain rfl := Option.some.inj (show some _ = some oO from ho)
      rw [if_pos (wanted_yes (s := 38) rfl rfl rfl (by rw [hf.size]; simp) (((hf.dep ⟨33, .guard⟩ (by simp) rfl).2 38 rfl).trans (hf.dep ⟨33, .guard⟩ (by simp) rfl).1))]
      have q2 : AC.tmps.getD 2 undef = .pointer (some ⟨ga, 0, none⟩) := hf.rest 2 (by kernel_rfl)
      go_simp
      exact hK _ _ (Below.refl _ _) rfl
    · obtain rfl := Option.some.inj (show some _ = some oO from ho)
      rw [if_pos (wanted_yes (s := 38) rfl rfl rfl (by rw [hf.size]; simp) (((hf.dep ⟨33, .guard⟩ (by simp) rfl).2 38 rfl).trans (hf.dep ⟨33, .guard⟩ (by simp) rfl).1))]
      have q39 : AC.tmps.getD 39 undef = .pointer (some ⟨ga, 5, none⟩) := ((hf.dep ⟨34, .data⟩ (by simp) rfl).2 39 rfl).trans (hf.dep ⟨34, .data⟩ (by simp) rfl).1
      have hG := HA0.out.keeps hbw
      have z5 := hG.cell 5 _ rfl
      go_simp
      exact hK _ _ (Below.refl _ _) rfl
    · obtain rfl := Option.some.inj (show some _ = some oO from ho)
      rw [if_pos (wanted_yes (s := 38) rfl rfl rfl (by rw [hf.size]; simp) (((hf.dep ⟨33, .guard⟩ (by simp) rfl).2 38 rfl).trans (hf.dep ⟨33, .guard⟩ (by simp) rfl).1))]
      have q3 : AC.tmps.getD 3 undef = .pointer (some ⟨gb, 0, none⟩) := hf.rest 3 (by kernel_rfl)
      go_simp
      exact hK _ _ (Below.refl _ _) rfl
    · obtain rfl := Option.some.inj (show some _ = some oO from ho)
      rw [if_pos (wanted_yes (s := 38) rfl rfl rfl (by rw [hf.size]; simp) (((hf.dep ⟨33, .guard⟩ (by simp) rfl).2 38 rfl).trans (hf.dep ⟨33, .guard⟩ (by simp) rfl).1))]
      have q41 : AC.tmps.getD 41 undef = .pointer (some ⟨gb, 5, none⟩) := ((hf.dep ⟨36, .data⟩ (by simp) rfl).2 41 rfl).trans (hf.dep ⟨36, .data⟩ (by simp) rfl).1
      have hG := HB_0.out.keeps hbw
      have z5 := hG.cell 5 _ rfl
      go_simp
      exact hK _ _ (Below.refl _ _) rfl
    · obtain rfl := Option.some.inj (show some _ = some oO from ho)
      rw [if_pos (wanted_yes (s := 38) rfl rfl rfl (by rw [hf.size]; simp) (((hf.dep ⟨33, .guard⟩ (by simp) rfl).2 38 rfl).trans (hf.dep ⟨33, .guard⟩ (by simp) rfl).1))]
      have q40 : AC.tmps.getD 40 undef = .int .i64 p := ((hf.dep ⟨35, .data⟩ (by simp) rfl).2 40 rfl).trans (hf.dep ⟨35, .data⟩ (by simp) rfl).1
      have q42 : AC.tmps.getD 42 undef = .int .i64 p := ((hf.dep ⟨37, .data⟩ (by simp) rfl).2 42 rfl).trans (hf.dep ⟨37, .data⟩ (by simp) rfl).1
      go_simp
      exact hK _ _ (Below.refl _ _) rfl
    · obtain rfl := Option.some.inj (show some _ = some oO from ho)
      rw [if_pos (by rfl)]
      have q38 : AC.tmps.getD 38 undef = .bool true := ((hf.dep ⟨33, .data⟩ (by simp) rfl).2 38 rfl).trans (hf.dep ⟨33, .data⟩ (by simp) rfl).1
      have q43 : AC.tmps.getD 43 undef = .bool true := ((hf.dep ⟨38, .data⟩ (by simp) rfl).2 43 rfl).trans (hf.dep ⟨38, .data⟩ (by simp) rfl).1
      go_simp
      exact hK _ _ (Below.refl _ _) rfl
    · obtain rfl := Option.some.inj (show some _ = some oO from ho)
      rw [if_pos (by rfl)]
      have q44 : AC.tmps.getD 44 undef = .bool true := ((hf.dep ⟨39, .data⟩ (by simp) rfl).2 44 rfl).trans (hf.dep ⟨39, .data⟩ (by simp) rfl).1
      go_simp
      exact hK _ _ (Below.refl _ _) rfl
    · obtain rfl := Option.some.inj (show some _ = some oO from ho)
      rw [if_pos (wanted_yes (s := 45) rfl rfl rfl (by rw [hf.size]; simp) (((hf.dep ⟨40, .guard⟩ (by simp) rfl).2 45 rfl).trans (hf.dep ⟨40, .guard⟩ (by simp) rfl).1))]
      have q2 : AC.tmps.getD 2 undef = .pointer (some ⟨ga, 0, none⟩) := hf.rest 2 (by kernel_rfl)
      go_simp
      exact hK _ _ (Below.refl _ _) rfl
    · obtain rfl := Option.some.inj (show some _ = some oO from ho)
      rw [if_pos (wanted_yes (s := 45) rfl rfl rfl (by rw [hf.size]; simp) (((hf.dep ⟨40, .guard⟩ (by simp) rfl).2 45 rfl).trans (hf.dep ⟨40, .guard⟩ (by simp) rfl).1))]
      have q46 : AC.tmps.getD 46 undef = .pointer (some ⟨ga, 18, none⟩) := ((hf.dep ⟨41, .data⟩ (by simp) rfl).2 46 rfl).trans (hf.dep ⟨41, .data⟩ (by simp) rfl).1
      have hG := HA0.out.keeps hbw
      have z18 := hG.cell 18 _ rfl
      have z19 := hG.cell 19 _ rfl
      have z20 := hG.cell 20 _ rfl
      have z21 := hG.cell 21 _ rfl
      have z22 := hG.cell 22 _ rfl
      go_simp
      exact hK _ _ (Below.refl _ _) rfl
    · obtain rfl := Option.some.inj (show some _ = some oO from ho)
      rw [if_pos (wanted_yes (s := 45) rfl rfl rfl (by rw [hf.size]; simp) (((hf.dep ⟨40, .guard⟩ (by simp) rfl).2 45 rfl).trans (hf.dep ⟨40, .guard⟩ (by simp) rfl).1))]
      have q3 : AC.tmps.getD 3 undef = .pointer (some ⟨gb, 0, none⟩) := hf.rest 3 (by kernel_rfl)
      go_simp
      exact hK _ _ (Below.refl _ _) rfl
    · obtain rfl := Option.some.inj (show some _ = some oO from ho)
      rw [if_pos (wanted_yes (s := 45) rfl rfl rfl (by rw [hf.size]; simp) (((hf.dep ⟨40, .guard⟩ (by simp) rfl).2 45 rfl).trans (hf.dep ⟨40, .guard⟩ (by simp) rfl).1))]
      have q48 : AC.tmps.getD 48 undef = .pointer (some ⟨gb, 18, none⟩) := ((hf.dep ⟨43, .data⟩ (by simp) rfl).2 48 rfl).trans (hf.dep ⟨43, .data⟩ (by simp) rfl).1
      have hG := HB_0.out.keeps hbw
      have z18 := hG.cell 18 _ rfl
      have z19 := hG.cell 19 _ rfl
      have z20 := hG.cell 20 _ rfl
      have z21 := hG.cell 21 _ rfl
      have z22 := hG.cell 22 _ rfl
      go_simp
      exact hK _ _ (Below.refl _ _) rfl
    · obtain rfl := Option.some.inj (show some _ = some oO from ho)
      rw [if_pos (wanted_yes (s := 45) rfl rfl rfl (by rw [hf.size]; simp) (((hf.dep ⟨40, .guard⟩ (by simp) rfl).2 45 rfl).trans (hf.dep ⟨40, .guard⟩ (by simp) rfl).1))]
      have q47 : AC.tmps.getD 47 undef = .agg #[.int .i64 f0, .int .i64 f1, .int .i64 f2, .int .i64 f3, .int .i64 f4] := ((hf.dep ⟨42, .data⟩ (by simp) rfl).2 47 rfl).trans (hf.dep ⟨42, .data⟩ (by simp) rfl).1
      have q49 : AC.tmps.getD 49 undef = .agg #[.int .i64 f0', .int .i64 f1', .int .i64 f2', .int .i64 f3', .int .i64 f4'] := ((hf.dep ⟨44, .data⟩ (by simp) rfl).2 49 rfl).trans (hf.dep ⟨44, .data⟩ (by simp) rfl).1
      go_simp
      exact hK _ _ (Below.refl _ _) rfl
    · obtain rfl := Option.some.inj (show some _ = some oO from ho)
      rw [if_pos (by rfl)]
      have q45 : AC.tmps.getD 45 undef = .bool true := ((hf.dep ⟨40, .data⟩ (by simp) rfl).2 45 rfl).trans (hf.dep ⟨40, .data⟩ (by simp) rfl).1
      have q50 : AC.tmps.getD 50 undef = .bool false := ((hf.dep ⟨45, .data⟩ (by simp) rfl).2 50 rfl).trans (hf.dep ⟨45, .data⟩ (by simp) rfl).1
      go_simp
      exact hK _ _ (Below.refl _ _) rfl
    · obtain rfl := Option.some.inj (show some _ = some oO from ho)
      rw [if_pos (by rfl)]
      have q51 : AC.tmps.getD 51 undef = .bool false := ((hf.dep ⟨46, .data⟩ (by simp) rfl).2 51 rfl).trans (hf.dep ⟨46, .data⟩ (by simp) rfl).1
      go_simp
      exact hK _ _ (Below.refl _ _) rfl
    · obtain rfl := Option.some.inj (show some _ = some oO from ho)
      rw [if_neg (wanted_no (s := 52) rfl rfl rfl (by rw [hf.size]; simp) (((hf.dep ⟨47, .guard⟩ (by simp) rfl).2 52 rfl).trans (hf.dep ⟨47, .guard⟩ (by simp) rfl).1) rfl)]
      exact hK _ _ (Below.refl _ _) rfl
    · obtain rfl := Option.some.inj (show some _ = some oO from ho)
      rw [if_neg (wanted_no (s := 52) rfl rfl rfl (by rw [hf.size]; simp) (((hf.dep ⟨47, .guard⟩ (by simp) rfl).2 52 rfl).trans (hf.dep ⟨47, .guard⟩ (by simp) rfl).1) rfl)]
      exact hK _ _ (Below.refl _ _) rfl
    · obtain rfl := Option.some.inj (show some _ = some oO from ho)
      rw [if_neg (wanted_no (s := 52) rfl rfl rfl (by rw [hf.size]; simp) (((hf.dep ⟨47, .guard⟩ (by simp) rfl).2 52 rfl).trans (hf.dep ⟨47, .guard⟩ (by simp) rfl).1) rfl)]
      exact hK _ _ (Below.refl _ _) rfl
    · obtain rfl := Option.some.inj (show some _ = some oO from ho)
      rw [if_neg (wanted_no (s := 52) rfl rfl rfl (by rw [hf.size]; simp) (((hf.dep ⟨47, .guard⟩ (by simp) rfl).2 52 rfl).trans (hf.dep ⟨47, .guard⟩ (by simp) rfl).1) rfl)]
      exact hK _ _ (Below.refl _ _) rfl
    · obtain rfl := Option.some.inj (show some _ = some oO from ho)
      rw [if_neg (wanted_no (s := 52) rfl rfl rfl (by rw [hf.size]; simp) (((hf.dep ⟨47, .guard⟩ (by simp) rfl).2 52 rfl).trans (hf.dep ⟨47, .guard⟩ (by simp) rfl).1) rfl)]
      exact hK _ _ (Below.refl _ _) rfl
    · obtain rfl := Option.some.inj (show some _ = some oO from ho)
      rw [if_neg (wanted_no (s := 52) rfl rfl rfl (by rw [hf.size]; simp) (((hf.dep ⟨47, .guard⟩ (by simp) rfl).2 52 rfl).trans (hf.dep ⟨47, .guard⟩ (by simp) rfl).1) rfl)]
      exact hK _ _ (Below.refl _ _) rfl
    · obtain rfl := Option.some.inj (show some _ = some oO from ho)
      rw [if_neg (wanted_no (s := 52) rfl rfl rfl (by rw [hf.size]; simp) (((hf.dep ⟨47, .guard⟩ (by simp) rfl).2 52 rfl).trans (hf.dep ⟨47, .guard⟩ (by simp) rfl).1) rfl)]
      exact hK _ _ (Below.refl _ _) rfl
    · obtain rfl := Option.some.inj (show some _ = some oO from ho)
      rw [if_pos (by rfl)]
      have q52 : AC.tmps.getD 52 undef = .bool false := ((hf.dep ⟨47, .data⟩ (by simp) rfl).2 52 rfl).trans (hf.dep ⟨47, .data⟩ (by simp) rfl).1
      have q59 : AC.tmps.getD 59 undef = undef := ((hf.dep ⟨54, .data⟩ (by simp) rfl).2 59 rfl).trans (hf.dep ⟨54, .data⟩ (by simp) rfl).1
      go_simp
      exact hK _ _ (Below.refl _ _) rfl
    · obtain rfl := Option.some.inj (show some _ = some oO from ho)
      rw [if_pos (by rfl)]
      have q60 : AC.tmps.getD 60 undef = .bool false := ((hf.dep ⟨55, .data⟩ (by simp) rfl).2 60 rfl).trans (hf.dep ⟨55, .data⟩ (by simp) rfl).1
      go_simp
      exact hK _ _ (Below.refl _ _) rfl
    · obtain rfl := Option.some.inj (show some _ = some oO from ho)
      rw [if_neg (wanted_no (s := 61) rfl rfl rfl (by rw [hf.size]; simp) (((hf.dep ⟨56, .guard⟩ (by simp) rfl).2 61 rfl).trans (hf.dep ⟨56, .guard⟩ (by simp) rfl).1) rfl)]
      exact hK _ _ (Below.refl _ _) rfl
    · obtain rfl := Option.some.inj (show some _ = some oO from ho)
      rw [if_neg (wanted_no (s := 61) rfl rfl rfl (by rw [hf.size]; simp) (((hf.dep ⟨56, .guard⟩ (by simp) rfl).2 61 rfl).trans (hf.dep ⟨56, .guard⟩ (by simp) rfl).1) rfl)]
      exact hK _ _ (Below.refl _ _) rfl
    · obtain rfl := Option.some.inj (show some _ = some oO from ho)
      rw [if_neg (wanted_no (s := 61) rfl rfl rfl (by rw [hf.size]; simp) (((hf.dep ⟨56, .guard⟩ (by simp) rfl).2 61 rfl).trans (hf.dep ⟨56, .guard⟩ (by simp) rfl).1) rfl)]
      exact hK _ _ (Below.refl _ _) rfl
    · obtain rfl := Option.some.inj (show some _ = some oO from ho)
      rw [if_neg (wanted_no (s := 61) rfl rfl rfl (by rw [hf.size]; simp) (((hf.dep ⟨56, .guard⟩ (by simp) rfl).2 61 rfl).trans (hf.dep ⟨56, .guard⟩ (by simp) rfl).1) rfl)]
      exact hK _ _ (Below.refl _ _) rfl
    · obtain rfl := Option.some.inj (show some _ = some oO from ho)
      rw [if_neg (wanted_no (s := 61) rfl rfl rfl (by rw [hf.size]; simp) (((hf.dep ⟨56, .guard⟩ (by simp) rfl).2 61 rfl).trans (hf.dep ⟨56, .guard⟩ (by simp) rfl).1) rfl)]
      exact hK _ _ (Below.refl _ _) rfl
    · obtain rfl := Option.some.inj (show some _ = some oO from ho)
      rw [if_neg (wanted_no (s := 61) rfl rfl rfl (by rw [hf.size]; simp) (((hf.dep ⟨56, .guard⟩ (by simp) rfl).2 61 rfl).trans (hf.dep ⟨56, .guard⟩ (by simp) rfl).1) rfl)]
      exact hK _ _ (Below.refl _ _) rfl
    · obtain rfl := Option.some.inj (show some _ = some oO from ho)
      rw [if_neg (wanted_no (s := 61) rfl rfl rfl (by rw [hf.size]; simp) (((hf.dep ⟨56, .guard⟩ (by simp) rfl).2 61 rfl).trans (hf.dep ⟨56, .guard⟩ (by simp) rfl).1) rfl)]
      exact hK _ _ (Below.refl _ _) rfl
    · obtain rfl := Option.some.inj (show some _ = some oO from ho)
      rw [if_pos (by rfl)]
      have q61 : AC.tmps.getD 61 undef = .bool false := ((hf.dep ⟨56, .data⟩ (by simp) rfl).2 61 rfl).trans (hf.dep ⟨56, .data⟩ (by simp) rfl).1
      have q68 : AC.tmps.getD 68 undef = undef := ((hf.dep ⟨63, .data⟩ (by simp) rfl).2 68 rfl).trans (hf.dep ⟨63, .data⟩ (by simp) rfl).1
      go_simp
      exact hK _ _ (Below.refl _ _) rfl
    · obtain rfl := Option.some.inj (show some _ = some oO from ho)
      rw [if_pos (by rfl)]
      have q69 : AC.tmps.getD 69 undef = .bool false := ((hf.dep ⟨64, .data⟩ (by simp) rfl).2 69 rfl).trans (hf.dep ⟨64, .data⟩ (by simp) rfl).1
      go_simp
      exact hK _ _ (Below.refl _ _) rfl
    · omega
  · intro V WW hall hbw hBW
    have vv0 : V 0 = .pointer (some ⟨ga, 0, none⟩) := hall 0 (by decide)
    have vv1 : V 1 = .int .i64 k := hall 1 (by decide)
    have vv2 : V 2 = .pointer (some ⟨gb, 0, none⟩) := hall 2 (by decide)
    have vv3 : V 3 = .int .i64 k := hall 3 (by decide)
    have vv4 : V 4 = .bool true := hall 4 (by decide)
    have vv5 : V 5 = .bool true := hall 5 (by decide)
    have vv6 : V 6 = .pointer (some ⟨ga, 1, none⟩) := hall 6 (by decide)
    have vv7 : V 7 = .int .i64 lo := hall 7 (by decide)
    have vv8 : V 8 = .pointer (some ⟨gb, 1, none⟩) := hall 8 (by decide)
    have vv9 : V 9 = .int .i64 lo := hall 9 (by decide)
    have vv10 : V 10 = .bool true := hall 10 (by decide)
    have vv11 : V 11 = .bool true := hall 11 (by decide)
    have vv12 : V 12 = .bool true := hall 12 (by decide)
    have vv13 : V 13 = .pointer (some ⟨ga, 2, none⟩) := hall 13 (by decide)
    have vv14 : V 14 = .int .i64 a := hall 14 (by decide)
    have vv15 : V 15 = .pointer (some ⟨gb, 2, none⟩) := hall 15 (by decide)
    have vv16 : V 16 = .int .i64 a := hall 16 (by decide)
    have vv17 : V 17 = .bool true := hall 17 (by decide)
    have vv18 : V 18 = .bool true := hall 18 (by decide)
    have vv19 : V 19 = .bool true := hall 19 (by decide)
    have vv20 : V 20 = .pointer (some ⟨ga, 3, none⟩) := hall 20 (by decide)
    have vv21 : V 21 = .int .i64 b := hall 21 (by decide)
    have vv22 : V 22 = .pointer (some ⟨gb, 3, none⟩) := hall 22 (by decide)
    have vv23 : V 23 = .int .i64 b := hall 23 (by decide)
    have vv24 : V 24 = .bool true := hall 24 (by decide)
    have vv25 : V 25 = .bool true := hall 25 (by decide)
    have vv26 : V 26 = .bool true := hall 26 (by decide)
    have vv27 : V 27 = .pointer (some ⟨ga, 4, none⟩) := hall 27 (by decide)
    have vv28 : V 28 = .int .i64 n := hall 28 (by decide)
    have vv29 : V 29 = .pointer (some ⟨gb, 4, none⟩) := hall 29 (by decide)
    have vv30 : V 30 = .int .i64 n := hall 30 (by decide)
    have vv31 : V 31 = .bool true := hall 31 (by decide)
    have vv32 : V 32 = .bool true := hall 32 (by decide)
    have vv33 : V 33 = .bool true := hall 33 (by decide)
    have vv34 : V 34 = .pointer (some ⟨ga, 5, none⟩) := hall 34 (by decide)
    have vv35 : V 35 = .int .i64 p := hall 35 (by decide)
    have vv36 : V 36 = .pointer (some ⟨gb, 5, none⟩) := hall 36 (by decide)
    have vv37 : V 37 = .int .i64 p := hall 37 (by decide)
    have vv38 : V 38 = .bool true := hall 38 (by decide)
    have vv39 : V 39 = .bool true := hall 39 (by decide)
    have vv40 : V 40 = .bool true := hall 40 (by decide)
    have vv41 : V 41 = .pointer (some ⟨ga, 18, none⟩) := hall 41 (by decide)
    have vv42 : V 42 = .agg #[.int .i64 f0, .int .i64 f1, .int .i64 f2, .int .i64 f3, .int .i64 f4] := hall 42 (by decide)
    have vv43 : V 43 = .pointer (some ⟨gb, 18, none⟩) := hall 43 (by decide)
    have vv44 : V 44 = .agg #[.int .i64 f0', .int .i64 f1', .int .i64 f2', .int .i64 f3', .int .i64 f4'] := hall 44 (by decide)
    have vv45 : V 45 = .bool false := hall 45 (by decide)
    have vv46 : V 46 = .bool false := hall 46 (by decide)
    have vv47 : V 47 = .bool false := hall 47 (by decide)
    have vv48 : V 48 = undef := hall 48 (by decide)
    have vv49 : V 49 = undef := hall 49 (by decide)
    have vv50 : V 50 = undef := hall 50 (by decide)
    have vv51 : V 51 = undef := hall 51 (by decide)
    have vv52 : V 52 = undef := hall 52 (by decide)
    have vv53 : V 53 = undef := hall 53 (by decide)
    have vv54 : V 54 = undef := hall 54 (by decide)
    have vv55 : V 55 = .bool false := hall 55 (by decide)
    have vv56 : V 56 = .bool false := hall 56 (by decide)
    have vv57 : V 57 = undef := hall 57 (by decide)
    have vv58 : V 58 = undef := hall 58 (by decide)
    have vv59 : V 59 = undef := hall 59 (by decide)
    have vv60 : V 60 = undef := hall 60 (by decide)
    have vv61 : V 61 = undef := hall 61 (by decide)
    have vv62 : V 62 = undef := hall 62 (by decide)
    have vv63 : V 63 = undef := hall 63 (by decide)
    have vv64 : V 64 = .bool false := hall 64 (by decide)
    have vv65 : V 65 = .bool false := hall 65 (by decide)
    clear hall
    simp only [pairsOf, laid, Nat.zero_add, Nat.reduceAdd, vv0, vv1, vv2, vv3, vv4, vv5, vv6, vv7, vv8, vv9, vv10, vv11, vv12, vv13, vv14, vv15, vv16, vv17, vv18, vv19, vv20, vv21, vv22, vv23, vv24, vv25, vv26, vv27, vv28, vv29, vv30, vv31, vv32, vv33, vv34, vv35, vv36, vv37, vv38, vv39, vv40, vv41, vv42, vv43, vv44, vv45, vv46, vv47, vv48, vv49, vv50, vv51, vv52, vv53, vv54, vv55, vv56, vv57, vv58, vv59, vv60, vv61, vv62, vv63, vv64, vv65, List.setIfInBounds_toArray, List.set_cons_zero, List.set_cons_succ]
    clear vv0 vv1 vv2 vv3 vv4 vv5 vv6 vv7 vv8 vv9 vv10 vv11 vv12 vv13 vv14 vv15 vv16 vv17 vv18 vv19 vv20 vv21 vv22 vv23 vv24 vv25 vv26 vv27 vv28 vv29 vv30 vv31 vv32 vv33 vv34 vv35 vv36 vv37 vv38 vv39 vv40 vv41 vv42 vv43 vv44 vv45 vv46 vv47 vv48 vv49 vv50 vv51 vv52 vv53 vv54 vv55 vv56 vv57 vv58 vv59 vv60 vv61 vv62 vv63 vv64 vv65
    have HW := Lib.hid hBW
    clear hbw hBW
    go_wp2
    go_ret
    exact ⟨rfl, HW.out⟩
set_option maxHeartbeats 40000000 in
theorem rsame22_l7 (w : World) (ao bo : Option Addr) (cap dap : Nat) (L M : List Int) (k lo a b n p x0 x1 x2 x3 x4 x5 x6 x7 x8 x9 x10 f0 f1 f2 f3 f4 f1' f2' f3' f4' x0' x1' x2' x3' x4' x5' x6' x7' x8' x9' x10' : Int) (ej : ¬ f1 = f1') :
    Calls Try.prog 20 #[.agg #[.int .i64 k, .int .i64 lo, .int .i64 a, .int .i64 b, .int .i64 n, .int .i64 p, .slice ao L.length cap, .int .i64 x0, .int .i64 x1, .int .i64 x2, .int .i64 x3, .int .i64 x4, .int .i64 x5, .int .i64 x6, .int .i64 x7, .int .i64 x8, .int .i64 x9, .int .i64 x10, .int .i64 f0, .int .i64 f1, .int .i64 f2, .int .i64 f3, .int .i64 f4], .agg #[.int .i64 k, .int .i64 lo, .int .i64 a, .int .i64 b, .int .i64 n, .int .i64 p, .slice bo M.length dap, .int .i64 x0', .int .i64 x1', .int .i64 x2', .int .i64 x3', .int .i64 x4', .int .i64 x5', .int .i64 x6', .int .i64 x7', .int .i64 x8', .int .i64 x9', .int .i64 x10', .int .i64 f0, .int .i64 f1', .int .i64 f2', .int .i64 f3', .int .i64 f4']] w fun e w' => e = .returned (.bool false) ∧ Below w.heap.size w w' := by
  have HB0 := Lib.hid (below_new2 w (.cells #[.int .i64 k, .int .i64 lo, .int .i64 a, .int .i64 b, .int .i64 n, .int .i64 p, .slice ao L.length cap, .int .i64 x0, .int .i64 x1, .int .i64 x2, .int .i64 x3, .int .i64 x4, .int .i64 x5, .int .i64 x6, .int .i64 x7, .int .i64 x8, .int .i64 x9, .int .i64 x10, .int .i64 f0, .int .i64 f1, .int .i64 f2, .int .i64 f3, .int .i64 f4] 45) (.cells #[.int .i64 k, .int .i64 lo, .int .i64 a, .int .i64 b, .int .i64 n, .int .i64 p, .slice bo M.length dap, .int .i64 x0', .int .i64 x1', .int .i64 x2', .int .i64 x3', .int .i64 x4', .int .i64 x5', .int .i64 x6', .int .i64 x7', .int .i64 x8', .int .i64 x9', .int .i64 x10', .int .i64 f0, .int .i64 f1', .int .i64 f2', .int .i64 f3', .int .i64 f4'] 45))
  have HA0 := Lib.hid ((Blk.new w 45 [.int .i64 k, .int .i64 lo, .int .i64 a, .int .i64 b, .int .i64 n, .int .i64 p, .slice ao L.length cap, .int .i64 x0, .int .i64 x1, .int .i64 x2, .int .i64 x3, .int .i64 x4, .int .i64 x5, .int .i64 x6, .int .i64 x7, .int .i64 x8, .int .i64 x9, .int .i64 x10, .int .i64 f0, .int .i64 f1, .int .i64 f2, .int .i64 f3, .int .i64 f4]).alloc (.cells #[.int .i64 k, .int .i64 lo, .int .i64 a, .int .i64 b, .int .i64 n, .int .i64 p, .slice bo M.length dap, .int .i64 x0', .int .i64 x1', .int .i64 x2', .int .i64 x3', .int .i64 x4', .int .i64 x5', .int .i64 x6', .int .i64 x7', .int .i64 x8', .int .i64 x9', .int .i64 x10', .int .i64 f0, .int .i64 f1', .int .i64 f2', .int .i64 f3', .int .i64 f4'] 45))
  have HB_0 := Lib.hid (Blk.new2 w (.cells #[.int .i64 k, .int .i64 lo, .int .i64 a, .int .i64 b, .int .i64 n, .int .i64 p, .slice ao L.length cap, .int .i64 x0, .int .i64 x1, .int .i64 x2, .int .i64 x3, .int .i64 x4, .int .i64 x5, .int .i64 x6, .int .i64 x7, .int .i64 x8, .int .i64 x9, .int .i64 x10, .int .i64 f0, .int .i64 f1, .int .i64 f2, .int .i64 f3, .int .i64 f4] 45) 45 [.int .i64 k, .int .i64 lo, .int .i64 a, .int .i64 b, .int .i64 n, .int .i64 p, .slice bo M.length dap, .int .i64 x0', .int .i64 x1', .int .i64 x2', .int .i64 x3', .int .i64 x4', .int .i64 x5', .int .i64 x6', .int .i64 x7', .int .i64 x8', .int .i64 x9', .int .i64 x10', .int .i64 f0, .int .i64 f1', .int .i64 f2', .int .i64 f3', .int .i64 f4'])
  have HN1 := Lib.hid (fun U => rnumbers_any U ao cap L x0 x1 x2 x3 x4 x5 x6 x7 x8 x9 x10)
  have HN2 := Lib.hid (fun U => rnumbers_any U bo dap M x0' x1' x2' x3' x4' x5' x6' x7' x8' x9' x10')
  have qq : (f1 == f1') = false := by simpa using ej
  go_enter Try.func20, Try.ntmps20
  go_wp2
  obtain ⟨gb, hgb⟩ : ∃ g, w.heap.size + 1 = g := ⟨_, rfl⟩
  obtain ⟨ga, hga⟩ : ∃ g, w.heap.size = g := ⟨_, rfl⟩
  rw [hga] at HA0
  rw [hgb] at HB_0
  simp only [hgb]
  simp only [hga]
  clear hga hgb
  refine region_mono (by kernel_rfl) (by kernel_rfl) [some 5, some 6, some 7, some 8, some 9, some 10, some 11, some 12, some 13, some 14, some 15, some 16, some 17, some 18, some 19, some 20, some 21, some 22, some 23, some 24, some 25, some 26, some 27, some 28, some 29, some 30, some 31, some 32, some 33, some 34, some 35, some 36, some 37, some 38, some 39, some 40, some 41, some 42, some 43, some 44, some 45, some 46, some 47, some 48, some 49, some 50, some 51, some 52, some 53, some 54, some 55, some 56, some 57, some 58, some 59, some 60, some 61, some 62, some 63, some 64, some 65, some 66, some 67, some 68, some 69, some 4] (by kernel_rfl) w.heap.size w HB0.out (Nat.le_refl _) (fun i v WW => match i with | 0 => v = .pointer (some ⟨ga, 0, none⟩) | 1 => v = .int .i64 k | 2 => v = .pointer (some ⟨gb, 0, none⟩) | 3 => v = .int .i64 k | 4 => v = .bool true | 5 => v = .bool true | 6 => v = .pointer (some ⟨ga, 1, none⟩) | 7 => v = .int .i64 lo | 8 => v = .pointer (some ⟨gb, 1, none⟩) | 9 => v = .int .i64 lo | 10 => v = .bool true | 11 => v = .bool true | 12 => v = .bool true | 13 => v = .pointer (some ⟨ga, 2, none⟩) | 14 => v = .int .i64 a | 15 => v = .pointer (some ⟨gb, 2, none⟩) | 16 => v = .int .i64 a | 17 => v = .bool true | 18 => v = .bool true | 19 => v = .bool true | 20 => v = .pointer (some ⟨ga, 3, none⟩) | 21 => v = .int .i64 b | 22 => v = .pointer (some ⟨gb, 3, none⟩) | 23 => v = .int .i64 b | 24 => v = .bool true | 25 => v = .bool true | 26 => v = .bool true | 27 => v = .pointer (some ⟨ga, 4, none⟩) | 28 => v = .int .i64 n | 29 => v = .pointer (some ⟨gb, 4, none⟩) | 30 => v = .int .i64 n | 31 => v = .bool true | 32 => v = .bool true | 33 => v = .bool true | 34 => v = .pointer (some ⟨ga, 5, none⟩) | 35 => v = .int .i64 p | 36 => v = .pointer (some ⟨gb, 5, none⟩) | 37 => v = .int .i64 p | 38 => v = .bool true | 39 => v = .bool true | 40 => v = .bool true | 41 => v = .pointer (some ⟨ga, 18, none⟩) | 42 => v = .agg #[.int .i64 f0, .int .i64 f1, .int .i64 f2, .int .i64 f3, .int .i64 f4] | 43 => v = .pointer (some ⟨gb, 18, none⟩) | 44 => v = .agg #[.int .i64 f0, .int .i64 f1', .int .i64 f2', .int .i64 f3', .int .i64 f4'] | 45 => v = .bool false | 46 => v = .bool false | 47 => v = .bool false | 48 => v = undef | 49 => v = undef | 50 => v = undef | 51 => v = undef | 52 => v = undef | 53 => v = undef | 54 => v = undef | 55 => v = .bool false | 56 => v = .bool false | 57 => v = undef | 58 => v = undef | 59 => v = undef | 60 => v = undef | 61 => v = undef | 62 => v = undef | 63 => v = undef | 64 => v = .bool false | 65 => v = .bool false | _ => True) ?_ ?_ ?_
  · intro i v WW WX h hbx
    rcases i with _ | _ | _ | _ | _ | _ | _ | _ | _ | _ | _ | _ | _ | _ | _ | _ | _ | _ | _ | _ | _ | _ | _ | _ | _ | _ | _ | _ | _ | _ | _ | _ | _ | _ | _ | _ | _ | _ | _ | _ | _ | _ | _ | _ | _ | _ | _ | _ | _ | _ | _ | _ | _ | _ | _ | _ | _ | _ | _ | _ | _ | _ | _ | _ | _ | _ | i
    · exact h
    · exact h
    · exact h
    · exact h
    · exact h
    · exact h
    · exact h
    · exact h
    · exact h
    · exact h
    · exact h
    · exact h
    · exact h
    · exact h
    · exact h
    · exact h
    · exact h
    · exact h
    · exact h
    · exact h
    · exact h
    · exact h
    · exact h
    · exact h
    · exact h
    · exact h
    · exact h
    · exact h
    · exact h
    · exact h
    · exact h
    · exact h
    · exact h
    · exact h
    · exact h
    · exact h
    · exact h
    · exact h
    · exact h
    · exact h
    · exact h
    · exact h
    · exact h
    · exact h
    · exact h
    · exact h
    · exact h
    · exact h
    · exact h
    · exact h
    · exact h
    · exact h
    · exact h
    · exact h
    · exact h
    · exact h
    · exact h
    · exact h
    · exact h
    · exact h
    · exact h
    · exact h
    · exact h
    · exact h
    · exact h
    · exact h
    · trivial
  · intro iI oO V AC WW ho hf hbw K hK
    have hlt : iI < 66 := by have := (Array.getElem?_eq_some_iff.1 ho).1; first | exact this | simpa using this
    rcases iI with _ | _ | _ | _ | _ | _ | _ | _ | _ | _ | _ | _ | _ | _ | _ | _ | _ | _ | _ | _ | _ | _ | _ | _ | _ | _ | _ | _ | _ | _ | _ | _ | _ | _ | _ | _ | _ | _ | _ | _ | _ | _ | _ | _ | _ | _ | _ | _ | _ | _ | _ | _ | _ | _ | _ | _ | _ | _ | _ | _ | _ | _ | _ | _ | _ | _ | iI
    · obtain rfl := Option.some.inj (show some _ = some oO from ho)
      rw [if_pos (by rfl)]
      have q2 : AC.tmps.getD 2 undef = .pointer (some ⟨ga, 0, none⟩) := hf.rest 2 (by kernel_rfl)
      go_simp
      exact hK _ _ (Below.refl _ _) rfl
    · obtain rfl := Option.some.inj (show some _ = some oO from ho)
      rw [if_pos (by rfl)]
      have q5 : AC.tmps.getD 5 undef = .pointer (some ⟨ga, 0, none⟩) := ((hf.dep ⟨0, .data⟩ (by simp) rfl).2 5 rfl).trans (hf.dep ⟨0, .data⟩ (by simp) rfl).1
      have hG := HA0.out.keeps hbw
      have z0 := hG.cell 0 _ rfl
      go_simp
      exact hK _ _ (Below.refl _ _) rfl
    · obtain rfl := Option.some.inj (show some _ = some oO from ho)
      rw [if_pos (by rfl)]
      have q3 : AC.tmps.getD 3 undef = .pointer (some ⟨gb, 0, none⟩) := hf.rest 3 (by kernel_rfl)
      go_simp
      exact hK _ _ (Below.refl _ _) rfl
    · obtain rfl := Option.some.inj (show some _ = some oO from ho)
      rw [if_pos (by rfl)]
      have q7 : AC.tmps.getD 7 undef = .pointer (some ⟨gb, 0, none⟩) := ((hf.dep ⟨2, .data⟩ (by simp) rfl).2 7 rfl).trans (hf.dep ⟨2, .data⟩ (by simp) rfl).1
      have hG := HB_0.out.keeps hbw
      have z0 := hG.cell 0 _ rfl
      go_simp
      exact hK _ _ (Below.refl _ _) rfl
    · obtain rfl := Option.some.inj (show some _ = some oO from ho)
      rw [if_pos (by rfl)]
      have q6 : AC.tmps.getD 6 undef = .int .i64 k := ((hf.dep ⟨1, .data⟩ (by simp) rfl).2 6 rfl).trans (hf.dep ⟨1, .data⟩ (by simp) rfl).1
      have q8 : AC.tmps.getD 8 undef = .int .i64 k := ((hf.dep ⟨3, .data⟩ (by simp) rfl).2 8 rfl).trans (hf.dep ⟨3, .data⟩ (by simp) rfl).1
      go_simp
      exact hK _ _ (Below.refl _ _) rfl
    · obtain rfl := Option.some.inj (show some _ = some oO from ho)
      rw [if_pos (by rfl)]
      have q9 : AC.tmps.getD 9 undef = .bool true := ((hf.dep ⟨4, .data⟩ (by simp) rfl).2 9 rfl).trans (hf.dep ⟨4, .data⟩ (by simp) rfl).1
      go_simp
      exact hK _ _ (Below.refl _ _) rfl
    · obtain rfl := Option.some.inj (show some _ = some oO from ho)
      rw [if_pos (wanted_yes (s := 10) rfl rfl rfl (by rw [hf.size]; simp) (((hf.dep ⟨5, .guard⟩ (by simp) rfl).2 10 rfl).trans (hf.dep ⟨5, .guard⟩ (by simp) rfl).1))]
      have q2 : AC.tmps.getD 2 undef = .pointer (some ⟨ga, 0, none⟩) := hf.rest 2 (by kernel_rfl)
      go_simp
      exact hK _ _ (Below.refl _ _) rfl
    · obtain rfl := Option.some.inj (show some _ = some oO from ho)
      rw [if_pos (wanted_yes (s := 10) rfl rfl rfl (by rw [hf.size]; simp) (((hf.dep ⟨5, .guard⟩ (by simp) rfl).2 10 rfl).trans (hf.dep ⟨5, .guard⟩ (by simp) rfl).1))]
      have q11 : AC.tmps.getD 11 undef = .pointer (some ⟨ga, 1, none⟩) := ((hf.dep ⟨6, .data⟩ (by simp) rfl).2 11 rfl).trans (hf.dep ⟨6, .data⟩ (by simp) rfl).1
      have hG := HA0.out.keeps hbw
      have z1 := hG.cell 1 _ rfl
      go_simp
      exact hK _ _ (Below.refl _ _) rfl
    · obtain rfl := Option.some.inj (show some _ = some oO from ho)
      rw [if_pos (wanted_yes (s := 10) rfl rfl rfl (by rw [hf.size]; simp) (((hf.dep ⟨5, .guard⟩ (by simp) rfl).2 10 rfl).trans (hf.dep ⟨5, .guard⟩ (by simp) rfl).1))]
      have q3 : AC.tmps.getD 3 undef = .pointer (some ⟨gb, 0, none⟩) := hf.rest 3 (by kernel_rfl)
      go_simp
      exact hK _ _ (Below.refl _ _) rfl
    · obtain rfl := Option.some.inj (show some _ = some oO from ho)
      rw [if_pos (wanted_yes (s := 10) rfl rfl rfl (by rw [hf.size]; simp) (((hf.dep ⟨5, .guard⟩ (by simp) rfl).2 10 rfl).trans (hf.dep ⟨5, .guard⟩ (by simp) rfl).1))]
      have q13 : AC.tmps.getD 13 undef = .pointer (some ⟨gb, 1, none⟩) := ((hf.dep ⟨8, .data⟩ (by simp) rfl).2 13 rfl).trans (hf.dep ⟨8, .data⟩ (by simp) rfl).1
      have hG := HB_0.out.keeps hbw
      have z1 := hG.cell 1 _ rfl
      go_simp
      exact hK _ _ (Below.refl _ _) rfl
    · obtain rfl := Option.some.inj (show some _ = some oO from ho)
      rw [if_pos (wanted_yes (s := 10) rfl rfl rfl (by rw [hf.size]; simp) (((hf.dep ⟨5, .guard⟩ (by simp) rfl).2 10 rfl).trans (hf.dep ⟨5, .guard⟩ (by simp) rfl).1))]
      have q12 : AC.tmps.getD 12 undef = .int .i64 lo := ((hf.dep ⟨7, .data⟩ (by simp) rfl).2 12 rfl).trans (hf.dep ⟨7, .data⟩ (by simp) rfl).1
      have q14 : AC.tmps.getD 14 undef = .int .i64 lo := ((hf.dep ⟨9, .data⟩ (by simp) rfl).2 14 rfl).trans (hf.dep ⟨9, .data⟩ (by simp) rfl).1
      go_simp
      exact hK _ _ (Below.refl _ _) rfl
    · obtain rfl := Option.some.inj (show some _ = some oO from ho)
      rw [if_pos (by rfl)]
      have q10 : AC.tmps.getD 10 undef = .bool true := ((hf.dep ⟨5, .data⟩ (by simp) rfl).2 10 rfl).trans (hf.dep ⟨5, .data⟩ (by simp) rfl).1
      have q15 : AC.tmps.getD 15 undef = .bool true := ((hf.dep ⟨10, .data⟩ (by simp) rfl).2 15 rfl).trans (hf.dep ⟨10, .data⟩ (by simp) rfl).1
      go_simp
      exact hK _ _ (Below.refl _ _) rfl
    · obtain rfl := Option.some.inj (show some _ = some oO from ho)
      rw [if_pos (by rfl)]
      have q16 : AC.tmps.getD 16 undef = .bool true := ((hf.dep ⟨11, .data⟩ (by simp) rfl).2 16 rfl).trans (hf.dep ⟨11, .data⟩ (by simp) rfl).1
      go_simp
      exact hK _ _ (Below.refl _ _) rfl
    · obtain rfl := Option.some.inj (show some _ = some oO from ho)
      rw [if_pos (wanted_yes (s := 17) rfl rfl rfl (by rw [hf.size]; simp) (((hf.dep ⟨12, .guard⟩ (by simp) rfl).2 17 rfl).trans (hf.dep ⟨12, .guard⟩ (by simp) rfl).1))]
      have q2 : AC.tmps.getD 2 undef = .pointer (some ⟨ga, 0, none⟩) := hf.rest 2 (by kernel_rfl)
      go_simp
      exact hK _ _ (Below.refl _ _) rfl
    · obtain rfl := Option.some.inj (show some _ = some oO from ho)
      rw [if_pos (wanted_yes (s := 17) rfl rfl rfl (by rw [hf.size]; simp) (((hf.dep ⟨12, .guard⟩ (by simp) rfl).2 17 rfl).trans (hf.dep ⟨12, .guard⟩ (by simp) rfl).1))]
      have q18 : AC.tmps.getD 18 undef = .pointer (some ⟨ga, 2, none⟩) := ((hf.dep ⟨13, .data⟩ (by simp) rfl).2 18 rfl).trans (hf.dep ⟨13, .data⟩ (by simp) rfl).1
      have hG := HA0.out.keeps hbw
      have z2 := hG.cell 2 _ rfl
      go_simp
      exact hK _ _ (Below.refl _ _) rfl
    · obtain rfl := Option.some.inj (show some _ = some oO from ho)
      rw [if_pos (wanted_yes (s := 17) rfl rfl rfl (by rw [hf.size]; simp) (((hf.dep ⟨12, .guard⟩ (by simp) rfl).2 17 rfl).trans (hf.dep ⟨12, .guard⟩ (by simp) rfl).1))]
      have q3 : AC.tmps.getD 3 undef = .pointer (some ⟨gb, 0, none⟩) := hf.rest 3 (by kernel_rfl)
      go_simp
      exact hK _ _ (Below.refl _ _) rfl
    · obtain rfl := Option.some.inj (show some _ = some oO from ho)
      rw [if_pos (wanted_yes (s := 17) rfl rfl rfl (by rw [hf.size]; simp) (((hf.dep ⟨12, .guard⟩ (by simp) rfl).2 17 rfl).trans (hf.dep ⟨12, .guard⟩ (by simp) rfl).1))]
      have q20 : AC.tmps.getD 20 undef = .pointer (some ⟨gb, 2, none⟩) := ((hf.dep ⟨15, .data⟩ (by simp) rfl).2 20 rfl).trans (hf.dep ⟨15, .data⟩ (by simp) rfl).1
      have hG := HB_0.out.keeps hbw
      have z2 := hG.cell 2 _ rfl
      go_simp
      exact hK _ _ (Below.refl _ _) rfl
    · obtain rfl := Option.some.inj (show some _ = some oO from ho)
      rw [if_pos (wanted_yes (s := 17) rfl rfl rfl (by rw [hf.size]; simp) (((hf.dep ⟨12, .guard⟩ (by simp) rfl).2 17 rfl).trans (hf.dep ⟨12, .guard⟩ (by simp) rfl).1))]
      have q19 : AC.tmps.getD 19 undef = .int .i64 a := ((hf.dep ⟨14, .data⟩ (by simp) rfl).2 19 rfl).trans (hf.dep ⟨14, .data⟩ (by simp) rfl).1
      have q21 : AC.tmps.getD 21 undef = .int .i64 a := ((hf.dep ⟨16, .data⟩ (by simp) rfl).2 21 rfl).trans (hf.dep ⟨16, .data⟩ (by simp) rfl).1
      go_simp
      exact hK _ _ (Below.refl _ _) rfl
    · obtain rfl := Option.some.inj (show some _ = some oO from ho)
      rw [if_pos (by rfl)]
      have q17 : AC.tmps.getD 17 undef = .bool true := ((hf.dep ⟨12, .data⟩ (by simp) rfl).2 17 rfl).trans (hf.dep ⟨12, .data⟩ (by simp) rfl).1
      have q22 : AC.tmps.getD 22 undef = .bool true := ((hf.dep ⟨17, .data⟩ (by simp) rfl).2 22 rfl).trans (hf.dep ⟨17, .data⟩ (by simp) rfl).1
      go_simp
      exact hK _ _ (Below.refl _ _) rfl
    · obtain rfl := Option.some.inj (show some _ = some oO from ho)
      rw [if_pos (by rfl)]
      have q23 : AC.tmps.getD 23 undef = .bool true := ((hf.dep ⟨18, .data⟩ (by simp) rfl).2 23 rfl).trans (hf.dep ⟨18, .data⟩ (by simp) rfl).1
      go_simp
      exact hK _ _ (Below.refl _ _) rfl
    · obtain rfl := Option.some.inj (show some _ = some oO from ho)
      rw [if_pos (wanted_yes (s := 24) rfl rfl rfl (by rw [hf.size]; simp) (((hf.dep ⟨19, .guard⟩ (by simp) rfl).2 24 rfl).trans (hf.dep ⟨19, .guard⟩ (by simp) rfl).1))]
      have q2 : AC.tmps.getD 2 undef = .pointer (some ⟨ga, 0, none⟩) := hf.rest 2 (by kernel_rfl)
      go_simp
      exact hK _ _ (Below.refl _ _) rfl
    · obtain rfl := Option.some.inj (show some _ = some oO from ho)
      rw [if_pos (wanted_yes (s := 24) rfl rfl rfl (by rw [hf.size]; simp) (((hf.dep ⟨19, .guard⟩ (by simp) rfl).2 24 rfl).trans (hf.dep ⟨19, .guard⟩ (by simp) rfl).1))]
      have q25 : AC.tmps.getD 25 undef = .pointer (some ⟨ga, 3, none⟩) := ((hf.dep ⟨20, .data⟩ (by simp) rfl).2 25 rfl).trans (hf.dep ⟨20, .data⟩ (by simp) rfl).1
      have hG := HA0.out.keeps hbw
      have z3 := hG.cell 3 _ rfl
      go_simp
      exact hK _ _ (Below.refl _ _) rfl
    · obtain rfl := Option.some.inj (show some _ = some oO from ho)
      rw [if_pos (wanted_yes (s := 24) rfl rfl rfl (by rw [hf.size]; simp) (((hf.dep ⟨19, .guard⟩ (by simp) rfl).2 24 rfl).trans (hf.dep ⟨19, .guard⟩ (by simp) rfl).1))]
      have q3 : AC.tmps.getD 3 undef = .pointer (some ⟨gb, 0, none⟩) := hf.rest 3 (by kernel_rfl)
      go_simp
      exact hK _ _ (Below.refl _ _) rfl
    · obtain rfl := Option.some.inj (show some _ = some oO from ho)
      rw [if_pos (wanted_yes (s := 24) rfl rfl rfl (by rw [hf.size]; simp) (((hf.dep ⟨19, .guard⟩ (by simp) rfl).2 24 rfl).trans (hf.dep ⟨19, .guard⟩ (by simp) rfl).1))]
      have q27 : AC.tmps.getD 27 undef = .pointer (some ⟨gb, 3, none⟩) := ((hf.dep ⟨22, .data⟩ (by simp) rfl).2 27 rfl).trans (hf.dep ⟨22, .data⟩ (by simp) rfl).1
      have hG := HB_0.out.keeps hbw
      have z3 := hG.cell 3 _ rfl
      go_simp
      exact hK _ _ (Below.refl _ _) rfl
    · obtain rfl := Option.some.inj (show some _ = some oO from ho)
      rw [if_pos (wanted_yes (s := 24) rfl rfl rfl (by rw [hf.size]; simp) (((hf.dep ⟨19, .guard⟩ (by simp) rfl).2 24 rfl).trans (hf.dep ⟨19, .guard⟩ (by simp) rfl).1))]
      have q26 : AC.tmps.getD 26 undef = .int .i64 b := ((hf.dep ⟨21, .data⟩ (by simp) rfl).2 26 rfl).trans (hf.dep ⟨21, .data⟩ (by simp) rfl).1
      have q28 : AC.tmps.getD 28 undef = .int .i64 b := ((hf.dep ⟨23, .data⟩ (by simp) rfl).2 28 rfl).trans (hf.dep ⟨23, .data⟩ (by simp) rfl).1
      go_simp
      exact hK _ _ (Below.refl _ _) rfl
    · obtain rfl := Option.some.inj (show some _ = some oO from ho)
      rw [if_pos (by rfl)]
      have q24 : AC.tmps.getD 24 undef = .bool true := ((hf.dep ⟨19, .data⟩ (by simp) rfl).2 24 rfl).trans (hf.dep ⟨19, .data⟩ (by simp) rfl).1
      have q29 : AC.tmps.getD 29 undef = .bool true := ((hf.dep ⟨24, .data⟩ (by simp) rfl).2 29 rfl).trans (hf.dep ⟨24, .data⟩ (by simp) rfl).1
      go_simp
      exact hK _ _ (Below.refl _ _) rfl
    · obtain rfl := Option.some.inj (show some _ = some oO from ho)
      rw [if_pos (by rfl)]
      have q30 : AC.tmps.getD 30 undef = .bool true := ((hf.dep ⟨25, .data⟩ (by simp) rfl).2 30 rfl).trans (hf.dep ⟨25, .data⟩ (by simp) rfl).1
      go_simp
      exact hK _ _ (Below.refl _ _) rfl
    · obtain rfl := Option.some.inj (show some _ = some oO from ho)
      rw [if_pos (wanted_yes (s := 31) rfl rfl rfl (by rw [hf.size]; simp) (((hf.dep ⟨26, .guard⟩ (by simp) rfl).2 31 rfl).trans (hf.dep ⟨26, .guard⟩ (by simp) rfl).1))]
      have q2 : AC.tmps.getD 2 undef = .pointer (some ⟨ga, 0, none⟩) := hf.rest 2 (by kernel_rfl)
      go_simp
      exact hK _ _ (Below.refl _ _) rfl
    · obtain rfl := Option.some.inj (show some _ = some oO from ho)
      rw [if_pos (wanted_yes (s := 31) rfl rfl rfl (by rw [hf.size]; simp) (((hf.dep ⟨26, .guard⟩ (by simp) rfl).2 31 rfl).trans (hf.dep ⟨26, .guard⟩ (by simp) rfl).1))]
      have q32 : AC.tmps.getD 32 undef = .pointer (some ⟨ga, 4, none⟩) := ((hf.dep ⟨27, .data⟩ (by simp) rfl).2 32 rfl).trans (hf.dep ⟨27, .data⟩ (by simp) rfl).1
      have hG := HA0.out.keeps hbw
      have z4 := hG.cell 4 _ rfl
      go_simp
      exact hK _ _ (Below.refl _ _) rfl
    · obtain rfl := Option.some.inj (show some _ = some oO from ho)
      rw [if_pos (wanted_yes (s := 31) rfl rfl rfl (by rw [hf.size]; simp) (((hf.dep ⟨26, .guard⟩ (by simp) rfl).2 31 rfl).trans (hf.dep ⟨26, .guard⟩ (by simp) rfl).1))]
      have q3 : AC.tmps.getD 3 undef = .pointer (some ⟨gb, 0, none⟩) := hf.rest 3 (by kernel_rfl)
      go_simp
      exact hK _ _ (Below.refl _ _) rfl
    · obtain rfl := Option.some.inj (show some _ = some oO from ho)
      rw [if_pos (wanted_yes (s := 31) rfl rfl rfl (by rw [hf.size]; simp) (((hf.dep ⟨26, .guard⟩ (by simp) rfl).2 31 rfl).trans (hf.dep ⟨26, .guard⟩ (by simp) rfl).1))]
      have q34 : AC.tmps.getD 34 undef = .pointer (some ⟨gb, 4, none⟩) := ((hf.dep ⟨29, .data⟩ (by simp) rfl).2 34 rfl).trans (hf.dep ⟨29, .data⟩ (by simp) rfl).1
      have hG := HB_0.out.keeps hbw
      have z4 := hG.cell 4 _ rfl
      go_simp
      exact hK _ _ (Below.refl _ _) rfl
    · obtain rfl := Option.some.inj (show some _ = some oO from ho)
      rw [if_pos (wanted_yes (s := 31) rfl rfl rfl (by rw [hf.size]; simp) (((hf.dep ⟨26, .guard⟩ (by simp) rfl).2 31 rfl).trans (hf.dep ⟨26, .guard⟩ (by simp) rfl).1))]
      have q33 : AC.tmps.getD 33 undef = .int .i64 n := ((hf.dep ⟨28, .data⟩ (by simp) rfl).2 33 rfl).trans (hf.dep ⟨28, .data⟩ (by simp) rfl).1
      have q35 : AC.tmps.getD 35 undef = .int .i64 n := ((hf.dep ⟨30, .data⟩ (by simp) rfl).2 35 rfl).trans (hf.dep ⟨30, .data⟩ (by simp) rfl).1
      go_simp
      exact hK _ _ (Below.refl _ _) rfl
    · obtain rfl := Option.some.inj (show some _ = some oO from ho)
      rw [if_pos (by rfl)]
      have q31 : AC.tmps.getD 31 undef = .bool true := ((hf.dep ⟨26, .data⟩ (by simp) rfl).2 31 rfl).trans (hf.dep ⟨26, .data⟩ (by simp) rfl).1
      have q36 : AC.tmps.getD 36 undef = .bool true := ((hf.dep ⟨31, .data⟩ (by simp) rfl).2 36 rfl).trans (hf.dep ⟨31, .data⟩ (by simp) rfl).1
      go_simp
      exact hK _ _ (Below.refl _ _) rfl
    · obtain rfl := Option.some.inj (show some _ = some oO from ho)
      rw [if_pos (by rfl)]
      have q37 : AC.tmps.getD 37 undef = .bool true := ((hf.dep ⟨32, .data⟩ (by simp) rfl).2 37 rfl).trans (hf.dep ⟨32, .data⟩ (by simp) rfl).1
      go_simp
      exact hK _ _ (Below.refl _ _) rfl
    · obtain rfl := Option.some.inj (show some _ = some oO from ho)
      rw [if_pos (wanted_yes (s := 38) rfl rfl rfl (by rw [hf.size]; simp) (((hf.dep ⟨33, .guard⟩ (by simp) rfl).2 38 rfl).trans (hf.dep ⟨33, .guard⟩ (by simp) rfl).1))]
      have q2 : AC.tmps.getD 2 undef = .pointer (some ⟨ga, 0, none⟩) := hf.rest 2 (by kernel_rfl)
      go_simp
      exact hK _ _ (Below.refl _ _) rfl
    · obtain rfl := Option.some.inj (show some _ = some oO from ho)
      rw [if_pos (wanted_yes (s := 38) rfl rfl rfl (by rw [hf.size]; simp) (((hf.dep ⟨33, .guard⟩ (by simp) rfl).2 38 rfl).trans (hf.dep ⟨33, .guard⟩ (by simp) rfl).1))]
      have q39 : AC.tmps.getD 39 undef = .pointer (some ⟨ga, 5, none⟩) := ((hf.dep ⟨34, .data⟩ (by simp) rfl).2 39 rfl).trans (hf.dep ⟨34, .data⟩ (by simp) rfl).1
      have hG := HA0.out.keeps hbw
      have z5 := hG.cell 5 _ rfl
      go_simp
      exact hK _ _ (Below.refl _ _) rfl
    · obtain rfl := Option.some.inj (show some _ = some oO from ho)
      rw [if_pos (wanted_yes (s := 38) rfl rfl rfl (by rw [hf.size]; simp) (((hf.dep ⟨33, .guard⟩ (by simp) rfl).2 38 rfl).trans (hf.dep ⟨33, .guard⟩ (by simp) rfl).1))]
      have q3 : AC.tmps.getD 3 undef = .pointer (some ⟨gb, 0, none⟩) := hf.rest 3 (by kernel_rfl)
      go_simp
      exact hK _ _ (Below.refl _ _) rfl
    · obtain rfl := Option.some.inj (show some _ = some oO from ho)
      rw [if_pos (wanted_yes (s := 38) rfl rfl rfl (by rw [hf.size]; simp) (((hf.dep ⟨33, .guard⟩ (by simp) rfl).2 38 rfl).trans (hf.dep ⟨33, .guard⟩ (by simp) rfl).1))]
      have q41 : AC.tmps.getD 41 undef = .pointer (some ⟨gb, 5, none⟩) := ((hf.dep ⟨36, .data⟩ (by simp) rfl).2 41 rfl).trans (hf.dep ⟨36, .data⟩ (by simp) rfl).1
      have hG := HB_0.out.keeps hbw
      have z5 := hG.cell 5 _ rfl
      go_simp
      exact hK _ _ (Below.refl _ _) rfl
    · obtain rfl := Option.some.inj (show some _ = some oO from ho)
      rw [if_pos (wanted_yes (s := 38) rfl rfl rfl (by rw [hf.size]; simp) (((hf.dep ⟨33, .guard⟩ (by simp) rfl).2 38 rfl).trans (hf.dep ⟨33, .guard⟩ (by simp) rfl).1))]
      have q40 : AC.tmps.getD 40 undef = .int .i64 p := ((hf.dep ⟨35, .data⟩ (by simp) rfl).2 40 rfl).trans (hf.dep ⟨35, .data⟩ (by simp) rfl).1
      have q42 : AC.tmps.getD 42 undef = .int .i64 p := ((hf.dep ⟨37, .data⟩ (by simp) rfl).2 42 rfl).trans (hf.dep ⟨37, .data⟩ (by simp) rfl).1
      go_simp
      exact hK _ _ (Below.refl _ _) rfl
    · obtain rfl := Option.some.inj (show some _ = some oO from ho)
      rw [if_pos (by rfl)]
      have q38 : AC.tmps.getD 38 undef = .bool true := ((hf.dep ⟨33, .data⟩ (by simp) rfl).2 38 rfl).trans (hf.dep ⟨33, .data⟩ (by simp) rfl).1
      have q43 : AC.tmps.getD 43 undef = .bool true := ((hf.dep ⟨38, .data⟩ (by simp) rfl).2 43 rfl).trans (hf.dep ⟨38, .data⟩ (by simp) rfl).1
      go_simp
      exact hK _ _ (Below.refl _ _) rfl
    · obtain rfl := Option.some.inj (show some _ = some oO from ho)
      rw [if_pos (by rfl)]
      have q44 : AC.tmps.getD 44 undef = .bool true := ((hf.dep ⟨39, .data⟩ (by simp) rfl).2 44 rfl).trans (hf.dep ⟨39, .data⟩ (by simp) rfl).1
      go_simp
      exact hK _ _ (Below.refl _ _) rfl
    · obtain rfl := Option.some.inj (show some _ = some oO from ho)
      rw [if_pos (wanted_yes (s := 45) rfl rfl rfl (by rw [hf.size]; simp) (((hf.dep ⟨40, .guard⟩ (by simp) rfl).2 45 rfl).trans (hf.dep ⟨40, .guard⟩ (by simp) rfl).1))]
      have q2 : AC.tmps.getD 2 undef = .pointer (some ⟨ga, 0, none⟩) := hf.rest 2 (by kernel_rfl)
      go_simp
      exact hK _ _ (Below.refl _ _) rfl
    · obtain rfl := Option.some.inj (show some _ = some oO from ho)
      rw [if_pos (wanted_yes (s := 45) rfl rfl rfl (by rw [hf.size]; simp) (((hf.dep ⟨40, .guard⟩ (by simp) rfl).2 45 rfl).trans (hf.dep ⟨40, .guard⟩ (by simp) rfl).1))]
      have q46 : AC.tmps.getD 46 undef = .pointer (some ⟨ga, 18, none⟩) := ((hf.dep ⟨41, .data⟩ (by simp) rfl).2 46 rfl).trans (hf.dep ⟨41, .data⟩ (by simp) rfl).1
      have hG := HA0.out.keeps hbw
      have z18 := hG.cell 18 _ rfl
      have z19 := hG.cell 19 _ rfl
      have z20 := hG.cell 20 _ rfl
      have z21 := hG.cell 21 _ rfl
      have z22 := hG.cell 22 _ rfl
      go_simp
      exact hK _ _ (Below.refl _ _) rfl
    · obtain rfl := Option.some.inj (show some _ = some oO from ho)
      rw [if_pos (wanted_yes (s := 45) rfl rfl rfl (by rw [hf.size]; simp) (((hf.dep ⟨40, .guard⟩ (by simp) rfl).2 45 rfl).trans (hf.dep ⟨40, .guard⟩ (by simp) rfl).1))]
      have q3 : AC.tmps.getD 3 undef = .pointer (some ⟨gb, 0, none⟩) := hf.rest 3 (by kernel_rfl)
      go_simp
      exact hK _ _ (Below.refl _ _) rfl
    · obtain rfl := Option.some.inj (show some _ = some oO from ho)
      rw [if_pos (wanted_yes (s := 45) rfl rfl rfl (by rw [hf.size]; simp) (((hf.dep ⟨40, .guard⟩ (by simp) rfl).2 45 rfl).trans (hf.dep ⟨40, .guard⟩ (by simp) rfl).1))]
      have q48 : AC.tmps.getD 48 undef = .pointer (some ⟨gb, 18, none⟩) := ((hf.dep ⟨43, .data⟩ (by simp) rfl).2 48 rfl).trans (hf.dep ⟨43, .data⟩ (by simp) rfl).1
      have hG := HB_0.out.keeps hbw
      have z18 := hG.cell 18 _ rfl
      have z19 := hG.cell 19 _ rfl
      have z20 := hG.cell 20 _ rfl
      have z21 := hG.cell 21 _ rfl
      have z22 := hG.cell 22 _ rfl
      go_simp
      exact hK _ _ (Below.refl _ _) rfl
    · obtain rfl := Option.some.inj (show some _ = some oO from ho)
      rw [if_pos (wanted_yes (s := 45) rfl rfl rfl (by rw [hf.size]; simp) (((hf.dep ⟨40, .guard⟩ (by simp) rfl).2 45 rfl).trans (hf.dep ⟨40, .guard⟩ (by simp) rfl).1))]
      have q47 : AC.tmps.getD 47 undef = .agg #[.int .i64 f0, .int .i64 f1, .int .i64 f2, .int .i64 f3, .int .i64 f4] := ((hf.dep ⟨42, .data⟩ (by simp) rfl).2 47 rfl).trans (hf.dep ⟨42, .data⟩ (by simp) rfl).1
      have q49 : AC.tmps.getD 49 undef = .agg #[.int .i64 f0, .int .i64 f1', .int .i64 f2', .int .i64 f3', .int .i64 f4'] := ((hf.dep ⟨44, .data⟩ (by simp) rfl).2 49 rfl).trans (hf.dep ⟨44, .data⟩ (by simp) rfl).1
      go_simp
      exact hK _ _ (Below.refl _ _) rfl
    · obtain rfl := Option.some.inj (show some _ = some oO from ho)
      rw [if_pos (by rfl)]
      have q45 : AC.tmps.getD 45 undef = .bool true := ((hf.dep ⟨40, .data⟩ (by simp) rfl).2 45 rfl).trans (hf.dep ⟨40, .data⟩ (by simp) rfl).1
      have q50 : AC.tmps.getD 50 undef = .bool false := ((hf.dep ⟨45, .data⟩ (by simp) rfl).2 50 rfl).trans (hf.dep ⟨45, .data⟩ (by simp) rfl).1
      go_simp
      exact hK _ _ (Below.refl _ _) rfl
    · obtain rfl := Option.some.inj (show some _ = some oO from ho)
      rw [if_pos (by rfl)]
      have q51 : AC.tmps.getD 51 undef = .bool false := ((hf.dep ⟨46, .data⟩ (by simp) rfl).2 51 rfl).trans (hf.dep ⟨46, .data⟩ (by simp) rfl).1
      go_simp
      exact hK _ _ (Below.refl _ _) rfl
    · obtain rfl := Option.some.inj (show some _ = some oO from ho)
      rw [if_neg (wanted_no (s := 52) rfl rfl rfl (by rw [hf.size]; simp) (((hf.dep ⟨47, .guard⟩ (by simp) rfl).2 52 rfl).trans (hf.dep ⟨47, .guard⟩ (by simp) rfl).1) rfl)]
      exact hK _ _ (Below.refl _ _) rfl
    · obtain rfl := Option.some.inj (show some _ = some oO from ho)
      rw [if_neg (wanted_no (s := 52) rfl rfl rfl (by rw [hf.size]; simp) (((hf.dep ⟨47, .guard⟩ (by simp) rfl).2 52 rfl).trans (hf.dep ⟨47, .guard⟩ (by simp) rfl).1) rfl)]
      exact hK _ _ (Below.refl _ _) rfl
    · obtain rfl := Option.some.inj (show some _ = some oO from ho)
      rw [if_neg (wanted_no (s := 52) rfl rfl rfl (by rw [hf.size]; simp) (((hf.dep ⟨47, .guard⟩ (by simp) rfl).2 52 rfl).trans (hf.dep ⟨47, .guard⟩ (by simp) rfl).1) rfl)]
      exact hK _ _ (Below.refl _ _) rfl
    · obtain rfl := Option.some.inj (show some _ = some oO from ho)
      rw [if_neg (wanted_no (s := 52) rfl rfl rfl (by rw [hf.size]; simp) (((hf.dep ⟨47, .guard⟩ (by simp) rfl).2 52 rfl).trans (hf.dep ⟨47, .guard⟩ (by simp) rfl).1) rfl)]
      exact hK _ _ (Below.refl _ _) rfl
    · obtain rfl := Option.some.inj (show some _ = some oO from ho)
      rw [if_neg (wanted_no (s := 52) rfl rfl rfl (by rw [hf.size]; simp) (((hf.dep ⟨47, .guard⟩ (by simp) rfl).2 52 rfl).trans (hf.dep ⟨47, .guard⟩ (by simp) rfl).1) rfl)]
      exact hK _ _ (Below.refl _ _) rfl
    · obtain rfl := Option.some.inj (show some _ = some oO from ho)
      rw [if_neg (wanted_no (s := 52) rfl rfl rfl (by rw [hf.size]; simp) (((hf.dep ⟨47, .guard⟩ (by simp) rfl).2 52 rfl).trans (hf.dep ⟨47, .guard⟩ (by simp) rfl).1) rfl)]
      exact hK _ _ (Below.refl _ _) rfl
    · obtain rfl := Option.some.inj (show some _ = some oO from ho)
      rw [if_neg (wanted_no (s := 52) rfl rfl rfl (by rw [hf.size]; simp) (((hf.dep ⟨47, .guard⟩ (by simp) rfl).2 52 rfl).trans (hf.dep ⟨47, .guard⟩ (by simp) rfl).1) rfl)]
      exact hK _ _ (Below.refl _ _) rfl
    · obtain rfl := Option.some.inj (show some _ = some oO from ho)
      rw [if_pos (by rfl)]
      have q52 : AC.tmps.getD 52 undef = .bool false := ((hf.dep ⟨47, .data⟩ (by simp) rfl).2 52 rfl).trans (hf.dep ⟨47, .data⟩ (by simp) rfl).1
      have q59 : AC.tmps.getD 59 undef = undef := ((hf.dep ⟨54, .data⟩ (by simp) rfl).2 59 rfl).trans (hf.dep ⟨54, .data⟩ (by simp) rfl).1
      go_simp
      exact hK _ _ (Below.refl _ _) rfl
    · obtain rfl := Option.some.inj (show some _ = some oO from ho)
      rw [if_pos (by rfl)]
      have q60 : AC.tmps.getD 60 undef = .bool false := ((hf.dep ⟨55, .data⟩ (by simp) rfl).2 60 rfl).trans (hf.dep ⟨55, .data⟩ (by simp) rfl).1
      go_simp
      exact hK _ _ (Below.refl _ _) rfl
    · obtain rfl := Option.some.inj (show some _ = some oO from ho)
      rw [if_neg (wanted_no (s := 61) rfl rfl rfl (by rw [hf.size]; simp) (((hf.dep ⟨56, .guard⟩ (by simp) rfl).2 61 rfl).trans (hf.dep ⟨56, .guard⟩ (by simp) rfl).1) rfl)]
      exact hK _ _ (Below.refl _ _) rfl
    · obtain rfl := Option.some.inj (show some _ = some oO from ho)
      rw [if_neg (wanted_no (s := 61) rfl rfl rfl (by rw [hf.size]; simp) (((hf.dep ⟨56, .guard⟩ (by simp) rfl).2 61 rfl).trans (hf.dep ⟨56, .guard⟩ (by simp) rfl).1) rfl)]
      exact hK _ _ (Below.refl _ _) rfl
    · obtain rfl := Option.some.inj (show some _ = some oO from ho)
      rw [if_neg (wanted_no (s := 61) rfl rfl rfl (by rw [hf.size]; simp) (((hf.dep ⟨56, .guard⟩ (by simp) rfl).2 61 rfl).trans (hf.dep ⟨56, .guard⟩ (by simp) rfl).1) rfl)]
      exact hK _ _ (Below.refl _ _) rfl
    · obtain rfl := Option.some.inj (show some _ = some oO from ho)
      rw [if_neg (wanted_no (s := 61) rfl rfl rfl (by rw [hf.size]; simp) (((hf.dep ⟨56, .guard⟩ (by simp) rfl).2 61 rfl).trans (hf.dep ⟨56, .guard⟩ (by simp) rfl).1) rfl)]
      exact hK _ _ (Below.refl _ _) rfl
    · obtain rfl := Option.some.inj (show some _ = some oO from ho)
      rw [if_neg (wanted_no (s := 61) rfl rfl rfl (by rw [hf.size]; simp) (((hf.dep ⟨56, .guard⟩ (by simp) rfl).2 61 rfl).trans (hf.dep ⟨56, .guard⟩ (by simp) rfl).1) rfl)]
      exact hK _ _ (Below.refl _ _) rfl
    · obtain rfl := Option.some.inj (show some _ = some oO from ho)
      rw [if_neg (wanted_no (s := 61) rfl rfl rfl (by rw [hf.size]; simp) (((hf.dep ⟨56, .guard⟩ (by simp) rfl).2 61 rfl).trans (hf.dep ⟨56, .guard⟩ (by simp) rfl).1) rfl)]
      exact hK _ _ (Below.refl _ _) rfl
    · obtain rfl := Option.some.inj (show some _ = some oO from ho)
      rw [if_neg (wanted_no (s := 61) rfl rfl rfl (by rw [hf.size]; simp) (((hf.dep ⟨56, .guard⟩ (by simp) rfl).2 61 rfl).trans (hf.dep ⟨56, .guard⟩ (by simp) rfl).1) rfl)]
      exact hK _ _ (Below.refl _ _) rfl
    · obtain rfl := Option.some.inj (show some _ = some oO from ho)
      rw [if_pos (by rfl)]
      have q61 : AC.tmps.getD 61 undef = .bool false := ((hf.dep ⟨56, .data⟩ (by simp) rfl).2 61 rfl).trans (hf.dep ⟨56, .data⟩ (by simp) rfl).1
      have q68 : AC.tmps.getD 68 undef = undef := ((hf.dep ⟨63, .data⟩ (by simp) rfl).2 68 rfl).trans (hf.dep ⟨63, .data⟩ (by simp) rfl).1
      go_simp
      exact hK _ _ (Below.refl _ _) rfl
    · obtain rfl := Option.some.inj (show some _ = some oO from ho)
      rw [if_pos (by rfl)]
      have q69 : AC.tmps.getD 69 undef = .bool false := ((hf.dep ⟨64, .data⟩ (by simp) rfl).2 69 rfl).trans (hf.dep ⟨64, .data⟩ (by simp) rfl).1
      go_simp
      exact hK _ _ (Below.refl _ _) rfl
    · omega
  · intro V WW hall hbw hBW
    have vv0 : V 0 = .pointer (some ⟨ga, 0, none⟩) := hall 0 (by decide)
    have vv1 : V 1 = .int .i64 k := hall 1 (by decide)
    have vv2 : V 2 = .pointer (some ⟨gb, 0, none⟩) := hall 2 (by decide)
    have vv3 : V 3 = .int .i64 k := hall 3 (by decide)
    have vv4 : V 4 = .bool true := hall 4 (by decide)
    have vv5 : V 5 = .bool true := hall 5 (by decide)
    have vv6 : V 6 = .pointer (some ⟨ga, 1, none⟩) := hall 6 (by decide)
    have vv7 : V 7 = .int .i64 lo := hall 7 (by decide)
    have vv8 : V 8 = .pointer (some ⟨gb, 1, none⟩) := hall 8 (by decide)
    have vv9 : V 9 = .int .i64 lo := hall 9 (by decide)
    have vv10 : V 10 = .bool true := hall 10 (by decide)
    have vv11 : V 11 = .bool true := hall 11 (by decide)
    have vv12 : V 12 = .bool true := hall 12 (by decide)
    have vv13 : V 13 = .pointer (some ⟨ga, 2, none⟩) := hall 13 (by decide)
    have vv14 : V 14 = .int .i64 a := hall 14 (by decide)
    have vv15 : V 15 = .pointer (some ⟨gb, 2, none⟩) := hall 15 (by decide)
    have vv16 : V 16 = .int .i64 a := hall 16 (by decide)
    have vv17 : V 17 = .bool true := hall 17 (by decide)
    have vv18 : V 18 = .bool true := hall 18 (by decide)
    have vv19 : V 19 = .bool true := hall 19 (by decide)
    have vv20 : V 20 = .pointer (some ⟨ga, 3, none⟩) := hall 20 (by decide)
    have vv21 : V 21 = .int .i64 b := hall 21 (by decide)
    have vv22 : V 22 = .pointer (some ⟨gb, 3, none⟩) := hall 22 (by decide)
    have vv23 : V 23 = .int .i64 b := hall 23 (by decide)
    have vv24 : V 24 = .bool true := hall 24 (by decide)
    have vv25 : V 25 = .bool true := hall 25 (by decide)
    have vv26 : V 26 = .bool true := hall 26 (by decide)
    have vv27 : V 27 = .pointer (some ⟨ga, 4, none⟩) := hall 27 (by decide)
    have vv28 : V 28 = .int .i64 n := hall 28 (by decide)
    have vv29 : V 29 = .pointer (some ⟨gb, 4, none⟩) := hall 29 (by decide)
    have vv30 : V 30 = .int .i64 n := hall 30 (by decide)
    have vv31 : V 31 = .bool true := hall 31 (by decide)
    have vv32 : V 32 = .bool true := hall 32 (by decide)
    have vv33 : V 33 = .bool true := hall 33 (by decide)
    have vv34 : V 34 = .pointer (some ⟨ga, 5, none⟩) := hall 34 (by decide)
    have vv35 : V 35 = .int .i64 p := hall 35 (by decide)
    have vv36 : V 36 = .pointer (some ⟨gb, 5, none⟩) := hall 36 (by decide)
    have vv37 : V 37 = .int .i64 p := hall 37 (by decide)
    have vv38 : V 38 = .bool true := hall 38 (by decide)
    have vv39 : V 39 = .bool true := hall 39 (by decide)
    have vv40 : V 40 = .bool true := hall 40 (by decide)
    have vv41 : V 41 = .pointer (some ⟨ga, 18, none⟩) := hall 41 (by decide)
    have vv42 : V 42 = .agg #[.int .i64 f0, .int .i64 f1, .int .i64 f2, .int .i64 f3, .int .i64 f4] := hall 42 (by decide)
    have vv43 : V 43 = .pointer (some ⟨gb, 18, none⟩) := hall 43 (by decide)
    have vv44 : V 44 = .agg #[.int .i64 f0, .int .i64 f1', .int .i64 f2', .int .i64 f3', .int .i64 f4'] := hall 44 (by decide)
    have vv45 : V 45 = .bool false := hall 45 (by decide)
    have vv46 : V 46 = .bool false := hall 46 (by decide)
    have vv47 : V 47 = .bool false := hall 47 (by decide)
    have vv48 : V 48 = undef := hall 48 (by decide)
    have vv49 : V 49 = undef := hall 49 (by decide)
    have vv50 : V 50 = undef := hall 50 (by decide)
    have vv51 : V 51 = undef := hall 51 (by decide)
    have vv52 : V 52 = undef := hall 52 (by decide)
    have vv53 : V 53 = undef := hall 53 (by decide)
    have vv54 : V 54 = undef := hall 54 (by decide)
    have vv55 : V 55 = .bool false := hall 55 (by decide)
    have vv56 : V 56 = .bool false := hall 56 (by decide)
    have vv57 : V 57 = undef := hall 57 (by decide)
    have vv58 : V 58 = undef := hall 58 (by decide)
    have vv59 : V 59 = undef := hall 59 (by decide)
    have vv60 : V 60 = undef := hall 60 (by decide)
    have vv61 : V 61 = undef := hall 61 (by decide)
    have vv62 : V 62 = undef := hall 62 (by decide)
    have vv63 : V 63 = undef := hall 63 (by decide)
    have vv64 : V 64 = .bool false := hall 64 (by decide)
    have vv65 : V 65 = .bool false := hall 65 (by decide)
    clear hall
    simp only [pairsOf, laid, Nat.zero_add, Nat.reduceAdd, vv0, vv1, vv2, vv3, vv4, vv5, vv6, vv7, vv8, vv9, vv10, vv11, vv12, vv13, vv14, vv15, vv16, vv17, vv18, vv19, vv20, vv21, vv22, vv23, vv24, vv25, vv26, vv27, vv28, vv29, vv30, vv31, vv32, vv33, vv34, vv35, vv36, vv37, vv38, vv39, vv40, vv41, vv42, vv43, vv44, vv45, vv46, vv47, vv48, vv49, vv50, vv51, vv52, vv53, vv54, vv55, vv56, vv57, vv58, vv59, vv60, vv61, vv62, vv63, vv64, vv65, List.setIfInBounds_toArray, List.set_cons_zero, List.set_cons_succ]
    clear vv0 vv1 vv2 vv3 vv4 vv5 vv6 vv7 vv8 vv9 vv10 vv11 vv12 vv13 vv14 vv15 vv16 vv17 vv18 vv19 vv20 vv21 vv22 vv23 vv24 vv25 vv26 vv27 vv28 vv29 vv30 vv31 vv32 vv33 vv34 vv35 vv36 vv37 vv38 vv39 vv40 vv41 vv42 vv43 vv44 vv45 vv46 vv47 vv48 vv49 vv50 vv51 vv52 vv53 vv54 vv55 vv56 vv57 vv58 vv59 vv60 vv61 vv62 vv63 vv64 vv65
    have HW := Lib.hid hBW
    clear hbw hBW
    go_wp2
    go_ret
    exact ⟨rfl, HW.out⟩
end Go.Proofs.Ytdkcccigmejikaa
