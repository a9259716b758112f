/-
  The walks of wide.Cross and the reference's Cross.
-/
import Derived.Test.YtleeifknicilhaaWide
import Derived.Test.YtleeifknicilhaaMono
import Derived.Test.YtleeifknicilhaaTimes
set_option linter.unusedVariables false
set_option linter.unusedSimpArgs false
namespace Go.Proofs.Ytleeifknicilhaa
open Go.RowKit Dg

theorem cmp_or (x y : Int) : (if cmpI (absI x / 18446744073709551616) (absI y / 18446744073709551616) = 0 then cmpI (absI x % 18446744073709551616) (absI y % 18446744073709551616) else cmpI (absI x / 18446744073709551616) (absI y / 18446744073709551616)) = cmpI (absI x) (absI y) := by
  have hx := absI_nonneg x; have hy := absI_nonneg y
  generalize absI x = a at *
  generalize absI y = b at *
  unfold cmpI
  split <;> (repeat' split) <;> omega
theorem cross_sign (x y : Int) : cmpI x y = if x < 0 then (if y < 0 then -cmpI (absI x) (absI y) else -1) else (if y < 0 then 1 else cmpI (absI x) (absI y)) := by
  unfold cmpI absI
  repeat' split
  all_goals omega
set_option maxRecDepth 8000 in
set_option maxHeartbeats 1600000 in
theorem cross_any (a b c d : Int) (ha0 : -9223372036854775808 ≤ a) (ha1 : a ≤ 9223372036854775807) (hb0 : -9223372036854775808 ≤ b) (hb1 : b ≤ 9223372036854775807) (hc0 : -9223372036854775808 ≤ c) (hc1 : c ≤ 9223372036854775807) (hd0 : -9223372036854775808 ≤ d) (hd1 : d ≤ 9223372036854775807) (w : World) :
    Calls Try.prog 22 #[.int .i64 a, .int .i64 b, .int .i64 c, .int .i64 d] w fun e w' => e = .returned (.int .i64 (cmpI (a * b) (c * d))) ∧ Below w.heap.size w w' := by
  have HX := Lib.hid (fun W => product_any a b ha0 ha1 hb0 hb1 W)
  have HY := Lib.hid (fun W => product_any c d hc0 hc1 hd0 hd1 W)
  obtain ⟨x, hx⟩ : ∃ z, a * b = z := ⟨_, rfl⟩
  obtain ⟨y, hy⟩ : ∃ z, c * d = z := ⟨_, rfl⟩
  rw [hx] at HX; rw [hy] at HY; rw [hx, hy]
  have hor := cmp_or x y
  have hcs := cross_sign x y
  unfold wh at HX HY
  have hs1 : ∃ m, decide (x < 0) = m := ⟨_, rfl⟩
  have hs2 : ∃ m, decide (y < 0) = m := ⟨_, rfl⟩
  obtain ⟨m1, hm1⟩ := hs1
  obtain ⟨m2, hm2⟩ := hs2
  obtain ⟨h1, hh1⟩ : ∃ n, absI x / 18446744073709551616 = n := ⟨_, rfl⟩
  obtain ⟨l1, hl1⟩ : ∃ n, absI x % 18446744073709551616 = n := ⟨_, rfl⟩
  obtain ⟨h2, hh2⟩ : ∃ n, absI y / 18446744073709551616 = n := ⟨_, rfl⟩
  obtain ⟨l2, hl2⟩ : ∃ n, absI y % 18446744073709551616 = n := ⟨_, rfl⟩
  rw [hm1, hh1, hl1] at HX
  rw [hm2, hh2, hl2] at HY
  rw [hh1, hh2, hl1, hl2] at hor
  have HCH := Lib.hid (fun W => compare_u64 h1 h2 W)
  have HCL := Lib.hid (fun W => compare_u64 l1 l2 W)
  obtain ⟨ch, hch⟩ : ∃ n, cmpI h1 h2 = n := ⟨_, rfl⟩
  obtain ⟨cl, hcl⟩ : ∃ n, cmpI l1 l2 = n := ⟨_, rfl⟩
  rw [hch] at HCH hor; rw [hcl] at HCL hor
  have HOR := Lib.hid (fun W g h => or_any ch cl W g h)
  rw [hor] at HOR
  obtain ⟨o, ho⟩ : ∃ n, cmpI (absI x) (absI y) = n := ⟨_, rfl⟩
  have horng := cmpI_range (absI x) (absI y)
  rw [ho] at HOR hcs horng
  obtain ⟨r, hr⟩ : ∃ r, cmpI x y = r := ⟨_, rfl⟩
  rw [hr] at hcs ⊢
  have HR : Hid (r = if m1 = true then (if m2 = true then -o else -1) else (if m2 = true then 1 else o)) := by
    show _ = _
    rw [hcs, ← hm1, ← hm2]; simp
  obtain ⟨o0, o1⟩ := horng
  clear hx hy hor hcs hm1 hm2 hh1 hl1 hh2 hl2 hch hcl ho hr
  go_enter Try.func22, Try.ntmps22
  go_wp2_with fail
  refine (HX.out _).mono ?_
  rintro e w1 ⟨rfl, hb1⟩
  have B1 := Lib.hid hb1
  clear hb1
  go_wp2_with fail
  refine (HY.out _).mono ?_
  rintro e w2 ⟨rfl, hb2⟩
  have B2 := Lib.hid (below_on B1.out B1.out.size hb2)
  clear hb2 B1
  have HA := Lib.hid ((Blk.new w2 52 [.bool m1, .int .u64 h1, .int .u64 l1]).alloc (.cells #[.bool m2, .int .u64 h2, .int .u64 l2] 52))
  have HB := Lib.hid (Blk.new2 w2 (.cells #[.bool m1, .int .u64 h1, .int .u64 l1] 52) 52 [.bool m2, .int .u64 h2, .int .u64 l2])
  have B3 := Lib.hid ((B2.out.alloc B2.out.size (.cells #[.bool m1, .int .u64 h1, .int .u64 l1] 52)).alloc (by have := B2.out.size; simp; omega) (.cells #[.bool m2, .int .u64 h2, .int .u64 l2] 52))
  clear B2
  go_wp2_with fail
  refine region_mono (by kernel_rfl) (by kernel_rfl) [some 18, some 19, some 20, some 21, some 22, some 23, some 24, some 25, some 26, some 27, some 28, some 29, some 11] (by kernel_rfl) w.heap.size w B3.out (Nat.le_refl _) (fun i v WW => match i with | 0 => v = .pointer (some ⟨w2.heap.size, 1, none⟩) | 1 => v = .int .u64 h1 | 2 => v = .pointer (some ⟨w2.heap.size + 1, 1, none⟩) | 3 => v = .int .u64 h2 | 4 => v = .int .i64 ch | 5 => v = .pointer (some ⟨w2.heap.size, 2, none⟩) | 6 => v = .int .u64 l1 | 7 => v = .pointer (some ⟨w2.heap.size + 1, 2, none⟩) | 8 => v = .int .u64 l2 | 9 => v = .int .i64 cl | 10 => ∃ g, v = .slice (some ⟨g, 0, none⟩) 2 2 ∧ Blk WW g 3 [.int .i64 ch, .int .i64 cl] | 11 => v = .int .i64 o | 12 => v = .int .i64 o | _ => True) ?_ ?_ ?_
  · intro i v WW WX h hbx
    rcases i with _ | _ | _ | _ | _ | _ | _ | _ | _ | _ | _ | _ | _ | i
    · exact h
    · exact h
    · exact h
    · exact h
    · exact h
    · exact h
    · exact h
    · exact h
    · exact h
    · exact h
    · obtain ⟨g, e, h1⟩ := h; exact ⟨g, e, h1.keeps hbx⟩
    · exact h
    · exact h
    · trivial
  · intro iI oO V AC WW ho hf hbw K hK
    have hlt : iI < 13 := (Array.getElem?_eq_some_iff.1 ho).1
    rcases iI with _ | _ | _ | _ | _ | _ | _ | _ | _ | _ | _ | _ | _ | iI
    · obtain rfl := Option.some.inj (show some _ = some oO from ho)
      rw [if_pos (by rfl)]
      have q9 : AC.tmps.getD 9 undef = .pointer (some ⟨w2.heap.size, 0, none⟩) := hf.rest 9 (by kernel_rfl)
      go_simp
      exact hK _ _ (Below.refl _ _) rfl
    · obtain rfl := Option.some.inj (show some _ = some oO from ho)
      rw [if_pos (by rfl)]
      have q18 : AC.tmps.getD 18 undef = .pointer (some ⟨w2.heap.size, 1, none⟩) := ((hf.dep ⟨0, .data⟩ (by simp) rfl).2 18 rfl).trans (hf.dep ⟨0, .data⟩ (by simp) rfl).1
      have hk := HA.out.keeps hbw
      have z1 := hk.cell 1 _ rfl
      go_simp
      exact hK _ _ (Below.refl _ _) rfl
    · obtain rfl := Option.some.inj (show some _ = some oO from ho)
      rw [if_pos (by rfl)]
      have q10 : AC.tmps.getD 10 undef = .pointer (some ⟨w2.heap.size + 1, 0, none⟩) := hf.rest 10 (by kernel_rfl)
      go_simp
      exact hK _ _ (Below.refl _ _) rfl
    · obtain rfl := Option.some.inj (show some _ = some oO from ho)
      rw [if_pos (by rfl)]
      have q20 : AC.tmps.getD 20 undef = .pointer (some ⟨w2.heap.size + 1, 1, none⟩) := ((hf.dep ⟨2, .data⟩ (by simp) rfl).2 20 rfl).trans (hf.dep ⟨2, .data⟩ (by simp) rfl).1
      have hk := HB.out.keeps hbw
      have z1 := hk.cell 1 _ rfl
      go_simp
      exact hK _ _ (Below.refl _ _) rfl
    · obtain rfl := Option.some.inj (show some _ = some oO from ho)
      rw [if_pos (by rfl)]
      have q19 : AC.tmps.getD 19 undef = .int .u64 h1 := ((hf.dep ⟨1, .data⟩ (by simp) rfl).2 19 rfl).trans (hf.dep ⟨1, .data⟩ (by simp) rfl).1
      have q21 : AC.tmps.getD 21 undef = .int .u64 h2 := ((hf.dep ⟨3, .data⟩ (by simp) rfl).2 21 rfl).trans (hf.dep ⟨3, .data⟩ (by simp) rfl).1
      go_simp
      refine (HCH.out WW).mono ?_
      rintro e w6 ⟨rfl, rfl⟩
      exact hK _ _ (Below.refl _ _) rfl
    · obtain rfl := Option.some.inj (show some _ = some oO from ho)
      rw [if_pos (by rfl)]
      have q9 : AC.tmps.getD 9 undef = .pointer (some ⟨w2.heap.size, 0, none⟩) := hf.rest 9 (by kernel_rfl)
      go_simp
      exact hK _ _ (Below.refl _ _) rfl
    · obtain rfl := Option.some.inj (show some _ = some oO from ho)
      rw [if_pos (by rfl)]
      have q23 : AC.tmps.getD 23 undef = .pointer (some ⟨w2.heap.size, 2, none⟩) := ((hf.dep ⟨5, .data⟩ (by simp) rfl).2 23 rfl).trans (hf.dep ⟨5, .data⟩ (by simp) rfl).1
      have hk := HA.out.keeps hbw
      have z2 := hk.cell 2 _ rfl
      go_simp
      exact hK _ _ (Below.refl _ _) rfl
    · obtain rfl := Option.some.inj (show some _ = some oO from ho)
      rw [if_pos (by rfl)]
      have q10 : AC.tmps.getD 10 undef = .pointer (some ⟨w2.heap.size + 1, 0, none⟩) := hf.rest 10 (by kernel_rfl)
      go_simp
      exact hK _ _ (Below.refl _ _) rfl
    · obtain rfl := Option.some.inj (show some _ = some oO from ho)
      rw [if_pos (by rfl)]
      have q25 : AC.tmps.getD 25 undef = .pointer (some ⟨w2.heap.size + 1, 2, none⟩) := ((hf.dep ⟨7, .data⟩ (by simp) rfl).2 25 rfl).trans (hf.dep ⟨7, .data⟩ (by simp) rfl).1
      have hk := HB.out.keeps hbw
      have z2 := hk.cell 2 _ rfl
      go_simp
      exact hK _ _ (Below.refl _ _) rfl
    · obtain rfl := Option.some.inj (show some _ = some oO from ho)
      rw [if_pos (by rfl)]
      have q24 : AC.tmps.getD 24 undef = .int .u64 l1 := ((hf.dep ⟨6, .data⟩ (by simp) rfl).2 24 rfl).trans (hf.dep ⟨6, .data⟩ (by simp) rfl).1
      have q26 : AC.tmps.getD 26 undef = .int .u64 l2 := ((hf.dep ⟨8, .data⟩ (by simp) rfl).2 26 rfl).trans (hf.dep ⟨8, .data⟩ (by simp) rfl).1
      go_simp
      refine (HCL.out WW).mono ?_
      rintro e w6 ⟨rfl, rfl⟩
      exact hK _ _ (Below.refl _ _) rfl
    · obtain rfl := Option.some.inj (show some _ = some oO from ho)
      rw [if_pos (by rfl)]
      have q22 : AC.tmps.getD 22 undef = .int .i64 ch := ((hf.dep ⟨4, .data⟩ (by simp) rfl).2 22 rfl).trans (hf.dep ⟨4, .data⟩ (by simp) rfl).1
      have q27 : AC.tmps.getD 27 undef = .int .i64 cl := ((hf.dep ⟨9, .data⟩ (by simp) rfl).2 27 rfl).trans (hf.dep ⟨9, .data⟩ (by simp) rfl).1
      have pp := q22
      have pq := q27
      rw [Array.getD_eq_getD_getElem?] at pp pq
      go_simp
      exact hK _ _ (below_new1 WW _) ⟨_, rfl, Blk.new WW 3 [.int .i64 ch, .int .i64 cl]⟩
    · obtain rfl := Option.some.inj (show some _ = some oO from ho)
      rw [if_pos (by rfl)]
      have q28 : AC.tmps.getD 28 undef = V 10 := (hf.dep ⟨10, .data⟩ (by simp) rfl).2 28 rfl
      have t10 := (hf.dep ⟨10, .data⟩ (by simp) rfl).1
      obtain ⟨g, e, h1⟩ := t10
      rw [e] at q28
      go_simp
      refine (HOR.out WW g h1).mono ?_
      rintro e w6 ⟨rfl, rfl⟩
      exact hK _ _ (Below.refl _ _) rfl
    · obtain rfl := Option.some.inj (show some _ = some oO from ho)
      rw [if_pos (by rfl)]
      have q29 : AC.tmps.getD 29 undef = .int .i64 o := ((hf.dep ⟨11, .data⟩ (by simp) rfl).2 29 rfl).trans (hf.dep ⟨11, .data⟩ (by simp) rfl).1
      go_simp
      exact hK _ _ (Below.refl _ _) rfl
    · omega
  · intro V WW hall hbw hBW
    have vv0 : V 0 = .pointer (some ⟨w2.heap.size, 1, none⟩) := hall 0 (by decide)
    have vv1 : V 1 = .int .u64 h1 := hall 1 (by decide)
    have vv2 : V 2 = .pointer (some ⟨w2.heap.size + 1, 1, none⟩) := hall 2 (by decide)
    have vv3 : V 3 = .int .u64 h2 := hall 3 (by decide)
    have vv4 : V 4 = .int .i64 ch := hall 4 (by decide)
    have vv5 : V 5 = .pointer (some ⟨w2.heap.size, 2, none⟩) := hall 5 (by decide)
    have vv6 : V 6 = .int .u64 l1 := hall 6 (by decide)
    have vv7 : V 7 = .pointer (some ⟨w2.heap.size + 1, 2, none⟩) := hall 7 (by decide)
    have vv8 : V 8 = .int .u64 l2 := hall 8 (by decide)
    have vv9 : V 9 = .int .i64 cl := hall 9 (by decide)
    have vv10 : ∃ g, V 10 = .slice (some ⟨g, 0, none⟩) 2 2 ∧ Blk WW g 3 [.int .i64 ch, .int .i64 cl] := hall 10 (by decide)
    have vv11 : V 11 = .int .i64 o := hall 11 (by decide)
    have vv12 : V 12 = .int .i64 o := hall 12 (by decide)
    clear hall
    simp only [pairsOf, laid, Nat.zero_add, Nat.reduceAdd, vv0, vv1, vv2, vv3, vv4, vv5, vv6, vv7, vv8, vv9, vv11, vv12, List.setIfInBounds_toArray, List.set_cons_zero, List.set_cons_succ]
    clear vv0 vv1 vv2 vv3 vv4 vv5 vv6 vv7 vv8 vv9 vv11 vv12
    clear vv10
    have hA := HA.out.keeps hbw
    have hB := HB.out.keeps hbw
    have a0 := hA.cell 0 _ rfl
    have b0 := hB.cell 0 _ rfl
    have HBW := Lib.hid hBW
    clear hbw hBW hA hB HA HB
    cases m1
    all_goals cases m2
    all_goals
      go_wp2
      go_ret
      exact ⟨by rw [HR.out]; rfl, HBW.out⟩
theorem times_lt {a b : Int} (ha1 : -9223372036854775808 ≤ a) (ha2 : a ≤ 9223372036854775807) (hb1 : -9223372036854775808 ≤ b) (hb2 : b ≤ 9223372036854775807) : absI (a * b) ≤ 85070591730234615865843651857942052864 := by
  rw [absI_nat, Int.natAbs_mul]
  have : a.natAbs * b.natAbs ≤ 9223372036854775808 * 9223372036854775808 := Nat.mul_le_mul (by omega) (by omega)
  omega
theorem rcross_any (a b c d : Int) (ha0 : -9223372036854775808 ≤ a) (ha1 : a ≤ 9223372036854775807) (hb0 : -9223372036854775808 ≤ b) (hb1 : b ≤ 9223372036854775807) (hc0 : -9223372036854775808 ≤ c) (hc1 : c ≤ 9223372036854775807) (hd0 : -9223372036854775808 ≤ d) (hd1 : d ≤ 9223372036854775807) (w : World) :
    Calls Try.prog 19 #[.int .i64 a, .int .i64 b, .int .i64 c, .int .i64 d] w fun e w' => e = .returned (.int .i64 (cmpI (a * b) (c * d))) ∧ Below w.heap.size w w' := by
  have HX := Lib.hid (fun W => times_any a b ha0 ha1 hb0 hb1 W)
  have HY := Lib.hid (fun W => times_any c d hc0 hc1 hd0 hd1 W)
  have hx := times_lt ha0 ha1 hb0 hb1
  have hy := times_lt hc0 hc1 hd0 hd1
  have HC := Lib.hid (fun W => compare_any (a * b) (c * d) (by simp only [TOP]; omega) W)
  obtain ⟨x, ex⟩ : ∃ z, a * b = z := ⟨_, rfl⟩
  obtain ⟨y, ey⟩ : ∃ z, c * d = z := ⟨_, rfl⟩
  rw [ex] at HX HC; rw [ey] at HY HC; rw [ex, ey]
  clear ex ey hx hy
  obtain ⟨X, eX⟩ : ∃ X, N x = X := ⟨_, rfl⟩
  obtain ⟨Y, eY⟩ : ∃ Y, N y = Y := ⟨_, rfl⟩
  rw [eX] at HX HC; rw [eY] at HY HC
  clear eX eY
  go_enter Try.func19, Try.ntmps19
  go_wp2_with fail
  refine (HX.out _).mono ?_
  rintro e w1 ⟨rfl, hb1⟩
  have B1 := Lib.hid hb1
  clear hb1
  go_wp2_with fail
  refine (HY.out _).mono ?_
  rintro e w2 ⟨rfl, hb2⟩
  have B2 := Lib.hid (below_on B1.out B1.out.size hb2)
  clear hb2 B1
  go_wp2_with fail
  refine (HC.out _).mono ?_
  rintro e w3 ⟨rfl, hb3⟩
  have B3 := Lib.hid (below_on B2.out B2.out.size hb3)
  clear hb3 B2
  go_wp2
  go_ret
  exact ⟨rfl, B3.out⟩
end Go.Proofs.Ytleeifknicilhaa
