/-
  Covenants: the law CovenantTells.
-/
import Derived.Test.YtleeifknicilhaaCovRB
set_option linter.unusedVariables false
set_option linter.unusedSimpArgs false
namespace Go.Proofs.Ytleeifknicilhaa
open Go.RowKit Dg

set_option maxRecDepth 8000 in
set_option maxHeartbeats 3200000 in
theorem covTells_walk (o c v i s l t d : Int) (h1 : i64 o) (h2 : i64 c) (h3 : i64 v) (h4 : i64 i) (h5 : i64 s) (h6 : i64 l) (h7 : i64 t) (h8 : i64 d) (w : World) :
    Calls Try.prog 4 #[.agg #[.int .i64 o, .int .i64 c, .int .i64 v, .int .i64 i, .int .i64 s], .agg #[.int .i64 l, .int .i64 t, .int .i64 d]] w fun e w' => e = .returned (.bool true) ∧ Below w.heap.size w w' := by
  have K0 := Lib.hid calive_any
  have H1 := fun W => broken_any o c v i s l t d h1 h2 h3 h4 h5 h6 h7 h8 W
  have H2 := fun W => rbroken_any o c v i s l t d h1 h2 h3 h4 h5 h6 h7 h8 W
  have H3 := fun W => holds_any o c v i s l t d h1 h2 h3 h4 h5 h6 h7 h8 W
  have H4 := fun W => cright_any o c v i s l t d _ rfl W
  have H5 := fun W => rright_any o c v i s l t d _ rfl W
  have H6 := fun W => cltc_any o c v i s l t d h1 h2 h6 W
  have H7 := fun W => cltv_any o c v i s l t d h1 h3 h7 W
  have H8 := fun W => cdscr_any o c v i s l t d h4 h5 h8 W
  obtain ⟨r, hr⟩ : ∃ r, rightF o c v i s l t d = r := ⟨_, rfl⟩
  obtain ⟨x, hx⟩ : ∃ r, ltcB o c l = r := ⟨_, rfl⟩
  obtain ⟨y, hy⟩ : ∃ r, ltcB o v t = r := ⟨_, rfl⟩
  obtain ⟨z, hz⟩ : ∃ r, dscrB i s d = r := ⟨_, rfl⟩
  obtain ⟨a, ha⟩ : ∃ r, (brS o c v i s l t d).1 = r := ⟨_, rfl⟩
  obtain ⟨b, hb⟩ : ∃ r, (brS o c v i s l t d).2 = r := ⟨_, rfl⟩
  rw [ha, hb] at H1 H2
  rw [hx, hy, hz] at H3
  rw [hr] at H4 H5; rw [hx] at H6; rw [hy] at H7; rw [hz] at H8
  have K1 := Lib.hid H1; have K2 := Lib.hid H2; have K3 := Lib.hid H3
  have J1 := Lib.hid H4; have J2 := Lib.hid H5; have J3 := Lib.hid H6; have J4 := Lib.hid H7; have J5 := Lib.hid H8
  clear H1 H2 H3 H4 H5 H6 H7 H8 hr hx hy hz ha hb h1 h2 h3 h4 h5 h6 h7 h8
  have HB := Lib.hid (below_new2 w (.cells #[.int .i64 o, .int .i64 c, .int .i64 v, .int .i64 i, .int .i64 s] 26) (.cells #[.int .i64 l, .int .i64 t, .int .i64 d] 28))
  have HA := Lib.hid ((Blk.new w 26 [.int .i64 o, .int .i64 c, .int .i64 v, .int .i64 i, .int .i64 s]).alloc (.cells #[.int .i64 l, .int .i64 t, .int .i64 d] 28))
  have HC := Lib.hid (Blk.new2 w (.cells #[.int .i64 o, .int .i64 c, .int .i64 v, .int .i64 i, .int .i64 s] 26) 28 [.int .i64 l, .int .i64 t, .int .i64 d])
  go_enter Try.func4, Try.ntmps4
  have hA := HA.out; have hC := HC.out
  have a0 := hA.cell 0 _ rfl; have a1 := hA.cell 1 _ rfl; have a2 := hA.cell 2 _ rfl; have a3 := hA.cell 3 _ rfl; have a4 := hA.cell 4 _ rfl; have c0 := hC.cell 0 _ rfl; have c1 := hC.cell 1 _ rfl; have c2 := hC.cell 2 _ rfl
  go_wp2_with fail
  refine (K0.out _).mono ?_
  rintro e w1 ⟨rfl, hb⟩
  have HB1 := Lib.hid (below_on HB.out HB.out.size hb)
  have HA1 := Lib.hid (HA.out.keeps hb); have HC1 := Lib.hid (HC.out.keeps hb)
  clear hb a0 a1 a2 a3 a4 c0 c1 c2 hA hC
  have hA := HA1.out; have hC := HC1.out
  have a0 := hA.cell 0 _ rfl; have a1 := hA.cell 1 _ rfl; have a2 := hA.cell 2 _ rfl; have a3 := hA.cell 3 _ rfl; have a4 := hA.cell 4 _ rfl; have c0 := hC.cell 0 _ rfl; have c1 := hC.cell 1 _ rfl; have c2 := hC.cell 2 _ rfl
  go_wp2_with fail
  refine (K1.out _).mono ?_
  rintro e w2 ⟨rfl, hb⟩
  have HB2 := Lib.hid (below_on HB1.out HB1.out.size hb)
  have HA2 := Lib.hid (HA1.out.keeps hb); have HC2 := Lib.hid (HC1.out.keeps hb)
  clear hb a0 a1 a2 a3 a4 c0 c1 c2 hA hC
  have hA := HA2.out; have hC := HC2.out
  have a0 := hA.cell 0 _ rfl; have a1 := hA.cell 1 _ rfl; have a2 := hA.cell 2 _ rfl; have a3 := hA.cell 3 _ rfl; have a4 := hA.cell 4 _ rfl; have c0 := hC.cell 0 _ rfl; have c1 := hC.cell 1 _ rfl; have c2 := hC.cell 2 _ rfl
  go_wp2_with fail
  refine (K2.out _).mono ?_
  rintro e w3 ⟨rfl, hb⟩
  have HB3 := Lib.hid (below_on HB2.out HB2.out.size hb)
  have HA3 := Lib.hid (HA2.out.keeps hb); have HC3 := Lib.hid (HC2.out.keeps hb)
  clear hb a0 a1 a2 a3 a4 c0 c1 c2 hA hC
  have hA := HA3.out; have hC := HC3.out
  have a0 := hA.cell 0 _ rfl; have a1 := hA.cell 1 _ rfl; have a2 := hA.cell 2 _ rfl; have a3 := hA.cell 3 _ rfl; have a4 := hA.cell 4 _ rfl; have c0 := hC.cell 0 _ rfl; have c1 := hC.cell 1 _ rfl; have c2 := hC.cell 2 _ rfl
  go_wp2_with fail
  refine (K3.out _).mono ?_
  rintro e w4 ⟨rfl, hb⟩
  have HB4 := Lib.hid (below_on HB3.out HB3.out.size hb)
  have HA4 := Lib.hid (HA3.out.keeps hb); have HC4 := Lib.hid (HC3.out.keeps hb)
  clear hb a0 a1 a2 a3 a4 c0 c1 c2 hA hC
  have HB5 := Lib.hid (HB4.out.alloc HB4.out.size (.cells #[.bool x, .bool y, .bool z] 34))
  have HA5 := Lib.hid (HA4.out.alloc (.cells #[.bool x, .bool y, .bool z] 34)); have HC5 := Lib.hid (HC4.out.alloc (.cells #[.bool x, .bool y, .bool z] 34))
  have HH5 := Lib.hid (Blk.new w4 34 [.bool x, .bool y, .bool z])
  go_wp2_with fail
  refine region_mono (by kernel_rfl) (by kernel_rfl) [some 27, some 28, some 29, some 30, some 31, some 32, some 33, some 34, some 35, some 36, some 37, some 38, some 39, some 40, some 41, some 42, some 43, some 44, some 45, some 46, some 47, some 48, some 49, some 50, some 51, some 52, some 53, some 54, some 55, some 56, some 57, some 58, some 59, some 60, some 61, some 62, some 63, some 64, some 65, some 66, some 67, some 4] (by kernel_rfl) w.heap.size w HB5.out (Nat.le_refl _) (fun iV vV WW => match iV with | 0 => vV = .int .i64 a | 1 => vV = .int .i64 a | 2 => vV = .bool true | 3 => vV = .bool true | 4 => vV = .int .i64 b | 5 => vV = .int .i64 b | 6 => vV = .bool true | 7 => vV = .bool true | 8 => vV = .bool true | 9 => vV = .agg #[.int .i64 o, .int .i64 c, .int .i64 v, .int .i64 i, .int .i64 s] | 10 => vV = .agg #[.int .i64 l, .int .i64 t, .int .i64 d] | 11 => vV = .bool r | 12 => vV = .agg #[.int .i64 o, .int .i64 c, .int .i64 v, .int .i64 i, .int .i64 s] | 13 => vV = .agg #[.int .i64 l, .int .i64 t, .int .i64 d] | 14 => vV = .bool r | 15 => vV = .bool true | 16 => vV = .bool true | 17 => vV = .bool true | 18 => vV = .agg #[.int .i64 o, .int .i64 c, .int .i64 v, .int .i64 i, .int .i64 s] | 19 => vV = .agg #[.int .i64 l, .int .i64 t, .int .i64 d] | 20 => vV = .bool x | 21 => vV = .pointer (some ⟨w4.heap.size, 0, none⟩) | 22 => vV = .bool x | 23 => vV = .bool true | 24 => vV = .bool true | 25 => vV = .bool true | 26 => vV = .agg #[.int .i64 o, .int .i64 c, .int .i64 v, .int .i64 i, .int .i64 s] | 27 => vV = .agg #[.int .i64 l, .int .i64 t, .int .i64 d] | 28 => vV = .bool y | 29 => vV = .pointer (some ⟨w4.heap.size, 1, none⟩) | 30 => vV = .bool y | 31 => vV = .bool true | 32 => vV = .bool true | 33 => vV = .bool true | 34 => vV = .agg #[.int .i64 o, .int .i64 c, .int .i64 v, .int .i64 i, .int .i64 s] | 35 => vV = .agg #[.int .i64 l, .int .i64 t, .int .i64 d] | 36 => vV = .bool z | 37 => vV = .pointer (some ⟨w4.heap.size, 2, none⟩) | 38 => vV = .bool z | 39 => vV = .bool true | 40 => vV = .bool true | 41 => vV = .bool true | _ => True) ?_ ?_ ?_
  · intro iV vV WW WX h hbx
    rcases iV with _ | _ | _ | _ | _ | _ | _ | _ | _ | _ | _ | _ | _ | _ | _ | _ | _ | _ | _ | _ | _ | _ | _ | _ | _ | _ | _ | _ | _ | _ | _ | _ | _ | _ | _ | _ | _ | _ | _ | _ | _ | _ | i
    · exact h
    · exact h
    · exact h
    · exact h
    · exact h
    · exact h
    · exact h
    · exact h
    · exact h
    · exact h
    · exact h
    · exact h
    · exact h
    · exact h
    · exact h
    · exact h
    · exact h
    · exact h
    · exact h
    · exact h
    · exact h
    · exact h
    · exact h
    · exact h
    · exact h
    · exact h
    · exact h
    · exact h
    · exact h
    · exact h
    · exact h
    · exact h
    · exact h
    · exact h
    · exact h
    · exact h
    · exact h
    · exact h
    · exact h
    · exact h
    · exact h
    · exact h
    · trivial
  · intro iI oO V AC WW ho hf hbw K hK
    have hlt : iI < 42 := (Array.getElem?_eq_some_iff.1 ho).1
    rcases iI with _ | _ | _ | _ | _ | _ | _ | _ | _ | _ | _ | _ | _ | _ | _ | _ | _ | _ | _ | _ | _ | _ | _ | _ | _ | _ | _ | _ | _ | _ | _ | _ | _ | _ | _ | _ | _ | _ | _ | _ | _ | _ | iI
    · obtain rfl := Option.some.inj (show some _ = some oO from ho)
      rw [if_pos (by rfl)]
      have q5 : AC.tmps.getD 5 undef = .int .i64 a := hf.rest 5 (by kernel_rfl)
      go_simp
      exact hK _ _ (Below.refl _ _) rfl
    · obtain rfl := Option.some.inj (show some _ = some oO from ho)
      rw [if_pos (by rfl)]
      have q7 : AC.tmps.getD 7 undef = .int .i64 a := hf.rest 7 (by kernel_rfl)
      go_simp
      exact hK _ _ (Below.refl _ _) rfl
    · obtain rfl := Option.some.inj (show some _ = some oO from ho)
      rw [if_pos (by rfl)]
      have q27 : AC.tmps.getD 27 undef = .int .i64 a := ((hf.dep ⟨0, .data⟩ (by simp) rfl).2 27 rfl).trans (hf.dep ⟨0, .data⟩ (by simp) rfl).1
      have q28 : AC.tmps.getD 28 undef = .int .i64 a := ((hf.dep ⟨1, .data⟩ (by simp) rfl).2 28 rfl).trans (hf.dep ⟨1, .data⟩ (by simp) rfl).1
      go_simp
      exact hK _ _ (Below.refl _ _) rfl
    · obtain rfl := Option.some.inj (show some _ = some oO from ho)
      rw [if_pos (by rfl)]
      have q29 : AC.tmps.getD 29 undef = .bool true := ((hf.dep ⟨2, .data⟩ (by simp) rfl).2 29 rfl).trans (hf.dep ⟨2, .data⟩ (by simp) rfl).1
      go_simp
      exact hK _ _ (Below.refl _ _) rfl
    · obtain rfl := Option.some.inj (show some _ = some oO from ho)
      rw [if_pos (wanted_yes (s := 30) rfl rfl rfl (by rw [hf.size]; simp) (((hf.dep ⟨3, .guard⟩ (by simp) rfl).2 30 rfl).trans (hf.dep ⟨3, .guard⟩ (by simp) rfl).1))]
      have q6 : AC.tmps.getD 6 undef = .int .i64 b := hf.rest 6 (by kernel_rfl)
      go_simp
      exact hK _ _ (Below.refl _ _) rfl
    · obtain rfl := Option.some.inj (show some _ = some oO from ho)
      rw [if_pos (wanted_yes (s := 30) rfl rfl rfl (by rw [hf.size]; simp) (((hf.dep ⟨3, .guard⟩ (by simp) rfl).2 30 rfl).trans (hf.dep ⟨3, .guard⟩ (by simp) rfl).1))]
      have q8 : AC.tmps.getD 8 undef = .int .i64 b := hf.rest 8 (by kernel_rfl)
      go_simp
      exact hK _ _ (Below.refl _ _) rfl
    · obtain rfl := Option.some.inj (show some _ = some oO from ho)
      rw [if_pos (wanted_yes (s := 30) rfl rfl rfl (by rw [hf.size]; simp) (((hf.dep ⟨3, .guard⟩ (by simp) rfl).2 30 rfl).trans (hf.dep ⟨3, .guard⟩ (by simp) rfl).1))]
      have q31 : AC.tmps.getD 31 undef = .int .i64 b := ((hf.dep ⟨4, .data⟩ (by simp) rfl).2 31 rfl).trans (hf.dep ⟨4, .data⟩ (by simp) rfl).1
      have q32 : AC.tmps.getD 32 undef = .int .i64 b := ((hf.dep ⟨5, .data⟩ (by simp) rfl).2 32 rfl).trans (hf.dep ⟨5, .data⟩ (by simp) rfl).1
      go_simp
      exact hK _ _ (Below.refl _ _) rfl
    · obtain rfl := Option.some.inj (show some _ = some oO from ho)
      rw [if_pos (by rfl)]
      have q30 : AC.tmps.getD 30 undef = .bool true := ((hf.dep ⟨3, .data⟩ (by simp) rfl).2 30 rfl).trans (hf.dep ⟨3, .data⟩ (by simp) rfl).1
      have q33 : AC.tmps.getD 33 undef = .bool true := ((hf.dep ⟨6, .data⟩ (by simp) rfl).2 33 rfl).trans (hf.dep ⟨6, .data⟩ (by simp) rfl).1
      go_simp
      exact hK _ _ (Below.refl _ _) rfl
    · obtain rfl := Option.some.inj (show some _ = some oO from ho)
      rw [if_pos (by rfl)]
      have q34 : AC.tmps.getD 34 undef = .bool true := ((hf.dep ⟨7, .data⟩ (by simp) rfl).2 34 rfl).trans (hf.dep ⟨7, .data⟩ (by simp) rfl).1
      go_simp
      exact hK _ _ (Below.refl _ _) rfl
    · obtain rfl := Option.some.inj (show some _ = some oO from ho)
      rw [if_pos (wanted_yes (s := 35) rfl rfl rfl (by rw [hf.size]; simp) (((hf.dep ⟨8, .guard⟩ (by simp) rfl).2 35 rfl).trans (hf.dep ⟨8, .guard⟩ (by simp) rfl).1))]
      have q2 : AC.tmps.getD 2 undef = .pointer (some ⟨w.heap.size, 0, none⟩) := hf.rest 2 (by kernel_rfl)
      have hA := HA5.out.keeps hbw
      have a0 := hA.cell 0 _ rfl; have a1 := hA.cell 1 _ rfl; have a2 := hA.cell 2 _ rfl; have a3 := hA.cell 3 _ rfl; have a4 := hA.cell 4 _ rfl
      go_simp
      exact hK _ _ (Below.refl _ _) rfl
    · obtain rfl := Option.some.inj (show some _ = some oO from ho)
      rw [if_pos (wanted_yes (s := 35) rfl rfl rfl (by rw [hf.size]; simp) (((hf.dep ⟨8, .guard⟩ (by simp) rfl).2 35 rfl).trans (hf.dep ⟨8, .guard⟩ (by simp) rfl).1))]
      have q3 : AC.tmps.getD 3 undef = .pointer (some ⟨w.heap.size + 1, 0, none⟩) := hf.rest 3 (by kernel_rfl)
      have hC := HC5.out.keeps hbw
      have c0 := hC.cell 0 _ rfl; have c1 := hC.cell 1 _ rfl; have c2 := hC.cell 2 _ rfl
      go_simp
      exact hK _ _ (Below.refl _ _) rfl
    · obtain rfl := Option.some.inj (show some _ = some oO from ho)
      rw [if_pos (wanted_yes (s := 35) rfl rfl rfl (by rw [hf.size]; simp) (((hf.dep ⟨8, .guard⟩ (by simp) rfl).2 35 rfl).trans (hf.dep ⟨8, .guard⟩ (by simp) rfl).1))]
      have q36 : AC.tmps.getD 36 undef = .agg #[.int .i64 o, .int .i64 c, .int .i64 v, .int .i64 i, .int .i64 s] := ((hf.dep ⟨9, .data⟩ (by simp) rfl).2 36 rfl).trans (hf.dep ⟨9, .data⟩ (by simp) rfl).1
      have q37 : AC.tmps.getD 37 undef = .agg #[.int .i64 l, .int .i64 t, .int .i64 d] := ((hf.dep ⟨10, .data⟩ (by simp) rfl).2 37 rfl).trans (hf.dep ⟨10, .data⟩ (by simp) rfl).1
      go_simp
      refine (J1.out WW).mono ?_
      rintro e w9 ⟨rfl, hb9⟩
      exact hK _ _ hb9 rfl
    · obtain rfl := Option.some.inj (show some _ = some oO from ho)
      rw [if_pos (wanted_yes (s := 35) rfl rfl rfl (by rw [hf.size]; simp) (((hf.dep ⟨8, .guard⟩ (by simp) rfl).2 35 rfl).trans (hf.dep ⟨8, .guard⟩ (by simp) rfl).1))]
      have q2 : AC.tmps.getD 2 undef = .pointer (some ⟨w.heap.size, 0, none⟩) := hf.rest 2 (by kernel_rfl)
      have hA := HA5.out.keeps hbw
      have a0 := hA.cell 0 _ rfl; have a1 := hA.cell 1 _ rfl; have a2 := hA.cell 2 _ rfl; have a3 := hA.cell 3 _ rfl; have a4 := hA.cell 4 _ rfl
      go_simp
      exact hK _ _ (Below.refl _ _) rfl
    · obtain rfl := Option.some.inj (show some _ = some oO from ho)
      rw [if_pos (wanted_yes (s := 35) rfl rfl rfl (by rw [hf.size]; simp) (((hf.dep ⟨8, .guard⟩ (by simp) rfl).2 35 rfl).trans (hf.dep ⟨8, .guard⟩ (by simp) rfl).1))]
      have q3 : AC.tmps.getD 3 undef = .pointer (some ⟨w.heap.size + 1, 0, none⟩) := hf.rest 3 (by kernel_rfl)
      have hC := HC5.out.keeps hbw
      have c0 := hC.cell 0 _ rfl; have c1 := hC.cell 1 _ rfl; have c2 := hC.cell 2 _ rfl
      go_simp
      exact hK _ _ (Below.refl _ _) rfl
    · obtain rfl := Option.some.inj (show some _ = some oO from ho)
      rw [if_pos (wanted_yes (s := 35) rfl rfl rfl (by rw [hf.size]; simp) (((hf.dep ⟨8, .guard⟩ (by simp) rfl).2 35 rfl).trans (hf.dep ⟨8, .guard⟩ (by simp) rfl).1))]
      have q39 : AC.tmps.getD 39 undef = .agg #[.int .i64 o, .int .i64 c, .int .i64 v, .int .i64 i, .int .i64 s] := ((hf.dep ⟨12, .data⟩ (by simp) rfl).2 39 rfl).trans (hf.dep ⟨12, .data⟩ (by simp) rfl).1
      have q40 : AC.tmps.getD 40 undef = .agg #[.int .i64 l, .int .i64 t, .int .i64 d] := ((hf.dep ⟨13, .data⟩ (by simp) rfl).2 40 rfl).trans (hf.dep ⟨13, .data⟩ (by simp) rfl).1
      go_simp
      refine (J2.out WW).mono ?_
      rintro e w9 ⟨rfl, hb9⟩
      exact hK _ _ hb9 rfl
    · obtain rfl := Option.some.inj (show some _ = some oO from ho)
      rw [if_pos (wanted_yes (s := 35) rfl rfl rfl (by rw [hf.size]; simp) (((hf.dep ⟨8, .guard⟩ (by simp) rfl).2 35 rfl).trans (hf.dep ⟨8, .guard⟩ (by simp) rfl).1))]
      have q38 : AC.tmps.getD 38 undef = .bool r := ((hf.dep ⟨11, .data⟩ (by simp) rfl).2 38 rfl).trans (hf.dep ⟨11, .data⟩ (by simp) rfl).1
      have q41 : AC.tmps.getD 41 undef = .bool r := ((hf.dep ⟨14, .data⟩ (by simp) rfl).2 41 rfl).trans (hf.dep ⟨14, .data⟩ (by simp) rfl).1
      go_simp
      exact hK _ _ (Below.refl _ _) rfl
    · obtain rfl := Option.some.inj (show some _ = some oO from ho)
      rw [if_pos (by rfl)]
      have q35 : AC.tmps.getD 35 undef = .bool true := ((hf.dep ⟨8, .data⟩ (by simp) rfl).2 35 rfl).trans (hf.dep ⟨8, .data⟩ (by simp) rfl).1
      have q42 : AC.tmps.getD 42 undef = .bool true := ((hf.dep ⟨15, .data⟩ (by simp) rfl).2 42 rfl).trans (hf.dep ⟨15, .data⟩ (by simp) rfl).1
      go_simp
      exact hK _ _ (Below.refl _ _) rfl
    · obtain rfl := Option.some.inj (show some _ = some oO from ho)
      rw [if_pos (by rfl)]
      have q43 : AC.tmps.getD 43 undef = .bool true := ((hf.dep ⟨16, .data⟩ (by simp) rfl).2 43 rfl).trans (hf.dep ⟨16, .data⟩ (by simp) rfl).1
      go_simp
      exact hK _ _ (Below.refl _ _) rfl
    · obtain rfl := Option.some.inj (show some _ = some oO from ho)
      rw [if_pos (wanted_yes (s := 44) rfl rfl rfl (by rw [hf.size]; simp) (((hf.dep ⟨17, .guard⟩ (by simp) rfl).2 44 rfl).trans (hf.dep ⟨17, .guard⟩ (by simp) rfl).1))]
      have q2 : AC.tmps.getD 2 undef = .pointer (some ⟨w.heap.size, 0, none⟩) := hf.rest 2 (by kernel_rfl)
      have hA := HA5.out.keeps hbw
      have a0 := hA.cell 0 _ rfl; have a1 := hA.cell 1 _ rfl; have a2 := hA.cell 2 _ rfl; have a3 := hA.cell 3 _ rfl; have a4 := hA.cell 4 _ rfl
      go_simp
      exact hK _ _ (Below.refl _ _) rfl
    · obtain rfl := Option.some.inj (show some _ = some oO from ho)
      rw [if_pos (wanted_yes (s := 44) rfl rfl rfl (by rw [hf.size]; simp) (((hf.dep ⟨17, .guard⟩ (by simp) rfl).2 44 rfl).trans (hf.dep ⟨17, .guard⟩ (by simp) rfl).1))]
      have q3 : AC.tmps.getD 3 undef = .pointer (some ⟨w.heap.size + 1, 0, none⟩) := hf.rest 3 (by kernel_rfl)
      have hC := HC5.out.keeps hbw
      have c0 := hC.cell 0 _ rfl; have c1 := hC.cell 1 _ rfl; have c2 := hC.cell 2 _ rfl
      go_simp
      exact hK _ _ (Below.refl _ _) rfl
    · obtain rfl := Option.some.inj (show some _ = some oO from ho)
      rw [if_pos (wanted_yes (s := 44) rfl rfl rfl (by rw [hf.size]; simp) (((hf.dep ⟨17, .guard⟩ (by simp) rfl).2 44 rfl).trans (hf.dep ⟨17, .guard⟩ (by simp) rfl).1))]
      have q45 : AC.tmps.getD 45 undef = .agg #[.int .i64 o, .int .i64 c, .int .i64 v, .int .i64 i, .int .i64 s] := ((hf.dep ⟨18, .data⟩ (by simp) rfl).2 45 rfl).trans (hf.dep ⟨18, .data⟩ (by simp) rfl).1
      have q46 : AC.tmps.getD 46 undef = .agg #[.int .i64 l, .int .i64 t, .int .i64 d] := ((hf.dep ⟨19, .data⟩ (by simp) rfl).2 46 rfl).trans (hf.dep ⟨19, .data⟩ (by simp) rfl).1
      go_simp
      refine (J3.out WW).mono ?_
      rintro e w9 ⟨rfl, hb9⟩
      exact hK _ _ hb9 rfl
    · obtain rfl := Option.some.inj (show some _ = some oO from ho)
      rw [if_pos (wanted_yes (s := 44) rfl rfl rfl (by rw [hf.size]; simp) (((hf.dep ⟨17, .guard⟩ (by simp) rfl).2 44 rfl).trans (hf.dep ⟨17, .guard⟩ (by simp) rfl).1))]
      have q9 : AC.tmps.getD 9 undef = .pointer (some ⟨w4.heap.size, 0, none⟩) := hf.rest 9 (by kernel_rfl)
      go_simp
      exact hK _ _ (Below.refl _ _) rfl
    · obtain rfl := Option.some.inj (show some _ = some oO from ho)
      rw [if_pos (wanted_yes (s := 44) rfl rfl rfl (by rw [hf.size]; simp) (((hf.dep ⟨17, .guard⟩ (by simp) rfl).2 44 rfl).trans (hf.dep ⟨17, .guard⟩ (by simp) rfl).1))]
      have q48 : AC.tmps.getD 48 undef = .pointer (some ⟨w4.heap.size, 0, none⟩) := ((hf.dep ⟨21, .data⟩ (by simp) rfl).2 48 rfl).trans (hf.dep ⟨21, .data⟩ (by simp) rfl).1
      have hH := HH5.out.keeps hbw
      have k0 := hH.cell 0 _ rfl; have k1 := hH.cell 1 _ rfl; have k2 := hH.cell 2 _ rfl
      go_simp
      exact hK _ _ (Below.refl _ _) rfl
    · obtain rfl := Option.some.inj (show some _ = some oO from ho)
      rw [if_pos (wanted_yes (s := 44) rfl rfl rfl (by rw [hf.size]; simp) (((hf.dep ⟨17, .guard⟩ (by simp) rfl).2 44 rfl).trans (hf.dep ⟨17, .guard⟩ (by simp) rfl).1))]
      have q47 : AC.tmps.getD 47 undef = .bool x := ((hf.dep ⟨20, .data⟩ (by simp) rfl).2 47 rfl).trans (hf.dep ⟨20, .data⟩ (by simp) rfl).1
      have q49 : AC.tmps.getD 49 undef = .bool x := ((hf.dep ⟨22, .data⟩ (by simp) rfl).2 49 rfl).trans (hf.dep ⟨22, .data⟩ (by simp) rfl).1
      go_simp
      exact hK _ _ (Below.refl _ _) rfl
    · obtain rfl := Option.some.inj (show some _ = some oO from ho)
      rw [if_pos (by rfl)]
      have q44 : AC.tmps.getD 44 undef = .bool true := ((hf.dep ⟨17, .data⟩ (by simp) rfl).2 44 rfl).trans (hf.dep ⟨17, .data⟩ (by simp) rfl).1
      have q50 : AC.tmps.getD 50 undef = .bool true := ((hf.dep ⟨23, .data⟩ (by simp) rfl).2 50 rfl).trans (hf.dep ⟨23, .data⟩ (by simp) rfl).1
      go_simp
      exact hK _ _ (Below.refl _ _) rfl
    · obtain rfl := Option.some.inj (show some _ = some oO from ho)
      rw [if_pos (by rfl)]
      have q51 : AC.tmps.getD 51 undef = .bool true := ((hf.dep ⟨24, .data⟩ (by simp) rfl).2 51 rfl).trans (hf.dep ⟨24, .data⟩ (by simp) rfl).1
      go_simp
      exact hK _ _ (Below.refl _ _) rfl
    · obtain rfl := Option.some.inj (show some _ = some oO from ho)
      rw [if_pos (wanted_yes (s := 52) rfl rfl rfl (by rw [hf.size]; simp) (((hf.dep ⟨25, .guard⟩ (by simp) rfl).2 52 rfl).trans (hf.dep ⟨25, .guard⟩ (by simp) rfl).1))]
      have q2 : AC.tmps.getD 2 undef = .pointer (some ⟨w.heap.size, 0, none⟩) := hf.rest 2 (by kernel_rfl)
      have hA := HA5.out.keeps hbw
      have a0 := hA.cell 0 _ rfl; have a1 := hA.cell 1 _ rfl; have a2 := hA.cell 2 _ rfl; have a3 := hA.cell 3 _ rfl; have a4 := hA.cell 4 _ rfl
      go_simp
      exact hK _ _ (Below.refl _ _) rfl
    · obtain rfl := Option.some.inj (show some _ = some oO from ho)
      rw [if_pos (wanted_yes (s := 52) rfl rfl rfl (by rw [hf.size]; simp) (((hf.dep ⟨25, .guard⟩ (by simp) rfl).2 52 rfl).trans (hf.dep ⟨25, .guard⟩ (by simp) rfl).1))]
      have q3 : AC.tmps.getD 3 undef = .pointer (some ⟨w.heap.size + 1, 0, none⟩) := hf.rest 3 (by kernel_rfl)
      have hC := HC5.out.keeps hbw
      have c0 := hC.cell 0 _ rfl; have c1 := hC.cell 1 _ rfl; have c2 := hC.cell 2 _ rfl
      go_simp
      exact hK _ _ (Below.refl _ _) rfl
    · obtain rfl := Option.some.inj (show some _ = some oO from ho)
      rw [if_pos (wanted_yes (s := 52) rfl rfl rfl (by rw [hf.size]; simp) (((hf.dep ⟨25, .guard⟩ (by simp) rfl).2 52 rfl).trans (hf.dep ⟨25, .guard⟩ (by simp) rfl).1))]
      have q53 : AC.tmps.getD 53 undef = .agg #[.int .i64 o, .int .i64 c, .int .i64 v, .int .i64 i, .int .i64 s] := ((hf.dep ⟨26, .data⟩ (by simp) rfl).2 53 rfl).trans (hf.dep ⟨26, .data⟩ (by simp) rfl).1
      have q54 : AC.tmps.getD 54 undef = .agg #[.int .i64 l, .int .i64 t, .int .i64 d] := ((hf.dep ⟨27, .data⟩ (by simp) rfl).2 54 rfl).trans (hf.dep ⟨27, .data⟩ (by simp) rfl).1
      go_simp
      refine (J4.out WW).mono ?_
      rintro e w9 ⟨rfl, hb9⟩
      exact hK _ _ hb9 rfl
    · obtain rfl := Option.some.inj (show some _ = some oO from ho)
      rw [if_pos (wanted_yes (s := 52) rfl rfl rfl (by rw [hf.size]; simp) (((hf.dep ⟨25, .guard⟩ (by simp) rfl).2 52 rfl).trans (hf.dep ⟨25, .guard⟩ (by simp) rfl).1))]
      have q9 : AC.tmps.getD 9 undef = .pointer (some ⟨w4.heap.size, 0, none⟩) := hf.rest 9 (by kernel_rfl)
      go_simp
      exact hK _ _ (Below.refl _ _) rfl
    · obtain rfl := Option.some.inj (show some _ = some oO from ho)
      rw [if_pos (wanted_yes (s := 52) rfl rfl rfl (by rw [hf.size]; simp) (((hf.dep ⟨25, .guard⟩ (by simp) rfl).2 52 rfl).trans (hf.dep ⟨25, .guard⟩ (by simp) rfl).1))]
      have q56 : AC.tmps.getD 56 undef = .pointer (some ⟨w4.heap.size, 1, none⟩) := ((hf.dep ⟨29, .data⟩ (by simp) rfl).2 56 rfl).trans (hf.dep ⟨29, .data⟩ (by simp) rfl).1
      have hH := HH5.out.keeps hbw
      have k0 := hH.cell 0 _ rfl; have k1 := hH.cell 1 _ rfl; have k2 := hH.cell 2 _ rfl
      go_simp
      exact hK _ _ (Below.refl _ _) rfl
    · obtain rfl := Option.some.inj (show some _ = some oO from ho)
      rw [if_pos (wanted_yes (s := 52) rfl rfl rfl (by rw [hf.size]; simp) (((hf.dep ⟨25, .guard⟩ (by simp) rfl).2 52 rfl).trans (hf.dep ⟨25, .guard⟩ (by simp) rfl).1))]
      have q55 : AC.tmps.getD 55 undef = .bool y := ((hf.dep ⟨28, .data⟩ (by simp) rfl).2 55 rfl).trans (hf.dep ⟨28, .data⟩ (by simp) rfl).1
      have q57 : AC.tmps.getD 57 undef = .bool y := ((hf.dep ⟨30, .data⟩ (by simp) rfl).2 57 rfl).trans (hf.dep ⟨30, .data⟩ (by simp) rfl).1
      go_simp
      exact hK _ _ (Below.refl _ _) rfl
    · obtain rfl := Option.some.inj (show some _ = some oO from ho)
      rw [if_pos (by rfl)]
      have q52 : AC.tmps.getD 52 undef = .bool true := ((hf.dep ⟨25, .data⟩ (by simp) rfl).2 52 rfl).trans (hf.dep ⟨25, .data⟩ (by simp) rfl).1
      have q58 : AC.tmps.getD 58 undef = .bool true := ((hf.dep ⟨31, .data⟩ (by simp) rfl).2 58 rfl).trans (hf.dep ⟨31, .data⟩ (by simp) rfl).1
      go_simp
      exact hK _ _ (Below.refl _ _) rfl
    · obtain rfl := Option.some.inj (show some _ = some oO from ho)
      rw [if_pos (by rfl)]
      have q59 : AC.tmps.getD 59 undef = .bool true := ((hf.dep ⟨32, .data⟩ (by simp) rfl).2 59 rfl).trans (hf.dep ⟨32, .data⟩ (by simp) rfl).1
      go_simp
      exact hK _ _ (Below.refl _ _) rfl
    · obtain rfl := Option.some.inj (show some _ = some oO from ho)
      rw [if_pos (wanted_yes (s := 60) rfl rfl rfl (by rw [hf.size]; simp) (((hf.dep ⟨33, .guard⟩ (by simp) rfl).2 60 rfl).trans (hf.dep ⟨33, .guard⟩ (by simp) rfl).1))]
      have q2 : AC.tmps.getD 2 undef = .pointer (some ⟨w.heap.size, 0, none⟩) := hf.rest 2 (by kernel_rfl)
      have hA := HA5.out.keeps hbw
      have a0 := hA.cell 0 _ rfl; have a1 := hA.cell 1 _ rfl; have a2 := hA.cell 2 _ rfl; have a3 := hA.cell 3 _ rfl; have a4 := hA.cell 4 _ rfl
      go_simp
      exact hK _ _ (Below.refl _ _) rfl
    · obtain rfl := Option.some.inj (show some _ = some oO from ho)
      rw [if_pos (wanted_yes (s := 60) rfl rfl rfl (by rw [hf.size]; simp) (((hf.dep ⟨33, .guard⟩ (by simp) rfl).2 60 rfl).trans (hf.dep ⟨33, .guard⟩ (by simp) rfl).1))]
      have q3 : AC.tmps.getD 3 undef = .pointer (some ⟨w.heap.size + 1, 0, none⟩) := hf.rest 3 (by kernel_rfl)
      have hC := HC5.out.keeps hbw
      have c0 := hC.cell 0 _ rfl; have c1 := hC.cell 1 _ rfl; have c2 := hC.cell 2 _ rfl
      go_simp
      exact hK _ _ (Below.refl _ _) rfl
    · obtain rfl := Option.some.inj (show some _ = some oO from ho)
      rw [if_pos (wanted_yes (s := 60) rfl rfl rfl (by rw [hf.size]; simp) (((hf.dep ⟨33, .guard⟩ (by simp) rfl).2 60 rfl).trans (hf.dep ⟨33, .guard⟩ (by simp) rfl).1))]
      have q61 : AC.tmps.getD 61 undef = .agg #[.int .i64 o, .int .i64 c, .int .i64 v, .int .i64 i, .int .i64 s] := ((hf.dep ⟨34, .data⟩ (by simp) rfl).2 61 rfl).trans (hf.dep ⟨34, .data⟩ (by simp) rfl).1
      have q62 : AC.tmps.getD 62 undef = .agg #[.int .i64 l, .int .i64 t, .int .i64 d] := ((hf.dep ⟨35, .data⟩ (by simp) rfl).2 62 rfl).trans (hf.dep ⟨35, .data⟩ (by simp) rfl).1
      go_simp
      refine (J5.out WW).mono ?_
      rintro e w9 ⟨rfl, hb9⟩
      exact hK _ _ hb9 rfl
    · obtain rfl := Option.some.inj (show some _ = some oO from ho)
      rw [if_pos (wanted_yes (s := 60) rfl rfl rfl (by rw [hf.size]; simp) (((hf.dep ⟨33, .guard⟩ (by simp) rfl).2 60 rfl).trans (hf.dep ⟨33, .guard⟩ (by simp) rfl).1))]
      have q9 : AC.tmps.getD 9 undef = .pointer (some ⟨w4.heap.size, 0, none⟩) := hf.rest 9 (by kernel_rfl)
      go_simp
      exact hK _ _ (Below.refl _ _) rfl
    · obtain rfl := Option.some.inj (show some _ = some oO from ho)
      rw [if_pos (wanted_yes (s := 60) rfl rfl rfl (by rw [hf.size]; simp) (((hf.dep ⟨33, .guard⟩ (by simp) rfl).2 60 rfl).trans (hf.dep ⟨33, .guard⟩ (by simp) rfl).1))]
      have q64 : AC.tmps.getD 64 undef = .pointer (some ⟨w4.heap.size, 2, none⟩) := ((hf.dep ⟨37, .data⟩ (by simp) rfl).2 64 rfl).trans (hf.dep ⟨37, .data⟩ (by simp) rfl).1
      have hH := HH5.out.keeps hbw
      have k0 := hH.cell 0 _ rfl; have k1 := hH.cell 1 _ rfl; have k2 := hH.cell 2 _ rfl
      go_simp
      exact hK _ _ (Below.refl _ _) rfl
    · obtain rfl := Option.some.inj (show some _ = some oO from ho)
      rw [if_pos (wanted_yes (s := 60) rfl rfl rfl (by rw [hf.size]; simp) (((hf.dep ⟨33, .guard⟩ (by simp) rfl).2 60 rfl).trans (hf.dep ⟨33, .guard⟩ (by simp) rfl).1))]
      have q63 : AC.tmps.getD 63 undef = .bool z := ((hf.dep ⟨36, .data⟩ (by simp) rfl).2 63 rfl).trans (hf.dep ⟨36, .data⟩ (by simp) rfl).1
      have q65 : AC.tmps.getD 65 undef = .bool z := ((hf.dep ⟨38, .data⟩ (by simp) rfl).2 65 rfl).trans (hf.dep ⟨38, .data⟩ (by simp) rfl).1
      go_simp
      exact hK _ _ (Below.refl _ _) rfl
    · obtain rfl := Option.some.inj (show some _ = some oO from ho)
      rw [if_pos (by rfl)]
      have q60 : AC.tmps.getD 60 undef = .bool true := ((hf.dep ⟨33, .data⟩ (by simp) rfl).2 60 rfl).trans (hf.dep ⟨33, .data⟩ (by simp) rfl).1
      have q66 : AC.tmps.getD 66 undef = .bool true := ((hf.dep ⟨39, .data⟩ (by simp) rfl).2 66 rfl).trans (hf.dep ⟨39, .data⟩ (by simp) rfl).1
      go_simp
      exact hK _ _ (Below.refl _ _) rfl
    · obtain rfl := Option.some.inj (show some _ = some oO from ho)
      rw [if_pos (by rfl)]
      have q67 : AC.tmps.getD 67 undef = .bool true := ((hf.dep ⟨40, .data⟩ (by simp) rfl).2 67 rfl).trans (hf.dep ⟨40, .data⟩ (by simp) rfl).1
      go_simp
      exact hK _ _ (Below.refl _ _) rfl
    · omega
  · intro V WW hall hbw hBW
    have vv0 : V 0 = .int .i64 a := hall 0 (by decide)
    have vv1 : V 1 = .int .i64 a := hall 1 (by decide)
    have vv2 : V 2 = .bool true := hall 2 (by decide)
    have vv3 : V 3 = .bool true := hall 3 (by decide)
    have vv4 : V 4 = .int .i64 b := hall 4 (by decide)
    have vv5 : V 5 = .int .i64 b := hall 5 (by decide)
    have vv6 : V 6 = .bool true := hall 6 (by decide)
    have vv7 : V 7 = .bool true := hall 7 (by decide)
    have vv8 : V 8 = .bool true := hall 8 (by decide)
    have vv9 : V 9 = .agg #[.int .i64 o, .int .i64 c, .int .i64 v, .int .i64 i, .int .i64 s] := hall 9 (by decide)
    have vv10 : V 10 = .agg #[.int .i64 l, .int .i64 t, .int .i64 d] := hall 10 (by decide)
    have vv11 : V 11 = .bool r := hall 11 (by decide)
    have vv12 : V 12 = .agg #[.int .i64 o, .int .i64 c, .int .i64 v, .int .i64 i, .int .i64 s] := hall 12 (by decide)
    have vv13 : V 13 = .agg #[.int .i64 l, .int .i64 t, .int .i64 d] := hall 13 (by decide)
    have vv14 : V 14 = .bool r := hall 14 (by decide)
    have vv15 : V 15 = .bool true := hall 15 (by decide)
    have vv16 : V 16 = .bool true := hall 16 (by decide)
    have vv17 : V 17 = .bool true := hall 17 (by decide)
    have vv18 : V 18 = .agg #[.int .i64 o, .int .i64 c, .int .i64 v, .int .i64 i, .int .i64 s] := hall 18 (by decide)
    have vv19 : V 19 = .agg #[.int .i64 l, .int .i64 t, .int .i64 d] := hall 19 (by decide)
    have vv20 : V 20 = .bool x := hall 20 (by decide)
    have vv21 : V 21 = .pointer (some ⟨w4.heap.size, 0, none⟩) := hall 21 (by decide)
    have vv22 : V 22 = .bool x := hall 22 (by decide)
    have vv23 : V 23 = .bool true := hall 23 (by decide)
    have vv24 : V 24 = .bool true := hall 24 (by decide)
    have vv25 : V 25 = .bool true := hall 25 (by decide)
    have vv26 : V 26 = .agg #[.int .i64 o, .int .i64 c, .int .i64 v, .int .i64 i, .int .i64 s] := hall 26 (by decide)
    have vv27 : V 27 = .agg #[.int .i64 l, .int .i64 t, .int .i64 d] := hall 27 (by decide)
    have vv28 : V 28 = .bool y := hall 28 (by decide)
    have vv29 : V 29 = .pointer (some ⟨w4.heap.size, 1, none⟩) := hall 29 (by decide)
    have vv30 : V 30 = .bool y := hall 30 (by decide)
    have vv31 : V 31 = .bool true := hall 31 (by decide)
    have vv32 : V 32 = .bool true := hall 32 (by decide)
    have vv33 : V 33 = .bool true := hall 33 (by decide)
    have vv34 : V 34 = .agg #[.int .i64 o, .int .i64 c, .int .i64 v, .int .i64 i, .int .i64 s] := hall 34 (by decide)
    have vv35 : V 35 = .agg #[.int .i64 l, .int .i64 t, .int .i64 d] := hall 35 (by decide)
    have vv36 : V 36 = .bool z := hall 36 (by decide)
    have vv37 : V 37 = .pointer (some ⟨w4.heap.size, 2, none⟩) := hall 37 (by decide)
    have vv38 : V 38 = .bool z := hall 38 (by decide)
    have vv39 : V 39 = .bool true := hall 39 (by decide)
    have vv40 : V 40 = .bool true := hall 40 (by decide)
    have vv41 : V 41 = .bool true := hall 41 (by decide)
    clear hall
    simp only [pairsOf, laid, Nat.zero_add, Nat.reduceAdd, vv0, vv1, vv2, vv3, vv4, vv5, vv6, vv7, vv8, vv9, vv10, vv11, vv12, vv13, vv14, vv15, vv16, vv17, vv18, vv19, vv20, vv21, vv22, vv23, vv24, vv25, vv26, vv27, vv28, vv29, vv30, vv31, vv32, vv33, vv34, vv35, vv36, vv37, vv38, vv39, vv40, vv41, List.setIfInBounds_toArray, List.set_cons_zero, List.set_cons_succ]
    clear vv0 vv1 vv2 vv3 vv4 vv5 vv6 vv7 vv8 vv9 vv10 vv11 vv12 vv13 vv14 vv15 vv16 vv17 vv18 vv19 vv20 vv21 vv22 vv23 vv24 vv25 vv26 vv27 vv28 vv29 vv30 vv31 vv32 vv33 vv34 vv35 vv36 vv37 vv38 vv39 vv40 vv41
    go_wp2
    go_ret
    exact ⟨rfl, hBW⟩
theorem covTells_law (o c v i s : Int) (hf : ∀ z ∈ [o, c, v, i, s], (Lit.int .i64 z).wf = true) (l t d : Int) (hl : ∀ z ∈ [l, t, d], (Lit.int .i64 z).wf = true) (w : World) :
    Calls Try.prog 4 #[.agg #[.int .i64 o, .int .i64 c, .int .i64 v, .int .i64 i, .int .i64 s], .agg #[.int .i64 l, .int .i64 t, .int .i64 d]] w fun e w' => e = .returned (.bool true) ∧ Below w.heap.size w w' :=
  covTells_walk o c v i s l t d (i64_wf (hf o (by simp))) (i64_wf (hf c (by simp))) (i64_wf (hf v (by simp))) (i64_wf (hf i (by simp))) (i64_wf (hf s (by simp))) (i64_wf (hl l (by simp))) (i64_wf (hl t (by simp))) (i64_wf (hl d (by simp))) w
end Go.Proofs.Ytleeifknicilhaa
