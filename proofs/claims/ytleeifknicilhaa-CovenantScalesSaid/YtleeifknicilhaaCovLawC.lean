/-
  Covenants: the law CovenantScales.
-/
import Derived.Test.YtleeifknicilhaaCovR
set_option linter.unusedVariables false
set_option linter.unusedSimpArgs false
namespace Go.Proofs.Ytleeifknicilhaa
open Go.RowKit Dg

set_option maxRecDepth 8000 in
set_option maxHeartbeats 1600000 in
theorem covScales_out (o c v i s l t d m : Int) (hR : (m < 1 ∨ 400000 < m) ∨ (1 ≤ m ∧ m ≤ 400000 ∧ rightF o c v i s l t d = false)) (w : World) :
    Calls Try.prog 6 #[.agg #[.int .i64 o, .int .i64 c, .int .i64 v, .int .i64 i, .int .i64 s], .agg #[.int .i64 l, .int .i64 t, .int .i64 d], .int .i64 m] w fun e w' => e = .returned (.bool true) ∧ Below w.heap.size w w' := by
  have K0 := Lib.hid calive_any
  have HB := Lib.hid (below_new2 w (.cells #[.int .i64 o, .int .i64 c, .int .i64 v, .int .i64 i, .int .i64 s] 26) (.cells #[.int .i64 l, .int .i64 t, .int .i64 d] 28))
  have HA := Lib.hid ((Blk.new w 26 [.int .i64 o, .int .i64 c, .int .i64 v, .int .i64 i, .int .i64 s]).alloc (.cells #[.int .i64 l, .int .i64 t, .int .i64 d] 28))
  have HC := Lib.hid (Blk.new2 w (.cells #[.int .i64 o, .int .i64 c, .int .i64 v, .int .i64 i, .int .i64 s] 26) 28 [.int .i64 l, .int .i64 t, .int .i64 d])
  rcases hR with (hm | hm) | ⟨hm, hm2, hR⟩
  · go_enter Try.func6, Try.ntmps6
    have hA := HA.out; have hC := HC.out
    have a0 := hA.cell 0 _ rfl; have a1 := hA.cell 1 _ rfl; have a2 := hA.cell 2 _ rfl; have a3 := hA.cell 3 _ rfl; have a4 := hA.cell 4 _ rfl; have c0 := hC.cell 0 _ rfl; have c1 := hC.cell 1 _ rfl; have c2 := hC.cell 2 _ rfl
    go_wp2_with fail
    refine (K0.out _).mono ?_
    rintro e w1 ⟨rfl, hb⟩
    have HB1 := Lib.hid (below_on HB.out HB.out.size hb)
    have HA1 := Lib.hid (HA.out.keeps hb); have HC1 := Lib.hid (HC.out.keeps hb)
    clear hb a0 a1 a2 a3 a4 c0 c1 c2 hA hC
    go_wp2
    go_ret
    exact ⟨rfl, HB1.out⟩
  · have hm2 : ¬ m < 1 := by omega
    go_enter Try.func6, Try.ntmps6
    have hA := HA.out; have hC := HC.out
    have a0 := hA.cell 0 _ rfl; have a1 := hA.cell 1 _ rfl; have a2 := hA.cell 2 _ rfl; have a3 := hA.cell 3 _ rfl; have a4 := hA.cell 4 _ rfl; have c0 := hC.cell 0 _ rfl; have c1 := hC.cell 1 _ rfl; have c2 := hC.cell 2 _ rfl
    go_wp2_with fail
    refine (K0.out _).mono ?_
    rintro e w1 ⟨rfl, hb⟩
    have HB1 := Lib.hid (below_on HB.out HB.out.size hb)
    have HA1 := Lib.hid (HA.out.keeps hb); have HC1 := Lib.hid (HC.out.keeps hb)
    clear hb a0 a1 a2 a3 a4 c0 c1 c2 hA hC
    go_wp2
    go_ret
    exact ⟨rfl, HB1.out⟩
  · have K2 := Lib.hid (fun W => rright_any o c v i s l t d false hR W)
    clear hR
    go_enter Try.func6, Try.ntmps6
    have hA := HA.out; have hC := HC.out
    have a0 := hA.cell 0 _ rfl; have a1 := hA.cell 1 _ rfl; have a2 := hA.cell 2 _ rfl; have a3 := hA.cell 3 _ rfl; have a4 := hA.cell 4 _ rfl; have c0 := hC.cell 0 _ rfl; have c1 := hC.cell 1 _ rfl; have c2 := hC.cell 2 _ rfl
    go_wp2_with fail
    refine (K0.out _).mono ?_
    rintro e w1 ⟨rfl, hb⟩
    have HB1 := Lib.hid (below_on HB.out HB.out.size hb)
    have HA1 := Lib.hid (HA.out.keeps hb); have HC1 := Lib.hid (HC.out.keeps hb)
    clear hb a0 a1 a2 a3 a4 c0 c1 c2 hA hC
    have hA := HA1.out; have hC := HC1.out
    have a0 := hA.cell 0 _ rfl; have a1 := hA.cell 1 _ rfl; have a2 := hA.cell 2 _ rfl; have a3 := hA.cell 3 _ rfl; have a4 := hA.cell 4 _ rfl; have c0 := hC.cell 0 _ rfl; have c1 := hC.cell 1 _ rfl; have c2 := hC.cell 2 _ rfl
    go_wp2_with fail
    refine (K2.out _).mono ?_
    rintro e w2 ⟨rfl, hb⟩
    have HB2 := Lib.hid (below_on HB1.out HB1.out.size hb)
    have HA2 := Lib.hid (HA1.out.keeps hb); have HC2 := Lib.hid (HC1.out.keeps hb)
    clear hb a0 a1 a2 a3 a4 c0 c1 c2 hA hC
    go_wp2
    go_ret
    exact ⟨rfl, HB2.out⟩
set_option maxRecDepth 8000 in
set_option maxHeartbeats 1600000 in
theorem covScales_ttt (o c v i s l t d m a C D : Int) (hm : 1 ≤ m) (hm2 : m ≤ 400000) (hR : rightF o c v i s l t d = true)
    (h1 : brS o c v i s l t d = (a, 0)) (h2 : brS (o * m) (c * m) (v * m) (i * m) (s * m) l t d = (a, 0)) (h3 : brS o c v (i + m) s l t d = (C, 0)) (h4 : brS (o + m) c v i s l t d = (D, 0))
    (hC : bits .andNot .i64 C a = 0) (hD : bits .andNot .i64 a D = 0) (w : World) :
    Calls Try.prog 6 #[.agg #[.int .i64 o, .int .i64 c, .int .i64 v, .int .i64 i, .int .i64 s], .agg #[.int .i64 l, .int .i64 t, .int .i64 d], .int .i64 m] w fun e w' => e = .returned (.bool true) ∧ Below w.heap.size w w' := by
  obtain ⟨⟨r1, r2, r3, r4, r5⟩, ⟨r6, r7⟩, r8⟩ := (rightF_iff o c v i s l t d).1 hR
  have hp : ∀ x : Int, 0 ≤ x ∧ x ≤ 20000000000000 → 0 ≤ x * m ∧ x * m ≤ 8000000000000000000 := fun x h => by
    have h1 := Int.mul_nonneg h.1 (show 0 ≤ m by omega)
    have h2 : x * m ≤ x * 400000 := Int.mul_le_mul_of_nonneg_left hm2 h.1
    omega
  have p1 := hp o r1; have p2 := hp c r2; have p3 := hp v r3; have p4 := hp i r4; have p5 := hp s r5
  have iw : ∀ x : Int, 0 ≤ x ∧ x ≤ 8000000000000000000 → i64 x := fun x h => ⟨by omega, by omega⟩
  have H1 := fun W => broken_any o c v i s l t d (iw _ (by omega)) (iw _ (by omega)) (iw _ (by omega)) (iw _ (by omega)) (iw _ (by omega)) (iw _ (by omega)) (iw _ (by omega)) (iw _ (by omega)) W
  have H2 := fun W => broken_any (o * m) (c * m) (v * m) (i * m) (s * m) l t d (iw _ (by omega)) (iw _ (by omega)) (iw _ (by omega)) (iw _ (by omega)) (iw _ (by omega)) (iw _ (by omega)) (iw _ (by omega)) (iw _ (by omega)) W
  have H3 := fun W => broken_any o c v (i + m) s l t d (iw _ (by omega)) (iw _ (by omega)) (iw _ (by omega)) (iw _ (by omega)) (iw _ (by omega)) (iw _ (by omega)) (iw _ (by omega)) (iw _ (by omega)) W
  have H4 := fun W => broken_any (o + m) c v i s l t d (iw _ (by omega)) (iw _ (by omega)) (iw _ (by omega)) (iw _ (by omega)) (iw _ (by omega)) (iw _ (by omega)) (iw _ (by omega)) (iw _ (by omega)) W
  rw [h1] at H1; rw [h2] at H2; rw [h3] at H3; rw [h4] at H4
  have K1 := Lib.hid (fun W => rright_any o c v i s l t d true hR W)
  have K2 := Lib.hid H1; have K3 := Lib.hid H2; have K4 := Lib.hid H3; have K5 := Lib.hid H4
  obtain ⟨q1, q2⟩ := p1; obtain ⟨q3, q4⟩ := p2; obtain ⟨q5, q6⟩ := p3; obtain ⟨q7, q8⟩ := p4; obtain ⟨q9, q10⟩ := p5
  obtain ⟨s1, s2⟩ := r1; obtain ⟨s3, s4⟩ := r4
  clear H1 H2 H3 H4 h1 h2 h3 h4 hp iw hR r2 r3 r5 r6 r7 r8
  have K0 := Lib.hid calive_any
  have HB := Lib.hid (below_new2 w (.cells #[.int .i64 o, .int .i64 c, .int .i64 v, .int .i64 i, .int .i64 s] 26) (.cells #[.int .i64 l, .int .i64 t, .int .i64 d] 28))
  have HA := Lib.hid ((Blk.new w 26 [.int .i64 o, .int .i64 c, .int .i64 v, .int .i64 i, .int .i64 s]).alloc (.cells #[.int .i64 l, .int .i64 t, .int .i64 d] 28))
  have HC := Lib.hid (Blk.new2 w (.cells #[.int .i64 o, .int .i64 c, .int .i64 v, .int .i64 i, .int .i64 s] 26) 28 [.int .i64 l, .int .i64 t, .int .i64 d])
  go_enter Try.func6, Try.ntmps6
  have hA := HA.out; have hC := HC.out
  have a0 := hA.cell 0 _ rfl; have a1 := hA.cell 1 _ rfl; have a2 := hA.cell 2 _ rfl; have a3 := hA.cell 3 _ rfl; have a4 := hA.cell 4 _ rfl; have c0 := hC.cell 0 _ rfl; have c1 := hC.cell 1 _ rfl; have c2 := hC.cell 2 _ rfl
  go_wp2_with fail
  refine (K0.out _).mono ?_
  rintro e w1 ⟨rfl, hb⟩
  have HB1 := Lib.hid (below_on HB.out HB.out.size hb)
  have HA1 := Lib.hid (HA.out.keeps hb); have HC1 := Lib.hid (HC.out.keeps hb)
  clear hb a0 a1 a2 a3 a4 c0 c1 c2 hA hC
  have hA := HA1.out; have hC := HC1.out
  have a0 := hA.cell 0 _ rfl; have a1 := hA.cell 1 _ rfl; have a2 := hA.cell 2 _ rfl; have a3 := hA.cell 3 _ rfl; have a4 := hA.cell 4 _ rfl; have c0 := hC.cell 0 _ rfl; have c1 := hC.cell 1 _ rfl; have c2 := hC.cell 2 _ rfl
  go_wp2_with fail
  refine (K1.out _).mono ?_
  rintro e w2 ⟨rfl, hb⟩
  have HB2 := Lib.hid (below_on HB1.out HB1.out.size hb)
  have HA2 := Lib.hid (HA1.out.keeps hb); have HC2 := Lib.hid (HC1.out.keeps hb)
  clear hb a0 a1 a2 a3 a4 c0 c1 c2 hA hC
  have hA := HA2.out; have hC := HC2.out
  have a0 := hA.cell 0 _ rfl; have a1 := hA.cell 1 _ rfl; have a2 := hA.cell 2 _ rfl; have a3 := hA.cell 3 _ rfl; have a4 := hA.cell 4 _ rfl; have c0 := hC.cell 0 _ rfl; have c1 := hC.cell 1 _ rfl; have c2 := hC.cell 2 _ rfl
  go_wp2_with fail
  refine (K2.out _).mono ?_
  rintro e w3 ⟨rfl, hb⟩
  have HB3 := Lib.hid (below_on HB2.out HB2.out.size hb)
  have HA3 := Lib.hid (HA2.out.keeps hb); have HC3 := Lib.hid (HC2.out.keeps hb)
  clear hb a0 a1 a2 a3 a4 c0 c1 c2 hA hC
  have hA := HA3.out; have hC := HC3.out
  have a0 := hA.cell 0 _ rfl; have a1 := hA.cell 1 _ rfl; have a2 := hA.cell 2 _ rfl; have a3 := hA.cell 3 _ rfl; have a4 := hA.cell 4 _ rfl; have c0 := hC.cell 0 _ rfl; have c1 := hC.cell 1 _ rfl; have c2 := hC.cell 2 _ rfl
  go_wp2_with fail
  refine (K3.out _).mono ?_
  rintro e w4 ⟨rfl, hb⟩
  have HB4 := Lib.hid (below_on HB3.out HB3.out.size hb)
  have HA4 := Lib.hid (HA3.out.keeps hb); have HC4 := Lib.hid (HC3.out.keeps hb)
  clear hb a0 a1 a2 a3 a4 c0 c1 c2 hA hC
  have hA := HA4.out; have hC := HC4.out
  have a0 := hA.cell 0 _ rfl; have a1 := hA.cell 1 _ rfl; have a2 := hA.cell 2 _ rfl; have a3 := hA.cell 3 _ rfl; have a4 := hA.cell 4 _ rfl; have c0 := hC.cell 0 _ rfl; have c1 := hC.cell 1 _ rfl; have c2 := hC.cell 2 _ rfl
  have HAs := Lib.hid (HA4.out.alloc (.cells #[.int .i64 o, .int .i64 c, .int .i64 v, .int .i64 (i + m), .int .i64 s] 26)); have HCs := Lib.hid (HC4.out.alloc (.cells #[.int .i64 o, .int .i64 c, .int .i64 v, .int .i64 (i + m), .int .i64 s] 26))
  have HBs := Lib.hid (HB4.out.alloc HB4.out.size (.cells #[.int .i64 o, .int .i64 c, .int .i64 v, .int .i64 (i + m), .int .i64 s] 26))
  have hAn := HAs.out; have hCn := HCs.out; have hAm := HA4.out.alloc (.cells #[.int .i64 o, .int .i64 c, .int .i64 v, .int .i64 i, .int .i64 s] 26)
  have d0 := hAn.cell 0 _ rfl; have d1 := hAn.cell 1 _ rfl; have d2 := hAn.cell 2 _ rfl; have d3 := hAn.cell 3 _ rfl; have d4 := hAn.cell 4 _ rfl; have e0 := hCn.cell 0 _ rfl; have e1 := hCn.cell 1 _ rfl; have e2 := hCn.cell 2 _ rfl; have k0 := hAm.cell 0 _ rfl; have k1 := hAm.cell 1 _ rfl; have k2 := hAm.cell 2 _ rfl; have k3 := hAm.cell 3 _ rfl; have k4 := hAm.cell 4 _ rfl
  go_wp2_with fail
  clear k0 k1 k2 k3 k4 hAm d0 d1 d2 d3 d4 e0 e1 e2 hAn hCn
  refine (K4.out _).mono ?_
  rintro e w5 ⟨rfl, hb⟩
  have HB5 := Lib.hid (below_on HBs.out HBs.out.size hb)
  have HA5 := Lib.hid (HAs.out.keeps hb); have HC5 := Lib.hid (HCs.out.keeps hb)
  clear hb a0 a1 a2 a3 a4 c0 c1 c2 hA hC
  clear HAs HCs HBs
  have hA := HA5.out; have hC := HC5.out
  have a0 := hA.cell 0 _ rfl; have a1 := hA.cell 1 _ rfl; have a2 := hA.cell 2 _ rfl; have a3 := hA.cell 3 _ rfl; have a4 := hA.cell 4 _ rfl; have c0 := hC.cell 0 _ rfl; have c1 := hC.cell 1 _ rfl; have c2 := hC.cell 2 _ rfl
  have HAs := Lib.hid (HA5.out.alloc (.cells #[.int .i64 (o + m), .int .i64 c, .int .i64 v, .int .i64 i, .int .i64 s] 26)); have HCs := Lib.hid (HC5.out.alloc (.cells #[.int .i64 (o + m), .int .i64 c, .int .i64 v, .int .i64 i, .int .i64 s] 26))
  have HBs := Lib.hid (HB5.out.alloc HB5.out.size (.cells #[.int .i64 (o + m), .int .i64 c, .int .i64 v, .int .i64 i, .int .i64 s] 26))
  have hAn := HAs.out; have hCn := HCs.out; have hAm := HA5.out.alloc (.cells #[.int .i64 o, .int .i64 c, .int .i64 v, .int .i64 i, .int .i64 s] 26)
  have d0 := hAn.cell 0 _ rfl; have d1 := hAn.cell 1 _ rfl; have d2 := hAn.cell 2 _ rfl; have d3 := hAn.cell 3 _ rfl; have d4 := hAn.cell 4 _ rfl; have e0 := hCn.cell 0 _ rfl; have e1 := hCn.cell 1 _ rfl; have e2 := hCn.cell 2 _ rfl; have k0 := hAm.cell 0 _ rfl; have k1 := hAm.cell 1 _ rfl; have k2 := hAm.cell 2 _ rfl; have k3 := hAm.cell 3 _ rfl; have k4 := hAm.cell 4 _ rfl
  go_wp2_with fail
  clear k0 k1 k2 k3 k4 hAm d0 d1 d2 d3 d4 e0 e1 e2 hAn hCn
  refine (K5.out _).mono ?_
  rintro e w6 ⟨rfl, hb⟩
  have HB6 := Lib.hid (below_on HBs.out HBs.out.size hb)
  have HA6 := Lib.hid (HAs.out.keeps hb); have HC6 := Lib.hid (HCs.out.keeps hb)
  clear hb a0 a1 a2 a3 a4 c0 c1 c2 hA hC
  go_wp2
  all_goals first | (exfalso; exact absurd hC (by assumption)) | (go_ret; exact ⟨ret_bool (by simp [hD]), HB6.out⟩)
set_option maxRecDepth 8000 in
set_option maxHeartbeats 1600000 in
theorem covScales_ttf (o c v i s l t d m a C D : Int) (hm : 1 ≤ m) (hm2 : m ≤ 400000) (hR : rightF o c v i s l t d = true)
    (h1 : brS o c v i s l t d = (a, 0)) (h2 : brS (o * m) (c * m) (v * m) (i * m) (s * m) l t d = (a, 0)) (h3 : brS o c v (i + m) s l t d = (C, 0)) (h4 : brS (o + m) c v i s l t d = (D, 191))
    (hC : bits .andNot .i64 C a = 0)  (w : World) :
    Calls Try.prog 6 #[.agg #[.int .i64 o, .int .i64 c, .int .i64 v, .int .i64 i, .int .i64 s], .agg #[.int .i64 l, .int .i64 t, .int .i64 d], .int .i64 m] w fun e w' => e = .returned (.bool true) ∧ Below w.heap.size w w' := by
  obtain ⟨⟨r1, r2, r3, r4, r5⟩, ⟨r6, r7⟩, r8⟩ := (rightF_iff o c v i s l t d).1 hR
  have hp : ∀ x : Int, 0 ≤ x ∧ x ≤ 20000000000000 → 0 ≤ x * m ∧ x * m ≤ 8000000000000000000 := fun x h => by
    have h1 := Int.mul_nonneg h.1 (show 0 ≤ m by omega)
    have h2 : x * m ≤ x * 400000 := Int.mul_le_mul_of_nonneg_left hm2 h.1
    omega
  have p1 := hp o r1; have p2 := hp c r2; have p3 := hp v r3; have p4 := hp i r4; have p5 := hp s r5
  have iw : ∀ x : Int, 0 ≤ x ∧ x ≤ 8000000000000000000 → i64 x := fun x h => ⟨by omega, by omega⟩
  have H1 := fun W => broken_any o c v i s l t d (iw _ (by omega)) (iw _ (by omega)) (iw _ (by omega)) (iw _ (by omega)) (iw _ (by omega)) (iw _ (by omega)) (iw _ (by omega)) (iw _ (by omega)) W
  have H2 := fun W => broken_any (o * m) (c * m) (v * m) (i * m) (s * m) l t d (iw _ (by omega)) (iw _ (by omega)) (iw _ (by omega)) (iw _ (by omega)) (iw _ (by omega)) (iw _ (by omega)) (iw _ (by omega)) (iw _ (by omega)) W
  have H3 := fun W => broken_any o c v (i + m) s l t d (iw _ (by omega)) (iw _ (by omega)) (iw _ (by omega)) (iw _ (by omega)) (iw _ (by omega)) (iw _ (by omega)) (iw _ (by omega)) (iw _ (by omega)) W
  have H4 := fun W => broken_any (o + m) c v i s l t d (iw _ (by omega)) (iw _ (by omega)) (iw _ (by omega)) (iw _ (by omega)) (iw _ (by omega)) (iw _ (by omega)) (iw _ (by omega)) (iw _ (by omega)) W
  rw [h1] at H1; rw [h2] at H2; rw [h3] at H3; rw [h4] at H4
  have K1 := Lib.hid (fun W => rright_any o c v i s l t d true hR W)
  have K2 := Lib.hid H1; have K3 := Lib.hid H2; have K4 := Lib.hid H3; have K5 := Lib.hid H4
  obtain ⟨q1, q2⟩ := p1; obtain ⟨q3, q4⟩ := p2; obtain ⟨q5, q6⟩ := p3; obtain ⟨q7, q8⟩ := p4; obtain ⟨q9, q10⟩ := p5
  obtain ⟨s1, s2⟩ := r1; obtain ⟨s3, s4⟩ := r4
  clear H1 H2 H3 H4 h1 h2 h3 h4 hp iw hR r2 r3 r5 r6 r7 r8
  have K0 := Lib.hid calive_any
  have HB := Lib.hid (below_new2 w (.cells #[.int .i64 o, .int .i64 c, .int .i64 v, .int .i64 i, .int .i64 s] 26) (.cells #[.int .i64 l, .int .i64 t, .int .i64 d] 28))
  have HA := Lib.hid ((Blk.new w 26 [.int .i64 o, .int .i64 c, .int .i64 v, .int .i64 i, .int .i64 s]).alloc (.cells #[.int .i64 l, .int .i64 t, .int .i64 d] 28))
  have HC := Lib.hid (Blk.new2 w (.cells #[.int .i64 o, .int .i64 c, .int .i64 v, .int .i64 i, .int .i64 s] 26) 28 [.int .i64 l, .int .i64 t, .int .i64 d])
  go_enter Try.func6, Try.ntmps6
  have hA := HA.out; have hC := HC.out
  have a0 := hA.cell 0 _ rfl; have a1 := hA.cell 1 _ rfl; have a2 := hA.cell 2 _ rfl; have a3 := hA.cell 3 _ rfl; have a4 := hA.cell 4 _ rfl; have c0 := hC.cell 0 _ rfl; have c1 := hC.cell 1 _ rfl; have c2 := hC.cell 2 _ rfl
  go_wp2_with fail
  refine (K0.out _).mono ?_
  rintro e w1 ⟨rfl, hb⟩
  have HB1 := Lib.hid (below_on HB.out HB.out.size hb)
  have HA1 := Lib.hid (HA.out.keeps hb); have HC1 := Lib.hid (HC.out.keeps hb)
  clear hb a0 a1 a2 a3 a4 c0 c1 c2 hA hC
  have hA := HA1.out; have hC := HC1.out
  have a0 := hA.cell 0 _ rfl; have a1 := hA.cell 1 _ rfl; have a2 := hA.cell 2 _ rfl; have a3 := hA.cell 3 _ rfl; have a4 := hA.cell 4 _ rfl; have c0 := hC.cell 0 _ rfl; have c1 := hC.cell 1 _ rfl; have c2 := hC.cell 2 _ rfl
  go_wp2_with fail
  refine (K1.out _).mono ?_
  rintro e w2 ⟨rfl, hb⟩
  have HB2 := Lib.hid (below_on HB1.out HB1.out.size hb)
  have HA2 := Lib.hid (HA1.out.keeps hb); have HC2 := Lib.hid (HC1.out.keeps hb)
  clear hb a0 a1 a2 a3 a4 c0 c1 c2 hA hC
  have hA := HA2.out; have hC := HC2.out
  have a0 := hA.cell 0 _ rfl; have a1 := hA.cell 1 _ rfl; have a2 := hA.cell 2 _ rfl; have a3 := hA.cell 3 _ rfl; have a4 := hA.cell 4 _ rfl; have c0 := hC.cell 0 _ rfl; have c1 := hC.cell 1 _ rfl; have c2 := hC.cell 2 _ rfl
  go_wp2_with fail
  refine (K2.out _).mono ?_
  rintro e w3 ⟨rfl, hb⟩
  have HB3 := Lib.hid (below_on HB2.out HB2.out.size hb)
  have HA3 := Lib.hid (HA2.out.keeps hb); have HC3 := Lib.hid (HC2.out.keeps hb)
  clear hb a0 a1 a2 a3 a4 c0 c1 c2 hA hC
  have hA := HA3.out; have hC := HC3.out
  have a0 := hA.cell 0 _ rfl; have a1 := hA.cell 1 _ rfl; have a2 := hA.cell 2 _ rfl; have a3 := hA.cell 3 _ rfl; have a4 := hA.cell 4 _ rfl; have c0 := hC.cell 0 _ rfl; have c1 := hC.cell 1 _ rfl; have c2 := hC.cell 2 _ rfl
  go_wp2_with fail
  refine (K3.out _).mono ?_
  rintro e w4 ⟨rfl, hb⟩
  have HB4 := Lib.hid (below_on HB3.out HB3.out.size hb)
  have HA4 := Lib.hid (HA3.out.keeps hb); have HC4 := Lib.hid (HC3.out.keeps hb)
  clear hb a0 a1 a2 a3 a4 c0 c1 c2 hA hC
  have hA := HA4.out; have hC := HC4.out
  have a0 := hA.cell 0 _ rfl; have a1 := hA.cell 1 _ rfl; have a2 := hA.cell 2 _ rfl; have a3 := hA.cell 3 _ rfl; have a4 := hA.cell 4 _ rfl; have c0 := hC.cell 0 _ rfl; have c1 := hC.cell 1 _ rfl; have c2 := hC.cell 2 _ rfl
  have HAs := Lib.hid (HA4.out.alloc (.cells #[.int .i64 o, .int .i64 c, .int .i64 v, .int .i64 (i + m), .int .i64 s] 26)); have HCs := Lib.hid (HC4.out.alloc (.cells #[.int .i64 o, .int .i64 c, .int .i64 v, .int .i64 (i + m), .int .i64 s] 26))
  have HBs := Lib.hid (HB4.out.alloc HB4.out.size (.cells #[.int .i64 o, .int .i64 c, .int .i64 v, .int .i64 (i + m), .int .i64 s] 26))
  have hAn := HAs.out; have hCn := HCs.out; have hAm := HA4.out.alloc (.cells #[.int .i64 o, .int .i64 c, .int .i64 v, .int .i64 i, .int .i64 s] 26)
  have d0 := hAn.cell 0 _ rfl; have d1 := hAn.cell 1 _ rfl; have d2 := hAn.cell 2 _ rfl; have d3 := hAn.cell 3 _ rfl; have d4 := hAn.cell 4 _ rfl; have e0 := hCn.cell 0 _ rfl; have e1 := hCn.cell 1 _ rfl; have e2 := hCn.cell 2 _ rfl; have k0 := hAm.cell 0 _ rfl; have k1 := hAm.cell 1 _ rfl; have k2 := hAm.cell 2 _ rfl; have k3 := hAm.cell 3 _ rfl; have k4 := hAm.cell 4 _ rfl
  go_wp2_with fail
  clear k0 k1 k2 k3 k4 hAm d0 d1 d2 d3 d4 e0 e1 e2 hAn hCn
  refine (K4.out _).mono ?_
  rintro e w5 ⟨rfl, hb⟩
  have HB5 := Lib.hid (below_on HBs.out HBs.out.size hb)
  have HA5 := Lib.hid (HAs.out.keeps hb); have HC5 := Lib.hid (HCs.out.keeps hb)
  clear hb a0 a1 a2 a3 a4 c0 c1 c2 hA hC
  clear HAs HCs HBs
  have hA := HA5.out; have hC := HC5.out
  have a0 := hA.cell 0 _ rfl; have a1 := hA.cell 1 _ rfl; have a2 := hA.cell 2 _ rfl; have a3 := hA.cell 3 _ rfl; have a4 := hA.cell 4 _ rfl; have c0 := hC.cell 0 _ rfl; have c1 := hC.cell 1 _ rfl; have c2 := hC.cell 2 _ rfl
  have HAs := Lib.hid (HA5.out.alloc (.cells #[.int .i64 (o + m), .int .i64 c, .int .i64 v, .int .i64 i, .int .i64 s] 26)); have HCs := Lib.hid (HC5.out.alloc (.cells #[.int .i64 (o + m), .int .i64 c, .int .i64 v, .int .i64 i, .int .i64 s] 26))
  have HBs := Lib.hid (HB5.out.alloc HB5.out.size (.cells #[.int .i64 (o + m), .int .i64 c, .int .i64 v, .int .i64 i, .int .i64 s] 26))
  have hAn := HAs.out; have hCn := HCs.out; have hAm := HA5.out.alloc (.cells #[.int .i64 o, .int .i64 c, .int .i64 v, .int .i64 i, .int .i64 s] 26)
  have d0 := hAn.cell 0 _ rfl; have d1 := hAn.cell 1 _ rfl; have d2 := hAn.cell 2 _ rfl; have d3 := hAn.cell 3 _ rfl; have d4 := hAn.cell 4 _ rfl; have e0 := hCn.cell 0 _ rfl; have e1 := hCn.cell 1 _ rfl; have e2 := hCn.cell 2 _ rfl; have k0 := hAm.cell 0 _ rfl; have k1 := hAm.cell 1 _ rfl; have k2 := hAm.cell 2 _ rfl; have k3 := hAm.cell 3 _ rfl; have k4 := hAm.cell 4 _ rfl
  go_wp2_with fail
  clear k0 k1 k2 k3 k4 hAm d0 d1 d2 d3 d4 e0 e1 e2 hAn hCn
  refine (K5.out _).mono ?_
  rintro e w6 ⟨rfl, hb⟩
  have HB6 := Lib.hid (below_on HBs.out HBs.out.size hb)
  have HA6 := Lib.hid (HAs.out.keeps hb); have HC6 := Lib.hid (HCs.out.keeps hb)
  clear hb a0 a1 a2 a3 a4 c0 c1 c2 hA hC
  go_wp2
  all_goals first | (exfalso; exact absurd hC (by assumption)) | (go_ret; exact ⟨rfl, HB6.out⟩)
set_option maxRecDepth 8000 in
set_option maxHeartbeats 1600000 in
theorem covScales_tft (o c v i s l t d m a C D : Int) (hm : 1 ≤ m) (hm2 : m ≤ 400000) (hR : rightF o c v i s l t d = true)
    (h1 : brS o c v i s l t d = (a, 0)) (h2 : brS (o * m) (c * m) (v * m) (i * m) (s * m) l t d = (a, 0)) (h3 : brS o c v (i + m) s l t d = (C, 191)) (h4 : brS (o + m) c v i s l t d = (D, 0))
     (hD : bits .andNot .i64 a D = 0) (w : World) :
    Calls Try.prog 6 #[.agg #[.int .i64 o, .int .i64 c, .int .i64 v, .int .i64 i, .int .i64 s], .agg #[.int .i64 l, .int .i64 t, .int .i64 d], .int .i64 m] w fun e w' => e = .returned (.bool true) ∧ Below w.heap.size w w' := by
  obtain ⟨⟨r1, r2, r3, r4, r5⟩, ⟨r6, r7⟩, r8⟩ := (rightF_iff o c v i s l t d).1 hR
  have hp : ∀ x : Int, 0 ≤ x ∧ x ≤ 20000000000000 → 0 ≤ x * m ∧ x * m ≤ 8000000000000000000 := fun x h => by
    have h1 := Int.mul_nonneg h.1 (show 0 ≤ m by omega)
    have h2 : x * m ≤ x * 400000 := Int.mul_le_mul_of_nonneg_left hm2 h.1
    omega
  have p1 := hp o r1; have p2 := hp c r2; have p3 := hp v r3; have p4 := hp i r4; have p5 := hp s r5
  have iw : ∀ x : Int, 0 ≤ x ∧ x ≤ 8000000000000000000 → i64 x := fun x h => ⟨by omega, by omega⟩
  have H1 := fun W => broken_any o c v i s l t d (iw _ (by omega)) (iw _ (by omega)) (iw _ (by omega)) (iw _ (by omega)) (iw _ (by omega)) (iw _ (by omega)) (iw _ (by omega)) (iw _ (by omega)) W
  have H2 := fun W => broken_any (o * m) (c * m) (v * m) (i * m) (s * m) l t d (iw _ (by omega)) (iw _ (by omega)) (iw _ (by omega)) (iw _ (by omega)) (iw _ (by omega)) (iw _ (by omega)) (iw _ (by omega)) (iw _ (by omega)) W
  have H3 := fun W => broken_any o c v (i + m) s l t d (iw _ (by omega)) (iw _ (by omega)) (iw _ (by omega)) (iw _ (by omega)) (iw _ (by omega)) (iw _ (by omega)) (iw _ (by omega)) (iw _ (by omega)) W
  have H4 := fun W => broken_any (o + m) c v i s l t d (iw _ (by omega)) (iw _ (by omega)) (iw _ (by omega)) (iw _ (by omega)) (iw _ (by omega)) (iw _ (by omega)) (iw _ (by omega)) (iw _ (by omega)) W
  rw [h1] at H1; rw [h2] at H2; rw [h3] at H3; rw [h4] at H4
  have K1 := Lib.hid (fun W => rright_any o c v i s l t d true hR W)
  have K2 := Lib.hid H1; have K3 := Lib.hid H2; have K4 := Lib.hid H3; have K5 := Lib.hid H4
  obtain ⟨q1, q2⟩ := p1; obtain ⟨q3, q4⟩ := p2; obtain ⟨q5, q6⟩ := p3; obtain ⟨q7, q8⟩ := p4; obtain ⟨q9, q10⟩ := p5
  obtain ⟨s1, s2⟩ := r1; obtain ⟨s3, s4⟩ := r4
  clear H1 H2 H3 H4 h1 h2 h3 h4 hp iw hR r2 r3 r5 r6 r7 r8
  have K0 := Lib.hid calive_any
  have HB := Lib.hid (below_new2 w (.cells #[.int .i64 o, .int .i64 c, .int .i64 v, .int .i64 i, .int .i64 s] 26) (.cells #[.int .i64 l, .int .i64 t, .int .i64 d] 28))
  have HA := Lib.hid ((Blk.new w 26 [.int .i64 o, .int .i64 c, .int .i64 v, .int .i64 i, .int .i64 s]).alloc (.cells #[.int .i64 l, .int .i64 t, .int .i64 d] 28))
  have HC := Lib.hid (Blk.new2 w (.cells #[.int .i64 o, .int .i64 c, .int .i64 v, .int .i64 i, .int .i64 s] 26) 28 [.int .i64 l, .int .i64 t, .int .i64 d])
  go_enter Try.func6, Try.ntmps6
  have hA := HA.out; have hC := HC.out
  have a0 := hA.cell 0 _ rfl; have a1 := hA.cell 1 _ rfl; have a2 := hA.cell 2 _ rfl; have a3 := hA.cell 3 _ rfl; have a4 := hA.cell 4 _ rfl; have c0 := hC.cell 0 _ rfl; have c1 := hC.cell 1 _ rfl; have c2 := hC.cell 2 _ rfl
  go_wp2_with fail
  refine (K0.out _).mono ?_
  rintro e w1 ⟨rfl, hb⟩
  have HB1 := Lib.hid (below_on HB.out HB.out.size hb)
  have HA1 := Lib.hid (HA.out.keeps hb); have HC1 := Lib.hid (HC.out.keeps hb)
  clear hb a0 a1 a2 a3 a4 c0 c1 c2 hA hC
  have hA := HA1.out; have hC := HC1.out
  have a0 := hA.cell 0 _ rfl; have a1 := hA.cell 1 _ rfl; have a2 := hA.cell 2 _ rfl; have a3 := hA.cell 3 _ rfl; have a4 := hA.cell 4 _ rfl; have c0 := hC.cell 0 _ rfl; have c1 := hC.cell 1 _ rfl; have c2 := hC.cell 2 _ rfl
  go_wp2_with fail
  refine (K1.out _).mono ?_
  rintro e w2 ⟨rfl, hb⟩
  have HB2 := Lib.hid (below_on HB1.out HB1.out.size hb)
  have HA2 := Lib.hid (HA1.out.keeps hb); have HC2 := Lib.hid (HC1.out.keeps hb)
  clear hb a0 a1 a2 a3 a4 c0 c1 c2 hA hC
  have hA := HA2.out; have hC := HC2.out
  have a0 := hA.cell 0 _ rfl; have a1 := hA.cell 1 _ rfl; have a2 := hA.cell 2 _ rfl; have a3 := hA.cell 3 _ rfl; have a4 := hA.cell 4 _ rfl; have c0 := hC.cell 0 _ rfl; have c1 := hC.cell 1 _ rfl; have c2 := hC.cell 2 _ rfl
  go_wp2_with fail
  refine (K2.out _).mono ?_
  rintro e w3 ⟨rfl, hb⟩
  have HB3 := Lib.hid (below_on HB2.out HB2.out.size hb)
  have HA3 := Lib.hid (HA2.out.keeps hb); have HC3 := Lib.hid (HC2.out.keeps hb)
  clear hb a0 a1 a2 a3 a4 c0 c1 c2 hA hC
  have hA := HA3.out; have hC := HC3.out
  have a0 := hA.cell 0 _ rfl; have a1 := hA.cell 1 _ rfl; have a2 := hA.cell 2 _ rfl; have a3 := hA.cell 3 _ rfl; have a4 := hA.cell 4 _ rfl; have c0 := hC.cell 0 _ rfl; have c1 := hC.cell 1 _ rfl; have c2 := hC.cell 2 _ rfl
  go_wp2_with fail
  refine (K3.out _).mono ?_
  rintro e w4 ⟨rfl, hb⟩
  have HB4 := Lib.hid (below_on HB3.out HB3.out.size hb)
  have HA4 := Lib.hid (HA3.out.keeps hb); have HC4 := Lib.hid (HC3.out.keeps hb)
  clear hb a0 a1 a2 a3 a4 c0 c1 c2 hA hC
  have hA := HA4.out; have hC := HC4.out
  have a0 := hA.cell 0 _ rfl; have a1 := hA.cell 1 _ rfl; have a2 := hA.cell 2 _ rfl; have a3 := hA.cell 3 _ rfl; have a4 := hA.cell 4 _ rfl; have c0 := hC.cell 0 _ rfl; have c1 := hC.cell 1 _ rfl; have c2 := hC.cell 2 _ rfl
  have HAs := Lib.hid (HA4.out.alloc (.cells #[.int .i64 o, .int .i64 c, .int .i64 v, .int .i64 (i + m), .int .i64 s] 26)); have HCs := Lib.hid (HC4.out.alloc (.cells #[.int .i64 o, .int .i64 c, .int .i64 v, .int .i64 (i + m), .int .i64 s] 26))
  have HBs := Lib.hid (HB4.out.alloc HB4.out.size (.cells #[.int .i64 o, .int .i64 c, .int .i64 v, .int .i64 (i + m), .int .i64 s] 26))
  have hAn := HAs.out; have hCn := HCs.out; have hAm := HA4.out.alloc (.cells #[.int .i64 o, .int .i64 c, .int .i64 v, .int .i64 i, .int .i64 s] 26)
  have d0 := hAn.cell 0 _ rfl; have d1 := hAn.cell 1 _ rfl; have d2 := hAn.cell 2 _ rfl; have d3 := hAn.cell 3 _ rfl; have d4 := hAn.cell 4 _ rfl; have e0 := hCn.cell 0 _ rfl; have e1 := hCn.cell 1 _ rfl; have e2 := hCn.cell 2 _ rfl; have k0 := hAm.cell 0 _ rfl; have k1 := hAm.cell 1 _ rfl; have k2 := hAm.cell 2 _ rfl; have k3 := hAm.cell 3 _ rfl; have k4 := hAm.cell 4 _ rfl
  go_wp2_with fail
  clear k0 k1 k2 k3 k4 hAm d0 d1 d2 d3 d4 e0 e1 e2 hAn hCn
  refine (K4.out _).mono ?_
  rintro e w5 ⟨rfl, hb⟩
  have HB5 := Lib.hid (below_on HBs.out HBs.out.size hb)
  have HA5 := Lib.hid (HAs.out.keeps hb); have HC5 := Lib.hid (HCs.out.keeps hb)
  clear hb a0 a1 a2 a3 a4 c0 c1 c2 hA hC
  clear HAs HCs HBs
  have hA := HA5.out; have hC := HC5.out
  have a0 := hA.cell 0 _ rfl; have a1 := hA.cell 1 _ rfl; have a2 := hA.cell 2 _ rfl; have a3 := hA.cell 3 _ rfl; have a4 := hA.cell 4 _ rfl; have c0 := hC.cell 0 _ rfl; have c1 := hC.cell 1 _ rfl; have c2 := hC.cell 2 _ rfl
  have HAs := Lib.hid (HA5.out.alloc (.cells #[.int .i64 (o + m), .int .i64 c, .int .i64 v, .int .i64 i, .int .i64 s] 26)); have HCs := Lib.hid (HC5.out.alloc (.cells #[.int .i64 (o + m), .int .i64 c, .int .i64 v, .int .i64 i, .int .i64 s] 26))
  have HBs := Lib.hid (HB5.out.alloc HB5.out.size (.cells #[.int .i64 (o + m), .int .i64 c, .int .i64 v, .int .i64 i, .int .i64 s] 26))
  have hAn := HAs.out; have hCn := HCs.out; have hAm := HA5.out.alloc (.cells #[.int .i64 o, .int .i64 c, .int .i64 v, .int .i64 i, .int .i64 s] 26)
  have d0 := hAn.cell 0 _ rfl; have d1 := hAn.cell 1 _ rfl; have d2 := hAn.cell 2 _ rfl; have d3 := hAn.cell 3 _ rfl; have d4 := hAn.cell 4 _ rfl; have e0 := hCn.cell 0 _ rfl; have e1 := hCn.cell 1 _ rfl; have e2 := hCn.cell 2 _ rfl; have k0 := hAm.cell 0 _ rfl; have k1 := hAm.cell 1 _ rfl; have k2 := hAm.cell 2 _ rfl; have k3 := hAm.cell 3 _ rfl; have k4 := hAm.cell 4 _ rfl
  go_wp2_with fail
  clear k0 k1 k2 k3 k4 hAm d0 d1 d2 d3 d4 e0 e1 e2 hAn hCn
  refine (K5.out _).mono ?_
  rintro e w6 ⟨rfl, hb⟩
  have HB6 := Lib.hid (below_on HBs.out HBs.out.size hb)
  have HA6 := Lib.hid (HAs.out.keeps hb); have HC6 := Lib.hid (HCs.out.keeps hb)
  clear hb a0 a1 a2 a3 a4 c0 c1 c2 hA hC
  go_wp2
  all_goals first | (go_ret; exact ⟨ret_bool (by simp [hD]), HB6.out⟩)
set_option maxRecDepth 8000 in
set_option maxHeartbeats 1600000 in
theorem covScales_tff (o c v i s l t d m a C D : Int) (hm : 1 ≤ m) (hm2 : m ≤ 400000) (hR : rightF o c v i s l t d = true)
    (h1 : brS o c v i s l t d = (a, 0)) (h2 : brS (o * m) (c * m) (v * m) (i * m) (s * m) l t d = (a, 0)) (h3 : brS o c v (i + m) s l t d = (C, 191)) (h4 : brS (o + m) c v i s l t d = (D, 191))
      (w : World) :
    Calls Try.prog 6 #[.agg #[.int .i64 o, .int .i64 c, .int .i64 v, .int .i64 i, .int .i64 s], .agg #[.int .i64 l, .int .i64 t, .int .i64 d], .int .i64 m] w fun e w' => e = .returned (.bool true) ∧ Below w.heap.size w w' := by
  obtain ⟨⟨r1, r2, r3, r4, r5⟩, ⟨r6, r7⟩, r8⟩ := (rightF_iff o c v i s l t d).1 hR
  have hp : ∀ x : Int, 0 ≤ x ∧ x ≤ 20000000000000 → 0 ≤ x * m ∧ x * m ≤ 8000000000000000000 := fun x h => by
    have h1 := Int.mul_nonneg h.1 (show 0 ≤ m by omega)
    have h2 : x * m ≤ x * 400000 := Int.mul_le_mul_of_nonneg_left hm2 h.1
    omega
  have p1 := hp o r1; have p2 := hp c r2; have p3 := hp v r3; have p4 := hp i r4; have p5 := hp s r5
  have iw : ∀ x : Int, 0 ≤ x ∧ x ≤ 8000000000000000000 → i64 x := fun x h => ⟨by omega, by omega⟩
  have H1 := fun W => broken_any o c v i s l t d (iw _ (by omega)) (iw _ (by omega)) (iw _ (by omega)) (iw _ (by omega)) (iw _ (by omega)) (iw _ (by omega)) (iw _ (by omega)) (iw _ (by omega)) W
  have H2 := fun W => broken_any (o * m) (c * m) (v * m) (i * m) (s * m) l t d (iw _ (by omega)) (iw _ (by omega)) (iw _ (by omega)) (iw _ (by omega)) (iw _ (by omega)) (iw _ (by omega)) (iw _ (by omega)) (iw _ (by omega)) W
  have H3 := fun W => broken_any o c v (i + m) s l t d (iw _ (by omega)) (iw _ (by omega)) (iw _ (by omega)) (iw _ (by omega)) (iw _ (by omega)) (iw _ (by omega)) (iw _ (by omega)) (iw _ (by omega)) W
  have H4 := fun W => broken_any (o + m) c v i s l t d (iw _ (by omega)) (iw _ (by omega)) (iw _ (by omega)) (iw _ (by omega)) (iw _ (by omega)) (iw _ (by omega)) (iw _ (by omega)) (iw _ (by omega)) W
  rw [h1] at H1; rw [h2] at H2; rw [h3] at H3; rw [h4] at H4
  have K1 := Lib.hid (fun W => rright_any o c v i s l t d true hR W)
  have K2 := Lib.hid H1; have K3 := Lib.hid H2; have K4 := Lib.hid H3; have K5 := Lib.hid H4
  obtain ⟨q1, q2⟩ := p1; obtain ⟨q3, q4⟩ := p2; obtain ⟨q5, q6⟩ := p3; obtain ⟨q7, q8⟩ := p4; obtain ⟨q9, q10⟩ := p5
  obtain ⟨s1, s2⟩ := r1; obtain ⟨s3, s4⟩ := r4
  clear H1 H2 H3 H4 h1 h2 h3 h4 hp iw hR r2 r3 r5 r6 r7 r8
  have K0 := Lib.hid calive_any
  have HB := Lib.hid (below_new2 w (.cells #[.int .i64 o, .int .i64 c, .int .i64 v, .int .i64 i, .int .i64 s] 26) (.cells #[.int .i64 l, .int .i64 t, .int .i64 d] 28))
  have HA := Lib.hid ((Blk.new w 26 [.int .i64 o, .int .i64 c, .int .i64 v, .int .i64 i, .int .i64 s]).alloc (.cells #[.int .i64 l, .int .i64 t, .int .i64 d] 28))
  have HC := Lib.hid (Blk.new2 w (.cells #[.int .i64 o, .int .i64 c, .int .i64 v, .int .i64 i, .int .i64 s] 26) 28 [.int .i64 l, .int .i64 t, .int .i64 d])
  go_enter Try.func6, Try.ntmps6
  have hA := HA.out; have hC := HC.out
  have a0 := hA.cell 0 _ rfl; have a1 := hA.cell 1 _ rfl; have a2 := hA.cell 2 _ rfl; have a3 := hA.cell 3 _ rfl; have a4 := hA.cell 4 _ rfl; have c0 := hC.cell 0 _ rfl; have c1 := hC.cell 1 _ rfl; have c2 := hC.cell 2 _ rfl
  go_wp2_with fail
  refine (K0.out _).mono ?_
  rintro e w1 ⟨rfl, hb⟩
  have HB1 := Lib.hid (below_on HB.out HB.out.size hb)
  have HA1 := Lib.hid (HA.out.keeps hb); have HC1 := Lib.hid (HC.out.keeps hb)
  clear hb a0 a1 a2 a3 a4 c0 c1 c2 hA hC
  have hA := HA1.out; have hC := HC1.out
  have a0 := hA.cell 0 _ rfl; have a1 := hA.cell 1 _ rfl; have a2 := hA.cell 2 _ rfl; have a3 := hA.cell 3 _ rfl; have a4 := hA.cell 4 _ rfl; have c0 := hC.cell 0 _ rfl; have c1 := hC.cell 1 _ rfl; have c2 := hC.cell 2 _ rfl
  go_wp2_with fail
  refine (K1.out _).mono ?_
  rintro e w2 ⟨rfl, hb⟩
  have HB2 := Lib.hid (below_on HB1.out HB1.out.size hb)
  have HA2 := Lib.hid (HA1.out.keeps hb); have HC2 := Lib.hid (HC1.out.keeps hb)
  clear hb a0 a1 a2 a3 a4 c0 c1 c2 hA hC
  have hA := HA2.out; have hC := HC2.out
  have a0 := hA.cell 0 _ rfl; have a1 := hA.cell 1 _ rfl; have a2 := hA.cell 2 _ rfl; have a3 := hA.cell 3 _ rfl; have a4 := hA.cell 4 _ rfl; have c0 := hC.cell 0 _ rfl; have c1 := hC.cell 1 _ rfl; have c2 := hC.cell 2 _ rfl
  go_wp2_with fail
  refine (K2.out _).mono ?_
  rintro e w3 ⟨rfl, hb⟩
  have HB3 := Lib.hid (below_on HB2.out HB2.out.size hb)
  have HA3 := Lib.hid (HA2.out.keeps hb); have HC3 := Lib.hid (HC2.out.keeps hb)
  clear hb a0 a1 a2 a3 a4 c0 c1 c2 hA hC
  have hA := HA3.out; have hC := HC3.out
  have a0 := hA.cell 0 _ rfl; have a1 := hA.cell 1 _ rfl; have a2 := hA.cell 2 _ rfl; have a3 := hA.cell 3 _ rfl; have a4 := hA.cell 4 _ rfl; have c0 := hC.cell 0 _ rfl; have c1 := hC.cell 1 _ rfl; have c2 := hC.cell 2 _ rfl
  go_wp2_with fail
  refine (K3.out _).mono ?_
  rintro e w4 ⟨rfl, hb⟩
  have HB4 := Lib.hid (below_on HB3.out HB3.out.size hb)
  have HA4 := Lib.hid (HA3.out.keeps hb); have HC4 := Lib.hid (HC3.out.keeps hb)
  clear hb a0 a1 a2 a3 a4 c0 c1 c2 hA hC
  have hA := HA4.out; have hC := HC4.out
  have a0 := hA.cell 0 _ rfl; have a1 := hA.cell 1 _ rfl; have a2 := hA.cell 2 _ rfl; have a3 := hA.cell 3 _ rfl; have a4 := hA.cell 4 _ rfl; have c0 := hC.cell 0 _ rfl; have c1 := hC.cell 1 _ rfl; have c2 := hC.cell 2 _ rfl
  have HAs := Lib.hid (HA4.out.alloc (.cells #[.int .i64 o, .int .i64 c, .int .i64 v, .int .i64 (i + m), .int .i64 s] 26)); have HCs := Lib.hid (HC4.out.alloc (.cells #[.int .i64 o, .int .i64 c, .int .i64 v, .int .i64 (i + m), .int .i64 s] 26))
  have HBs := Lib.hid (HB4.out.alloc HB4.out.size (.cells #[.int .i64 o, .int .i64 c, .int .i64 v, .int .i64 (i + m), .int .i64 s] 26))
  have hAn := HAs.out; have hCn := HCs.out; have hAm := HA4.out.alloc (.cells #[.int .i64 o, .int .i64 c, .int .i64 v, .int .i64 i, .int .i64 s] 26)
  have d0 := hAn.cell 0 _ rfl; have d1 := hAn.cell 1 _ rfl; have d2 := hAn.cell 2 _ rfl; have d3 := hAn.cell 3 _ rfl; have d4 := hAn.cell 4 _ rfl; have e0 := hCn.cell 0 _ rfl; have e1 := hCn.cell 1 _ rfl; have e2 := hCn.cell 2 _ rfl; have k0 := hAm.cell 0 _ rfl; have k1 := hAm.cell 1 _ rfl; have k2 := hAm.cell 2 _ rfl; have k3 := hAm.cell 3 _ rfl; have k4 := hAm.cell 4 _ rfl
  go_wp2_with fail
  clear k0 k1 k2 k3 k4 hAm d0 d1 d2 d3 d4 e0 e1 e2 hAn hCn
  refine (K4.out _).mono ?_
  rintro e w5 ⟨rfl, hb⟩
  have HB5 := Lib.hid (below_on HBs.out HBs.out.size hb)
  have HA5 := Lib.hid (HAs.out.keeps hb); have HC5 := Lib.hid (HCs.out.keeps hb)
  clear hb a0 a1 a2 a3 a4 c0 c1 c2 hA hC
  clear HAs HCs HBs
  have hA := HA5.out; have hC := HC5.out
  have a0 := hA.cell 0 _ rfl; have a1 := hA.cell 1 _ rfl; have a2 := hA.cell 2 _ rfl; have a3 := hA.cell 3 _ rfl; have a4 := hA.cell 4 _ rfl; have c0 := hC.cell 0 _ rfl; have c1 := hC.cell 1 _ rfl; have c2 := hC.cell 2 _ rfl
  have HAs := Lib.hid (HA5.out.alloc (.cells #[.int .i64 (o + m), .int .i64 c, .int .i64 v, .int .i64 i, .int .i64 s] 26)); have HCs := Lib.hid (HC5.out.alloc (.cells #[.int .i64 (o + m), .int .i64 c, .int .i64 v, .int .i64 i, .int .i64 s] 26))
  have HBs := Lib.hid (HB5.out.alloc HB5.out.size (.cells #[.int .i64 (o + m), .int .i64 c, .int .i64 v, .int .i64 i, .int .i64 s] 26))
  have hAn := HAs.out; have hCn := HCs.out; have hAm := HA5.out.alloc (.cells #[.int .i64 o, .int .i64 c, .int .i64 v, .int .i64 i, .int .i64 s] 26)
  have d0 := hAn.cell 0 _ rfl; have d1 := hAn.cell 1 _ rfl; have d2 := hAn.cell 2 _ rfl; have d3 := hAn.cell 3 _ rfl; have d4 := hAn.cell 4 _ rfl; have e0 := hCn.cell 0 _ rfl; have e1 := hCn.cell 1 _ rfl; have e2 := hCn.cell 2 _ rfl; have k0 := hAm.cell 0 _ rfl; have k1 := hAm.cell 1 _ rfl; have k2 := hAm.cell 2 _ rfl; have k3 := hAm.cell 3 _ rfl; have k4 := hAm.cell 4 _ rfl
  go_wp2_with fail
  clear k0 k1 k2 k3 k4 hAm d0 d1 d2 d3 d4 e0 e1 e2 hAn hCn
  refine (K5.out _).mono ?_
  rintro e w6 ⟨rfl, hb⟩
  have HB6 := Lib.hid (below_on HBs.out HBs.out.size hb)
  have HA6 := Lib.hid (HAs.out.keeps hb); have HC6 := Lib.hid (HCs.out.keeps hb)
  clear hb a0 a1 a2 a3 a4 c0 c1 c2 hA hC
  go_wp2
  all_goals first | (go_ret; exact ⟨rfl, HB6.out⟩)
set_option maxRecDepth 8000 in
set_option maxHeartbeats 1600000 in
theorem covScales_ftt (o c v i s l t d m a C D : Int) (hm : 1 ≤ m) (hm2 : m ≤ 400000) (hR : rightF o c v i s l t d = true)
    (h1 : brS o c v i s l t d = (a, 0)) (h2 : brS (o * m) (c * m) (v * m) (i * m) (s * m) l t d = (0, 191)) (h3 : brS o c v (i + m) s l t d = (C, 0)) (h4 : brS (o + m) c v i s l t d = (D, 0))
    (hC : bits .andNot .i64 C a = 0) (hD : bits .andNot .i64 a D = 0) (w : World) :
    Calls Try.prog 6 #[.agg #[.int .i64 o, .int .i64 c, .int .i64 v, .int .i64 i, .int .i64 s], .agg #[.int .i64 l, .int .i64 t, .int .i64 d], .int .i64 m] w fun e w' => e = .returned (.bool true) ∧ Below w.heap.size w w' := by
  obtain ⟨⟨r1, r2, r3, r4, r5⟩, ⟨r6, r7⟩, r8⟩ := (rightF_iff o c v i s l t d).1 hR
  have hp : ∀ x : Int, 0 ≤ x ∧ x ≤ 20000000000000 → 0 ≤ x * m ∧ x * m ≤ 8000000000000000000 := fun x h => by
    have h1 := Int.mul_nonneg h.1 (show 0 ≤ m by omega)
    have h2 : x * m ≤ x * 400000 := Int.mul_le_mul_of_nonneg_left hm2 h.1
    omega
  have p1 := hp o r1; have p2 := hp c r2; have p3 := hp v r3; have p4 := hp i r4; have p5 := hp s r5
  have iw : ∀ x : Int, 0 ≤ x ∧ x ≤ 8000000000000000000 → i64 x := fun x h => ⟨by omega, by omega⟩
  have H1 := fun W => broken_any o c v i s l t d (iw _ (by omega)) (iw _ (by omega)) (iw _ (by omega)) (iw _ (by omega)) (iw _ (by omega)) (iw _ (by omega)) (iw _ (by omega)) (iw _ (by omega)) W
  have H2 := fun W => broken_any (o * m) (c * m) (v * m) (i * m) (s * m) l t d (iw _ (by omega)) (iw _ (by omega)) (iw _ (by omega)) (iw _ (by omega)) (iw _ (by omega)) (iw _ (by omega)) (iw _ (by omega)) (iw _ (by omega)) W
  have H3 := fun W => broken_any o c v (i + m) s l t d (iw _ (by omega)) (iw _ (by omega)) (iw _ (by omega)) (iw _ (by omega)) (iw _ (by omega)) (iw _ (by omega)) (iw _ (by omega)) (iw _ (by omega)) W
  have H4 := fun W => broken_any (o + m) c v i s l t d (iw _ (by omega)) (iw _ (by omega)) (iw _ (by omega)) (iw _ (by omega)) (iw _ (by omega)) (iw _ (by omega)) (iw _ (by omega)) (iw _ (by omega)) W
  rw [h1] at H1; rw [h2] at H2; rw [h3] at H3; rw [h4] at H4
  have K1 := Lib.hid (fun W => rright_any o c v i s l t d true hR W)
  have K2 := Lib.hid H1; have K3 := Lib.hid H2; have K4 := Lib.hid H3; have K5 := Lib.hid H4
  obtain ⟨q1, q2⟩ := p1; obtain ⟨q3, q4⟩ := p2; obtain ⟨q5, q6⟩ := p3; obtain ⟨q7, q8⟩ := p4; obtain ⟨q9, q10⟩ := p5
  obtain ⟨s1, s2⟩ := r1; obtain ⟨s3, s4⟩ := r4
  clear H1 H2 H3 H4 h1 h2 h3 h4 hp iw hR r2 r3 r5 r6 r7 r8
  have K0 := Lib.hid calive_any
  have HB := Lib.hid (below_new2 w (.cells #[.int .i64 o, .int .i64 c, .int .i64 v, .int .i64 i, .int .i64 s] 26) (.cells #[.int .i64 l, .int .i64 t, .int .i64 d] 28))
  have HA := Lib.hid ((Blk.new w 26 [.int .i64 o, .int .i64 c, .int .i64 v, .int .i64 i, .int .i64 s]).alloc (.cells #[.int .i64 l, .int .i64 t, .int .i64 d] 28))
  have HC := Lib.hid (Blk.new2 w (.cells #[.int .i64 o, .int .i64 c, .int .i64 v, .int .i64 i, .int .i64 s] 26) 28 [.int .i64 l, .int .i64 t, .int .i64 d])
  go_enter Try.func6, Try.ntmps6
  have hA := HA.out; have hC := HC.out
  have a0 := hA.cell 0 _ rfl; have a1 := hA.cell 1 _ rfl; have a2 := hA.cell 2 _ rfl; have a3 := hA.cell 3 _ rfl; have a4 := hA.cell 4 _ rfl; have c0 := hC.cell 0 _ rfl; have c1 := hC.cell 1 _ rfl; have c2 := hC.cell 2 _ rfl
  go_wp2_with fail
  refine (K0.out _).mono ?_
  rintro e w1 ⟨rfl, hb⟩
  have HB1 := Lib.hid (below_on HB.out HB.out.size hb)
  have HA1 := Lib.hid (HA.out.keeps hb); have HC1 := Lib.hid (HC.out.keeps hb)
  clear hb a0 a1 a2 a3 a4 c0 c1 c2 hA hC
  have hA := HA1.out; have hC := HC1.out
  have a0 := hA.cell 0 _ rfl; have a1 := hA.cell 1 _ rfl; have a2 := hA.cell 2 _ rfl; have a3 := hA.cell 3 _ rfl; have a4 := hA.cell 4 _ rfl; have c0 := hC.cell 0 _ rfl; have c1 := hC.cell 1 _ rfl; have c2 := hC.cell 2 _ rfl
  go_wp2_with fail
  refine (K1.out _).mono ?_
  rintro e w2 ⟨rfl, hb⟩
  have HB2 := Lib.hid (below_on HB1.out HB1.out.size hb)
  have HA2 := Lib.hid (HA1.out.keeps hb); have HC2 := Lib.hid (HC1.out.keeps hb)
  clear hb a0 a1 a2 a3 a4 c0 c1 c2 hA hC
  have hA := HA2.out; have hC := HC2.out
  have a0 := hA.cell 0 _ rfl; have a1 := hA.cell 1 _ rfl; have a2 := hA.cell 2 _ rfl; have a3 := hA.cell 3 _ rfl; have a4 := hA.cell 4 _ rfl; have c0 := hC.cell 0 _ rfl; have c1 := hC.cell 1 _ rfl; have c2 := hC.cell 2 _ rfl
  go_wp2_with fail
  refine (K2.out _).mono ?_
  rintro e w3 ⟨rfl, hb⟩
  have HB3 := Lib.hid (below_on HB2.out HB2.out.size hb)
  have HA3 := Lib.hid (HA2.out.keeps hb); have HC3 := Lib.hid (HC2.out.keeps hb)
  clear hb a0 a1 a2 a3 a4 c0 c1 c2 hA hC
  have hA := HA3.out; have hC := HC3.out
  have a0 := hA.cell 0 _ rfl; have a1 := hA.cell 1 _ rfl; have a2 := hA.cell 2 _ rfl; have a3 := hA.cell 3 _ rfl; have a4 := hA.cell 4 _ rfl; have c0 := hC.cell 0 _ rfl; have c1 := hC.cell 1 _ rfl; have c2 := hC.cell 2 _ rfl
  go_wp2_with fail
  refine (K3.out _).mono ?_
  rintro e w4 ⟨rfl, hb⟩
  have HB4 := Lib.hid (below_on HB3.out HB3.out.size hb)
  have HA4 := Lib.hid (HA3.out.keeps hb); have HC4 := Lib.hid (HC3.out.keeps hb)
  clear hb a0 a1 a2 a3 a4 c0 c1 c2 hA hC
  have hA := HA4.out; have hC := HC4.out
  have a0 := hA.cell 0 _ rfl; have a1 := hA.cell 1 _ rfl; have a2 := hA.cell 2 _ rfl; have a3 := hA.cell 3 _ rfl; have a4 := hA.cell 4 _ rfl; have c0 := hC.cell 0 _ rfl; have c1 := hC.cell 1 _ rfl; have c2 := hC.cell 2 _ rfl
  have HAs := Lib.hid (HA4.out.alloc (.cells #[.int .i64 o, .int .i64 c, .int .i64 v, .int .i64 (i + m), .int .i64 s] 26)); have HCs := Lib.hid (HC4.out.alloc (.cells #[.int .i64 o, .int .i64 c, .int .i64 v, .int .i64 (i + m), .int .i64 s] 26))
  have HBs := Lib.hid (HB4.out.alloc HB4.out.size (.cells #[.int .i64 o, .int .i64 c, .int .i64 v, .int .i64 (i + m), .int .i64 s] 26))
  have hAn := HAs.out; have hCn := HCs.out; have hAm := HA4.out.alloc (.cells #[.int .i64 o, .int .i64 c, .int .i64 v, .int .i64 i, .int .i64 s] 26)
  have d0 := hAn.cell 0 _ rfl; have d1 := hAn.cell 1 _ rfl; have d2 := hAn.cell 2 _ rfl; have d3 := hAn.cell 3 _ rfl; have d4 := hAn.cell 4 _ rfl; have e0 := hCn.cell 0 _ rfl; have e1 := hCn.cell 1 _ rfl; have e2 := hCn.cell 2 _ rfl; have k0 := hAm.cell 0 _ rfl; have k1 := hAm.cell 1 _ rfl; have k2 := hAm.cell 2 _ rfl; have k3 := hAm.cell 3 _ rfl; have k4 := hAm.cell 4 _ rfl
  go_wp2_with fail
  clear k0 k1 k2 k3 k4 hAm d0 d1 d2 d3 d4 e0 e1 e2 hAn hCn
  refine (K4.out _).mono ?_
  rintro e w5 ⟨rfl, hb⟩
  have HB5 := Lib.hid (below_on HBs.out HBs.out.size hb)
  have HA5 := Lib.hid (HAs.out.keeps hb); have HC5 := Lib.hid (HCs.out.keeps hb)
  clear hb a0 a1 a2 a3 a4 c0 c1 c2 hA hC
  clear HAs HCs HBs
  have hA := HA5.out; have hC := HC5.out
  have a0 := hA.cell 0 _ rfl; have a1 := hA.cell 1 _ rfl; have a2 := hA.cell 2 _ rfl; have a3 := hA.cell 3 _ rfl; have a4 := hA.cell 4 _ rfl; have c0 := hC.cell 0 _ rfl; have c1 := hC.cell 1 _ rfl; have c2 := hC.cell 2 _ rfl
  have HAs := Lib.hid (HA5.out.alloc (.cells #[.int .i64 (o + m), .int .i64 c, .int .i64 v, .int .i64 i, .int .i64 s] 26)); have HCs := Lib.hid (HC5.out.alloc (.cells #[.int .i64 (o + m), .int .i64 c, .int .i64 v, .int .i64 i, .int .i64 s] 26))
  have HBs := Lib.hid (HB5.out.alloc HB5.out.size (.cells #[.int .i64 (o + m), .int .i64 c, .int .i64 v, .int .i64 i, .int .i64 s] 26))
  have hAn := HAs.out; have hCn := HCs.out; have hAm := HA5.out.alloc (.cells #[.int .i64 o, .int .i64 c, .int .i64 v, .int .i64 i, .int .i64 s] 26)
  have d0 := hAn.cell 0 _ rfl; have d1 := hAn.cell 1 _ rfl; have d2 := hAn.cell 2 _ rfl; have d3 := hAn.cell 3 _ rfl; have d4 := hAn.cell 4 _ rfl; have e0 := hCn.cell 0 _ rfl; have e1 := hCn.cell 1 _ rfl; have e2 := hCn.cell 2 _ rfl; have k0 := hAm.cell 0 _ rfl; have k1 := hAm.cell 1 _ rfl; have k2 := hAm.cell 2 _ rfl; have k3 := hAm.cell 3 _ rfl; have k4 := hAm.cell 4 _ rfl
  go_wp2_with fail
  clear k0 k1 k2 k3 k4 hAm d0 d1 d2 d3 d4 e0 e1 e2 hAn hCn
  refine (K5.out _).mono ?_
  rintro e w6 ⟨rfl, hb⟩
  have HB6 := Lib.hid (below_on HBs.out HBs.out.size hb)
  have HA6 := Lib.hid (HAs.out.keeps hb); have HC6 := Lib.hid (HCs.out.keeps hb)
  clear hb a0 a1 a2 a3 a4 c0 c1 c2 hA hC
  go_wp2
  all_goals first | (exfalso; exact absurd hC (by assumption)) | (go_ret; exact ⟨ret_bool (by simp [hD]), HB6.out⟩)
set_option maxRecDepth 8000 in
set_option maxHeartbeats 1600000 in
theorem covScales_ftf (o c v i s l t d m a C D : Int) (hm : 1 ≤ m) (hm2 : m ≤ 400000) (hR : rightF o c v i s l t d = true)
    (h1 : brS o c v i s l t d = (a, 0)) (h2 : brS (o * m) (c * m) (v * m) (i * m) (s * m) l t d = (0, 191)) (h3 : brS o c v (i + m) s l t d = (C, 0)) (h4 : brS (o + m) c v i s l t d = (D, 191))
    (hC : bits .andNot .i64 C a = 0)  (w : World) :
    Calls Try.prog 6 #[.agg #[.int .i64 o, .int .i64 c, .int .i64 v, .int .i64 i, .int .i64 s], .agg #[.int .i64 l, .int .i64 t, .int .i64 d], .int .i64 m] w fun e w' => e = .returned (.bool true) ∧ Below w.heap.size w w' := by
  obtain ⟨⟨r1, r2, r3, r4, r5⟩, ⟨r6, r7⟩, r8⟩ := (rightF_iff o c v i s l t d).1 hR
  have hp : ∀ x : Int, 0 ≤ x ∧ x ≤ 20000000000000 → 0 ≤ x * m ∧ x * m ≤ 8000000000000000000 := fun x h => by
    have h1 := Int.mul_nonneg h.1 (show 0 ≤ m by omega)
    have h2 : x * m ≤ x * 400000 := Int.mul_le_mul_of_nonneg_left hm2 h.1
    omega
  have p1 := hp o r1; have p2 := hp c r2; have p3 := hp v r3; have p4 := hp i r4; have p5 := hp s r5
  have iw : ∀ x : Int, 0 ≤ x ∧ x ≤ 8000000000000000000 → i64 x := fun x h => ⟨by omega, by omega⟩
  have H1 := fun W => broken_any o c v i s l t d (iw _ (by omega)) (iw _ (by omega)) (iw _ (by omega)) (iw _ (by omega)) (iw _ (by omega)) (iw _ (by omega)) (iw _ (by omega)) (iw _ (by omega)) W
  have H2 := fun W => broken_any (o * m) (c * m) (v * m) (i * m) (s * m) l t d (iw _ (by omega)) (iw _ (by omega)) (iw _ (by omega)) (iw _ (by omega)) (iw _ (by omega)) (iw _ (by omega)) (iw _ (by omega)) (iw _ (by omega)) W
  have H3 := fun W => broken_any o c v (i + m) s l t d (iw _ (by omega)) (iw _ (by omega)) (iw _ (by omega)) (iw _ (by omega)) (iw _ (by omega)) (iw _ (by omega)) (iw _ (by omega)) (iw _ (by omega)) W
  have H4 := fun W => broken_any (o + m) c v i s l t d (iw _ (by omega)) (iw _ (by omega)) (iw _ (by omega)) (iw _ (by omega)) (iw _ (by omega)) (iw _ (by omega)) (iw _ (by omega)) (iw _ (by omega)) W
  rw [h1] at H1; rw [h2] at H2; rw [h3] at H3; rw [h4] at H4
  have K1 := Lib.hid (fun W => rright_any o c v i s l t d true hR W)
  have K2 := Lib.hid H1; have K3 := Lib.hid H2; have K4 := Lib.hid H3; have K5 := Lib.hid H4
  obtain ⟨q1, q2⟩ := p1; obtain ⟨q3, q4⟩ := p2; obtain ⟨q5, q6⟩ := p3; obtain ⟨q7, q8⟩ := p4; obtain ⟨q9, q10⟩ := p5
  obtain ⟨s1, s2⟩ := r1; obtain ⟨s3, s4⟩ := r4
  clear H1 H2 H3 H4 h1 h2 h3 h4 hp iw hR r2 r3 r5 r6 r7 r8
  have K0 := Lib.hid calive_any
  have HB := Lib.hid (below_new2 w (.cells #[.int .i64 o, .int .i64 c, .int .i64 v, .int .i64 i, .int .i64 s] 26) (.cells #[.int .i64 l, .int .i64 t, .int .i64 d] 28))
  have HA := Lib.hid ((Blk.new w 26 [.int .i64 o, .int .i64 c, .int .i64 v, .int .i64 i, .int .i64 s]).alloc (.cells #[.int .i64 l, .int .i64 t, .int .i64 d] 28))
  have HC := Lib.hid (Blk.new2 w (.cells #[.int .i64 o, .int .i64 c, .int .i64 v, .int .i64 i, .int .i64 s] 26) 28 [.int .i64 l, .int .i64 t, .int .i64 d])
  go_enter Try.func6, Try.ntmps6
  have hA := HA.out; have hC := HC.out
  have a0 := hA.cell 0 _ rfl; have a1 := hA.cell 1 _ rfl; have a2 := hA.cell 2 _ rfl; have a3 := hA.cell 3 _ rfl; have a4 := hA.cell 4 _ rfl; have c0 := hC.cell 0 _ rfl; have c1 := hC.cell 1 _ rfl; have c2 := hC.cell 2 _ rfl
  go_wp2_with fail
  refine (K0.out _).mono ?_
  rintro e w1 ⟨rfl, hb⟩
  have HB1 := Lib.hid (below_on HB.out HB.out.size hb)
  have HA1 := Lib.hid (HA.out.keeps hb); have HC1 := Lib.hid (HC.out.keeps hb)
  clear hb a0 a1 a2 a3 a4 c0 c1 c2 hA hC
  have hA := HA1.out; have hC := HC1.out
  have a0 := hA.cell 0 _ rfl; have a1 := hA.cell 1 _ rfl; have a2 := hA.cell 2 _ rfl; have a3 := hA.cell 3 _ rfl; have a4 := hA.cell 4 _ rfl; have c0 := hC.cell 0 _ rfl; have c1 := hC.cell 1 _ rfl; have c2 := hC.cell 2 _ rfl
  go_wp2_with fail
  refine (K1.out _).mono ?_
  rintro e w2 ⟨rfl, hb⟩
  have HB2 := Lib.hid (below_on HB1.out HB1.out.size hb)
  have HA2 := Lib.hid (HA1.out.keeps hb); have HC2 := Lib.hid (HC1.out.keeps hb)
  clear hb a0 a1 a2 a3 a4 c0 c1 c2 hA hC
  have hA := HA2.out; have hC := HC2.out
  have a0 := hA.cell 0 _ rfl; have a1 := hA.cell 1 _ rfl; have a2 := hA.cell 2 _ rfl; have a3 := hA.cell 3 _ rfl; have a4 := hA.cell 4 _ rfl; have c0 := hC.cell 0 _ rfl; have c1 := hC.cell 1 _ rfl; have c2 := hC.cell 2 _ rfl
  go_wp2_with fail
  refine (K2.out _).mono ?_
  rintro e w3 ⟨rfl, hb⟩
  have HB3 := Lib.hid (below_on HB2.out HB2.out.size hb)
  have HA3 := Lib.hid (HA2.out.keeps hb); have HC3 := Lib.hid (HC2.out.keeps hb)
  clear hb a0 a1 a2 a3 a4 c0 c1 c2 hA hC
  have hA := HA3.out; have hC := HC3.out
  have a0 := hA.cell 0 _ rfl; have a1 := hA.cell 1 _ rfl; have a2 := hA.cell 2 _ rfl; have a3 := hA.cell 3 _ rfl; have a4 := hA.cell 4 _ rfl; have c0 := hC.cell 0 _ rfl; have c1 := hC.cell 1 _ rfl; have c2 := hC.cell 2 _ rfl
  go_wp2_with fail
  refine (K3.out _).mono ?_
  rintro e w4 ⟨rfl, hb⟩
  have HB4 := Lib.hid (below_on HB3.out HB3.out.size hb)
  have HA4 := Lib.hid (HA3.out.keeps hb); have HC4 := Lib.hid (HC3.out.keeps hb)
  clear hb a0 a1 a2 a3 a4 c0 c1 c2 hA hC
  have hA := HA4.out; have hC := HC4.out
  have a0 := hA.cell 0 _ rfl; have a1 := hA.cell 1 _ rfl; have a2 := hA.cell 2 _ rfl; have a3 := hA.cell 3 _ rfl; have a4 := hA.cell 4 _ rfl; have c0 := hC.cell 0 _ rfl; have c1 := hC.cell 1 _ rfl; have c2 := hC.cell 2 _ rfl
  have HAs := Lib.hid (HA4.out.alloc (.cells #[.int .i64 o, .int .i64 c, .int .i64 v, .int .i64 (i + m), .int .i64 s] 26)); have HCs := Lib.hid (HC4.out.alloc (.cells #[.int .i64 o, .int .i64 c, .int .i64 v, .int .i64 (i + m), .int .i64 s] 26))
  have HBs := Lib.hid (HB4.out.alloc HB4.out.size (.cells #[.int .i64 o, .int .i64 c, .int .i64 v, .int .i64 (i + m), .int .i64 s] 26))
  have hAn := HAs.out; have hCn := HCs.out; have hAm := HA4.out.alloc (.cells #[.int .i64 o, .int .i64 c, .int .i64 v, .int .i64 i, .int .i64 s] 26)
  have d0 := hAn.cell 0 _ rfl; have d1 := hAn.cell 1 _ rfl; have d2 := hAn.cell 2 _ rfl; have d3 := hAn.cell 3 _ rfl; have d4 := hAn.cell 4 _ rfl; have e0 := hCn.cell 0 _ rfl; have e1 := hCn.cell 1 _ rfl; have e2 := hCn.cell 2 _ rfl; have k0 := hAm.cell 0 _ rfl; have k1 := hAm.cell 1 _ rfl; have k2 := hAm.cell 2 _ rfl; have k3 := hAm.cell 3 _ rfl; have k4 := hAm.cell 4 _ rfl
  go_wp2_with fail
  clear k0 k1 k2 k3 k4 hAm d0 d1 d2 d3 d4 e0 e1 e2 hAn hCn
  refine (K4.out _).mono ?_
  rintro e w5 ⟨rfl, hb⟩
  have HB5 := Lib.hid (below_on HBs.out HBs.out.size hb)
  have HA5 := Lib.hid (HAs.out.keeps hb); have HC5 := Lib.hid (HCs.out.keeps hb)
  clear hb a0 a1 a2 a3 a4 c0 c1 c2 hA hC
  clear HAs HCs HBs
  have hA := HA5.out; have hC := HC5.out
  have a0 := hA.cell 0 _ rfl; have a1 := hA.cell 1 _ rfl; have a2 := hA.cell 2 _ rfl; have a3 := hA.cell 3 _ rfl; have a4 := hA.cell 4 _ rfl; have c0 := hC.cell 0 _ rfl; have c1 := hC.cell 1 _ rfl; have c2 := hC.cell 2 _ rfl
  have HAs := Lib.hid (HA5.out.alloc (.cells #[.int .i64 (o + m), .int .i64 c, .int .i64 v, .int .i64 i, .int .i64 s] 26)); have HCs := Lib.hid (HC5.out.alloc (.cells #[.int .i64 (o + m), .int .i64 c, .int .i64 v, .int .i64 i, .int .i64 s] 26))
  have HBs := Lib.hid (HB5.out.alloc HB5.out.size (.cells #[.int .i64 (o + m), .int .i64 c, .int .i64 v, .int .i64 i, .int .i64 s] 26))
  have hAn := HAs.out; have hCn := HCs.out; have hAm := HA5.out.alloc (.cells #[.int .i64 o, .int .i64 c, .int .i64 v, .int .i64 i, .int .i64 s] 26)
  have d0 := hAn.cell 0 _ rfl; have d1 := hAn.cell 1 _ rfl; have d2 := hAn.cell 2 _ rfl; have d3 := hAn.cell 3 _ rfl; have d4 := hAn.cell 4 _ rfl; have e0 := hCn.cell 0 _ rfl; have e1 := hCn.cell 1 _ rfl; have e2 := hCn.cell 2 _ rfl; have k0 := hAm.cell 0 _ rfl; have k1 := hAm.cell 1 _ rfl; have k2 := hAm.cell 2 _ rfl; have k3 := hAm.cell 3 _ rfl; have k4 := hAm.cell 4 _ rfl
  go_wp2_with fail
  clear k0 k1 k2 k3 k4 hAm d0 d1 d2 d3 d4 e0 e1 e2 hAn hCn
  refine (K5.out _).mono ?_
  rintro e w6 ⟨rfl, hb⟩
  have HB6 := Lib.hid (below_on HBs.out HBs.out.size hb)
  have HA6 := Lib.hid (HAs.out.keeps hb); have HC6 := Lib.hid (HCs.out.keeps hb)
  clear hb a0 a1 a2 a3 a4 c0 c1 c2 hA hC
  go_wp2
  all_goals first | (exfalso; exact absurd hC (by assumption)) | (go_ret; exact ⟨rfl, HB6.out⟩)
set_option maxRecDepth 8000 in
set_option maxHeartbeats 1600000 in
theorem covScales_fft (o c v i s l t d m a C D : Int) (hm : 1 ≤ m) (hm2 : m ≤ 400000) (hR : rightF o c v i s l t d = true)
    (h1 : brS o c v i s l t d = (a, 0)) (h2 : brS (o * m) (c * m) (v * m) (i * m) (s * m) l t d = (0, 191)) (h3 : brS o c v (i + m) s l t d = (C, 191)) (h4 : brS (o + m) c v i s l t d = (D, 0))
     (hD : bits .andNot .i64 a D = 0) (w : World) :
    Calls Try.prog 6 #[.agg #[.int .i64 o, .int .i64 c, .int .i64 v, .int .i64 i, .int .i64 s], .agg #[.int .i64 l, .int .i64 t, .int .i64 d], .int .i64 m] w fun e w' => e = .returned (.bool true) ∧ Below w.heap.size w w' := by
  obtain ⟨⟨r1, r2, r3, r4, r5⟩, ⟨r6, r7⟩, r8⟩ := (rightF_iff o c v i s l t d).1 hR
  have hp : ∀ x : Int, 0 ≤ x ∧ x ≤ 20000000000000 → 0 ≤ x * m ∧ x * m ≤ 8000000000000000000 := fun x h => by
    have h1 := Int.mul_nonneg h.1 (show 0 ≤ m by omega)
    have h2 : x * m ≤ x * 400000 := Int.mul_le_mul_of_nonneg_left hm2 h.1
    omega
  have p1 := hp o r1; have p2 := hp c r2; have p3 := hp v r3; have p4 := hp i r4; have p5 := hp s r5
  have iw : ∀ x : Int, 0 ≤ x ∧ x ≤ 8000000000000000000 → i64 x := fun x h => ⟨by omega, by omega⟩
  have H1 := fun W => broken_any o c v i s l t d (iw _ (by omega)) (iw _ (by omega)) (iw _ (by omega)) (iw _ (by omega)) (iw _ (by omega)) (iw _ (by omega)) (iw _ (by omega)) (iw _ (by omega)) W
  have H2 := fun W => broken_any (o * m) (c * m) (v * m) (i * m) (s * m) l t d (iw _ (by omega)) (iw _ (by omega)) (iw _ (by omega)) (iw _ (by omega)) (iw _ (by omega)) (iw _ (by omega)) (iw _ (by omega)) (iw _ (by omega)) W
  have H3 := fun W => broken_any o c v (i + m) s l t d (iw _ (by omega)) (iw _ (by omega)) (iw _ (by omega)) (iw _ (by omega)) (iw _ (by omega)) (iw _ (by omega)) (iw _ (by omega)) (iw _ (by omega)) W
  have H4 := fun W => broken_any (o + m) c v i s l t d (iw _ (by omega)) (iw _ (by omega)) (iw _ (by omega)) (iw _ (by omega)) (iw _ (by omega)) (iw _ (by omega)) (iw _ (by omega)) (iw _ (by omega)) W
  rw [h1] at H1; rw [h2] at H2; rw [h3] at H3; rw [h4] at H4
  have K1 := Lib.hid (fun W => rright_any o c v i s l t d true hR W)
  have K2 := Lib.hid H1; have K3 := Lib.hid H2; have K4 := Lib.hid H3; have K5 := Lib.hid H4
  obtain ⟨q1, q2⟩ := p1; obtain ⟨q3, q4⟩ := p2; obtain ⟨q5, q6⟩ := p3; obtain ⟨q7, q8⟩ := p4; obtain ⟨q9, q10⟩ := p5
  obtain ⟨s1, s2⟩ := r1; obtain ⟨s3, s4⟩ := r4
  clear H1 H2 H3 H4 h1 h2 h3 h4 hp iw hR r2 r3 r5 r6 r7 r8
  have K0 := Lib.hid calive_any
  have HB := Lib.hid (below_new2 w (.cells #[.int .i64 o, .int .i64 c, .int .i64 v, .int .i64 i, .int .i64 s] 26) (.cells #[.int .i64 l, .int .i64 t, .int .i64 d] 28))
  have HA := Lib.hid ((Blk.new w 26 [.int .i64 o, .int .i64 c, .int .i64 v, .int .i64 i, .int .i64 s]).alloc (.cells #[.int .i64 l, .int .i64 t, .int .i64 d] 28))
  have HC := Lib.hid (Blk.new2 w (.cells #[.int .i64 o, .int .i64 c, .int .i64 v, .int .i64 i, .int .i64 s] 26) 28 [.int .i64 l, .int .i64 t, .int .i64 d])
  go_enter Try.func6, Try.ntmps6
  have hA := HA.out; have hC := HC.out
  have a0 := hA.cell 0 _ rfl; have a1 := hA.cell 1 _ rfl; have a2 := hA.cell 2 _ rfl; have a3 := hA.cell 3 _ rfl; have a4 := hA.cell 4 _ rfl; have c0 := hC.cell 0 _ rfl; have c1 := hC.cell 1 _ rfl; have c2 := hC.cell 2 _ rfl
  go_wp2_with fail
  refine (K0.out _).mono ?_
  rintro e w1 ⟨rfl, hb⟩
  have HB1 := Lib.hid (below_on HB.out HB.out.size hb)
  have HA1 := Lib.hid (HA.out.keeps hb); have HC1 := Lib.hid (HC.out.keeps hb)
  clear hb a0 a1 a2 a3 a4 c0 c1 c2 hA hC
  have hA := HA1.out; have hC := HC1.out
  have a0 := hA.cell 0 _ rfl; have a1 := hA.cell 1 _ rfl; have a2 := hA.cell 2 _ rfl; have a3 := hA.cell 3 _ rfl; have a4 := hA.cell 4 _ rfl; have c0 := hC.cell 0 _ rfl; have c1 := hC.cell 1 _ rfl; have c2 := hC.cell 2 _ rfl
  go_wp2_with fail
  refine (K1.out _).mono ?_
  rintro e w2 ⟨rfl, hb⟩
  have HB2 := Lib.hid (below_on HB1.out HB1.out.size hb)
  have HA2 := Lib.hid (HA1.out.keeps hb); have HC2 := Lib.hid (HC1.out.keeps hb)
  clear hb a0 a1 a2 a3 a4 c0 c1 c2 hA hC
  have hA := HA2.out; have hC := HC2.out
  have a0 := hA.cell 0 _ rfl; have a1 := hA.cell 1 _ rfl; have a2 := hA.cell 2 _ rfl; have a3 := hA.cell 3 _ rfl; have a4 := hA.cell 4 _ rfl; have c0 := hC.cell 0 _ rfl; have c1 := hC.cell 1 _ rfl; have c2 := hC.cell 2 _ rfl
  go_wp2_with fail
  refine (K2.out _).mono ?_
  rintro e w3 ⟨rfl, hb⟩
  have HB3 := Lib.hid (below_on HB2.out HB2.out.size hb)
  have HA3 := Lib.hid (HA2.out.keeps hb); have HC3 := Lib.hid (HC2.out.keeps hb)
  clear hb a0 a1 a2 a3 a4 c0 c1 c2 hA hC
  have hA := HA3.out; have hC := HC3.out
  have a0 := hA.cell 0 _ rfl; have a1 := hA.cell 1 _ rfl; have a2 := hA.cell 2 _ rfl; have a3 := hA.cell 3 _ rfl; have a4 := hA.cell 4 _ rfl; have c0 := hC.cell 0 _ rfl; have c1 := hC.cell 1 _ rfl; have c2 := hC.cell 2 _ rfl
  go_wp2_with fail
  refine (K3.out _).mono ?_
  rintro e w4 ⟨rfl, hb⟩
  have HB4 := Lib.hid (below_on HB3.out HB3.out.size hb)
  have HA4 := Lib.hid (HA3.out.keeps hb); have HC4 := Lib.hid (HC3.out.keeps hb)
  clear hb a0 a1 a2 a3 a4 c0 c1 c2 hA hC
  have hA := HA4.out; have hC := HC4.out
  have a0 := hA.cell 0 _ rfl; have a1 := hA.cell 1 _ rfl; have a2 := hA.cell 2 _ rfl; have a3 := hA.cell 3 _ rfl; have a4 := hA.cell 4 _ rfl; have c0 := hC.cell 0 _ rfl; have c1 := hC.cell 1 _ rfl; have c2 := hC.cell 2 _ rfl
  have HAs := Lib.hid (HA4.out.alloc (.cells #[.int .i64 o, .int .i64 c, .int .i64 v, .int .i64 (i + m), .int .i64 s] 26)); have HCs := Lib.hid (HC4.out.alloc (.cells #[.int .i64 o, .int .i64 c, .int .i64 v, .int .i64 (i + m), .int .i64 s] 26))
  have HBs := Lib.hid (HB4.out.alloc HB4.out.size (.cells #[.int .i64 o, .int .i64 c, .int .i64 v, .int .i64 (i + m), .int .i64 s] 26))
  have hAn := HAs.out; have hCn := HCs.out; have hAm := HA4.out.alloc (.cells #[.int .i64 o, .int .i64 c, .int .i64 v, .int .i64 i, .int .i64 s] 26)
  have d0 := hAn.cell 0 _ rfl; have d1 := hAn.cell 1 _ rfl; have d2 := hAn.cell 2 _ rfl; have d3 := hAn.cell 3 _ rfl; have d4 := hAn.cell 4 _ rfl; have e0 := hCn.cell 0 _ rfl; have e1 := hCn.cell 1 _ rfl; have e2 := hCn.cell 2 _ rfl; have k0 := hAm.cell 0 _ rfl; have k1 := hAm.cell 1 _ rfl; have k2 := hAm.cell 2 _ rfl; have k3 := hAm.cell 3 _ rfl; have k4 := hAm.cell 4 _ rfl
  go_wp2_with fail
  clear k0 k1 k2 k3 k4 hAm d0 d1 d2 d3 d4 e0 e1 e2 hAn hCn
  refine (K4.out _).mono ?_
  rintro e w5 ⟨rfl, hb⟩
  have HB5 := Lib.hid (below_on HBs.out HBs.out.size hb)
  have HA5 := Lib.hid (HAs.out.keeps hb); have HC5 := Lib.hid (HCs.out.keeps hb)
  clear hb a0 a1 a2 a3 a4 c0 c1 c2 hA hC
  clear HAs HCs HBs
  have hA := HA5.out; have hC := HC5.out
  have a0 := hA.cell 0 _ rfl; have a1 := hA.cell 1 _ rfl; have a2 := hA.cell 2 _ rfl; have a3 := hA.cell 3 _ rfl; have a4 := hA.cell 4 _ rfl; have c0 := hC.cell 0 _ rfl; have c1 := hC.cell 1 _ rfl; have c2 := hC.cell 2 _ rfl
  have HAs := Lib.hid (HA5.out.alloc (.cells #[.int .i64 (o + m), .int .i64 c, .int .i64 v, .int .i64 i, .int .i64 s] 26)); have HCs := Lib.hid (HC5.out.alloc (.cells #[.int .i64 (o + m), .int .i64 c, .int .i64 v, .int .i64 i, .int .i64 s] 26))
  have HBs := Lib.hid (HB5.out.alloc HB5.out.size (.cells #[.int .i64 (o + m), .int .i64 c, .int .i64 v, .int .i64 i, .int .i64 s] 26))
  have hAn := HAs.out; have hCn := HCs.out; have hAm := HA5.out.alloc (.cells #[.int .i64 o, .int .i64 c, .int .i64 v, .int .i64 i, .int .i64 s] 26)
  have d0 := hAn.cell 0 _ rfl; have d1 := hAn.cell 1 _ rfl; have d2 := hAn.cell 2 _ rfl; have d3 := hAn.cell 3 _ rfl; have d4 := hAn.cell 4 _ rfl; have e0 := hCn.cell 0 _ rfl; have e1 := hCn.cell 1 _ rfl; have e2 := hCn.cell 2 _ rfl; have k0 := hAm.cell 0 _ rfl; have k1 := hAm.cell 1 _ rfl; have k2 := hAm.cell 2 _ rfl; have k3 := hAm.cell 3 _ rfl; have k4 := hAm.cell 4 _ rfl
  go_wp2_with fail
  clear k0 k1 k2 k3 k4 hAm d0 d1 d2 d3 d4 e0 e1 e2 hAn hCn
  refine (K5.out _).mono ?_
  rintro e w6 ⟨rfl, hb⟩
  have HB6 := Lib.hid (below_on HBs.out HBs.out.size hb)
  have HA6 := Lib.hid (HAs.out.keeps hb); have HC6 := Lib.hid (HCs.out.keeps hb)
  clear hb a0 a1 a2 a3 a4 c0 c1 c2 hA hC
  go_wp2
  all_goals first | (go_ret; exact ⟨ret_bool (by simp [hD]), HB6.out⟩)
set_option maxRecDepth 8000 in
set_option maxHeartbeats 1600000 in
theorem covScales_fff (o c v i s l t d m a C D : Int) (hm : 1 ≤ m) (hm2 : m ≤ 400000) (hR : rightF o c v i s l t d = true)
    (h1 : brS o c v i s l t d = (a, 0)) (h2 : brS (o * m) (c * m) (v * m) (i * m) (s * m) l t d = (0, 191)) (h3 : brS o c v (i + m) s l t d = (C, 191)) (h4 : brS (o + m) c v i s l t d = (D, 191))
      (w : World) :
    Calls Try.prog 6 #[.agg #[.int .i64 o, .int .i64 c, .int .i64 v, .int .i64 i, .int .i64 s], .agg #[.int .i64 l, .int .i64 t, .int .i64 d], .int .i64 m] w fun e w' => e = .returned (.bool true) ∧ Below w.heap.size w w' := by
  obtain ⟨⟨r1, r2, r3, r4, r5⟩, ⟨r6, r7⟩, r8⟩ := (rightF_iff o c v i s l t d).1 hR
  have hp : ∀ x : Int, 0 ≤ x ∧ x ≤ 20000000000000 → 0 ≤ x * m ∧ x * m ≤ 8000000000000000000 := fun x h => by
    have h1 := Int.mul_nonneg h.1 (show 0 ≤ m by omega)
    have h2 : x * m ≤ x * 400000 := Int.mul_le_mul_of_nonneg_left hm2 h.1
    omega
  have p1 := hp o r1; have p2 := hp c r2; have p3 := hp v r3; have p4 := hp i r4; have p5 := hp s r5
  have iw : ∀ x : Int, 0 ≤ x ∧ x ≤ 8000000000000000000 → i64 x := fun x h => ⟨by omega, by omega⟩
  have H1 := fun W => broken_any o c v i s l t d (iw _ (by omega)) (iw _ (by omega)) (iw _ (by omega)) (iw _ (by omega)) (iw _ (by omega)) (iw _ (by omega)) (iw _ (by omega)) (iw _ (by omega)) W
  have H2 := fun W => broken_any (o * m) (c * m) (v * m) (i * m) (s * m) l t d (iw _ (by omega)) (iw _ (by omega)) (iw _ (by omega)) (iw _ (by omega)) (iw _ (by omega)) (iw _ (by omega)) (iw _ (by omega)) (iw _ (by omega)) W
  have H3 := fun W => broken_any o c v (i + m) s l t d (iw _ (by omega)) (iw _ (by omega)) (iw _ (by omega)) (iw _ (by omega)) (iw _ (by omega)) (iw _ (by omega)) (iw _ (by omega)) (iw _ (by omega)) W
  have H4 := fun W => broken_any (o + m) c v i s l t d (iw _ (by omega)) (iw _ (by omega)) (iw _ (by omega)) (iw _ (by omega)) (iw _ (by omega)) (iw _ (by omega)) (iw _ (by omega)) (iw _ (by omega)) W
  rw [h1] at H1; rw [h2] at H2; rw [h3] at H3; rw [h4] at H4
  have K1 := Lib.hid (fun W => rright_any o c v i s l t d true hR W)
  have K2 := Lib.hid H1; have K3 := Lib.hid H2; have K4 := Lib.hid H3; have K5 := Lib.hid H4
  obtain ⟨q1, q2⟩ := p1; obtain ⟨q3, q4⟩ := p2; obtain ⟨q5, q6⟩ := p3; obtain ⟨q7, q8⟩ := p4; obtain ⟨q9, q10⟩ := p5
  obtain ⟨s1, s2⟩ := r1; obtain ⟨s3, s4⟩ := r4
  clear H1 H2 H3 H4 h1 h2 h3 h4 hp iw hR r2 r3 r5 r6 r7 r8
  have K0 := Lib.hid calive_any
  have HB := Lib.hid (below_new2 w (.cells #[.int .i64 o, .int .i64 c, .int .i64 v, .int .i64 i, .int .i64 s] 26) (.cells #[.int .i64 l, .int .i64 t, .int .i64 d] 28))
  have HA := Lib.hid ((Blk.new w 26 [.int .i64 o, .int .i64 c, .int .i64 v, .int .i64 i, .int .i64 s]).alloc (.cells #[.int .i64 l, .int .i64 t, .int .i64 d] 28))
  have HC := Lib.hid (Blk.new2 w (.cells #[.int .i64 o, .int .i64 c, .int .i64 v, .int .i64 i, .int .i64 s] 26) 28 [.int .i64 l, .int .i64 t, .int .i64 d])
  go_enter Try.func6, Try.ntmps6
  have hA := HA.out; have hC := HC.out
  have a0 := hA.cell 0 _ rfl; have a1 := hA.cell 1 _ rfl; have a2 := hA.cell 2 _ rfl; have a3 := hA.cell 3 _ rfl; have a4 := hA.cell 4 _ rfl; have c0 := hC.cell 0 _ rfl; have c1 := hC.cell 1 _ rfl; have c2 := hC.cell 2 _ rfl
  go_wp2_with fail
  refine (K0.out _).mono ?_
  rintro e w1 ⟨rfl, hb⟩
  have HB1 := Lib.hid (below_on HB.out HB.out.size hb)
  have HA1 := Lib.hid (HA.out.keeps hb); have HC1 := Lib.hid (HC.out.keeps hb)
  clear hb a0 a1 a2 a3 a4 c0 c1 c2 hA hC
  have hA := HA1.out; have hC := HC1.out
  have a0 := hA.cell 0 _ rfl; have a1 := hA.cell 1 _ rfl; have a2 := hA.cell 2 _ rfl; have a3 := hA.cell 3 _ rfl; have a4 := hA.cell 4 _ rfl; have c0 := hC.cell 0 _ rfl; have c1 := hC.cell 1 _ rfl; have c2 := hC.cell 2 _ rfl
  go_wp2_with fail
  refine (K1.out _).mono ?_
  rintro e w2 ⟨rfl, hb⟩
  have HB2 := Lib.hid (below_on HB1.out HB1.out.size hb)
  have HA2 := Lib.hid (HA1.out.keeps hb); have HC2 := Lib.hid (HC1.out.keeps hb)
  clear hb a0 a1 a2 a3 a4 c0 c1 c2 hA hC
  have hA := HA2.out; have hC := HC2.out
  have a0 := hA.cell 0 _ rfl; have a1 := hA.cell 1 _ rfl; have a2 := hA.cell 2 _ rfl; have a3 := hA.cell 3 _ rfl; have a4 := hA.cell 4 _ rfl; have c0 := hC.cell 0 _ rfl; have c1 := hC.cell 1 _ rfl; have c2 := hC.cell 2 _ rfl
  go_wp2_with fail
  refine (K2.out _).mono ?_
  rintro e w3 ⟨rfl, hb⟩
  have HB3 := Lib.hid (below_on HB2.out HB2.out.size hb)
  have HA3 := Lib.hid (HA2.out.keeps hb); have HC3 := Lib.hid (HC2.out.keeps hb)
  clear hb a0 a1 a2 a3 a4 c0 c1 c2 hA hC
  have hA := HA3.out; have hC := HC3.out
  have a0 := hA.cell 0 _ rfl; have a1 := hA.cell 1 _ rfl; have a2 := hA.cell 2 _ rfl; have a3 := hA.cell 3 _ rfl; have a4 := hA.cell 4 _ rfl; have c0 := hC.cell 0 _ rfl; have c1 := hC.cell 1 _ rfl; have c2 := hC.cell 2 _ rfl
  go_wp2_with fail
  refine (K3.out _).mono ?_
  rintro e w4 ⟨rfl, hb⟩
  have HB4 := Lib.hid (below_on HB3.out HB3.out.size hb)
  have HA4 := Lib.hid (HA3.out.keeps hb); have HC4 := Lib.hid (HC3.out.keeps hb)
  clear hb a0 a1 a2 a3 a4 c0 c1 c2 hA hC
  have hA := HA4.out; have hC := HC4.out
  have a0 := hA.cell 0 _ rfl; have a1 := hA.cell 1 _ rfl; have a2 := hA.cell 2 _ rfl; have a3 := hA.cell 3 _ rfl; have a4 := hA.cell 4 _ rfl; have c0 := hC.cell 0 _ rfl; have c1 := hC.cell 1 _ rfl; have c2 := hC.cell 2 _ rfl
  have HAs := Lib.hid (HA4.out.alloc (.cells #[.int .i64 o, .int .i64 c, .int .i64 v, .int .i64 (i + m), .int .i64 s] 26)); have HCs := Lib.hid (HC4.out.alloc (.cells #[.int .i64 o, .int .i64 c, .int .i64 v, .int .i64 (i + m), .int .i64 s] 26))
  have HBs := Lib.hid (HB4.out.alloc HB4.out.size (.cells #[.int .i64 o, .int .i64 c, .int .i64 v, .int .i64 (i + m), .int .i64 s] 26))
  have hAn := HAs.out; have hCn := HCs.out; have hAm := HA4.out.alloc (.cells #[.int .i64 o, .int .i64 c, .int .i64 v, .int .i64 i, .int .i64 s] 26)
  have d0 := hAn.cell 0 _ rfl; have d1 := hAn.cell 1 _ rfl; have d2 := hAn.cell 2 _ rfl; have d3 := hAn.cell 3 _ rfl; have d4 := hAn.cell 4 _ rfl; have e0 := hCn.cell 0 _ rfl; have e1 := hCn.cell 1 _ rfl; have e2 := hCn.cell 2 _ rfl; have k0 := hAm.cell 0 _ rfl; have k1 := hAm.cell 1 _ rfl; have k2 := hAm.cell 2 _ rfl; have k3 := hAm.cell 3 _ rfl; have k4 := hAm.cell 4 _ rfl
  go_wp2_with fail
  clear k0 k1 k2 k3 k4 hAm d0 d1 d2 d3 d4 e0 e1 e2 hAn hCn
  refine (K4.out _).mono ?_
  rintro e w5 ⟨rfl, hb⟩
  have HB5 := Lib.hid (below_on HBs.out HBs.out.size hb)
  have HA5 := Lib.hid (HAs.out.keeps hb); have HC5 := Lib.hid (HCs.out.keeps hb)
  clear hb a0 a1 a2 a3 a4 c0 c1 c2 hA hC
  clear HAs HCs HBs
  have hA := HA5.out; have hC := HC5.out
  have a0 := hA.cell 0 _ rfl; have a1 := hA.cell 1 _ rfl; have a2 := hA.cell 2 _ rfl; have a3 := hA.cell 3 _ rfl; have a4 := hA.cell 4 _ rfl; have c0 := hC.cell 0 _ rfl; have c1 := hC.cell 1 _ rfl; have c2 := hC.cell 2 _ rfl
  have HAs := Lib.hid (HA5.out.alloc (.cells #[.int .i64 (o + m), .int .i64 c, .int .i64 v, .int .i64 i, .int .i64 s] 26)); have HCs := Lib.hid (HC5.out.alloc (.cells #[.int .i64 (o + m), .int .i64 c, .int .i64 v, .int .i64 i, .int .i64 s] 26))
  have HBs := Lib.hid (HB5.out.alloc HB5.out.size (.cells #[.int .i64 (o + m), .int .i64 c, .int .i64 v, .int .i64 i, .int .i64 s] 26))
  have hAn := HAs.out; have hCn := HCs.out; have hAm := HA5.out.alloc (.cells #[.int .i64 o, .int .i64 c, .int .i64 v, .int .i64 i, .int .i64 s] 26)
  have d0 := hAn.cell 0 _ rfl; have d1 := hAn.cell 1 _ rfl; have d2 := hAn.cell 2 _ rfl; have d3 := hAn.cell 3 _ rfl; have d4 := hAn.cell 4 _ rfl; have e0 := hCn.cell 0 _ rfl; have e1 := hCn.cell 1 _ rfl; have e2 := hCn.cell 2 _ rfl; have k0 := hAm.cell 0 _ rfl; have k1 := hAm.cell 1 _ rfl; have k2 := hAm.cell 2 _ rfl; have k3 := hAm.cell 3 _ rfl; have k4 := hAm.cell 4 _ rfl
  go_wp2_with fail
  clear k0 k1 k2 k3 k4 hAm d0 d1 d2 d3 d4 e0 e1 e2 hAn hCn
  refine (K5.out _).mono ?_
  rintro e w6 ⟨rfl, hb⟩
  have HB6 := Lib.hid (below_on HBs.out HBs.out.size hb)
  have HA6 := Lib.hid (HAs.out.keeps hb); have HC6 := Lib.hid (HCs.out.keeps hb)
  clear hb a0 a1 a2 a3 a4 c0 c1 c2 hA hC
  go_wp2
  all_goals first | (go_ret; exact ⟨rfl, HB6.out⟩)
theorem bits_more (x y z z' : Bool) (h : z = true → z' = true) : bits .andNot .i64 (brk x y z') (brk x y z) = 0 := by
  cases x <;> cases y <;> cases z <;> cases z' <;> first | decide | (exfalso; exact absurd (h rfl) (by decide))
theorem bits_worse (x y z x' y' : Bool) (h : x' = true → x = true) (g : y' = true → y = true) : bits .andNot .i64 (brk x y z) (brk x' y' z) = 0 := by
  cases x <;> cases y <;> cases z <;> cases x' <;> cases y' <;> first | decide | (exfalso; exact absurd (h rfl) (by decide)) | (exfalso; exact absurd (g rfl) (by decide))
theorem ltcB_times (o c l m : Int) (hm : 0 < m) : ltcB (o * m) (c * m) l = ltcB o c l := by
  unfold ltcB
  rw [decide_eq_decide, show o * m * 10000 = m * (o * 10000) from by ac_rfl, show c * m * l = m * (c * l) from by ac_rfl]
  exact Int.mul_le_mul_left hm
theorem dscrB_times (i s d m : Int) (hm : 0 < m) : dscrB (i * m) (s * m) d = dscrB i s d := by
  unfold dscrB
  rw [decide_eq_decide, show i * m * 10000 = m * (i * 10000) from by ac_rfl, show s * m * d = m * (s * d) from by ac_rfl]
  exact Int.mul_le_mul_left hm
theorem brS_cases (o c v i s l t d : Int) : brS o c v i s l t d = (brk (ltcB o c l) (ltcB o v t) (dscrB i s d), 0) ∨ brS o c v i s l t d = (0, 191) := by
  unfold brS
  split
  · exact .inl rfl
  · exact .inr rfl
theorem covScales_law (o c v i s : Int) (hf : ∀ z ∈ [o, c, v, i, s], (Lit.int .i64 z).wf = true) (l t d : Int) (hl : ∀ z ∈ [l, t, d], (Lit.int .i64 z).wf = true) (m : Int) (hm : (Lit.int .i64 m).wf = true) (w : World) :
    Calls Try.prog 6 #[.agg #[.int .i64 o, .int .i64 c, .int .i64 v, .int .i64 i, .int .i64 s], .agg #[.int .i64 l, .int .i64 t, .int .i64 d], .int .i64 m] w fun e w' => e = .returned (.bool true) ∧ Below w.heap.size w w' := by
  by_cases h : (m < 1 ∨ 400000 < m) ∨ (1 ≤ m ∧ m ≤ 400000 ∧ rightF o c v i s l t d = false)
  · exact covScales_out o c v i s l t d m h w
  · have m1 : 1 ≤ m := by omega
    have m2 : m ≤ 400000 := by omega
    have hR : rightF o c v i s l t d = true := by
      cases hq : rightF o c v i s l t d
      · exact absurd (.inr ⟨m1, m2, hq⟩) h
      · rfl
    have e1 : brS o c v i s l t d = (brk (ltcB o c l) (ltcB o v t) (dscrB i s d), 0) := by unfold brS; rw [if_pos hR]
    have e2 := brS_cases (o * m) (c * m) (v * m) (i * m) (s * m) l t d
    have e3 := brS_cases o c v (i + m) s l t d
    have e4 := brS_cases (o + m) c v i s l t d
    rw [ltcB_times _ _ _ _ (by omega), ltcB_times _ _ _ _ (by omega), dscrB_times _ _ _ _ (by omega)] at e2
    have f3 := bits_more (ltcB o c l) (ltcB o v t) (dscrB i s d) (dscrB (i + m) s d) (by unfold dscrB; simp only [decide_eq_true_eq]; omega)
    have f4 := bits_worse (ltcB o c l) (ltcB o v t) (dscrB i s d) (ltcB (o + m) c l) (ltcB (o + m) v t) (by unfold ltcB; simp only [decide_eq_true_eq]; omega) (by unfold ltcB; simp only [decide_eq_true_eq]; omega)
    rcases e2 with e2 | e2
    all_goals rcases e3 with e3 | e3
    all_goals rcases e4 with e4 | e4
    · exact covScales_ttt o c v i s l t d m _ _ _ m1 m2 hR e1 e2 e3 e4 f3 f4 w
    · exact covScales_ttf o c v i s l t d m _ _ _ m1 m2 hR e1 e2 e3 e4 f3 w
    · exact covScales_tft o c v i s l t d m _ _ _ m1 m2 hR e1 e2 e3 e4 f4 w
    · exact covScales_tff o c v i s l t d m _ _ _ m1 m2 hR e1 e2 e3 e4 w
    · exact covScales_ftt o c v i s l t d m _ _ _ m1 m2 hR e1 e2 e3 e4 f3 f4 w
    · exact covScales_ftf o c v i s l t d m _ _ _ m1 m2 hR e1 e2 e3 e4 f3 w
    · exact covScales_fft o c v i s l t d m _ _ _ m1 m2 hR e1 e2 e3 e4 f4 w
    · exact covScales_fff o c v i s l t d m _ _ _ m1 m2 hR e1 e2 e3 e4 w
end Go.Proofs.Ytleeifknicilhaa
