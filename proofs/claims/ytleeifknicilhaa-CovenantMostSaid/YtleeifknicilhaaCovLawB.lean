/-
  Covenants: the law CovenantMost.
-/
import Derived.Test.YtleeifknicilhaaCovLawA
set_option linter.unusedVariables false
set_option linter.unusedSimpArgs false
namespace Go.Proofs.Ytleeifknicilhaa
open Go.RowKit Dg

theorem most_plain (p q n : Int) (hp : 0 ≤ p) (hq : 0 ≤ q) (hn : n = min (p / 10000) (min (q / 10000) 20000000000000)) :
    0 ≤ n ∧ n ≤ 20000000000000 ∧ n * 10000 ≤ p ∧ n * 10000 ≤ q ∧ (n = 20000000000000 ∨ ¬ (n + 1) * 10000 ≤ p ∨ ¬ (n + 1) * 10000 ≤ q) := by omega
set_option maxRecDepth 8000 in
set_option maxHeartbeats 1600000 in
theorem covMost_walk (o c v i s l t d : Int) (h1 : i64 o) (h2 : i64 c) (h3 : i64 v) (h4 : i64 i) (h5 : i64 s) (h6 : i64 l) (h7 : i64 t) (h8 : i64 d) (w : World) :
    Calls Try.prog 5 #[.agg #[.int .i64 o, .int .i64 c, .int .i64 v, .int .i64 i, .int .i64 s], .agg #[.int .i64 l, .int .i64 t, .int .i64 d]] w fun e w' => e = .returned (.bool true) ∧ Below w.heap.size w w' := by
  have K0 := Lib.hid calive_any
  have HB := Lib.hid (below_new2 w (.cells #[.int .i64 o, .int .i64 c, .int .i64 v, .int .i64 i, .int .i64 s] 26) (.cells #[.int .i64 l, .int .i64 t, .int .i64 d] 28))
  have HA := Lib.hid ((Blk.new w 26 [.int .i64 o, .int .i64 c, .int .i64 v, .int .i64 i, .int .i64 s]).alloc (.cells #[.int .i64 l, .int .i64 t, .int .i64 d] 28))
  have HC := Lib.hid (Blk.new2 w (.cells #[.int .i64 o, .int .i64 c, .int .i64 v, .int .i64 i, .int .i64 s] 26) 28 [.int .i64 l, .int .i64 t, .int .i64 d])
  cases hR : rightF o c v i s l t d with
  | false =>
    have H1 := fun W => most_any o c v i s l t d W
    rw [show moS o c v i s l t d = (0, 191) from by unfold moS; rw [hR]; rfl] at H1
    have K1 := Lib.hid H1
    have K2 := Lib.hid (fun W => cright_any o c v i s l t d false hR W)
    clear H1 hR h1 h2 h3 h4 h5 h6 h7 h8
    go_enter Try.func5, Try.ntmps5
    have hA := HA.out; have hC := HC.out
    have a0 := hA.cell 0 _ rfl; have a1 := hA.cell 1 _ rfl; have a2 := hA.cell 2 _ rfl; have a3 := hA.cell 3 _ rfl; have a4 := hA.cell 4 _ rfl; have c0 := hC.cell 0 _ rfl; have c1 := hC.cell 1 _ rfl; have c2 := hC.cell 2 _ rfl
    go_wp2_with fail
    refine (K0.out _).mono ?_
    rintro e w1 ⟨rfl, hb⟩
    have HB1 := Lib.hid (below_on HB.out HB.out.size hb)
    have HA1 := Lib.hid (HA.out.keeps hb); have HC1 := Lib.hid (HC.out.keeps hb)
    clear hb a0 a1 a2 a3 a4 c0 c1 c2 hA hC
    have hA := HA1.out; have hC := HC1.out
    have a0 := hA.cell 0 _ rfl; have a1 := hA.cell 1 _ rfl; have a2 := hA.cell 2 _ rfl; have a3 := hA.cell 3 _ rfl; have a4 := hA.cell 4 _ rfl; have c0 := hC.cell 0 _ rfl; have c1 := hC.cell 1 _ rfl; have c2 := hC.cell 2 _ rfl
    go_wp2_with fail
    refine (K1.out _).mono ?_
    rintro e w2 ⟨rfl, hb⟩
    have HB2 := Lib.hid (below_on HB1.out HB1.out.size hb)
    have HA2 := Lib.hid (HA1.out.keeps hb); have HC2 := Lib.hid (HC1.out.keeps hb)
    clear hb a0 a1 a2 a3 a4 c0 c1 c2 hA hC
    have hA := HA2.out; have hC := HC2.out
    have a0 := hA.cell 0 _ rfl; have a1 := hA.cell 1 _ rfl; have a2 := hA.cell 2 _ rfl; have a3 := hA.cell 3 _ rfl; have a4 := hA.cell 4 _ rfl; have c0 := hC.cell 0 _ rfl; have c1 := hC.cell 1 _ rfl; have c2 := hC.cell 2 _ rfl
    go_wp2_with fail
    refine (K2.out _).mono ?_
    rintro e w3 ⟨rfl, hb⟩
    have HB3 := Lib.hid (below_on HB2.out HB2.out.size hb)
    have HA3 := Lib.hid (HA2.out.keeps hb); have HC3 := Lib.hid (HC2.out.keeps hb)
    clear hb a0 a1 a2 a3 a4 c0 c1 c2 hA hC
    go_wp2
    go_ret
    exact ⟨rfl, HB3.out⟩
  | true =>
    obtain ⟨⟨r1, r2, r3, r4, r5⟩, ⟨r6, r7⟩, r8⟩ := (rightF_iff o c v i s l t d).1 hR
    have H1 := fun W => most_any o c v i s l t d W
    obtain ⟨n, hn⟩ : ∃ n, min (c * l / 10000) (min (v * t / 10000) 20000000000000) = n := ⟨_, rfl⟩
    rw [show moS o c v i s l t d = (n, 0) from by unfold moS; rw [hR, ← hn]; rfl] at H1
    obtain ⟨n0, n1, n2, n3, n4⟩ := most_plain (c * l) (v * t) n (Int.mul_nonneg r2.1 r6.1) (Int.mul_nonneg r3.1 r7.1) hn.symm
    have iN : i64 n := ⟨by omega, by omega⟩
    have iM : i64 (n + 1) := ⟨by omega, by omega⟩
    have e1 : ltcB n c l = true := by unfold ltcB; simpa using n2
    have e2 : ltcB n v t = true := by unfold ltcB; simpa using n3
    have H2 := fun W => cltc_any n c v i s l t d iN h2 h6 W
    have H3 := fun W => cltv_any n c v i s l t d iN h3 h7 W
    have H4 := fun W => cltc_any (n + 1) c v i s l t d iM h2 h6 W
    have H5 := fun W => cltv_any (n + 1) c v i s l t d iM h3 h7 W
    rw [e1] at H2; rw [e2] at H3
    obtain ⟨x, hx⟩ : ∃ x, ltcB (n + 1) c l = x := ⟨_, rfl⟩
    obtain ⟨y, hy⟩ : ∃ x, ltcB (n + 1) v t = x := ⟨_, rfl⟩
    have hxy : n = 20000000000000 ∨ x = false ∨ (x = true ∧ y = false) := by
      rcases n4 with h | h | h
      · exact .inl h
      · exact .inr (.inl (by rw [← hx]; unfold ltcB; simpa using h))
      · cases x
        · exact .inr (.inl rfl)
        · exact .inr (.inr ⟨rfl, by rw [← hy]; unfold ltcB; simpa using h⟩)
    rw [hx] at H4; rw [hy] at H5
    have K1 := Lib.hid H1; have K2 := Lib.hid H2; have K3 := Lib.hid H3; have K4 := Lib.hid H4; have K5 := Lib.hid H5
    clear H1 H2 H3 H4 H5 hx hy e1 e2 n2 n3 n4 hn r1 r2 r3 r4 r5 r6 r7 r8 hR h1 h2 h3 h4 h5 h6 h7 h8 iN iM
    have n5 : n < 20000000000000 ∨ n = 20000000000000 := by omega
    rcases n5 with n5 | n5
    · rcases hxy with rfl | rfl | ⟨rfl, rfl⟩
      · omega
      · go_enter Try.func5, Try.ntmps5
        have hA := HA.out; have hC := HC.out
        have a0 := hA.cell 0 _ rfl; have a1 := hA.cell 1 _ rfl; have a2 := hA.cell 2 _ rfl; have a3 := hA.cell 3 _ rfl; have a4 := hA.cell 4 _ rfl; have c0 := hC.cell 0 _ rfl; have c1 := hC.cell 1 _ rfl; have c2 := hC.cell 2 _ rfl
        go_wp2_with fail
        refine (K0.out _).mono ?_
        rintro e w1 ⟨rfl, hb⟩
        have HB1 := Lib.hid (below_on HB.out HB.out.size hb)
        have HA1 := Lib.hid (HA.out.keeps hb); have HC1 := Lib.hid (HC.out.keeps hb)
        clear hb a0 a1 a2 a3 a4 c0 c1 c2 hA hC
        have hA := HA1.out; have hC := HC1.out
        have a0 := hA.cell 0 _ rfl; have a1 := hA.cell 1 _ rfl; have a2 := hA.cell 2 _ rfl; have a3 := hA.cell 3 _ rfl; have a4 := hA.cell 4 _ rfl; have c0 := hC.cell 0 _ rfl; have c1 := hC.cell 1 _ rfl; have c2 := hC.cell 2 _ rfl
        go_wp2_with fail
        refine (K1.out _).mono ?_
        rintro e w2 ⟨rfl, hb⟩
        have HB2 := Lib.hid (below_on HB1.out HB1.out.size hb)
        have HA2 := Lib.hid (HA1.out.keeps hb); have HC2 := Lib.hid (HC1.out.keeps hb)
        clear hb a0 a1 a2 a3 a4 c0 c1 c2 hA hC
        have hA := HA2.out; have hC := HC2.out
        have a0 := hA.cell 0 _ rfl; have a1 := hA.cell 1 _ rfl; have a2 := hA.cell 2 _ rfl; have a3 := hA.cell 3 _ rfl; have a4 := hA.cell 4 _ rfl; have c0 := hC.cell 0 _ rfl; have c1 := hC.cell 1 _ rfl; have c2 := hC.cell 2 _ rfl
        have fz := hA.frozen 0
        go_wp2_with fail
        have HAs := Lib.hid (HA2.out.set 0 (.int .i64 n)); have HCs := Lib.hid (HC2.out.other ⟨w.heap.size, 0, none⟩ (.int .i64 n) (by simp))
        have HBs := Lib.hid (HB2.out.setCell (p := ⟨w.heap.size, 0, none⟩) (Nat.le_refl _) (.int .i64 n))
        clear fz
        refine (K2.out _).mono ?_
        rintro e w3 ⟨rfl, hb⟩
        have HB3 := Lib.hid (below_on HBs.out HBs.out.size hb)
        have HA3 := Lib.hid (HAs.out.keeps hb); have HC3 := Lib.hid (HCs.out.keeps hb)
        clear hb a0 a1 a2 a3 a4 c0 c1 c2 hA hC
        have hA := HA3.out; have hC := HC3.out
        have a0 := hA.cell 0 _ rfl; have a1 := hA.cell 1 _ rfl; have a2 := hA.cell 2 _ rfl; have a3 := hA.cell 3 _ rfl; have a4 := hA.cell 4 _ rfl; have c0 := hC.cell 0 _ rfl; have c1 := hC.cell 1 _ rfl; have c2 := hC.cell 2 _ rfl
        go_wp2_with fail
        refine (K3.out _).mono ?_
        rintro e w4 ⟨rfl, hb⟩
        have HB4 := Lib.hid (below_on HB3.out HB3.out.size hb)
        have HA4 := Lib.hid (HA3.out.keeps hb); have HC4 := Lib.hid (HC3.out.keeps hb)
        clear hb a0 a1 a2 a3 a4 c0 c1 c2 hA hC
        have hA := HA4.out; have hC := HC4.out
        have a0 := hA.cell 0 _ rfl; have a1 := hA.cell 1 _ rfl; have a2 := hA.cell 2 _ rfl; have a3 := hA.cell 3 _ rfl; have a4 := hA.cell 4 _ rfl; have c0 := hC.cell 0 _ rfl; have c1 := hC.cell 1 _ rfl; have c2 := hC.cell 2 _ rfl
        have fz := hA.frozen 0
        go_wp2_with fail
        have HAt := Lib.hid (HA4.out.set 0 (.int .i64 (n + 1))); have HCt := Lib.hid (HC4.out.other ⟨w.heap.size, 0, none⟩ (.int .i64 (n + 1)) (by simp))
        have HBt := Lib.hid (HB4.out.setCell (p := ⟨w.heap.size, 0, none⟩) (Nat.le_refl _) (.int .i64 (n + 1)))
        clear fz
        refine (K4.out _).mono ?_
        rintro e w5 ⟨rfl, hb⟩
        have HB5 := Lib.hid (below_on HBt.out HBt.out.size hb)
        have HA5 := Lib.hid (HAt.out.keeps hb); have HC5 := Lib.hid (HCt.out.keeps hb)
        clear hb a0 a1 a2 a3 a4 c0 c1 c2 hA hC
        go_wp2
        go_ret
        exact ⟨rfl, HB5.out⟩
      · go_enter Try.func5, Try.ntmps5
        have hA := HA.out; have hC := HC.out
        have a0 := hA.cell 0 _ rfl; have a1 := hA.cell 1 _ rfl; have a2 := hA.cell 2 _ rfl; have a3 := hA.cell 3 _ rfl; have a4 := hA.cell 4 _ rfl; have c0 := hC.cell 0 _ rfl; have c1 := hC.cell 1 _ rfl; have c2 := hC.cell 2 _ rfl
        go_wp2_with fail
        refine (K0.out _).mono ?_
        rintro e w1 ⟨rfl, hb⟩
        have HB1 := Lib.hid (below_on HB.out HB.out.size hb)
        have HA1 := Lib.hid (HA.out.keeps hb); have HC1 := Lib.hid (HC.out.keeps hb)
        clear hb a0 a1 a2 a3 a4 c0 c1 c2 hA hC
        have hA := HA1.out; have hC := HC1.out
        have a0 := hA.cell 0 _ rfl; have a1 := hA.cell 1 _ rfl; have a2 := hA.cell 2 _ rfl; have a3 := hA.cell 3 _ rfl; have a4 := hA.cell 4 _ rfl; have c0 := hC.cell 0 _ rfl; have c1 := hC.cell 1 _ rfl; have c2 := hC.cell 2 _ rfl
        go_wp2_with fail
        refine (K1.out _).mono ?_
        rintro e w2 ⟨rfl, hb⟩
        have HB2 := Lib.hid (below_on HB1.out HB1.out.size hb)
        have HA2 := Lib.hid (HA1.out.keeps hb); have HC2 := Lib.hid (HC1.out.keeps hb)
        clear hb a0 a1 a2 a3 a4 c0 c1 c2 hA hC
        have hA := HA2.out; have hC := HC2.out
        have a0 := hA.cell 0 _ rfl; have a1 := hA.cell 1 _ rfl; have a2 := hA.cell 2 _ rfl; have a3 := hA.cell 3 _ rfl; have a4 := hA.cell 4 _ rfl; have c0 := hC.cell 0 _ rfl; have c1 := hC.cell 1 _ rfl; have c2 := hC.cell 2 _ rfl
        have fz := hA.frozen 0
        go_wp2_with fail
        have HAs := Lib.hid (HA2.out.set 0 (.int .i64 n)); have HCs := Lib.hid (HC2.out.other ⟨w.heap.size, 0, none⟩ (.int .i64 n) (by simp))
        have HBs := Lib.hid (HB2.out.setCell (p := ⟨w.heap.size, 0, none⟩) (Nat.le_refl _) (.int .i64 n))
        clear fz
        refine (K2.out _).mono ?_
        rintro e w3 ⟨rfl, hb⟩
        have HB3 := Lib.hid (below_on HBs.out HBs.out.size hb)
        have HA3 := Lib.hid (HAs.out.keeps hb); have HC3 := Lib.hid (HCs.out.keeps hb)
        clear hb a0 a1 a2 a3 a4 c0 c1 c2 hA hC
        have hA := HA3.out; have hC := HC3.out
        have a0 := hA.cell 0 _ rfl; have a1 := hA.cell 1 _ rfl; have a2 := hA.cell 2 _ rfl; have a3 := hA.cell 3 _ rfl; have a4 := hA.cell 4 _ rfl; have c0 := hC.cell 0 _ rfl; have c1 := hC.cell 1 _ rfl; have c2 := hC.cell 2 _ rfl
        go_wp2_with fail
        refine (K3.out _).mono ?_
        rintro e w4 ⟨rfl, hb⟩
        have HB4 := Lib.hid (below_on HB3.out HB3.out.size hb)
        have HA4 := Lib.hid (HA3.out.keeps hb); have HC4 := Lib.hid (HC3.out.keeps hb)
        clear hb a0 a1 a2 a3 a4 c0 c1 c2 hA hC
        have hA := HA4.out; have hC := HC4.out
        have a0 := hA.cell 0 _ rfl; have a1 := hA.cell 1 _ rfl; have a2 := hA.cell 2 _ rfl; have a3 := hA.cell 3 _ rfl; have a4 := hA.cell 4 _ rfl; have c0 := hC.cell 0 _ rfl; have c1 := hC.cell 1 _ rfl; have c2 := hC.cell 2 _ rfl
        have fz := hA.frozen 0
        go_wp2_with fail
        have HAt := Lib.hid (HA4.out.set 0 (.int .i64 (n + 1))); have HCt := Lib.hid (HC4.out.other ⟨w.heap.size, 0, none⟩ (.int .i64 (n + 1)) (by simp))
        have HBt := Lib.hid (HB4.out.setCell (p := ⟨w.heap.size, 0, none⟩) (Nat.le_refl _) (.int .i64 (n + 1)))
        clear fz
        refine (K4.out _).mono ?_
        rintro e w5 ⟨rfl, hb⟩
        have HB5 := Lib.hid (below_on HBt.out HBt.out.size hb)
        have HA5 := Lib.hid (HAt.out.keeps hb); have HC5 := Lib.hid (HCt.out.keeps hb)
        clear hb a0 a1 a2 a3 a4 c0 c1 c2 hA hC
        have hA := HA5.out; have hC := HC5.out
        have a0 := hA.cell 0 _ rfl; have a1 := hA.cell 1 _ rfl; have a2 := hA.cell 2 _ rfl; have a3 := hA.cell 3 _ rfl; have a4 := hA.cell 4 _ rfl; have c0 := hC.cell 0 _ rfl; have c1 := hC.cell 1 _ rfl; have c2 := hC.cell 2 _ rfl
        go_wp2_with fail
        refine (K5.out _).mono ?_
        rintro e w6 ⟨rfl, hb⟩
        have HB6 := Lib.hid (below_on HB5.out HB5.out.size hb)
        have HA6 := Lib.hid (HA5.out.keeps hb); have HC6 := Lib.hid (HC5.out.keeps hb)
        clear hb a0 a1 a2 a3 a4 c0 c1 c2 hA hC
        go_wp2
        go_ret
        exact ⟨rfl, HB6.out⟩
    · subst n5
      go_enter Try.func5, Try.ntmps5
      have hA := HA.out; have hC := HC.out
      have a0 := hA.cell 0 _ rfl; have a1 := hA.cell 1 _ rfl; have a2 := hA.cell 2 _ rfl; have a3 := hA.cell 3 _ rfl; have a4 := hA.cell 4 _ rfl; have c0 := hC.cell 0 _ rfl; have c1 := hC.cell 1 _ rfl; have c2 := hC.cell 2 _ rfl
      go_wp2_with fail
      refine (K0.out _).mono ?_
      rintro e w1 ⟨rfl, hb⟩
      have HB1 := Lib.hid (below_on HB.out HB.out.size hb)
      have HA1 := Lib.hid (HA.out.keeps hb); have HC1 := Lib.hid (HC.out.keeps hb)
      clear hb a0 a1 a2 a3 a4 c0 c1 c2 hA hC
      have hA := HA1.out; have hC := HC1.out
      have a0 := hA.cell 0 _ rfl; have a1 := hA.cell 1 _ rfl; have a2 := hA.cell 2 _ rfl; have a3 := hA.cell 3 _ rfl; have a4 := hA.cell 4 _ rfl; have c0 := hC.cell 0 _ rfl; have c1 := hC.cell 1 _ rfl; have c2 := hC.cell 2 _ rfl
      go_wp2_with fail
      refine (K1.out _).mono ?_
      rintro e w2 ⟨rfl, hb⟩
      have HB2 := Lib.hid (below_on HB1.out HB1.out.size hb)
      have HA2 := Lib.hid (HA1.out.keeps hb); have HC2 := Lib.hid (HC1.out.keeps hb)
      clear hb a0 a1 a2 a3 a4 c0 c1 c2 hA hC
      have hA := HA2.out; have hC := HC2.out
      have a0 := hA.cell 0 _ rfl; have a1 := hA.cell 1 _ rfl; have a2 := hA.cell 2 _ rfl; have a3 := hA.cell 3 _ rfl; have a4 := hA.cell 4 _ rfl; have c0 := hC.cell 0 _ rfl; have c1 := hC.cell 1 _ rfl; have c2 := hC.cell 2 _ rfl
      have fz := hA.frozen 0
      go_wp2_with fail
      have HAs := Lib.hid (HA2.out.set 0 (.int .i64 20000000000000)); have HCs := Lib.hid (HC2.out.other ⟨w.heap.size, 0, none⟩ (.int .i64 20000000000000) (by simp))
      have HBs := Lib.hid (HB2.out.setCell (p := ⟨w.heap.size, 0, none⟩) (Nat.le_refl _) (.int .i64 20000000000000))
      clear fz
      refine (K2.out _).mono ?_
      rintro e w3 ⟨rfl, hb⟩
      have HB3 := Lib.hid (below_on HBs.out HBs.out.size hb)
      have HA3 := Lib.hid (HAs.out.keeps hb); have HC3 := Lib.hid (HCs.out.keeps hb)
      clear hb a0 a1 a2 a3 a4 c0 c1 c2 hA hC
      have hA := HA3.out; have hC := HC3.out
      have a0 := hA.cell 0 _ rfl; have a1 := hA.cell 1 _ rfl; have a2 := hA.cell 2 _ rfl; have a3 := hA.cell 3 _ rfl; have a4 := hA.cell 4 _ rfl; have c0 := hC.cell 0 _ rfl; have c1 := hC.cell 1 _ rfl; have c2 := hC.cell 2 _ rfl
      go_wp2_with fail
      refine (K3.out _).mono ?_
      rintro e w4 ⟨rfl, hb⟩
      have HB4 := Lib.hid (below_on HB3.out HB3.out.size hb)
      have HA4 := Lib.hid (HA3.out.keeps hb); have HC4 := Lib.hid (HC3.out.keeps hb)
      clear hb a0 a1 a2 a3 a4 c0 c1 c2 hA hC
      have hA := HA4.out; have hC := HC4.out
      have a0 := hA.cell 0 _ rfl; have a1 := hA.cell 1 _ rfl; have a2 := hA.cell 2 _ rfl; have a3 := hA.cell 3 _ rfl; have a4 := hA.cell 4 _ rfl; have c0 := hC.cell 0 _ rfl; have c1 := hC.cell 1 _ rfl; have c2 := hC.cell 2 _ rfl
      have fz := hA.frozen 0
      go_wp2_with fail
      have HAt := Lib.hid (HA4.out.set 0 (.int .i64 (20000000000001))); have HCt := Lib.hid (HC4.out.other ⟨w.heap.size, 0, none⟩ (.int .i64 (20000000000001)) (by simp))
      have HBt := Lib.hid (HB4.out.setCell (p := ⟨w.heap.size, 0, none⟩) (Nat.le_refl _) (.int .i64 (20000000000001)))
      clear fz
      go_ret
      exact ⟨rfl, HBt.out⟩
theorem covMost_law (o c v i s : Int) (hf : ∀ z ∈ [o, c, v, i, s], (Lit.int .i64 z).wf = true) (l t d : Int) (hl : ∀ z ∈ [l, t, d], (Lit.int .i64 z).wf = true) (w : World) :
    Calls Try.prog 5 #[.agg #[.int .i64 o, .int .i64 c, .int .i64 v, .int .i64 i, .int .i64 s], .agg #[.int .i64 l, .int .i64 t, .int .i64 d]] w fun e w' => e = .returned (.bool true) ∧ Below w.heap.size w w' :=
  covMost_walk o c v i s l t d (i64_wf (hf o (by simp))) (i64_wf (hf c (by simp))) (i64_wf (hf v (by simp))) (i64_wf (hf i (by simp))) (i64_wf (hf s (by simp))) (i64_wf (hl l (by simp))) (i64_wf (hl t (by simp))) (i64_wf (hl d (by simp))) w
end Go.Proofs.Ytleeifknicilhaa
