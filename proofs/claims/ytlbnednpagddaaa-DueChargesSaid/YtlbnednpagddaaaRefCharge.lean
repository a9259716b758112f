/-
  The walk of the reference's Charge.
-/
import Derived.Test.YtlbnednpagddaaaCharge
set_option linter.unusedVariables false
set_option linter.unusedSimpArgs false
namespace Go.Proofs.Ytlbnednpagddaaa
open Go.RowKit

set_option maxRecDepth 8000 in
set_option maxHeartbeats 1600000 in
theorem rcharge_any (a b c p : Int) (s : (Int × Int × Int) × Int × Int) (hs : chargeS a b c p = s) (w : World) :
    Calls Try.prog 21 #[.agg #[.int .i64 a, .int .i64 b, .int .i64 c], .int .i64 p] w fun e w' => e = .returned (.tuple #[dv s.1, .int .i64 s.2.1, .int .i64 s.2.2]) ∧ Below w.heap.size w w' := by
  cases h1 : okD a b c with
  | false =>
    have HS : Hid (s = ((0, 0, 0), 0, 171)) := by show _ = _; rw [← hs]; unfold chargeS; rw [h1]; rfl
    have HR := Lib.hid (fun W => rright_any a b c false h1 W)
    clear h1 hs
    go_enter Try.func21, Try.ntmps21
    go_wp2_with fail
    refine (HR.out _).mono ?_
    rintro e w1 ⟨rfl, hb⟩
    have hR := (Blk.new2 w _ _ [.int .i64 0, .int .i64 0, .int .i64 0]).keeps hb
    have hB := below_on (below_new2 w _ _) (by simp; omega) hb
    have R0 := hR.cell 0 _ rfl; have R1 := hR.cell 1 _ rfl; have R2 := hR.cell 2 _ rfl; have Rf := hR.frozen; have Rn := hR.lt
    clear hb hR HR
    go_wp2
    exact bodyPost_ret (v := .tuple #[dv ((0, 0, 0), 0, 171).1, .int .i64 ((0, 0, 0), 0, 171).2.1, .int .i64 ((0, 0, 0), 0, 171).2.2]) (by simp [results, Try.results21, go_sem, dv, R0, R1, R2]) rfl ⟨by rw [HS.out], by repeat (first | with_reducible exact hB | refine Below.setCell ?_ (by simp; try omega) _)⟩
  | true =>
    obtain ⟨⟨a0, a1⟩, ⟨b0, b1⟩, ⟨c0, c1⟩⟩ := okD_true h1
    have HR := Lib.hid (fun W => rright_any a b c true h1 W)
    cases h2 : okP p with
    | false =>
      have HS : Hid (s = ((0, 0, 0), 0, 142)) := by show _ = _; rw [← hs]; unfold chargeS; rw [h1, h2]; rfl
      have HM := Lib.hid (fun W => rstrip_bad c p c0 (okP_false h2) W)
      clear h1 h2 hs
      go_enter Try.func21, Try.ntmps21
      go_wp2_with fail
      refine (HR.out _).mono ?_
      rintro e w1 ⟨rfl, hb⟩
      have hA := ((Blk.new w _ [.int .i64 a, .int .i64 b, .int .i64 c]).alloc _).keeps hb
      have A0 := hA.cell 0 _ rfl; have A1 := hA.cell 1 _ rfl; have A2 := hA.cell 2 _ rfl; have Af := hA.frozen; have An := hA.lt
      have hR0 := (Blk.new2 w _ _ [.int .i64 0, .int .i64 0, .int .i64 0]).keeps hb
      have hB0 := below_on (below_new2 w _ _) (by simp; omega) hb
      clear hb hA HR
      go_wp2_with fail
      refine (HM.out _).mono ?_
      rintro e w2 ⟨rfl, hb⟩
      have hR := hR0.keeps hb
      have hB := below_on hB0 hB0.size hb
      have R0 := hR.cell 0 _ rfl; have R1 := hR.cell 1 _ rfl; have R2 := hR.cell 2 _ rfl; have Rf := hR.frozen; have Rn := hR.lt
      clear hb hR hR0 hB0 HM A0 A1 A2 Af An
      go_wp2
      exact bodyPost_ret (v := .tuple #[dv ((0, 0, 0), 0, 142).1, .int .i64 ((0, 0, 0), 0, 142).2.1, .int .i64 ((0, 0, 0), 0, 142).2.2]) (by simp [results, Try.results21, go_sem, dv, R0, R1, R2]) rfl ⟨by rw [HS.out], by repeat (first | with_reducible exact hB | refine Below.setCell ?_ (by simp; try omega) _)⟩
    | true =>
      obtain ⟨p0, p1⟩ := okP_true h2
      have HM := Lib.hid (fun W => rstrip_ok c p c0 c1 p0 p1 W)
      obtain ⟨_, _, q0, q1⟩ := part_in c0 c1 p0 p1
      have hs' := hs
      unfold chargeS at hs'
      rw [h1, h2, if_pos rfl, if_pos rfl] at hs'
      obtain ⟨q, hq⟩ : ∃ q, c * p / 10000 = q := ⟨_, rfl⟩
      rw [hq] at HM q0 q1 hs'
      clear hq hs
      cases h3 : okD (a + q) b c with
      | false =>
        have HS : Hid (s = ((0, 0, 0), 0, 171)) := by show _ = _; rw [← hs', h3]; rfl
        have HR2 := Lib.hid (fun W => rright_any (a + q) b c false h3 W)
        clear h1 h2 h3 hs'
        go_enter Try.func21, Try.ntmps21
        go_wp2_with fail
        refine (HR.out _).mono ?_
        rintro e w1 ⟨rfl, hb⟩
        have hA0 := ((Blk.new w _ [.int .i64 a, .int .i64 b, .int .i64 c]).alloc _).keeps hb
        have A0 := hA0.cell 0 _ rfl; have A1 := hA0.cell 1 _ rfl; have A2 := hA0.cell 2 _ rfl; have Af := hA0.frozen; have An := hA0.lt
        have hR0 := (Blk.new2 w _ _ [.int .i64 0, .int .i64 0, .int .i64 0]).keeps hb
        have hB0 := below_on (below_new2 w _ _) (by simp; omega) hb
        clear hb HR
        go_wp2_with fail
        refine (HM.out _).mono ?_
        rintro e w2 ⟨rfl, hb⟩
        have hA := hA0.keeps hb
        have A0 := hA.cell 0 _ rfl; have A1 := hA.cell 1 _ rfl; have A2 := hA.cell 2 _ rfl; have Af := hA.frozen; have An := hA.lt
        have hR2 := hR0.keeps hb
        have hB2 := below_on hB0 hB0.size hb
        clear hb hA0 hA hR0 hB0 HM
        go_wp2_with fail
        refine (HR2.out _).mono ?_
        rintro e w3 ⟨rfl, hb⟩
        have hN3 := (Blk.new w2 23 [.int .i64 (a + q), .int .i64 b, .int .i64 c]).keeps hb
        have hR := (hR2.alloc _).keeps hb
        have hB := below_on (hB2.alloc hB2.size _) (by simp; omega) hb
        have B0 := hN3.cell 0 _ rfl; have B1 := hN3.cell 1 _ rfl; have B2 := hN3.cell 2 _ rfl; have Bf := hN3.frozen; have Bn := hN3.lt
        have R0 := hR.cell 0 _ rfl; have R1 := hR.cell 1 _ rfl; have R2 := hR.cell 2 _ rfl; have Rf := hR.frozen; have Rn := hR.lt
        clear hb hR2 hR hB2 HR2 A0 A1 A2 Af An
        go_wp2
        exact bodyPost_ret (v := .tuple #[dv ((0, 0, 0), 0, 171).1, .int .i64 ((0, 0, 0), 0, 171).2.1, .int .i64 ((0, 0, 0), 0, 171).2.2]) (by simp [results, Try.results21, go_sem, dv, R0, R1, R2, Rn]) rfl ⟨by rw [HS.out], by repeat' (first | with_reducible exact hB | with_reducible refine Below.drew ?_ | with_reducible refine Below.setCell ?_ ?_ _ | with_reducible refine Below.alloc ?_ ?_ _ | (simp; done) | (simp; omega))⟩
      | true =>
        have HS : Hid (s = ((a + q, b, c), q, 0)) := by show _ = _; rw [← hs', h3]; rfl
        have HR2 := Lib.hid (fun W => rright_any (a + q) b c true h3 W)
        clear h1 h2 h3 hs'
        go_enter Try.func21, Try.ntmps21
        go_wp2_with fail
        refine (HR.out _).mono ?_
        rintro e w1 ⟨rfl, hb⟩
        have hA0 := ((Blk.new w _ [.int .i64 a, .int .i64 b, .int .i64 c]).alloc _).keeps hb
        have A0 := hA0.cell 0 _ rfl; have A1 := hA0.cell 1 _ rfl; have A2 := hA0.cell 2 _ rfl; have Af := hA0.frozen; have An := hA0.lt
        have hR0 := (Blk.new2 w _ _ [.int .i64 0, .int .i64 0, .int .i64 0]).keeps hb
        have hB0 := below_on (below_new2 w _ _) (by simp; omega) hb
        clear hb HR
        go_wp2_with fail
        refine (HM.out _).mono ?_
        rintro e w2 ⟨rfl, hb⟩
        have hA := hA0.keeps hb
        have A0 := hA.cell 0 _ rfl; have A1 := hA.cell 1 _ rfl; have A2 := hA.cell 2 _ rfl; have Af := hA.frozen; have An := hA.lt
        have hR2 := hR0.keeps hb
        have hB2 := below_on hB0 hB0.size hb
        clear hb hA0 hA hR0 hB0 HM
        go_wp2_with fail
        refine (HR2.out _).mono ?_
        rintro e w3 ⟨rfl, hb⟩
        have hN3 := (Blk.new w2 23 [.int .i64 (a + q), .int .i64 b, .int .i64 c]).keeps hb
        have hR := (hR2.alloc _).keeps hb
        have hB := below_on (hB2.alloc hB2.size _) (by simp; omega) hb
        have B0 := hN3.cell 0 _ rfl; have B1 := hN3.cell 1 _ rfl; have B2 := hN3.cell 2 _ rfl; have Bf := hN3.frozen; have Bn := hN3.lt
        have R0 := hR.cell 0 _ rfl; have R1 := hR.cell 1 _ rfl; have R2 := hR.cell 2 _ rfl; have Rf := hR.frozen; have Rn := hR.lt
        clear hb hR2 hR hB2 HR2 A0 A1 A2 Af An
        go_wp2
        exact bodyPost_ret (v := .tuple #[dv ((a + q, b, c), q, 0).1, .int .i64 ((a + q, b, c), q, 0).2.1, .int .i64 ((a + q, b, c), q, 0).2.2]) (by simp [results, Try.results21, go_sem, dv, R0, R1, R2, Rn]) rfl ⟨by rw [HS.out], by repeat' (first | with_reducible exact hB | with_reducible refine Below.drew ?_ | with_reducible refine Below.setCell ?_ ?_ _ | with_reducible refine Below.alloc ?_ ?_ _ | (simp; done) | (simp; omega))⟩
end Go.Proofs.Ytlbnednpagddaaa
