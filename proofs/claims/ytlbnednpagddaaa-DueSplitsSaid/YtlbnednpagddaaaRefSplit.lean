/-
  The walk of the reference's split of a payment.
-/
import Derived.Test.YtlbnednpagddaaaRefDue
set_option linter.unusedVariables false
set_option linter.unusedSimpArgs false
namespace Go.Proofs.Ytlbnednpagddaaa
open Go.RowKit

set_option maxRecDepth 8000 in
set_option maxHeartbeats 1600000 in
theorem rsplit_any (a b c m : Int) (s : (Int × Int × Int) × (Int × Int × Int × Int) × Int) (hs : splitS a b c m = s) (w : World) :
    Calls Try.prog 12 #[.agg #[.int .i64 a, .int .i64 b, .int .i64 c], .int .i64 m] w fun e w' => e = .returned (.tuple #[dv s.1, pv s.2.1, .int .i64 s.2.2]) ∧ Below w.heap.size w w' := by
  cases h1 : okD a b c with
  | false =>
    have HS : Hid (s = ((0, 0, 0), (0, 0, 0, 0), 171)) := by show _ = _; rw [← hs]; unfold splitS; rw [h1]; rfl
    have HR := Lib.hid (fun W => rright_any a b c false h1 W)
    clear h1 hs
    go_enter Try.func12, Try.ntmps12
    go_wp2_with fail
    refine (HR.out _).mono ?_
    rintro e w1 ⟨rfl, hb⟩
    have hR := ((Blk.new2 w _ _ [.int .i64 0, .int .i64 0, .int .i64 0]).alloc _).keeps hb
    have hP := (Blk.new3 w _ _ _ [.int .i64 0, .int .i64 0, .int .i64 0, .int .i64 0]).keeps hb
    have hB := below_on (below_new3 w _ _ _) (by simp; omega) hb
    have R0 := hR.cell 0 _ rfl; have R1 := hR.cell 1 _ rfl; have R2 := hR.cell 2 _ rfl; have Rf := hR.frozen; have Rn := hR.lt
    have P0 := hP.cell 0 _ rfl; have P1 := hP.cell 1 _ rfl; have P2 := hP.cell 2 _ rfl; have P3 := hP.cell 3 _ rfl; have Pf := hP.frozen; have Pn := hP.lt
    clear hb hR hP HR
    go_wp2
    exact bodyPost_ret (v := .tuple #[dv ((0, 0, 0), (0, 0, 0, 0), 171).1, pv ((0, 0, 0), (0, 0, 0, 0), 171).2.1, .int .i64 ((0, 0, 0), (0, 0, 0, 0), 171).2.2]) (by simp [results, Try.results12, go_sem, dv, pv, R0, R1, R2, Rn, P0, P1, P2, P3, Pn]) rfl ⟨by rw [HS.out], by repeat' (first | with_reducible exact hB | with_reducible refine Below.drew ?_ | with_reducible refine Below.setCell ?_ ?_ _ | with_reducible refine Below.alloc ?_ ?_ _ | (simp; done) | (simp; omega))⟩
  | true =>
    have HR := Lib.hid (fun W => rright_any a b c true h1 W)
    cases h2 : okM m with
    | false =>
      have HS : Hid (s = ((0, 0, 0), (0, 0, 0, 0), 142)) := by show _ = _; rw [← hs]; unfold splitS; rw [h1, h2]; rfl
      have HM := Lib.hid (rmoney_any m false h2)
      clear h1 h2 hs
      go_enter Try.func12, Try.ntmps12
      go_wp2_with fail
      refine (HR.out _).mono ?_
      rintro e w1 ⟨rfl, hb⟩
      have hR := ((Blk.new2 w _ _ [.int .i64 0, .int .i64 0, .int .i64 0]).alloc _).keeps hb
      have hP := (Blk.new3 w _ _ _ [.int .i64 0, .int .i64 0, .int .i64 0, .int .i64 0]).keeps hb
      have hB := below_on (below_new3 w _ _ _) (by simp; omega) hb
      have R0 := hR.cell 0 _ rfl; have R1 := hR.cell 1 _ rfl; have R2 := hR.cell 2 _ rfl; have Rf := hR.frozen; have Rn := hR.lt
      have P0 := hP.cell 0 _ rfl; have P1 := hP.cell 1 _ rfl; have P2 := hP.cell 2 _ rfl; have P3 := hP.cell 3 _ rfl; have Pf := hP.frozen; have Pn := hP.lt
      clear hb hR hP HR
      go_wp2_with fail
      refine (HM.out _).mono ?_
      rintro e w2 ⟨rfl, rfl⟩
      go_wp2
      exact bodyPost_ret (v := .tuple #[dv ((0, 0, 0), (0, 0, 0, 0), 142).1, pv ((0, 0, 0), (0, 0, 0, 0), 142).2.1, .int .i64 ((0, 0, 0), (0, 0, 0, 0), 142).2.2]) (by simp [results, Try.results12, go_sem, dv, pv, R0, R1, R2, Rn, P0, P1, P2, P3, Pn]) rfl ⟨by rw [HS.out], by repeat' (first | with_reducible exact hB | with_reducible refine Below.drew ?_ | with_reducible refine Below.setCell ?_ ?_ _ | with_reducible refine Below.alloc ?_ ?_ _ | (simp; done) | (simp; omega))⟩
    | true =>
      have HM := Lib.hid (rmoney_any m true h2)
      obtain ⟨⟨a0, a1⟩, ⟨b0, b1⟩, ⟨c0, c1⟩⟩ := okD_true h1
      obtain ⟨m0, m1⟩ := okM_true h2
      have hs' : s = ((a - lo m a, b - lo (m - lo m a) b, c - lo (m - lo m a - lo (m - lo m a) b) c), (lo m a, lo (m - lo m a) b, lo (m - lo m a - lo (m - lo m a) b) c, m - lo m a - lo (m - lo m a) b - lo (m - lo m a - lo (m - lo m a) b) c), 0) := by rw [← hs]; unfold splitS; rw [h1, h2]; rfl
      obtain ⟨x, hx⟩ : ∃ x, lo m a = x := ⟨_, rfl⟩
      have x0 : 0 ≤ x := by rw [← hx]; exact lo_nn m0 a0
      have x1 : x ≤ m := by rw [← hx]; exact lo_le
      have x2 : x ≤ a := by rw [← hx]; exact lo_ri
      rw [hx] at hs'
      obtain ⟨y, hy⟩ : ∃ y, lo (m - x) b = y := ⟨_, rfl⟩
      have y0 : 0 ≤ y := by rw [← hy]; exact lo_nn (by omega) b0
      have y1 : y ≤ m - x := by rw [← hy]; exact lo_le
      have y2 : y ≤ b := by rw [← hy]; exact lo_ri
      rw [hy] at hs'
      obtain ⟨z, hz⟩ : ∃ z, lo (m - x - y) c = z := ⟨_, rfl⟩
      have z0 : 0 ≤ z := by rw [← hz]; exact lo_nn (by omega) c0
      have z1 : z ≤ m - x - y := by rw [← hz]; exact lo_le
      have z2 : z ≤ c := by rw [← hz]; exact lo_ri
      rw [hz] at hs'
      have HS := Lib.hid hs'
      have L1 := Lib.hid (fun W => least_any m a W)
      have L2 := Lib.hid (fun W => least_any (m - x) b W)
      have L3 := Lib.hid (fun W => least_any (m - x - y) c W)
      rw [hx] at L1; rw [hy] at L2; rw [hz] at L3
      clear h1 h2 hs hs' hx hy hz
      go_enter Try.func12, Try.ntmps12
      go_wp2_with fail
      refine (HR.out _).mono ?_
      rintro e w1 ⟨rfl, hb⟩
      have hA := (((Blk.new w _ [.int .i64 a, .int .i64 b, .int .i64 c]).alloc _).alloc _).keeps hb
      have hR := ((Blk.new2 w _ _ [.int .i64 0, .int .i64 0, .int .i64 0]).alloc _).keeps hb
      have hP := (Blk.new3 w _ _ _ [.int .i64 0, .int .i64 0, .int .i64 0, .int .i64 0]).keeps hb
      have hB := below_on (below_new3 w _ _ _) (by simp; omega) hb
      have R0 := hR.cell 0 _ rfl; have R1 := hR.cell 1 _ rfl; have R2 := hR.cell 2 _ rfl; have Rf := hR.frozen; have Rn := hR.lt
      have P0 := hP.cell 0 _ rfl; have P1 := hP.cell 1 _ rfl; have P2 := hP.cell 2 _ rfl; have P3 := hP.cell 3 _ rfl; have Pf := hP.frozen; have Pn := hP.lt
      have A0 := hA.cell 0 _ rfl; have A1 := hA.cell 1 _ rfl; have A2 := hA.cell 2 _ rfl; have Af := hA.frozen; have An := hA.lt
      clear hb HR hA hR hP
      go_wp2_with fail
      refine (HM.out _).mono ?_
      rintro e w2 ⟨rfl, rfl⟩
      go_wp2_with fail
      refine (L1.out _).mono ?_
      rintro e w3 ⟨rfl, rfl⟩
      go_wp2_with fail
      refine (L2.out _).mono ?_
      rintro e w4 ⟨rfl, rfl⟩
      go_wp2_with fail
      refine (L3.out _).mono ?_
      rintro e w5 ⟨rfl, rfl⟩
      go_wp2
      go_region
      go_wp2
      exact bodyPost_ret (v := .tuple #[dv ((a - x, b - y, c - z), (x, y, z, m - x - y - z), 0).1, pv ((a - x, b - y, c - z), (x, y, z, m - x - y - z), 0).2.1, .int .i64 ((a - x, b - y, c - z), (x, y, z, m - x - y - z), 0).2.2]) (by simp [results, Try.results12, go_sem, dv, pv, R0, R1, R2, Rn, P0, P1, P2, P3, Pn]) rfl ⟨by rw [HS.out], by repeat' (first | with_reducible exact hB | with_reducible refine Below.drew ?_ | with_reducible refine Below.setCell ?_ ?_ _ | with_reducible refine Below.alloc ?_ ?_ _ | (simp; done) | (simp; omega))⟩
end Go.Proofs.Ytlbnednpagddaaa
