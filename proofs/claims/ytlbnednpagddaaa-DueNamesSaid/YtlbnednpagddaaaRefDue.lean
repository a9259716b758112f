/-
  The walks of the reference's dues: which amounts and dues can be, a bill, a payment's parts; and due.Total.
-/
import Derived.Test.YtlbnednpagddaaaSplit
set_option linter.unusedVariables false
set_option linter.unusedSimpArgs false
namespace Go.Proofs.Ytlbnednpagddaaa
open Go.RowKit

set_option maxHeartbeats 400000 in
theorem rmoney_any (n : Int) (v : Bool) (hv : okM n = v) (w : World) :
    Calls Try.prog 23 #[.int .i64 n] w fun e w' => e = .returned (.bool v) ∧ w' = w := by
  cases v with
  | true =>
    obtain ⟨h1, h2⟩ := okM_true hv
    clear hv
    go_enter Try.func23, Try.ntmps23
    go_wp2
    go_ret
    exact ⟨rfl, rfl⟩
  | false =>
    rcases okM_false hv with h1 | h1
    · clear hv
      have h2 : ¬ 0 ≤ n := by omega
      go_enter Try.func23, Try.ntmps23
      go_wp2
      go_ret
      exact ⟨rfl, rfl⟩
    · clear hv
      have h2 : 0 ≤ n := by omega
      have h3 : ¬ n ≤ 20000000000000 := by omega
      go_enter Try.func23, Try.ntmps23
      go_wp2
      go_ret
      exact ⟨rfl, rfl⟩
set_option maxHeartbeats 400000 in
theorem least_any (a b : Int) (w : World) :
    Calls Try.prog 24 #[.int .i64 a, .int .i64 b] w fun e w' => e = .returned (.int .i64 (lo a b)) ∧ w' = w := by
  by_cases h : a < b
  · have HL : Hid (lo a b = a) := by show _ = _; unfold lo; rw [if_neg (by omega)]
    go_enter Try.func24, Try.ntmps24
    go_wp2
    go_ret
    exact ⟨by rw [HL.out]; rfl, rfl⟩
  · have HL : Hid (lo a b = b) := by show _ = _; unfold lo; split <;> omega
    go_enter Try.func24, Try.ntmps24
    go_wp2
    go_ret
    exact ⟨by rw [HL.out]; rfl, rfl⟩
set_option maxHeartbeats 400000 in
theorem rright_any (a b c : Int) (v : Bool) (hv : okD a b c = v) (w : World) :
    Calls Try.prog 16 #[.agg #[.int .i64 a, .int .i64 b, .int .i64 c]] w fun e w' => e = .returned (.bool v) ∧ Below w.heap.size w w' := by
  have HV := Lib.hid hv
  clear hv
  cases h1 : okM a with
  | false =>
    have HN : Hid (v = false) := by show _ = _; rw [← HV.out, okD, h1]; rfl
    have H1 := Lib.hid (rmoney_any a false h1)
    clear h1 HV
    go_enter Try.func16, Try.ntmps16
    go_wp2_with fail
    refine (H1.out _).mono ?_
    rintro e w1 ⟨rfl, rfl⟩
    go_wp2
    go_ret
    exact ⟨by rw [HN.out]; rfl, below_new1 _ _⟩
  | true =>
    have H1 := Lib.hid (rmoney_any a true h1)
    cases h2 : okM b with
    | false =>
      have HN : Hid (v = false) := by show _ = _; rw [← HV.out, okD, h1, h2]; rfl
      have H2 := Lib.hid (rmoney_any b false h2)
      clear h1 h2 HV
      go_enter Try.func16, Try.ntmps16
      go_wp2_with fail
      refine (H1.out _).mono ?_
      rintro e w1 ⟨rfl, rfl⟩
      go_wp2_with fail
      refine (H2.out _).mono ?_
      rintro e w1 ⟨rfl, rfl⟩
      go_wp2
      go_ret
      exact ⟨by rw [HN.out]; rfl, below_new1 _ _⟩
    | true =>
      have HN : Hid (v = okM c) := by show _ = _; rw [← HV.out, okD, h1, h2]; rfl
      have H2 := Lib.hid (rmoney_any b true h2)
      have H3 := Lib.hid (rmoney_any c v HN.out.symm)
      clear h1 h2 HV
      go_enter Try.func16, Try.ntmps16
      go_wp2_with fail
      refine (H1.out _).mono ?_
      rintro e w1 ⟨rfl, rfl⟩
      go_wp2_with fail
      refine (H2.out _).mono ?_
      rintro e w1 ⟨rfl, rfl⟩
      go_wp2_with fail
      refine (H3.out _).mono ?_
      rintro e w1 ⟨rfl, rfl⟩
      go_wp2
      go_ret
      exact ⟨rfl, below_new1 _ _⟩

set_option maxRecDepth 8000 in
set_option maxHeartbeats 1600000 in
theorem rbill_any (a b c i f r : Int) (s : (Int × Int × Int) × Int × Int) (hs : billS a b c i f r = s) (w : World) :
    Calls Try.prog 15 #[.agg #[.int .i64 a, .int .i64 b, .int .i64 c], .int .i64 i, .int .i64 f, .int .i64 r] w fun e w' => e = .returned (.tuple #[dv s.1, .int .i64 s.2.1, .int .i64 s.2.2]) ∧ Below w.heap.size w w' := by
  cases h1 : okD a b c with
  | false =>
    have HS : Hid (s = ((0, 0, 0), 0, 171)) := by show _ = _; rw [← hs]; unfold billS; rw [h1]; rfl
    have HR := Lib.hid (fun W => rright_any a b c false h1 W)
    clear h1 hs
    go_enter Try.func15, Try.ntmps15
    go_wp2_with fail
    refine (HR.out _).mono ?_
    rintro e w1 ⟨rfl, hb⟩
    have hR := (Blk.new2 w _ _ [.int .i64 0, .int .i64 0, .int .i64 0]).keeps hb
    have hB := below_on (below_new2 w _ _) (by simp; omega) hb
    have R0 := hR.cell 0 _ rfl; have R1 := hR.cell 1 _ rfl; have R2 := hR.cell 2 _ rfl; have Rf := hR.frozen; have Rn := hR.lt
    clear hb hR HR
    go_wp2
    exact bodyPost_ret (v := .tuple #[dv ((0, 0, 0), 0, 171).1, .int .i64 ((0, 0, 0), 0, 171).2.1, .int .i64 ((0, 0, 0), 0, 171).2.2]) (by simp [results, Try.results15, go_sem, dv, R0, R1, R2]) rfl ⟨by rw [HS.out], by repeat' (first | with_reducible exact hB | with_reducible refine Below.drew ?_ | with_reducible refine Below.setCell ?_ ?_ _ | with_reducible refine Below.alloc ?_ ?_ _ | (simp; done) | (simp; omega))⟩
  | true =>
    obtain ⟨⟨a0, a1⟩, ⟨b0, b1⟩, ⟨c0, c1⟩⟩ := okD_true h1
    have HR := Lib.hid (fun W => rright_any a b c true h1 W)
    have HM := Lib.hid (fun n => rmoney_any n _ rfl)
    cases h2 : okD i f r with
    | false =>
      have HS : Hid (s = ((0, 0, 0), 0, 142)) := by show _ = _; rw [← hs]; unfold billS; rw [h1, h2]; rfl
      have h3 : okM i = false ∨ (okM i = true ∧ okM f = false) ∨ (okM i = true ∧ okM f = true ∧ okM r = false) := by
        unfold okD at h2
        cases hi : okM i <;> cases hf : okM f <;> cases hr : okM r <;> simp_all
      clear h1 h2 hs
      rcases h3 with g1 | ⟨g1, g2⟩ | ⟨g1, g2, g3⟩
      all_goals
        go_enter Try.func15, Try.ntmps15
        go_wp2_with fail
        refine (HR.out _).mono ?_
        rintro e w1 ⟨rfl, hb⟩
        have hR := (Blk.new2 w _ _ [.int .i64 0, .int .i64 0, .int .i64 0]).keeps hb
        have hB := below_on (below_new2 w _ _) (by simp; omega) hb
        have R0 := hR.cell 0 _ rfl; have R1 := hR.cell 1 _ rfl; have R2 := hR.cell 2 _ rfl; have Rf := hR.frozen; have Rn := hR.lt
        clear hb hR HR
        go_wp2_with (refine (HM.out _ _).mono ?_; rintro e w2 ⟨rfl, rfl⟩)
        exact bodyPost_ret (v := .tuple #[dv ((0, 0, 0), 0, 142).1, .int .i64 ((0, 0, 0), 0, 142).2.1, .int .i64 ((0, 0, 0), 0, 142).2.2]) (by simp [results, Try.results15, go_sem, dv, R0, R1, R2, Rn]) rfl ⟨by rw [HS.out], by repeat' (first | with_reducible exact hB | with_reducible refine Below.drew ?_ | with_reducible refine Below.setCell ?_ ?_ _ | with_reducible refine Below.alloc ?_ ?_ _ | (simp; done) | (simp; omega))⟩
    | true =>
      obtain ⟨⟨i0, i1⟩, ⟨f0, f1⟩, ⟨r0, r1⟩⟩ := okD_true h2
      have g1 := okM_mk i0 i1
      have g2 := okM_mk f0 f1
      have g3 := okM_mk r0 r1
      obtain ⟨p, hp⟩ : ∃ p, p = if r < i then r else i := ⟨_, rfl⟩
      have p0 : 0 ≤ p := by rw [hp]; split <;> omega
      have p1 : p ≤ i := by rw [hp]; split <;> omega
      cases h3 : okD a (b + f) (c + (i - p)) with
      | false =>
        have HS : Hid (s = ((0, 0, 0), 0, 171)) := by show _ = _; rw [← hs]; unfold billS; rw [h1, h2, ← hp, h3]; rfl
        have HR2 := Lib.hid (fun (X : Int) (hX : X = c + (i - p)) W => rright_any a (b + f) X false (by rw [← h3, hX]) W)
        clear h1 h2 h3 hs
        go_enter Try.func15, Try.ntmps15
        go_wp2_with fail
        refine (HR.out _).mono ?_
        rintro e w1 ⟨rfl, hb⟩
        have hA := ((Blk.new w _ [.int .i64 a, .int .i64 b, .int .i64 c]).alloc _).keeps hb
        have hR := (Blk.new2 w _ _ [.int .i64 0, .int .i64 0, .int .i64 0]).keeps hb
        have hB := below_on (below_new2 w _ _) (by simp; omega) hb
        have A0 := hA.cell 0 _ rfl; have A1 := hA.cell 1 _ rfl; have A2 := hA.cell 2 _ rfl; have Af := hA.frozen; have An := hA.lt
        clear hb HR
        by_cases hir : i < r
        · have hp' : p = i := by rw [hp]; split <;> omega
          have HPX : Hid (c = c + (i - p)) := by show _ = _; omega
          have HPP := Lib.hid hp'
          clear hp hp'
          go_wp2_with fail
          refine (HM.out _ _).mono ?_
          rintro e w2 ⟨rfl, rfl⟩
          go_wp2_with fail
          refine (HM.out _ _).mono ?_
          rintro e w2 ⟨rfl, rfl⟩
          go_wp2_with fail
          refine (HM.out _ _).mono ?_
          rintro e w2 ⟨rfl, rfl⟩
          go_wp2_with fail
          refine (HR2.out _ HPX.out _).mono ?_
          rintro e w3 ⟨rfl, hb3⟩
          have hN3 := (Blk.new w2 23 [.int .i64 a, .int .i64 (b + f), .int .i64 (c)]).keeps hb3
          have hR3 := (hR.alloc _).keeps hb3
          have hB3 := below_on (hB.alloc (by omega) _) (by simp; omega) hb3
          have B0 := hN3.cell 0 _ rfl; have B1 := hN3.cell 1 _ rfl; have B2 := hN3.cell 2 _ rfl; have Bf := hN3.frozen; have Bn := hN3.lt
          have R0 := hR3.cell 0 _ rfl; have R1 := hR3.cell 1 _ rfl; have R2 := hR3.cell 2 _ rfl; have Rf := hR3.frozen; have Rn := hR3.lt
          clear hA hR hB hb3 A0 A1 A2 Af HM HR2
          go_wp2
          exact bodyPost_ret (v := .tuple #[dv ((0, 0, 0), 0, 171).1, .int .i64 ((0, 0, 0), 0, 171).2.1, .int .i64 ((0, 0, 0), 0, 171).2.2]) (by simp [results, Try.results15, go_sem, dv, R0, R1, R2, Rn]) rfl ⟨by rw [HS.out], by repeat' (first | with_reducible exact hB3 | with_reducible refine Below.drew ?_ | with_reducible refine Below.setCell ?_ ?_ _ | with_reducible refine Below.alloc ?_ ?_ _ | (simp; done) | (simp; omega))⟩
        · have hp' : p = r := by rw [hp]; split <;> omega
          have HPX : Hid (c + i - r = c + (i - p)) := by show _ = _; omega
          have HPP := Lib.hid hp'
          clear hp hp'
          go_wp2_with fail
          refine (HM.out _ _).mono ?_
          rintro e w2 ⟨rfl, rfl⟩
          go_wp2_with fail
          refine (HM.out _ _).mono ?_
          rintro e w2 ⟨rfl, rfl⟩
          go_wp2_with fail
          refine (HM.out _ _).mono ?_
          rintro e w2 ⟨rfl, rfl⟩
          go_wp2_with fail
          refine (HR2.out _ HPX.out _).mono ?_
          rintro e w3 ⟨rfl, hb3⟩
          have hN3 := (Blk.new w2 23 [.int .i64 a, .int .i64 (b + f), .int .i64 (c + i - r)]).keeps hb3
          have hR3 := (hR.alloc _).keeps hb3
          have hB3 := below_on (hB.alloc (by omega) _) (by simp; omega) hb3
          have B0 := hN3.cell 0 _ rfl; have B1 := hN3.cell 1 _ rfl; have B2 := hN3.cell 2 _ rfl; have Bf := hN3.frozen; have Bn := hN3.lt
          have R0 := hR3.cell 0 _ rfl; have R1 := hR3.cell 1 _ rfl; have R2 := hR3.cell 2 _ rfl; have Rf := hR3.frozen; have Rn := hR3.lt
          clear hA hR hB hb3 A0 A1 A2 Af HM HR2
          go_wp2
          exact bodyPost_ret (v := .tuple #[dv ((0, 0, 0), 0, 171).1, .int .i64 ((0, 0, 0), 0, 171).2.1, .int .i64 ((0, 0, 0), 0, 171).2.2]) (by simp [results, Try.results15, go_sem, dv, R0, R1, R2, Rn]) rfl ⟨by rw [HS.out], by repeat' (first | with_reducible exact hB3 | with_reducible refine Below.drew ?_ | with_reducible refine Below.setCell ?_ ?_ _ | with_reducible refine Below.alloc ?_ ?_ _ | (simp; done) | (simp; omega))⟩
      | true =>
        have HS : Hid (s = ((a, b + f, c + (i - p)), p, 0)) := by show _ = _; rw [← hs]; unfold billS; rw [h1, h2, ← hp, h3]; rfl
        have HR2 := Lib.hid (fun (X : Int) (hX : X = c + (i - p)) W => rright_any a (b + f) X true (by rw [← h3, hX]) W)
        clear h1 h2 h3 hs
        go_enter Try.func15, Try.ntmps15
        go_wp2_with fail
        refine (HR.out _).mono ?_
        rintro e w1 ⟨rfl, hb⟩
        have hA := ((Blk.new w _ [.int .i64 a, .int .i64 b, .int .i64 c]).alloc _).keeps hb
        have hR := (Blk.new2 w _ _ [.int .i64 0, .int .i64 0, .int .i64 0]).keeps hb
        have hB := below_on (below_new2 w _ _) (by simp; omega) hb
        have A0 := hA.cell 0 _ rfl; have A1 := hA.cell 1 _ rfl; have A2 := hA.cell 2 _ rfl; have Af := hA.frozen; have An := hA.lt
        clear hb HR
        by_cases hir : i < r
        · have hp' : p = i := by rw [hp]; split <;> omega
          have HPX : Hid (c = c + (i - p)) := by show _ = _; omega
          have HPP := Lib.hid hp'
          clear hp hp'
          go_wp2_with fail
          refine (HM.out _ _).mono ?_
          rintro e w2 ⟨rfl, rfl⟩
          go_wp2_with fail
          refine (HM.out _ _).mono ?_
          rintro e w2 ⟨rfl, rfl⟩
          go_wp2_with fail
          refine (HM.out _ _).mono ?_
          rintro e w2 ⟨rfl, rfl⟩
          go_wp2_with fail
          refine (HR2.out _ HPX.out _).mono ?_
          rintro e w3 ⟨rfl, hb3⟩
          have hN3 := (Blk.new w2 23 [.int .i64 a, .int .i64 (b + f), .int .i64 (c)]).keeps hb3
          have hR3 := (hR.alloc _).keeps hb3
          have hB3 := below_on (hB.alloc (by omega) _) (by simp; omega) hb3
          have B0 := hN3.cell 0 _ rfl; have B1 := hN3.cell 1 _ rfl; have B2 := hN3.cell 2 _ rfl; have Bf := hN3.frozen; have Bn := hN3.lt
          have R0 := hR3.cell 0 _ rfl; have R1 := hR3.cell 1 _ rfl; have R2 := hR3.cell 2 _ rfl; have Rf := hR3.frozen; have Rn := hR3.lt
          clear hA hR hB hb3 A0 A1 A2 Af HM HR2
          go_wp2
          exact bodyPost_ret (v := .tuple #[dv ((a, b + f, c), i, 0).1, .int .i64 ((a, b + f, c), i, 0).2.1, .int .i64 ((a, b + f, c), i, 0).2.2]) (by simp [results, Try.results15, go_sem, dv, R0, R1, R2, Rn]) rfl ⟨by rw [HS.out, ← HPX.out, HPP.out], by repeat' (first | with_reducible exact hB3 | with_reducible refine Below.drew ?_ | with_reducible refine Below.setCell ?_ ?_ _ | with_reducible refine Below.alloc ?_ ?_ _ | (simp; done) | (simp; omega))⟩
        · have hp' : p = r := by rw [hp]; split <;> omega
          have HPX : Hid (c + i - r = c + (i - p)) := by show _ = _; omega
          have HPP := Lib.hid hp'
          clear hp hp'
          go_wp2_with fail
          refine (HM.out _ _).mono ?_
          rintro e w2 ⟨rfl, rfl⟩
          go_wp2_with fail
          refine (HM.out _ _).mono ?_
          rintro e w2 ⟨rfl, rfl⟩
          go_wp2_with fail
          refine (HM.out _ _).mono ?_
          rintro e w2 ⟨rfl, rfl⟩
          go_wp2_with fail
          refine (HR2.out _ HPX.out _).mono ?_
          rintro e w3 ⟨rfl, hb3⟩
          have hN3 := (Blk.new w2 23 [.int .i64 a, .int .i64 (b + f), .int .i64 (c + i - r)]).keeps hb3
          have hR3 := (hR.alloc _).keeps hb3
          have hB3 := below_on (hB.alloc (by omega) _) (by simp; omega) hb3
          have B0 := hN3.cell 0 _ rfl; have B1 := hN3.cell 1 _ rfl; have B2 := hN3.cell 2 _ rfl; have Bf := hN3.frozen; have Bn := hN3.lt
          have R0 := hR3.cell 0 _ rfl; have R1 := hR3.cell 1 _ rfl; have R2 := hR3.cell 2 _ rfl; have Rf := hR3.frozen; have Rn := hR3.lt
          clear hA hR hB hb3 A0 A1 A2 Af HM HR2
          go_wp2
          exact bodyPost_ret (v := .tuple #[dv ((a, b + f, c + i - r), r, 0).1, .int .i64 ((a, b + f, c + i - r), r, 0).2.1, .int .i64 ((a, b + f, c + i - r), r, 0).2.2]) (by simp [results, Try.results15, go_sem, dv, R0, R1, R2, Rn]) rfl ⟨by rw [HS.out, ← HPX.out, HPP.out], by repeat' (first | with_reducible exact hB3 | with_reducible refine Below.drew ?_ | with_reducible refine Below.setCell ?_ ?_ _ | with_reducible refine Below.alloc ?_ ?_ _ | (simp; done) | (simp; omega))⟩

set_option maxHeartbeats 400000 in
theorem total_any (a b c : Int) (h : okD a b c = true) (w : World) :
    Calls Try.prog 17 #[.agg #[.int .i64 a, .int .i64 b, .int .i64 c]] w fun e w' => e = .returned (.int .i64 (a + b + c)) ∧ Below w.heap.size w w' := by
  obtain ⟨⟨a0, a1⟩, ⟨b0, b1⟩, ⟨c0, c1⟩⟩ := okD_true h
  clear h
  go_enter Try.func17, Try.ntmps17
  go_wp2
  go_ret
  exact ⟨rfl, below_new1 _ _⟩
end Go.Proofs.Ytlbnednpagddaaa
