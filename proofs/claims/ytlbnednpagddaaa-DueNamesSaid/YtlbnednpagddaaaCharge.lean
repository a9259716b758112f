/-
  The walks of share.Strip and due.Charge, and of the reference's, at amounts.
-/
import Derived.Test.YtlbnednpagddaaaRefFloor
import Derived.Test.YtlbnednpagddaaaRefDue
set_option linter.unusedVariables false
set_option linter.unusedSimpArgs false
namespace Go.Proofs.Ytlbnednpagddaaa
open Go.RowKit

theorem part_in {t p : Int} (t0 : 0 ≤ t) (t1 : t ≤ 20000000000000) (p0 : 0 ≤ p) (p1 : p ≤ 10000) : 0 ≤ t * p ∧ t * p ≤ 200000000000000000 ∧ 0 ≤ t * p / 10000 ∧ t * p / 10000 ≤ t := by
  have h1 := Int.mul_nonneg t0 p0
  have h2 : t * p ≤ t * 10000 := Int.mul_le_mul_of_nonneg_left p1 t0
  omega
theorem floor_at (t p : Int) (t0 : 0 ≤ t) (t1 : t ≤ 20000000000000) (p0 : 0 ≤ p) (p1 : p ≤ 10000) (w : World) :
    Calls Try.prog 38 #[.int .i64 t, .int .i64 p, .int .i64 10000] w fun e w' => e = .returned (.tuple #[.int .i64 (t * p / 10000), .int .i64 0]) ∧ Below w.heap.size w w' := by
  obtain ⟨h0, h1, h2, h3⟩ := part_in t0 t1 p0 p1
  obtain ⟨a, rfl⟩ := Int.eq_ofNat_of_zero_le t0
  obtain ⟨b, rfl⟩ := Int.eq_ofNat_of_zero_le p0
  have hab : a * b < 18446744073709551616 := by
    have : ((a * b : Nat) : Int) ≤ 200000000000000000 := by rw [Int.natCast_mul]; exact h1
    omega
  have := floor_nn a b 10000 (by omega) (by omega) hab (by decide) (by decide) (by
    have : a * b / 10000 ≤ a * b := Nat.div_le_self _ _
    have : ((a * b : Nat) : Int) ≤ 200000000000000000 := by rw [Int.natCast_mul]; exact h1
    omega) w
  rw [show ((a * b / 10000 : Nat) : Int) = (a : Int) * b / 10000 from by rw [Int.natCast_ediv, Int.natCast_mul]; rfl] at this
  exact this
theorem rfloor_at (t p : Int) (t0 : 0 ≤ t) (t1 : t ≤ 20000000000000) (p0 : 0 ≤ p) (p1 : p ≤ 10000) (w : World) :
    Calls Try.prog 39 #[.int .i64 t, .int .i64 p, .int .i64 10000] w fun e w' => e = .returned (.tuple #[.int .i64 (t * p / 10000), .int .i64 0]) ∧ Below w.heap.size w w' := by
  obtain ⟨h0, h1, h2, h3⟩ := part_in t0 t1 p0 p1
  exact rfloor_nn t p 10000 t0 (by omega) p0 (by omega) (by decide) (by decide) (by omega) (by omega) w
/-- Can points be? -/
def okP (p : Int) : Bool := decide (0 ≤ p ∧ p ≤ 10000)
theorem okP_true {p : Int} (h : okP p = true) : 0 ≤ p ∧ p ≤ 10000 := of_decide_eq_true h
theorem okP_false {p : Int} (h : okP p = false) : p < 0 ∨ (0 ≤ p ∧ 10000 < p) := by have := of_decide_eq_false h; omega
theorem strip_ok (t p : Int) (t0 : 0 ≤ t) (t1 : t ≤ 20000000000000) (p0 : 0 ≤ p) (p1 : p ≤ 10000) (w : World) :
    Calls Try.prog 30 #[.int .i64 t, .int .i64 p] w fun e w' => e = .returned (.tuple #[.int .i64 (t * p / 10000), .int .i64 (t - t * p / 10000), .int .i64 0]) ∧ Below w.heap.size w w' := by
  have H := Lib.hid (floor_at t p t0 t1 p0 p1 w)
  obtain ⟨h0, h1, h2, h3⟩ := part_in t0 t1 p0 p1
  obtain ⟨q, hq⟩ : ∃ q, t * p / 10000 = q := ⟨_, rfl⟩
  rw [hq] at H h2 h3 ⊢
  clear hq h0 h1
  go_enter Try.func30, Try.ntmps30
  go_wp2_with fail
  refine H.out.mono ?_
  rintro e w1 ⟨rfl, hb⟩
  go_wp2
  exact bodyPost_ret (v := .tuple #[.int .i64 q, .int .i64 (t - q), .int .i64 0]) (by simp [results, Try.results30, go_sem]) rfl ⟨rfl, hb⟩
theorem strip_bad (t p : Int) (t0 : 0 ≤ t) (hp : p < 0 ∨ (0 ≤ p ∧ 10000 < p)) (w : World) :
    Calls Try.prog 30 #[.int .i64 t, .int .i64 p] w fun e w' => e = .returned (.tuple #[.int .i64 0, .int .i64 0, .int .i64 21]) ∧ Below w.heap.size w w' := by
  rcases hp with hp | ⟨hp, hp2⟩
  all_goals
    go_enter Try.func30, Try.ntmps30
    go_wp2
    exact bodyPost_ret (v := .tuple #[.int .i64 0, .int .i64 0, .int .i64 21]) (by simp [results, Try.results30, go_sem]) rfl ⟨rfl, Below.refl _ _⟩
theorem rstrip_ok (t p : Int) (t0 : 0 ≤ t) (t1 : t ≤ 20000000000000) (p0 : 0 ≤ p) (p1 : p ≤ 10000) (w : World) :
    Calls Try.prog 31 #[.int .i64 t, .int .i64 p] w fun e w' => e = .returned (.tuple #[.int .i64 (t * p / 10000), .int .i64 (t - t * p / 10000), .int .i64 0]) ∧ Below w.heap.size w w' := by
  have H := Lib.hid (rfloor_at t p t0 t1 p0 p1 w)
  obtain ⟨h0, h1, h2, h3⟩ := part_in t0 t1 p0 p1
  obtain ⟨q, hq⟩ : ∃ q, t * p / 10000 = q := ⟨_, rfl⟩
  rw [hq] at H h2 h3 ⊢
  clear hq h0 h1
  go_enter Try.func31, Try.ntmps31
  go_wp2_with fail
  refine H.out.mono ?_
  rintro e w1 ⟨rfl, hb⟩
  go_wp2
  exact bodyPost_ret (v := .tuple #[.int .i64 q, .int .i64 (t - q), .int .i64 0]) (by simp [results, Try.results31, go_sem]) rfl ⟨rfl, hb⟩
theorem rstrip_bad (t p : Int) (t0 : 0 ≤ t) (hp : p < 0 ∨ (0 ≤ p ∧ 10000 < p)) (w : World) :
    Calls Try.prog 31 #[.int .i64 t, .int .i64 p] w fun e w' => e = .returned (.tuple #[.int .i64 0, .int .i64 0, .int .i64 21]) ∧ Below w.heap.size w w' := by
  rcases hp with hp | ⟨hp, hp2⟩
  all_goals
    go_enter Try.func31, Try.ntmps31
    go_wp2
    exact bodyPost_ret (v := .tuple #[.int .i64 0, .int .i64 0, .int .i64 21]) (by simp [results, Try.results31, go_sem]) rfl ⟨rfl, Below.refl _ _⟩
/-- What a late charge is answered: the dues, the charge, the error's number. -/
def chargeS (a b c p : Int) : (Int × Int × Int) × Int × Int :=
  if okD a b c = true then
    if okP p = true then
      if okD (a + c * p / 10000) b c = true then ((a + c * p / 10000, b, c), c * p / 10000, 0) else ((0, 0, 0), 0, 171)
    else ((0, 0, 0), 0, 142)
  else ((0, 0, 0), 0, 171)
set_option maxRecDepth 8000 in
set_option maxHeartbeats 1600000 in
theorem charge_any (a b c p : Int) (s : (Int × Int × Int) × Int × Int) (hs : chargeS a b c p = s) (w : World) :
    Calls Try.prog 20 #[.agg #[.int .i64 a, .int .i64 b, .int .i64 c], .int .i64 p] w fun e w' => e = .returned (.tuple #[dv s.1, .int .i64 s.2.1, .int .i64 s.2.2]) ∧ Below w.heap.size w w' := by
  cases h1 : okD a b c with
  | false =>
    have HS : Hid (s = ((0, 0, 0), 0, 171)) := by show _ = _; rw [← hs]; unfold chargeS; rw [h1]; rfl
    have HR := Lib.hid (fun W => right_any a b c false h1 W)
    clear h1 hs
    go_enter Try.func20, Try.ntmps20
    go_wp2_with fail
    refine (HR.out _).mono ?_
    rintro e w1 ⟨rfl, hb⟩
    have hR := (Blk.new2 w _ _ [.int .i64 0, .int .i64 0, .int .i64 0]).keeps hb
    have hB := below_on (below_new2 w _ _) (by simp; omega) hb
    have R0 := hR.cell 0 _ rfl; have R1 := hR.cell 1 _ rfl; have R2 := hR.cell 2 _ rfl; have Rf := hR.frozen; have Rn := hR.lt
    clear hb hR HR
    go_wp2
    exact bodyPost_ret (v := .tuple #[dv ((0, 0, 0), 0, 171).1, .int .i64 ((0, 0, 0), 0, 171).2.1, .int .i64 ((0, 0, 0), 0, 171).2.2]) (by simp [results, Try.results20, go_sem, dv, R0, R1, R2]) rfl ⟨by rw [HS.out], by repeat (first | with_reducible exact hB | refine Below.setCell ?_ (by simp; try omega) _)⟩
  | true =>
    obtain ⟨⟨a0, a1⟩, ⟨b0, b1⟩, ⟨c0, c1⟩⟩ := okD_true h1
    have HR := Lib.hid (fun W => right_any a b c true h1 W)
    cases h2 : okP p with
    | false =>
      have HS : Hid (s = ((0, 0, 0), 0, 142)) := by show _ = _; rw [← hs]; unfold chargeS; rw [h1, h2]; rfl
      have HM := Lib.hid (fun W => strip_bad c p c0 (okP_false h2) W)
      clear h1 h2 hs
      go_enter Try.func20, Try.ntmps20
      go_wp2_with fail
      refine (HR.out _).mono ?_
      rintro e w1 ⟨rfl, hb⟩
      have hA := ((Blk.new w _ [.int .i64 a, .int .i64 b, .int .i64 c]).alloc _).keeps hb
      have A0 := hA.cell 0 _ rfl; have A1 := hA.cell 1 _ rfl; have A2 := hA.cell 2 _ rfl; have Af := hA.frozen; have An := hA.lt
      have hR0 := (Blk.new2 w _ _ [.int .i64 0, .int .i64 0, .int .i64 0]).keeps hb
      have hB0 := below_on (below_new2 w _ _) (by simp; omega) hb
      clear hb hA HR
      go_wp2_with fail
      refine (HM.out _).mono ?_
      rintro e w2 ⟨rfl, hb⟩
      have hR := hR0.keeps hb
      have hB := below_on hB0 hB0.size hb
      have R0 := hR.cell 0 _ rfl; have R1 := hR.cell 1 _ rfl; have R2 := hR.cell 2 _ rfl; have Rf := hR.frozen; have Rn := hR.lt
      clear hb hR hR0 hB0 HM A0 A1 A2 Af An
      go_wp2
      exact bodyPost_ret (v := .tuple #[dv ((0, 0, 0), 0, 142).1, .int .i64 ((0, 0, 0), 0, 142).2.1, .int .i64 ((0, 0, 0), 0, 142).2.2]) (by simp [results, Try.results20, go_sem, dv, R0, R1, R2]) rfl ⟨by rw [HS.out], by repeat (first | with_reducible exact hB | refine Below.setCell ?_ (by simp; try omega) _)⟩
    | true =>
      obtain ⟨p0, p1⟩ := okP_true h2
      have HM := Lib.hid (fun W => strip_ok c p c0 c1 p0 p1 W)
      obtain ⟨_, _, q0, q1⟩ := part_in c0 c1 p0 p1
      have hs' := hs
      unfold chargeS at hs'
      rw [h1, h2, if_pos rfl, if_pos rfl] at hs'
      obtain ⟨q, hq⟩ : ∃ q, c * p / 10000 = q := ⟨_, rfl⟩
      rw [hq] at HM q0 q1 hs'
      clear hq hs
      cases h3 : okD (a + q) b c with
      | false =>
        have HS : Hid (s = ((0, 0, 0), 0, 171)) := by show _ = _; rw [← hs', h3]; rfl
        have HR2 := Lib.hid (fun W => right_any (a + q) b c false h3 W)
        clear h1 h2 h3 hs'
        go_enter Try.func20, Try.ntmps20
        go_wp2_with fail
        refine (HR.out _).mono ?_
        rintro e w1 ⟨rfl, hb⟩
        have hA0 := ((Blk.new w _ [.int .i64 a, .int .i64 b, .int .i64 c]).alloc _).keeps hb
        have A0 := hA0.cell 0 _ rfl; have A1 := hA0.cell 1 _ rfl; have A2 := hA0.cell 2 _ rfl; have Af := hA0.frozen; have An := hA0.lt
        have hR0 := (Blk.new2 w _ _ [.int .i64 0, .int .i64 0, .int .i64 0]).keeps hb
        have hB0 := below_on (below_new2 w _ _) (by simp; omega) hb
        clear hb HR
        go_wp2_with fail
        refine (HM.out _).mono ?_
        rintro e w2 ⟨rfl, hb⟩
        have hA := hA0.keeps hb
        have A0 := hA.cell 0 _ rfl; have A1 := hA.cell 1 _ rfl; have A2 := hA.cell 2 _ rfl; have Af := hA.frozen; have An := hA.lt
        have hA2 := hA.set 0 (.int .i64 (a + q))
        have C0 := hA2.cell 0 _ rfl; have C1 := hA2.cell 1 _ rfl; have C2 := hA2.cell 2 _ rfl
        have hR2 := (hR0.keeps hb).other ⟨w.heap.size, 0, none⟩ (.int .i64 (a + q)) (by simp)
        have hB2 := (below_on hB0 hB0.size hb).setCell (p := ⟨w.heap.size, 0, none⟩) (Nat.le_refl _) (.int .i64 (a + q))
        clear hb hA0 hA hR0 hB0 HM
        go_wp2_with fail
        refine (HR2.out _).mono ?_
        rintro e w3 ⟨rfl, hb⟩
        have hR := hR2.keeps hb
        have hB := below_on hB2 hB2.size hb
        have R0 := hR.cell 0 _ rfl; have R1 := hR.cell 1 _ rfl; have R2 := hR.cell 2 _ rfl; have Rf := hR.frozen; have Rn := hR.lt
        clear hb hR hR2 hB2 HR2 hA2 A0 A1 A2 Af An C0 C1 C2
        go_wp2
        exact bodyPost_ret (v := .tuple #[dv ((0, 0, 0), 0, 171).1, .int .i64 ((0, 0, 0), 0, 171).2.1, .int .i64 ((0, 0, 0), 0, 171).2.2]) (by simp [results, Try.results20, go_sem, dv, R0, R1, R2]) rfl ⟨by rw [HS.out], by repeat (first | with_reducible exact hB | refine Below.setCell ?_ (by simp; try omega) _)⟩
      | true =>
        have HS : Hid (s = ((a + q, b, c), q, 0)) := by show _ = _; rw [← hs', h3]; rfl
        have HR2 := Lib.hid (fun W => right_any (a + q) b c true h3 W)
        clear h1 h2 h3 hs'
        go_enter Try.func20, Try.ntmps20
        go_wp2_with fail
        refine (HR.out _).mono ?_
        rintro e w1 ⟨rfl, hb⟩
        have hA0 := ((Blk.new w _ [.int .i64 a, .int .i64 b, .int .i64 c]).alloc _).keeps hb
        have A0 := hA0.cell 0 _ rfl; have A1 := hA0.cell 1 _ rfl; have A2 := hA0.cell 2 _ rfl; have Af := hA0.frozen; have An := hA0.lt
        have hR0 := (Blk.new2 w _ _ [.int .i64 0, .int .i64 0, .int .i64 0]).keeps hb
        have hB0 := below_on (below_new2 w _ _) (by simp; omega) hb
        clear hb HR
        go_wp2_with fail
        refine (HM.out _).mono ?_
        rintro e w2 ⟨rfl, hb⟩
        have hA := hA0.keeps hb
        have A0 := hA.cell 0 _ rfl; have A1 := hA.cell 1 _ rfl; have A2 := hA.cell 2 _ rfl; have Af := hA.frozen; have An := hA.lt
        have hA2 := hA.set 0 (.int .i64 (a + q))
        have C0 := hA2.cell 0 _ rfl; have C1 := hA2.cell 1 _ rfl; have C2 := hA2.cell 2 _ rfl
        have hR2 := (hR0.keeps hb).other ⟨w.heap.size, 0, none⟩ (.int .i64 (a + q)) (by simp)
        have hB2 := (below_on hB0 hB0.size hb).setCell (p := ⟨w.heap.size, 0, none⟩) (Nat.le_refl _) (.int .i64 (a + q))
        have hA2' := Lib.hid hA2
        clear hb hA0 hA hR0 hB0 HM hA2
        go_wp2_with fail
        refine (HR2.out _).mono ?_
        rintro e w3 ⟨rfl, hb⟩
        have hR := hR2.keeps hb
        have hD := hA2'.out.keeps hb
        have hB := below_on hB2 hB2.size hb
        have D0 := hD.cell 0 _ rfl; have D1 := hD.cell 1 _ rfl; have D2 := hD.cell 2 _ rfl
        have R0 := hR.cell 0 _ rfl; have R1 := hR.cell 1 _ rfl; have R2 := hR.cell 2 _ rfl; have Rf := hR.frozen; have Rn := hR.lt
        have hX := ((hR.set 0 (.int .i64 (a + q))).set 1 (.int .i64 b)).set 2 (.int .i64 c)
        have X0 := hX.cell 0 _ rfl; have X1 := hX.cell 1 _ rfl; have X2 := hX.cell 2 _ rfl
        clear hb hR hR2 hB2 HR2 hD hA2' A0 A1 A2 Af An C0 C1 C2 hX
        go_wp2
        exact bodyPost_ret (v := .tuple #[dv ((a + q, b, c), q, 0).1, .int .i64 ((a + q, b, c), q, 0).2.1, .int .i64 ((a + q, b, c), q, 0).2.2]) (by simp [results, Try.results20, go_sem, dv, X0, X1, X2]) rfl ⟨by rw [HS.out], by repeat (first | with_reducible exact hB | refine Below.setCell ?_ (by simp; try omega) _)⟩
end Go.Proofs.Ytlbnednpagddaaa
