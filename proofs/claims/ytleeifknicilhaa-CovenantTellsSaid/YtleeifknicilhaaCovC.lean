/-
  Covenants: the walks of Most, and of the reference.
-/
import Derived.Test.YtleeifknicilhaaCovB
set_option linter.unusedVariables false
set_option linter.unusedSimpArgs false
namespace Go.Proofs.Ytleeifknicilhaa
open Go.RowKit Dg

set_option maxRecDepth 8000 in
theorem most_any (o c v i s l t d : Int) (w : World) :
    Calls Try.prog 9 #[.agg #[.int .i64 o, .int .i64 c, .int .i64 v, .int .i64 i, .int .i64 s], .agg #[.int .i64 l, .int .i64 t, .int .i64 d]] w fun e w' => e = .returned (.tuple #[.int .i64 (moS o c v i s l t d).1, .int .i64 (moS o c v i s l t d).2]) ∧ Below w.heap.size w w' := by
  unfold moS
  cases hR : rightF o c v i s l t d with
  | true =>
    rw [if_pos rfl]
    have HRR := Lib.hid (fun W => cright_any o c v i s l t d true hR W)
    obtain ⟨⟨r1, r2, r3, r4, r5⟩, ⟨r6, r7⟩, r8⟩ := (rightF_iff o c v i s l t d).1 hR
    have hp : ∀ a b : Int, 0 ≤ a → a ≤ 20000000000000 → 0 ≤ b → b ≤ 10000 → 0 ≤ a * b ∧ a * b ≤ 200000000000000000 := fun a b a0 a1 b0 b1 => by
      have h1 := Int.mul_nonneg a0 b0
      have h2 : a * b ≤ a * 10000 := Int.mul_le_mul_of_nonneg_left b1 a0
      omega
    obtain ⟨p0, p1⟩ := hp c l r2.1 r2.2 r6.1 r6.2
    obtain ⟨q0, q1⟩ := hp v t r3.1 r3.2 r7.1 r7.2
    have hF1 := fun W => wfloor_any c l 10000 (by omega) (by omega) (by omega) (by omega) (by decide) (by decide) (by rw [show (c * l).natAbs / 18446744073709551616 % 10000 = 0 from by omega]; exact div64_0 _ _ (by omega) (by decide) (by decide)) W
    have hF2 := fun W => wfloor_any v t 10000 (by omega) (by omega) (by omega) (by omega) (by decide) (by decide) (by rw [show (v * t).natAbs / 18446744073709551616 % 10000 = 0 from by omega]; exact div64_0 _ _ (by omega) (by decide) (by decide)) W
    rw [show ((10000 : Nat) : Int) = 10000 from rfl, cutI_in (by omega) (by omega)] at hF1 hF2
    obtain ⟨x, hx⟩ : ∃ x, c * l / 10000 = x := ⟨_, rfl⟩
    obtain ⟨y, hy⟩ : ∃ x, v * t / 10000 = x := ⟨_, rfl⟩
    rw [hx] at hF1; rw [hy] at hF2; rw [hx, hy]
    have K1 := Lib.hid hF1; have K2 := Lib.hid hF2
    clear hR hp p0 p1 q0 q1 hF1 hF2 hx hy r1 r2 r3 r4 r5 r6 r7 r8
    have HB := Lib.hid (below_new2 w (.cells #[.int .i64 o, .int .i64 c, .int .i64 v, .int .i64 i, .int .i64 s] 26) (.cells #[.int .i64 l, .int .i64 t, .int .i64 d] 28))
    have HA := Lib.hid ((Blk.new w 26 [.int .i64 o, .int .i64 c, .int .i64 v, .int .i64 i, .int .i64 s]).alloc (.cells #[.int .i64 l, .int .i64 t, .int .i64 d] 28))
    have HC := Lib.hid (Blk.new2 w (.cells #[.int .i64 o, .int .i64 c, .int .i64 v, .int .i64 i, .int .i64 s] 26) 28 [.int .i64 l, .int .i64 t, .int .i64 d])
    go_enter Try.func9, Try.ntmps9
    have hA := HA.out
    have hC := HC.out
    have a0 := hA.cell 0 _ rfl; have a1 := hA.cell 1 _ rfl; have a2 := hA.cell 2 _ rfl; have a3 := hA.cell 3 _ rfl; have a4 := hA.cell 4 _ rfl
    have c0 := hC.cell 0 _ rfl; have c1 := hC.cell 1 _ rfl; have c2 := hC.cell 2 _ rfl
    go_wp2_with fail
    refine (HRR.out _).mono ?_
    rintro e w1 ⟨rfl, hb1⟩
    have HB3 := Lib.hid (below_on HB.out HB.out.size hb1)
    have HA2 := Lib.hid (HA.out.keeps hb1); have HC2 := Lib.hid (HC.out.keeps hb1)
    clear a0 a1 a2 a3 a4 c0 c1 c2 hA hC hb1
    have hA := HA2.out
    have hC := HC2.out
    have a0 := hA.cell 0 _ rfl; have a1 := hA.cell 1 _ rfl; have a2 := hA.cell 2 _ rfl; have a3 := hA.cell 3 _ rfl; have a4 := hA.cell 4 _ rfl
    have c0 := hC.cell 0 _ rfl; have c1 := hC.cell 1 _ rfl; have c2 := hC.cell 2 _ rfl
    go_wp2_with fail
    refine (K1.out _).mono ?_
    rintro e w2 ⟨rfl, hb2⟩
    have HB4 := Lib.hid (below_on HB3.out HB3.out.size hb2)
    have HA3 := Lib.hid (HA2.out.keeps hb2); have HC3 := Lib.hid (HC2.out.keeps hb2)
    clear a0 a1 a2 a3 a4 c0 c1 c2 hA hC hb2
    have hA := HA3.out
    have hC := HC3.out
    have a0 := hA.cell 0 _ rfl; have a1 := hA.cell 1 _ rfl; have a2 := hA.cell 2 _ rfl; have a3 := hA.cell 3 _ rfl; have a4 := hA.cell 4 _ rfl
    have c0 := hC.cell 0 _ rfl; have c1 := hC.cell 1 _ rfl; have c2 := hC.cell 2 _ rfl
    go_wp2_with fail
    refine (K2.out _).mono ?_
    rintro e w3 ⟨rfl, hb3⟩
    have HB5 := Lib.hid (below_on HB4.out HB4.out.size hb3)
    clear hb3
    go_wp2
    all_goals
      go_ret2
      exact ⟨ret_two (by omega) rfl, HB5.out⟩
  | false =>
    rw [if_neg (by decide)]
    have HRR := Lib.hid (fun W => cright_any o c v i s l t d false hR W)
    clear hR
    have HB := Lib.hid (below_new2 w (.cells #[.int .i64 o, .int .i64 c, .int .i64 v, .int .i64 i, .int .i64 s] 26) (.cells #[.int .i64 l, .int .i64 t, .int .i64 d] 28))
    have HA := Lib.hid ((Blk.new w 26 [.int .i64 o, .int .i64 c, .int .i64 v, .int .i64 i, .int .i64 s]).alloc (.cells #[.int .i64 l, .int .i64 t, .int .i64 d] 28))
    have HC := Lib.hid (Blk.new2 w (.cells #[.int .i64 o, .int .i64 c, .int .i64 v, .int .i64 i, .int .i64 s] 26) 28 [.int .i64 l, .int .i64 t, .int .i64 d])
    go_enter Try.func9, Try.ntmps9
    have hA := HA.out
    have hC := HC.out
    have a0 := hA.cell 0 _ rfl; have a1 := hA.cell 1 _ rfl; have a2 := hA.cell 2 _ rfl; have a3 := hA.cell 3 _ rfl; have a4 := hA.cell 4 _ rfl
    have c0 := hC.cell 0 _ rfl; have c1 := hC.cell 1 _ rfl; have c2 := hC.cell 2 _ rfl
    go_wp2_with fail
    refine (HRR.out _).mono ?_
    rintro e w1 ⟨rfl, hb1⟩
    have HB3 := Lib.hid (below_on HB.out HB.out.size hb1)
    go_wp2
    go_ret2
    exact ⟨rfl, HB3.out⟩
end Go.Proofs.Ytleeifknicilhaa
