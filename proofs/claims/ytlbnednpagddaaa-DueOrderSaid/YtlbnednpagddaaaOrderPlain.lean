/-
  The plain law of DueOrder: a payment in two parts is the same as at once.
-/
import Derived.Test.YtlbnednpagddaaaSplit
set_option linter.unusedVariables false
set_option linter.unusedSimpArgs false
namespace Go.Proofs.Ytlbnednpagddaaa

theorem lo_or (m d : Int) : lo m d = m ∨ lo m d = d := by unfold lo; split <;> simp
theorem lo_add {a b D : Int} (ha : 0 ≤ a) (hb : 0 ≤ b) (hD : 0 ≤ D) : lo a D + lo b (D - lo a D) = lo (a + b) D := by
  unfold lo
  by_cases h1 : D < a
  · rw [if_pos h1, if_pos (by omega : D < a + b)]
    by_cases h2 : D - D < b
    · rw [if_pos h2]; omega
    · rw [if_neg h2]; omega
  · rw [if_neg h1]
    by_cases h2 : D - a < b
    · rw [if_pos h2, if_pos (by omega)]; omega
    · rw [if_neg h2, if_neg (by omega)]
theorem splitS_ok {A B C m : Int} (h : okD A B C = true) (hm : okM m = true) :
    splitS A B C m = ((A - lo m A, B - lo (m - lo m A) B, C - lo (m - lo m A - lo (m - lo m A) B) C), (lo m A, lo (m - lo m A) B, lo (m - lo m A - lo (m - lo m A) B) C, m - lo m A - lo (m - lo m A) B - lo (m - lo m A - lo (m - lo m A) B) C), 0) := by
  unfold splitS; rw [h, hm]; rfl
theorem okD_mk {a b c : Int} (ha : 0 ≤ a ∧ a ≤ 20000000000000) (hb : 0 ≤ b ∧ b ≤ 20000000000000) (hc : 0 ≤ c ∧ c ≤ 20000000000000) : okD a b c = true := by
  unfold okD; rw [okM_mk ha.1 ha.2, okM_mk hb.1 hb.2, okM_mk hc.1 hc.2]; rfl
structure Ord (A B C a b l1 l2 l3 P1 P2 P3 P4 x1 x2 x3 q1 q2 q3 q4 r1 r2 r3 r4 : Int) : Prop where
  s1 : splitS A B C (a + b) = ((l1, l2, l3), (P1, P2, P3, P4), 0)
  s2 : splitS A B C a = ((x1, x2, x3), (q1, q2, q3, q4), 0)
  s3 : splitS x1 x2 x3 b = ((l1, l2, l3), (r1, r2, r3, r4), 0)
  okl : okD l1 l2 l3 = true
  all : P1 + P2 + P3 + P4 = a + b
  d1 : l1 + P1 = A
  d2 : l2 + P2 = B
  d3 : l3 + P3 = C
  e1 : q1 + r1 = P1
  e2 : q2 + r2 = P2
  e3 : q3 + r3 = P3
  e4 : q4 + r4 = P4
  bp : (0 ≤ P1 ∧ P1 ≤ 20000000000000) ∧ (0 ≤ P2 ∧ P2 ≤ 20000000000000) ∧ (0 ≤ P3 ∧ P3 ≤ 20000000000000) ∧ (0 ≤ P4 ∧ P4 ≤ 20000000000000)
  bl : (0 ≤ l1 ∧ l1 ≤ 20000000000000) ∧ (0 ≤ l2 ∧ l2 ≤ 20000000000000) ∧ (0 ≤ l3 ∧ l3 ≤ 20000000000000)
  bq : (0 ≤ q1 ∧ q1 ≤ 20000000000000) ∧ (0 ≤ q2 ∧ q2 ≤ 20000000000000) ∧ (0 ≤ q3 ∧ q3 ≤ 20000000000000) ∧ (0 ≤ q4 ∧ q4 ≤ 20000000000000)
  br : (0 ≤ r1 ∧ r1 ≤ 20000000000000) ∧ (0 ≤ r2 ∧ r2 ≤ 20000000000000) ∧ (0 ≤ r3 ∧ r3 ≤ 20000000000000) ∧ (0 ≤ r4 ∧ r4 ≤ 20000000000000)
  n1 : 0 < P2 → l1 = 0
  n2 : 0 < P3 → l2 = 0
  n3 : 0 < P4 → l1 = 0 ∧ l2 = 0 ∧ l3 = 0
theorem order_plain {A B C a b : Int} (h : okD A B C = true) (ha : 0 ≤ a ∧ a ≤ 10000000000000) (hb : 0 ≤ b ∧ b ≤ 10000000000000) :
    ∃ l1 l2 l3 P1 P2 P3 P4 x1 x2 x3 q1 q2 q3 q4 r1 r2 r3 r4, Ord A B C a b l1 l2 l3 P1 P2 P3 P4 x1 x2 x3 q1 q2 q3 q4 r1 r2 r3 r4 := by
  obtain ⟨hA, hB, hC⟩ := okD_true h
  have s1 := splitS_ok h (okM_mk (n := a + b) (by omega) (by omega))
  have s2 := splitS_ok h (okM_mk (n := a) (by omega) (by omega))
  have q10 := lo_nn (m := a) (d := A) ha.1 hA.1
  have q11 := @lo_le a A
  have q12 := @lo_ri a A
  have k1 := lo_add (a := a) (b := b) (D := A) ha.1 hb.1 hA.1
  generalize hq1 : lo a A = q1 at *
  have r10 := lo_nn (m := b) (d := A - q1) hb.1 (by omega)
  have r11 := @lo_le b (A - q1)
  have r12 := @lo_ri b (A - q1)
  have q20 := lo_nn (m := a - q1) (d := B) (by omega) hB.1
  have q21 := @lo_le (a - q1) B
  have q22 := @lo_ri (a - q1) B
  have k2 := lo_add (a := a - q1) (b := b - lo b (A - q1)) (D := B) (by omega) (by omega) hB.1
  generalize hq2 : lo (a - q1) B = q2 at *
  generalize hr1 : lo b (A - q1) = r1 at *
  have r20 := lo_nn (m := b - r1) (d := B - q2) (by omega) (by omega)
  have r21 := @lo_le (b - r1) (B - q2)
  have r22 := @lo_ri (b - r1) (B - q2)
  have q30 := lo_nn (m := a - q1 - q2) (d := C) (by omega) hC.1
  have q31 := @lo_le (a - q1 - q2) C
  have q32 := @lo_ri (a - q1 - q2) C
  have k3 := lo_add (a := a - q1 - q2) (b := b - r1 - lo (b - r1) (B - q2)) (D := C) (by omega) (by omega) hC.1
  generalize hq3 : lo (a - q1 - q2) C = q3 at *
  generalize hr2 : lo (b - r1) (B - q2) = r2 at *
  have r30 := lo_nn (m := b - r1 - r2) (d := C - q3) (by omega) (by omega)
  have r31 := @lo_le (b - r1 - r2) (C - q3)
  have r32 := @lo_ri (b - r1 - r2) (C - q3)
  generalize hr3 : lo (b - r1 - r2) (C - q3) = r3 at *
  have e1 : lo (a + b) A = q1 + r1 := k1.symm
  have e2 : lo (a + b - (q1 + r1)) B = q2 + r2 := by rw [show a + b - (q1 + r1) = a - q1 + (b - r1) from by omega]; exact k2.symm
  have e3 : lo (a + b - (q1 + r1) - (q2 + r2)) C = q3 + r3 := by rw [show a + b - (q1 + r1) - (q2 + r2) = a - q1 - q2 + (b - r1 - r2) from by omega]; exact k3.symm
  have t1 := lo_or (a + b) A
  have t2 := lo_or (a + b - (q1 + r1)) B
  have t3 := lo_or (a + b - (q1 + r1) - (q2 + r2)) C
  rw [e1] at t1 s1
  rw [e2] at t2 s1
  rw [e3] at t3 s1
  refine ⟨A - (q1 + r1), B - (q2 + r2), C - (q3 + r3), q1 + r1, q2 + r2, q3 + r3, a + b - (q1 + r1) - (q2 + r2) - (q3 + r3), A - q1, B - q2, C - q3, q1, q2, q3, a - q1 - q2 - q3, r1, r2, r3, b - r1 - r2 - r3, ?_⟩
  have hx : okD (A - q1) (B - q2) (C - q3) = true := okD_mk (by omega) (by omega) (by omega)
  have s3 := splitS_ok hx (okM_mk (n := b) (by omega) (by omega))
  rw [hr1, hr2, hr3] at s3
  refine ⟨s1, s2, ?_, okD_mk (by omega) (by omega) (by omega), ?_, ?_, ?_, ?_, rfl, rfl, rfl, ?_, ?_, ?_, ?_, ?_, ?_, ?_, ?_⟩
  · rw [s3, show A - q1 - r1 = A - (q1 + r1) from by omega, show B - q2 - r2 = B - (q2 + r2) from by omega, show C - q3 - r3 = C - (q3 + r3) from by omega]
  all_goals omega
end Go.Proofs.Ytlbnednpagddaaa
