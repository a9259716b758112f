/-
  The walk of the law DueOrder, where no principal is paid.
-/
import Derived.Test.YtlbnednpagddaaaAlive
import Derived.Test.YtlbnednpagddaaaOrderPlain
set_option linter.unusedVariables false
set_option linter.unusedSimpArgs false
namespace Go.Proofs.Ytlbnednpagddaaa
open Go.RowKit

set_option maxRecDepth 8000 in
set_option maxHeartbeats 16000000 in
theorem order_a (A B C a b : Int) (ha : 0 ≤ a ∧ a ≤ 10000000000000) (hb : 0 ≤ b ∧ b ≤ 10000000000000) {l1 l2 l3 P1 P2 P3 P4 x1 x2 x3 q1 q2 q3 q4 r1 r2 r3 r4 : Int} (h : Ord A B C a b l1 l2 l3 P1 P2 P3 P4 x1 x2 x3 q1 q2 q3 q4 r1 r2 r3 r4) (k4 : ¬ 0 < P4) (w : World) :
    Calls Try.prog 4 #[.agg #[.int .i64 A, .int .i64 B, .int .i64 C], .int .i64 a, .int .i64 b] w fun e w' => e = .returned (.bool true) ∧ Below w.heap.size w w' := by
  have H1 := Lib.hid (fun W => split_any A B C (a + b) _ h.s1 W)
  have H2 := Lib.hid (fun W => split_any A B C a _ h.s2 W)
  have H3 := Lib.hid (fun W => split_any x1 x2 x3 b _ h.s3 W)
  have HR := Lib.hid (fun W => right_any l1 l2 l3 true h.okl W)
  obtain ⟨a0, a1⟩ := ha
  obtain ⟨b0, b1⟩ := hb
  obtain ⟨_, _, _, _, hall, d1, d2, d3, e1, e2, e3, e4, ⟨⟨P10, P11⟩, ⟨P20, P21⟩, ⟨P30, P31⟩, ⟨P40, P41⟩⟩, ⟨⟨l10, l11⟩, ⟨l20, l21⟩, ⟨l30, l31⟩⟩, ⟨⟨q10, q11⟩, ⟨q20, q21⟩, ⟨q30, q31⟩, ⟨q40, q41⟩⟩, ⟨⟨r10, r11⟩, ⟨r20, r21⟩, ⟨r30, r31⟩, ⟨r40, r41⟩⟩, n1, n2, n3⟩ := h
  simp only [dv, pv] at H1 H2 H3
  have HN1 := Lib.hid n1
  have HN2 := Lib.hid n2
  have HN3 := Lib.hid n3
  have HE4 := Lib.hid e4
  clear n1 n2 n3 e4
  have key2 : (¬ 0 < P2) ∨ (0 < P2 ∧ ¬ 0 < l1) := by
    by_cases h2 : 0 < P2
    · exact .inr ⟨h2, by have := HN1.out h2; omega⟩
    · exact .inl h2
  have key3 : (¬ 0 < P3) ∨ (0 < P3 ∧ ¬ 0 < l2) := by
    by_cases h3 : 0 < P3
    · exact .inr ⟨h3, by have := HN2.out h3; omega⟩
    · exact .inl h3
  clear HN1 HN2 HN3
  go_enter Try.func4, Try.ntmps4
  go_wp2_with fail
  refine (alive_any _).mono ?_
  rintro e w1 ⟨rfl, hb⟩
  have hD := (Blk.new w 23 [.int .i64 A, .int .i64 B, .int .i64 C]).keeps hb
  have hB := below_on (below_new1 w _) (by simp) hb
  have D0 := hD.cell 0 _ rfl; have D1 := hD.cell 1 _ rfl; have D2 := hD.cell 2 _ rfl; have Df := hD.frozen; have Dn := hD.lt
  clear hb
  go_wp2_with fail
  refine (H1.out _).mono ?_
  rintro e w2 ⟨rfl, hb⟩
  have hD2 := hD.keeps hb
  have hB2 := below_on hB hB.size hb
  clear D0 D1 D2 Df Dn hb hD hB
  have D0 := hD2.cell 0 _ rfl; have D1 := hD2.cell 1 _ rfl; have D2 := hD2.cell 2 _ rfl; have Df := hD2.frozen; have Dn := hD2.lt
  have hL := (Blk.new w2 23 [.int .i64 l1, .int .i64 l2, .int .i64 l3]).alloc (.cells #[.int .i64 P1, .int .i64 P2, .int .i64 P3, .int .i64 P4] 26)
  have hP := Blk.new2 w2 (.cells #[.int .i64 l1, .int .i64 l2, .int .i64 l3] 23) 26 [.int .i64 P1, .int .i64 P2, .int .i64 P3, .int .i64 P4]
  have hD3 := (hD2.alloc (.cells #[.int .i64 l1, .int .i64 l2, .int .i64 l3] 23)).alloc (.cells #[.int .i64 P1, .int .i64 P2, .int .i64 P3, .int .i64 P4] 26)
  have hB3 := (hB2.alloc hB2.size (.cells #[.int .i64 l1, .int .i64 l2, .int .i64 l3] 23)).alloc (by simp; omega) (.cells #[.int .i64 P1, .int .i64 P2, .int .i64 P3, .int .i64 P4] 26)
  rcases key2 with k2 | ⟨k2, k2'⟩ <;> rcases key3 with k3 | ⟨k3, k3'⟩
  all_goals
      go_wp2_with fail
      refine (HR.out _).mono ?_
      rintro e w3 ⟨rfl, hb⟩
      have gL := hL.keeps hb
      have gP := hP.keeps hb
      have gD := hD3.keeps hb
      have gB := below_on hB3 hB3.size hb
      clear hL hP hD3 hB3 hb D0 D1 D2 Df Dn HR
      have L0 := gL.cell 0 _ rfl; have L1 := gL.cell 1 _ rfl; have L2 := gL.cell 2 _ rfl; have Lf := gL.frozen; have Ln := gL.lt
      have p0 := gP.cell 0 _ rfl; have p1 := gP.cell 1 _ rfl; have p2 := gP.cell 2 _ rfl; have p3 := gP.cell 3 _ rfl; have Pf := gP.frozen; have Pn := gP.lt
      have D0 := gD.cell 0 _ rfl; have D1 := gD.cell 1 _ rfl; have D2 := gD.cell 2 _ rfl; have Df := gD.frozen; have Dn := gD.lt
      go_wp2_with fail
      refine (H2.out _).mono ?_
      rintro e w4 ⟨rfl, hb⟩
      clear L0 L1 L2 Lf Ln p0 p1 p2 p3 Pf Pn D0 D1 D2 Df Dn
      have hL := gL.keeps hb
      have hP := gP.keeps hb
      have hB := below_on gB gB.size hb
      clear gL gP gD gB hb H2
      have hL4 := (hL.alloc (.cells #[.int .i64 x1, .int .i64 x2, .int .i64 x3] 23)).alloc (.cells #[.int .i64 q1, .int .i64 q2, .int .i64 q3, .int .i64 q4] 26)
      have hP4 := (hP.alloc (.cells #[.int .i64 x1, .int .i64 x2, .int .i64 x3] 23)).alloc (.cells #[.int .i64 q1, .int .i64 q2, .int .i64 q3, .int .i64 q4] 26)
      have hQ4 := Blk.new2 w4 (.cells #[.int .i64 x1, .int .i64 x2, .int .i64 x3] 23) 26 [.int .i64 q1, .int .i64 q2, .int .i64 q3, .int .i64 q4]
      have hB4 := (hB.alloc hB.size (.cells #[.int .i64 x1, .int .i64 x2, .int .i64 x3] 23)).alloc (by simp; have := hB.size; omega) (.cells #[.int .i64 q1, .int .i64 q2, .int .i64 q3, .int .i64 q4] 26)
      have hs4 := hB.size
      clear hL hP hB
      go_wp2_with fail
      refine (H3.out _).mono ?_
      rintro e w5 ⟨rfl, hb⟩
      have gL := hL4.keeps hb
      have gP := hP4.keeps hb
      have gQ := hQ4.keeps hb
      have gB := below_on hB4 hB4.size hb
      clear hL4 hP4 hQ4 hB4 hb H3
      have L0 := gL.cell 0 _ rfl; have L1 := gL.cell 1 _ rfl; have L2 := gL.cell 2 _ rfl; have Lf := gL.frozen; have Ln := gL.lt
      have p0 := gP.cell 0 _ rfl; have p1 := gP.cell 1 _ rfl; have p2 := gP.cell 2 _ rfl; have p3 := gP.cell 3 _ rfl; have Pf := gP.frozen; have Pn := gP.lt
      have Q0 := gQ.cell 0 _ rfl; have Q1 := gQ.cell 1 _ rfl; have Q2 := gQ.cell 2 _ rfl; have Q3 := gQ.cell 3 _ rfl; have Qf := gQ.frozen; have Qn := gQ.lt; have Qm : w4.heap.size < w5.heap.size := by omega
      have hs5 := gB.size
      clear gL gP gQ
      by_cases hq : 0 < q4
      · go_wp2
        go_ret
        exact ⟨rfl, (gB.alloc (by omega) _).alloc (by simp; omega) _⟩
      · have e5 : r4 = P4 := by have := HE4.out; omega
        go_wp2
        go_ret
        exact ⟨rfl, (gB.alloc (by omega) _).alloc (by simp; omega) _⟩
end Go.Proofs.Ytlbnednpagddaaa
