/-
  The walk of due.Split: a payment's parts.
-/
import Derived.Test.YtlbnednpagddaaaDue
set_option linter.unusedVariables false
set_option linter.unusedSimpArgs false
namespace Go.Proofs.Ytlbnednpagddaaa
open Go.RowKit

/-- The smaller one. -/
def lo (m d : Int) : Int := if d < m then d else m
theorem lo_nn {m d : Int} (hm : 0 ≤ m) (hd : 0 ≤ d) : 0 ≤ lo m d := by unfold lo; split <;> omega
theorem lo_le {m d : Int} : lo m d ≤ m := by unfold lo; split <;> omega
theorem lo_ri {m d : Int} : lo m d ≤ d := by unfold lo; split <;> omega
/-- The parts so far: what is left of the payment, the dues, the parts. -/
structure PS where
  m : Int
  a : Int
  b : Int
  c : Int
  p : Int
  q : Int
  r : Int
def pst : Nat → Int → Int → Int → Int → PS
  | 0, m, a, b, c => ⟨m, a, b, c, 0, 0, 0⟩
  | 1, m, a, b, c => ⟨m - lo m a, a - lo m a, b, c, lo m a, 0, 0⟩
  | 2, m, a, b, c => ⟨m - lo m a - lo (m - lo m a) b, a - lo m a, b - lo (m - lo m a) b, c, lo m a, lo (m - lo m a) b, 0⟩
  | _, m, a, b, c => ⟨m - lo m a - lo (m - lo m a) b - lo (m - lo m a - lo (m - lo m a) b) c, a - lo m a, b - lo (m - lo m a) b, c - lo (m - lo m a - lo (m - lo m a) b) c, lo m a, lo (m - lo m a) b, lo (m - lo m a - lo (m - lo m a) b) c⟩
/-- What a payment is answered. -/
def splitS (a b c m : Int) : (Int × Int × Int) × (Int × Int × Int × Int) × Int :=
  if okD a b c = true then
    if okM m = true then (((pst 3 m a b c).a, (pst 3 m a b c).b, (pst 3 m a b c).c), ((pst 3 m a b c).p, (pst 3 m a b c).q, (pst 3 m a b c).r, (pst 3 m a b c).m), 0)
    else ((0, 0, 0), (0, 0, 0, 0), 142)
  else ((0, 0, 0), (0, 0, 0, 0), 171)
/-- Parts as a value. -/
def pv (d : Int × Int × Int × Int) : Value := .agg #[.int .i64 d.1, .int .i64 d.2.1, .int .i64 d.2.2.1, .int .i64 d.2.2.2]
structure PB (s : PS) : Prop where
  m0 : 0 ≤ s.m
  m1 : s.m ≤ 20000000000000
  a0 : 0 ≤ s.a
  a1 : s.a ≤ 20000000000000
  b0 : 0 ≤ s.b
  b1 : s.b ≤ 20000000000000
  c0 : 0 ≤ s.c
  c1 : s.c ≤ 20000000000000
theorem pst_pb {a b c m : Int} (h : okD a b c = true) (hm : okM m = true) (k : Nat) : PB (pst k m a b c) := by
  obtain ⟨⟨a0, a1⟩, ⟨b0, b1⟩, ⟨c0, c1⟩⟩ := okD_true h
  obtain ⟨m0, m1⟩ := okM_true hm
  have p0 := lo_nn m0 a0
  have p1 := @lo_le m a
  have p2 := @lo_ri m a
  have q0 := lo_nn (m := m - lo m a) (by omega) b0
  have q1 := @lo_le (m - lo m a) b
  have q2 := @lo_ri (m - lo m a) b
  have r0 := lo_nn (m := m - lo m a - lo (m - lo m a) b) (by omega) c0
  have r1 := @lo_le (m - lo m a - lo (m - lo m a) b) c
  have r2 := @lo_ri (m - lo m a - lo (m - lo m a) b) c
  match k with
  | 0 => exact ⟨m0, m1, a0, a1, b0, b1, c0, c1⟩
  | 1 => constructor <;> simp only [pst] <;> omega
  | 2 => constructor <;> simp only [pst] <;> omega
  | _ + 3 => constructor <;> simp only [pst] <;> omega
theorem pst_1 {m a b c : Int} {s : PS} (h : pst 0 m a b c = s) : pst 1 m a b c = ⟨s.m - lo s.m s.a, s.a - lo s.m s.a, s.b, s.c, lo s.m s.a, s.q, s.r⟩ := by subst h; rfl
theorem pst_2 {m a b c : Int} {s : PS} (h : pst 1 m a b c = s) : pst 2 m a b c = ⟨s.m - lo s.m s.b, s.a, s.b - lo s.m s.b, s.c, s.p, lo s.m s.b, s.r⟩ := by subst h; rfl
theorem pst_3 {m a b c : Int} {s : PS} (h : pst 2 m a b c = s) : pst 3 m a b c = ⟨s.m - lo s.m s.c, s.a, s.b, s.c - lo s.m s.c, s.p, s.q, lo s.m s.c⟩ := by subst h; rfl
theorem ix_0 (p0 p1 p2 p3 p4 p5 : Value) (w : World) : (Instr.index 52 (.agg #[p0, p1, p2, p3, p4, p5]) (.int .i64 0)).run Try.prog w = .ok (.agg #[p0, p1]) w := by kernel_rfl
theorem ix_1 (p0 p1 p2 p3 p4 p5 : Value) (w : World) : (Instr.index 52 (.agg #[p0, p1, p2, p3, p4, p5]) (.int .i64 1)).run Try.prog w = .ok (.agg #[p2, p3]) w := by kernel_rfl
theorem ix_2 (p0 p1 p2 p3 p4 p5 : Value) (w : World) : (Instr.index 52 (.agg #[p0, p1, p2, p3, p4, p5]) (.int .i64 2)).run Try.prog w = .ok (.agg #[p4, p5]) w := by kernel_rfl
attribute [local go_sem] ix_0 ix_1 ix_2
set_option maxRecDepth 8000 in
set_option maxHeartbeats 1600000 in
theorem split_any (a b c m : Int) (s : (Int × Int × Int) × (Int × Int × Int × Int) × Int) (hs : splitS a b c m = s) (w : World) :
    Calls Try.prog 11 #[.agg #[.int .i64 a, .int .i64 b, .int .i64 c], .int .i64 m] w fun e w' => e = .returned (.tuple #[dv s.1, pv s.2.1, .int .i64 s.2.2]) ∧ Below w.heap.size w w' := by
  cases h1 : okD a b c with
  | false =>
    have HS : Hid (s = ((0, 0, 0), (0, 0, 0, 0), 171)) := by show _ = _; rw [← hs]; unfold splitS; rw [h1]; rfl
    have HR := Lib.hid (fun W => right_any a b c false h1 W)
    clear h1 hs
    go_enter Try.func11, Try.ntmps11
    go_wp2_with fail
    refine (HR.out _).mono ?_
    rintro e w1 ⟨rfl, hb⟩
    have hR := ((Blk.new2 w _ _ [.int .i64 0, .int .i64 0, .int .i64 0]).alloc _).keeps hb
    have hP := (Blk.new3 w _ _ _ [.int .i64 0, .int .i64 0, .int .i64 0, .int .i64 0]).keeps hb
    have hB := below_on (below_new3 w _ _ _) (by simp; omega) hb
    have R0 := hR.cell 0 _ rfl; have R1 := hR.cell 1 _ rfl; have R2 := hR.cell 2 _ rfl; have Rf := hR.frozen; have Rn := hR.lt
    have P0 := hP.cell 0 _ rfl; have P1 := hP.cell 1 _ rfl; have P2 := hP.cell 2 _ rfl; have P3 := hP.cell 3 _ rfl; have Pf := hP.frozen; have Pn := hP.lt
    clear hb hR hP HR
    go_wp2
    exact bodyPost_ret (v := .tuple #[dv ((0, 0, 0), (0, 0, 0, 0), 171).1, pv ((0, 0, 0), (0, 0, 0, 0), 171).2.1, .int .i64 ((0, 0, 0), (0, 0, 0, 0), 171).2.2]) (by simp [results, Try.results11, go_sem, dv, pv, R0, R1, R2, Rn, P0, P1, P2, P3, Pn]) rfl ⟨by rw [HS.out], by repeat' (first | with_reducible exact hB | with_reducible refine Below.setCell ?_ ?_ _ | with_reducible refine Below.alloc ?_ ?_ _ | (simp; done) | (simp; omega))⟩
  | true =>
    have HR := Lib.hid (fun W => right_any a b c true h1 W)
    cases h2 : okM m with
    | false =>
      have HS : Hid (s = ((0, 0, 0), (0, 0, 0, 0), 142)) := by show _ = _; rw [← hs]; unfold splitS; rw [h1, h2]; rfl
      have HM := Lib.hid (fun w b T h => money_one w b T m false h2 h)
      clear h1 h2 hs
      go_enter Try.func11, Try.ntmps11
      go_wp2_with fail
      refine (HR.out _).mono ?_
      rintro e w1 ⟨rfl, hb⟩
      have hR := ((Blk.new2 w _ _ [.int .i64 0, .int .i64 0, .int .i64 0]).alloc _).keeps hb
      have hP := (Blk.new3 w _ _ _ [.int .i64 0, .int .i64 0, .int .i64 0, .int .i64 0]).keeps hb
      have hB := below_on (below_new3 w _ _ _) (by simp; omega) hb
      have R0 := hR.cell 0 _ rfl; have R1 := hR.cell 1 _ rfl; have R2 := hR.cell 2 _ rfl; have Rf := hR.frozen; have Rn := hR.lt
      have P0 := hP.cell 0 _ rfl; have P1 := hP.cell 1 _ rfl; have P2 := hP.cell 2 _ rfl; have P3 := hP.cell 3 _ rfl; have Pf := hP.frozen; have Pn := hP.lt
      clear hb hR hP HR
      go_wp2_with fail
      refine (HM.out _ _ _ (Blk.new w1 _ (di [m]))).mono ?_
      rintro e w2 ⟨rfl, rfl⟩
      go_wp2
      exact bodyPost_ret (v := .tuple #[dv ((0, 0, 0), (0, 0, 0, 0), 142).1, pv ((0, 0, 0), (0, 0, 0, 0), 142).2.1, .int .i64 ((0, 0, 0), (0, 0, 0, 0), 142).2.2]) (by simp [results, Try.results11, go_sem, dv, pv, R0, R1, R2, Rn, P0, P1, P2, P3, Pn]) rfl ⟨by rw [HS.out], by repeat' (first | with_reducible exact hB | with_reducible refine Below.setCell ?_ ?_ _ | with_reducible refine Below.alloc ?_ ?_ _ | (simp; done) | (simp; omega))⟩
    | true =>
      have HM := Lib.hid (fun w b T h => money_one w b T m true h2 h)
      have HPB := Lib.hid (fun k => pst_pb h1 h2 k)
      have HS : Hid (s = (((pst 3 m a b c).a, (pst 3 m a b c).b, (pst 3 m a b c).c), ((pst 3 m a b c).p, (pst 3 m a b c).q, (pst 3 m a b c).r, (pst 3 m a b c).m), 0)) := by show _ = _; rw [← hs]; unfold splitS; rw [h1, h2]; rfl
      clear h1 h2 hs
      go_enter Try.func11, Try.ntmps11
      go_wp2_with fail
      refine (HR.out _).mono ?_
      rintro e w1 ⟨rfl, hb⟩
      have hA := (((Blk.new w _ [.int .i64 a, .int .i64 b, .int .i64 c]).alloc _).alloc _).keeps hb
      have hR := ((Blk.new2 w _ _ [.int .i64 0, .int .i64 0, .int .i64 0]).alloc _).keeps hb
      have hP := (Blk.new3 w _ _ _ [.int .i64 0, .int .i64 0, .int .i64 0, .int .i64 0]).keeps hb
      have hB := below_on (below_new3 w _ _ _) (by simp; omega) hb
      have hn : w.heap.size + 1 + 1 < w1.heap.size := by have := hP.lt; omega
      clear hb HR
      go_wp2_with fail
      refine (HM.out _ _ _ (Blk.new w1 _ (di [m]))).mono ?_
      rintro e w2 ⟨rfl, rfl⟩
      go_wp2_with fail
      have hA2 := (hA.alloc (.cells (di [m]).toArray 2)).alloc (.cells #[.int .i64 0, .int .i64 0, .int .i64 0, .int .i64 0] 26)
      have hR2 := (hR.alloc (.cells (di [m]).toArray 2)).alloc (.cells #[.int .i64 0, .int .i64 0, .int .i64 0, .int .i64 0] 26)
      have hP2 := (hP.alloc (.cells (di [m]).toArray 2)).alloc (.cells #[.int .i64 0, .int .i64 0, .int .i64 0, .int .i64 0] 26)
      have hN2 := Blk.new2 w1 (.cells (di [m]).toArray 2) 26 (di [0, 0, 0, 0])
      have hB2 := (hB.alloc (by omega) (.cells (di [m]).toArray 2)).alloc (by simp; omega) (.cells #[.int .i64 0, .int .i64 0, .int .i64 0, .int .i64 0] 26)
      clear hA hR hP hB HM
      go_loopw [1, 33] (fun am i wr => ∃ (k : Nat) (s : PS), k ≤ 3 ∧ i = .int .i64 k ∧ am = .int .i64 s.m ∧ Hid (pst k m a b c = s) ∧ Blk wr w.heap.size 23 (di [s.a, s.b, s.c]) ∧ Blk wr (w1.heap.size + 1) 26 (di [s.p, s.q, s.r, 0]) ∧ Blk wr (w.heap.size + 1) 23 (di [0, 0, 0]) ∧ Blk wr (w.heap.size + 1 + 1) 26 (di [0, 0, 0, 0]) ∧ Below w.heap.size w wr) (fun _ i _ => 3 - (intOf i).toNat)
      case atStart => exact ⟨0, pst 0 m a b c, by omega, rfl, rfl, rfl, hA2, hN2, hR2, hP2, hB2⟩
      case round =>
        obtain ⟨k, s', hk, rfl, rfl, HK, gA, gN, gR, gP, gB⟩ := hrel
        have HPk : PB s' := by rw [← HK.out]; exact HPB.out k
        obtain ⟨m', a', b', c', p', q', r'⟩ := s'
        obtain ⟨m0, m1, a0, a1, b0, b1, c0, c1⟩ := HPk
        simp only at m0 m1 a0 a1 b0 b1 c0 c1 gA gN gR gP
        have A0 := gA.cell 0 _ rfl; have A1 := gA.cell 1 _ rfl; have A2 := gA.cell 2 _ rfl; have Af := gA.frozen; have An := gA.lt
        have N0 := gN.cell 0 _ rfl; have N1 := gN.cell 1 _ rfl; have N2 := gN.cell 2 _ rfl; have N3 := gN.cell 3 _ rfl; have Nf := gN.frozen; have Nn := gN.lt
        rcases (by omega : k = 0 ∨ k = 1 ∨ k = 2 ∨ k = 3) with rfl | rfl | rfl | rfl
        · obtain ⟨x, hx⟩ : ∃ x, (if a' < m' then a' else m') = x := ⟨_, rfl⟩
          have x0 : 0 ≤ x := by rw [← hx]; split <;> omega
          have x1 : x ≤ m' := by rw [← hx]; split <;> omega
          have x2 : x ≤ a' := by rw [← hx]; split <;> omega
          have HX : Hid (lo m' a' = x) := hx
          have hs1 := pst_1 HK.out
          have HS1 : Hid (pst 1 m a b c = ⟨m' - x, a' - x, b', c', x, q', r'⟩) := by show _ = _; rw [hs1]; simp only; rw [HX.out]
          clear hs1 HK
          go_wp2
          go_region
          go_wp2
          go_region
          go_wp2
          have g1 := ((gA.other ⟨w1.heap.size + 1, 0, none⟩ (.int .i64 x) (by simp; omega)).set 0 (.int .i64 (a' - x)))
          have g2 := ((gN.set 0 (.int .i64 x)).other ⟨w.heap.size, 0, none⟩ (.int .i64 (a' - x)) (by simp; omega))
          have g3 := ((gR.other ⟨w1.heap.size + 1, 0, none⟩ (.int .i64 x) (by simp; omega)).other ⟨w.heap.size, 0, none⟩ (.int .i64 (a' - x)) (by simp))
          have g4 := ((gP.other ⟨w1.heap.size + 1, 0, none⟩ (.int .i64 x) (by simp; omega)).other ⟨w.heap.size, 0, none⟩ (.int .i64 (a' - x)) (by simp; omega))
          have g5 := ((gB.setCell (p := ⟨w1.heap.size + 1, 0, none⟩) (by simp; omega) (.int .i64 x)).setCell (p := ⟨w.heap.size, 0, none⟩) (Nat.le_refl _) (.int .i64 (a' - x)))
          exact ⟨⟨1, ⟨m' - x, a' - x, b', c', x, q', r'⟩, by omega, by go_num, rfl, HS1, (g1.alloc _).drew.drew, (g2.alloc _).drew.drew, (g3.alloc _).drew.drew, (g4.alloc _).drew.drew, (g5.alloc (by simp; omega) _).drew.drew⟩, by simp [intOf]⟩
        · obtain ⟨x, hx⟩ : ∃ x, (if b' < m' then b' else m') = x := ⟨_, rfl⟩
          have x0 : 0 ≤ x := by rw [← hx]; split <;> omega
          have x1 : x ≤ m' := by rw [← hx]; split <;> omega
          have x2 : x ≤ b' := by rw [← hx]; split <;> omega
          have HX : Hid (lo m' b' = x) := hx
          have hs1 := pst_2 HK.out
          have HS1 : Hid (pst 2 m a b c = ⟨m' - x, a', b' - x, c', p', x, r'⟩) := by show _ = _; rw [hs1]; simp only; rw [HX.out]
          clear hs1 HK
          go_wp2
          go_region
          go_wp2
          go_region
          go_wp2
          have g1 := ((gA.other ⟨w1.heap.size + 1, 1, none⟩ (.int .i64 x) (by simp; omega)).set 1 (.int .i64 (b' - x)))
          have g2 := ((gN.set 1 (.int .i64 x)).other ⟨w.heap.size, 1, none⟩ (.int .i64 (b' - x)) (by simp; omega))
          have g3 := ((gR.other ⟨w1.heap.size + 1, 1, none⟩ (.int .i64 x) (by simp; omega)).other ⟨w.heap.size, 1, none⟩ (.int .i64 (b' - x)) (by simp))
          have g4 := ((gP.other ⟨w1.heap.size + 1, 1, none⟩ (.int .i64 x) (by simp; omega)).other ⟨w.heap.size, 1, none⟩ (.int .i64 (b' - x)) (by simp; omega))
          have g5 := ((gB.setCell (p := ⟨w1.heap.size + 1, 1, none⟩) (by simp; omega) (.int .i64 x)).setCell (p := ⟨w.heap.size, 1, none⟩) (Nat.le_refl _) (.int .i64 (b' - x)))
          exact ⟨⟨2, ⟨m' - x, a', b' - x, c', p', x, r'⟩, by omega, by go_num, rfl, HS1, (g1.alloc _).drew.drew, (g2.alloc _).drew.drew, (g3.alloc _).drew.drew, (g4.alloc _).drew.drew, (g5.alloc (by simp; omega) _).drew.drew⟩, by simp [intOf]⟩
        · obtain ⟨x, hx⟩ : ∃ x, (if c' < m' then c' else m') = x := ⟨_, rfl⟩
          have x0 : 0 ≤ x := by rw [← hx]; split <;> omega
          have x1 : x ≤ m' := by rw [← hx]; split <;> omega
          have x2 : x ≤ c' := by rw [← hx]; split <;> omega
          have HX : Hid (lo m' c' = x) := hx
          have hs1 := pst_3 HK.out
          have HS1 : Hid (pst 3 m a b c = ⟨m' - x, a', b', c' - x, p', q', x⟩) := by show _ = _; rw [hs1]; simp only; rw [HX.out]
          clear hs1 HK
          go_wp2
          go_region
          go_wp2
          go_region
          go_wp2
          have g1 := ((gA.other ⟨w1.heap.size + 1, 2, none⟩ (.int .i64 x) (by simp; omega)).set 2 (.int .i64 (c' - x)))
          have g2 := ((gN.set 2 (.int .i64 x)).other ⟨w.heap.size, 2, none⟩ (.int .i64 (c' - x)) (by simp; omega))
          have g3 := ((gR.other ⟨w1.heap.size + 1, 2, none⟩ (.int .i64 x) (by simp; omega)).other ⟨w.heap.size, 2, none⟩ (.int .i64 (c' - x)) (by simp))
          have g4 := ((gP.other ⟨w1.heap.size + 1, 2, none⟩ (.int .i64 x) (by simp; omega)).other ⟨w.heap.size, 2, none⟩ (.int .i64 (c' - x)) (by simp; omega))
          have g5 := ((gB.setCell (p := ⟨w1.heap.size + 1, 2, none⟩) (by simp; omega) (.int .i64 x)).setCell (p := ⟨w.heap.size, 2, none⟩) (Nat.le_refl _) (.int .i64 (c' - x)))
          exact ⟨⟨3, ⟨m' - x, a', b', c' - x, p', q', x⟩, by omega, by go_num, rfl, HS1, (g1.alloc _).drew.drew, (g2.alloc _).drew.drew, (g3.alloc _).drew.drew, (g4.alloc _).drew.drew, (g5.alloc (by simp; omega) _).drew.drew⟩, by simp [intOf]⟩
        · have hs3 : s = ((a', b', c'), (p', q', r', m'), 0) := by rw [HS.out, HK.out]
          have HS3 := Lib.hid hs3
          have R0 := gR.cell 0 _ rfl; have R1 := gR.cell 1 _ rfl; have R2 := gR.cell 2 _ rfl; have Rf := gR.frozen; have Rn := gR.lt
          have P0 := gP.cell 0 _ rfl; have P1 := gP.cell 1 _ rfl; have P2 := gP.cell 2 _ rfl; have P3 := gP.cell 3 _ rfl; have Pf := gP.frozen; have Pn := gP.lt
          clear hs3 HK HS
          go_wp2
          go_region
          go_wp2
          exact bodyPost_ret (v := .tuple #[dv ((a', b', c'), (p', q', r', m'), 0).1, pv ((a', b', c'), (p', q', r', m'), 0).2.1, .int .i64 ((a', b', c'), (p', q', r', m'), 0).2.2]) (by simp [results, Try.results11, go_sem, dv, pv, R0, R1, R2, Rn, P0, P1, P2, P3, Pn]) rfl ⟨by rw [HS3.out], by repeat' (first | with_reducible exact gB | with_reducible refine Below.drew ?_ | with_reducible refine Below.setCell ?_ ?_ _ | with_reducible refine Below.alloc ?_ ?_ _ | (simp; done) | (simp; omega))⟩
end Go.Proofs.Ytlbnednpagddaaa
