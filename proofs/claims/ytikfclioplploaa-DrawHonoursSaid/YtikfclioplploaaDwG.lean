/-
  Draws: the chapter's example; the law DrawNames.
-/
import Derived.Test.YtikfclioplploaaDwD
import Derived.Test.YtikfclioplploaaDwE
set_option linter.unusedVariables false
set_option linter.unusedSimpArgs false
namespace Go.Proofs.Ytikfclioplploaa
open Go.RowKit Dg

theorem dw_at0 {w : World} {ao : Option Addr} {cap : Nat} {t : Dw} {L : List Dw} (h : SlW w ao cap (t :: L)) : ∃ b off, ao = some ⟨b, off, none⟩ ∧ b < w.heap.size ∧ w.cell? ⟨b, off, none⟩ = some (.int .i64 t.1) ∧ w.cell? ⟨b, off + 1, none⟩ = some (.int .i64 t.2.1) ∧ w.cell? ⟨b, off + 2, none⟩ = some (.int .i64 t.2.2) := by
  obtain ⟨b, off, e, hc⟩ := h.cells (by
    intro e
    have := rc_len dwc_len (t :: L)
    rw [e] at this; simp at this)
  obtain ⟨h0, h1, h2⟩ := dw_cells hc (show (t :: L)[0]? = some t from rfl)
  simp only [Nat.zero_mul, Nat.add_zero] at h0 h1 h2
  exact ⟨b, off, e, World.block_lt_of_cell? w _ h0, h0, h1, h2⟩
theorem ln_at0b {w : World} {ao : Option Addr} {cap : Nat} {t : Ln} {L : List Ln} (h : SlL w ao cap (t :: L)) : ∃ b off, ao = some ⟨b, off, none⟩ ∧ b < w.heap.size ∧ w.cell? ⟨b, off, none⟩ = some (.int .i64 t.1) ∧ w.cell? ⟨b, off + 1, none⟩ = some (.int .i64 t.2.1) ∧ w.cell? ⟨b, off + 2, none⟩ = some (.int .i64 t.2.2.1) ∧ w.cell? ⟨b, off + 3, none⟩ = some (.int .i64 t.2.2.2) := by
  obtain ⟨b, off, e, hc⟩ := h.cells (by
    intro e
    have := rc_len lnc_len (t :: L)
    rw [e] at this; simp at this)
  obtain ⟨h0, h1, h2, h3⟩ := ln_cells hc (show (t :: L)[0]? = some t from rfl)
  simp only [Nat.zero_mul, Nat.add_zero] at h0 h1 h2 h3
  exact ⟨b, off, e, World.block_lt_of_cell? w _ h0, h0, h1, h2, h3⟩
theorem slW_nil (w : World) : SlW w none 0 [] := Rk.of_nil w 3
def lA : List Ln := [(500, 10000, 0, 0)]
def d1A : List Dw := [(0, 100, 0)]
def d2A : List Dw := [(0, 100, 1)]
def d3A : List Dw := [(0, 100, 2)]
def l3A : List Ln := [(500, 10000, 90, 10)]
theorem askA : askS [] lA 0 100 = (d1A, 0, 0) := by decide
theorem apprA : apprS d1A lA 0 = (d2A, 0) := by decide
theorem pendA : pendS 0 d2A = 100 := by decide
theorem fundA : fundS d2A lA 0 1000 = (d3A, l3A, (0, 0, 90, 10), 0) := by decide
set_option maxRecDepth 8000 in
set_option maxHeartbeats 3200000 in
theorem dalive_any (w : World) : Calls Try.prog 9 #[] w fun e w' => e = .returned (.bool true) ∧ Below w.heap.size w w' := by
  have HB0 := Lib.hid (below_new1 w (.cells #[.int .i64 500, .int .i64 10000, .int .i64 0, .int .i64 0] 23))
  have HL0 : Hid (SlL _ _ 1 lA) := Lib.hid (sl_ln1 w 500 10000 0 0)
  have HA := Lib.hid (dask_any _ none 0 [] (slW_nil _) (by decide) _ 1 lA HL0.out 0 100 _ askA)
  rw [show lA.length = 1 from rfl] at HA
  go_enter Try.func9, Try.ntmps9
  go_wp2_with fail
  refine HA.out.mono ?_
  rintro e w1 ⟨v1, rfl, ho1, hb1⟩
  have HB1 := Lib.hid (below_on HB0.out HB0.out.size hb1)
  have HL1 := Lib.hid (HL0.out.keeps hb1)
  obtain ⟨a1, c1, rfl, hs1⟩ := OwW.sl ho1
  have HP := Lib.hid (dappr_any w1 a1 c1 d1A hs1 _ 1 lA HL1.out 0 _ apprA)
  rw [show lA.length = 1 from rfl, show d1A.length = 1 from rfl] at HP
  simp only [show d1A.length = 1 from rfl]
  clear ho1 hs1 hb1 HA HL0 HB0
  go_wp2_with fail
  refine HP.out.mono ?_
  rintro e w2 ⟨v2, rfl, ho2, hb2⟩
  have HB2 := Lib.hid (below_on HB1.out HB1.out.size hb2)
  have HL2 := Lib.hid (HL1.out.keeps hb2)
  obtain ⟨a2, c2, rfl, hs2⟩ := OwW.sl ho2
  have HS2 : Hid (SlW w2 a2 c2 d2A) := hs2
  have HPd := Lib.hid (dpend_any w2 a2 c2 d2A hs2 (by decide) 0 _ pendA)
  rw [show d2A.length = 1 from rfl] at HPd
  simp only [show d2A.length = 1 from rfl]
  clear ho2 hs2 hb2 HP HL1 HB1
  go_wp2_with fail
  refine HPd.out.mono ?_
  rintro e w3 ⟨rfl, hb3⟩
  have HB3 := Lib.hid (below_on HB2.out HB2.out.size hb3)
  have HL3 := Lib.hid (HL2.out.keeps hb3)
  have HFu := Lib.hid (dfund_any w3 a2 c2 d2A (HS2.out.keeps hb3) _ 1 lA HL3.out 0 1000 _ fundA)
  rw [show lA.length = 1 from rfl, show d2A.length = 1 from rfl] at HFu
  clear hb3 HPd HL2 HB2 HS2
  go_wp2_with fail
  refine HFu.out.mono ?_
  rintro e w4 ⟨v4, u4, rfl, ho4, ho5, hb4⟩
  have HB4 := Lib.hid (below_on HB3.out HB3.out.size hb4)
  have HB5 := Lib.hid (HB4.out.alloc HB4.out.size (.cells #[.int .i64 0, .int .i64 0, .int .i64 90, .int .i64 10] 23))
  obtain ⟨a4, c4, rfl, hs4⟩ := OwW.sl ho4
  obtain ⟨a5, c5, rfl, hs5⟩ := OwL.sl ho5
  replace hs4 : SlW w4 a4 c4 d3A := hs4
  replace hs5 : SlL w4 a5 c5 l3A := hs5
  obtain ⟨b4, o4, rfl, l4, k0, k1, k2⟩ := dw_at0 hs4
  obtain ⟨b5, o5, rfl, l5, j0, j1, j2, j3⟩ := ln_at0b hs5
  simp only [show d3A.length = 1 from rfl, show l3A.length = 1 from rfl]
  clear ho4 ho5 hs4 hs5 hb4 HFu HL3 HB3
  go_wp2
  go_ret
  exact ⟨rfl, HB5.out⟩
theorem sl_dwX (w : World) (l a s : Int) : SlW (w.alloc (.cells #[.int .i64 l, .int .i64 a, .int .i64 s] 33)) (some ⟨w.heap.size, 0, none⟩) 1 [(l, a, s)] := sl_dw1 w l a s
theorem nm0 : askS [] lA 1 5 = ([], 0, 141) := by decide
theorem nm1 : askS [] lA 0 0 = ([], 0, 142) := by decide
theorem nm2 : apprS [] lA 0 = ([], 151) := by decide
theorem nm3 : refS [(0, 1, 2)] 0 = ([], 152) := by decide
set_option maxRecDepth 8000 in
set_option maxHeartbeats 3200000 in
theorem drawNames_law (w : World) : Calls Try.prog 3 #[] w fun e w' => e = .returned (.bool true) ∧ Below w.heap.size w w' := by
  have HB0 := Lib.hid (below_new1 w (.cells #[.int .i64 500, .int .i64 10000, .int .i64 0, .int .i64 0] 23))
  have HL0 : Hid (SlL _ _ 1 lA) := Lib.hid (sl_ln1 w 500 10000 0 0)
  have H0 := Lib.hid (dask_any _ none 0 [] (slW_nil _) (by decide) _ 1 lA HL0.out 1 5 _ nm0)
  rw [show lA.length = 1 from rfl] at H0
  have HAl := Lib.hid (fun W => dalive_any W)
  go_enter Try.func3, Try.ntmps3
  go_wp2_with fail
  refine H0.out.mono ?_
  rintro e w1 ⟨v1, rfl, _, hb1⟩
  have HB1 := Lib.hid (below_on HB0.out HB0.out.size hb1)
  have HL1 := Lib.hid (HL0.out.keeps hb1)
  have H1 := Lib.hid (dask_any w1 none 0 [] (slW_nil _) (by decide) _ 1 lA HL1.out 0 0 _ nm1)
  rw [show lA.length = 1 from rfl] at H1
  clear hb1 H0 HL0 HB0
  go_wp2_with fail
  refine H1.out.mono ?_
  rintro e w2 ⟨v2, rfl, _, hb2⟩
  have HB2 := Lib.hid (below_on HB1.out HB1.out.size hb2)
  have HL2 := Lib.hid (HL1.out.keeps hb2)
  have H2 := Lib.hid (dappr_any w2 none 0 [] (slW_nil _) _ 1 lA HL2.out 0 _ nm2)
  rw [show lA.length = 1 from rfl] at H2
  clear hb2 H1 HL1 HB1
  go_wp2_with fail
  refine H2.out.mono ?_
  rintro e w3 ⟨v3, rfl, _, hb3⟩
  have HB3 := Lib.hid (below_on HB2.out HB2.out.size hb3)
  have HB4 := Lib.hid (HB3.out.alloc HB3.out.size (.cells #[.int .i64 0, .int .i64 1, .int .i64 2] 33))
  have H3 := Lib.hid (drefuse_any _ _ 1 [(0, 1, 2)] (sl_dw1 w3 0 1 2) 0 _ nm3)
  clear hb3 H2 HL2 HB2
  go_wp2_with fail
  refine H3.out.mono ?_
  rintro e w4 ⟨v4, rfl, _, hb4⟩
  have HB5 := Lib.hid (below_on HB4.out HB4.out.size hb4)
  clear hb4 H3 HB4 HB3
  go_wp2_with fail
  refine (HAl.out _).mono ?_
  rintro e w5 ⟨rfl, hb5⟩
  have HB6 := Lib.hid (below_on HB5.out HB5.out.size hb5)
  clear hb5
  go_wp2
  go_ret
  exact ⟨rfl, HB6.out⟩
end Go.Proofs.Ytikfclioplploaa
