/-
  The example of chapter 14.
-/
import Derived.Test.YtdiejmokbmaejaaBgM
set_option linter.unusedVariables false
set_option linter.unusedSimpArgs false
namespace Go.Proofs.Ytdiejmokbmaejaa
open Go.RowKit Dg

theorem sl_i2 (w : World) (x y : Int) : Sl (w.alloc (.cells #[.int .i64 x, .int .i64 y] 2)) (some ⟨w.heap.size, 0, none⟩) 2 2 (ic [x, y]) :=
  ⟨rfl, Nat.le_refl _, by simp, fun _ => ⟨_, _, rfl, fun j u hu => by
    rw [Nat.zero_add]
    exact (Blk.new w 2 [.int .i64 x, .int .i64 y]).cell j u hu⟩⟩
def l0X : List Ln := [(1000, 0, 0, 0), (200, 0, 0, 0)]
def l1X : List Ln := [(1000, 5000, 0, 0), (200, 0, 0, 0)]
def l2X : List Ln := [(1000, 5000, 450, 50), (200, 0, 0, 0)]
theorem newX : newS [1000, 200] = (l0X, 0) := by decide
theorem inspX : inspS l0X 0 5000 = (l1X, 0) := by decide
theorem payX : payS l1X 0 450 50 = (l2X, 0) := by decide
theorem payX2 : payS l1X 0 450 51 = ([], 143) := by decide
theorem ln_at0 {w : World} {ao : Option Addr} {cap : Nat} {t : Ln} {L : List Ln} (h : SlL w ao cap (t :: L)) : ∃ b off, ao = some ⟨b, off, none⟩ ∧ w.cell? ⟨b, off, none⟩ = some (.int .i64 t.1) ∧ w.cell? ⟨b, off + 1, none⟩ = some (.int .i64 t.2.1) ∧ w.cell? ⟨b, off + 2, none⟩ = some (.int .i64 t.2.2.1) ∧ w.cell? ⟨b, off + 3, none⟩ = some (.int .i64 t.2.2.2) := by
  obtain ⟨b, off, e, hc⟩ := h.cells (by
    intro e
    have := rc_len lnc_len (t :: L)
    rw [e] at this; simp at this)
  obtain ⟨h0, h1, h2, h3⟩ := ln_cells hc (show (t :: L)[0]? = some t from rfl)
  simp only [Nat.zero_mul, Nat.add_zero] at h0 h1 h2 h3
  exact ⟨b, off, e, h0, h1, h2, h3⟩
set_option maxRecDepth 8000 in
set_option maxHeartbeats 3200000 in
theorem balive_any (w : World) : Calls Try.prog 8 #[] w fun e w' => e = .returned (.bool true) ∧ Below w.heap.size w w' := by
  have HB0 := Lib.hid (below_new1 w (.cells #[.int .i64 1000, .int .i64 200] 2))
  have HN := Lib.hid (bnew_any _ _ 2 [1000, 200] (sl_i2 w 1000 200) _ newX (by decide))
  go_enter Try.func8, Try.ntmps8
  go_wp2_with fail
  refine HN.out.mono ?_
  rintro e w1 ⟨v1, rfl, ho1, hb1⟩
  obtain ⟨a1, c1, rfl, hs1⟩ := OwL.sl ho1
  have HB1 := Lib.hid (below_on HB0.out HB0.out.size hb1)
  have HI := Lib.hid (binsp_any w1 a1 c1 l0X hs1 0 5000 _ inspX)
  have e1 : l0X.length = 2 := rfl
  rw [e1] at HI
  clear ho1 hs1 hb1 HN
  simp only [e1]
  go_wp2_with fail
  refine HI.out.mono ?_
  rintro e w2 ⟨v2, rfl, ho2, hb2⟩
  obtain ⟨a2, c2, rfl, hs2⟩ := OwL.sl ho2
  have HB2 := Lib.hid (below_on HB1.out HB1.out.size hb2)
  have HS2 : Hid (SlL w2 a2 c2 l1X) := hs2
  obtain ⟨b2, off2, rfl, k0, k1, k2, k3⟩ := ln_at0 hs2
  have HC := Lib.hid (cap_any 1000 5000 0 0 (by decide) (by decide) (by decide) w2)
  rw [show capS 1000 5000 = 500 from by decide] at HC
  have e2 : l1X.length = 2 := rfl
  simp only [e2]
  clear ho2 hs2 hb2 HI
  go_wp2_with fail
  refine HC.out.mono ?_
  rintro e w3 ⟨rfl, hb3⟩
  have HB3 := Lib.hid (below_on HB2.out HB2.out.size hb3)
  have HS3 := Lib.hid (HS2.out.keeps hb3)
  have HP := Lib.hid (bpay_any w3 _ c2 l1X HS3.out 0 450 50 _ payX)
  rw [e2] at HP
  clear hb3 k0 k1 k2 k3 HC
  go_wp2_with fail
  refine HP.out.mono ?_
  rintro e w4 ⟨v4, rfl, ho4, hb4⟩
  have HB4 := Lib.hid (below_on HB3.out HB3.out.size hb4)
  have HO4 := Lib.hid ho4
  have HP2 := Lib.hid (bpay_any w4 _ c2 l1X (HS3.out.keeps hb4) 0 450 51 _ payX2)
  rw [e2] at HP2
  clear hb4 ho4 HP
  go_wp2_with fail
  refine HP2.out.mono ?_
  rintro e w5 ⟨v5, rfl, ho5, hb5⟩
  have HB5 := Lib.hid (below_on HB4.out HB4.out.size hb5)
  have ho6 := own_kp HO4.out hb5
  obtain ⟨a4, c4, rfl, hs4⟩ := OwL.sl ho6
  have HS4 : Hid (SlL w5 a4 c4 l2X) := hs4
  obtain ⟨b4, off4, rfl, k0, k1, k2, k3⟩ := ln_at0 hs4
  have HT := Lib.hid (total_any w5 _ c4 l2X hs4 (by decide))
  rw [show totS l2X = 1200 from by decide] at HT
  have e4 : l2X.length = 2 := rfl
  rw [e4] at HT
  simp only [e4]
  clear ho5 ho6 hs4 hb5 HP2
  go_wp2_with fail
  refine HT.out.mono ?_
  rintro e w6 ⟨rfl, hb6⟩
  have HB6 := Lib.hid (below_on HB5.out HB5.out.size hb6)
  clear hb6 k0 k1 k2 k3
  go_wp2
  go_ret
  exact ⟨rfl, HB6.out⟩
end Go.Proofs.Ytdiejmokbmaejaa
