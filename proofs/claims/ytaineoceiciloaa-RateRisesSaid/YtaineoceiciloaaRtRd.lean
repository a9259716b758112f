/-
  The law RateRises.
-/
import Derived.Test.YtaineoceiciloaaRtRc
set_option linter.unusedVariables false
set_option linter.unusedSimpArgs false
namespace Go.Proofs.Ytaineoceiciloaa
open Go.RowKit Ieee

set_option maxRecDepth 20000 in
set_option maxHeartbeats 1600000 in
theorem rises_good (a b X Y : Nat) (w : World) (ha : a < 18446744073709551616) (hb : b < 18446744073709551616) (hsa : pS a = ((X : Int), 0)) (hsb : pS b = ((Y : Int), 0))
    (bg bl : Bool) (hg : (FloatKind.f64.format.order a b == some .gt) = bg) (hl : (FloatKind.f64.format.order a b == some .lt) = bl) (hgl : bg = true ∨ X ≤ Y) (hlg : bl = true ∨ Y ≤ X) (hN : Near a X) :
    Calls Try.prog 4 #[.float .f64 a, .float .f64 b] w fun e w' => e = .returned (.bool true) ∧ Below w.heap.size w w' := by
  have HAl := Lib.hid (fun W => ralive_any W)
  have HP := Lib.hid (fun W => points_any W a ha _ hsa)
  have HQ := Lib.hid (fun W => points_any W b hb _ hsb)
  obtain ⟨r, c, z, u, n1, n2, n3, n4, n5, n6⟩ := hN
  have HA := Lib.hid (fun W => abs_any W z u n4 n5)
  have hml := fun w => run_float_arith (P := Try.prog) w .mul 35 .f64 _ _ r n1
  have hsb := fun w => run_float_arith (P := Try.prog) w .sub 35 .f64 _ _ z n3
  have k1 : (FloatKind.f64.format.order u 4602678820073366837 == some .lt) = true := by rw [n6]; rfl
  have k2 : (FloatKind.f64.format.order u 4602678820073366837 == some .eq) = false := by rw [n6]; rfl
  have hX : bg = false → (X : Int) ≤ (Y : Int) := fun h => by rw [h] at hgl; rcases hgl with h | h; cases h; omega
  have hY : bl = false → (Y : Int) ≤ (X : Int) := fun h => by rw [h] at hlg; rcases hlg with h | h; cases h; omega
  clear n1 n3 n4 n5 n6 hgl hlg hsa ha hb
  obtain ⟨x, hx⟩ : ∃ x : Int, (X : Int) = x := ⟨_, rfl⟩
  obtain ⟨y, hy⟩ : ∃ y : Int, (Y : Int) = y := ⟨_, rfl⟩
  rw [hx] at *
  rw [hy] at *
  clear hx hy
  cases bg <;> cases bl <;> (
    first
    | (have hX := hX rfl) | skip
    first
    | (have hY := hY rfl) | skip
    go_enter Try.func4, Try.ntmps4
    go_wp2_with fail
    refine (HAl.out _).mono ?_
    rintro e w1 ⟨rfl, hb1⟩
    have HB1 := Lib.hid hb1
    clear hb1
    go_wp2_with fail
    refine (HP.out _).mono ?_
    rintro e w2 ⟨rfl, rfl⟩
    go_wp2_with fail
    refine (HQ.out _).mono ?_
    rintro e w3 ⟨rfl, rfl⟩
    go_wp2_with fail
    refine (HA.out _).mono ?_
    rintro e w4 ⟨rfl, rfl⟩
    go_wp2
    go_ret
    exact ⟨rfl, HB1.out⟩)
theorem rateRises_law (m0 m1 : Nat) (w : World) (h0 : m0 < 18446744073709551616) (h1 : m1 < 18446744073709551616) :
    Calls Try.prog 4 #[.float .f64 m0, .float .f64 m1] w fun e w' => e = .returned (.bool true) ∧ Below w.heap.size w w' := by
  by_cases h : GoodF m0 ∧ GoodF m1
  · obtain ⟨hg0, hg1⟩ := h
    obtain ⟨o, ho, o1, o2, o3⟩ := good_ord hg0 hg1
    obtain ⟨_, _, _, e0, n0⟩ := hg0
    obtain ⟨_, _, _, e1, _⟩ := hg1
    refine rises_good m0 m1 _ _ w h0 h1 e0 e1 _ _ rfl rfl ?_ ?_ n0
    · rw [ho]
      cases o with
      | lt => exact .inr (o1 rfl)
      | eq => exact .inr (Nat.le_of_eq (o3 rfl))
      | gt => exact .inl rfl
    · rw [ho]
      cases o with
      | lt => exact .inl rfl
      | eq => exact .inr (Nat.le_of_eq (o3 rfl).symm)
      | gt => exact .inr (o2 rfl)
  · exact rises_bad m0 m1 w h0 h1 h
end Go.Proofs.Ytaineoceiciloaa
