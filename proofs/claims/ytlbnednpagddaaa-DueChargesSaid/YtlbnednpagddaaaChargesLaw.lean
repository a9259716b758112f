/-
  The walk of the law DueCharges: it answers true at every input.
-/
import Derived.Test.YtlbnednpagddaaaAlive
import Derived.Test.YtlbnednpagddaaaRefCharge
set_option linter.unusedVariables false
set_option linter.unusedSimpArgs false
namespace Go.Proofs.Ytlbnednpagddaaa
open Go.RowKit

set_option maxRecDepth 8000 in
set_option maxHeartbeats 1600000 in
theorem charges_law (a b c m : Int) (w : World) :
    Calls Try.prog 8 #[.agg #[.int .i64 a, .int .i64 b, .int .i64 c], .int .i64 m] w fun e w' => e = .returned (.bool true) ∧ Below w.heap.size w w' := by
  obtain ⟨s, hs⟩ : ∃ s, chargeS a b c m = s := ⟨_, rfl⟩
  have H1 := Lib.hid (fun W => charge_any a b c m s hs W)
  have H2 := Lib.hid (fun W => rcharge_any a b c m s hs W)
  clear hs
  obtain ⟨⟨x, y, z⟩, p, n⟩ := s
  simp only [dv] at H1 H2
  go_enter Try.func8, Try.ntmps8
  go_wp2_with fail
  refine (alive_any _).mono ?_
  rintro e w1 ⟨rfl, hb⟩
  have hD := (Blk.new w 23 [.int .i64 a, .int .i64 b, .int .i64 c]).keeps hb
  have hB := below_on (below_new1 w _) (by simp) hb
  have D0 := hD.cell 0 _ rfl; have D1 := hD.cell 1 _ rfl; have D2 := hD.cell 2 _ rfl; have Df := hD.frozen; have Dn := hD.lt
  clear hb
  go_wp2_with fail
  refine (H1.out _).mono ?_
  rintro e w2 ⟨rfl, hb⟩
  have hD2 := hD.keeps hb
  have hB2 := below_on hB (by omega) hb
  clear D0 D1 D2 Df Dn hb hD hB
  have D0 := hD2.cell 0 _ rfl; have D1 := hD2.cell 1 _ rfl; have D2 := hD2.cell 2 _ rfl; have Df := hD2.frozen; have Dn := hD2.lt
  go_wp2_with fail
  refine (H2.out _).mono ?_
  rintro e w3 ⟨rfl, hb⟩
  have hX := (Blk.new w2 23 [.int .i64 x, .int .i64 y, .int .i64 z]).keeps hb
  have hB3 := below_on (hB2.alloc (by omega) _) (by simp; omega) hb
  clear D0 D1 D2 Df hb hB2 hD2
  have X0 := hX.cell 0 _ rfl; have X1 := hX.cell 1 _ rfl; have X2 := hX.cell 2 _ rfl; have Xf := hX.frozen; have Xn := hX.lt
  clear hX H1 H2
  go_wp2
  go_ret
  exact ⟨rfl, hB3.alloc (by omega) _⟩
end Go.Proofs.Ytlbnednpagddaaa
