/-
  The walk of the chapter's example: it answers true.
-/
import Derived.Test.YtlbnednpagddaaaRefDue
set_option linter.unusedVariables false
set_option linter.unusedSimpArgs false
namespace Go.Proofs.Ytlbnednpagddaaa
open Go.RowKit

set_option maxRecDepth 8000 in
set_option maxHeartbeats 1600000 in
theorem alive_any (w : World) : Calls Try.prog 10 #[] w fun e w' => e = .returned (.bool true) ∧ Below w.heap.size w w' := by
  have HB := Lib.hid (fun W => bill_any 0 0 0 100 5 30 ((0, 5, 70), 30, 0) (by decide) W)
  have HS := Lib.hid (fun W => split_any 0 5 70 80 ((0, 0, 0), (0, 5, 70, 5), 0) (by decide) W)
  go_enter Try.func10, Try.ntmps10
  go_wp2_with fail
  refine (HB.out _).mono ?_
  rintro e w1 ⟨rfl, hb⟩
  simp only [dv]
  go_wp2_with fail
  refine (HS.out _).mono ?_
  rintro e w2 ⟨rfl, hb2⟩
  have hK := (Blk.new w1 23 [.int .i64 0, .int .i64 5, .int .i64 70]).keeps hb2
  have hB := below_on (hb.alloc hb.size _) (by simp; have := hb.size; omega) hb2
  have K0 := hK.cell 0 _ rfl; have K1 := hK.cell 1 _ rfl; have K2 := hK.cell 2 _ rfl; have Kf := hK.frozen; have Kn := hK.lt
  have hs := hB.size
  clear hb hb2 HB HS
  simp only [dv, pv]
  go_wp2
  go_ret
  exact ⟨rfl, (hB.alloc (by omega) _).alloc (by simp; omega) _⟩
end Go.Proofs.Ytlbnednpagddaaa
