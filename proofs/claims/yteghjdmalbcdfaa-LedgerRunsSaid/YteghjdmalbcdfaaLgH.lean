/-
  The ledger's example.
-/
import Derived.Test.YteghjdmalbcdfaaLgG
set_option linter.unusedVariables false
set_option linter.unusedSimpArgs false
namespace Go.Proofs.Yteghjdmalbcdfaa
open Go.RowKit Dg

theorem sl_lg2 (w : World) (a b c d : Int) : SlG (w.alloc (.cells #[.int .i64 a, .int .i64 b, .int .i64 c, .int .i64 d] 48)) (some ⟨w.heap.size, 0, none⟩) 2 [(a, b), (c, d)] :=
  ⟨rfl, Nat.le_refl _, by simp, fun _ => ⟨_, _, rfl, fun j u hu => by
    rw [Nat.zero_add]
    exact (Blk.new w 48 [.int .i64 a, .int .i64 b, .int .i64 c, .int .i64 d]).cell j u (by simpa [rc, lgc] using hu)⟩⟩
theorem z8_in : ∀ x ∈ z8, -9223372036854775808 ≤ x ∧ x ≤ 9223372036854775807 := by decide
def lgX : List Lg := [(1, 5), (0, -5)]
theorem lgX_in : ∀ t ∈ lgX, -9223372036854775808 ≤ t.2 ∧ t.2 ≤ 9223372036854775807 := by decide
def tX : List Int := [-5, 5, 0, 0, 0, 0, 0, 0]
theorem tX_in : ∀ x ∈ tX, -9223372036854775808 ≤ x ∧ x ≤ 9223372036854775807 := by decide
theorem postX : postS z8 [] lgX = (tX, [lgX], 0, 0) := by decide
theorem sidesX : sidesS tX = (5, 5, 0) := by
  unfold sidesS
  rw [show cutI (sumI (posT tX)) = (5, 0) from by decide, show cutI (sumI (negT tX)) = (-5, 0) from by decide]
  simp [wrap64]
set_option maxRecDepth 8000 in
set_option maxHeartbeats 1600000 in
theorem lalive_any (w : World) :
    Calls Try.prog 7 #[] w fun e w' => e = .returned (.bool true) ∧ Below w.heap.size w w' := by
  have HN := Lib.hid (new_any w)
  obtain ⟨w1, hw1⟩ : ∃ w1, w1 = w.alloc (.cells (.slice none 0 0 :: ic z8).toArray 64) := ⟨_, rfl⟩
  have HB1 : Hid (Below w.heap.size w w1) := by show Below _ _ _; rw [hw1]; exact below_new1 _ _
  have HL1 : Hid (Led w1 w.heap.size w.heap.size (.slice none 0 0) [] z8 []) := by show Led _ _ _ _ _ _ _; rw [hw1]; exact Led.new w _ (Nat.le_refl _)
  rw [← hw1] at HN
  clear hw1
  go_enter Try.func7, Try.ntmps7
  go_wp2_with fail
  refine HN.out.mono ?_
  rintro e w1' ⟨rfl, rfl⟩
  have hlt := HL1.out.blk.lt
  have HBa := Lib.hid (below_new1 w1' (.cells #[.int .i64 1, .int .i64 5, .int .i64 0, .int .i64 (-5)] 48))
  have HL2 := Lib.hid (HL1.out.keeps HBa.out)
  have HP := Lib.hid (post_any _ _ _ _ _ _ _ HL2.out (Nat.le_trans HB1.out.size HBa.out.size) (by decide) z8_in _ 2 lgX (sl_lg2 w1' 1 5 0 (-5)) (fun _ a ha => by
    obtain rfl := Option.some.inj ha
    exact ⟨by show w1'.heap.size ≠ w.heap.size; omega, by simp [Value.ownBlock]⟩) (by decide) lgX_in _ postX)
  clear hlt
  go_wp2_with fail
  refine HP.out.mono ?_
  rintro e w3 ⟨rfl, ⟨v3, C3, hl3, h3⟩, hf3⟩
  have HL3 := Lib.hid hl3
  have HB3 := Lib.hid (hf3.below (below_on HB1.out HB1.out.size HBa.out) (Nat.le_refl _) (Nat.le_refl _) (by simp [Value.ownBlock]))
  have HS := Lib.hid (sides_any w3 _ _ _ _ _ _ hl3 tX_in _ sidesX)
  clear hl3 h3 hf3 HP
  go_wp2_with fail
  refine HS.out.mono ?_
  rintro e w4 ⟨rfl, hb4⟩
  have HB4 := Lib.hid (below_on HB3.out HB3.out.size hb4)
  have hl4 := HL3.out.keeps hb4
  have K1 := Lib.hid (balance_any w4 _ _ _ _ _ _ hl4 1)
  have K0 := Lib.hid (balance_any w4 _ _ _ _ _ _ hl4 0)
  rw [show balS tX 1 = 5 from by decide] at K1
  rw [show balS tX 0 = -5 from by decide] at K0
  clear hb4 hl4
  go_wp2_with fail
  refine K1.out.mono ?_
  rintro e w5 ⟨rfl, rfl⟩
  go_wp2_with fail
  refine K0.out.mono ?_
  rintro e w6 ⟨rfl, rfl⟩
  go_wp2
  go_ret
  exact ⟨rfl, HB4.out⟩
end Go.Proofs.Yteghjdmalbcdfaa
