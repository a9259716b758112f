/-
  The law LedgerNames.
-/
import Derived.Test.YteghjdmalbcdfaaLgH
import Derived.Test.YteghjdmalbcdfaaLgI
set_option linter.unusedVariables false
set_option linter.unusedSimpArgs false
namespace Go.Proofs.Yteghjdmalbcdfaa
open Go.RowKit Dg

def lgY : List Lg := [(0, 1), (1, 1)]
theorem lgY_in : ∀ t ∈ lgY, -9223372036854775808 ≤ t.2 ∧ t.2 ≤ 9223372036854775807 := by decide
theorem postY : postS z8 [] lgY = (z8, [], 0, 131) := by decide
theorem postN : postS z8 [] [] = (z8, [], 0, 131) := by decide
theorem revN : revS z8 [] 0 = (z8, [], 0, 132) := by decide
set_option maxRecDepth 8000 in
set_option maxHeartbeats 3200000 in
theorem ledgerNames_law (w : World) :
    Calls Try.prog 5 #[] w fun e w' => e = .returned (.bool true) ∧ Below w.heap.size w w' := by
  have HN := Lib.hid (new_any w)
  have HAl := Lib.hid (fun W => lalive_any W)
  obtain ⟨w1, hw1⟩ : ∃ w1, w1 = w.alloc (.cells (.slice none 0 0 :: ic z8).toArray 64) := ⟨_, rfl⟩
  have HB1 : Hid (Below w.heap.size w w1) := by show Below _ _ _; rw [hw1]; exact below_new1 _ _
  have HL1 : Hid (Led w1 w.heap.size w.heap.size (.slice none 0 0) [] z8 []) := by show Led _ _ _ _ _ _ _; rw [hw1]; exact Led.new w _ (Nat.le_refl _)
  rw [← hw1] at HN
  clear hw1
  go_enter Try.func5, Try.ntmps5
  go_wp2_with fail
  refine HN.out.mono ?_
  rintro e w1' ⟨rfl, rfl⟩
  have hlt := HL1.out.blk.lt
  have HBa := Lib.hid (below_new1 w1' (.cells #[.int .i64 0, .int .i64 1, .int .i64 1, .int .i64 1] 48))
  have HL2 := Lib.hid (HL1.out.keeps HBa.out)
  have HP := Lib.hid (post_any _ _ _ _ _ _ _ HL2.out (Nat.le_trans HB1.out.size HBa.out.size) (by decide) z8_in _ 2 lgY (sl_lg2 w1' 0 1 1 1) (fun a ha => by
    obtain rfl := Option.some.inj ha
    exact ⟨by show w1'.heap.size ≠ w.heap.size; omega, by simp [Value.ownBlock]⟩) (by decide) lgY_in _ postY)
  clear hlt
  go_wp2_with fail
  refine HP.out.mono ?_
  rintro e w3 ⟨rfl, ⟨v3, C3, hl3, h3⟩, hf3⟩
  have HL3 := Lib.hid hl3
  have HB3 := Lib.hid (hf3.below (below_on HB1.out HB1.out.size HBa.out) (Nat.le_refl _) (Nat.le_refl _) (by simp [Value.ownBlock]))
  have HP2 := Lib.hid (post_any _ _ _ _ _ _ _ HL3.out HB3.out.size (by decide) z8_in none 0 [] (Rk.of_nil w3 2) (by simp) (by decide) (by simp) _ postN)
  have HV3 := Lib.hid (own_base hl3.row)
  clear hl3 h3 hf3 HP
  go_wp2_with fail
  refine HP2.out.mono ?_
  rintro e w4 ⟨rfl, ⟨v4, C4, hl4, h4⟩, hf4⟩
  have HL4 := Lib.hid hl4
  have HB4 := Lib.hid (hf4.below HB3.out (Nat.le_refl _) (Nat.le_refl _) (fun k hk => (HV3.out k hk).1))
  have HV4 := Lib.hid (own_base hl4.row)
  have HR := Lib.hid (reverse_any _ _ _ _ _ _ _ HL4.out HB4.out.size (by decide) z8_in (by simp) (by simp) 0 _ revN)
  clear hl4 h4 hf4 HP2
  go_wp2_with fail
  refine HR.out.mono ?_
  rintro e w5 ⟨rfl, ⟨v5, C5, hl5, h5⟩, hf5⟩
  have HL5 := Lib.hid hl5
  have HB5 := Lib.hid (hf5.below HB4.out (Nat.le_refl _) (Nat.le_refl _) (fun k hk => (HV4.out k hk).1))
  have HE := Lib.hid (entry_any _ _ _ _ _ _ _ HL5.out (by simp) (by decide) (-1))
  rw [if_neg (by decide), if_neg (by decide)] at HE
  clear hl5 h5 hf5 HR
  go_wp2_with fail
  refine HE.out.mono ?_
  rintro e w6 ⟨u6, rfl, _, hb6⟩
  have HB6 := Lib.hid (below_on HB5.out HB5.out.size hb6)
  have HL6 := Lib.hid (HL5.out.keeps hb6)
  clear hb6 HE
  go_wp2_with fail
  refine (HAl.out _).mono ?_
  rintro e w7 ⟨rfl, hb7⟩
  have HB7 := Lib.hid (below_on HB6.out HB6.out.size hb7)
  have HL7 := Lib.hid (HL6.out.keeps hb7)
  have HLn := Lib.hid (len_any _ _ _ _ _ _ _ HL7.out)
  have HTr := Lib.hid (trial_any _ _ _ _ _ _ _ HL7.out)
  clear hb7
  go_wp2_with fail
  refine HLn.out.mono ?_
  rintro e w8 ⟨rfl, rfl⟩
  go_wp2_with fail
  refine HTr.out.mono ?_
  rintro e w9 ⟨u9, rfl, ho9, hb9⟩
  have HB9 := Lib.hid (below_on HB7.out HB7.out.size hb9)
  obtain ⟨a9, c9, rfl, _⟩ := OwI.sl ho9
  clear ho9 hb9
  go_wp2
  go_ret
  exact ⟨rfl, HB9.out⟩
end Go.Proofs.Yteghjdmalbcdfaa
