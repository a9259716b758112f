/-
  The walk of the law PackNames: it answers true.
-/
import Derived.Test.YtoafkjilkfohjaaPkAlive
import Derived.Test.YtoafkjilkfohjaaText
set_option linter.unusedVariables false
set_option linter.unusedSimpArgs false
namespace Go.Proofs.Ytoafkjilkfohjaa
open Go.RowKit

theorem made_zero (n : Nat) : (madeCells (Value.int .u8 0).cells (n * 1)).toList = bc (List.replicate n (0 : UInt8)) := by
  rw [Nat.mul_one]
  apply List.ext_getElem?
  intro i
  by_cases h : i < n
  · simp [madeCells, bc, h, Value.cells, Nat.mod_one]
  · simp [madeCells, bc, h]
set_option maxRecDepth 8000 in
set_option maxHeartbeats 1600000 in
theorem names_law (w : World) :
    Calls Try.prog 4 #[] w fun e w' => e = .returned (.bool true) ∧ Below w.heap.size w w' := by
  obtain ⟨i0, hi, hz0, hz1, hz2⟩ := info_parts info_u8
  obtain ⟨n, hn⟩ : ∃ n : Nat, n = 65537 := ⟨_, rfl⟩
  have hnI : (65537 : Int) = (n : Int) := by omega
  have hmc := made_zero n
  have hZl : (List.replicate n (0 : UInt8)).length = n := List.length_replicate
  obtain ⟨Z, hZ⟩ : ∃ Z, List.replicate n (0 : UInt8) = Z := ⟨_, rfl⟩
  rw [hZ] at hmc hZl
  clear hZ
  have HMC := Lib.hid hmc
  have HNI := Lib.hid hnI
  have HNN := Lib.hid hn
  have HZL := Lib.hid hZl
  have mk : Hid (∀ (W : World) (v : Value), W.ownsRow w.heap.size 5 1 v n (madeCells (Value.int .u8 0).cells (n * 1)).toList → OwB W w.heap.size v Z) := fun W v h => by
    rw [HMC.out] at h
    show W.ownsRow _ _ 1 v Z.length (bc Z)
    rw [HZL.out]; exact h
  clear hmc hnI hn hZl
  go_enter Try.func4, Try.ntmps4
  go_wp2_with (first | (at_make; refine wpList_make_full _ rfl _ _ 22 rfl w.heap.size 5 i0 (.int .u8 0) 1 Try.underlying22 hi hz0 hz1 _ _ _ _ n rfl rfl HNI.out HNI.out (by rw [hz2]; have := HNN.out; omega) (by have := HNN.out; unfold maxLen; omega) (Nat.le_refl _) ?_; intro w0 hown0 hgrow0) | (refine to_text rfl _ rfl _ rfl Z (mk.out _ _ hown0).sl ?_))
  have HB0 : Hid (Below w.heap.size w w0) := (Below.refl _ _).grown hgrow0 (Nat.le_refl _) (fun k hk => by cases hk)
  clear hown0 hgrow0
  have ht := ptext_any (w0.alloc (.cells #[.string (str Z)] 9)) (.slice none 0 0) [] (own_nil _ 0).sl (some ⟨w0.heap.size, 0, none⟩) 1 [str Z] (sl_unit w0 _ _ _ rfl) (by simp)
  rw [putT_bad (s := str Z) (by simp) (by rw [str_size, HZL.out, HNN.out]; decide)] at ht
  have HT := Lib.hid ht
  have HB1 := Lib.hid (HB0.out.alloc HB0.out.size (.cells #[.string (str Z)] 9))
  clear ht
  refine HT.out.mono ?_
  rintro e w1 ⟨v1, rfl, _, hb1⟩
  have HB2 := Lib.hid (below_on HB1.out HB1.out.size hb1)
  clear hb1
  have ht := ptext_any (w1.alloc (.cells #[.string ByteArray.empty] 9)) (.slice none 0 0) [] (own_nil _ 0).sl (some ⟨w1.heap.size, 0, none⟩) 1 [ByteArray.empty] (sl_unit w1 _ _ _ rfl) (by simp)
  rw [putT_ok (by simp)] at ht
  rw [show [] ++ txts [ByteArray.empty] = [0] from by simp [txts, txt, enc_small]] at ht
  have HT2 := Lib.hid ht
  have HB3 := Lib.hid (HB2.out.alloc HB2.out.size (.cells #[.string ByteArray.empty] 9))
  clear ht HT
  go_wp2_with fail
  refine HT2.out.mono ?_
  rintro e w2 ⟨v2, rfl, ho2, hb2⟩
  obtain ⟨ao2, cap2, rfl, _⟩ := ho2.sl
  have HB4 := Lib.hid (below_on HB3.out HB3.out.size hb2)
  have HN := Lib.hid (new_any w2 (.slice none 0 0) [] (own_nil _ 0).sl (by simp))
  clear ho2 hb2 HT2
  go_wp2_with fail
  refine HN.out.mono ?_
  rintro e w3 ⟨r, rfl, hr, hrl, hb3⟩
  have HB5 := Lib.hid (below_on HB4.out HB4.out.size hb3)
  have HRL : Hid (w.heap.size ≤ r) := Nat.le_trans HB4.out.size hrl
  have hm := rnum_any w3 r _ _ hr
  rw [show rdN [] false = (0, [], true) from rfl] at hm
  have HM := Lib.hid hm
  clear hb3 hr hrl hm HN
  go_wp2_with fail
  refine HM.out.mono ?_
  rintro e w4 ⟨rfl, hr, hg⟩
  have HB6 := Lib.hid (HB5.out.grown hg HB5.out.size (fun k hk => by cases hk; exact HRL.out))
  have HR := Lib.hid hr
  clear hr hg HM
  go_wp2_with fail
  refine (alive_any _).mono ?_
  rintro e w5 ⟨rfl, hb5⟩
  have HE := Lib.hid (ended_any w5 r _ _ (HR.out.keeps hb5))
  have HB7 := Lib.hid (below_on HB6.out HB6.out.size hb5)
  clear hb5 HR
  go_wp2_with fail
  refine HE.out.mono ?_
  rintro e w6 ⟨rfl, rfl⟩
  have HN := Lib.hid (new_any w6 (.slice none 0 0) [] (own_nil _ 0).sl (by simp))
  clear HE
  go_wp2_with fail
  refine HN.out.mono ?_
  rintro e w7 ⟨r2, rfl, hr, _, hb7⟩
  have HB8 := Lib.hid (below_on HB7.out HB7.out.size hb7)
  have HE := Lib.hid (ended_any w7 r2 _ _ hr)
  clear hr hb7 HN
  go_wp2_with fail
  refine HE.out.mono ?_
  rintro e w8 ⟨rfl, rfl⟩
  go_wp2
  go_ret
  exact ⟨rfl, HB8.out⟩
end Go.Proofs.Ytoafkjilkfohjaa
