/-
  Law CommandAnswers: the walk.
-/
import Derived.Test.YtdkcccigmejikaaCmP
set_option linter.unusedVariables false
set_option linter.unusedSimpArgs false
set_option maxRecDepth 20000
namespace Go.Proofs.Ytdkcccigmejikaa
open Go.RowKit

theorem open_pack2 (er : Int) (N : List Int) (hw : ∀ x ∈ N, in64 x) {B : List UInt8} (h : packA er N = (B, 0)) : openA B = ((er, N), 0) := by
  have hr : rightA er N.length = true := by
    unfold packA at h
    split at h
    · assumption
    · simp at h
  obtain ⟨e, rfl⟩ := Int.eq_ofNat_of_zero_le (rightA_true hr).1
  exact open_pack e N hw h
theorem packA_len {er : Int} {N : List Int} {T : List UInt8} {te : Int} (hw : ∀ x ∈ N, in64 x) (h : packA er N = (T, te)) : T.length ≤ 1000 := by
  unfold packA at h
  split at h
  · rename_i hr
    obtain ⟨r0, r1, r2, r3⟩ := rightA_true hr
    have h1 := (Prod.mk.inj h).1
    have h2 := encz_len hw
    have h3 := encs_len (N := [er.toNat, N.length]) (by
      intro n hn
      simp at hn
      omega)
    rw [← h1, List.length_append]
    simp only [List.length_cons, List.length_nil] at h3
    omega
  · rw [← (Prod.mk.inj h).1]; simp
set_option maxHeartbeats 3200000 in
theorem canswers_law (w : World) (er : Int) (ao : Option Addr) (cap : Nat) (N : List Int) (h : Sl w ao N.length cap (ic N)) (hw : ∀ x ∈ N, in64 x) :
    Calls Try.prog 3 #[.agg #[.int .i64 er, .slice ao N.length cap]] w fun e w' => e = .returned (.bool true) ∧ Below w.heap.size w w' := by
  have HB0 := Lib.hid (below_new1 w (.cells #[.int .i64 er, .slice ao N.length cap] 25))
  have HG0 := Lib.hid (Blk.new w 25 [.int .i64 er, .slice ao N.length cap])
  have HH := Lib.hid h
  have HW := Lib.hid hw
  have HA := Lib.hid (calive_any (w.alloc (.cells #[.int .i64 er, .slice ao N.length cap] 25)))
  clear h hw
  go_enter Try.func3, Try.ntmps3
  go_wp2_with fail
  refine HA.out.mono ?_
  rintro e w1 ⟨rfl, hb1⟩
  have HB1 := Lib.hid (below_on HB0.out HB0.out.size hb1)
  have HG1 := Lib.hid (HG0.out.keeps hb1)
  have c0 := HG1.out.cell 0 _ rfl
  have c1 := HG1.out.cell 1 _ rfl
  obtain ⟨⟨T, te⟩, ht⟩ : ∃ t, packA er N = t := ⟨_, rfl⟩
  have HQt := Lib.hid ht
  clear hb1 HB0 HG0 HA ht
  by_cases h1 : (100 : Int) < N.length
  · go_wp2
    go_ret
    exact ⟨rfl, HB1.out⟩
  have hl : N.length ≤ 1000000000000 := by omega
  have HP := Lib.hid (cpack_any w1 er ao cap N (HH.out.keeps HB1.out) HW.out hl (T, te) HQt.out)
  go_wp2_with fail
  refine HP.out.mono ?_
  rintro e w2 ⟨v2, rfl, ho2, hb2⟩
  have hs2 := ho2.sl
  have HB2 := Lib.hid (below_on HB1.out HB1.out.size hb2)
  have HG2 := Lib.hid (HG1.out.keeps hb2)
  have d0 := HG2.out.cell 0 _ rfl
  have d1 := HG2.out.cell 1 _ rfl
  have HV2 : Hid (SlB w2 v2 T) := hs2
  have HR := Lib.hid (rpack_any w2 er ao cap N (HH.out.keeps HB2.out) HW.out hl (T, te) HQt.out)
  clear ho2 hb2 hs2 c0 c1 HB1 HG1 HP
  go_wp2_with fail
  refine HR.out.mono ?_
  rintro e w3 ⟨v3, rfl, ho3, hb3⟩
  have hs3 := ho3.sl
  have HB3 := Lib.hid (below_on HB2.out HB2.out.size hb3)
  have HG3 := Lib.hid (HG2.out.keeps hb3)
  have d0 := HG3.out.cell 0 _ rfl
  have d1 := HG3.out.cell 1 _ rfl
  have HV3 : Hid (SlB w3 v3 T) := hs3
  have HV2b := Lib.hid (SlB.keeps HV2.out hb3)
  have HTl : Hid (T.length ≤ 100000000) := Nat.le_trans (packA_len HW.out HQt.out) (by decide)
  have HO := Lib.hid (copen_any w3 v2 T HV2b.out HTl.out _ rfl)
  clear ho3 hb3 hs3 HB2 HG2 HR HV2
  by_cases h0 : te = 0
  · subst h0
    have hop := open_pack2 er N HW.out HQt.out
    rw [hop] at HO
    go_wp2_with (first | (refine to_text (by rfl) _ rfl _ rfl _ HV2b.out ?_) | (refine to_text (by rfl) _ rfl _ rfl _ HV3.out ?_) | fail)
    refine HO.out.mono ?_
    rintro e w4 ⟨a4, c4, rfl, hs4, hb4⟩
    have HB4 := Lib.hid (below_on HB3.out HB3.out.size hb4)
    have HG4 := Lib.hid ((HG3.out.keeps hb4).alloc (.cells #[.int .i64 er, .slice a4 N.length c4] 25))
    have HB5 := Lib.hid (HB4.out.alloc HB4.out.size (.cells #[.int .i64 er, .slice a4 N.length c4] 25))
    have f0 := HG4.out.cell 0 _ rfl
    have f1 := HG4.out.cell 1 _ rfl
    have HSm := Lib.hid (sameAns_any _ er er ao a4 cap c4 N N (HH.out.keeps HB5.out) (Sl.keeps hs4 (below_new1 w4 _)) (by omega) true (by simp))
    clear hs4 hb4 HO
    go_wp2_with fail
    refine HSm.out.mono ?_
    rintro e w6 ⟨rfl, hb6⟩
    have HB6 := Lib.hid (below_on HB5.out HB5.out.size hb6)
    clear hb6 HSm
    go_wp2
    go_ret
    exact ⟨rfl, HB6.out⟩
  · have q0 : (te != 0) = true := by simpa using h0
    go_wp2_with (first | (refine to_text (by rfl) _ rfl _ rfl _ HV2b.out ?_) | (refine to_text (by rfl) _ rfl _ rfl _ HV3.out ?_) | fail)
    refine HO.out.mono ?_
    rintro e w4 ⟨a4, c4, rfl, hs4, hb4⟩
    have HB4 := Lib.hid (below_on HB3.out HB3.out.size hb4)
    clear hs4 hb4 HO
    go_wp2
    go_ret
    exact ⟨rfl, HB4.out.alloc HB4.out.size _⟩
theorem canswers_row (er : Int) (ao : Option Addr) (cap : Nat) (N : List Int) (wN : ∀ x ∈ N, (Lit.int .i64 x).wf = true) (w : World) (h : Sl w ao N.length cap (N.map (Value.int .i64))) :
    Calls Try.prog 3 #[.agg #[.int .i64 er, .slice ao N.length cap]] w fun e w' => e = .returned (.bool true) ∧ Below w.heap.size w w' :=
  canswers_law w er ao cap N h (fun x hx => by
    have := wN x hx
    simp [Lit.wf, IntKind.min, IntKind.max, IntKind.signed, IntKind.bits] at this
    exact this)
end Go.Proofs.Ytdkcccigmejikaa
