/-
  Law CommandKinds: the walk.
-/
import Derived.Test.YtdkcccigmejikaaCmX
import Derived.Test.YtdkcccigmejikaaCmP
set_option linter.unusedVariables false
set_option linter.unusedSimpArgs false
set_option maxRecDepth 20000
namespace Go.Proofs.Ytdkcccigmejikaa
open Go.RowKit

/-- A command of a kind, a loan and a number alone. -/
def kC (kind loan a : Int) : Cm := ⟨kind, loan, a, 0, 0, 0, [], 0, 0, 0, 0, 0, 0, 0, 0, 0, 0, 0, 0, 0, 0, 0, 0⟩
def kGood (kind loan a : Int) : Prop := 1 ≤ kind ∧ kind ≤ 25 ∧ -2147483648 ≤ loan ∧ loan ≤ 2147483647 ∧ -2147483648 ≤ a ∧ a ≤ 2147483647
theorem kC_right {kind loan a : Int} (h : kGood kind loan a) : (kC kind loan a).right = true := by
  obtain ⟨h1, h2, h3, h4, h5, h6⟩ := h
  have b1 : big32 loan = false := by simp [big32]; omega
  have b2 : big32 a = false := by simp [big32]; omega
  have b3 : big32 0 = false := by decide
  simp [kC, Cm.right, emptyS, b1, b2, b3, Cm.N, isnz, h1, h2]
theorem kC_bad {kind loan a : Int} (h : ¬ kGood kind loan a) : (kC kind loan a).right = false := by
  rw [Bool.eq_false_iff]
  intro hr
  apply h
  have hn := right_nums hr
  have h1 : 1 ≤ kind := hn.1
  have h2 : kind ≤ 25 := hn.2.1
  simp only [kC, Cm.right, List.any_cons, List.any_nil, Bool.and_eq_true, Bool.not_eq_true', Bool.or_eq_false_iff] at hr
  obtain ⟨⟨⟨⟨⟨_, h3, h4, _⟩, _⟩, _⟩, _⟩, _⟩ := hr
  simp only [big32, Bool.or_eq_false_iff, decide_eq_false_iff_not] at h3 h4
  exact ⟨h1, h2, by omega, by omega, by omega, by omega⟩
theorem kC_wf {kind loan a : Int} (h1 : in64 kind) (h2 : in64 loan) (h3 : in64 a) : (kC kind loan a).wf := by
  refine ⟨?_, by simp [kC], by intro x hx; simp [kC, Cm.N] at hx; subst hx; exact in64_0, by intro x hx; simp [kC, Cm.F] at hx; subst hx; exact in64_0⟩
  intro x hx
  simp only [kC, Cm.H, List.mem_cons, List.not_mem_nil, or_false] at hx
  rcases hx with rfl | rfl | rfl | rfl | rfl | rfl
  · exact h1
  · exact h2
  · exact h3
  · exact in64_0
  · exact in64_0
  · exact in64_0
theorem enc_pos (n : Nat) : 1 ≤ (Go.Proofs.Ytdkcccigmejikaa.enc n).length := by
  have := enc_ne n
  cases e : Go.Proofs.Ytdkcccigmejikaa.enc n with
  | nil => exact absurd e this
  | cons x l => simp
theorem encs_pos : ∀ (N : List Nat), N.length ≤ (encs N).length
  | [] => by simp
  | n :: N => by
    have h1 := enc_pos n
    have h2 := encs_pos N
    have e : encs (n :: N) = Go.Proofs.Ytdkcccigmejikaa.enc n ++ encs N := by simp [encs]
    rw [e, List.length_append, List.length_cons]; omega
theorem kC_enc (kn : Nat) (loan a : Int) (h : kn ≤ 25) : ∃ R, (kC kn loan a).enc = UInt8.ofNat kn :: R ∧ 5 ≤ R.length := by
  have hp := encs_pos ([loan, a, 0, 0, 0].map zig)
  rw [show ([loan, a, 0, 0, 0].map zig).length = 5 from rfl] at hp
  by_cases k1 : kn = 1
  · subst k1
    rw [enc_k1 rfl, enc_small (by omega)]
    exact ⟨encs ([loan, a, 0, 0, 0].map zig) ++ _, rfl, by rw [List.length_append]; exact Nat.le_trans hp (Nat.le_add_right _ _)⟩
  · by_cases k15 : kn = 15
    · subst k15
      rw [enc_k15 rfl, enc_small (by omega)]
      exact ⟨encs ([loan, a, 0, 0, 0].map zig) ++ _, rfl, by rw [List.length_append]; exact Nat.le_trans hp (Nat.le_add_right _ _)⟩
    · rw [enc_ko rfl k1 k15, enc_small (by omega)]
      exact ⟨encs ([loan, a, 0, 0, 0].map zig) ++ _, rfl, by rw [List.length_append]; exact Nat.le_trans hp (Nat.le_add_right _ _)⟩
theorem enc_le {c : Cm} (hr : c.right = true) (hw : c.wf) : c.enc.length ≤ 1000 := by
  obtain ⟨k0, k1, kL⟩ := right_nums hr
  obtain ⟨hH, hL, hN, hF⟩ := hw
  have h1 := encs_len (N := [c.k.toNat]) (by intro n hn; obtain rfl : n = c.k.toNat := (by simpa using hn); omega)
  have h2 := encz_len (M := [c.lo, c.a, c.b, c.n, c.p]) (fun x hx => hH x (List.mem_cons_of_mem _ hx))
  have h3 := encs_len (N := [c.L.length]) (by intro n hn; obtain rfl : n = c.L.length := (by simpa using hn); omega)
  have h4 := encz_len hL
  have h5 := encz_len hN
  have h6 := encz_len (M := [c.f1, c.f2, c.f3]) (fun x hx => hF x (by simp only [Cm.F, List.mem_cons, List.not_mem_nil, or_false] at hx ⊢; rcases hx with rfl | rfl | rfl <;> simp))
  have hN11 : c.N.length = 11 := rfl
  simp only [List.length_cons, List.length_nil] at h1 h2 h3 h6
  unfold Cm.enc
  rw [List.length_append, List.length_append, List.length_append]
  split <;> split <;> simp only [List.length_append, List.length_nil] <;> omega
set_option maxHeartbeats 6400000 in
theorem ckinds_law (kind : Int) (hk : in64 kind) (loan : Int) (hlo : in64 loan) (a : Int) (ha : in64 a) (w : World) :
    Calls Try.prog 7 #[.int .i64 kind, .int .i64 loan, .int .i64 a] w fun e w' => e = .returned (.bool true) ∧ Below w.heap.size w w' := by
  have HWF := Lib.hid (kC_wf hk hlo ha)
  have HA := Lib.hid (calive_any w)
  have HB0 := Lib.hid (Below.refl w.heap.size w)
  obtain ⟨s, hs⟩ : ∃ s, (kC kind loan a).bytes = s := ⟨_, rfl⟩
  have HX : Hid (¬ kGood kind loan a → s = ([], 221)) := fun hb => by rw [← hs, Cm.bytes, kC_bad hb]; rfl
  have HY : Hid (kGood kind loan a → s = ((kC kind loan a).enc, 0)) := fun hb => by rw [← hs, Cm.bytes, kC_right hb]; rfl
  have HC := Lib.hid (fun U => cbytes_any U none 0 (kC kind loan a) (Sl.of_nil U) HWF.out s hs)
  clear hs hk hlo ha
  go_enter Try.func7, Try.ntmps7
  go_wp2_with fail
  refine HA.out.mono ?_
  rintro e w1 ⟨rfl, hb1⟩
  have HB1 := Lib.hid hb1
  clear hb1 HB0 HA
  go_wp2_with fail
  refine (HC.out w1).mono ?_
  rintro e w2 ⟨v1, rfl, ho2, hb2⟩
  have HB2 := Lib.hid (below_on HB1.out HB1.out.size hb2)
  have h1 := ho2.sl
  have HV1 : Hid (SlB w2 v1 s.1) := h1
  clear ho2 hb2 h1 HC HB1
  by_cases l1 : -2147483648 ≤ loan
  · by_cases l2 : loan ≤ 2147483647
    · by_cases a1 : -2147483648 ≤ a
      · by_cases a2 : a ≤ 2147483647
        · by_cases k1 : kind < 1
          · as_aux_lemma =>
              obtain rfl : s = ([], 221) := HX.out (by unfold kGood; omega)
              obtain ⟨a1, c1, rfl, hs1⟩ := HV1.out
              simp only [List.length_nil]
              clear hs1
              go_wp2
              go_ret
              exact ⟨rfl, HB2.out⟩
          · by_cases k2 : 25 < kind
            · as_aux_lemma =>
                obtain rfl : s = ([], 221) := HX.out (by unfold kGood; omega)
                obtain ⟨a1, c1, rfl, hs1⟩ := HV1.out
                simp only [List.length_nil]
                clear hs1
                go_wp2
                go_ret
                exact ⟨rfl, HB2.out⟩
            · obtain rfl : s = ((kC kind loan a).enc, 0) := HY.out ⟨by omega, by omega, l1, l2, a1, a2⟩
              have HGD := Lib.hid (kC_right (kind := kind) (loan := loan) (a := a) ⟨by omega, by omega, l1, l2, a1, a2⟩)
              replace HV1 : Hid (SlB w2 v1 (kC kind loan a).enc) := HV1
              obtain ⟨kn, hk⟩ := Int.eq_ofNat_of_zero_le (show 0 ≤ kind by omega)
              subst hk
              obtain ⟨R, hR, hR5⟩ := kC_enc kn loan a (by omega)
              obtain ⟨E, hE⟩ : ∃ E, (kC kn loan a).enc = E := ⟨_, rfl⟩
              have HEL : Hid (6 ≤ E.length) := by show _ ≤ _; rw [← hE, hR, List.length_cons]; omega
              have HE0 : Hid (E[0]? = some (UInt8.ofNat kn)) := by show _ = _; rw [← hE, hR]; rfl
              have hrd := readP_enc HGD.out HWF.out
              have hEl := enc_le HGD.out HWF.out
              rw [hE] at hrd hEl HV1
              have HR := Lib.hid (cread2_any w2 v1 E HV1.out (by omega) _ hrd)
              clear hR hR5 hE hrd hEl HX HY
              go_wp2_with fail
              refine HR.out.mono ?_
              rintro e w3 ⟨v3, rfl, ho3, hb3⟩
              have HB3 := Lib.hid (below_on HB2.out HB2.out.size hb3)
              have HV3 := Lib.hid (SlB.keeps HV1.out hb3)
              have HAl := Lib.hid (Blk.new w3 45 (zC.C (.slice none 0 0)))
              have HB4 := Lib.hid (HB3.out.alloc HB3.out.size (.cells (zC.C (.slice none 0 0)).toArray 45))
              have HTH := Lib.hid (HAl.out.thereMid 0 23 (by decide))
              have hov : v3.oneCell' = true := by obtain ⟨a9, c9, rfl, _⟩ := OwI.sl ho3; rfl
              have HOV := Lib.hid hov
              clear ho3 hb3 HR HV1 HB2 hov
              go_wp2_with (first | (refine st_cm rfl _ _ rfl w3.heap.size rfl (kC kn loan a) v3 HOV.out rfl HTH.out ?_) | fail)
              intro w4 hW
              have HB5 : Hid (Below w.heap.size w w4) := by show Below _ _ _; rw [hW.out]; exact below_setCells _ _ HB4.out HB3.out.size
              have HA5 : Hid (Blk w4 w3.heap.size 45 ((kC kn loan a).C v3)) := by show Blk _ _ _ _; rw [hW.out]; exact HAl.out.setAll _ rfl
              have HV5 : Hid (SlB w4 v1 E) := by show SlB _ _ _; rw [hW.out]; exact SlB.keeps HV3.out (below_setCells _ _ (below_new1 w3 _) (Nat.le_refl _))
              have b0 := HA5.out.cell 0 _ rfl
              have b1 := HA5.out.cell 1 _ rfl
              have b2 := HA5.out.cell 2 _ rfl
              have el := HEL.out
              obtain ⟨av, cv, rfl, hsv⟩ := HV5.out
              have HSV := Lib.hid hsv
              have kq : ((UInt8.ofNat kn).toNat : Int) = (kn : Int) := by simp [UInt8.toNat_ofNat']; omega
              have HK := Lib.hid (fun U => asks_any (kn : Int) U)
              have q6 : (6 : Int) ≤ (E.length : Int) := by omega
              clear hsv hW HAl HTH HB4 HV3 HOV HEL el
              go_wp2_with (first | (refine ix_by (by rfl) _ _ rfl _ rfl E ⟨_, _, rfl, HSV.out⟩ 0 (by omega) rfl ?_; intro b off c' hck hcell; obtain rfl := Option.some.inj (HE0.out.symm.trans hck); simp only [Nat.add_zero] at hcell ⊢) | fail)
              by_cases kb : (20 : Int) ≤ kn
              · refine (HK.out _ true (by simp; omega)).mono ?_
                rintro e w5 ⟨rfl, hb5⟩
                have HB6 := Lib.hid (below_on HB5.out HB5.out.size hb5)
                go_wp2
                go_ret
                exact ⟨rfl, HB6.out⟩
              · refine (HK.out _ false (by simp; omega)).mono ?_
                rintro e w5 ⟨rfl, hb5⟩
                have HB6 := Lib.hid (below_on HB5.out HB5.out.size hb5)
                go_wp2
                go_ret
                exact ⟨by show Ending.returned (.bool (!decide ((20 : Int) ≤ (kn : Int)))) = _; rw [decide_eq_false (show ¬ (20 : Int) ≤ (kn : Int) by omega)]; rfl, HB6.out⟩
        · by_cases k1 : kind < 1
          · as_aux_lemma =>
              obtain rfl : s = ([], 221) := HX.out (by unfold kGood; omega)
              obtain ⟨a1, c1, rfl, hs1⟩ := HV1.out
              simp only [List.length_nil]
              clear hs1
              go_wp2
              go_ret
              exact ⟨rfl, HB2.out⟩
          · by_cases k2 : 25 < kind
            · as_aux_lemma =>
                obtain rfl : s = ([], 221) := HX.out (by unfold kGood; omega)
                obtain ⟨a1, c1, rfl, hs1⟩ := HV1.out
                simp only [List.length_nil]
                clear hs1
                go_wp2
                go_ret
                exact ⟨rfl, HB2.out⟩
            · as_aux_lemma =>
                obtain rfl : s = ([], 221) := HX.out (by unfold kGood; omega)
                obtain ⟨a1, c1, rfl, hs1⟩ := HV1.out
                simp only [List.length_nil]
                clear hs1
                go_wp2
                go_ret
                exact ⟨rfl, HB2.out⟩
      · by_cases k1 : kind < 1
        · as_aux_lemma =>
            obtain rfl : s = ([], 221) := HX.out (by unfold kGood; omega)
            obtain ⟨a1, c1, rfl, hs1⟩ := HV1.out
            simp only [List.length_nil]
            clear hs1
            go_wp2
            go_ret
            exact ⟨rfl, HB2.out⟩
        · by_cases k2 : 25 < kind
          · as_aux_lemma =>
              obtain rfl : s = ([], 221) := HX.out (by unfold kGood; omega)
              obtain ⟨a1, c1, rfl, hs1⟩ := HV1.out
              simp only [List.length_nil]
              clear hs1
              go_wp2
              go_ret
              exact ⟨rfl, HB2.out⟩
          · as_aux_lemma =>
              obtain rfl : s = ([], 221) := HX.out (by unfold kGood; omega)
              obtain ⟨a1, c1, rfl, hs1⟩ := HV1.out
              simp only [List.length_nil]
              clear hs1
              go_wp2
              go_ret
              exact ⟨rfl, HB2.out⟩
    · by_cases k1 : kind < 1
      · as_aux_lemma =>
          obtain rfl : s = ([], 221) := HX.out (by unfold kGood; omega)
          obtain ⟨a1, c1, rfl, hs1⟩ := HV1.out
          simp only [List.length_nil]
          clear hs1
          go_wp2
          go_ret
          exact ⟨rfl, HB2.out⟩
      · by_cases k2 : 25 < kind
        · as_aux_lemma =>
            obtain rfl : s = ([], 221) := HX.out (by unfold kGood; omega)
            obtain ⟨a1, c1, rfl, hs1⟩ := HV1.out
            simp only [List.length_nil]
            clear hs1
            go_wp2
            go_ret
            exact ⟨rfl, HB2.out⟩
        · as_aux_lemma =>
            obtain rfl : s = ([], 221) := HX.out (by unfold kGood; omega)
            obtain ⟨a1, c1, rfl, hs1⟩ := HV1.out
            simp only [List.length_nil]
            clear hs1
            go_wp2
            go_ret
            exact ⟨rfl, HB2.out⟩
  · by_cases k1 : kind < 1
    · as_aux_lemma =>
        obtain rfl : s = ([], 221) := HX.out (by unfold kGood; omega)
        obtain ⟨a1, c1, rfl, hs1⟩ := HV1.out
        simp only [List.length_nil]
        clear hs1
        go_wp2
        go_ret
        exact ⟨rfl, HB2.out⟩
    · by_cases k2 : 25 < kind
      · as_aux_lemma =>
          obtain rfl : s = ([], 221) := HX.out (by unfold kGood; omega)
          obtain ⟨a1, c1, rfl, hs1⟩ := HV1.out
          simp only [List.length_nil]
          clear hs1
          go_wp2
          go_ret
          exact ⟨rfl, HB2.out⟩
      · as_aux_lemma =>
          obtain rfl : s = ([], 221) := HX.out (by unfold kGood; omega)
          obtain ⟨a1, c1, rfl, hs1⟩ := HV1.out
          simp only [List.length_nil]
          clear hs1
          go_wp2
          go_ret
          exact ⟨rfl, HB2.out⟩
theorem ckinds_row (kind : Int) (hk : (Lit.int .i64 kind).wf = true) (loan : Int) (hlo : (Lit.int .i64 loan).wf = true) (a : Int) (ha : (Lit.int .i64 a).wf = true) (w : World) :
    Calls Try.prog 7 #[.int .i64 kind, .int .i64 loan, .int .i64 a] w fun e w' => e = .returned (.bool true) ∧ Below w.heap.size w w' :=
  have H : ∀ x : Int, (Lit.int .i64 x).wf = true → in64 x := fun x h => by
    simp [Lit.wf, IntKind.min, IntKind.max, IntKind.signed, IntKind.bits] at h
    exact h
  ckinds_law kind (H _ hk) loan (H _ hlo) a (H _ ha) w
end Go.Proofs.Ytdkcccigmejikaa
