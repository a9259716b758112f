/-
  The walk of the law BudgetBack.
-/
import Derived.Test.YtdiejmokbmaejaaBgBk
set_option linter.unusedVariables false
set_option linter.unusedSimpArgs false
namespace Go.Proofs.Ytdiejmokbmaejaa
open Go.RowKit Dg

set_option maxRecDepth 8000 in
set_option maxHeartbeats 4000000 in
theorem back_core (ao : Option Addr) (cap : Nat) (B : List Int) (n0 n1 am : Int) (w : World) (h : Sl w ao B.length cap (ic B)) (hl : B.length ≤ 16) :
    Calls Try.prog 4 #[.slice ao B.length cap, .agg #[.int .i64 n0, .int .i64 n1], .int .i64 am] w fun e w' => e = .returned (.bool true) ∧ Below w.heap.size w w' := by
  have HAl := Lib.hid (fun W => balive_any W)
  have HB0 := Lib.hid (below_new1 w (.cells #[.int .i64 n0, .int .i64 n1] 39))
  have HD0 := Lib.hid (Blk.new w 39 [.int .i64 n0, .int .i64 n1])
  obtain ⟨s, hs⟩ : ∃ s, newS B = s := ⟨_, rfl⟩
  have HN := Lib.hid (fun U (hu : Below w.heap.size w U) => bnew_any U ao cap B (h.keeps hu) s hs (by omega))
  have hok := newS_ok (B := B)
  rw [hs] at hok
  have HOK := Lib.hid hok
  have HBA0 := Lib.hid (fun (k : Nat) (t : Ln) (h : (bare B)[k]? = some t) => bare_at h)
  obtain ⟨L, hL⟩ : ∃ L, bare B = L := ⟨_, rfl⟩
  rw [hL] at HOK
  have HBA : Hid (∀ (k : Nat) (t : Ln), L[k]? = some t → ∃ b, t = (b, 0, 0, 0)) := by
    intro k t ht; rw [← hL] at ht; exact HBA0.out k t ht
  have h16 : ¬ (16 : Int) < B.length := by omega
  clear h hs hok HBA0 hL
  go_enter Try.func4, Try.ntmps4
  go_wp2_with fail
  refine (HAl.out _).mono ?_
  rintro e w1 ⟨rfl, hb1⟩
  have HB1 := Lib.hid (below_on HB0.out HB0.out.size hb1)
  have hD := HD0.out.keeps hb1
  have d0 := hD.cell 0 _ rfl; have d1 := hD.cell 1 _ rfl
  clear hb1 hD
  go_wp2
  go_quiet (fail)
  go_wp2_with fail
  refine (HN.out _ (pw_belowN HB1.out _)).mono ?_
  rintro e w2 ⟨v2, rfl, ho2, hb2⟩
  have HB2 := Lib.hid (below_on (pw_belowN HB1.out _) HB1.out.size hb2)
  clear hb2 HN d0 d1
  obtain ⟨s1, se⟩ := s
  by_cases hse : se = 0
  · subst hse
    obtain ⟨hr, hse⟩ := HOK.out rfl
    obtain ⟨rfl, _⟩ : s1 = L ∧ True := by simpa using hse
    have HRt := Lib.hid hr
    obtain ⟨a1, c1, rfl, hs1⟩ := OwL.sl ho2
    have HS2 : Hid (SlL w2 a1 c1 s1) := hs1
    obtain ⟨q, hq⟩ : ∃ q, moveS s1 n0 n1 am = q := ⟨_, rfl⟩
    have HM := Lib.hid (bmove_any w2 a1 c1 s1 hs1 n0 n1 am q hq)
    have HQ := Lib.hid hq
    clear ho2 hs1 hq hr hse HOK
    go_wp2_with fail
    refine HM.out.mono ?_
    rintro e w3 ⟨v3, rfl, ho3, hb3⟩
    have HB3 := Lib.hid (below_on HB2.out HB2.out.size hb3)
    have HS3 := Lib.hid (HS2.out.keeps hb3)
    have HO3 := Lib.hid ho3
    clear hb3 HM ho3
    obtain ⟨K, qe⟩ := q
    by_cases hqe : qe = 0
    · subst hqe
      obtain ⟨hb, hrK, htK, hrL, hKl⟩ := move_back HQ.out
      obtain ⟨a3, c3, rfl, hs3⟩ := OwL.sl HO3.out
      have HSK : Hid (SlL w3 a3 c3 K) := hs3
      have HM := Lib.hid (bmove_any w3 a3 c3 K hs3 n1 n0 am _ hb)
      have HRK := Lib.hid hrK; have HTK := Lib.hid htK
      clear hb hrK htK hrL hKl hs3 HQ
      go_wp2_with fail
      refine HM.out.mono ?_
      rintro e w4 ⟨v4, rfl, ho4, hb4⟩
      have HB4 := Lib.hid (below_on HB3.out HB3.out.size hb4)
      have HS4 := Lib.hid (HS3.out.keeps hb4)
      have HSK4 := Lib.hid (HSK.out.keeps hb4)
      obtain ⟨a4, c4, rfl, hs4⟩ := OwL.sl ho4
      have HSm := Lib.hid (bsame_any w4 a4 c4 s1 a1 c1 s1 hs4 HS4.out true (by simp) (by have := (rightL_true HRt.out).2.1; omega))
      clear ho4 hb4 hs4 HM
      go_wp2_with fail
      refine HSm.out.mono ?_
      rintro e w5 ⟨rfl, hb5⟩
      have HB5 := Lib.hid (below_on HB4.out HB4.out.size hb5)
      have HS5 := Lib.hid (HS4.out.keeps hb5)
      have HTo := Lib.hid (total_any w5 a3 c3 K (HSK4.out.keeps hb5) HRK.out)
      clear hb5 HSm
      rw [HTK.out] at HTo
      go_wp2_with fail
      refine HTo.out.mono ?_
      rintro e w6 ⟨rfl, hb6⟩
      have HB6 := Lib.hid (below_on HB5.out HB5.out.size hb6)
      have HS6 := Lib.hid (HS5.out.keeps hb6)
      have HTo2 := Lib.hid (total_any w6 a1 c1 s1 HS6.out HRt.out)
      clear hb6 HTo
      go_wp2_with fail
      refine HTo2.out.mono ?_
      rintro e w7 ⟨rfl, hb7⟩
      have HB := Lib.hid (below_on HB6.out HB6.out.size hb7)
      have HS := Lib.hid (HS6.out.keeps hb7)
      clear hb7 HTo2
      by_cases g0 : n0 < 0
      · go_wp2
        go_ret
        exact ⟨rfl, HB.out⟩
      · by_cases g1 : (s1.length : Int) ≤ n0
        · go_wp2
          go_ret
          exact ⟨rfl, HB.out⟩
        · obtain ⟨n, rfl⟩ := Int.eq_ofNat_of_zero_le (show 0 ≤ n0 by omega)
          have hn : n < s1.length := by omega
          have hn' : ¬ s1.length ≤ n := by omega
          have hn0 : ¬ ((n : Int) < 0) := by omega
          have hn1 : ¬ ((s1.length : Int) ≤ n) := by omega
          clear g0 g1
          obtain ⟨t, ht⟩ : ∃ t, s1[n]? = some t := ⟨_, List.getElem?_eq_getElem hn⟩
          obtain ⟨b, rfl⟩ := HBA.out n t ht
          have HT := Lib.hid ht
          have hw := HS.out
          by_cases g2 : b < 2
          · clear ht
            go_wp2_with (refine ix_ln rfl _ _ rfl a1 c1 s1 hw rfl n _ HT.out rfl ?_; intro bb off k0 k1 k2 k3)
            go_ret
            exact ⟨rfl, HB.out⟩
          · have hbm : b ≤ 1000000000000 := (okLn_true (List.all_eq_true.1 (rightL_true HRt.out).2.2 _ (List.mem_of_getElem? ht))).1.2
            obtain ⟨p1, p2, p3, p4⟩ := back_plain HRt.out ht (show 2 ≤ b by omega)
            have h1t : (s1.set n (b, 10000, 1, 0))[n]? = some (b, 10000, 1, 0) := List.getElem?_set_self hn
            have h3t : (s1.set n (1, 10000, 1, 0))[n]? = some (1, 10000, 1, 0) := List.getElem?_set_self hn
            obtain ⟨L1, hL1⟩ : ∃ M, s1.set n (b, 10000, 0, 0) = M := ⟨_, rfl⟩
            obtain ⟨L2, hL2⟩ : ∃ M, s1.set n (b, 10000, 1, 0) = M := ⟨_, rfl⟩
            obtain ⟨L3, hL3⟩ : ∃ M, s1.set n (1, 10000, 1, 0) = M := ⟨_, rfl⟩
            rw [hL1] at p1 p2
            rw [hL2] at p2 p3 p4
            rw [hL3] at p3 h3t
            have HI := Lib.hid (binsp_any _ a1 c1 s1 hw n 10000 _ p1)
            have P2 := Lib.hid p2; have P3 := Lib.hid p3; have P4 := Lib.hid p4; have H3t := Lib.hid h3t
            have hn3 : n < L3.length := by rw [← hL3, List.length_set]; exact hn
            clear ht p1 p2 p3 p4 h1t h3t hL1 hL2 hL3
            go_wp2_with (refine ix_ln rfl _ _ rfl a1 c1 s1 hw rfl n _ HT.out rfl ?_; intro bb off k0 k1 k2 k3)
            refine HI.out.mono ?_
            rintro e w11 ⟨v11, rfl, ho11, hb11⟩
            have HB11 := Lib.hid (below_on HB.out HB.out.size hb11)
            have HS11 := Lib.hid (HS.out.keeps hb11)
            obtain ⟨a11, c11, rfl, hs11⟩ := OwL.sl ho11
            have HP := Lib.hid (bpay_any w11 a11 c11 L1 hs11 n 1 0 _ P2.out)
            clear ho11 hb11 hs11 HI k0 k1 k2 k3 hw
            go_wp2_with fail
            refine HP.out.mono ?_
            rintro e w12 ⟨v12, rfl, ho12, hb12⟩
            have HB12 := Lib.hid (below_on HB11.out HB11.out.size hb12)
            have HS12 := Lib.hid (HS11.out.keeps hb12)
            obtain ⟨a12, c12, rfl, hs12⟩ := OwL.sl ho12
            have HS12b : Hid (SlL w12 a12 c12 L2) := hs12
            have HC := Lib.hid (bcut_any w12 a12 c12 L2 hs12 n (b - 1) _ P3.out)
            have hw := HS12.out
            clear ho12 hb12 hs12 HP
            go_wp2_with (refine ix_ln rfl _ _ rfl a1 c1 s1 hw rfl n _ HT.out rfl ?_; intro bb off k0 k1 k2 k3)
            refine HC.out.mono ?_
            rintro e w13 ⟨v13, rfl, ho13, hb13⟩
            have HB13 := Lib.hid (below_on HB12.out HB12.out.size hb13)
            have HO13 := Lib.hid ho13
            have HD := Lib.hid (bcut_any w13 a12 c12 L2 (HS12b.out.keeps hb13) n b _ P4.out)
            have hw2 := HS12.out.keeps hb13
            clear ho13 hb13 HC k0 k1 k2 k3 hw
            go_wp2_with (refine ix_ln rfl _ _ rfl a1 c1 s1 hw2 rfl n _ HT.out rfl ?_; intro bb off k0 k1 k2 k3)
            refine HD.out.mono ?_
            rintro e w14 ⟨v14, rfl, _, hb14⟩
            have HB14 := Lib.hid (below_on HB13.out HB13.out.size hb14)
            obtain ⟨a13, c13, rfl, hs13⟩ := OwL.sl (own_kp HO13.out hb14)
            clear hb14 HD k0 k1 k2 k3 hw2
            go_wp2_with (refine ix_ln rfl _ _ rfl a13 c13 L3 hs13 rfl n _ H3t.out rfl ?_; intro bb off k0 k1 k2 k3)
            go_ret
            exact ⟨rfl, HB14.out⟩
    · have HB := HB3
      have HS := HS3
      by_cases g0 : n0 < 0
      · go_wp2
        go_ret
        exact ⟨rfl, HB.out⟩
      · by_cases g1 : (s1.length : Int) ≤ n0
        · go_wp2
          go_ret
          exact ⟨rfl, HB.out⟩
        · obtain ⟨n, rfl⟩ := Int.eq_ofNat_of_zero_le (show 0 ≤ n0 by omega)
          have hn : n < s1.length := by omega
          have hn' : ¬ s1.length ≤ n := by omega
          have hn0 : ¬ ((n : Int) < 0) := by omega
          have hn1 : ¬ ((s1.length : Int) ≤ n) := by omega
          clear g0 g1
          obtain ⟨t, ht⟩ : ∃ t, s1[n]? = some t := ⟨_, List.getElem?_eq_getElem hn⟩
          obtain ⟨b, rfl⟩ := HBA.out n t ht
          have HT := Lib.hid ht
          have hw := HS.out
          by_cases g2 : b < 2
          · clear ht
            go_wp2_with (refine ix_ln rfl _ _ rfl a1 c1 s1 hw rfl n _ HT.out rfl ?_; intro bb off k0 k1 k2 k3)
            go_ret
            exact ⟨rfl, HB.out⟩
          · have hbm : b ≤ 1000000000000 := (okLn_true (List.all_eq_true.1 (rightL_true HRt.out).2.2 _ (List.mem_of_getElem? ht))).1.2
            obtain ⟨p1, p2, p3, p4⟩ := back_plain HRt.out ht (show 2 ≤ b by omega)
            have h1t : (s1.set n (b, 10000, 1, 0))[n]? = some (b, 10000, 1, 0) := List.getElem?_set_self hn
            have h3t : (s1.set n (1, 10000, 1, 0))[n]? = some (1, 10000, 1, 0) := List.getElem?_set_self hn
            obtain ⟨L1, hL1⟩ : ∃ M, s1.set n (b, 10000, 0, 0) = M := ⟨_, rfl⟩
            obtain ⟨L2, hL2⟩ : ∃ M, s1.set n (b, 10000, 1, 0) = M := ⟨_, rfl⟩
            obtain ⟨L3, hL3⟩ : ∃ M, s1.set n (1, 10000, 1, 0) = M := ⟨_, rfl⟩
            rw [hL1] at p1 p2
            rw [hL2] at p2 p3 p4
            rw [hL3] at p3 h3t
            have HI := Lib.hid (binsp_any _ a1 c1 s1 hw n 10000 _ p1)
            have P2 := Lib.hid p2; have P3 := Lib.hid p3; have P4 := Lib.hid p4; have H3t := Lib.hid h3t
            have hn3 : n < L3.length := by rw [← hL3, List.length_set]; exact hn
            clear ht p1 p2 p3 p4 h1t h3t hL1 hL2 hL3
            go_wp2_with (refine ix_ln rfl _ _ rfl a1 c1 s1 hw rfl n _ HT.out rfl ?_; intro bb off k0 k1 k2 k3)
            refine HI.out.mono ?_
            rintro e w11 ⟨v11, rfl, ho11, hb11⟩
            have HB11 := Lib.hid (below_on HB.out HB.out.size hb11)
            have HS11 := Lib.hid (HS.out.keeps hb11)
            obtain ⟨a11, c11, rfl, hs11⟩ := OwL.sl ho11
            have HP := Lib.hid (bpay_any w11 a11 c11 L1 hs11 n 1 0 _ P2.out)
            clear ho11 hb11 hs11 HI k0 k1 k2 k3 hw
            go_wp2_with fail
            refine HP.out.mono ?_
            rintro e w12 ⟨v12, rfl, ho12, hb12⟩
            have HB12 := Lib.hid (below_on HB11.out HB11.out.size hb12)
            have HS12 := Lib.hid (HS11.out.keeps hb12)
            obtain ⟨a12, c12, rfl, hs12⟩ := OwL.sl ho12
            have HS12b : Hid (SlL w12 a12 c12 L2) := hs12
            have HC := Lib.hid (bcut_any w12 a12 c12 L2 hs12 n (b - 1) _ P3.out)
            have hw := HS12.out
            clear ho12 hb12 hs12 HP
            go_wp2_with (refine ix_ln rfl _ _ rfl a1 c1 s1 hw rfl n _ HT.out rfl ?_; intro bb off k0 k1 k2 k3)
            refine HC.out.mono ?_
            rintro e w13 ⟨v13, rfl, ho13, hb13⟩
            have HB13 := Lib.hid (below_on HB12.out HB12.out.size hb13)
            have HO13 := Lib.hid ho13
            have HD := Lib.hid (bcut_any w13 a12 c12 L2 (HS12b.out.keeps hb13) n b _ P4.out)
            have hw2 := HS12.out.keeps hb13
            clear ho13 hb13 HC k0 k1 k2 k3 hw
            go_wp2_with (refine ix_ln rfl _ _ rfl a1 c1 s1 hw2 rfl n _ HT.out rfl ?_; intro bb off k0 k1 k2 k3)
            refine HD.out.mono ?_
            rintro e w14 ⟨v14, rfl, _, hb14⟩
            have HB14 := Lib.hid (below_on HB13.out HB13.out.size hb14)
            obtain ⟨a13, c13, rfl, hs13⟩ := OwL.sl (own_kp HO13.out hb14)
            clear hb14 HD k0 k1 k2 k3 hw2
            go_wp2_with (refine ix_ln rfl _ _ rfl a13 c13 L3 hs13 rfl n _ H3t.out rfl ?_; intro bb off k0 k1 k2 k3)
            go_ret
            exact ⟨rfl, HB14.out⟩
  · clear HOK HBA ho2
    go_wp2
    go_ret
    exact ⟨rfl, HB2.out⟩
set_option maxRecDepth 8000 in
theorem budgetBack_law (ao : Option Addr) (cap : Nat) (B : List Int) (wB : ∀ x ∈ B, (Lit.int .i64 x).wf = true) (n0 n1 am : Int) (w : World) (h : Sl w ao B.length cap (ic B)) :
    Calls Try.prog 4 #[.slice ao B.length cap, .agg #[.int .i64 n0, .int .i64 n1], .int .i64 am] w fun e w' => e = .returned (.bool true) ∧ Below w.heap.size w w' := by
  by_cases hl : B.length ≤ 16
  · exact back_core ao cap B n0 n1 am w h hl
  · have HAl := Lib.hid (fun W => balive_any W)
    have HB0 := Lib.hid (below_new1 w (.cells #[.int .i64 n0, .int .i64 n1] 39))
    have h16 : (16 : Int) < B.length := by omega
    clear h wB hl
    go_enter Try.func4, Try.ntmps4
    go_wp2_with fail
    refine (HAl.out _).mono ?_
    rintro e w1 ⟨rfl, hb1⟩
    have HB1 := Lib.hid (below_on HB0.out HB0.out.size hb1)
    clear hb1
    go_wp2
    go_ret
    exact ⟨rfl, HB1.out⟩
end Go.Proofs.Ytdiejmokbmaejaa
