/-
  The law DrawHonours.
-/
import Derived.Test.YtikfclioplploaaDwRu
import Derived.Test.YtikfclioplploaaDwP
set_option linter.unusedVariables false
set_option linter.unusedSimpArgs false
namespace Go.Proofs.Ytikfclioplploaa
open Go.RowKit Dg

set_option maxRecDepth 8000 in
set_option maxHeartbeats 16000000 in
theorem dhonours_core (ao : Option Addr) (cap : Nat) (B : List Int) (co : Option Addr) (cap2 : Nat) (A : List Aw) (r : Int) (w : World) (h : Sl w ao B.length cap (ic B)) (hA : SlAw w co cap2 A) (hl : B.length ≤ 16) (hl2 : A.length ≤ 60) (r0 : 0 ≤ r) (r1 : r ≤ 10000) :
    Calls Try.prog 5 #[.slice ao B.length cap, .slice co A.length cap2, .int .i64 r] w fun e w' => e = .returned (.bool true) ∧ Below w.heap.size w w' := by
  have HAl := Lib.hid (fun W => dalive_any W)
  have H := Lib.hid h; have HAc := Lib.hid hA
  have h40 : ¬ (16 : Int) < B.length := by omega
  have h42 : ¬ (60 : Int) < A.length := by omega
  obtain ⟨q, hq⟩ : ∃ q, newS B = q := ⟨_, rfl⟩
  have HN := Lib.hid (fun U (hu : Below w.heap.size w U) => rnew_any U ao cap B (h.keeps hu) q hq (by omega))
  obtain ⟨L, er⟩ := q
  have HQ := Lib.hid hq
  clear h hA hq
  go_enter Try.func5, Try.ntmps5
  go_wp2_with fail
  refine (HAl.out _).mono ?_
  rintro e w1 ⟨rfl, hb1⟩
  have HB1 := Lib.hid hb1
  clear hb1 HAl
  go_wp2_with fail
  refine (HN.out _ HB1.out).mono ?_
  rintro e w2 ⟨v2, rfl, ho2, hb2⟩
  have HB2 := Lib.hid (below_on HB1.out HB1.out.size hb2)
  obtain ⟨b2, d2, rfl, hs2⟩ := OwL.sl ho2
  have HL2 := Lib.hid hs2
  clear ho2 hs2 hb2 HN HB1
  by_cases he : er = 0
  · subst he
    obtain ⟨hF, hZ⟩ := fits_new HQ.out
    have HF := Lib.hid hF
    have HZ := Lib.hid hZ
    have HB3 := Lib.hid (HB2.out.alloc HB2.out.size (.cells #[] 33))
    have HL3 := Lib.hid (HL2.out.keeps (below_new1 w2 (.cells #[] 33)))
    obtain ⟨a3, c3, e3, hs3⟩ := OwW.sl (ownW_empty w2)
    have HD3 := Lib.hid hs3
    have HE3 := Lib.hid e3
    clear hF hZ hs3 e3 HQ HB2 HL2
    go_wp2
    go_loopw [7, 9, 63] (fun v u i wr => ∃ (k : Nat) (D : List Dw) (a : Option Addr) (c : Nat) (L : List Ln) (b : Option Addr) (d : Nat), k ≤ A.length ∧ i = .int .i64 k ∧ u = .slice a D.length c ∧ v = .slice b L.length d ∧ Hid (SlW wr a c D) ∧ Hid (SlL wr b d L) ∧ Hid (Fits D L) ∧ Hid (sumU L = 0) ∧ Below w.heap.size w wr) (fun _ _ i _ => A.length - (intOf i).toNat)
    case atStart => exact ⟨0, [], a3, c3, L, b2, d2, by omega, rfl, HE3.out, rfl, HD3.out, HL3.out, HF.out, HZ.out, HB3.out⟩
    case round =>
      clear HD3 HL3 HB3 HF HZ h40 hl H HE3
      obtain ⟨k, D, a, c, L, b, d, hk, rfl, rfl, rfl, HSW, HSL, HF, HZ, hb⟩ := hrel
      by_cases hkl : k < A.length
      · obtain ⟨⟨kd, at_, to_, am⟩, ht⟩ : ∃ t, A[k]? = some t := ⟨_, List.getElem?_eq_getElem hkl⟩
        have HT := Lib.hid ht
        have hwA := HAc.out.keeps hb
        have HB7 := Lib.hid (hb.alloc hb.size (.cells #[.int .i64 kd, .int .i64 at_, .int .i64 to_, .int .i64 am] 38))
        have HG7 := Lib.hid (Blk.new wr 38 [.int .i64 kd, .int .i64 at_, .int .i64 to_, .int .i64 am])
        have HSW7 := Lib.hid (HSW.out.alloc (.cells #[.int .i64 kd, .int .i64 at_, .int .i64 to_, .int .i64 am] 38))
        have HSL7 := Lib.hid (HSL.out.alloc (.cells #[.int .i64 kd, .int .i64 at_, .int .i64 to_, .int .i64 am] 38))
        clear ht hb HSW HSL
        by_cases d0 : kd = 0
        · subst d0
          as_aux_lemma =>
            obtain ⟨q, hq⟩ : ∃ q, askS D L at_ am = q := ⟨_, rfl⟩
            have HOp := Lib.hid (dask_any _ a c D HSW7.out (by have := (rightW_true HF.out.rd).1; omega) b d L HSL7.out at_ am q hq)
            obtain ⟨Kd, no, er⟩ := q
            have HQ := Lib.hid hq
            clear hq
            go_wp2_with (first | (refine ix_aw rfl _ _ rfl co cap2 A hwA rfl k _ HT.out rfl ?_; intro bb off k0 k1 k2 k3) | fail)
            refine HOp.out.mono ?_
            rintro e w9 ⟨v9, rfl, ho9, hb9⟩
            have HB9 := Lib.hid (below_on HB7.out HB7.out.size hb9)
            have HSW9 := Lib.hid (HSW7.out.keeps hb9)
            have HSL9 := Lib.hid (HSL7.out.keeps hb9)
            obtain ⟨a9, c9, rfl, hs9⟩ := OwW.sl ho9
            have HN9 : Hid (SlW w9 a9 c9 Kd) := hs9
            clear ho9 hs9 hb9 HOp HG7 HB7 HSW7 HSL7 k0 k1 k2 k3 hwA
            by_cases he : er = 0
            · subst he
              have HFk := Lib.hid (fits_ask HF.out HQ.out)
              go_wp2
              go_roundw
              · exact ⟨k + 1, Kd, a9, c9, L, b, d, by omega, by go_num, rfl, rfl, HN9.out, HSL9.out, HFk.out, HZ.out, HB9.out⟩
              · simp [intOf]; omega
            · go_wp2
              go_roundw
              · exact ⟨k + 1, D, a, c, L, b, d, by omega, by go_num, rfl, rfl, HSW9.out, HSL9.out, HF.out, HZ.out, HB9.out⟩
              · simp [intOf]; omega
        · by_cases d1 : kd = 1
          · subst d1
            clear d0
            as_aux_lemma =>
              obtain ⟨q, hq⟩ : ∃ q, apprS D L at_ = q := ⟨_, rfl⟩
              have HOp := Lib.hid (dappr_any _ a c D HSW7.out b d L HSL7.out at_ q hq)
              obtain ⟨Kd, er⟩ := q
              have HQ := Lib.hid hq
              clear hq
              go_wp2_with (first | (refine ix_aw rfl _ _ rfl co cap2 A hwA rfl k _ HT.out rfl ?_; intro bb off k0 k1 k2 k3) | fail)
              refine HOp.out.mono ?_
              rintro e w9 ⟨v9, rfl, ho9, hb9⟩
              have HB9 := Lib.hid (below_on HB7.out HB7.out.size hb9)
              have HSW9 := Lib.hid (HSW7.out.keeps hb9)
              have HSL9 := Lib.hid (HSL7.out.keeps hb9)
              obtain ⟨a9, c9, rfl, hs9⟩ := OwW.sl ho9
              have HN9 : Hid (SlW w9 a9 c9 Kd) := hs9
              clear ho9 hs9 hb9 HOp HG7 HB7 HSW7 HSL7 k0 k1 k2 k3 hwA
              by_cases he : er = 0
              · subst he
                have HFk := Lib.hid (fits_appr HF.out HQ.out)
                go_wp2
                go_roundw
                · exact ⟨k + 1, Kd, a9, c9, L, b, d, by omega, by go_num, rfl, rfl, HN9.out, HSL9.out, HFk.out, HZ.out, HB9.out⟩
                · simp [intOf]; omega
              · go_wp2
                go_roundw
                · exact ⟨k + 1, D, a, c, L, b, d, by omega, by go_num, rfl, rfl, HSW9.out, HSL9.out, HF.out, HZ.out, HB9.out⟩
                · simp [intOf]; omega
          · by_cases d2 : kd = 2
            · subst d2
              clear d0 d1
              as_aux_lemma =>
                obtain ⟨q, hq⟩ : ∃ q, refS D at_ = q := ⟨_, rfl⟩
                have HOp := Lib.hid (drefuse_any _ a c D HSW7.out at_ q hq)
                obtain ⟨Kd, er⟩ := q
                have HQ := Lib.hid hq
                clear hq
                go_wp2_with (first | (refine ix_aw rfl _ _ rfl co cap2 A hwA rfl k _ HT.out rfl ?_; intro bb off k0 k1 k2 k3) | fail)
                refine HOp.out.mono ?_
                rintro e w9 ⟨v9, rfl, ho9, hb9⟩
                have HB9 := Lib.hid (below_on HB7.out HB7.out.size hb9)
                have HSW9 := Lib.hid (HSW7.out.keeps hb9)
                have HSL9 := Lib.hid (HSL7.out.keeps hb9)
                obtain ⟨a9, c9, rfl, hs9⟩ := OwW.sl ho9
                have HN9 : Hid (SlW w9 a9 c9 Kd) := hs9
                clear ho9 hs9 hb9 HOp HG7 HB7 HSW7 HSL7 k0 k1 k2 k3 hwA
                by_cases he : er = 0
                · subst he
                  have HFk := Lib.hid (fits_ref HF.out HQ.out)
                  go_wp2
                  go_roundw
                  · exact ⟨k + 1, Kd, a9, c9, L, b, d, by omega, by go_num, rfl, rfl, HN9.out, HSL9.out, HFk.out, HZ.out, HB9.out⟩
                  · simp [intOf]; omega
                · go_wp2
                  go_roundw
                  · exact ⟨k + 1, D, a, c, L, b, d, by omega, by go_num, rfl, rfl, HSW9.out, HSL9.out, HF.out, HZ.out, HB9.out⟩
                  · simp [intOf]; omega
            · by_cases d4 : kd = 4
              · subst d4
                clear d0 d1 d2
                as_aux_lemma =>
                  obtain ⟨q, hq⟩ : ∃ q, inspS L at_ am = q := ⟨_, rfl⟩
                  have HOp := Lib.hid (rinsp_any _ b d L HSL7.out (by have := (rightL_true HF.out.rl).2.1; omega) at_ am q hq)
                  obtain ⟨Kd, er⟩ := q
                  have HQ := Lib.hid hq
                  clear hq
                  go_wp2_with (first | (refine ix_aw rfl _ _ rfl co cap2 A hwA rfl k _ HT.out rfl ?_; intro bb off k0 k1 k2 k3) | fail)
                  refine HOp.out.mono ?_
                  rintro e w9 ⟨v9, rfl, ho9, hb9⟩
                  have HB9 := Lib.hid (below_on HB7.out HB7.out.size hb9)
                  have HSW9 := Lib.hid (HSW7.out.keeps hb9)
                  have HSL9 := Lib.hid (HSL7.out.keeps hb9)
                  obtain ⟨a9, c9, rfl, hs9⟩ := OwL.sl ho9
                  have HN9 : Hid (SlL w9 a9 c9 Kd) := hs9
                  clear ho9 hs9 hb9 HOp HG7 HB7 HSW7 HSL7 k0 k1 k2 k3 hwA
                  by_cases he : er = 0
                  · subst he
                    have HFk := Lib.hid (fits_insp HF.out HQ.out)
                    go_wp2
                    go_roundw
                    · exact ⟨k + 1, D, a, c, Kd, a9, c9, by omega, by go_num, rfl, rfl, HSW9.out, HN9.out, HFk.out.1, HFk.out.2.trans HZ.out, HB9.out⟩
                    · simp [intOf]; omega
                  · go_wp2
                    go_roundw
                    · exact ⟨k + 1, D, a, c, L, b, d, by omega, by go_num, rfl, rfl, HSW9.out, HSL9.out, HF.out, HZ.out, HB9.out⟩
                    · simp [intOf]; omega
              · skip
                as_aux_lemma =>
                  clear HG7
                  go_wp2_with (first | (refine ix_aw rfl _ _ rfl co cap2 A hwA rfl k _ HT.out rfl ?_; intro bb off k0 k1 k2 k3) | fail)
                  go_roundw
                  · exact ⟨k + 1, D, a, c, L, b, d, by omega, by go_num, rfl, rfl, HSW7.out, HSL7.out, HF.out, HZ.out, HB7.out⟩
                  · simp [intOf]; omega
      · obtain rfl : k = A.length := by omega
        clear hkl
        have hlD := (rightW_true HF.out.rd).1
        go_wp2
        go_loopw [7, 9, 21, 22, 23] (fun v u pa ak i wr => ∃ (m : Nat) (D : List Dw) (a : Option Addr) (c : Nat) (L : List Ln) (b : Option Addr) (d : Nat), m ≤ D.length ∧ i = .int .i64 ((m : Int) - 1) ∧ u = .slice a D.length c ∧ v = .slice b L.length d ∧ pa = .int .i64 (sumU L) ∧ ak = .int .i64 (sumU L) ∧ Hid (SlW wr a c D) ∧ Hid (SlL wr b d L) ∧ Hid (Fits D L) ∧ Below w.heap.size w wr) (fun _ _ _ _ i _ => (intOf i + 1).toNat)
        case atStart => exact ⟨D.length, D, a, c, L, b, d, by omega, rfl, rfl, rfl, by rw [HZ.out], by rw [HZ.out], HSW.out, HSL.out, HF.out, hb⟩
        case round =>
          clear HSW HSL HF HZ hb hlD
          obtain ⟨m, D, a, c, L, b, d, hm, rfl, rfl, rfl, rfl, rfl, HSW, HSL, HF, hb⟩ := hrel
          by_cases hm0 : m = 0
          · subst hm0
            go_wp2
            -- all are met: what is used, counted
            have hlL := (rightL_true HF.out.rl).2.1
            go_loopw [32, 193] (fun u i wr2 => ∃ n : Nat, n ≤ L.length ∧ i = .int .i64 n ∧ u = .int .i64 (sumU (L.take n)) ∧ Below w.heap.size w wr2 ∧ SlL wr2 b d L) (fun _ i _ => L.length - (intOf i).toNat)
            case atStart => exact ⟨0, by omega, rfl, by simp [sumU], hb, HSL.out⟩
            case round =>
              obtain ⟨n, hn, rfl, rfl, hb3, hsl3⟩ := hrel
              have HSL3 := Lib.hid hsl3
              clear hsl3
              by_cases hnl : n < L.length
              · obtain ⟨⟨q, p, x, y⟩, ht⟩ : ∃ t, L[n]? = some t := ⟨_, List.getElem?_eq_getElem hnl⟩
                have HT := Lib.hid ht
                have hs := sumU_take ht
                have hi := sumU_at HF.out.rl n
                have hln := okLn_nums (show okLn (q, p, x, y) = true from List.all_eq_true.1 (rightL_true HF.out.rl).2.2 _ (List.mem_of_getElem? ht))
                obtain ⟨_, _, ⟨x0, x1⟩, ⟨y0, y1⟩, _⟩ := hln
                obtain ⟨z, hz⟩ : ∃ z, sumU (L.take n) = z := ⟨_, rfl⟩
                obtain ⟨i0, i1⟩ := hi
                rw [hz] at hs i0 i1
                rw [hz]
                replace hs : sumU (L.take (n + 1)) = z + (x + y) := hs
                have HS := Lib.hid hs
                have hw := HSL3.out
                have HB := Lib.hid (hb3.alloc hb3.size (.cells #[.int .i64 q, .int .i64 p, .int .i64 x, .int .i64 y] 23))
                have HSe := Lib.hid (HSL3.out.alloc (.cells #[.int .i64 q, .int .i64 p, .int .i64 x, .int .i64 y] 23))
                clear ht hz hs hb3 HSL3
                go_wp2_with (refine ix_ln rfl _ _ rfl b d L hw rfl n _ HT.out rfl ?_; intro b1 o1 k0 k1 k2 k3)
                refine ⟨⟨_, _, _, ?_, rfl, rfl, rfl⟩, ?_⟩
                · exact ⟨n + 1, by omega, by go_num, by rw [HS.out], HB.out, HSe.out⟩
                · simp [intOf]; omega
              · obtain rfl : n = L.length := by omega
                rw [List.take_length]
                obtain ⟨z, hz⟩ : ∃ z, sumU L = z := ⟨_, rfl⟩
                rw [hz]
                clear hz
                go_wp2
                go_ret
                exact ⟨rfl, hb3⟩
          · obtain ⟨n, rfl⟩ : ∃ n, m = n + 1 := ⟨m - 1, by omega⟩
            have en : ((n + 1 : Nat) : Int) - 1 = (n : Int) := by omega
            rw [en]
            have en2 : (n : Int) - 1 = (n : Int) - 1 := rfl
            have hn : n < D.length := by omega
            obtain ⟨⟨l, am, st⟩, ht⟩ : ∃ t, D[n]? = some t := ⟨_, List.getElem?_eq_getElem hn⟩
            have HT := Lib.hid ht
            have hw := HSW.out
            have hnI : (n : Int) < D.length := by omega
            have hD64 := (rightW_true HF.out.rd).1
            by_cases hst : st = 1
            · subst hst
              obtain ⟨M, paid, held, hf1, p0, p1, p2, p3, hFn, hsM, hf2⟩ := fits_fund HF.out ht r0 r1
              have HFn := Lib.hid hFn
              have HsM := Lib.hid hsM
              have hP := sumU_at HF.out.rl L.length
              rw [List.take_length] at hP
              obtain ⟨z, hz⟩ : ∃ z, sumU L = z := ⟨_, rfl⟩
              rw [hz] at hP HsM
              rw [hz]
              obtain ⟨z0, z1⟩ := hP
              obtain ⟨D2, hD2⟩ : ∃ X, D.set n (l, am, 2) = X := ⟨_, rfl⟩
              have hlD : D2.length = D.length := by rw [← hD2, List.length_set]
              have HF1 := Lib.hid (dfund_any wr a c D HSW.out b d L HSL.out n r _ hf1)
              have HF2 := fun U a9 c9 (h9 : SlW U a9 c9 D2) b9 d9 (k9 : SlL U b9 d9 M) => dfund_any U a9 c9 D2 h9 b9 d9 M k9 n r ([], [], (0, 0, 0, 0), 152) (by rw [← hD2]; exact hf2)
              have HFF := Lib.hid HF2
              rw [hD2] at HF1 HFn
              have HHB := Lib.hid hb
              have HLD := Lib.hid hlD
              clear hf1 hf2 hFn hsM hz HF2 hD2 ht hb hlD
              go_wp2_with (first | (refine ix_dw rfl _ _ rfl a c D hw rfl n _ HT.out rfl ?_; intro b1 o1 k0 k1 k2) | fail)
              refine HF1.out.mono ?_
              rintro e w9 ⟨v9, u9, rfl, ho9, hp9, hb9⟩
              obtain ⟨a9, c9, rfl, hs9⟩ := OwW.sl ho9
              obtain ⟨b9, d9, rfl, ht9⟩ := OwL.sl hp9
              have hbx := hb9.alloc hb9.size (.cells #[.int .i64 0, .int .i64 0, .int .i64 paid, .int .i64 held] 23)
              have HB9 := Lib.hid (below_on HHB.out HHB.out.size hbx)
              have HX9 := Lib.hid (Blk.new w9 23 [.int .i64 0, .int .i64 0, .int .i64 paid, .int .i64 held])
              have HN9 : Hid (SlW (w9.alloc (.cells #[.int .i64 0, .int .i64 0, .int .i64 paid, .int .i64 held] 23)) a9 c9 D2) := Rk.alloc hs9 (.cells #[.int .i64 0, .int .i64 0, .int .i64 paid, .int .i64 held] 23)
              have HY9 : Hid (SlL (w9.alloc (.cells #[.int .i64 0, .int .i64 0, .int .i64 paid, .int .i64 held] 23)) b9 d9 M) := Rk.alloc ht9 (.cells #[.int .i64 0, .int .i64 0, .int .i64 paid, .int .i64 held] 23)
              have hq9 := HSW.out.keeps hb9
              have HSW9 := Lib.hid (HSW.out.keeps hbx)
              obtain ⟨b2, o2, rfl, hc2⟩ := hq9.cells (by
                intro e
                have := rc_at dwc_len HT.out 0 _ rfl
                rw [e] at this; simp at this)
              obtain ⟨j0, j1, j2⟩ := dw_cells hc2 HT.out
              have hlt2 := World.block_lt_of_cell? w9 _ j1
              replace hlt2 : b2 < w9.heap.size := hlt2
              replace j1 : w9.cell? ⟨b2, o2 + n * 3 + 1, none⟩ = some (.int .i64 am) := j1
              have hsum : IntKind.i64.wrap (paid + held) = am := by rw [IntKind.wrap_i64]; omega
              clear ho9 hp9 hs9 ht9 hb9 hq9 hc2 j0 j2 HF1 k0 k1 k2 hw HSW HSL HHB hbx
              go_wp2
              go_quiet (fail)
              have hq0 := pw_belowN (Below.refl (w9.alloc (.cells #[.int .i64 0, .int .i64 0, .int .i64 paid, .int .i64 held] 23)).heap.size (w9.alloc (.cells #[.int .i64 0, .int .i64 0, .int .i64 paid, .int .i64 held] 23))) nq
              have hbq := pw_belowN HB9.out nq
              have HFs := Lib.hid (HFF.out _ a9 c9 (HN9.out.keeps hq0) b9 d9 (HY9.out.keeps hq0))
              rw [HLD.out] at HFs ⊢
              have HBq := Lib.hid hbq
              have HXq := Lib.hid (HX9.out.keeps hq0)
              have HSWq := Lib.hid (HSW9.out.keeps hq0)
              have HNq := Lib.hid (HN9.out.keeps hq0)
              have HYq := Lib.hid (HY9.out.keeps hq0)
              clear hq0 hbq HB9 HX9 HSW9 HN9 HY9 j1 hlt2 HFF hsum
              go_wp2_with fail
              refine HFs.out.mono ?_
              rintro e w10 ⟨v10, u10, rfl, ho10, hp10, hb10⟩
              have HB10 := Lib.hid (below_on HBq.out HBq.out.size hb10)
              have HX10 := Lib.hid (HXq.out.keeps hb10)
              have HSW10 := Lib.hid (HSWq.out.keeps hb10)
              have HN10 := Lib.hid (HNq.out.keeps hb10)
              have HY10 := Lib.hid (HYq.out.keeps hb10)
              have HB11 := Lib.hid (HB10.out.alloc HB10.out.size (.cells #[.int .i64 0, .int .i64 0, .int .i64 0, .int .i64 0] 23))
              have hw11 := HSW10.out.alloc (.cells #[.int .i64 0, .int .i64 0, .int .i64 0, .int .i64 0] 23)
              have HN11 := Lib.hid (HN10.out.alloc (.cells #[.int .i64 0, .int .i64 0, .int .i64 0, .int .i64 0] 23))
              have HY11 := Lib.hid (HY10.out.alloc (.cells #[.int .i64 0, .int .i64 0, .int .i64 0, .int .i64 0] 23))
              have x2 := HX10.out.cell 2 _ rfl
              have x3 := HX10.out.cell 3 _ rfl
              have xl := HX10.out.lt
              obtain ⟨gx, hgx⟩ : ∃ g, w9.heap.size = g := ⟨_, rfl⟩
              rw [hgx] at x2 x3 xl
              simp only [hgx]
              replace x2 : w10.cell? ⟨gx, 2, none⟩ = some (.int .i64 paid) := x2
              replace x3 : w10.cell? ⟨gx, 3, none⟩ = some (.int .i64 held) := x3
              clear ho10 hp10 hb10 HB10 HSW10 HN10 HY10 HBq HXq HSWq HNq HYq HFs hgx HX10
              go_wp2_with (first | (refine ix_dw rfl _ _ rfl (some ⟨b2, o2, none⟩) c D hw11 rfl n _ HT.out rfl ?_; intro b1 o1 k0 k1 k2) | fail)
              go_roundw
              · exact ⟨n, D2, a9, c9, M, b9, d9, by rw [HLD.out]; omega, by go_num, by rw [HLD.out], rfl, by rw [HsM.out] <;> (congr 1; omega), by rw [HsM.out] <;> (congr 1; omega), HN11.out, HY11.out, HFn.out, HB11.out⟩
              · simp [intOf] <;> omega
            · go_wp2_with (first | (refine ix_dw rfl _ _ rfl a c D hw rfl n _ HT.out rfl ?_; intro b1 o1 k0 k1 k2) | fail)
              go_roundw
              · exact ⟨n, D, a, c, L, b, d, by omega, by go_num, rfl, rfl, rfl, rfl, HSW.out, HSL.out, HF.out, hb⟩
              · simp [intOf] <;> omega
  · go_wp2
    go_ret
    exact ⟨rfl, HB2.out⟩
set_option maxRecDepth 8000 in
theorem drawHonours_law (ao : Option Addr) (cap : Nat) (B : List Int) (wB : ∀ x ∈ B, (Lit.int .i64 x).wf = true) (co : Option Addr) (cap2 : Nat) (A : List Aw) (r : Int) (w : World) (h : Sl w ao B.length cap (ic B)) (hA : SlAw w co cap2 A) :
    Calls Try.prog 5 #[.slice ao B.length cap, .slice co A.length cap2, .int .i64 r] w fun e w' => e = .returned (.bool true) ∧ Below w.heap.size w w' := by
  clear wB
  by_cases hl : B.length ≤ 16
  · have i0 : ¬ (16 : Int) < B.length := by omega
    by_cases hl2 : A.length ≤ 60
    · have i2 : ¬ (60 : Int) < A.length := by omega
      by_cases r0 : 0 ≤ r
      · by_cases r1 : r ≤ 10000
        · exact dhonours_core ao cap B co cap2 A r w h hA hl hl2 r0 r1
        · have i3 : 10000 < r := by omega
          clear r1
          have HAl := Lib.hid (fun W => dalive_any W)
          clear h hA
          go_enter Try.func5, Try.ntmps5
          go_wp2_with fail
          refine (HAl.out _).mono ?_
          rintro e w1 ⟨rfl, hb1⟩
          go_wp2
          go_ret
          exact ⟨rfl, hb1⟩
      · have i3 : r < 0 := by omega
        clear r0
        have HAl := Lib.hid (fun W => dalive_any W)
        clear h hA
        go_enter Try.func5, Try.ntmps5
        go_wp2_with fail
        refine (HAl.out _).mono ?_
        rintro e w1 ⟨rfl, hb1⟩
        go_wp2
        go_ret
        exact ⟨rfl, hb1⟩
    · have i2 : (60 : Int) < A.length := by omega
      clear hl2
      have HAl := Lib.hid (fun W => dalive_any W)
      clear h hA
      go_enter Try.func5, Try.ntmps5
      go_wp2_with fail
      refine (HAl.out _).mono ?_
      rintro e w1 ⟨rfl, hb1⟩
      go_wp2
      go_ret
      exact ⟨rfl, hb1⟩
  · have i0 : (16 : Int) < B.length := by omega
    clear hl
    have HAl := Lib.hid (fun W => dalive_any W)
    clear h hA
    go_enter Try.func5, Try.ntmps5
    go_wp2_with fail
    refine (HAl.out _).mono ?_
    rintro e w1 ⟨rfl, hb1⟩
    go_wp2
    go_ret
    exact ⟨rfl, hb1⟩
end Go.Proofs.Ytikfclioplploaa
