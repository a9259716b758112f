/-
  The walk of command.read.
-/
import Derived.Test.YtdkcccigmejikaaCmU
set_option linter.unusedVariables false
set_option linter.unusedSimpArgs false
set_option maxRecDepth 20000
namespace Go.Proofs.Ytdkcccigmejikaa
open Go.RowKit

set_option maxHeartbeats 12800000 in
theorem cread_any (w : World) (r : Nat) (B : List UInt8) (h : RdQ w r B false) (s : Cm × List UInt8 × Bool) (hs : parseC 26 B = s) :
    Calls Try.prog 42 #[.pointer (some ⟨r, 0, none⟩)] w fun e w' => ∃ v, e = .returned (.agg (s.1.C v).toArray) ∧ OwI w' w.heap.size v s.1.L ∧ RdQ w' r s.2.1 s.2.2 ∧ w.grownBy w' (some r) := by
  obtain ⟨⟨kn, L0, f0⟩, e0⟩ : ∃ q, rdSm 26 B false = q := ⟨_, rfl⟩
  obtain ⟨⟨y0, L1, f1⟩, e1⟩ : ∃ q, rdI L0 f0 = q := ⟨_, rfl⟩
  obtain ⟨⟨y1, L2, f2⟩, e2⟩ : ∃ q, rdI L1 f1 = q := ⟨_, rfl⟩
  obtain ⟨⟨y2, L3, f3⟩, e3⟩ : ∃ q, rdI L2 f2 = q := ⟨_, rfl⟩
  obtain ⟨⟨y3, L4, f4⟩, e4⟩ : ∃ q, rdI L3 f3 = q := ⟨_, rfl⟩
  obtain ⟨⟨y4, L5, f5⟩, e5⟩ : ∃ q, rdI L4 f4 = q := ⟨_, rfl⟩
  have h5 : rdIs 5 L0 f0 = ([y0, y1, y2, y3, y4], L5, f5) := by
    rw [rdIs_cons _ _ _ _ _ _ e1, rdIs_cons _ _ _ _ _ _ e2, rdIs_cons _ _ _ _ _ _ e3, rdIs_cons _ _ _ _ _ _ e4, rdIs_cons _ _ _ _ _ _ e5]
    rfl
  have HP5 := Lib.hid h5
  have HE0 := Lib.hid e0
  have HE1 := Lib.hid e1
  have HE2 := Lib.hid e2
  have HE3 := Lib.hid e3
  have HE4 := Lib.hid e4
  have HE5 := Lib.hid e5
  have HR0 := Lib.hid h
  have HPS := Lib.hid hs
  have HSm := small_q 26 (by decide) _ r B false (h.alloc (.cells (zC.C (.slice none 0 0)).toArray 45))
  rw [e0] at HSm
  replace HSm := Lib.hid HSm
  clear h5 e0 e1 e2 e3 e4 e5 h hs
  go_enter Try.func42, Try.ntmps42
  go_wp2_with fail
  refine HSm.out.mono ?_
  rintro e w2 ⟨rfl, hr2, hg2⟩
  have HSz := Lib.hid (RS.start HR0.out hr2 hg2 zC rfl)
  have HTH := Lib.hid (HSz.out.bl.thereMid 0 23 (by decide))
  go_wp2_with (first | (refine st_cm rfl _ _ rfl w2.heap.size rfl (⟨(kn : Int), 0, 0, 0, 0, 0, [], 0, 0, 0, 0, 0, 0, 0, 0, 0, 0, 0, 0, 0, 0, 0, 0⟩ : Cm) (.slice none 0 0) rfl rfl HTH.out ?_) | fail)
  intro w2b hW
  have HSa : Hid (RS w w2b r w.heap.size w2.heap.size (⟨(kn : Int), 0, 0, 0, 0, 0, [], 0, 0, 0, 0, 0, 0, 0, 0, 0, 0, 0, 0, 0, 0, 0, 0⟩ : Cm) (.slice none 0 0) L0 f0) := by show RS _ _ _ _ _ _ _ _ _; rw [hW.out]; exact HSz.out.setAll _ rfl
  clear hW HTH HSz
  obtain ⟨g0, hg0⟩ : ∃ g, w.heap.size = g := ⟨_, rfl⟩
  obtain ⟨ga, hga⟩ : ∃ g, w2.heap.size = g := ⟨_, rfl⟩
  rw [hg0, hga] at HSa
  have HGA := Lib.hid hga
  simp only [hg0]
  clear HSm hr2 hg2 HR0 hga hg0
  go_wp2_with fail
  simp only [HGA.out]
  refine (HSa.out.int _ _ _ HE1.out).mono ?_
  rintro e w3 ⟨rfl, hs_, -⟩
  have HS1 := Lib.hid hs_
  clear hs_ HSa
  go_wp2_with fail
  refine (HS1.out.int _ _ _ HE2.out).mono ?_
  rintro e w4 ⟨rfl, hs_, -⟩
  have HS2 := Lib.hid hs_
  clear hs_ HS1
  go_wp2_with fail
  refine (HS2.out.int _ _ _ HE3.out).mono ?_
  rintro e w5 ⟨rfl, hs_, -⟩
  have HS3 := Lib.hid hs_
  clear hs_ HS2
  have HTH := Lib.hid (HS3.out.there 1 (by decide))
  go_wp2_with (first | (refine st_c rfl _ _ _ rfl ga 1 (.int .i64 y0) rfl rfl rfl HTH.out info_int ?_) | fail)
  intro w6 hW
  have HS4 : Hid (RS w w6 r g0 ga (⟨(kn : Int), y0, 0, 0, 0, 0, [], 0, 0, 0, 0, 0, 0, 0, 0, 0, 0, 0, 0, 0, 0, 0, 0⟩ : Cm) (.slice none 0 0) L3 f3) := by show RS _ _ _ _ _ _ _ _ _; rw [hW.out]; exact HS3.out.set 1 _ _ rfl rfl
  clear hW HS3 HTH
  have HTH := Lib.hid (HS4.out.there 2 (by decide))
  go_wp2_with (first | (refine st_c rfl _ _ _ rfl ga 2 (.int .i64 y1) rfl rfl rfl HTH.out info_int ?_) | fail)
  intro w7 hW
  have HS5 : Hid (RS w w7 r g0 ga (⟨(kn : Int), y0, y1, 0, 0, 0, [], 0, 0, 0, 0, 0, 0, 0, 0, 0, 0, 0, 0, 0, 0, 0, 0⟩ : Cm) (.slice none 0 0) L3 f3) := by show RS _ _ _ _ _ _ _ _ _; rw [hW.out]; exact HS4.out.set 2 _ _ rfl rfl
  clear hW HS4 HTH
  have HTH := Lib.hid (HS5.out.there 3 (by decide))
  go_wp2_with (first | (refine st_c rfl _ _ _ rfl ga 3 (.int .i64 y2) rfl rfl rfl HTH.out info_int ?_) | fail)
  intro w8 hW
  have HS6 : Hid (RS w w8 r g0 ga (⟨(kn : Int), y0, y1, y2, 0, 0, [], 0, 0, 0, 0, 0, 0, 0, 0, 0, 0, 0, 0, 0, 0, 0, 0⟩ : Cm) (.slice none 0 0) L3 f3) := by show RS _ _ _ _ _ _ _ _ _; rw [hW.out]; exact HS5.out.set 3 _ _ rfl rfl
  clear hW HS5 HTH
  go_wp2_with fail
  refine (HS6.out.int _ _ _ HE4.out).mono ?_
  rintro e w9 ⟨rfl, hs_, -⟩
  have HS7 := Lib.hid hs_
  clear hs_ HS6
  go_wp2_with fail
  refine (HS7.out.int _ _ _ HE5.out).mono ?_
  rintro e w10 ⟨rfl, hs_, -⟩
  have HS8 := Lib.hid hs_
  clear hs_ HS7
  have HTH := Lib.hid (HS8.out.there 4 (by decide))
  go_wp2_with (first | (refine st_c rfl _ _ _ rfl ga 4 (.int .i64 y3) rfl rfl rfl HTH.out info_int64 ?_) | fail)
  intro w11 hW
  have HS9 : Hid (RS w w11 r g0 ga (⟨(kn : Int), y0, y1, y2, y3, 0, [], 0, 0, 0, 0, 0, 0, 0, 0, 0, 0, 0, 0, 0, 0, 0, 0⟩ : Cm) (.slice none 0 0) L5 f5) := by show RS _ _ _ _ _ _ _ _ _; rw [hW.out]; exact HS8.out.set 4 _ _ rfl rfl
  clear hW HS8 HTH
  have HTH := Lib.hid (HS9.out.there 5 (by decide))
  go_wp2_with (first | (refine st_c rfl _ _ _ rfl ga 5 (.int .i64 y4) rfl rfl rfl HTH.out info_int64 ?_) | fail)
  intro w12 hW
  have HS10 : Hid (RS w w12 r g0 ga (⟨(kn : Int), y0, y1, y2, y3, y4, [], 0, 0, 0, 0, 0, 0, 0, 0, 0, 0, 0, 0, 0, 0, 0, 0⟩ : Cm) (.slice none 0 0) L5 f5) := by show RS _ _ _ _ _ _ _ _ _; rw [hW.out]; exact HS9.out.set 5 _ _ rfl rfl
  clear hW HS9 HTH
  have a0 := HS10.out.bl.cell 0 _ rfl
  clear HE1 HE2 HE3 HE4 HE5 HGA
  by_cases k1 : kn = 1
  · subst k1
    as_aux_lemma =>
    obtain ⟨⟨m, L6, f6⟩, e6⟩ : ∃ q, rdSm 16 L5 f5 = q := ⟨_, rfl⟩
    obtain ⟨⟨MM, L7, f7⟩, e7⟩ : ∃ q, rdIs m L6 f6 = q := ⟨_, rfl⟩
    obtain ⟨⟨NN, L8, f8⟩, e8⟩ : ∃ q, rdIs 11 L7 f7 = q := ⟨_, rfl⟩
    obtain rfl : s = (((⟨(1 : Nat), y0, y1, y2, y3, y4, MM, 0, 0, 0, 0, 0, 0, 0, 0, 0, 0, 0, 0, 0, 0, 0, 0⟩ : Cm).wN NN), L8, f8) := by rw [← HPS.out, parseC_1 HE0.out HP5.out e6 e7 e8]; rfl
    have hm := rdSm_lim 16 L5 f5
    rw [e6] at hm
    replace hm : m ≤ 16 := hm
    have HE7 := Lib.hid e7
    have HE8 := Lib.hid e8
    have HE6 := Lib.hid e6
    clear HPS HE0 HP5 e6 e7 e8
    go_wp2_with fail
    refine (HS10.out.small 16 (by decide) _ _ _ HE6.out).mono ?_
    rintro e w13 ⟨rfl, hs_⟩
    have HS11 := Lib.hid hs_
    clear hs_ HS10 a0
    go_wp2
    go_loopw [30] (fun i wr => ∃ (k : Nat) (v : Value), k ≤ m ∧ i = .int .i64 k ∧ Hid (RS w wr r g0 ga (⟨(1 : Nat), y0, y1, y2, y3, y4, (rdIs k L6 f6).1, 0, 0, 0, 0, 0, 0, 0, 0, 0, 0, 0, 0, 0, 0, 0, 0⟩ : Cm) v (rdIs k L6 f6).2.1 (rdIs k L6 f6).2.2)) (fun i _ => m - (intOf i).toNat)
    case atStart => exact ⟨0, .slice none 0 0, by omega, rfl, HS11.out⟩
    case round =>
      obtain ⟨k, v, hk_, rfl, HSk⟩ := hrel
      by_cases hkl : k < m
      · have HT := Lib.hid (rdIs_snoc k L6 f6)
        have HML : Hid ((rdIs k L6 f6).1.length ≤ 64) := by show _ ≤ _; rw [rdIs_len]; omega
        obtain ⟨M, Lk, fk, hq⟩ : ∃ M Lk fk, rdIs k L6 f6 = (M, Lk, fk) := ⟨_, _, _, rfl⟩
        rw [hq] at HSk HT HML
        replace HSk : Hid (RS w wr r g0 ga (⟨(1 : Nat), y0, y1, y2, y3, y4, M, 0, 0, 0, 0, 0, 0, 0, 0, 0, 0, 0, 0, 0, 0, 0, 0⟩ : Cm) v Lk fk) := HSk
        replace HML : Hid (M.length ≤ 64) := HML
        have HRr := Lib.hid HSk.out.rd
        have HGa := Lib.hid HSk.out.bl
        have HOv : Hid (OwI wr (ga + 1) v M) := HSk.out.ow
        have HGW := Lib.hid HGa.out.lt
        have HRG : Hid (r < ga) := by show _ < _; have := HSk.out.lt0; have := HSk.out.le0; have := HSk.out.lt1; omega
        clear hq
        as_aux_lemma =>
        go_wp2
        refine region_rel (by kernel_rfl) (by kernel_rfl) [some 32, some 33, some 34, some 35, some 36, some 37, some 38, some 39, some 40, none] (by kernel_rfl) (AppR wr r ga 45 6 ((⟨(1 : Nat), y0, y1, y2, y3, y4, M, 0, 0, 0, 0, 0, 0, 0, 0, 0, 0, 0, 0, 0, 0, 0, 0⟩ : Cm).C v) v M (back (rdN Lk fk).1) (rdN Lk fk).2.1 (rdN Lk fk).2.2 (fun i u => match i with | 0 => u = .pointer (some ⟨ga, 6, none⟩) | 1 => u = .pointer (some ⟨ga, 6, none⟩) | 2 => u = v | 3 => u = .pointer (some ⟨r, 0, none⟩)    | 7 => u = .pointer (some ⟨ga, 6, none⟩) | 8 => u = .pointer (some ⟨ga, 6, none⟩)  | _ => True) 2 4 5 6 9) (AppR.start HOv.out HGa.out) ?_ ?_
        · intro i oO Ld V AC WW ho hL hf hR K hK
          have hlt : i < 10 := by have := (Array.getElem?_eq_some_iff.1 ho).1; first | exact this | simpa using this
          rcases i with _ | _ | _ | _ | _ | _ | _ | _ | _ | _ | i
          · obtain rfl := Option.some.inj (show some _ = some oO from ho)
            rw [if_pos (by rfl)]
            have q3 : AC.tmps.getD 3 undef = .pointer (some ⟨ga, 0, none⟩) := hf.rest 3 (by kernel_rfl)
            go_simp
            exact hK _ _ (hR.set 0 _ (by decide) (by decide) (by decide) (by decide) rfl)
          · obtain rfl := Option.some.inj (show some _ = some oO from ho)
            rw [if_pos (by rfl)]
            have q32 : AC.tmps.getD 32 undef = V 0 := hf.dep ⟨0, .data⟩ (by simp) rfl 32 rfl
            have u32 := hf.up ⟨0, .data⟩ (by simp) rfl
            rw [show V 0 = .pointer (some ⟨ga, 6, none⟩) from hR.pure 0 u32] at q32
            go_simp
            exact hK _ _ (hR.set 1 _ (by decide) (by decide) (by decide) (by decide) rfl)
          · obtain rfl := Option.some.inj (show some _ = some oO from ho)
            rw [if_pos (by rfl)]
            have q33 : AC.tmps.getD 33 undef = V 1 := hf.dep ⟨1, .data⟩ (by simp) rfl 33 rfl
            have u33 := hf.up ⟨1, .data⟩ (by simp) rfl
            rw [show V 1 = .pointer (some ⟨ga, 6, none⟩) from hR.pure 1 u33] at q33
            have np := hR.noL hL
            have hG := hR.bl (hR.noS np)
            have g0 := hG.cell 6 _ rfl
            go_simp
            exact hK _ _ (hR.set 2 _ (by decide) (by decide) (by decide) (by decide) rfl)
          · obtain rfl := Option.some.inj (show some _ = some oO from ho)
            rw [if_pos (by rfl)]
            have q0 : AC.tmps.getD 0 undef = .pointer (some ⟨r, 0, none⟩) := hf.rest 0 (by kernel_rfl)
            go_simp
            exact hK _ _ (hR.set 3 _ (by decide) (by decide) (by decide) (by decide) rfl)
          · obtain rfl := Option.some.inj (show some _ = some oO from ho)
            rw [if_pos (by rfl)]
            have q35 : AC.tmps.getD 35 undef = V 3 := hf.dep ⟨3, .data⟩ (by simp) rfl 35 rfl
            have u35 := hf.up ⟨3, .data⟩ (by simp) rfl
            rw [show V 3 = .pointer (some ⟨r, 0, none⟩) from hR.pure 3 u35] at q35
            go_simp
            refine (rint_q WW r Lk fk (HRr.out.below (hR.pa hL))).mono ?_
            rintro e w6 ⟨rfl, h6, g6⟩
            exact hK _ _ (hR.called hL (by decide) (by decide) (by decide) HRG.out HGW.out w6 h6 g6 trivial)
          · obtain rfl := Option.some.inj (show some _ = some oO from ho)
            rw [if_pos (by rfl)]
            have q36 : AC.tmps.getD 36 undef = V 4 := hf.dep ⟨4, .data⟩ (by simp) rfl 36 rfl
            have u36 := hf.up ⟨4, .data⟩ (by simp) rfl
            rw [hR.pv u36] at q36
            have pp := q36
            rw [Array.getD_eq_getD_getElem?] at pp
            go_simp
            exact hK _ _ (hR.made hL u36 (by decide) (by decide) (by decide) HGW.out trivial)
          · obtain rfl := Option.some.inj (show some _ = some oO from ho)
            rw [if_pos (by rfl)]
            have q34 : AC.tmps.getD 34 undef = V 2 := hf.dep ⟨2, .data⟩ (by simp) rfl 34 rfl
            have u34 := hf.up ⟨2, .data⟩ (by simp) rfl
            rw [show V 2 = v from hR.pure 2 u34] at q34
            have q37 : AC.tmps.getD 37 undef = V 5 := hf.dep ⟨5, .data⟩ (by simp) rfl 37 rfl
            have u37 := hf.up ⟨5, .data⟩ (by simp) rfl
            obtain ⟨q7, e7, b7⟩ := hR.bs u37 hL
            rw [e7] at q37
            refine ap_i_op _ _ rfl rfl (ga + 1) v q34 M (hR.ow hL) _ 1 [(back (rdN Lk fk).1)] q37 ⟨rfl, Nat.le_refl _, by simp, fun _ => ⟨_, _, rfl, fun j u hu => by rw [Nat.zero_add]; exact b7.cell j u hu⟩⟩ (by have := HML.out; simp; omega) (by have := HGW.out; have := hR.fr.size; omega) ?_
            intro v' w' h1 h2
            exact hK _ _ (hR.grew hL u37 (by decide) (by decide) (by decide) HRG.out HGW.out v' w' h1 h2 trivial u34)
          · obtain rfl := Option.some.inj (show some _ = some oO from ho)
            rw [if_pos (by rfl)]
            have q3 : AC.tmps.getD 3 undef = .pointer (some ⟨ga, 0, none⟩) := hf.rest 3 (by kernel_rfl)
            go_simp
            exact hK _ _ (hR.set 7 _ (by decide) (by decide) (by decide) (by decide) rfl)
          · obtain rfl := Option.some.inj (show some _ = some oO from ho)
            rw [if_pos (by rfl)]
            have q39 : AC.tmps.getD 39 undef = V 7 := hf.dep ⟨7, .data⟩ (by simp) rfl 39 rfl
            have u39 := hf.up ⟨7, .data⟩ (by simp) rfl
            rw [show V 7 = .pointer (some ⟨ga, 6, none⟩) from hR.pure 7 u39] at q39
            go_simp
            exact hK _ _ (hR.set 8 _ (by decide) (by decide) (by decide) (by decide) rfl)
          · obtain rfl := Option.some.inj (show some _ = some oO from ho)
            rw [if_pos (by rfl)]
            have q40 : AC.tmps.getD 40 undef = V 8 := hf.dep ⟨8, .data⟩ (by simp) rfl 40 rfl
            have u40 := hf.up ⟨8, .data⟩ (by simp) rfl
            rw [show V 8 = .pointer (some ⟨ga, 6, none⟩) from hR.pure 8 u40] at q40
            have q38 : AC.tmps.getD 38 undef = V 6 := hf.dep ⟨6, .data⟩ (by simp) rfl 38 rfl
            have u38 := hf.up ⟨6, .data⟩ (by simp) rfl
            have hG := hR.bl hL
            have c0 := hG.cell 6 _ rfl
            have f0 := hG.frozen 6
            obtain ⟨a8, k8, ev8⟩ := owi_shape (hR.ap u38)
            rw [List.length_append, List.length_singleton] at ev8
            have hp := hR.put hL u38 (by decide) (by decide) (by decide) HRG.out trivial
            rw [ev8] at q38
            rw [ev8] at hp
            go_simp
            exact hK undef _ hp
          · omega
        · intro Ld V WW hall hR
          have vv0 : V 0 = _ := hR.pure 0 (hall 0 (by decide))
          have vv1 : V 1 = _ := hR.pure 1 (hall 1 (by decide))
          have vv2 : V 2 = _ := hR.pure 2 (hall 2 (by decide))
          have vv3 : V 3 = _ := hR.pure 3 (hall 3 (by decide))
          have vv7 : V 7 = _ := hR.pure 7 (hall 7 (by decide))
          have vv8 : V 8 = _ := hR.pure 8 (hall 8 (by decide))
          have vv4 := hR.pv (hall 4 (by decide))
          have hst := hR.st (hall 9 (by decide))
          have hap := hR.ap (hall 6 (by decide))
          have hrd := hR.pb (hall 4 (by decide))
          have hkp := hR.fr
          simp only [pairsOf, laid, Nat.zero_add, Nat.reduceAdd, vv0, vv1, vv2, vv3, vv4, vv7, vv8, List.setIfInBounds_toArray, List.set_cons_zero, List.set_cons_succ]
          clear hR hall vv0 vv1 vv2 vv3 vv4 vv7 vv8
          have HSn : Hid (RS w WW r g0 ga (⟨(1 : Nat), y0, y1, y2, y3, y4, (M ++ [back (rdN Lk fk).1]), 0, 0, 0, 0, 0, 0, 0, 0, 0, 0, 0, 0, 0, 0, 0, 0⟩ : Cm) (V 6) (rdN Lk fk).2.1 (rdN Lk fk).2.2) := HSk.out.keep hkp hrd hst hap
          clear hst hap hrd hkp
          go_wp2
          go_roundw
          · exact ⟨k + 1, V 6, by omega, by go_num, by rw [HT.out]; exact HSn.out⟩
          · simp [intOf]; omega
      · obtain rfl : k = m := by omega
        clear hkl
        rw [HE7.out] at HSk
        replace HSk : Hid (RS w wr r g0 ga (⟨(1 : Nat), y0, y1, y2, y3, y4, MM, 0, 0, 0, 0, 0, 0, 0, 0, 0, 0, 0, 0, 0, 0, 0, 0⟩ : Cm) v L7 f7) := HSk
        go_wp2_with fail
        refine (numbers_any _ ga 6).mono ?_
        rintro e w14 ⟨q, rfl, hq, hql, hb⟩
        have HS12 := Lib.hid (HSk.out.below hb)
        have HQ := Lib.hid hq
        have HQL : Hid (ga < q) := by show _ < _; have := HSk.out.bl.lt; omega
        clear hq hql hb HSk
        go_wp2
        go_loopw [45] (fun i wr => ∃ (k : Nat), k ≤ 11 ∧ i = .int .i64 k ∧ Hid (RS w wr r g0 ga ((⟨(1 : Nat), y0, y1, y2, y3, y4, MM, 0, 0, 0, 0, 0, 0, 0, 0, 0, 0, 0, 0, 0, 0, 0, 0⟩ : Cm).wN (rdIs k L7 f7).1) v (rdIs k L7 f7).2.1 (rdIs k L7 f7).2.2) ∧ Hid (Blk wr q 91 (ptrs ga 6))) (fun i _ => 11 - (intOf i).toNat)
        case atStart => exact ⟨0, by omega, rfl, HS12.out, HQ.out⟩
        case round =>
          obtain ⟨k, hk_, rfl, HSk, HQk⟩ := hrel
          by_cases hkl : k < 11
          · obtain ⟨M, Lk, fk, hq⟩ : ∃ M Lk fk, rdIs k L7 f7 = (M, Lk, fk) := ⟨_, _, _, rfl⟩
            obtain ⟨⟨y, Ln, fn⟩, hy⟩ : ∃ q, rdI Lk fk = q := ⟨_, rfl⟩
            have HT := Lib.hid (rdIs_last k L7 f7 M Lk fk hq y Ln fn hy)
            have HML : Hid (M.length = k) := by show _ = _; have := rdIs_len k L7 f7; rw [hq] at this; exact this
            rw [hq] at HSk
            replace HSk : Hid (RS w wr r g0 ga ((⟨(1 : Nat), y0, y1, y2, y3, y4, MM, 0, 0, 0, 0, 0, 0, 0, 0, 0, 0, 0, 0, 0, 0, 0, 0⟩ : Cm).wN M) v Lk fk) := HSk
            have HY := Lib.hid hy
            have hwS := sl_ptrs HQk.out
            clear hq hy
            go_wp2_with (first | (refine wpList_ix_sl rfl 71 91 _ _ rfl Try.underlying71 size_ptr (some ⟨q, 0, none⟩) 11 11 rfl (ptrs ga 6) hwS k hkl rfl ?_; intro b off u hu hcell; obtain rfl : u = .pointer (some ⟨ga, 6 + (k + 1), none⟩) := by (rw [ptrs_at ga 6 k hkl] at hu; exact (Option.some.inj hu).symm)) | fail)
            refine (HSk.out.int _ _ _ HY.out).mono ?_
            rintro e wi ⟨rfl, hs_, hgi⟩
            have HSi := Lib.hid hs_
            have HQi := Lib.hid (HQk.out.rd hgi (by have := HQL.out; have := hs_.lt0; have := hs_.le0; have := hs_.lt1; omega))
            have HTH := Lib.hid (hs_.there (6 + (k + 1)) (by omega))
            clear hs_ hgi hwS HSk HQk
            go_wp2_with (first | (refine st_c rfl _ _ _ rfl ga (6 + (k + 1)) (.int .i64 y) rfl rfl rfl HTH.out info_int64 ?_) | fail)
            intro wj hW
            have HSj : Hid (RS w wj r g0 ga ((⟨(1 : Nat), y0, y1, y2, y3, y4, MM, 0, 0, 0, 0, 0, 0, 0, 0, 0, 0, 0, 0, 0, 0, 0, 0⟩ : Cm).wN (M ++ [y])) v Ln fn) := by
              show RS _ _ _ _ _ _ _ _ _
              rw [hW.out]
              refine HSi.out.set (6 + (k + 1)) _ _ ?_ rfl
              have := wN_snoc (⟨(1 : Nat), y0, y1, y2, y3, y4, MM, 0, 0, 0, 0, 0, 0, 0, 0, 0, 0, 0, 0, 0, 0, 0, 0⟩ : Cm) v M y (by rw [HML.out]; exact hkl)
              rw [HML.out] at this
              rw [show 6 + (k + 1) = 7 + k by omega]; exact this
            have HQj : Hid (Blk wj q 91 (ptrs ga 6)) := by
              show Blk _ _ _ _
              rw [hW.out]; exact HQi.out.other _ _ (by have := HQL.out; show q ≠ ga; omega)
            clear hW HSi HQi HTH
            go_wp2
            go_roundw
            · exact ⟨k + 1, by omega, by go_num, by rw [HT.out]; exact HSj.out, HQj.out⟩
            · simp [intOf]; omega
          · obtain rfl : k = 11 := by omega
            clear hkl
            rw [HE8.out] at HSk
            replace HSk : Hid (RS w wr r g0 ga ((⟨(1 : Nat), y0, y1, y2, y3, y4, MM, 0, 0, 0, 0, 0, 0, 0, 0, 0, 0, 0, 0, 0, 0, 0, 0⟩ : Cm).wN NN) v L8 f8) := HSk
            clear HQk HQ HS12
            obtain ⟨av, capv, rfl, hsv⟩ := OwI.sl HSk.out.ow
            clear hsv
            have HTH := Lib.hid (HSk.out.z.thereMid 0 23 (by decide))
            go_wp2_with (first | (refine ld_cm rfl _ rfl ga 0 rfl ((⟨(1 : Nat), y0, y1, y2, y3, y4, MM, 0, 0, 0, 0, 0, 0, 0, 0, 0, 0, 0, 0, 0, 0, 0, 0⟩ : Cm).wN NN) (.slice av MM.length capv) HSk.out.bl.range ?_) | (refine st_cm rfl _ _ rfl g0 rfl ((⟨(1 : Nat), y0, y1, y2, y3, y4, MM, 0, 0, 0, 0, 0, 0, 0, 0, 0, 0, 0, 0, 0, 0, 0, 0⟩ : Cm).wN NN) (.slice av MM.length capv) rfl rfl HTH.out ?_) | fail)
            intro W hW
            obtain ⟨n1, n2, n3, n4⟩ : RdQ W r L8 f8 ∧ w.grownBy W (some r) ∧ Blk W g0 45 (((⟨(1 : Nat), y0, y1, y2, y3, y4, MM, 0, 0, 0, 0, 0, 0, 0, 0, 0, 0, 0, 0, 0, 0, 0, 0⟩ : Cm).wN NN).C (.slice av MM.length capv)) ∧ OwI W (ga + 1) (.slice av MM.length capv) MM := by rw [hW.out]; exact HSk.out.fin
            have HN1 := Lib.hid n1
            have HN2 := Lib.hid n2
            have HN3 := Lib.hid n3
            have HN4 := Lib.hid (OwI.up n4 (show w.heap.size ≤ ga + 1 by have := HSk.out.le0; have := HSk.out.lt1; omega))
            clear n1 n2 n3 n4 hW HTH
            go_wp2
            exact bodyPost_ret (v := .agg (((⟨(1 : Nat), y0, y1, y2, y3, y4, MM, 0, 0, 0, 0, 0, 0, 0, 0, 0, 0, 0, 0, 0, 0, 0, 0⟩ : Cm).wN NN).C (.slice av MM.length capv)).toArray) (res_cm1 Try.results42 _ _ _ ((⟨(1 : Nat), y0, y1, y2, y3, y4, MM, 0, 0, 0, 0, 0, 0, 0, 0, 0, 0, 0, 0, 0, 0, 0, 0⟩ : Cm).wN NN) _ rfl HN3.out) rfl ⟨_, rfl, HN4.out, HN1.out, HN2.out⟩
  · have q1 : ((kn : Int) == 1) = false := by simp; omega
    by_cases k15 : kn = 15
    · subst k15
      as_aux_lemma =>
      obtain ⟨⟨z0, L6, f6⟩, e6⟩ : ∃ q, rdI L5 f5 = q := ⟨_, rfl⟩
      obtain ⟨⟨z1, L7, f7⟩, e7⟩ : ∃ q, rdI L6 f6 = q := ⟨_, rfl⟩
      obtain ⟨⟨z2, L8, f8⟩, e8⟩ : ∃ q, rdI L7 f7 = q := ⟨_, rfl⟩
      have h8 : rdIs 3 L5 f5 = ([z0, z1, z2], L8, f8) := by
        rw [rdIs_cons _ _ _ _ _ _ e6, rdIs_cons _ _ _ _ _ _ e7, rdIs_cons _ _ _ _ _ _ e8]
        rfl
      obtain rfl : s = ((⟨(15 : Nat), y0, y1, y2, y3, y4, [], 0, 0, 0, 0, 0, 0, 0, 0, 0, 0, 0, 0, z0, z1, z2, 0⟩ : Cm), L8, f8) := by rw [← HPS.out, parseC_15 HE0.out HP5.out h8]; rfl
      have HE6 := Lib.hid e6
      have HE7 := Lib.hid e7
      have HE8 := Lib.hid e8
      clear HPS HE0 HP5 e6 e7 e8 h8
      go_wp2_with fail
      clear a0
      refine (HS10.out.int _ _ _ HE6.out).mono ?_
      rintro e w13 ⟨rfl, hs_, -⟩
      have HS11 := Lib.hid hs_
      clear hs_ HS10
      go_wp2_with fail
      refine (HS11.out.int _ _ _ HE7.out).mono ?_
      rintro e w14 ⟨rfl, hs_, -⟩
      have HS12 := Lib.hid hs_
      clear hs_ HS11
      go_wp2_with fail
      refine (HS12.out.int _ _ _ HE8.out).mono ?_
      rintro e w15 ⟨rfl, hs_, -⟩
      have HS13 := Lib.hid hs_
      clear hs_ HS12
      have HTH := Lib.hid (HS13.out.there 19 (by decide))
      go_wp2_with (first | (refine st_c rfl _ _ _ rfl ga 19 (.int .i64 z0) rfl rfl rfl HTH.out info_int64 ?_) | fail)
      intro w16 hW
      have HS14 : Hid (RS w w16 r g0 ga (⟨(15 : Nat), y0, y1, y2, y3, y4, [], 0, 0, 0, 0, 0, 0, 0, 0, 0, 0, 0, 0, z0, 0, 0, 0⟩ : Cm) (.slice none 0 0) L8 f8) := by show RS _ _ _ _ _ _ _ _ _; rw [hW.out]; exact HS13.out.set 19 _ _ rfl rfl
      clear hW HS13 HTH
      have HTH := Lib.hid (HS14.out.there 20 (by decide))
      go_wp2_with (first | (refine st_c rfl _ _ _ rfl ga 20 (.int .i64 z1) rfl rfl rfl HTH.out info_int64 ?_) | fail)
      intro w17 hW
      have HS15 : Hid (RS w w17 r g0 ga (⟨(15 : Nat), y0, y1, y2, y3, y4, [], 0, 0, 0, 0, 0, 0, 0, 0, 0, 0, 0, 0, z0, z1, 0, 0⟩ : Cm) (.slice none 0 0) L8 f8) := by show RS _ _ _ _ _ _ _ _ _; rw [hW.out]; exact HS14.out.set 20 _ _ rfl rfl
      clear hW HS14 HTH
      have HTH := Lib.hid (HS15.out.there 21 (by decide))
      go_wp2_with (first | (refine st_c rfl _ _ _ rfl ga 21 (.int .i64 z2) rfl rfl rfl HTH.out info_int64 ?_) | fail)
      intro w18 hW
      have HS16 : Hid (RS w w18 r g0 ga (⟨(15 : Nat), y0, y1, y2, y3, y4, [], 0, 0, 0, 0, 0, 0, 0, 0, 0, 0, 0, 0, z0, z1, z2, 0⟩ : Cm) (.slice none 0 0) L8 f8) := by show RS _ _ _ _ _ _ _ _ _; rw [hW.out]; exact HS15.out.set 21 _ _ rfl rfl
      clear hW HS15 HTH
      have HTH := Lib.hid (HS16.out.z.thereMid 0 23 (by decide))
      go_wp2_with (first | (refine ld_cm rfl _ rfl ga 0 rfl (⟨(15 : Nat), y0, y1, y2, y3, y4, [], 0, 0, 0, 0, 0, 0, 0, 0, 0, 0, 0, 0, z0, z1, z2, 0⟩ : Cm) (.slice none 0 0) HS16.out.bl.range ?_) | (refine st_cm rfl _ _ rfl g0 rfl (⟨(15 : Nat), y0, y1, y2, y3, y4, [], 0, 0, 0, 0, 0, 0, 0, 0, 0, 0, 0, 0, z0, z1, z2, 0⟩ : Cm) (.slice none 0 0) rfl rfl HTH.out ?_) | fail)
      intro W hW
      obtain ⟨n1, n2, n3, n4⟩ : RdQ W r L8 f8 ∧ w.grownBy W (some r) ∧ Blk W g0 45 ((⟨(15 : Nat), y0, y1, y2, y3, y4, [], 0, 0, 0, 0, 0, 0, 0, 0, 0, 0, 0, 0, z0, z1, z2, 0⟩ : Cm).C (.slice none 0 0)) ∧ OwI W (ga + 1) (.slice none 0 0) ([] : List Int) := by rw [hW.out]; exact HS16.out.fin
      have HN1 := Lib.hid n1
      have HN2 := Lib.hid n2
      have HN3 := Lib.hid n3
      have HN4 := Lib.hid (OwI.up n4 (show w.heap.size ≤ ga + 1 by have := HS16.out.le0; have := HS16.out.lt1; omega))
      clear n1 n2 n3 n4 hW HTH
      go_wp2
      exact bodyPost_ret (v := .agg ((⟨(15 : Nat), y0, y1, y2, y3, y4, [], 0, 0, 0, 0, 0, 0, 0, 0, 0, 0, 0, 0, z0, z1, z2, 0⟩ : Cm).C (.slice none 0 0)).toArray) (res_cm1 Try.results42 _ _ _ (⟨(15 : Nat), y0, y1, y2, y3, y4, [], 0, 0, 0, 0, 0, 0, 0, 0, 0, 0, 0, 0, z0, z1, z2, 0⟩ : Cm) _ rfl HN3.out) rfl ⟨_, rfl, HN4.out, HN1.out, HN2.out⟩
    · have q15 : ((kn : Int) == 15) = false := by simp; omega
      as_aux_lemma =>
      obtain rfl : s = ((⟨(kn : Int), y0, y1, y2, y3, y4, [], 0, 0, 0, 0, 0, 0, 0, 0, 0, 0, 0, 0, 0, 0, 0, 0⟩ : Cm), L5, f5) := by rw [← HPS.out, parseC_other HE0.out HP5.out k1 k15]
      clear HPS HE0 HP5
      have HTH := Lib.hid (HS10.out.z.thereMid 0 23 (by decide))
      go_wp2_with (first | (refine ld_cm rfl _ rfl ga 0 rfl (⟨(kn : Int), y0, y1, y2, y3, y4, [], 0, 0, 0, 0, 0, 0, 0, 0, 0, 0, 0, 0, 0, 0, 0, 0⟩ : Cm) (.slice none 0 0) HS10.out.bl.range ?_) | (refine st_cm rfl _ _ rfl g0 rfl (⟨(kn : Int), y0, y1, y2, y3, y4, [], 0, 0, 0, 0, 0, 0, 0, 0, 0, 0, 0, 0, 0, 0, 0, 0⟩ : Cm) (.slice none 0 0) rfl rfl HTH.out ?_) | fail)
      intro W hW
      obtain ⟨n1, n2, n3, n4⟩ : RdQ W r L5 f5 ∧ w.grownBy W (some r) ∧ Blk W g0 45 ((⟨(kn : Int), y0, y1, y2, y3, y4, [], 0, 0, 0, 0, 0, 0, 0, 0, 0, 0, 0, 0, 0, 0, 0, 0⟩ : Cm).C (.slice none 0 0)) ∧ OwI W (ga + 1) (.slice none 0 0) ([] : List Int) := by rw [hW.out]; exact HS10.out.fin
      have HN1 := Lib.hid n1
      have HN2 := Lib.hid n2
      have HN3 := Lib.hid n3
      have HN4 := Lib.hid (OwI.up n4 (show w.heap.size ≤ ga + 1 by have := HS10.out.le0; have := HS10.out.lt1; omega))
      clear n1 n2 n3 n4 hW HTH
      go_wp2
      exact bodyPost_ret (v := .agg ((⟨(kn : Int), y0, y1, y2, y3, y4, [], 0, 0, 0, 0, 0, 0, 0, 0, 0, 0, 0, 0, 0, 0, 0, 0⟩ : Cm).C (.slice none 0 0)).toArray) (res_cm1 Try.results42 _ _ _ (⟨(kn : Int), y0, y1, y2, y3, y4, [], 0, 0, 0, 0, 0, 0, 0, 0, 0, 0, 0, 0, 0, 0, 0, 0⟩ : Cm) _ rfl HN3.out) rfl ⟨_, rfl, HN4.out, HN1.out, HN2.out⟩
end Go.Proofs.Ytdkcccigmejikaa
