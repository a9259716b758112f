/-
  The law LedgerRuns.
-/
import Derived.Test.YteghjdmalbcdfaaLgS
import Derived.Test.YteghjdmalbcdfaaLgBal
import Derived.Test.YteghjdmalbcdfaaMono
set_option linter.unusedVariables false
set_option linter.unusedSimpArgs false
namespace Go.Proofs.Yteghjdmalbcdfaa
open Go.RowKit Dg

theorem post_nil {T : List Int} {E : List (List Lg)} {L : List Lg} {s : List Int × List (List Lg) × Int × Int} (hs : postS T E L = s) : s.2.1 = [] → E = [] := by
  unfold postS at hs
  intro h
  split at hs
  · subst hs; exact h
  · split at hs
    · subst hs; exact h
    · split at hs
      · subst hs; simp at h
      · subst hs; exact h
theorem rev_nil {T : List Int} {E : List (List Lg)} {k : Int} {s : List Int × List (List Lg) × Int × Int} (hs : revS T E k = s) : s.2.1 = [] → E = [] := by
  unfold revS at hs
  split at hs
  · split at hs
    · exact post_nil hs
    · subst hs; exact id
  · subst hs; exact id
set_option maxRecDepth 20000 in
set_option maxHeartbeats 16000000 in
theorem runs_core (ao0 : Option Addr) (cap0 : Nat) (A : List Ak) (w : World) (h : SlK w ao0 cap0 A) (hA : ∀ t ∈ A, LegsAt w t) (hg : greatA A = false) :
    Calls Try.prog 6 #[.slice ao0 A.length cap0] w fun e w' => e = .returned (.bool true) ∧ Below w.heap.size w w' := by
  have HAl := Lib.hid (fun W => lalive_any W)
  have HA := Lib.hid hA; have H := Lib.hid h
  have HG := Lib.hid (fun U (hu : Below w.heap.size w U) => great_any U ao0 cap0 A (h.keeps hu) (fun t ht => (hA t ht).keeps hu) false hg)
  have HA60 : Hid (A.length ≤ 60) := by
    show _ ≤ _
    unfold greatA at hg
    rw [Bool.or_eq_false_iff] at hg
    have := hg.1
    simp at this; exact this
  have HAl40 : Hid (∀ t ∈ A, t.2.2.2.length ≤ 40) := by
    intro t ht
    unfold greatA at hg
    rw [Bool.or_eq_false_iff] at hg
    have := List.any_eq_false.1 hg.2 t ht
    simpa using this
  clear hA h hg
  go_enter Try.func6, Try.ntmps6
  go_wp2_with fail
  refine (HAl.out _).mono ?_
  rintro e w1 ⟨rfl, hb1⟩
  have HB1 := Lib.hid hb1
  go_wp2_with fail
  refine (HG.out _ hb1).mono ?_
  rintro e w2 ⟨rfl, hb2⟩
  have HB2 := Lib.hid (below_on HB1.out HB1.out.size hb2)
  have HN := Lib.hid (new_any w2)
  obtain ⟨w3, hw3⟩ : ∃ w3, w3 = w2.alloc (.cells (.slice none 0 0 :: ic z8).toArray 64) := ⟨_, rfl⟩
  have HB3 : Hid (Below w.heap.size w w3) := by show Below _ _ _; rw [hw3]; exact HB2.out.alloc HB2.out.size _
  have HL3 : Hid (Led w3 w.heap.size w2.heap.size (.slice none 0 0) [] z8 []) := by show Led _ _ _ _ _ _ _; rw [hw3]; exact Led.new w2 _ HB2.out.size
  rw [← hw3] at HN
  obtain ⟨b, hbe⟩ : ∃ b, w2.heap.size = b := ⟨_, rfl⟩
  rw [hbe] at HN HL3
  clear hw3 hbe HG hb1 hb2 HAl
  go_wp2_with fail
  refine HN.out.mono ?_
  rintro e w3' ⟨rfl, rfl⟩
  have HS3 : Hid (St w (w3'.alloc (.cells #[] 23)) 0 b (.slice none 0 0) [] (some ⟨w3'.heap.size, 0, none⟩) 0 z8 []) :=
    ⟨HL3.out.keeps (below_new1 w3' _), OkB.zero, OkE.nil 0, OkT.zero, fun _ => rfl, ⟨[], RE.nil _ _ _ _ ⟨rfl, Nat.le_refl _, by simp, fun h => absurd rfl h⟩ (fun a ha => by
      obtain rfl := Option.some.inj ha
      refine ⟨by simp, ?_⟩
      rintro (h | h)
      · have := HL3.out.blk.lt; simp at h; omega
      · simp [Value.ownBlock] at h)⟩, HB3.out.alloc HB3.out.size _⟩
  clear HN HL3 HB3 HB2 HB1
  go_wp2
  go_loopw [3, 4, 31] (fun l u i wr => ∃ (k b : Nat) (v : Value) (C : List Value) (ao : Option Addr) (cap : Nat) (T : List Int) (E : List (List Lg)), k ≤ A.length ∧ i = .int .i64 k ∧ l = .pointer (some ⟨b, 0, none⟩) ∧ u = .slice ao E.length cap ∧ Hid (St w wr k b v C ao cap T E)) (fun _ _ i _ => A.length - (intOf i).toNat)
  case atStart => exact ⟨0, b, .slice none 0 0, [], some ⟨w3'.heap.size, 0, none⟩, 0, z8, [], by omega, rfl, rfl, rfl, HS3⟩
  case round =>
    obtain ⟨k, b, v, C, ao, cap, T, E, hk, rfl, rfl, rfl, HSt⟩ := hrel
    have hA60 := HA60.out
    by_cases hkl : k < A.length
    · obtain ⟨⟨kd, at_, u, L⟩, ht⟩ : ∃ t, A[k]? = some t := ⟨_, List.getElem?_eq_getElem hkl⟩
      have htm := List.mem_of_getElem? ht
      obtain ⟨po, pc, hu, hs, hr⟩ := HA.out _ htm
      obtain rfl : u = .slice po L.length pc := hu
      have HLs : Hid (SlG w po pc L) := hs
      have HLr : Hid (∀ x ∈ L, -9223372036854775808 ≤ x.2 ∧ x.2 ≤ 9223372036854775807) := hr
      have HL40 : Hid (L.length ≤ 40) := HAl40.out _ htm
      have HT1 := Lib.hid ht
      have hb := HSt.out.below
      have hwA := H.out.keeps hb
      clear ht htm hs hr
      by_cases d0 : kd = 0
      · subst d0
        obtain ⟨s, hs⟩ : ∃ s, postS T E L = s := ⟨_, rfl⟩
        have hok := post_ok HSt.out.okb HSt.out.oke HLr.out hs
        have hsm := post_same HSt.out.okt hs
        have HNi := Lib.hid (post_nil hs)
        have HPS := Lib.hid hs
        have HOKB := Lib.hid hok.1
        have HOKE := Lib.hid hok.2
        have HOKT := Lib.hid hsm.2
        have HRS := Lib.hid hsm.1
        have HBe := Lib.hid ((below_new1 wr (.cells #[.int .i64 0, .int .i64 at_, .slice po L.length pc] 36)).alloc (below_new1 wr _).size (.cells #[] 48))
        have HOe := Lib.hid (ownG_empty (wr.alloc (.cells #[.int .i64 0, .int .i64 at_, .slice po L.length pc] 36)))
        have HBx := Lib.hid (below_on hb hb.size HBe.out)
        have HLx := Lib.hid (HLs.out.keeps HBx.out)
        have HGx := Lib.hid ((Blk.new wr 36 [.int .i64 0, .int .i64 at_, .slice po L.length pc]).alloc (.cells #[] 48))
        have hsz : (wr.alloc (.cells #[.int .i64 0, .int .i64 at_, .slice po L.length pc] 36)).heap.size = wr.heap.size + 1 := by simp
        rw [hsz] at HOe
        clear hs hok hsm hb hsz
        as_aux_lemma =>
        go_wp2_with (first | (refine ix_ak rfl _ _ rfl ao0 cap0 A hwA rfl k _ HT1.out rfl ?_; intro bb off k0 k1 k2) | (refine ap_lg (by rfl) _ _ rfl (wr.heap.size + 1) _ rfl [] HOe.out po pc L rfl HLx.out (by have := HL40.out; simp; omega) (by simp) ?_) | fail)
        intro vo w1 ho1 hg1 hd1
        have HB1 := Lib.hid (below_grown (B := wr.heap.size) HOe.out hg1 (Nat.le_succ _) (Nat.le_refl _) HBe.out)
        have HG1 := Lib.hid (HGx.out.grown hg1 (own_lt HOe.out (Nat.lt_succ_self _)))
        have hsz1 := hg1.size
        obtain ⟨a1, c1, rfl, hs1, hlo1⟩ := Rk.own ho1
        obtain ⟨go, hgo1, hgo2, hown⟩ := own_of ho1 (Nat.lt_of_lt_of_le (by simp) hsz1)
        have HGO1 := Lib.hid hgo1
        have HGO2 := Lib.hid hgo2
        have HOW := Lib.hid hown
        have HBLt := Lib.hid HSt.out.led.blk.lt
        have HVB := Lib.hid (own_base HSt.out.led.row)
        have hB01 := below_on HSt.out.below HSt.out.below.size HB1.out
        have HP := Lib.hid (post_full w1 _ _ _ _ _ _ (HSt.out.led.keeps HB1.out) hB01.size (by have := HSt.out.oke.len; have := HA60.out; omega) HSt.out.okb.rng a1 c1 L hs1 (fun hn a ha => by
          have h1 := hlo1 a.block (by rw [ha]; rfl)
          have h2 := HBLt.out
          exact ⟨by omega, fun e => by have := (HVB.out _ e.symm).2; omega⟩) (by have := HL40.out; omega) HLr.out s HPS.out)
        clear ho1 hg1 hd1 hsz1 hs1 hlo1 hgo1 hgo2 hown HOe HGx HLx HBx HBe hwA k0 k1 k2 hB01
        go_wp2_with fail
        refine HP.out.mono ?_
        rintro e w2 ⟨rfl, ⟨v2, C2, hl2, hv2, hc2, hn2⟩, hf2⟩
        have HL2 := Lib.hid hl2
        have HV2 := Lib.hid hv2
        have HC2 := Lib.hid hc2
        have HN2 := Lib.hid hn2
        have HF2 := Lib.hid hf2
        have HG2 := Lib.hid (HG1.out.fr hf2 (by have := HBLt.out; omega) (fun e => by have := (HVB.out _ e.symm).2; omega))
        have HOW2 := Lib.hid (HOW.out.fr hf2 (by have := HBLt.out; have := HGO1.out; omega) (fun e => by have := (HVB.out _ e.symm).2; have := HGO1.out; omega))
        have hb02 := HSt.out.bel2 HB1.out hf2
        have HLp := Lib.hid (HLs.out.keeps hb02)
        obtain ⟨C3, hre⟩ := HSt.out.re2 HB1.out hf2
        have HR := Lib.hid (rpost_any w2 _ (HSt.out.nn (Nat.le_trans HB1.out.size hf2.size)) ao cap E C3 hre (by have := HSt.out.oke.len; have := HA60.out; omega) (fun M hM => by have := (rightG_all (HSt.out.oke.rt M hM)).1; omega) HSt.out.oke.rng po pc L HLp.out (by have := HL40.out; omega) HLr.out _ HRS.out)
        have g2 := HG2.out.cell 2 _ rfl
        clear hl2 hv2 hc2 hn2 hf2 hb02 hre HP HG1 HOW
        go_wp2_with fail
        refine HR.out.mono ?_
        rintro e w3 ⟨ao8, cap8, rfl, hr3, hb3⟩
        have HR3 := Lib.hid hr3
        have HB3 := Lib.hid hb3
        have HG3 := Lib.hid (HG2.out.keeps hb3)
        have HOW3 := Lib.hid (HOW2.out.keeps hb3)
        have hl40 : L.length ≤ 40 := HL40.out
        obtain ⟨ga, hga⟩ : ∃ g, wr.heap.size = g := ⟨_, rfl⟩
        rw [hga] at HG3
        simp only [hga]
        have HGA := Lib.hid hga
        clear hr3 hb3 HR HG2 HOW2 g2 HLp hga
        go_wp2
        go_loopw [59] (fun i wq => ∃ j : Nat, j ≤ L.length ∧ i = .int .i64 j ∧ Hid (OWN wq go a1 L.length) ∧ Hid (Fr go none w3 wq)) (fun i _ => L.length - (intOf i).toNat)
        case atStart => exact ⟨0, by omega, rfl, HOW3.out, Fr.of_below (Below.refl _ _)⟩
        case round =>
          obtain ⟨j, hj, rfl, HOq, HFq⟩ := hrel
          by_cases hjl : j < L.length
          · obtain ⟨rfl, M, tl, hM, hB⟩ : a1 = some ⟨go, 0, none⟩ ∧ ∃ (M : List Lg) (tl : List Value), M.length = L.length ∧ Blk wr go 48 (rc lgc M ++ tl) := by
              rcases HOq.out with h | h
              · omega
              · exact h
            obtain ⟨⟨ac, am⟩, hx⟩ : ∃ t, M[j]? = some t := ⟨_, List.getElem?_eq_getElem (by omega)⟩
            have hcl := rc_len lgc_len M
            have d1 := hB.cell (j * 2 + 1) (.int .i64 am) (by rw [List.getElem?_append_left (by rw [hcl]; omega)]; exact rc_at lgc_len hx 1 _ rfl)
            have f1 := hB.frozen (j * 2 + 1)
            obtain ⟨y, hy⟩ : ∃ y, wrap64 (am + 1) = y := ⟨_, rfl⟩
            have hset := rc_set1 M j ac am y hx
            have HBn : Hid (Blk (wr.setCell ⟨go, j * 2 + 1, none⟩ (.int .i64 y)) go 48 (rc lgc (M.set j (ac, y)) ++ tl)) := by
              have h1 := hB.set (j * 2 + 1) (.int .i64 y)
              rw [List.set_append_left _ _ (by rw [hcl]; omega), hset] at h1
              exact h1
            have HMl : Hid ((M.set j (ac, y)).length = L.length) := by show _ = _; rw [List.length_set]; exact hM
            have HFn := Lib.hid (HFq.out.setCell ⟨go, j * 2 + 1, none⟩ rfl (.int .i64 y))
            clear hx hcl hset hM hB HOq HFq
            go_wp2
            go_roundw
            · exact ⟨j + 1, by omega, by go_num, .inr ⟨rfl, _, _, HMl.out, HBn.out⟩, HFn⟩
            · simp [intOf]; omega
          · obtain rfl : j = L.length := by omega
            have hst := HSt.out.case0 HB1.out HL2.out HV2.out HC2.out HN2.out HNi.out HF2.out HR3.out HB3.out HFq.out (Nat.le_of_lt (Nat.lt_of_lt_of_le (Nat.lt_succ_self _) HGO1.out)) HGO2.out HOKB.out HOKE.out HOKT.out
            have HG8 := Lib.hid (HG3.out.fr HFq.out (by have := HGO1.out; have := HGA.out; omega) (by simp))
            obtain ⟨T8, E8, n8, e8⟩ := s
            obtain ⟨v8, rfl⟩ : ∃ x, x = v2 := ⟨_, rfl⟩
            obtain ⟨C8, rfl⟩ : ∃ x, x = C2 := ⟨_, rfl⟩
            obtain ⟨b8, rfl⟩ : ∃ x, x = b := ⟨_, rfl⟩
            have HL8 : Hid (St w wr (k + 1) b8 v8 C8 ao8 cap8 T8 E8) := hst
            clear hst HFq HOq HSt HB1 HL2 HV2 HC2 HN2 HNi HF2 HR3 HB3 HG3 HOW3 HPS HOKB HOKE HOKT HRS HBLt HVB HGO1 HGO2
            have HB0w := Lib.hid (Below.refl wr.heap.size wr)
            obtain ⟨rr, hrr⟩ : ∃ r, rightG L = r := ⟨_, rfl⟩
            have HRi := Lib.hid (fun U (hu : Below wr.heap.size wr U) => lg_any U po pc L (HLs.out.keeps (below_on HL8.out.below HL8.out.below.size hu)) (by have := HL40.out; omega) HLr.out rr hrr)
            have HRr := Lib.hid (fun U (hu : Below wr.heap.size wr U) => lgr_any U po pc L (HLs.out.keeps (below_on HL8.out.below HL8.out.below.size hu)) (by have := HL40.out; omega) HLr.out rr hrr)
            clear hrr
            as_aux_lemma =>
            go_wp2
            refine region_mono (by kernel_rfl) (by kernel_rfl) [some 97, some 98, some 99, some 100, some 101, some 102, some 103, some 104, some 105, some 106, some 107, some 108, some 109, some 110, some 111, some 112, some 113, some 114, some 115, some 116, some 117, some 118, some 119, some 120] (by kernel_rfl) wr.heap.size wr HB0w.out (Nat.le_refl _) (fun i v WW => match i with | 0 => v = .int .i64 n8 | 1 => v = .int .i64 n8 | 2 => v = .bool false | 3 => v = .bool false | 4 => v = .int .i64 e8 | 5 => v = .int .i64 e8 | 6 => v = .bool false | 7 => v = .bool false | 8 => v = .bool false | 9 => v = .pointer (some ⟨b8, 0, none⟩) | 10 => v = .int .i64 E8.length | 11 => v = .slice ao8 E8.length cap8 | 12 => v = .int .i64 E8.length | 13 => v = .bool false | 14 => v = .bool false | 15 => v = .bool false | 16 => v = .pointer (some ⟨ga, 2, none⟩) | 17 => v = .slice po L.length pc | 18 => v = .bool rr | 19 => v = .pointer (some ⟨ga, 2, none⟩) | 20 => v = .slice po L.length pc | 21 => v = .bool rr | 22 => v = .bool false | 23 => v = .bool false | _ => True) ?_ ?_ ?_
            · intro i v WW WX h hbx
              rcases i with _ | _ | _ | _ | _ | _ | _ | _ | _ | _ | _ | _ | _ | _ | _ | _ | _ | _ | _ | _ | _ | _ | _ | _ | i
              · exact h
              · exact h
              · exact h
              · exact h
              · exact h
              · exact h
              · exact h
              · exact h
              · exact h
              · exact h
              · exact h
              · exact h
              · exact h
              · exact h
              · exact h
              · exact h
              · exact h
              · exact h
              · exact h
              · exact h
              · exact h
              · exact h
              · exact h
              · exact h
              · trivial
            · intro iI oO V AC WW ho hf hbw K hK
              have hlt : iI < 24 := by have := (Array.getElem?_eq_some_iff.1 ho).1; first | exact this | simpa using this
              rcases iI with _ | _ | _ | _ | _ | _ | _ | _ | _ | _ | _ | _ | _ | _ | _ | _ | _ | _ | _ | _ | _ | _ | _ | _ | iI
              · obtain rfl := Option.some.inj (show some _ = some oO from ho)
                rw [if_pos (by rfl)]
                have q7 : AC.tmps.getD 7 undef = .int .i64 n8 := hf.rest 7 (by kernel_rfl)
                go_simp
                exact hK _ _ (Below.refl _ _) rfl
              · obtain rfl := Option.some.inj (show some _ = some oO from ho)
                rw [if_pos (by rfl)]
                have q8 : AC.tmps.getD 8 undef = .int .i64 n8 := hf.rest 8 (by kernel_rfl)
                go_simp
                exact hK _ _ (Below.refl _ _) rfl
              · obtain rfl := Option.some.inj (show some _ = some oO from ho)
                rw [if_pos (by rfl)]
                have q97 : AC.tmps.getD 97 undef = .int .i64 n8 := ((hf.dep ⟨0, .data⟩ (by simp) rfl).2 97 rfl).trans (hf.dep ⟨0, .data⟩ (by simp) rfl).1
                have q98 : AC.tmps.getD 98 undef = .int .i64 n8 := ((hf.dep ⟨1, .data⟩ (by simp) rfl).2 98 rfl).trans (hf.dep ⟨1, .data⟩ (by simp) rfl).1
                go_simp
                exact hK _ _ (Below.refl _ _) (by simp)
              · obtain rfl := Option.some.inj (show some _ = some oO from ho)
                rw [if_pos (by rfl)]
                have q99 : AC.tmps.getD 99 undef = .bool false := ((hf.dep ⟨2, .data⟩ (by simp) rfl).2 99 rfl).trans (hf.dep ⟨2, .data⟩ (by simp) rfl).1
                go_simp
                exact hK _ _ (Below.refl _ _) rfl
              · obtain rfl := Option.some.inj (show some _ = some oO from ho)
                rw [if_pos (wanted_yes (s := 100) rfl rfl rfl (by rw [hf.size]; simp) (((hf.dep ⟨3, .guard⟩ (by simp) rfl).2 100 rfl).trans (hf.dep ⟨3, .guard⟩ (by simp) rfl).1))]
                have q9 : AC.tmps.getD 9 undef = .int .i64 e8 := hf.rest 9 (by kernel_rfl)
                go_simp
                exact hK _ _ (Below.refl _ _) rfl
              · obtain rfl := Option.some.inj (show some _ = some oO from ho)
                rw [if_pos (wanted_yes (s := 100) rfl rfl rfl (by rw [hf.size]; simp) (((hf.dep ⟨3, .guard⟩ (by simp) rfl).2 100 rfl).trans (hf.dep ⟨3, .guard⟩ (by simp) rfl).1))]
                have q10 : AC.tmps.getD 10 undef = .int .i64 e8 := hf.rest 10 (by kernel_rfl)
                go_simp
                exact hK _ _ (Below.refl _ _) rfl
              · obtain rfl := Option.some.inj (show some _ = some oO from ho)
                rw [if_pos (wanted_yes (s := 100) rfl rfl rfl (by rw [hf.size]; simp) (((hf.dep ⟨3, .guard⟩ (by simp) rfl).2 100 rfl).trans (hf.dep ⟨3, .guard⟩ (by simp) rfl).1))]
                have q101 : AC.tmps.getD 101 undef = .int .i64 e8 := ((hf.dep ⟨4, .data⟩ (by simp) rfl).2 101 rfl).trans (hf.dep ⟨4, .data⟩ (by simp) rfl).1
                have q102 : AC.tmps.getD 102 undef = .int .i64 e8 := ((hf.dep ⟨5, .data⟩ (by simp) rfl).2 102 rfl).trans (hf.dep ⟨5, .data⟩ (by simp) rfl).1
                go_simp
                exact hK _ _ (Below.refl _ _) (by simp)
              · obtain rfl := Option.some.inj (show some _ = some oO from ho)
                rw [if_pos (by rfl)]
                have q100 : AC.tmps.getD 100 undef = .bool false := ((hf.dep ⟨3, .data⟩ (by simp) rfl).2 100 rfl).trans (hf.dep ⟨3, .data⟩ (by simp) rfl).1
                have q103 : AC.tmps.getD 103 undef = .bool false := ((hf.dep ⟨6, .data⟩ (by simp) rfl).2 103 rfl).trans (hf.dep ⟨6, .data⟩ (by simp) rfl).1
                go_simp
                exact hK _ _ (Below.refl _ _) rfl
              · obtain rfl := Option.some.inj (show some _ = some oO from ho)
                rw [if_pos (by rfl)]
                have q104 : AC.tmps.getD 104 undef = .bool false := ((hf.dep ⟨7, .data⟩ (by simp) rfl).2 104 rfl).trans (hf.dep ⟨7, .data⟩ (by simp) rfl).1
                go_simp
                exact hK _ _ (Below.refl _ _) rfl
              · obtain rfl := Option.some.inj (show some _ = some oO from ho)
                rw [if_pos (wanted_yes (s := 105) rfl rfl rfl (by rw [hf.size]; simp) (((hf.dep ⟨8, .guard⟩ (by simp) rfl).2 105 rfl).trans (hf.dep ⟨8, .guard⟩ (by simp) rfl).1))]
                have q3 : AC.tmps.getD 3 undef = .pointer (some ⟨b8, 0, none⟩) := hf.rest 3 (by kernel_rfl)
                go_simp
                exact hK _ _ (Below.refl _ _) rfl
              · obtain rfl := Option.some.inj (show some _ = some oO from ho)
                rw [if_pos (wanted_yes (s := 105) rfl rfl rfl (by rw [hf.size]; simp) (((hf.dep ⟨8, .guard⟩ (by simp) rfl).2 105 rfl).trans (hf.dep ⟨8, .guard⟩ (by simp) rfl).1))]
                have q106 : AC.tmps.getD 106 undef = .pointer (some ⟨b8, 0, none⟩) := ((hf.dep ⟨9, .data⟩ (by simp) rfl).2 106 rfl).trans (hf.dep ⟨9, .data⟩ (by simp) rfl).1
                go_simp
                refine (len_any WW _ _ _ _ _ _ (HL8.out.led.keeps hbw)).mono ?_
                rintro e w9 ⟨rfl, rfl⟩
                exact hK _ _ (Below.refl _ _) rfl
              · obtain rfl := Option.some.inj (show some _ = some oO from ho)
                rw [if_pos (wanted_yes (s := 105) rfl rfl rfl (by rw [hf.size]; simp) (((hf.dep ⟨8, .guard⟩ (by simp) rfl).2 105 rfl).trans (hf.dep ⟨8, .guard⟩ (by simp) rfl).1))]
                have q4 : AC.tmps.getD 4 undef = .slice ao8 E8.length cap8 := hf.rest 4 (by kernel_rfl)
                go_simp
                exact hK _ _ (Below.refl _ _) rfl
              · obtain rfl := Option.some.inj (show some _ = some oO from ho)
                rw [if_pos (wanted_yes (s := 105) rfl rfl rfl (by rw [hf.size]; simp) (((hf.dep ⟨8, .guard⟩ (by simp) rfl).2 105 rfl).trans (hf.dep ⟨8, .guard⟩ (by simp) rfl).1))]
                have q108 : AC.tmps.getD 108 undef = .slice ao8 E8.length cap8 := ((hf.dep ⟨11, .data⟩ (by simp) rfl).2 108 rfl).trans (hf.dep ⟨11, .data⟩ (by simp) rfl).1
                go_simp
                exact hK _ _ (Below.refl _ _) rfl
              · obtain rfl := Option.some.inj (show some _ = some oO from ho)
                rw [if_pos (wanted_yes (s := 105) rfl rfl rfl (by rw [hf.size]; simp) (((hf.dep ⟨8, .guard⟩ (by simp) rfl).2 105 rfl).trans (hf.dep ⟨8, .guard⟩ (by simp) rfl).1))]
                have q107 : AC.tmps.getD 107 undef = .int .i64 E8.length := ((hf.dep ⟨10, .data⟩ (by simp) rfl).2 107 rfl).trans (hf.dep ⟨10, .data⟩ (by simp) rfl).1
                have q109 : AC.tmps.getD 109 undef = .int .i64 E8.length := ((hf.dep ⟨12, .data⟩ (by simp) rfl).2 109 rfl).trans (hf.dep ⟨12, .data⟩ (by simp) rfl).1
                go_simp
                exact hK _ _ (Below.refl _ _) (by simp)
              · obtain rfl := Option.some.inj (show some _ = some oO from ho)
                rw [if_pos (by rfl)]
                have q105 : AC.tmps.getD 105 undef = .bool false := ((hf.dep ⟨8, .data⟩ (by simp) rfl).2 105 rfl).trans (hf.dep ⟨8, .data⟩ (by simp) rfl).1
                have q110 : AC.tmps.getD 110 undef = .bool false := ((hf.dep ⟨13, .data⟩ (by simp) rfl).2 110 rfl).trans (hf.dep ⟨13, .data⟩ (by simp) rfl).1
                go_simp
                exact hK _ _ (Below.refl _ _) rfl
              · obtain rfl := Option.some.inj (show some _ = some oO from ho)
                rw [if_pos (by rfl)]
                have q111 : AC.tmps.getD 111 undef = .bool false := ((hf.dep ⟨14, .data⟩ (by simp) rfl).2 111 rfl).trans (hf.dep ⟨14, .data⟩ (by simp) rfl).1
                go_simp
                exact hK _ _ (Below.refl _ _) rfl
              · obtain rfl := Option.some.inj (show some _ = some oO from ho)
                rw [if_pos (wanted_yes (s := 112) rfl rfl rfl (by rw [hf.size]; simp) (((hf.dep ⟨15, .guard⟩ (by simp) rfl).2 112 rfl).trans (hf.dep ⟨15, .guard⟩ (by simp) rfl).1))]
                have q6 : AC.tmps.getD 6 undef = .pointer (some ⟨ga, 0, none⟩) := hf.rest 6 (by kernel_rfl)
                go_simp
                exact hK _ _ (Below.refl _ _) rfl
              · obtain rfl := Option.some.inj (show some _ = some oO from ho)
                rw [if_pos (wanted_yes (s := 112) rfl rfl rfl (by rw [hf.size]; simp) (((hf.dep ⟨15, .guard⟩ (by simp) rfl).2 112 rfl).trans (hf.dep ⟨15, .guard⟩ (by simp) rfl).1))]
                have q113 : AC.tmps.getD 113 undef = .pointer (some ⟨ga, 2, none⟩) := ((hf.dep ⟨16, .data⟩ (by simp) rfl).2 113 rfl).trans (hf.dep ⟨16, .data⟩ (by simp) rfl).1
                have c2 := (HG8.out.keeps hbw).cell 2 _ rfl
                go_simp
                exact hK _ _ (Below.refl _ _) rfl
              · obtain rfl := Option.some.inj (show some _ = some oO from ho)
                rw [if_pos (wanted_yes (s := 112) rfl rfl rfl (by rw [hf.size]; simp) (((hf.dep ⟨15, .guard⟩ (by simp) rfl).2 112 rfl).trans (hf.dep ⟨15, .guard⟩ (by simp) rfl).1))]
                have q114 : AC.tmps.getD 114 undef = .slice po L.length pc := ((hf.dep ⟨17, .data⟩ (by simp) rfl).2 114 rfl).trans (hf.dep ⟨17, .data⟩ (by simp) rfl).1
                go_simp
                refine (HRi.out WW hbw).mono ?_
                rintro e w9 ⟨rfl, hb9⟩
                exact hK _ _ hb9 rfl
              · obtain rfl := Option.some.inj (show some _ = some oO from ho)
                rw [if_pos (wanted_yes (s := 112) rfl rfl rfl (by rw [hf.size]; simp) (((hf.dep ⟨15, .guard⟩ (by simp) rfl).2 112 rfl).trans (hf.dep ⟨15, .guard⟩ (by simp) rfl).1))]
                have q6 : AC.tmps.getD 6 undef = .pointer (some ⟨ga, 0, none⟩) := hf.rest 6 (by kernel_rfl)
                go_simp
                exact hK _ _ (Below.refl _ _) rfl
              · obtain rfl := Option.some.inj (show some _ = some oO from ho)
                rw [if_pos (wanted_yes (s := 112) rfl rfl rfl (by rw [hf.size]; simp) (((hf.dep ⟨15, .guard⟩ (by simp) rfl).2 112 rfl).trans (hf.dep ⟨15, .guard⟩ (by simp) rfl).1))]
                have q116 : AC.tmps.getD 116 undef = .pointer (some ⟨ga, 2, none⟩) := ((hf.dep ⟨19, .data⟩ (by simp) rfl).2 116 rfl).trans (hf.dep ⟨19, .data⟩ (by simp) rfl).1
                have c2 := (HG8.out.keeps hbw).cell 2 _ rfl
                go_simp
                exact hK _ _ (Below.refl _ _) rfl
              · obtain rfl := Option.some.inj (show some _ = some oO from ho)
                rw [if_pos (wanted_yes (s := 112) rfl rfl rfl (by rw [hf.size]; simp) (((hf.dep ⟨15, .guard⟩ (by simp) rfl).2 112 rfl).trans (hf.dep ⟨15, .guard⟩ (by simp) rfl).1))]
                have q117 : AC.tmps.getD 117 undef = .slice po L.length pc := ((hf.dep ⟨20, .data⟩ (by simp) rfl).2 117 rfl).trans (hf.dep ⟨20, .data⟩ (by simp) rfl).1
                go_simp
                refine (HRr.out WW hbw).mono ?_
                rintro e w9 ⟨rfl, hb9⟩
                exact hK _ _ hb9 rfl
              · obtain rfl := Option.some.inj (show some _ = some oO from ho)
                rw [if_pos (wanted_yes (s := 112) rfl rfl rfl (by rw [hf.size]; simp) (((hf.dep ⟨15, .guard⟩ (by simp) rfl).2 112 rfl).trans (hf.dep ⟨15, .guard⟩ (by simp) rfl).1))]
                have q115 : AC.tmps.getD 115 undef = .bool rr := ((hf.dep ⟨18, .data⟩ (by simp) rfl).2 115 rfl).trans (hf.dep ⟨18, .data⟩ (by simp) rfl).1
                have q118 : AC.tmps.getD 118 undef = .bool rr := ((hf.dep ⟨21, .data⟩ (by simp) rfl).2 118 rfl).trans (hf.dep ⟨21, .data⟩ (by simp) rfl).1
                go_simp
                exact hK _ _ (Below.refl _ _) (by simp)
              · obtain rfl := Option.some.inj (show some _ = some oO from ho)
                rw [if_pos (by rfl)]
                have q112 : AC.tmps.getD 112 undef = .bool false := ((hf.dep ⟨15, .data⟩ (by simp) rfl).2 112 rfl).trans (hf.dep ⟨15, .data⟩ (by simp) rfl).1
                have q119 : AC.tmps.getD 119 undef = .bool false := ((hf.dep ⟨22, .data⟩ (by simp) rfl).2 119 rfl).trans (hf.dep ⟨22, .data⟩ (by simp) rfl).1
                go_simp
                exact hK _ _ (Below.refl _ _) rfl
              · omega
            · intro V WW hall hbw hBW
              have vv0 : V 0 = .int .i64 n8 := hall 0 (by decide)
              have vv1 : V 1 = .int .i64 n8 := hall 1 (by decide)
              have vv2 : V 2 = .bool false := hall 2 (by decide)
              have vv3 : V 3 = .bool false := hall 3 (by decide)
              have vv4 : V 4 = .int .i64 e8 := hall 4 (by decide)
              have vv5 : V 5 = .int .i64 e8 := hall 5 (by decide)
              have vv6 : V 6 = .bool false := hall 6 (by decide)
              have vv7 : V 7 = .bool false := hall 7 (by decide)
              have vv8 : V 8 = .bool false := hall 8 (by decide)
              have vv9 : V 9 = .pointer (some ⟨b8, 0, none⟩) := hall 9 (by decide)
              have vv10 : V 10 = .int .i64 E8.length := hall 10 (by decide)
              have vv11 : V 11 = .slice ao8 E8.length cap8 := hall 11 (by decide)
              have vv12 : V 12 = .int .i64 E8.length := hall 12 (by decide)
              have vv13 : V 13 = .bool false := hall 13 (by decide)
              have vv14 : V 14 = .bool false := hall 14 (by decide)
              have vv15 : V 15 = .bool false := hall 15 (by decide)
              have vv16 : V 16 = .pointer (some ⟨ga, 2, none⟩) := hall 16 (by decide)
              have vv17 : V 17 = .slice po L.length pc := hall 17 (by decide)
              have vv18 : V 18 = .bool rr := hall 18 (by decide)
              have vv19 : V 19 = .pointer (some ⟨ga, 2, none⟩) := hall 19 (by decide)
              have vv20 : V 20 = .slice po L.length pc := hall 20 (by decide)
              have vv21 : V 21 = .bool rr := hall 21 (by decide)
              have vv22 : V 22 = .bool false := hall 22 (by decide)
              have vv23 : V 23 = .bool false := hall 23 (by decide)
              clear hall
              simp only [pairsOf, laid, Nat.zero_add, Nat.reduceAdd, vv0, vv1, vv2, vv3, vv4, vv5, vv6, vv7, vv8, vv9, vv10, vv11, vv12, vv13, vv14, vv15, vv16, vv17, vv18, vv19, vv20, vv21, vv22, vv23, List.setIfInBounds_toArray, List.set_cons_zero, List.set_cons_succ]
              clear vv0 vv1 vv2 vv3 vv4 vv5 vv6 vv7 vv8 vv9 vv10 vv11 vv12 vv13 vv14 vv15 vv16 vv17 vv18 vv19 vv20 vv21 vv22 vv23
              have HL9a := Lib.hid (HL8.out.keeps hbw)
              clear hbw hBW HRi HRr HG8 HL8
              have HTr := Lib.hid (trial_any _ _ _ _ _ _ _ HL9a.out.led)
              go_wp2_with fail
              refine HTr.out.mono ?_
              rintro e w9 ⟨v9, rfl, ho9, hb9⟩
              have HL9 := Lib.hid (HL9a.out.keeps hb9)
              obtain ⟨a9, c9, rfl, hs9⟩ := OwI.sl ho9
              have HS9 := Lib.hid hs9
              have HT8l : Hid (T8.length = 8) := HL9.out.okb.len
              obtain ⟨C8r, hre⟩ := HL9.out.re
              have HBE : Hid (∀ kk : Int, balS T8 kk = balE E8 kk) := fun kk => balS_E HL9.out.okt HL9.out.oke.rt kk
              have HBL : Hid (∀ W, Below w9.heap.size w9 W → ∀ kk : Int, Calls Try.prog 24 #[.slice ao8 E8.length cap8, .int .i64 kk] W fun e w' => e = .returned (.tuple #[.int .i64 (balE E8 kk), .int .i64 0]) ∧ Below W.heap.size W w') := fun W hW kk => by
                have h1 := rbal_any W _ ao8 cap8 E8 C8r (hre.keeps hW) (by have := HL9.out.oke.len; have := HA60.out; omega) (fun M hM => by have := (rightG_all (HL9.out.oke.rt M hM)).1; omega) HL9.out.oke.rng kk
                rw [balE_cut HL9.out.okt HL9.out.okb HL9.out.oke.rt kk] at h1
                exact h1
              clear ho9 hb9 hs9 HTr HL9a hre
              go_wp2
              go_loopw [15] (fun i wq => ∃ j : Nat, j ≤ 10 ∧ i = .int .i64 ((j : Int) - 1) ∧ Below w9.heap.size w9 wq) (fun i _ => (9 - intOf i).toNat)
              case atStart => exact ⟨0, by omega, rfl, Below.refl _ _⟩
              case round =>
                obtain ⟨j, hj, rfl, hbq⟩ := hrel
                by_cases hj10 : j < 10
                · have hle : (j : Int) - 1 ≤ 8 := by omega
                  by_cases hj0 : j = 0
                  · subst hj0
                    have q0 : ¬ (0 : Int) ≤ ((0 : Nat) : Int) - 1 := by omega
                    have HBl := Lib.hid (HBL.out wr hbq (((0 : Nat) : Int) - 1))
                    have HLq := Lib.hid (HL9.out.led.keeps hbq)
                    have HBq := Lib.hid hbq
                    clear hbq
                    go_wp2_with fail
                    refine HBl.out.mono ?_
                    rintro e wz ⟨rfl, hbz⟩
                    have HBz := Lib.hid (below_on HBq.out HBq.out.size hbz)
                    have HLz := Lib.hid (HLq.out.keeps hbz)
                    have HBa := Lib.hid (balance_any wz _ _ _ _ _ _ HLz.out (((0 : Nat) : Int) - 1))
                    clear hbz HBl HLq
                    go_wp2_with fail
                    refine HBa.out.mono ?_
                    rintro e wy ⟨rfl, rfl⟩
                    rw [HBE.out (((0 : Nat) : Int) - 1)]
                    go_wp2
                    go_roundw
                    · exact ⟨0 + 1, by omega, by go_num, HBz.out⟩
                    · simp [intOf] <;> omega
                  · by_cases hj9 : j = 9
                    · subst hj9
                      have HBl := Lib.hid (HBL.out wr hbq (((9 : Nat) : Int) - 1))
                      have HLq := Lib.hid (HL9.out.led.keeps hbq)
                      have HBq := Lib.hid hbq
                      clear hbq
                      go_wp2_with fail
                      refine HBl.out.mono ?_
                      rintro e wz ⟨rfl, hbz⟩
                      have HBz := Lib.hid (below_on HBq.out HBq.out.size hbz)
                      have HLz := Lib.hid (HLq.out.keeps hbz)
                      have HBa := Lib.hid (balance_any wz _ _ _ _ _ _ HLz.out (((9 : Nat) : Int) - 1))
                      clear hbz HBl HLq
                      go_wp2_with fail
                      refine HBa.out.mono ?_
                      rintro e wy ⟨rfl, rfl⟩
                      rw [HBE.out (((9 : Nat) : Int) - 1)]
                      go_wp2
                      go_roundw
                      · exact ⟨9 + 1, by omega, by go_num, HBz.out⟩
                      · simp [intOf] <;> omega
                    · obtain ⟨n, rfl⟩ : ∃ n, j = n + 1 := ⟨j - 1, by omega⟩
                      have hn8 : n < 8 := by omega
                      have hkk : ((n + 1 : Nat) : Int) - 1 = (n : Int) := by omega
                      simp only [hkk]
                      have hn0 : (0 : Int) ≤ (n : Int) := by omega
                      have hn7 : (n : Int) < 8 := by omega
                      have hle8 : (n : Int) ≤ 8 := by omega
                      have hTn : T8[n]? = some (balE E8 (n : Int)) := by
                        have h1 := HL9.out.okt n hn8
                        rw [List.getD_eq_getElem?_getD, List.getElem?_eq_getElem (by rw [HT8l.out]; exact hn8)] at h1
                        rw [List.getElem?_eq_getElem (by rw [HT8l.out]; exact hn8)]
                        exact congrArg some h1
                      have HTn := Lib.hid hTn
                      clear hle hTn hkk
                      have HBl := Lib.hid (HBL.out wr hbq ((n : Int)))
                      have HLq := Lib.hid (HL9.out.led.keeps hbq)
                      have HBq := Lib.hid hbq
                      clear hbq
                      go_wp2_with fail
                      refine HBl.out.mono ?_
                      rintro e wz ⟨rfl, hbz⟩
                      have HBz := Lib.hid (below_on HBq.out HBq.out.size hbz)
                      have HLz := Lib.hid (HLq.out.keeps hbz)
                      have HBa := Lib.hid (balance_any wz _ _ _ _ _ _ HLz.out ((n : Int)))
                      have HSz := Lib.hid (HS9.out.keeps HBz.out)
                      clear hbz HBl HLq
                      go_wp2_with fail
                      refine HBa.out.mono ?_
                      rintro e wy ⟨rfl, rfl⟩
                      rw [HBE.out ((n : Int))]
                      go_wp2_with (first | (refine wpList_ix_sl (by rfl) 42 2 _ _ rfl Try.underlying42 size_i64 a9 T8.length c9 rfl (ic T8) HSz.out n (by rw [HT8l.out]; exact hn8) rfl ?_; intro bb off u hu hcell; obtain rfl : u = .int .i64 (balE E8 (n : Int)) := by (rw [ic_at HTn.out] at hu; exact (Option.some.inj hu).symm)) | fail)
                      go_roundw
                      · exact ⟨n + 1 + 1, by omega, by go_num, HBz.out⟩
                      · simp [intOf]; omega
                · obtain rfl : j = 10 := by omega
                  have hgt : ¬ ((10 : Nat) : Int) - 1 ≤ 8 := by omega
                  have HLn := Lib.hid (HL9.out.keeps hbq)
                  clear hbq HBL HS9 HBE
                  go_wp2
                  go_roundw
                  · exact ⟨k + 1, b8, v8, C8, ao8, cap8, T8, E8, by omega, by go_num, rfl, rfl, HLn⟩
                  · simp [intOf]; omega
      · by_cases d1 : kd = 1
        · subst d1
          obtain ⟨s, hs⟩ : ∃ s, revS T E at_ = s := ⟨_, rfl⟩
          have hok := rev_ok HSt.out.okb HSt.out.oke hs
          have hsm := rev_same HSt.out.okt hs
          have HNi := Lib.hid (rev_nil hs)
          have HPS := Lib.hid hs
          have HOKB := Lib.hid hok.1
          have HOKE := Lib.hid hok.2
          have HOKT := Lib.hid hsm.2
          have HRS := Lib.hid hsm.1
          have HB1 := Lib.hid (below_new1 wr (.cells #[.int .i64 1, .int .i64 at_, .slice po L.length pc] 36))
          have HG1 := Lib.hid (Blk.new wr 36 [.int .i64 1, .int .i64 at_, .slice po L.length pc])
          have HBLt := Lib.hid HSt.out.led.blk.lt
          have HVB := Lib.hid (own_base HSt.out.led.row)
          have hB01 := below_on HSt.out.below HSt.out.below.size HB1.out
          have HP := Lib.hid (reverse_full _ _ _ _ _ _ _ (HSt.out.led.keeps HB1.out) hB01.size (by have := HSt.out.oke.len; have := HA60.out; omega) HSt.out.okb.rng HSt.out.oke.sz HSt.out.oke.rng at_ s HPS.out)
          clear hs hok hsm hb hB01
          as_aux_lemma =>
          go_wp2_with (first | (refine ix_ak rfl _ _ rfl ao0 cap0 A hwA rfl k _ HT1.out rfl ?_; intro bb off k0 k1 k2) | fail)
          refine HP.out.mono ?_
          rintro e w2 ⟨rfl, ⟨v2, C2, hl2, hv2, hn2⟩, hf2⟩
          have HL2 := Lib.hid hl2
          have HV2 := Lib.hid hv2
          have HN2 := Lib.hid hn2
          have HF2 := Lib.hid hf2
          have HG2 := Lib.hid (HG1.out.fr hf2 (by have := HBLt.out; omega) (fun e => by have := (HVB.out _ e.symm).2; omega))
          obtain ⟨C3, hre⟩ := HSt.out.re2 HB1.out hf2
          have HR := Lib.hid (rrev_any w2 _ (HSt.out.nn (Nat.le_trans HB1.out.size hf2.size)) ao cap E C3 hre (by have := HSt.out.oke.len; have := HA60.out; omega) (fun M hM => by have := (rightG_all (HSt.out.oke.rt M hM)).1; omega) HSt.out.oke.rng at_ _ HRS.out)
          have g1 := HG2.out.cell 1 _ rfl
          clear hl2 hv2 hn2 hf2 hre HP HG1 hwA k0 k1 k2
          go_wp2_with fail
          refine HR.out.mono ?_
          rintro e w8 ⟨ao8, cap8, rfl, hr3, hb3⟩
          have hst := HSt.out.case1 HB1.out HL2.out HV2.out HN2.out HNi.out HF2.out hr3 hb3 HOKB.out HOKE.out HOKT.out
          have HG8 := Lib.hid (HG2.out.keeps hb3)
          obtain ⟨ga, hga⟩ : ∃ g, wr.heap.size = g := ⟨_, rfl⟩
          rw [hga] at HG8
          simp only [hga]
          obtain ⟨T8, E8, n8, e8⟩ := s
          obtain ⟨v8, rfl⟩ : ∃ x, x = v2 := ⟨_, rfl⟩
          obtain ⟨C8, rfl⟩ : ∃ x, x = C2 := ⟨_, rfl⟩
          obtain ⟨b8, rfl⟩ : ∃ x, x = b := ⟨_, rfl⟩
          have HL8 : Hid (St w w8 (k + 1) b8 v8 C8 ao8 cap8 T8 E8) := hst
          clear hst hga hr3 hb3 HSt HB1 HL2 HV2 HN2 HNi HF2 HPS HOKB HOKE HOKT HRS HBLt HVB HG2 HR g1
          have HB0w := Lib.hid (Below.refl w8.heap.size w8)
          obtain ⟨rr, hrr⟩ : ∃ r, rightG L = r := ⟨_, rfl⟩
          have HRi := Lib.hid (fun U (hu : Below w8.heap.size w8 U) => lg_any U po pc L (HLs.out.keeps (below_on HL8.out.below HL8.out.below.size hu)) (by have := HL40.out; omega) HLr.out rr hrr)
          have HRr := Lib.hid (fun U (hu : Below w8.heap.size w8 U) => lgr_any U po pc L (HLs.out.keeps (below_on HL8.out.below HL8.out.below.size hu)) (by have := HL40.out; omega) HLr.out rr hrr)
          clear hrr
          as_aux_lemma =>
          go_wp2
          refine region_mono (by kernel_rfl) (by kernel_rfl) [some 97, some 98, some 99, some 100, some 101, some 102, some 103, some 104, some 105, some 106, some 107, some 108, some 109, some 110, some 111, some 112, some 113, some 114, some 115, some 116, some 117, some 118, some 119, some 120] (by kernel_rfl) w8.heap.size w8 HB0w.out (Nat.le_refl _) (fun i v WW => match i with | 0 => v = .int .i64 n8 | 1 => v = .int .i64 n8 | 2 => v = .bool false | 3 => v = .bool false | 4 => v = .int .i64 e8 | 5 => v = .int .i64 e8 | 6 => v = .bool false | 7 => v = .bool false | 8 => v = .bool false | 9 => v = .pointer (some ⟨b8, 0, none⟩) | 10 => v = .int .i64 E8.length | 11 => v = .slice ao8 E8.length cap8 | 12 => v = .int .i64 E8.length | 13 => v = .bool false | 14 => v = .bool false | 15 => v = .bool false | 16 => v = .pointer (some ⟨ga, 2, none⟩) | 17 => v = .slice po L.length pc | 18 => v = .bool rr | 19 => v = .pointer (some ⟨ga, 2, none⟩) | 20 => v = .slice po L.length pc | 21 => v = .bool rr | 22 => v = .bool false | 23 => v = .bool false | _ => True) ?_ ?_ ?_
          · intro i v WW WX h hbx
            rcases i with _ | _ | _ | _ | _ | _ | _ | _ | _ | _ | _ | _ | _ | _ | _ | _ | _ | _ | _ | _ | _ | _ | _ | _ | i
            · exact h
            · exact h
            · exact h
            · exact h
            · exact h
            · exact h
            · exact h
            · exact h
            · exact h
            · exact h
            · exact h
            · exact h
            · exact h
            · exact h
            · exact h
            · exact h
            · exact h
            · exact h
            · exact h
            · exact h
            · exact h
            · exact h
            · exact h
            · exact h
            · trivial
          · intro iI oO V AC WW ho hf hbw K hK
            have hlt : iI < 24 := by have := (Array.getElem?_eq_some_iff.1 ho).1; first | exact this | simpa using this
            rcases iI with _ | _ | _ | _ | _ | _ | _ | _ | _ | _ | _ | _ | _ | _ | _ | _ | _ | _ | _ | _ | _ | _ | _ | _ | iI
            · obtain rfl := Option.some.inj (show some _ = some oO from ho)
              rw [if_pos (by rfl)]
              have q7 : AC.tmps.getD 7 undef = .int .i64 n8 := hf.rest 7 (by kernel_rfl)
              go_simp
              exact hK _ _ (Below.refl _ _) rfl
            · obtain rfl := Option.some.inj (show some _ = some oO from ho)
              rw [if_pos (by rfl)]
              have q8 : AC.tmps.getD 8 undef = .int .i64 n8 := hf.rest 8 (by kernel_rfl)
              go_simp
              exact hK _ _ (Below.refl _ _) rfl
            · obtain rfl := Option.some.inj (show some _ = some oO from ho)
              rw [if_pos (by rfl)]
              have q97 : AC.tmps.getD 97 undef = .int .i64 n8 := ((hf.dep ⟨0, .data⟩ (by simp) rfl).2 97 rfl).trans (hf.dep ⟨0, .data⟩ (by simp) rfl).1
              have q98 : AC.tmps.getD 98 undef = .int .i64 n8 := ((hf.dep ⟨1, .data⟩ (by simp) rfl).2 98 rfl).trans (hf.dep ⟨1, .data⟩ (by simp) rfl).1
              go_simp
              exact hK _ _ (Below.refl _ _) (by simp)
            · obtain rfl := Option.some.inj (show some _ = some oO from ho)
              rw [if_pos (by rfl)]
              have q99 : AC.tmps.getD 99 undef = .bool false := ((hf.dep ⟨2, .data⟩ (by simp) rfl).2 99 rfl).trans (hf.dep ⟨2, .data⟩ (by simp) rfl).1
              go_simp
              exact hK _ _ (Below.refl _ _) rfl
            · obtain rfl := Option.some.inj (show some _ = some oO from ho)
              rw [if_pos (wanted_yes (s := 100) rfl rfl rfl (by rw [hf.size]; simp) (((hf.dep ⟨3, .guard⟩ (by simp) rfl).2 100 rfl).trans (hf.dep ⟨3, .guard⟩ (by simp) rfl).1))]
              have q9 : AC.tmps.getD 9 undef = .int .i64 e8 := hf.rest 9 (by kernel_rfl)
              go_simp
              exact hK _ _ (Below.refl _ _) rfl
            · obtain rfl := Option.some.inj (show some _ = some oO from ho)
              rw [if_pos (wanted_yes (s := 100) rfl rfl rfl (by rw [hf.size]; simp) (((hf.dep ⟨3, .guard⟩ (by simp) rfl).2 100 rfl).trans (hf.dep ⟨3, .guard⟩ (by simp) rfl).1))]
              have q10 : AC.tmps.getD 10 undef = .int .i64 e8 := hf.rest 10 (by kernel_rfl)
              go_simp
              exact hK _ _ (Below.refl _ _) rfl
            · obtain rfl := Option.some.inj (show some _ = some oO from ho)
              rw [if_pos (wanted_yes (s := 100) rfl rfl rfl (by rw [hf.size]; simp) (((hf.dep ⟨3, .guard⟩ (by simp) rfl).2 100 rfl).trans (hf.dep ⟨3, .guard⟩ (by simp) rfl).1))]
              have q101 : AC.tmps.getD 101 undef = .int .i64 e8 := ((hf.dep ⟨4, .data⟩ (by simp) rfl).2 101 rfl).trans (hf.dep ⟨4, .data⟩ (by simp) rfl).1
              have q102 : AC.tmps.getD 102 undef = .int .i64 e8 := ((hf.dep ⟨5, .data⟩ (by simp) rfl).2 102 rfl).trans (hf.dep ⟨5, .data⟩ (by simp) rfl).1
              go_simp
              exact hK _ _ (Below.refl _ _) (by simp)
            · obtain rfl := Option.some.inj (show some _ = some oO from ho)
              rw [if_pos (by rfl)]
              have q100 : AC.tmps.getD 100 undef = .bool false := ((hf.dep ⟨3, .data⟩ (by simp) rfl).2 100 rfl).trans (hf.dep ⟨3, .data⟩ (by simp) rfl).1
              have q103 : AC.tmps.getD 103 undef = .bool false := ((hf.dep ⟨6, .data⟩ (by simp) rfl).2 103 rfl).trans (hf.dep ⟨6, .data⟩ (by simp) rfl).1
              go_simp
              exact hK _ _ (Below.refl _ _) rfl
            · obtain rfl := Option.some.inj (show some _ = some oO from ho)
              rw [if_pos (by rfl)]
              have q104 : AC.tmps.getD 104 undef = .bool false := ((hf.dep ⟨7, .data⟩ (by simp) rfl).2 104 rfl).trans (hf.dep ⟨7, .data⟩ (by simp) rfl).1
              go_simp
              exact hK _ _ (Below.refl _ _) rfl
            · obtain rfl := Option.some.inj (show some _ = some oO from ho)
              rw [if_pos (wanted_yes (s := 105) rfl rfl rfl (by rw [hf.size]; simp) (((hf.dep ⟨8, .guard⟩ (by simp) rfl).2 105 rfl).trans (hf.dep ⟨8, .guard⟩ (by simp) rfl).1))]
              have q3 : AC.tmps.getD 3 undef = .pointer (some ⟨b8, 0, none⟩) := hf.rest 3 (by kernel_rfl)
              go_simp
              exact hK _ _ (Below.refl _ _) rfl
            · obtain rfl := Option.some.inj (show some _ = some oO from ho)
              rw [if_pos (wanted_yes (s := 105) rfl rfl rfl (by rw [hf.size]; simp) (((hf.dep ⟨8, .guard⟩ (by simp) rfl).2 105 rfl).trans (hf.dep ⟨8, .guard⟩ (by simp) rfl).1))]
              have q106 : AC.tmps.getD 106 undef = .pointer (some ⟨b8, 0, none⟩) := ((hf.dep ⟨9, .data⟩ (by simp) rfl).2 106 rfl).trans (hf.dep ⟨9, .data⟩ (by simp) rfl).1
              go_simp
              refine (len_any WW _ _ _ _ _ _ (HL8.out.led.keeps hbw)).mono ?_
              rintro e w9 ⟨rfl, rfl⟩
              exact hK _ _ (Below.refl _ _) rfl
            · obtain rfl := Option.some.inj (show some _ = some oO from ho)
              rw [if_pos (wanted_yes (s := 105) rfl rfl rfl (by rw [hf.size]; simp) (((hf.dep ⟨8, .guard⟩ (by simp) rfl).2 105 rfl).trans (hf.dep ⟨8, .guard⟩ (by simp) rfl).1))]
              have q4 : AC.tmps.getD 4 undef = .slice ao8 E8.length cap8 := hf.rest 4 (by kernel_rfl)
              go_simp
              exact hK _ _ (Below.refl _ _) rfl
            · obtain rfl := Option.some.inj (show some _ = some oO from ho)
              rw [if_pos (wanted_yes (s := 105) rfl rfl rfl (by rw [hf.size]; simp) (((hf.dep ⟨8, .guard⟩ (by simp) rfl).2 105 rfl).trans (hf.dep ⟨8, .guard⟩ (by simp) rfl).1))]
              have q108 : AC.tmps.getD 108 undef = .slice ao8 E8.length cap8 := ((hf.dep ⟨11, .data⟩ (by simp) rfl).2 108 rfl).trans (hf.dep ⟨11, .data⟩ (by simp) rfl).1
              go_simp
              exact hK _ _ (Below.refl _ _) rfl
            · obtain rfl := Option.some.inj (show some _ = some oO from ho)
              rw [if_pos (wanted_yes (s := 105) rfl rfl rfl (by rw [hf.size]; simp) (((hf.dep ⟨8, .guard⟩ (by simp) rfl).2 105 rfl).trans (hf.dep ⟨8, .guard⟩ (by simp) rfl).1))]
              have q107 : AC.tmps.getD 107 undef = .int .i64 E8.length := ((hf.dep ⟨10, .data⟩ (by simp) rfl).2 107 rfl).trans (hf.dep ⟨10, .data⟩ (by simp) rfl).1
              have q109 : AC.tmps.getD 109 undef = .int .i64 E8.length := ((hf.dep ⟨12, .data⟩ (by simp) rfl).2 109 rfl).trans (hf.dep ⟨12, .data⟩ (by simp) rfl).1
              go_simp
              exact hK _ _ (Below.refl _ _) (by simp)
            · obtain rfl := Option.some.inj (show some _ = some oO from ho)
              rw [if_pos (by rfl)]
              have q105 : AC.tmps.getD 105 undef = .bool false := ((hf.dep ⟨8, .data⟩ (by simp) rfl).2 105 rfl).trans (hf.dep ⟨8, .data⟩ (by simp) rfl).1
              have q110 : AC.tmps.getD 110 undef = .bool false := ((hf.dep ⟨13, .data⟩ (by simp) rfl).2 110 rfl).trans (hf.dep ⟨13, .data⟩ (by simp) rfl).1
              go_simp
              exact hK _ _ (Below.refl _ _) rfl
            · obtain rfl := Option.some.inj (show some _ = some oO from ho)
              rw [if_pos (by rfl)]
              have q111 : AC.tmps.getD 111 undef = .bool false := ((hf.dep ⟨14, .data⟩ (by simp) rfl).2 111 rfl).trans (hf.dep ⟨14, .data⟩ (by simp) rfl).1
              go_simp
              exact hK _ _ (Below.refl _ _) rfl
            · obtain rfl := Option.some.inj (show some _ = some oO from ho)
              rw [if_pos (wanted_yes (s := 112) rfl rfl rfl (by rw [hf.size]; simp) (((hf.dep ⟨15, .guard⟩ (by simp) rfl).2 112 rfl).trans (hf.dep ⟨15, .guard⟩ (by simp) rfl).1))]
              have q6 : AC.tmps.getD 6 undef = .pointer (some ⟨ga, 0, none⟩) := hf.rest 6 (by kernel_rfl)
              go_simp
              exact hK _ _ (Below.refl _ _) rfl
            · obtain rfl := Option.some.inj (show some _ = some oO from ho)
              rw [if_pos (wanted_yes (s := 112) rfl rfl rfl (by rw [hf.size]; simp) (((hf.dep ⟨15, .guard⟩ (by simp) rfl).2 112 rfl).trans (hf.dep ⟨15, .guard⟩ (by simp) rfl).1))]
              have q113 : AC.tmps.getD 113 undef = .pointer (some ⟨ga, 2, none⟩) := ((hf.dep ⟨16, .data⟩ (by simp) rfl).2 113 rfl).trans (hf.dep ⟨16, .data⟩ (by simp) rfl).1
              have c2 := (HG8.out.keeps hbw).cell 2 _ rfl
              go_simp
              exact hK _ _ (Below.refl _ _) rfl
            · obtain rfl := Option.some.inj (show some _ = some oO from ho)
              rw [if_pos (wanted_yes (s := 112) rfl rfl rfl (by rw [hf.size]; simp) (((hf.dep ⟨15, .guard⟩ (by simp) rfl).2 112 rfl).trans (hf.dep ⟨15, .guard⟩ (by simp) rfl).1))]
              have q114 : AC.tmps.getD 114 undef = .slice po L.length pc := ((hf.dep ⟨17, .data⟩ (by simp) rfl).2 114 rfl).trans (hf.dep ⟨17, .data⟩ (by simp) rfl).1
              go_simp
              refine (HRi.out WW hbw).mono ?_
              rintro e w9 ⟨rfl, hb9⟩
              exact hK _ _ hb9 rfl
            · obtain rfl := Option.some.inj (show some _ = some oO from ho)
              rw [if_pos (wanted_yes (s := 112) rfl rfl rfl (by rw [hf.size]; simp) (((hf.dep ⟨15, .guard⟩ (by simp) rfl).2 112 rfl).trans (hf.dep ⟨15, .guard⟩ (by simp) rfl).1))]
              have q6 : AC.tmps.getD 6 undef = .pointer (some ⟨ga, 0, none⟩) := hf.rest 6 (by kernel_rfl)
              go_simp
              exact hK _ _ (Below.refl _ _) rfl
            · obtain rfl := Option.some.inj (show some _ = some oO from ho)
              rw [if_pos (wanted_yes (s := 112) rfl rfl rfl (by rw [hf.size]; simp) (((hf.dep ⟨15, .guard⟩ (by simp) rfl).2 112 rfl).trans (hf.dep ⟨15, .guard⟩ (by simp) rfl).1))]
              have q116 : AC.tmps.getD 116 undef = .pointer (some ⟨ga, 2, none⟩) := ((hf.dep ⟨19, .data⟩ (by simp) rfl).2 116 rfl).trans (hf.dep ⟨19, .data⟩ (by simp) rfl).1
              have c2 := (HG8.out.keeps hbw).cell 2 _ rfl
              go_simp
              exact hK _ _ (Below.refl _ _) rfl
            · obtain rfl := Option.some.inj (show some _ = some oO from ho)
              rw [if_pos (wanted_yes (s := 112) rfl rfl rfl (by rw [hf.size]; simp) (((hf.dep ⟨15, .guard⟩ (by simp) rfl).2 112 rfl).trans (hf.dep ⟨15, .guard⟩ (by simp) rfl).1))]
              have q117 : AC.tmps.getD 117 undef = .slice po L.length pc := ((hf.dep ⟨20, .data⟩ (by simp) rfl).2 117 rfl).trans (hf.dep ⟨20, .data⟩ (by simp) rfl).1
              go_simp
              refine (HRr.out WW hbw).mono ?_
              rintro e w9 ⟨rfl, hb9⟩
              exact hK _ _ hb9 rfl
            · obtain rfl := Option.some.inj (show some _ = some oO from ho)
              rw [if_pos (wanted_yes (s := 112) rfl rfl rfl (by rw [hf.size]; simp) (((hf.dep ⟨15, .guard⟩ (by simp) rfl).2 112 rfl).trans (hf.dep ⟨15, .guard⟩ (by simp) rfl).1))]
              have q115 : AC.tmps.getD 115 undef = .bool rr := ((hf.dep ⟨18, .data⟩ (by simp) rfl).2 115 rfl).trans (hf.dep ⟨18, .data⟩ (by simp) rfl).1
              have q118 : AC.tmps.getD 118 undef = .bool rr := ((hf.dep ⟨21, .data⟩ (by simp) rfl).2 118 rfl).trans (hf.dep ⟨21, .data⟩ (by simp) rfl).1
              go_simp
              exact hK _ _ (Below.refl _ _) (by simp)
            · obtain rfl := Option.some.inj (show some _ = some oO from ho)
              rw [if_pos (by rfl)]
              have q112 : AC.tmps.getD 112 undef = .bool false := ((hf.dep ⟨15, .data⟩ (by simp) rfl).2 112 rfl).trans (hf.dep ⟨15, .data⟩ (by simp) rfl).1
              have q119 : AC.tmps.getD 119 undef = .bool false := ((hf.dep ⟨22, .data⟩ (by simp) rfl).2 119 rfl).trans (hf.dep ⟨22, .data⟩ (by simp) rfl).1
              go_simp
              exact hK _ _ (Below.refl _ _) rfl
            · omega
          · intro V WW hall hbw hBW
            have vv0 : V 0 = .int .i64 n8 := hall 0 (by decide)
            have vv1 : V 1 = .int .i64 n8 := hall 1 (by decide)
            have vv2 : V 2 = .bool false := hall 2 (by decide)
            have vv3 : V 3 = .bool false := hall 3 (by decide)
            have vv4 : V 4 = .int .i64 e8 := hall 4 (by decide)
            have vv5 : V 5 = .int .i64 e8 := hall 5 (by decide)
            have vv6 : V 6 = .bool false := hall 6 (by decide)
            have vv7 : V 7 = .bool false := hall 7 (by decide)
            have vv8 : V 8 = .bool false := hall 8 (by decide)
            have vv9 : V 9 = .pointer (some ⟨b8, 0, none⟩) := hall 9 (by decide)
            have vv10 : V 10 = .int .i64 E8.length := hall 10 (by decide)
            have vv11 : V 11 = .slice ao8 E8.length cap8 := hall 11 (by decide)
            have vv12 : V 12 = .int .i64 E8.length := hall 12 (by decide)
            have vv13 : V 13 = .bool false := hall 13 (by decide)
            have vv14 : V 14 = .bool false := hall 14 (by decide)
            have vv15 : V 15 = .bool false := hall 15 (by decide)
            have vv16 : V 16 = .pointer (some ⟨ga, 2, none⟩) := hall 16 (by decide)
            have vv17 : V 17 = .slice po L.length pc := hall 17 (by decide)
            have vv18 : V 18 = .bool rr := hall 18 (by decide)
            have vv19 : V 19 = .pointer (some ⟨ga, 2, none⟩) := hall 19 (by decide)
            have vv20 : V 20 = .slice po L.length pc := hall 20 (by decide)
            have vv21 : V 21 = .bool rr := hall 21 (by decide)
            have vv22 : V 22 = .bool false := hall 22 (by decide)
            have vv23 : V 23 = .bool false := hall 23 (by decide)
            clear hall
            simp only [pairsOf, laid, Nat.zero_add, Nat.reduceAdd, vv0, vv1, vv2, vv3, vv4, vv5, vv6, vv7, vv8, vv9, vv10, vv11, vv12, vv13, vv14, vv15, vv16, vv17, vv18, vv19, vv20, vv21, vv22, vv23, List.setIfInBounds_toArray, List.set_cons_zero, List.set_cons_succ]
            clear vv0 vv1 vv2 vv3 vv4 vv5 vv6 vv7 vv8 vv9 vv10 vv11 vv12 vv13 vv14 vv15 vv16 vv17 vv18 vv19 vv20 vv21 vv22 vv23
            have HL9a := Lib.hid (HL8.out.keeps hbw)
            clear hbw hBW HRi HRr HG8 HL8
            have HTr := Lib.hid (trial_any _ _ _ _ _ _ _ HL9a.out.led)
            go_wp2_with fail
            refine HTr.out.mono ?_
            rintro e w9 ⟨v9, rfl, ho9, hb9⟩
            have HL9 := Lib.hid (HL9a.out.keeps hb9)
            obtain ⟨a9, c9, rfl, hs9⟩ := OwI.sl ho9
            have HS9 := Lib.hid hs9
            have HT8l : Hid (T8.length = 8) := HL9.out.okb.len
            obtain ⟨C8r, hre⟩ := HL9.out.re
            have HBE : Hid (∀ kk : Int, balS T8 kk = balE E8 kk) := fun kk => balS_E HL9.out.okt HL9.out.oke.rt kk
            have HBL : Hid (∀ W, Below w9.heap.size w9 W → ∀ kk : Int, Calls Try.prog 24 #[.slice ao8 E8.length cap8, .int .i64 kk] W fun e w' => e = .returned (.tuple #[.int .i64 (balE E8 kk), .int .i64 0]) ∧ Below W.heap.size W w') := fun W hW kk => by
              have h1 := rbal_any W _ ao8 cap8 E8 C8r (hre.keeps hW) (by have := HL9.out.oke.len; have := HA60.out; omega) (fun M hM => by have := (rightG_all (HL9.out.oke.rt M hM)).1; omega) HL9.out.oke.rng kk
              rw [balE_cut HL9.out.okt HL9.out.okb HL9.out.oke.rt kk] at h1
              exact h1
            clear ho9 hb9 hs9 HTr HL9a hre
            go_wp2
            go_loopw [15] (fun i wq => ∃ j : Nat, j ≤ 10 ∧ i = .int .i64 ((j : Int) - 1) ∧ Below w9.heap.size w9 wq) (fun i _ => (9 - intOf i).toNat)
            case atStart => exact ⟨0, by omega, rfl, Below.refl _ _⟩
            case round =>
              obtain ⟨j, hj, rfl, hbq⟩ := hrel
              by_cases hj10 : j < 10
              · have hle : (j : Int) - 1 ≤ 8 := by omega
                by_cases hj0 : j = 0
                · subst hj0
                  have q0 : ¬ (0 : Int) ≤ ((0 : Nat) : Int) - 1 := by omega
                  have HBl := Lib.hid (HBL.out wr hbq (((0 : Nat) : Int) - 1))
                  have HLq := Lib.hid (HL9.out.led.keeps hbq)
                  have HBq := Lib.hid hbq
                  clear hbq
                  go_wp2_with fail
                  refine HBl.out.mono ?_
                  rintro e wz ⟨rfl, hbz⟩
                  have HBz := Lib.hid (below_on HBq.out HBq.out.size hbz)
                  have HLz := Lib.hid (HLq.out.keeps hbz)
                  have HBa := Lib.hid (balance_any wz _ _ _ _ _ _ HLz.out (((0 : Nat) : Int) - 1))
                  clear hbz HBl HLq
                  go_wp2_with fail
                  refine HBa.out.mono ?_
                  rintro e wy ⟨rfl, rfl⟩
                  rw [HBE.out (((0 : Nat) : Int) - 1)]
                  go_wp2
                  go_roundw
                  · exact ⟨0 + 1, by omega, by go_num, HBz.out⟩
                  · simp [intOf] <;> omega
                · by_cases hj9 : j = 9
                  · subst hj9
                    have HBl := Lib.hid (HBL.out wr hbq (((9 : Nat) : Int) - 1))
                    have HLq := Lib.hid (HL9.out.led.keeps hbq)
                    have HBq := Lib.hid hbq
                    clear hbq
                    go_wp2_with fail
                    refine HBl.out.mono ?_
                    rintro e wz ⟨rfl, hbz⟩
                    have HBz := Lib.hid (below_on HBq.out HBq.out.size hbz)
                    have HLz := Lib.hid (HLq.out.keeps hbz)
                    have HBa := Lib.hid (balance_any wz _ _ _ _ _ _ HLz.out (((9 : Nat) : Int) - 1))
                    clear hbz HBl HLq
                    go_wp2_with fail
                    refine HBa.out.mono ?_
                    rintro e wy ⟨rfl, rfl⟩
                    rw [HBE.out (((9 : Nat) : Int) - 1)]
                    go_wp2
                    go_roundw
                    · exact ⟨9 + 1, by omega, by go_num, HBz.out⟩
                    · simp [intOf] <;> omega
                  · obtain ⟨n, rfl⟩ : ∃ n, j = n + 1 := ⟨j - 1, by omega⟩
                    have hn8 : n < 8 := by omega
                    have hkk : ((n + 1 : Nat) : Int) - 1 = (n : Int) := by omega
                    simp only [hkk]
                    have hn0 : (0 : Int) ≤ (n : Int) := by omega
                    have hn7 : (n : Int) < 8 := by omega
                    have hle8 : (n : Int) ≤ 8 := by omega
                    have hTn : T8[n]? = some (balE E8 (n : Int)) := by
                      have h1 := HL9.out.okt n hn8
                      rw [List.getD_eq_getElem?_getD, List.getElem?_eq_getElem (by rw [HT8l.out]; exact hn8)] at h1
                      rw [List.getElem?_eq_getElem (by rw [HT8l.out]; exact hn8)]
                      exact congrArg some h1
                    have HTn := Lib.hid hTn
                    clear hle hTn hkk
                    have HBl := Lib.hid (HBL.out wr hbq ((n : Int)))
                    have HLq := Lib.hid (HL9.out.led.keeps hbq)
                    have HBq := Lib.hid hbq
                    clear hbq
                    go_wp2_with fail
                    refine HBl.out.mono ?_
                    rintro e wz ⟨rfl, hbz⟩
                    have HBz := Lib.hid (below_on HBq.out HBq.out.size hbz)
                    have HLz := Lib.hid (HLq.out.keeps hbz)
                    have HBa := Lib.hid (balance_any wz _ _ _ _ _ _ HLz.out ((n : Int)))
                    have HSz := Lib.hid (HS9.out.keeps HBz.out)
                    clear hbz HBl HLq
                    go_wp2_with fail
                    refine HBa.out.mono ?_
                    rintro e wy ⟨rfl, rfl⟩
                    rw [HBE.out ((n : Int))]
                    go_wp2_with (first | (refine wpList_ix_sl (by rfl) 42 2 _ _ rfl Try.underlying42 size_i64 a9 T8.length c9 rfl (ic T8) HSz.out n (by rw [HT8l.out]; exact hn8) rfl ?_; intro bb off u hu hcell; obtain rfl : u = .int .i64 (balE E8 (n : Int)) := by (rw [ic_at HTn.out] at hu; exact (Option.some.inj hu).symm)) | fail)
                    go_roundw
                    · exact ⟨n + 1 + 1, by omega, by go_num, HBz.out⟩
                    · simp [intOf]; omega
              · obtain rfl : j = 10 := by omega
                have hgt : ¬ ((10 : Nat) : Int) - 1 ≤ 8 := by omega
                have HLn := Lib.hid (HL9.out.keeps hbq)
                clear hbq HBL HS9 HBE
                go_wp2
                go_roundw
                · exact ⟨k + 1, b8, v8, C8, ao8, cap8, T8, E8, by omega, by go_num, rfl, rfl, HLn⟩
                · simp [intOf]; omega
        · by_cases d2 : kd = 2
          · subst d2
            have HB1 := Lib.hid (below_new1 wr (.cells #[.int .i64 2, .int .i64 at_, .slice po L.length pc] 36))
            have HG1 := Lib.hid (Blk.new wr 36 [.int .i64 2, .int .i64 at_, .slice po L.length pc])
            have HBLt := Lib.hid HSt.out.led.blk.lt
            have HVB := Lib.hid (own_base HSt.out.led.row)
            have HCl := Lib.hid (lgclone_any _ _ _ _ _ _ _ (HSt.out.led.keeps HB1.out) HSt.out.nil (by have := HSt.out.oke.len; have := HA60.out; omega))
            have HB01 := Lib.hid (below_on HSt.out.below HSt.out.below.size HB1.out)
            clear hb
            as_aux_lemma =>
            go_wp2_with (first | (refine ix_ak rfl _ _ rfl ao0 cap0 A hwA rfl k _ HT1.out rfl ?_; intro bb off k0 k1 k2) | fail)
            refine HCl.out.mono ?_
            rintro e w2 ⟨g, rfl, hcl⟩
            have HCL := Lib.hid hcl
            have hb2 : Below (wr.alloc (.cells #[.int .i64 2, .int .i64 at_, .slice po L.length pc] 36)).heap.size (wr.alloc (.cells #[.int .i64 2, .int .i64 at_, .slice po L.length pc] 36)) w2 := by obtain ⟨_, _, _, _, _, h⟩ := hcl; exact h
            have HG2 := Lib.hid (HG1.out.keeps hb2)
            have hb02 := below_on HB01.out HB01.out.size hb2
            have g2 := HG2.out.cell 2 _ rfl
            have HP := Lib.hid (post_any w2 _ _ _ _ _ _ ((HSt.out.led.keeps HB1.out).keeps hb2) hb02.size (by have := HSt.out.oke.len; have := HA60.out; omega) HSt.out.okb.rng po pc L (HLs.out.keeps hb02) (fun hn a ha => by
              have h1 := Rk.blk_lt HLs.out (rc_ne hn) a ha
              have h2 := HSt.out.led.bb
              exact ⟨by omega, fun e => by have := (HVB.out _ e.symm).1; omega⟩) (by have := HL40.out; omega) HLr.out _ rfl)
            clear hcl hb2 hb02 HCl HG1 hwA k0 k1 k2
            go_wp2_with fail
            refine HP.out.mono ?_
            rintro e w8 ⟨rfl, _, hf3⟩
            obtain ⟨v8, hst⟩ := HSt.out.case2 HB1.out HCL.out hf3
            have HG8 := Lib.hid (HG2.out.fr hf3 (by have := HBLt.out; omega) (fun e => by have := (HVB.out _ e.symm).2; omega))
            obtain ⟨ga, hga⟩ : ∃ g, wr.heap.size = g := ⟨_, rfl⟩
            rw [hga] at HG8
            simp only [hga]
            obtain ⟨C8, rfl⟩ : ∃ x, x = C := ⟨_, rfl⟩
            obtain ⟨b8, rfl⟩ : ∃ x, x = g := ⟨_, rfl⟩
            obtain ⟨T8, rfl⟩ : ∃ x, x = T := ⟨_, rfl⟩
            obtain ⟨E8, rfl⟩ : ∃ x, x = E := ⟨_, rfl⟩
            obtain ⟨ao8, rfl⟩ : ∃ x, x = ao := ⟨_, rfl⟩
            obtain ⟨cap8, rfl⟩ : ∃ x, x = cap := ⟨_, rfl⟩
            have HL8 := Lib.hid hst
            clear hst hga hf3 HSt HB1 HCL HP HBLt HVB HG2 HB01 g2
            have HB0w := Lib.hid (Below.refl w8.heap.size w8)
            obtain ⟨rr, hrr⟩ : ∃ r, rightG L = r := ⟨_, rfl⟩
            have HRi := Lib.hid (fun U (hu : Below w8.heap.size w8 U) => lg_any U po pc L (HLs.out.keeps (below_on HL8.out.below HL8.out.below.size hu)) (by have := HL40.out; omega) HLr.out rr hrr)
            have HRr := Lib.hid (fun U (hu : Below w8.heap.size w8 U) => lgr_any U po pc L (HLs.out.keeps (below_on HL8.out.below HL8.out.below.size hu)) (by have := HL40.out; omega) HLr.out rr hrr)
            clear hrr
            as_aux_lemma =>
            go_wp2
            refine region_mono (by kernel_rfl) (by kernel_rfl) [some 97, some 98, some 99, some 100, some 101, some 102, some 103, some 104, some 105, some 106, some 107, some 108, some 109, some 110, some 111, some 112, some 113, some 114, some 115, some 116, some 117, some 118, some 119, some 120] (by kernel_rfl) w8.heap.size w8 HB0w.out (Nat.le_refl _) (fun i v WW => match i with | 0 => v = .int .i64 0 | 1 => v = .int .i64 0 | 2 => v = .bool false | 3 => v = .bool false | 4 => v = .int .i64 0 | 5 => v = .int .i64 0 | 6 => v = .bool false | 7 => v = .bool false | 8 => v = .bool false | 9 => v = .pointer (some ⟨b8, 0, none⟩) | 10 => v = .int .i64 E8.length | 11 => v = .slice ao8 E8.length cap8 | 12 => v = .int .i64 E8.length | 13 => v = .bool false | 14 => v = .bool false | 15 => v = .bool false | 16 => v = .pointer (some ⟨ga, 2, none⟩) | 17 => v = .slice po L.length pc | 18 => v = .bool rr | 19 => v = .pointer (some ⟨ga, 2, none⟩) | 20 => v = .slice po L.length pc | 21 => v = .bool rr | 22 => v = .bool false | 23 => v = .bool false | _ => True) ?_ ?_ ?_
            · intro i v WW WX h hbx
              rcases i with _ | _ | _ | _ | _ | _ | _ | _ | _ | _ | _ | _ | _ | _ | _ | _ | _ | _ | _ | _ | _ | _ | _ | _ | i
              · exact h
              · exact h
              · exact h
              · exact h
              · exact h
              · exact h
              · exact h
              · exact h
              · exact h
              · exact h
              · exact h
              · exact h
              · exact h
              · exact h
              · exact h
              · exact h
              · exact h
              · exact h
              · exact h
              · exact h
              · exact h
              · exact h
              · exact h
              · exact h
              · trivial
            · intro iI oO V AC WW ho hf hbw K hK
              have hlt : iI < 24 := by have := (Array.getElem?_eq_some_iff.1 ho).1; first | exact this | simpa using this
              rcases iI with _ | _ | _ | _ | _ | _ | _ | _ | _ | _ | _ | _ | _ | _ | _ | _ | _ | _ | _ | _ | _ | _ | _ | _ | iI
              · obtain rfl := Option.some.inj (show some _ = some oO from ho)
                rw [if_pos (by rfl)]
                have q7 : AC.tmps.getD 7 undef = .int .i64 0 := hf.rest 7 (by kernel_rfl)
                go_simp
                exact hK _ _ (Below.refl _ _) rfl
              · obtain rfl := Option.some.inj (show some _ = some oO from ho)
                rw [if_pos (by rfl)]
                have q8 : AC.tmps.getD 8 undef = .int .i64 0 := hf.rest 8 (by kernel_rfl)
                go_simp
                exact hK _ _ (Below.refl _ _) rfl
              · obtain rfl := Option.some.inj (show some _ = some oO from ho)
                rw [if_pos (by rfl)]
                have q97 : AC.tmps.getD 97 undef = .int .i64 0 := ((hf.dep ⟨0, .data⟩ (by simp) rfl).2 97 rfl).trans (hf.dep ⟨0, .data⟩ (by simp) rfl).1
                have q98 : AC.tmps.getD 98 undef = .int .i64 0 := ((hf.dep ⟨1, .data⟩ (by simp) rfl).2 98 rfl).trans (hf.dep ⟨1, .data⟩ (by simp) rfl).1
                go_simp
                exact hK _ _ (Below.refl _ _) (by simp)
              · obtain rfl := Option.some.inj (show some _ = some oO from ho)
                rw [if_pos (by rfl)]
                have q99 : AC.tmps.getD 99 undef = .bool false := ((hf.dep ⟨2, .data⟩ (by simp) rfl).2 99 rfl).trans (hf.dep ⟨2, .data⟩ (by simp) rfl).1
                go_simp
                exact hK _ _ (Below.refl _ _) rfl
              · obtain rfl := Option.some.inj (show some _ = some oO from ho)
                rw [if_pos (wanted_yes (s := 100) rfl rfl rfl (by rw [hf.size]; simp) (((hf.dep ⟨3, .guard⟩ (by simp) rfl).2 100 rfl).trans (hf.dep ⟨3, .guard⟩ (by simp) rfl).1))]
                have q9 : AC.tmps.getD 9 undef = .int .i64 0 := hf.rest 9 (by kernel_rfl)
                go_simp
                exact hK _ _ (Below.refl _ _) rfl
              · obtain rfl := Option.some.inj (show some _ = some oO from ho)
                rw [if_pos (wanted_yes (s := 100) rfl rfl rfl (by rw [hf.size]; simp) (((hf.dep ⟨3, .guard⟩ (by simp) rfl).2 100 rfl).trans (hf.dep ⟨3, .guard⟩ (by simp) rfl).1))]
                have q10 : AC.tmps.getD 10 undef = .int .i64 0 := hf.rest 10 (by kernel_rfl)
                go_simp
                exact hK _ _ (Below.refl _ _) rfl
              · obtain rfl := Option.some.inj (show some _ = some oO from ho)
                rw [if_pos (wanted_yes (s := 100) rfl rfl rfl (by rw [hf.size]; simp) (((hf.dep ⟨3, .guard⟩ (by simp) rfl).2 100 rfl).trans (hf.dep ⟨3, .guard⟩ (by simp) rfl).1))]
                have q101 : AC.tmps.getD 101 undef = .int .i64 0 := ((hf.dep ⟨4, .data⟩ (by simp) rfl).2 101 rfl).trans (hf.dep ⟨4, .data⟩ (by simp) rfl).1
                have q102 : AC.tmps.getD 102 undef = .int .i64 0 := ((hf.dep ⟨5, .data⟩ (by simp) rfl).2 102 rfl).trans (hf.dep ⟨5, .data⟩ (by simp) rfl).1
                go_simp
                exact hK _ _ (Below.refl _ _) (by simp)
              · obtain rfl := Option.some.inj (show some _ = some oO from ho)
                rw [if_pos (by rfl)]
                have q100 : AC.tmps.getD 100 undef = .bool false := ((hf.dep ⟨3, .data⟩ (by simp) rfl).2 100 rfl).trans (hf.dep ⟨3, .data⟩ (by simp) rfl).1
                have q103 : AC.tmps.getD 103 undef = .bool false := ((hf.dep ⟨6, .data⟩ (by simp) rfl).2 103 rfl).trans (hf.dep ⟨6, .data⟩ (by simp) rfl).1
                go_simp
                exact hK _ _ (Below.refl _ _) rfl
              · obtain rfl := Option.some.inj (show some _ = some oO from ho)
                rw [if_pos (by rfl)]
                have q104 : AC.tmps.getD 104 undef = .bool false := ((hf.dep ⟨7, .data⟩ (by simp) rfl).2 104 rfl).trans (hf.dep ⟨7, .data⟩ (by simp) rfl).1
                go_simp
                exact hK _ _ (Below.refl _ _) rfl
              · obtain rfl := Option.some.inj (show some _ = some oO from ho)
                rw [if_pos (wanted_yes (s := 105) rfl rfl rfl (by rw [hf.size]; simp) (((hf.dep ⟨8, .guard⟩ (by simp) rfl).2 105 rfl).trans (hf.dep ⟨8, .guard⟩ (by simp) rfl).1))]
                have q3 : AC.tmps.getD 3 undef = .pointer (some ⟨b8, 0, none⟩) := hf.rest 3 (by kernel_rfl)
                go_simp
                exact hK _ _ (Below.refl _ _) rfl
              · obtain rfl := Option.some.inj (show some _ = some oO from ho)
                rw [if_pos (wanted_yes (s := 105) rfl rfl rfl (by rw [hf.size]; simp) (((hf.dep ⟨8, .guard⟩ (by simp) rfl).2 105 rfl).trans (hf.dep ⟨8, .guard⟩ (by simp) rfl).1))]
                have q106 : AC.tmps.getD 106 undef = .pointer (some ⟨b8, 0, none⟩) := ((hf.dep ⟨9, .data⟩ (by simp) rfl).2 106 rfl).trans (hf.dep ⟨9, .data⟩ (by simp) rfl).1
                go_simp
                refine (len_any WW _ _ _ _ _ _ (HL8.out.led.keeps hbw)).mono ?_
                rintro e w9 ⟨rfl, rfl⟩
                exact hK _ _ (Below.refl _ _) rfl
              · obtain rfl := Option.some.inj (show some _ = some oO from ho)
                rw [if_pos (wanted_yes (s := 105) rfl rfl rfl (by rw [hf.size]; simp) (((hf.dep ⟨8, .guard⟩ (by simp) rfl).2 105 rfl).trans (hf.dep ⟨8, .guard⟩ (by simp) rfl).1))]
                have q4 : AC.tmps.getD 4 undef = .slice ao8 E8.length cap8 := hf.rest 4 (by kernel_rfl)
                go_simp
                exact hK _ _ (Below.refl _ _) rfl
              · obtain rfl := Option.some.inj (show some _ = some oO from ho)
                rw [if_pos (wanted_yes (s := 105) rfl rfl rfl (by rw [hf.size]; simp) (((hf.dep ⟨8, .guard⟩ (by simp) rfl).2 105 rfl).trans (hf.dep ⟨8, .guard⟩ (by simp) rfl).1))]
                have q108 : AC.tmps.getD 108 undef = .slice ao8 E8.length cap8 := ((hf.dep ⟨11, .data⟩ (by simp) rfl).2 108 rfl).trans (hf.dep ⟨11, .data⟩ (by simp) rfl).1
                go_simp
                exact hK _ _ (Below.refl _ _) rfl
              · obtain rfl := Option.some.inj (show some _ = some oO from ho)
                rw [if_pos (wanted_yes (s := 105) rfl rfl rfl (by rw [hf.size]; simp) (((hf.dep ⟨8, .guard⟩ (by simp) rfl).2 105 rfl).trans (hf.dep ⟨8, .guard⟩ (by simp) rfl).1))]
                have q107 : AC.tmps.getD 107 undef = .int .i64 E8.length := ((hf.dep ⟨10, .data⟩ (by simp) rfl).2 107 rfl).trans (hf.dep ⟨10, .data⟩ (by simp) rfl).1
                have q109 : AC.tmps.getD 109 undef = .int .i64 E8.length := ((hf.dep ⟨12, .data⟩ (by simp) rfl).2 109 rfl).trans (hf.dep ⟨12, .data⟩ (by simp) rfl).1
                go_simp
                exact hK _ _ (Below.refl _ _) (by simp)
              · obtain rfl := Option.some.inj (show some _ = some oO from ho)
                rw [if_pos (by rfl)]
                have q105 : AC.tmps.getD 105 undef = .bool false := ((hf.dep ⟨8, .data⟩ (by simp) rfl).2 105 rfl).trans (hf.dep ⟨8, .data⟩ (by simp) rfl).1
                have q110 : AC.tmps.getD 110 undef = .bool false := ((hf.dep ⟨13, .data⟩ (by simp) rfl).2 110 rfl).trans (hf.dep ⟨13, .data⟩ (by simp) rfl).1
                go_simp
                exact hK _ _ (Below.refl _ _) rfl
              · obtain rfl := Option.some.inj (show some _ = some oO from ho)
                rw [if_pos (by rfl)]
                have q111 : AC.tmps.getD 111 undef = .bool false := ((hf.dep ⟨14, .data⟩ (by simp) rfl).2 111 rfl).trans (hf.dep ⟨14, .data⟩ (by simp) rfl).1
                go_simp
                exact hK _ _ (Below.refl _ _) rfl
              · obtain rfl := Option.some.inj (show some _ = some oO from ho)
                rw [if_pos (wanted_yes (s := 112) rfl rfl rfl (by rw [hf.size]; simp) (((hf.dep ⟨15, .guard⟩ (by simp) rfl).2 112 rfl).trans (hf.dep ⟨15, .guard⟩ (by simp) rfl).1))]
                have q6 : AC.tmps.getD 6 undef = .pointer (some ⟨ga, 0, none⟩) := hf.rest 6 (by kernel_rfl)
                go_simp
                exact hK _ _ (Below.refl _ _) rfl
              · obtain rfl := Option.some.inj (show some _ = some oO from ho)
                rw [if_pos (wanted_yes (s := 112) rfl rfl rfl (by rw [hf.size]; simp) (((hf.dep ⟨15, .guard⟩ (by simp) rfl).2 112 rfl).trans (hf.dep ⟨15, .guard⟩ (by simp) rfl).1))]
                have q113 : AC.tmps.getD 113 undef = .pointer (some ⟨ga, 2, none⟩) := ((hf.dep ⟨16, .data⟩ (by simp) rfl).2 113 rfl).trans (hf.dep ⟨16, .data⟩ (by simp) rfl).1
                have c2 := (HG8.out.keeps hbw).cell 2 _ rfl
                go_simp
                exact hK _ _ (Below.refl _ _) rfl
              · obtain rfl := Option.some.inj (show some _ = some oO from ho)
                rw [if_pos (wanted_yes (s := 112) rfl rfl rfl (by rw [hf.size]; simp) (((hf.dep ⟨15, .guard⟩ (by simp) rfl).2 112 rfl).trans (hf.dep ⟨15, .guard⟩ (by simp) rfl).1))]
                have q114 : AC.tmps.getD 114 undef = .slice po L.length pc := ((hf.dep ⟨17, .data⟩ (by simp) rfl).2 114 rfl).trans (hf.dep ⟨17, .data⟩ (by simp) rfl).1
                go_simp
                refine (HRi.out WW hbw).mono ?_
                rintro e w9 ⟨rfl, hb9⟩
                exact hK _ _ hb9 rfl
              · obtain rfl := Option.some.inj (show some _ = some oO from ho)
                rw [if_pos (wanted_yes (s := 112) rfl rfl rfl (by rw [hf.size]; simp) (((hf.dep ⟨15, .guard⟩ (by simp) rfl).2 112 rfl).trans (hf.dep ⟨15, .guard⟩ (by simp) rfl).1))]
                have q6 : AC.tmps.getD 6 undef = .pointer (some ⟨ga, 0, none⟩) := hf.rest 6 (by kernel_rfl)
                go_simp
                exact hK _ _ (Below.refl _ _) rfl
              · obtain rfl := Option.some.inj (show some _ = some oO from ho)
                rw [if_pos (wanted_yes (s := 112) rfl rfl rfl (by rw [hf.size]; simp) (((hf.dep ⟨15, .guard⟩ (by simp) rfl).2 112 rfl).trans (hf.dep ⟨15, .guard⟩ (by simp) rfl).1))]
                have q116 : AC.tmps.getD 116 undef = .pointer (some ⟨ga, 2, none⟩) := ((hf.dep ⟨19, .data⟩ (by simp) rfl).2 116 rfl).trans (hf.dep ⟨19, .data⟩ (by simp) rfl).1
                have c2 := (HG8.out.keeps hbw).cell 2 _ rfl
                go_simp
                exact hK _ _ (Below.refl _ _) rfl
              · obtain rfl := Option.some.inj (show some _ = some oO from ho)
                rw [if_pos (wanted_yes (s := 112) rfl rfl rfl (by rw [hf.size]; simp) (((hf.dep ⟨15, .guard⟩ (by simp) rfl).2 112 rfl).trans (hf.dep ⟨15, .guard⟩ (by simp) rfl).1))]
                have q117 : AC.tmps.getD 117 undef = .slice po L.length pc := ((hf.dep ⟨20, .data⟩ (by simp) rfl).2 117 rfl).trans (hf.dep ⟨20, .data⟩ (by simp) rfl).1
                go_simp
                refine (HRr.out WW hbw).mono ?_
                rintro e w9 ⟨rfl, hb9⟩
                exact hK _ _ hb9 rfl
              · obtain rfl := Option.some.inj (show some _ = some oO from ho)
                rw [if_pos (wanted_yes (s := 112) rfl rfl rfl (by rw [hf.size]; simp) (((hf.dep ⟨15, .guard⟩ (by simp) rfl).2 112 rfl).trans (hf.dep ⟨15, .guard⟩ (by simp) rfl).1))]
                have q115 : AC.tmps.getD 115 undef = .bool rr := ((hf.dep ⟨18, .data⟩ (by simp) rfl).2 115 rfl).trans (hf.dep ⟨18, .data⟩ (by simp) rfl).1
                have q118 : AC.tmps.getD 118 undef = .bool rr := ((hf.dep ⟨21, .data⟩ (by simp) rfl).2 118 rfl).trans (hf.dep ⟨21, .data⟩ (by simp) rfl).1
                go_simp
                exact hK _ _ (Below.refl _ _) (by simp)
              · obtain rfl := Option.some.inj (show some _ = some oO from ho)
                rw [if_pos (by rfl)]
                have q112 : AC.tmps.getD 112 undef = .bool false := ((hf.dep ⟨15, .data⟩ (by simp) rfl).2 112 rfl).trans (hf.dep ⟨15, .data⟩ (by simp) rfl).1
                have q119 : AC.tmps.getD 119 undef = .bool false := ((hf.dep ⟨22, .data⟩ (by simp) rfl).2 119 rfl).trans (hf.dep ⟨22, .data⟩ (by simp) rfl).1
                go_simp
                exact hK _ _ (Below.refl _ _) rfl
              · omega
            · intro V WW hall hbw hBW
              have vv0 : V 0 = .int .i64 0 := hall 0 (by decide)
              have vv1 : V 1 = .int .i64 0 := hall 1 (by decide)
              have vv2 : V 2 = .bool false := hall 2 (by decide)
              have vv3 : V 3 = .bool false := hall 3 (by decide)
              have vv4 : V 4 = .int .i64 0 := hall 4 (by decide)
              have vv5 : V 5 = .int .i64 0 := hall 5 (by decide)
              have vv6 : V 6 = .bool false := hall 6 (by decide)
              have vv7 : V 7 = .bool false := hall 7 (by decide)
              have vv8 : V 8 = .bool false := hall 8 (by decide)
              have vv9 : V 9 = .pointer (some ⟨b8, 0, none⟩) := hall 9 (by decide)
              have vv10 : V 10 = .int .i64 E8.length := hall 10 (by decide)
              have vv11 : V 11 = .slice ao8 E8.length cap8 := hall 11 (by decide)
              have vv12 : V 12 = .int .i64 E8.length := hall 12 (by decide)
              have vv13 : V 13 = .bool false := hall 13 (by decide)
              have vv14 : V 14 = .bool false := hall 14 (by decide)
              have vv15 : V 15 = .bool false := hall 15 (by decide)
              have vv16 : V 16 = .pointer (some ⟨ga, 2, none⟩) := hall 16 (by decide)
              have vv17 : V 17 = .slice po L.length pc := hall 17 (by decide)
              have vv18 : V 18 = .bool rr := hall 18 (by decide)
              have vv19 : V 19 = .pointer (some ⟨ga, 2, none⟩) := hall 19 (by decide)
              have vv20 : V 20 = .slice po L.length pc := hall 20 (by decide)
              have vv21 : V 21 = .bool rr := hall 21 (by decide)
              have vv22 : V 22 = .bool false := hall 22 (by decide)
              have vv23 : V 23 = .bool false := hall 23 (by decide)
              clear hall
              simp only [pairsOf, laid, Nat.zero_add, Nat.reduceAdd, vv0, vv1, vv2, vv3, vv4, vv5, vv6, vv7, vv8, vv9, vv10, vv11, vv12, vv13, vv14, vv15, vv16, vv17, vv18, vv19, vv20, vv21, vv22, vv23, List.setIfInBounds_toArray, List.set_cons_zero, List.set_cons_succ]
              clear vv0 vv1 vv2 vv3 vv4 vv5 vv6 vv7 vv8 vv9 vv10 vv11 vv12 vv13 vv14 vv15 vv16 vv17 vv18 vv19 vv20 vv21 vv22 vv23
              have HL9a := Lib.hid (HL8.out.keeps hbw)
              clear hbw hBW HRi HRr HG8 HL8
              have HTr := Lib.hid (trial_any _ _ _ _ _ _ _ HL9a.out.led)
              go_wp2_with fail
              refine HTr.out.mono ?_
              rintro e w9 ⟨v9, rfl, ho9, hb9⟩
              have HL9 := Lib.hid (HL9a.out.keeps hb9)
              obtain ⟨a9, c9, rfl, hs9⟩ := OwI.sl ho9
              have HS9 := Lib.hid hs9
              have HT8l : Hid (T8.length = 8) := HL9.out.okb.len
              obtain ⟨C8r, hre⟩ := HL9.out.re
              have HBE : Hid (∀ kk : Int, balS T8 kk = balE E8 kk) := fun kk => balS_E HL9.out.okt HL9.out.oke.rt kk
              have HBL : Hid (∀ W, Below w9.heap.size w9 W → ∀ kk : Int, Calls Try.prog 24 #[.slice ao8 E8.length cap8, .int .i64 kk] W fun e w' => e = .returned (.tuple #[.int .i64 (balE E8 kk), .int .i64 0]) ∧ Below W.heap.size W w') := fun W hW kk => by
                have h1 := rbal_any W _ ao8 cap8 E8 C8r (hre.keeps hW) (by have := HL9.out.oke.len; have := HA60.out; omega) (fun M hM => by have := (rightG_all (HL9.out.oke.rt M hM)).1; omega) HL9.out.oke.rng kk
                rw [balE_cut HL9.out.okt HL9.out.okb HL9.out.oke.rt kk] at h1
                exact h1
              clear ho9 hb9 hs9 HTr HL9a hre
              go_wp2
              go_loopw [15] (fun i wq => ∃ j : Nat, j ≤ 10 ∧ i = .int .i64 ((j : Int) - 1) ∧ Below w9.heap.size w9 wq) (fun i _ => (9 - intOf i).toNat)
              case atStart => exact ⟨0, by omega, rfl, Below.refl _ _⟩
              case round =>
                obtain ⟨j, hj, rfl, hbq⟩ := hrel
                by_cases hj10 : j < 10
                · have hle : (j : Int) - 1 ≤ 8 := by omega
                  by_cases hj0 : j = 0
                  · subst hj0
                    have q0 : ¬ (0 : Int) ≤ ((0 : Nat) : Int) - 1 := by omega
                    have HBl := Lib.hid (HBL.out wr hbq (((0 : Nat) : Int) - 1))
                    have HLq := Lib.hid (HL9.out.led.keeps hbq)
                    have HBq := Lib.hid hbq
                    clear hbq
                    go_wp2_with fail
                    refine HBl.out.mono ?_
                    rintro e wz ⟨rfl, hbz⟩
                    have HBz := Lib.hid (below_on HBq.out HBq.out.size hbz)
                    have HLz := Lib.hid (HLq.out.keeps hbz)
                    have HBa := Lib.hid (balance_any wz _ _ _ _ _ _ HLz.out (((0 : Nat) : Int) - 1))
                    clear hbz HBl HLq
                    go_wp2_with fail
                    refine HBa.out.mono ?_
                    rintro e wy ⟨rfl, rfl⟩
                    rw [HBE.out (((0 : Nat) : Int) - 1)]
                    go_wp2
                    go_roundw
                    · exact ⟨0 + 1, by omega, by go_num, HBz.out⟩
                    · simp [intOf] <;> omega
                  · by_cases hj9 : j = 9
                    · subst hj9
                      have HBl := Lib.hid (HBL.out wr hbq (((9 : Nat) : Int) - 1))
                      have HLq := Lib.hid (HL9.out.led.keeps hbq)
                      have HBq := Lib.hid hbq
                      clear hbq
                      go_wp2_with fail
                      refine HBl.out.mono ?_
                      rintro e wz ⟨rfl, hbz⟩
                      have HBz := Lib.hid (below_on HBq.out HBq.out.size hbz)
                      have HLz := Lib.hid (HLq.out.keeps hbz)
                      have HBa := Lib.hid (balance_any wz _ _ _ _ _ _ HLz.out (((9 : Nat) : Int) - 1))
                      clear hbz HBl HLq
                      go_wp2_with fail
                      refine HBa.out.mono ?_
                      rintro e wy ⟨rfl, rfl⟩
                      rw [HBE.out (((9 : Nat) : Int) - 1)]
                      go_wp2
                      go_roundw
                      · exact ⟨9 + 1, by omega, by go_num, HBz.out⟩
                      · simp [intOf] <;> omega
                    · obtain ⟨n, rfl⟩ : ∃ n, j = n + 1 := ⟨j - 1, by omega⟩
                      have h0 : n < 8 := by omega
                      have hkk : ((n + 1 : Nat) : Int) - 1 = (n : Int) := by omega
                      simp only [hkk]
                      have hn0 : (0 : Int) ≤ (n : Int) := by omega
                      have hn7 : (n : Int) < 8 := by omega
                      have hl0 : (n : Int) ≤ 8 := by omega
                      have hTn : T8[n]? = some (balE E8 (n : Int)) := by
                        have h1 := HL9.out.okt n h0
                        rw [List.getD_eq_getElem?_getD, List.getElem?_eq_getElem (by rw [HT8l.out]; exact h0)] at h1
                        rw [List.getElem?_eq_getElem (by rw [HT8l.out]; exact h0)]
                        exact congrArg some h1
                      have HTn := Lib.hid hTn
                      clear hle hTn hkk
                      have HBl := Lib.hid (HBL.out wr hbq ((n : Int)))
                      have HLq := Lib.hid (HL9.out.led.keeps hbq)
                      have HBq := Lib.hid hbq
                      clear hbq
                      go_wp2_with fail
                      refine HBl.out.mono ?_
                      rintro e wz ⟨rfl, hbz⟩
                      have HBz := Lib.hid (below_on HBq.out HBq.out.size hbz)
                      have HLz := Lib.hid (HLq.out.keeps hbz)
                      have HBa := Lib.hid (balance_any wz _ _ _ _ _ _ HLz.out ((n : Int)))
                      have HSz := Lib.hid (HS9.out.keeps HBz.out)
                      clear hbz HBl HLq
                      go_wp2_with fail
                      refine HBa.out.mono ?_
                      rintro e wy ⟨rfl, rfl⟩
                      rw [HBE.out ((n : Int))]
                      go_wp2_with (first | (refine wpList_ix_sl (by rfl) 42 2 _ _ rfl Try.underlying42 size_i64 a9 T8.length c9 rfl (ic T8) HSz.out n (by rw [HT8l.out]; exact h0) rfl ?_; intro bb off u hu hcell; obtain rfl : u = .int .i64 (balE E8 (n : Int)) := by (rw [ic_at HTn.out] at hu; exact (Option.some.inj hu).symm)) | fail)
                      go_roundw
                      · exact ⟨n + 1 + 1, by omega, by go_num, HBz.out⟩
                      · simp [intOf]; omega
                · obtain rfl : j = 10 := by omega
                  have hgt : ¬ ((10 : Nat) : Int) - 1 ≤ 8 := by omega
                  have HLn := Lib.hid (HL9.out.keeps hbq)
                  clear hbq HBL HS9 HBE
                  go_wp2
                  go_roundw
                  · exact ⟨k + 1, b8, v8, C8, ao8, cap8, T8, E8, by omega, by go_num, rfl, rfl, HLn⟩
                  · simp [intOf]; omega
          · have HG8 := Lib.hid (Blk.new wr 36 [.int .i64 kd, .int .i64 at_, .slice po L.length pc])
            have HL8a := Lib.hid ((HSt.out.keeps (below_new1 wr (.cells #[.int .i64 kd, .int .i64 at_, .slice po L.length pc] 36))).next)
            clear hb
            as_aux_lemma =>
            go_wp2_with (first | (refine ix_ak rfl _ _ rfl ao0 cap0 A hwA rfl k _ HT1.out rfl ?_; intro bb off k0 k1 k2) | fail)
            obtain ⟨w8, hw8⟩ : ∃ W, wr.alloc (.cells #[.int .i64 kd, .int .i64 at_, .slice po L.length pc] 36) = W := ⟨_, rfl⟩
            rw [hw8] at HG8 HL8a
            try simp only [hw8]
            obtain ⟨ga, hga⟩ : ∃ g, wr.heap.size = g := ⟨_, rfl⟩
            rw [hga] at HG8
            try simp only [hga]
            obtain ⟨C8, rfl⟩ : ∃ x, x = C := ⟨_, rfl⟩
            obtain ⟨v8, rfl⟩ : ∃ x, x = v := ⟨_, rfl⟩
            obtain ⟨b8, rfl⟩ : ∃ x, x = b := ⟨_, rfl⟩
            obtain ⟨T8, rfl⟩ : ∃ x, x = T := ⟨_, rfl⟩
            obtain ⟨E8, rfl⟩ : ∃ x, x = E := ⟨_, rfl⟩
            obtain ⟨ao8, rfl⟩ : ∃ x, x = ao := ⟨_, rfl⟩
            obtain ⟨cap8, rfl⟩ : ∃ x, x = cap := ⟨_, rfl⟩
            have HL8 := HL8a
            clear hw8 hga HSt HL8a hwA k0 k1 k2 d0 d1 d2
            have HB0w := Lib.hid (Below.refl w8.heap.size w8)
            obtain ⟨rr, hrr⟩ : ∃ r, rightG L = r := ⟨_, rfl⟩
            have HRi := Lib.hid (fun U (hu : Below w8.heap.size w8 U) => lg_any U po pc L (HLs.out.keeps (below_on HL8.out.below HL8.out.below.size hu)) (by have := HL40.out; omega) HLr.out rr hrr)
            have HRr := Lib.hid (fun U (hu : Below w8.heap.size w8 U) => lgr_any U po pc L (HLs.out.keeps (below_on HL8.out.below HL8.out.below.size hu)) (by have := HL40.out; omega) HLr.out rr hrr)
            clear hrr
            as_aux_lemma =>
            go_wp2
            refine region_mono (by kernel_rfl) (by kernel_rfl) [some 97, some 98, some 99, some 100, some 101, some 102, some 103, some 104, some 105, some 106, some 107, some 108, some 109, some 110, some 111, some 112, some 113, some 114, some 115, some 116, some 117, some 118, some 119, some 120] (by kernel_rfl) w8.heap.size w8 HB0w.out (Nat.le_refl _) (fun i v WW => match i with | 0 => v = .int .i64 0 | 1 => v = .int .i64 0 | 2 => v = .bool false | 3 => v = .bool false | 4 => v = .int .i64 0 | 5 => v = .int .i64 0 | 6 => v = .bool false | 7 => v = .bool false | 8 => v = .bool false | 9 => v = .pointer (some ⟨b8, 0, none⟩) | 10 => v = .int .i64 E8.length | 11 => v = .slice ao8 E8.length cap8 | 12 => v = .int .i64 E8.length | 13 => v = .bool false | 14 => v = .bool false | 15 => v = .bool false | 16 => v = .pointer (some ⟨ga, 2, none⟩) | 17 => v = .slice po L.length pc | 18 => v = .bool rr | 19 => v = .pointer (some ⟨ga, 2, none⟩) | 20 => v = .slice po L.length pc | 21 => v = .bool rr | 22 => v = .bool false | 23 => v = .bool false | _ => True) ?_ ?_ ?_
            · intro i v WW WX h hbx
              rcases i with _ | _ | _ | _ | _ | _ | _ | _ | _ | _ | _ | _ | _ | _ | _ | _ | _ | _ | _ | _ | _ | _ | _ | _ | i
              · exact h
              · exact h
              · exact h
              · exact h
              · exact h
              · exact h
              · exact h
              · exact h
              · exact h
              · exact h
              · exact h
              · exact h
              · exact h
              · exact h
              · exact h
              · exact h
              · exact h
              · exact h
              · exact h
              · exact h
              · exact h
              · exact h
              · exact h
              · exact h
              · trivial
            · intro iI oO V AC WW ho hf hbw K hK
              have hlt : iI < 24 := by have := (Array.getElem?_eq_some_iff.1 ho).1; first | exact this | simpa using this
              rcases iI with _ | _ | _ | _ | _ | _ | _ | _ | _ | _ | _ | _ | _ | _ | _ | _ | _ | _ | _ | _ | _ | _ | _ | _ | iI
              · obtain rfl := Option.some.inj (show some _ = some oO from ho)
                rw [if_pos (by rfl)]
                have q7 : AC.tmps.getD 7 undef = .int .i64 0 := hf.rest 7 (by kernel_rfl)
                go_simp
                exact hK _ _ (Below.refl _ _) rfl
              · obtain rfl := Option.some.inj (show some _ = some oO from ho)
                rw [if_pos (by rfl)]
                have q8 : AC.tmps.getD 8 undef = .int .i64 0 := hf.rest 8 (by kernel_rfl)
                go_simp
                exact hK _ _ (Below.refl _ _) rfl
              · obtain rfl := Option.some.inj (show some _ = some oO from ho)
                rw [if_pos (by rfl)]
                have q97 : AC.tmps.getD 97 undef = .int .i64 0 := ((hf.dep ⟨0, .data⟩ (by simp) rfl).2 97 rfl).trans (hf.dep ⟨0, .data⟩ (by simp) rfl).1
                have q98 : AC.tmps.getD 98 undef = .int .i64 0 := ((hf.dep ⟨1, .data⟩ (by simp) rfl).2 98 rfl).trans (hf.dep ⟨1, .data⟩ (by simp) rfl).1
                go_simp
                exact hK _ _ (Below.refl _ _) (by simp)
              · obtain rfl := Option.some.inj (show some _ = some oO from ho)
                rw [if_pos (by rfl)]
                have q99 : AC.tmps.getD 99 undef = .bool false := ((hf.dep ⟨2, .data⟩ (by simp) rfl).2 99 rfl).trans (hf.dep ⟨2, .data⟩ (by simp) rfl).1
                go_simp
                exact hK _ _ (Below.refl _ _) rfl
              · obtain rfl := Option.some.inj (show some _ = some oO from ho)
                rw [if_pos (wanted_yes (s := 100) rfl rfl rfl (by rw [hf.size]; simp) (((hf.dep ⟨3, .guard⟩ (by simp) rfl).2 100 rfl).trans (hf.dep ⟨3, .guard⟩ (by simp) rfl).1))]
                have q9 : AC.tmps.getD 9 undef = .int .i64 0 := hf.rest 9 (by kernel_rfl)
                go_simp
                exact hK _ _ (Below.refl _ _) rfl
              · obtain rfl := Option.some.inj (show some _ = some oO from ho)
                rw [if_pos (wanted_yes (s := 100) rfl rfl rfl (by rw [hf.size]; simp) (((hf.dep ⟨3, .guard⟩ (by simp) rfl).2 100 rfl).trans (hf.dep ⟨3, .guard⟩ (by simp) rfl).1))]
                have q10 : AC.tmps.getD 10 undef = .int .i64 0 := hf.rest 10 (by kernel_rfl)
                go_simp
                exact hK _ _ (Below.refl _ _) rfl
              · obtain rfl := Option.some.inj (show some _ = some oO from ho)
                rw [if_pos (wanted_yes (s := 100) rfl rfl rfl (by rw [hf.size]; simp) (((hf.dep ⟨3, .guard⟩ (by simp) rfl).2 100 rfl).trans (hf.dep ⟨3, .guard⟩ (by simp) rfl).1))]
                have q101 : AC.tmps.getD 101 undef = .int .i64 0 := ((hf.dep ⟨4, .data⟩ (by simp) rfl).2 101 rfl).trans (hf.dep ⟨4, .data⟩ (by simp) rfl).1
                have q102 : AC.tmps.getD 102 undef = .int .i64 0 := ((hf.dep ⟨5, .data⟩ (by simp) rfl).2 102 rfl).trans (hf.dep ⟨5, .data⟩ (by simp) rfl).1
                go_simp
                exact hK _ _ (Below.refl _ _) (by simp)
              · obtain rfl := Option.some.inj (show some _ = some oO from ho)
                rw [if_pos (by rfl)]
                have q100 : AC.tmps.getD 100 undef = .bool false := ((hf.dep ⟨3, .data⟩ (by simp) rfl).2 100 rfl).trans (hf.dep ⟨3, .data⟩ (by simp) rfl).1
                have q103 : AC.tmps.getD 103 undef = .bool false := ((hf.dep ⟨6, .data⟩ (by simp) rfl).2 103 rfl).trans (hf.dep ⟨6, .data⟩ (by simp) rfl).1
                go_simp
                exact hK _ _ (Below.refl _ _) rfl
              · obtain rfl := Option.some.inj (show some _ = some oO from ho)
                rw [if_pos (by rfl)]
                have q104 : AC.tmps.getD 104 undef = .bool false := ((hf.dep ⟨7, .data⟩ (by simp) rfl).2 104 rfl).trans (hf.dep ⟨7, .data⟩ (by simp) rfl).1
                go_simp
                exact hK _ _ (Below.refl _ _) rfl
              · obtain rfl := Option.some.inj (show some _ = some oO from ho)
                rw [if_pos (wanted_yes (s := 105) rfl rfl rfl (by rw [hf.size]; simp) (((hf.dep ⟨8, .guard⟩ (by simp) rfl).2 105 rfl).trans (hf.dep ⟨8, .guard⟩ (by simp) rfl).1))]
                have q3 : AC.tmps.getD 3 undef = .pointer (some ⟨b8, 0, none⟩) := hf.rest 3 (by kernel_rfl)
                go_simp
                exact hK _ _ (Below.refl _ _) rfl
              · obtain rfl := Option.some.inj (show some _ = some oO from ho)
                rw [if_pos (wanted_yes (s := 105) rfl rfl rfl (by rw [hf.size]; simp) (((hf.dep ⟨8, .guard⟩ (by simp) rfl).2 105 rfl).trans (hf.dep ⟨8, .guard⟩ (by simp) rfl).1))]
                have q106 : AC.tmps.getD 106 undef = .pointer (some ⟨b8, 0, none⟩) := ((hf.dep ⟨9, .data⟩ (by simp) rfl).2 106 rfl).trans (hf.dep ⟨9, .data⟩ (by simp) rfl).1
                go_simp
                refine (len_any WW _ _ _ _ _ _ (HL8.out.led.keeps hbw)).mono ?_
                rintro e w9 ⟨rfl, rfl⟩
                exact hK _ _ (Below.refl _ _) rfl
              · obtain rfl := Option.some.inj (show some _ = some oO from ho)
                rw [if_pos (wanted_yes (s := 105) rfl rfl rfl (by rw [hf.size]; simp) (((hf.dep ⟨8, .guard⟩ (by simp) rfl).2 105 rfl).trans (hf.dep ⟨8, .guard⟩ (by simp) rfl).1))]
                have q4 : AC.tmps.getD 4 undef = .slice ao8 E8.length cap8 := hf.rest 4 (by kernel_rfl)
                go_simp
                exact hK _ _ (Below.refl _ _) rfl
              · obtain rfl := Option.some.inj (show some _ = some oO from ho)
                rw [if_pos (wanted_yes (s := 105) rfl rfl rfl (by rw [hf.size]; simp) (((hf.dep ⟨8, .guard⟩ (by simp) rfl).2 105 rfl).trans (hf.dep ⟨8, .guard⟩ (by simp) rfl).1))]
                have q108 : AC.tmps.getD 108 undef = .slice ao8 E8.length cap8 := ((hf.dep ⟨11, .data⟩ (by simp) rfl).2 108 rfl).trans (hf.dep ⟨11, .data⟩ (by simp) rfl).1
                go_simp
                exact hK _ _ (Below.refl _ _) rfl
              · obtain rfl := Option.some.inj (show some _ = some oO from ho)
                rw [if_pos (wanted_yes (s := 105) rfl rfl rfl (by rw [hf.size]; simp) (((hf.dep ⟨8, .guard⟩ (by simp) rfl).2 105 rfl).trans (hf.dep ⟨8, .guard⟩ (by simp) rfl).1))]
                have q107 : AC.tmps.getD 107 undef = .int .i64 E8.length := ((hf.dep ⟨10, .data⟩ (by simp) rfl).2 107 rfl).trans (hf.dep ⟨10, .data⟩ (by simp) rfl).1
                have q109 : AC.tmps.getD 109 undef = .int .i64 E8.length := ((hf.dep ⟨12, .data⟩ (by simp) rfl).2 109 rfl).trans (hf.dep ⟨12, .data⟩ (by simp) rfl).1
                go_simp
                exact hK _ _ (Below.refl _ _) (by simp)
              · obtain rfl := Option.some.inj (show some _ = some oO from ho)
                rw [if_pos (by rfl)]
                have q105 : AC.tmps.getD 105 undef = .bool false := ((hf.dep ⟨8, .data⟩ (by simp) rfl).2 105 rfl).trans (hf.dep ⟨8, .data⟩ (by simp) rfl).1
                have q110 : AC.tmps.getD 110 undef = .bool false := ((hf.dep ⟨13, .data⟩ (by simp) rfl).2 110 rfl).trans (hf.dep ⟨13, .data⟩ (by simp) rfl).1
                go_simp
                exact hK _ _ (Below.refl _ _) rfl
              · obtain rfl := Option.some.inj (show some _ = some oO from ho)
                rw [if_pos (by rfl)]
                have q111 : AC.tmps.getD 111 undef = .bool false := ((hf.dep ⟨14, .data⟩ (by simp) rfl).2 111 rfl).trans (hf.dep ⟨14, .data⟩ (by simp) rfl).1
                go_simp
                exact hK _ _ (Below.refl _ _) rfl
              · obtain rfl := Option.some.inj (show some _ = some oO from ho)
                rw [if_pos (wanted_yes (s := 112) rfl rfl rfl (by rw [hf.size]; simp) (((hf.dep ⟨15, .guard⟩ (by simp) rfl).2 112 rfl).trans (hf.dep ⟨15, .guard⟩ (by simp) rfl).1))]
                have q6 : AC.tmps.getD 6 undef = .pointer (some ⟨ga, 0, none⟩) := hf.rest 6 (by kernel_rfl)
                go_simp
                exact hK _ _ (Below.refl _ _) rfl
              · obtain rfl := Option.some.inj (show some _ = some oO from ho)
                rw [if_pos (wanted_yes (s := 112) rfl rfl rfl (by rw [hf.size]; simp) (((hf.dep ⟨15, .guard⟩ (by simp) rfl).2 112 rfl).trans (hf.dep ⟨15, .guard⟩ (by simp) rfl).1))]
                have q113 : AC.tmps.getD 113 undef = .pointer (some ⟨ga, 2, none⟩) := ((hf.dep ⟨16, .data⟩ (by simp) rfl).2 113 rfl).trans (hf.dep ⟨16, .data⟩ (by simp) rfl).1
                have c2 := (HG8.out.keeps hbw).cell 2 _ rfl
                go_simp
                exact hK _ _ (Below.refl _ _) rfl
              · obtain rfl := Option.some.inj (show some _ = some oO from ho)
                rw [if_pos (wanted_yes (s := 112) rfl rfl rfl (by rw [hf.size]; simp) (((hf.dep ⟨15, .guard⟩ (by simp) rfl).2 112 rfl).trans (hf.dep ⟨15, .guard⟩ (by simp) rfl).1))]
                have q114 : AC.tmps.getD 114 undef = .slice po L.length pc := ((hf.dep ⟨17, .data⟩ (by simp) rfl).2 114 rfl).trans (hf.dep ⟨17, .data⟩ (by simp) rfl).1
                go_simp
                refine (HRi.out WW hbw).mono ?_
                rintro e w9 ⟨rfl, hb9⟩
                exact hK _ _ hb9 rfl
              · obtain rfl := Option.some.inj (show some _ = some oO from ho)
                rw [if_pos (wanted_yes (s := 112) rfl rfl rfl (by rw [hf.size]; simp) (((hf.dep ⟨15, .guard⟩ (by simp) rfl).2 112 rfl).trans (hf.dep ⟨15, .guard⟩ (by simp) rfl).1))]
                have q6 : AC.tmps.getD 6 undef = .pointer (some ⟨ga, 0, none⟩) := hf.rest 6 (by kernel_rfl)
                go_simp
                exact hK _ _ (Below.refl _ _) rfl
              · obtain rfl := Option.some.inj (show some _ = some oO from ho)
                rw [if_pos (wanted_yes (s := 112) rfl rfl rfl (by rw [hf.size]; simp) (((hf.dep ⟨15, .guard⟩ (by simp) rfl).2 112 rfl).trans (hf.dep ⟨15, .guard⟩ (by simp) rfl).1))]
                have q116 : AC.tmps.getD 116 undef = .pointer (some ⟨ga, 2, none⟩) := ((hf.dep ⟨19, .data⟩ (by simp) rfl).2 116 rfl).trans (hf.dep ⟨19, .data⟩ (by simp) rfl).1
                have c2 := (HG8.out.keeps hbw).cell 2 _ rfl
                go_simp
                exact hK _ _ (Below.refl _ _) rfl
              · obtain rfl := Option.some.inj (show some _ = some oO from ho)
                rw [if_pos (wanted_yes (s := 112) rfl rfl rfl (by rw [hf.size]; simp) (((hf.dep ⟨15, .guard⟩ (by simp) rfl).2 112 rfl).trans (hf.dep ⟨15, .guard⟩ (by simp) rfl).1))]
                have q117 : AC.tmps.getD 117 undef = .slice po L.length pc := ((hf.dep ⟨20, .data⟩ (by simp) rfl).2 117 rfl).trans (hf.dep ⟨20, .data⟩ (by simp) rfl).1
                go_simp
                refine (HRr.out WW hbw).mono ?_
                rintro e w9 ⟨rfl, hb9⟩
                exact hK _ _ hb9 rfl
              · obtain rfl := Option.some.inj (show some _ = some oO from ho)
                rw [if_pos (wanted_yes (s := 112) rfl rfl rfl (by rw [hf.size]; simp) (((hf.dep ⟨15, .guard⟩ (by simp) rfl).2 112 rfl).trans (hf.dep ⟨15, .guard⟩ (by simp) rfl).1))]
                have q115 : AC.tmps.getD 115 undef = .bool rr := ((hf.dep ⟨18, .data⟩ (by simp) rfl).2 115 rfl).trans (hf.dep ⟨18, .data⟩ (by simp) rfl).1
                have q118 : AC.tmps.getD 118 undef = .bool rr := ((hf.dep ⟨21, .data⟩ (by simp) rfl).2 118 rfl).trans (hf.dep ⟨21, .data⟩ (by simp) rfl).1
                go_simp
                exact hK _ _ (Below.refl _ _) (by simp)
              · obtain rfl := Option.some.inj (show some _ = some oO from ho)
                rw [if_pos (by rfl)]
                have q112 : AC.tmps.getD 112 undef = .bool false := ((hf.dep ⟨15, .data⟩ (by simp) rfl).2 112 rfl).trans (hf.dep ⟨15, .data⟩ (by simp) rfl).1
                have q119 : AC.tmps.getD 119 undef = .bool false := ((hf.dep ⟨22, .data⟩ (by simp) rfl).2 119 rfl).trans (hf.dep ⟨22, .data⟩ (by simp) rfl).1
                go_simp
                exact hK _ _ (Below.refl _ _) rfl
              · omega
            · intro V WW hall hbw hBW
              have vv0 : V 0 = .int .i64 0 := hall 0 (by decide)
              have vv1 : V 1 = .int .i64 0 := hall 1 (by decide)
              have vv2 : V 2 = .bool false := hall 2 (by decide)
              have vv3 : V 3 = .bool false := hall 3 (by decide)
              have vv4 : V 4 = .int .i64 0 := hall 4 (by decide)
              have vv5 : V 5 = .int .i64 0 := hall 5 (by decide)
              have vv6 : V 6 = .bool false := hall 6 (by decide)
              have vv7 : V 7 = .bool false := hall 7 (by decide)
              have vv8 : V 8 = .bool false := hall 8 (by decide)
              have vv9 : V 9 = .pointer (some ⟨b8, 0, none⟩) := hall 9 (by decide)
              have vv10 : V 10 = .int .i64 E8.length := hall 10 (by decide)
              have vv11 : V 11 = .slice ao8 E8.length cap8 := hall 11 (by decide)
              have vv12 : V 12 = .int .i64 E8.length := hall 12 (by decide)
              have vv13 : V 13 = .bool false := hall 13 (by decide)
              have vv14 : V 14 = .bool false := hall 14 (by decide)
              have vv15 : V 15 = .bool false := hall 15 (by decide)
              have vv16 : V 16 = .pointer (some ⟨ga, 2, none⟩) := hall 16 (by decide)
              have vv17 : V 17 = .slice po L.length pc := hall 17 (by decide)
              have vv18 : V 18 = .bool rr := hall 18 (by decide)
              have vv19 : V 19 = .pointer (some ⟨ga, 2, none⟩) := hall 19 (by decide)
              have vv20 : V 20 = .slice po L.length pc := hall 20 (by decide)
              have vv21 : V 21 = .bool rr := hall 21 (by decide)
              have vv22 : V 22 = .bool false := hall 22 (by decide)
              have vv23 : V 23 = .bool false := hall 23 (by decide)
              clear hall
              simp only [pairsOf, laid, Nat.zero_add, Nat.reduceAdd, vv0, vv1, vv2, vv3, vv4, vv5, vv6, vv7, vv8, vv9, vv10, vv11, vv12, vv13, vv14, vv15, vv16, vv17, vv18, vv19, vv20, vv21, vv22, vv23, List.setIfInBounds_toArray, List.set_cons_zero, List.set_cons_succ]
              clear vv0 vv1 vv2 vv3 vv4 vv5 vv6 vv7 vv8 vv9 vv10 vv11 vv12 vv13 vv14 vv15 vv16 vv17 vv18 vv19 vv20 vv21 vv22 vv23
              have HL9a := Lib.hid (HL8.out.keeps hbw)
              clear hbw hBW HRi HRr HG8 HL8
              have HTr := Lib.hid (trial_any _ _ _ _ _ _ _ HL9a.out.led)
              go_wp2_with fail
              refine HTr.out.mono ?_
              rintro e w9 ⟨v9, rfl, ho9, hb9⟩
              have HL9 := Lib.hid (HL9a.out.keeps hb9)
              obtain ⟨a9, c9, rfl, hs9⟩ := OwI.sl ho9
              have HS9 := Lib.hid hs9
              have HT8l : Hid (T8.length = 8) := HL9.out.okb.len
              obtain ⟨C8r, hre⟩ := HL9.out.re
              have HBE : Hid (∀ kk : Int, balS T8 kk = balE E8 kk) := fun kk => balS_E HL9.out.okt HL9.out.oke.rt kk
              have HBL : Hid (∀ W, Below w9.heap.size w9 W → ∀ kk : Int, Calls Try.prog 24 #[.slice ao8 E8.length cap8, .int .i64 kk] W fun e w' => e = .returned (.tuple #[.int .i64 (balE E8 kk), .int .i64 0]) ∧ Below W.heap.size W w') := fun W hW kk => by
                have h1 := rbal_any W _ ao8 cap8 E8 C8r (hre.keeps hW) (by have := HL9.out.oke.len; have := HA60.out; omega) (fun M hM => by have := (rightG_all (HL9.out.oke.rt M hM)).1; omega) HL9.out.oke.rng kk
                rw [balE_cut HL9.out.okt HL9.out.okb HL9.out.oke.rt kk] at h1
                exact h1
              clear ho9 hb9 hs9 HTr HL9a hre
              go_wp2
              go_loopw [15] (fun i wq => ∃ j : Nat, j ≤ 10 ∧ i = .int .i64 ((j : Int) - 1) ∧ Below w9.heap.size w9 wq) (fun i _ => (9 - intOf i).toNat)
              case atStart => exact ⟨0, by omega, rfl, Below.refl _ _⟩
              case round =>
                obtain ⟨j, hj, rfl, hbq⟩ := hrel
                by_cases hj10 : j < 10
                · have hle : (j : Int) - 1 ≤ 8 := by omega
                  by_cases hj0 : j = 0
                  · subst hj0
                    have q0 : ¬ (0 : Int) ≤ ((0 : Nat) : Int) - 1 := by omega
                    have HBl := Lib.hid (HBL.out wr hbq (((0 : Nat) : Int) - 1))
                    have HLq := Lib.hid (HL9.out.led.keeps hbq)
                    have HBq := Lib.hid hbq
                    clear hbq
                    go_wp2_with fail
                    refine HBl.out.mono ?_
                    rintro e wz ⟨rfl, hbz⟩
                    have HBz := Lib.hid (below_on HBq.out HBq.out.size hbz)
                    have HLz := Lib.hid (HLq.out.keeps hbz)
                    have HBa := Lib.hid (balance_any wz _ _ _ _ _ _ HLz.out (((0 : Nat) : Int) - 1))
                    clear hbz HBl HLq
                    go_wp2_with fail
                    refine HBa.out.mono ?_
                    rintro e wy ⟨rfl, rfl⟩
                    rw [HBE.out (((0 : Nat) : Int) - 1)]
                    go_wp2
                    go_roundw
                    · exact ⟨0 + 1, by omega, by go_num, HBz.out⟩
                    · simp [intOf] <;> omega
                  · by_cases hj9 : j = 9
                    · subst hj9
                      have HBl := Lib.hid (HBL.out wr hbq (((9 : Nat) : Int) - 1))
                      have HLq := Lib.hid (HL9.out.led.keeps hbq)
                      have HBq := Lib.hid hbq
                      clear hbq
                      go_wp2_with fail
                      refine HBl.out.mono ?_
                      rintro e wz ⟨rfl, hbz⟩
                      have HBz := Lib.hid (below_on HBq.out HBq.out.size hbz)
                      have HLz := Lib.hid (HLq.out.keeps hbz)
                      have HBa := Lib.hid (balance_any wz _ _ _ _ _ _ HLz.out (((9 : Nat) : Int) - 1))
                      clear hbz HBl HLq
                      go_wp2_with fail
                      refine HBa.out.mono ?_
                      rintro e wy ⟨rfl, rfl⟩
                      rw [HBE.out (((9 : Nat) : Int) - 1)]
                      go_wp2
                      go_roundw
                      · exact ⟨9 + 1, by omega, by go_num, HBz.out⟩
                      · simp [intOf] <;> omega
                    · obtain ⟨n, rfl⟩ : ∃ n, j = n + 1 := ⟨j - 1, by omega⟩
                      have h0 : n < 8 := by omega
                      have hkk : ((n + 1 : Nat) : Int) - 1 = (n : Int) := by omega
                      simp only [hkk]
                      have hn0 : (0 : Int) ≤ (n : Int) := by omega
                      have hn7 : (n : Int) < 8 := by omega
                      have hl0 : (n : Int) ≤ 8 := by omega
                      have hTn : T8[n]? = some (balE E8 (n : Int)) := by
                        have h1 := HL9.out.okt n h0
                        rw [List.getD_eq_getElem?_getD, List.getElem?_eq_getElem (by rw [HT8l.out]; exact h0)] at h1
                        rw [List.getElem?_eq_getElem (by rw [HT8l.out]; exact h0)]
                        exact congrArg some h1
                      have HTn := Lib.hid hTn
                      clear hle hTn hkk
                      have HBl := Lib.hid (HBL.out wr hbq ((n : Int)))
                      have HLq := Lib.hid (HL9.out.led.keeps hbq)
                      have HBq := Lib.hid hbq
                      clear hbq
                      go_wp2_with fail
                      refine HBl.out.mono ?_
                      rintro e wz ⟨rfl, hbz⟩
                      have HBz := Lib.hid (below_on HBq.out HBq.out.size hbz)
                      have HLz := Lib.hid (HLq.out.keeps hbz)
                      have HBa := Lib.hid (balance_any wz _ _ _ _ _ _ HLz.out ((n : Int)))
                      have HSz := Lib.hid (HS9.out.keeps HBz.out)
                      clear hbz HBl HLq
                      go_wp2_with fail
                      refine HBa.out.mono ?_
                      rintro e wy ⟨rfl, rfl⟩
                      rw [HBE.out ((n : Int))]
                      go_wp2_with (first | (refine wpList_ix_sl (by rfl) 42 2 _ _ rfl Try.underlying42 size_i64 a9 T8.length c9 rfl (ic T8) HSz.out n (by rw [HT8l.out]; exact h0) rfl ?_; intro bb off u hu hcell; obtain rfl : u = .int .i64 (balE E8 (n : Int)) := by (rw [ic_at HTn.out] at hu; exact (Option.some.inj hu).symm)) | fail)
                      go_roundw
                      · exact ⟨n + 1 + 1, by omega, by go_num, HBz.out⟩
                      · simp [intOf]; omega
                · obtain rfl : j = 10 := by omega
                  have hgt : ¬ ((10 : Nat) : Int) - 1 ≤ 8 := by omega
                  have HLn := Lib.hid (HL9.out.keeps hbq)
                  clear hbq HBL HS9 HBE
                  go_wp2
                  go_roundw
                  · exact ⟨k + 1, b8, v8, C8, ao8, cap8, T8, E8, by omega, by go_num, rfl, rfl, HLn⟩
                  · simp [intOf]; omega
    · obtain rfl : k = A.length := by omega
      obtain ⟨Cr, hre⟩ := HSt.out.re
      have HRE := Lib.hid hre
      have hE60 : E.length ≤ 60 := by have := HSt.out.oke.len; omega
      have HEl : Hid (∀ L ∈ E, L.length ≤ 1000) := fun L hL => by have := (rightG_all (HSt.out.oke.rt L hL)).1; omega
      have HBd := Lib.hid HSt.out.below
      clear hre hkl
      as_aux_lemma =>
      go_wp2
      go_loopw [161] (fun i wq => ∃ j : Nat, j ≤ E.length ∧ i = .int .i64 j ∧ Below wr.heap.size wr wq) (fun i _ => E.length - (intOf i).toNat)
      case atStart => exact ⟨0, by omega, rfl, Below.refl _ _⟩
      case round =>
        obtain ⟨j, hj, rfl, hbj⟩ := hrel
        by_cases hjl : j < E.length
        · obtain ⟨L, hL⟩ : ∃ L, E[j]? = some L := ⟨_, List.getElem?_eq_getElem hjl⟩
          obtain ⟨po, pc, hC, hSG, _⟩ := HRE.out.ent j L hL
          have hEn := entry_any wr _ _ _ _ _ _ (HSt.out.led.keeps hbj) HEl.out (by omega) (j : Int)
          rw [if_pos (show 0 ≤ (j : Int) ∧ (j : Int) < (E.length : Int) from ⟨by omega, by omega⟩), if_pos (show 0 ≤ (j : Int) ∧ (j : Int) < (E.length : Int) from ⟨by omega, by omega⟩), Int.toNat_natCast, List.getD_eq_getElem?_getD, hL] at hEn
          have HEn := Lib.hid hEn
          have HCj := Lib.hid hC
          have HSG := Lib.hid (hSG.keeps hbj)
          have HSl := Lib.hid (HRE.out.keeps hbj).sl
          have HLl : Hid (L.length ≤ 1000) := HEl.out L (List.mem_of_getElem? hL)
          have HBj := Lib.hid hbj
          clear hL hC hSG hEn hbj
          go_wp2_with fail
          refine HEn.out.mono ?_
          rintro e w9 ⟨u, rfl, ho, hb9⟩
          replace ho : OwG w9 wr.heap.size u L := ho
          obtain ⟨a9, c9, rfl, hs9, _⟩ := Rk.own ho
          have HB9 := Lib.hid (below_on HBj.out HBj.out.size hb9)
          have HSl9 := Lib.hid (HSl.out.keeps hb9)
          have HSm := Lib.hid (rsame_any w9 a9 po c9 pc L hs9 (HSG.out.keeps hb9) HLl.out)
          clear ho hs9 hb9 HEn HBj HSl
          go_wp2_with (first | (refine ix_re (by rfl) _ _ rfl E.length ao cap Cr HSl9.out rfl j hjl rfl _ HCj.out ?_; intro bb off hcell) | fail)
          refine HSm.out.mono ?_
          rintro e wz ⟨rfl, hbz⟩
          have HBz := Lib.hid (below_on HB9.out HB9.out.size hbz)
          clear hbz HSm hcell
          go_wp2
          go_roundw
          · exact ⟨j + 1, by omega, by go_num, HBz.out⟩
          · simp [intOf]; omega
        · obtain rfl : j = E.length := by omega
          have hEn := entry_any wr _ _ _ _ _ _ (HSt.out.led.keeps hbj) HEl.out (by omega) (E.length : Int)
          rw [if_neg (by omega), if_neg (by omega)] at hEn
          have HEn := Lib.hid hEn
          have HBj := Lib.hid (below_on HBd.out HBd.out.size hbj)
          clear hEn hbj
          go_wp2_with fail
          refine HEn.out.mono ?_
          rintro e w9 ⟨u, rfl, ho, hb9⟩
          have HB9 := Lib.hid (below_on HBj.out HBj.out.size hb9)
          clear ho hb9 HEn
          go_wp2
          go_ret
          exact ⟨rfl, HB9.out⟩
set_option maxRecDepth 20000 in
theorem ledgerRuns_law (ao : Option Addr) (cap : Nat) (A : List Ak) (w : World) (h : SlK w ao cap A ∧ ∀ t ∈ A, LegsAt w t) :
    Calls Try.prog 6 #[.slice ao A.length cap] w fun e w' => e = .returned (.bool true) ∧ Below w.heap.size w w' := by
  obtain ⟨h, hA⟩ := h
  obtain ⟨v, hv⟩ : ∃ v, greatA A = v := ⟨_, rfl⟩
  cases v with
  | false => exact runs_core ao cap A w h hA hv
  | true =>
    have HAl := Lib.hid (fun W => lalive_any W)
    have HG := Lib.hid (fun U (hu : Below w.heap.size w U) => great_any U ao cap A (h.keeps hu) (fun t ht => (hA t ht).keeps hu) true hv)
    clear h hA hv
    go_enter Try.func6, Try.ntmps6
    go_wp2_with fail
    refine (HAl.out _).mono ?_
    rintro e w1 ⟨rfl, hb1⟩
    have HB1 := Lib.hid hb1
    go_wp2_with fail
    refine (HG.out _ hb1).mono ?_
    rintro e w2 ⟨rfl, hb2⟩
    have HB2 := Lib.hid (below_on HB1.out HB1.out.size hb2)
    clear hb1 hb2 HG HAl HB1
    go_wp2
    go_ret
    exact ⟨rfl, HB2.out⟩
end Go.Proofs.Yteghjdmalbcdfaa
