/-
  The law BudgetTells.
-/
import Derived.Test.YtdiejmokbmaejaaBgG
import Derived.Test.YtdiejmokbmaejaaBgA
import Derived.Test.YtdiejmokbmaejaaBgS
import Derived.Test.YtdiejmokbmaejaaRefSum
set_option linter.unusedVariables false
set_option linter.unusedSimpArgs false
namespace Go.Proofs.Ytdiejmokbmaejaa
open Go.RowKit Dg

theorem Blk.grownN {w w' : World} {b T : Nat} {C : List Value} {ob : Option Nat} (h : Blk w b T C) (hg : w.grownBy w' ob) (hne : ¬ ob = some b) : Blk w' b T C := by
  refine ⟨?_⟩
  have := hg.block b h.lt (fun e => hne e.symm)
  rw [this]; exact h.at_
theorem tot_sum (L : List Ln) : sumI (L.map (fun t : Ln => t.1)) = totS L := by
  induction L with
  | nil => rfl
  | cons t l ih => simp only [List.map_cons, sumI, totS, ih]
theorem mapB_take {L : List Ln} {k : Nat} {t : Ln} (h : L[k]? = some t) : (L.take (k + 1)).map (fun t : Ln => t.1) = (L.take k).map (fun t : Ln => t.1) ++ [t.1] := by
  obtain ⟨hk, rfl⟩ := List.getElem?_eq_some_iff.1 h
  rw [List.take_succ_eq_append_getElem hk, List.map_append]; rfl
set_option maxRecDepth 8000 in
set_option maxHeartbeats 4000000 in
theorem tells_core (ao : Option Addr) (cap : Nat) (L : List Ln) (bo : Option Addr) (bcap : Nat) (B : List Int) (w : World) (h : SlL w ao cap L) (hB : Sl w bo B.length bcap (ic B)) (hl : L.length ≤ 40) (hl2 : B.length ≤ 40) :
    Calls Try.prog 3 #[.slice ao L.length cap, .slice bo B.length bcap] w fun e w' => e = .returned (.bool true) ∧ Below w.heap.size w w' := by
  have HAl := Lib.hid (fun W => balive_any W)
  obtain ⟨s, hs⟩ : ∃ s, newS B = s := ⟨_, rfl⟩
  have HN1 := Lib.hid (fun U (hu : Below w.heap.size w U) => bnew_any U bo bcap B (hB.keeps hu) s hs (by omega))
  have HN2 := Lib.hid (fun U (hu : Below w.heap.size w U) => rnew_any U bo bcap B (hB.keeps hu) s hs (by omega))
  obtain ⟨r, hr⟩ : ∃ r, rightL L = r := ⟨_, rfl⟩
  have HR1 := Lib.hid (fun U (hu : Below w.heap.size w U) => bright_any U ao cap L (h.keeps hu) r hr)
  have HR2 := Lib.hid (fun U (hu : Below w.heap.size w U) => rright_any U ao cap L (h.keeps hu) r hr (by omega))
  have H := Lib.hid h
  have HRr := Lib.hid hr
  have h40 : ¬ (40 : Int) < L.length := by omega
  have h41 : ¬ (40 : Int) < B.length := by omega
  have HsL : Hid (s.1.length ≤ 40) := by
    show _ ≤ _
    rw [← hs]; unfold newS; split
    · show (bare B).length ≤ 40; unfold bare; rw [List.length_map]; exact hl2
    · exact Nat.zero_le _
  clear h hB hs hr
  go_enter Try.func3, Try.ntmps3
  go_wp2_with fail
  refine (HAl.out _).mono ?_
  rintro e w1 ⟨rfl, hb1⟩
  have HB1 := Lib.hid hb1
  clear hb1
  go_wp2_with fail
  refine (HN1.out _ HB1.out).mono ?_
  rintro e w2 ⟨v2, rfl, ho2, hb2⟩
  have HB2 := Lib.hid (below_on HB1.out HB1.out.size hb2)
  obtain ⟨a2, c2, rfl, hs2⟩ := OwL.sl ho2
  have HS2 := Lib.hid hs2
  clear ho2 hs2 hb2
  go_wp2_with fail
  refine (HN2.out _ HB2.out).mono ?_
  rintro e w3 ⟨v3, rfl, ho3, hb3⟩
  have HB3 := Lib.hid (below_on HB2.out HB2.out.size hb3)
  obtain ⟨a3, c3, rfl, hs3⟩ := OwL.sl ho3
  have HSm := Lib.hid (bsame_any w3 a2 c2 s.1 a3 c3 s.1 (HS2.out.keeps hb3) hs3 true (by simp) (by have := HsL.out; omega))
  clear ho3 hs3 hb3 HS2 HN1 HN2
  go_wp2_with fail
  refine HSm.out.mono ?_
  rintro e w4 ⟨rfl, hb4⟩
  have HB4 := Lib.hid (below_on HB3.out HB3.out.size hb4)
  clear hb4 HSm
  go_wp2_with fail
  refine (HR1.out _ HB4.out).mono ?_
  rintro e w5 ⟨rfl, hb5⟩
  have HB5 := Lib.hid (below_on HB4.out HB4.out.size hb5)
  clear hb5
  go_wp2_with fail
  refine (HR2.out _ HB5.out).mono ?_
  rintro e w6 ⟨rfl, hb6⟩
  have HB6 := Lib.hid (below_on HB5.out HB5.out.size hb6)
  clear hb6
  go_wp2_with fail
  refine (HR2.out _ HB6.out).mono ?_
  rintro e w7 ⟨rfl, hb7⟩
  have HB7 := Lib.hid (below_on HB6.out HB6.out.size hb7)
  clear hb7 HR1 HR2
  cases r with
  | false =>
    clear HRr
    go_wp2
    go_ret
    exact ⟨rfl, HB7.out⟩
  | true =>
    have HO7 := Lib.hid (own_i0 w7)
    have HB8 := Lib.hid (HB7.out.alloc HB7.out.size (.cells #[] 2))
    have HO8 : Hid (OwI (w7.alloc (.cells #[] 2)) w.heap.size (.slice (some ⟨w7.heap.size, 0, none⟩) 0 0) []) := own_dn HO7.out HB7.out.size
    clear HO7
    go_wp2
    go_loopw [9, 56] (fun o i wr => ∃ k : Nat, k ≤ L.length ∧ i = .int .i64 k ∧ Hid (OwI wr w.heap.size o ((L.take k).map (fun t : Ln => t.1))) ∧ Below w.heap.size w wr) (fun _ i _ => L.length - (intOf i).toNat)
    case atStart => exact ⟨0, by omega, rfl, HO8.out, HB8.out⟩
    case round =>
      obtain ⟨k, hk, rfl, HO, hb⟩ := hrel
      by_cases hkl : k < L.length
      · obtain ⟨⟨b, p, x, y⟩, ht⟩ : ∃ t, L[k]? = some t := ⟨_, List.getElem?_eq_getElem hkl⟩
        have hok : okLn (b, p, x, y) = true := List.all_eq_true.1 (rightL_true HRr.out).2.2 _ (List.mem_of_getElem? ht)
        have hnm := okLn_nums hok
        obtain ⟨⟨b0, b1⟩, ⟨p0, p1⟩, ⟨x0, x1⟩, ⟨y0, y1⟩, hc⟩ := hnm
        have HT := Lib.hid ht
        have HM := Lib.hid (mapB_take ht)
        have hw := H.out.keeps hb
        have hb2 := hb.alloc hb.size (.cells #[.int .i64 b, .int .i64 p, .int .i64 x, .int .i64 y] 33)
        have HBx := Lib.hid (hb2.alloc hb2.size (.cells #[.int .i64 b] 2))
        have HGx := Lib.hid ((Blk.new wr 33 [.int .i64 b, .int .i64 p, .int .i64 x, .int .i64 y]).alloc (.cells #[.int .i64 b] 2))
        have HV := Lib.hid (fun g hg => (World.ownsRow.lt HO.out g hg).2)
        have HO1 := Lib.hid (own_kp HO.out (below_new2 wr (.cells #[.int .i64 b, .int .i64 p, .int .i64 x, .int .i64 y] 33) (.cells #[.int .i64 b] 2)))
        have hsl := sl_i1 (wr.alloc (.cells #[.int .i64 b, .int .i64 p, .int .i64 x, .int .i64 y] 33)) b
        rw [show (wr.alloc (.cells #[.int .i64 b, .int .i64 p, .int .i64 x, .int .i64 y] 33)).heap.size = wr.heap.size + 1 from by simp] at hsl
        have HSL := Lib.hid hsl
        have hlen : ((L.take k).map (fun t : Ln => t.1)).length = k := by rw [List.length_map, List.length_take]; omega
        obtain ⟨M, hM⟩ : ∃ M, (L.take k).map (fun t : Ln => t.1) = M := ⟨_, rfl⟩
        rw [hM] at hlen HM HO1
        have HL := Lib.hid hlen
        have HU := Lib.hid (fun W => used_any b p x y ((okM_iff x).2 ⟨x0, x1⟩) ((okM_iff y).2 ⟨y0, y1⟩) W)
        have hC := fun W => cap_any b p x y ((okM_iff b).2 ⟨b0, b1⟩) p0 p1 W
        have hR := fun W => rcap_any b p x y b0 b1 p0 p1 W
        obtain ⟨q, hq⟩ : ∃ q, capS b p = q := ⟨_, rfl⟩
        rw [hq] at hC hR
        have HC := Lib.hid hC; have HR := Lib.hid hR
        clear ht hok hc hb hb2 hsl hlen hM HO hC hR hq
        go_wp2_with (first | (refine ix_ln rfl _ _ rfl ao cap L hw rfl k _ HT.out rfl ?_; intro bb off d0 d1 d2 d3) | (refine ap_i rfl _ _ rfl w.heap.size _ rfl M ?_ _ 1 [b] rfl ?_ ?_ ?_ ?_))
        · exact HO1.out
        · exact HSL.out
        · have := HL.out; first | omega | (simp; omega)
        · exact (by simpa using HBx.out.size)
        · intro v' w' h1 h2 h3
          have HBn := Lib.hid (below_grown HO1.out h2 (Nat.le_refl _) (Nat.le_refl _) HBx.out)
          have HOn := Lib.hid h1
          have HG := Lib.hid (HGx.out.grownN h2 (fun e => by have := HV.out _ e; omega))
          clear h1 h2 h3 d0 d1 d2 d3 hw HO1 HSL HGx HBx
          go_wp2
          refine region_mono (by kernel_rfl) (by kernel_rfl) [some 65, some 66, some 67, some 68, some 69, some 70, some 71, some 72, some 73, some 74, some 75, some 76, some 77, some 78, some 79] (by kernel_rfl) w.heap.size w HBn.out (Nat.le_refl _) (fun i v WW => match i with | 0 => v = .agg #[.int .i64 b, .int .i64 p, .int .i64 x, .int .i64 y] | 1 => v = .int .i64 (x + y) | 2 => v = .pointer (some ⟨wr.heap.size, 2, none⟩) | 3 => v = .int .i64 x | 4 => v = .pointer (some ⟨wr.heap.size, 3, none⟩) | 5 => v = .int .i64 y | 6 => v = .int .i64 (x + y) | 7 => v = .bool false | 8 => v = .bool false | 9 => v = .agg #[.int .i64 b, .int .i64 p, .int .i64 x, .int .i64 y] | 10 => v = .int .i64 q | 11 => v = .agg #[.int .i64 b, .int .i64 p, .int .i64 x, .int .i64 y] | 12 => v = .int .i64 q | 13 => v = .bool false | 14 => v = .bool false | _ => True) ?_ ?_ ?_
          · intro i v WW WX h hbx
            rcases i with _ | _ | _ | _ | _ | _ | _ | _ | _ | _ | _ | _ | _ | _ | _ | i
            · exact h
            · exact h
            · exact h
            · exact h
            · exact h
            · exact h
            · exact h
            · exact h
            · exact h
            · exact h
            · exact h
            · exact h
            · exact h
            · exact h
            · exact h
            · trivial
          · intro iI oO V AC WW ho hf hbw K hK
            have hlt : iI < 15 := (Array.getElem?_eq_some_iff.1 ho).1
            rcases iI with _ | _ | _ | _ | _ | _ | _ | _ | _ | _ | _ | _ | _ | _ | _ | iI
            · obtain rfl := Option.some.inj (show some _ = some oO from ho)
              rw [if_pos (by rfl)]
              have q11 : AC.tmps.getD 11 undef = .pointer (some ⟨wr.heap.size, 0, none⟩) := hf.rest 11 (by kernel_rfl)
              have hG := HG.out.keeps hbw
              have g0 := hG.cell 0 _ rfl; have g1 := hG.cell 1 _ rfl; have g2 := hG.cell 2 _ rfl; have g3 := hG.cell 3 _ rfl
              go_simp
              exact hK _ _ (Below.refl _ _) rfl
            · obtain rfl := Option.some.inj (show some _ = some oO from ho)
              rw [if_pos (by rfl)]
              have q65 : AC.tmps.getD 65 undef = .agg #[.int .i64 b, .int .i64 p, .int .i64 x, .int .i64 y] := ((hf.dep ⟨0, .data⟩ (by simp) rfl).2 65 rfl).trans (hf.dep ⟨0, .data⟩ (by simp) rfl).1
              go_simp
              refine (HU.out WW).mono ?_
              rintro e w9 ⟨rfl, hb9⟩
              exact hK _ _ hb9 rfl
            · obtain rfl := Option.some.inj (show some _ = some oO from ho)
              rw [if_pos (by rfl)]
              have q11 : AC.tmps.getD 11 undef = .pointer (some ⟨wr.heap.size, 0, none⟩) := hf.rest 11 (by kernel_rfl)
              go_simp
              exact hK _ _ (Below.refl _ _) rfl
            · obtain rfl := Option.some.inj (show some _ = some oO from ho)
              rw [if_pos (by rfl)]
              have q67 : AC.tmps.getD 67 undef = .pointer (some ⟨wr.heap.size, 2, none⟩) := ((hf.dep ⟨2, .data⟩ (by simp) rfl).2 67 rfl).trans (hf.dep ⟨2, .data⟩ (by simp) rfl).1
              have hG := HG.out.keeps hbw
              have g0 := hG.cell 0 _ rfl; have g1 := hG.cell 1 _ rfl; have g2 := hG.cell 2 _ rfl; have g3 := hG.cell 3 _ rfl
              go_simp
              exact hK _ _ (Below.refl _ _) rfl
            · obtain rfl := Option.some.inj (show some _ = some oO from ho)
              rw [if_pos (by rfl)]
              have q11 : AC.tmps.getD 11 undef = .pointer (some ⟨wr.heap.size, 0, none⟩) := hf.rest 11 (by kernel_rfl)
              go_simp
              exact hK _ _ (Below.refl _ _) rfl
            · obtain rfl := Option.some.inj (show some _ = some oO from ho)
              rw [if_pos (by rfl)]
              have q69 : AC.tmps.getD 69 undef = .pointer (some ⟨wr.heap.size, 3, none⟩) := ((hf.dep ⟨4, .data⟩ (by simp) rfl).2 69 rfl).trans (hf.dep ⟨4, .data⟩ (by simp) rfl).1
              have hG := HG.out.keeps hbw
              have g0 := hG.cell 0 _ rfl; have g1 := hG.cell 1 _ rfl; have g2 := hG.cell 2 _ rfl; have g3 := hG.cell 3 _ rfl
              go_simp
              exact hK _ _ (Below.refl _ _) rfl
            · obtain rfl := Option.some.inj (show some _ = some oO from ho)
              rw [if_pos (by rfl)]
              have q68 : AC.tmps.getD 68 undef = .int .i64 x := ((hf.dep ⟨3, .data⟩ (by simp) rfl).2 68 rfl).trans (hf.dep ⟨3, .data⟩ (by simp) rfl).1
              have q70 : AC.tmps.getD 70 undef = .int .i64 y := ((hf.dep ⟨5, .data⟩ (by simp) rfl).2 70 rfl).trans (hf.dep ⟨5, .data⟩ (by simp) rfl).1
              go_simp
              rw [show IntKind.i64.wrap (x + y) = x + y from by rw [IntKind.wrap_i64]; omega]
              exact hK _ _ (Below.refl _ _) rfl
            · obtain rfl := Option.some.inj (show some _ = some oO from ho)
              rw [if_pos (by rfl)]
              have q66 : AC.tmps.getD 66 undef = .int .i64 (x + y) := ((hf.dep ⟨1, .data⟩ (by simp) rfl).2 66 rfl).trans (hf.dep ⟨1, .data⟩ (by simp) rfl).1
              have q71 : AC.tmps.getD 71 undef = .int .i64 (x + y) := ((hf.dep ⟨6, .data⟩ (by simp) rfl).2 71 rfl).trans (hf.dep ⟨6, .data⟩ (by simp) rfl).1
              go_simp
              exact hK _ _ (Below.refl _ _) rfl
            · obtain rfl := Option.some.inj (show some _ = some oO from ho)
              rw [if_pos (by rfl)]
              have q72 : AC.tmps.getD 72 undef = .bool false := ((hf.dep ⟨7, .data⟩ (by simp) rfl).2 72 rfl).trans (hf.dep ⟨7, .data⟩ (by simp) rfl).1
              go_simp
              exact hK _ _ (Below.refl _ _) rfl
            · obtain rfl := Option.some.inj (show some _ = some oO from ho)
              rw [if_pos (wanted_yes (s := 73) rfl rfl rfl (by rw [hf.size]; simp) (((hf.dep ⟨8, .guard⟩ (by simp) rfl).2 73 rfl).trans (hf.dep ⟨8, .guard⟩ (by simp) rfl).1))]
              have q11 : AC.tmps.getD 11 undef = .pointer (some ⟨wr.heap.size, 0, none⟩) := hf.rest 11 (by kernel_rfl)
              have hG := HG.out.keeps hbw
              have g0 := hG.cell 0 _ rfl; have g1 := hG.cell 1 _ rfl; have g2 := hG.cell 2 _ rfl; have g3 := hG.cell 3 _ rfl
              go_simp
              exact hK _ _ (Below.refl _ _) rfl
            · obtain rfl := Option.some.inj (show some _ = some oO from ho)
              rw [if_pos (wanted_yes (s := 73) rfl rfl rfl (by rw [hf.size]; simp) (((hf.dep ⟨8, .guard⟩ (by simp) rfl).2 73 rfl).trans (hf.dep ⟨8, .guard⟩ (by simp) rfl).1))]
              have q74 : AC.tmps.getD 74 undef = .agg #[.int .i64 b, .int .i64 p, .int .i64 x, .int .i64 y] := ((hf.dep ⟨9, .data⟩ (by simp) rfl).2 74 rfl).trans (hf.dep ⟨9, .data⟩ (by simp) rfl).1
              go_simp
              refine (HC.out WW).mono ?_
              rintro e w9 ⟨rfl, hb9⟩
              exact hK _ _ hb9 rfl
            · obtain rfl := Option.some.inj (show some _ = some oO from ho)
              rw [if_pos (wanted_yes (s := 73) rfl rfl rfl (by rw [hf.size]; simp) (((hf.dep ⟨8, .guard⟩ (by simp) rfl).2 73 rfl).trans (hf.dep ⟨8, .guard⟩ (by simp) rfl).1))]
              have q11 : AC.tmps.getD 11 undef = .pointer (some ⟨wr.heap.size, 0, none⟩) := hf.rest 11 (by kernel_rfl)
              have hG := HG.out.keeps hbw
              have g0 := hG.cell 0 _ rfl; have g1 := hG.cell 1 _ rfl; have g2 := hG.cell 2 _ rfl; have g3 := hG.cell 3 _ rfl
              go_simp
              exact hK _ _ (Below.refl _ _) rfl
            · obtain rfl := Option.some.inj (show some _ = some oO from ho)
              rw [if_pos (wanted_yes (s := 73) rfl rfl rfl (by rw [hf.size]; simp) (((hf.dep ⟨8, .guard⟩ (by simp) rfl).2 73 rfl).trans (hf.dep ⟨8, .guard⟩ (by simp) rfl).1))]
              have q76 : AC.tmps.getD 76 undef = .agg #[.int .i64 b, .int .i64 p, .int .i64 x, .int .i64 y] := ((hf.dep ⟨11, .data⟩ (by simp) rfl).2 76 rfl).trans (hf.dep ⟨11, .data⟩ (by simp) rfl).1
              go_simp
              refine (HR.out WW).mono ?_
              rintro e w9 ⟨rfl, hb9⟩
              exact hK _ _ hb9 rfl
            · obtain rfl := Option.some.inj (show some _ = some oO from ho)
              rw [if_pos (wanted_yes (s := 73) rfl rfl rfl (by rw [hf.size]; simp) (((hf.dep ⟨8, .guard⟩ (by simp) rfl).2 73 rfl).trans (hf.dep ⟨8, .guard⟩ (by simp) rfl).1))]
              have q75 : AC.tmps.getD 75 undef = .int .i64 q := ((hf.dep ⟨10, .data⟩ (by simp) rfl).2 75 rfl).trans (hf.dep ⟨10, .data⟩ (by simp) rfl).1
              have q77 : AC.tmps.getD 77 undef = .int .i64 q := ((hf.dep ⟨12, .data⟩ (by simp) rfl).2 77 rfl).trans (hf.dep ⟨12, .data⟩ (by simp) rfl).1
              go_simp
              exact hK _ _ (Below.refl _ _) rfl
            · obtain rfl := Option.some.inj (show some _ = some oO from ho)
              rw [if_pos (by rfl)]
              have q73 : AC.tmps.getD 73 undef = .bool false := ((hf.dep ⟨8, .data⟩ (by simp) rfl).2 73 rfl).trans (hf.dep ⟨8, .data⟩ (by simp) rfl).1
              have q78 : AC.tmps.getD 78 undef = .bool false := ((hf.dep ⟨13, .data⟩ (by simp) rfl).2 78 rfl).trans (hf.dep ⟨13, .data⟩ (by simp) rfl).1
              go_simp
              exact hK _ _ (Below.refl _ _) rfl
            · omega
          · intro V WW hall hbw hBW
            have vv0 : V 0 = .agg #[.int .i64 b, .int .i64 p, .int .i64 x, .int .i64 y] := hall 0 (by decide)
            have vv1 : V 1 = .int .i64 (x + y) := hall 1 (by decide)
            have vv2 : V 2 = .pointer (some ⟨wr.heap.size, 2, none⟩) := hall 2 (by decide)
            have vv3 : V 3 = .int .i64 x := hall 3 (by decide)
            have vv4 : V 4 = .pointer (some ⟨wr.heap.size, 3, none⟩) := hall 4 (by decide)
            have vv5 : V 5 = .int .i64 y := hall 5 (by decide)
            have vv6 : V 6 = .int .i64 (x + y) := hall 6 (by decide)
            have vv7 : V 7 = .bool false := hall 7 (by decide)
            have vv8 : V 8 = .bool false := hall 8 (by decide)
            have vv9 : V 9 = .agg #[.int .i64 b, .int .i64 p, .int .i64 x, .int .i64 y] := hall 9 (by decide)
            have vv10 : V 10 = .int .i64 q := hall 10 (by decide)
            have vv11 : V 11 = .agg #[.int .i64 b, .int .i64 p, .int .i64 x, .int .i64 y] := hall 11 (by decide)
            have vv12 : V 12 = .int .i64 q := hall 12 (by decide)
            have vv13 : V 13 = .bool false := hall 13 (by decide)
            have vv14 : V 14 = .bool false := hall 14 (by decide)
            clear hall
            simp only [pairsOf, laid, Nat.zero_add, Nat.reduceAdd, vv0, vv1, vv2, vv3, vv4, vv5, vv6, vv7, vv8, vv9, vv10, vv11, vv12, vv13, vv14, List.setIfInBounds_toArray, List.set_cons_zero, List.set_cons_succ]
            clear vv0 vv1 vv2 vv3 vv4 vv5 vv6 vv7 vv8 vv9 vv10 vv11 vv12 vv13 vv14
            have HW := Lib.hid hBW
            have HOw := Lib.hid (own_kp HOn.out hbw)
            clear hbw hBW HU HC HR HG HOn HBn
            go_wp2
            go_roundw
            · exact ⟨k + 1, by omega, by go_num, by rw [HM.out]; exact HOw.out, HW.out⟩
            · simp [intOf]; omega
      · obtain rfl : k = L.length := by omega
        rw [List.take_length] at HO
        have hlM : (L.map (fun t : Ln => t.1)).length = L.length := List.length_map _
        have hrg : ∀ z ∈ L.map (fun t : Ln => t.1), -9223372036854775808 ≤ z ∧ z ≤ 9223372036854775807 := by
          intro z hz
          obtain ⟨⟨b, p, x, y⟩, ht, rfl⟩ := List.mem_map.1 hz
          have := okLn_nums (List.all_eq_true.1 (rightL_true HRr.out).2.2 _ ht)
          show -9223372036854775808 ≤ b ∧ b ≤ 9223372036854775807
          omega
        have hts := tot_sum L
        obtain ⟨M, hM⟩ : ∃ M, L.map (fun t : Ln => t.1) = M := ⟨_, rfl⟩
        rw [hM] at HO hlM hrg hts
        obtain ⟨a9, c9, rfl, hs9⟩ := OwI.sl HO.out
        have hsm := rsum_any wr a9 c9 M hs9 (by rw [hlM]; omega) hrg
        have hti := tot_in (rightL_true HRr.out).2.2
        have hl16 := (rightL_true HRr.out).2.1
        rw [hts, cutI_in (by omega) (by omega)] at hsm
        have hto := fun W (hb : Below w.heap.size w W) => total_any W ao cap L (H.out.keeps hb) HRr.out
        obtain ⟨z, hz⟩ : ∃ z, totS L = z := ⟨_, rfl⟩
        rw [hz] at hsm hto
        have HSm := Lib.hid hsm; have HTo := Lib.hid hto
        have HBB := Lib.hid hb
        clear hs9 hrg hsm hti hl16 hto hz hM HO hb hlM hts
        go_wp2_with fail
        refine HSm.out.mono ?_
        rintro e w10 ⟨rfl, hb10⟩
        have HB10 := Lib.hid (below_on HBB.out HBB.out.size hb10)
        clear hb10 HSm
        go_wp2_with fail
        refine (HTo.out _ HB10.out).mono ?_
        rintro e w11 ⟨rfl, hb11⟩
        have HB11 := Lib.hid (below_on HB10.out HB10.out.size hb11)
        clear hb11 HTo
        go_wp2
        go_ret
        exact ⟨rfl, HB11.out⟩
set_option maxRecDepth 8000 in
theorem budgetTells_law (ao : Option Addr) (cap : Nat) (L : List Ln) (bo : Option Addr) (bcap : Nat) (B : List Int) (w : World) (h : SlL w ao cap L) (hB : Sl w bo B.length bcap (ic B)) :
    Calls Try.prog 3 #[.slice ao L.length cap, .slice bo B.length bcap] w fun e w' => e = .returned (.bool true) ∧ Below w.heap.size w w' := by
  by_cases hl : L.length ≤ 40
  · by_cases hl2 : B.length ≤ 40
    · exact tells_core ao cap L bo bcap B w h hB hl hl2
    · have HAl := Lib.hid (fun W => balive_any W)
      have h40 : ¬ (40 : Int) < L.length := by omega
      have h41 : (40 : Int) < B.length := by omega
      clear h hB hl hl2
      go_enter Try.func3, Try.ntmps3
      go_wp2_with fail
      refine (HAl.out _).mono ?_
      rintro e w1 ⟨rfl, hb1⟩
      go_wp2
      go_ret
      exact ⟨rfl, hb1⟩
  · have HAl := Lib.hid (fun W => balive_any W)
    have h40 : (40 : Int) < L.length := by omega
    clear h hB hl
    go_enter Try.func3, Try.ntmps3
    go_wp2_with fail
    refine (HAl.out _).mono ?_
    rintro e w1 ⟨rfl, hb1⟩
    go_wp2
    go_ret
    exact ⟨rfl, hb1⟩
end Go.Proofs.Ytdiejmokbmaejaa
