/-
  Law CommandBack: the walk.
-/
import Derived.Test.YtdkcccigmejikaaCmT
import Derived.Test.YtdkcccigmejikaaCmZ
set_option linter.unusedVariables false
set_option linter.unusedSimpArgs false
set_option maxRecDepth 20000
namespace Go.Proofs.Ytdkcccigmejikaa
open Go.RowKit

theorem readP_wf (B : List UInt8) : (readP B).1.wf := by
  obtain ⟨c, hc | hc⟩ := readP_err B
  · rw [hc]; exact (readP_ok hc).2.2
  · rw [hc]; exact ⟨by simp [zC, Cm.H, in64], by simp [zC, in64], by simp [zC, Cm.N, in64], by simp [zC, Cm.F, in64]⟩
theorem bytes_ne {c : Cm} {T : List UInt8} {te : Int} (h : c.bytes = (T, te)) : (te = 0 ∧ c.right = true ∧ T = c.enc) ∨ (te ≠ 0) := by
  unfold Cm.bytes at h
  split at h
  · rename_i hr; simp only [Prod.mk.injEq] at h; exact .inl ⟨h.2.symm, hr, h.1.symm⟩
  · simp only [Prod.mk.injEq] at h; right; rw [← h.2]; decide
set_option maxHeartbeats 12800000 in
theorem cback_law (w : World) (ao : Option Addr) (cap : Nat) (c : Cm) (h : Sl w ao c.L.length cap (ic c.L)) (hw : c.wf) (bo : Option Addr) (dap : Nat) (d : Cm) (hd : Sl w bo d.L.length dap (ic d.L)) (hwd : d.wf) (u : Value) (C : List UInt8) (hc : SlB w u C) :
    Calls Try.prog 8 #[.agg (c.C (.slice ao c.L.length cap)).toArray, .agg (d.C (.slice bo d.L.length dap)).toArray, u] w fun e w' => e = .returned (.bool true) ∧ Below w.heap.size w w' := by
  have hc2 := hc
  obtain ⟨a3, p3, rfl, _⟩ := hc2
  have HVc := Lib.hid hc
  have HBa := Lib.hid (below_new1 w (.cells (c.C (.slice ao c.L.length cap)).toArray 45))
  have HB0 := Lib.hid (HBa.out.alloc HBa.out.size (.cells (d.C (.slice bo d.L.length dap)).toArray 45))
  have HGa := Lib.hid ((Blk.new w 45 (c.C (.slice ao c.L.length cap))).alloc (.cells (d.C (.slice bo d.L.length dap)).toArray 45))
  have HGb := Lib.hid (Blk.new (w.alloc (.cells (c.C (.slice ao c.L.length cap)).toArray 45)) 45 (d.C (.slice bo d.L.length dap)))
  have HS := Lib.hid h
  have HT := Lib.hid hd
  have HW := Lib.hid hw
  have HWd := Lib.hid hwd
  have hgs : (w.alloc (.cells (c.C (.slice ao c.L.length cap)).toArray 45)).heap.size = w.heap.size + 1 := by simp
  rw [hgs] at HGb
  have HA := Lib.hid (calive_any ((w.alloc (.cells (c.C (.slice ao c.L.length cap)).toArray 45)).alloc (.cells (d.C (.slice bo d.L.length dap)).toArray 45)))
  obtain ⟨⟨m, g⟩, hm⟩ : ∃ s, readP C = s := ⟨_, rfl⟩
  obtain ⟨⟨Z, ze⟩, hz⟩ : ∃ s, m.bytes = s := ⟨_, rfl⟩
  have HMr := Lib.hid hm
  have HZ := Lib.hid hz
  have HMw : Hid m.wf := by have := readP_wf C; rw [hm] at this; exact this
  have HGZ : Hid (g = 0 → Z = C ∧ ze = 0) := fun hg => by
    subst hg
    obtain ⟨hr, he, _⟩ := readP_ok hm
    rw [Cm.bytes, if_pos hr, he, Prod.mk.injEq] at hz
    exact ⟨hz.1.symm, hz.2.symm⟩
  clear h hd hw hwd HBa hgs hc hm hz
  go_enter Try.func8, Try.ntmps8
  obtain ⟨x40, hx⟩ : ∃ z, decide (40 < (c.L.length : Int)) = z := ⟨_, rfl⟩
  obtain ⟨y40, hy⟩ : ∃ z, decide (40 < (d.L.length : Int)) = z := ⟨_, rfl⟩
  have HX := Lib.hid hx
  have HY := Lib.hid hy
  have HGR := Lib.hid (fun U => great_any U ao cap c x40 hx)
  have HGR2 := Lib.hid (fun U => great_any U bo dap d y40 hy)
  clear hx hy
  go_wp2_with fail
  refine HA.out.mono ?_
  rintro e w1 ⟨rfl, hb1⟩
  have HB1 := Lib.hid (below_on HB0.out HB0.out.size hb1)
  have HGa1 := Lib.hid (HGa.out.keeps hb1)
  have HGb1 := Lib.hid (HGb.out.keeps hb1)
  clear hb1 HB0 HGa HGb HA
  go_wp2_with (first | (refine ld_cm rfl _ rfl w.heap.size 0 rfl c (.slice ao c.L.length cap) HGa1.out.range ?_) | fail)
  refine (HGR.out _).mono ?_
  rintro e w2 ⟨rfl, hb2⟩
  have HB2 := Lib.hid (below_on HB1.out HB1.out.size hb2)
  have HGa2 := Lib.hid (HGa1.out.keeps hb2)
  have HGb2 := Lib.hid (HGb1.out.keeps hb2)
  clear hb2 HB1 HGa1 HGb1 HGR
  cases x40 with
  | true =>
    go_wp2
    go_ret
    exact ⟨rfl, HB2.out⟩
  | false =>
  go_wp2_with (first | (refine ld_cm_w (by rfl) _ rfl (w.heap.size + 1) 0 rfl d (.slice bo d.L.length dap) HGb2.out.range ?_) | fail)
  refine (HGR2.out _).mono ?_
  rintro e w3 ⟨rfl, hb3⟩
  have HB3 := Lib.hid (below_on HB2.out HB2.out.size hb3)
  have HGa3 := Lib.hid (HGa2.out.keeps hb3)
  have HGb3 := Lib.hid (HGb2.out.keeps hb3)
  clear hb3 HB2 HGa2 HGb2 HGR2
  cases y40 with
  | true =>
    go_wp2
    go_ret
    exact ⟨rfl, HB3.out⟩
  | false =>
  by_cases hC7 : (700 : Int) < C.length
  · go_wp2
    go_ret
    exact ⟨rfl, HB3.out⟩
  have HCl : Hid (C.length ≤ 700) := by show _ ≤ _; omega
  have hl : c.L.length ≤ 1000000000 := by have := of_decide_eq_false HX.out; omega
  have hl2 : d.L.length ≤ 1000000000 := by have := of_decide_eq_false HY.out; omega
  obtain ⟨⟨T, te⟩, ht⟩ : ∃ t, c.bytes = t := ⟨_, rfl⟩
  obtain ⟨⟨T2, fe⟩, ht2⟩ : ∃ t, d.bytes = t := ⟨_, rfl⟩
  have HC := Lib.hid (cbytes_any w3 ao cap c (HS.out.keeps HB3.out) HW.out _ ht)
  have HD := Lib.hid (fun U (hu : Below w.heap.size w U) => cbytes_any U bo dap d (HT.out.keeps hu) HWd.out _ ht2)
  have HTE := Lib.hid (bytes_ne ht)
  have HFE := Lib.hid (bytes_ne ht2)
  have HSL := Lib.hid hl
  clear ht ht2 hl hl2 HX HY
  go_wp2_with (first | (refine ld_cm rfl _ rfl w.heap.size 0 rfl c (.slice ao c.L.length cap) HGa3.out.range ?_) | fail)
  refine HC.out.mono ?_
  rintro e w4 ⟨v4, rfl, ho4, hb4⟩
  have HB4 := Lib.hid (below_on HB3.out HB3.out.size hb4)
  have HGa4 := Lib.hid (HGa3.out.keeps hb4)
  have HGb4 := Lib.hid (HGb3.out.keeps hb4)
  have h4 := ho4.sl
  have HV4a : Hid (SlB w4 v4 T) := h4
  clear hb4 ho4 h4 HB3 HGa3 HGb3 HC
  go_wp2_with (first | (refine ld_cm rfl _ rfl (w.heap.size + 1) 0 rfl d (.slice bo d.L.length dap) HGb4.out.range ?_) | fail)
  refine (HD.out w4 HB4.out).mono ?_
  rintro e w5 ⟨v5, rfl, ho5, hb5⟩
  have HB5 := Lib.hid (below_on HB4.out HB4.out.size hb5)
  have HGa5 := Lib.hid (HGa4.out.keeps hb5)
  have HGb5 := Lib.hid (HGb4.out.keeps hb5)
  have HV4b := Lib.hid (SlB.keeps HV4a.out hb5)
  have h5 := ho5.sl
  have HV5b : Hid (SlB w5 v5 T2) := h5
  clear hb5 ho5 h5 HB4 HGa4 HGb4 HD HV4a
  obtain ⟨ga, hga⟩ : ∃ g, w.heap.size = g := ⟨_, rfl⟩
  obtain ⟨gb, hgb⟩ : ∃ g, w.heap.size + 1 = g := ⟨_, rfl⟩
  rw [hga] at HGa5
  rw [hgb] at HGb5
  simp only [hgb]
  simp only [hga]
  rw [hga] at HB5
  have HGA := Lib.hid hga
  clear hgb hga
  have HW5 : Hid (Below w.heap.size w w5) := by show Below _ _ _; rw [HGA.out]; exact HB5.out
  by_cases h0 : te = 0
  · subst h0
    obtain ⟨hcr, hT⟩ : c.right = true ∧ T = c.enc := by rcases HTE.out with h | h; exact ⟨h.2.1, h.2.2⟩; exact absurd rfl h
    have hrd := readP_enc hcr HW.out
    have hle := enc_le hcr HW.out
    rw [← hT] at hrd hle
    have HR6 := Lib.hid (cread2_any w5 v4 T HV4b.out (by omega) _ hrd)
    have HCR := Lib.hid hcr
    have HTq := Lib.hid hT
    clear hcr hT hrd hle HTE
    go_wp2_with fail
    refine HR6.out.mono ?_
    rintro e w6 ⟨v6, rfl, ho6, hb6⟩
    have HB6 := Lib.hid (below_on HB5.out (by have := HB5.out.size; have := HGA.out; omega) hb6)
    have HGa6 := Lib.hid ((HGa5.out.keeps hb6).alloc (.cells (zC.C (.slice none 0 0)).toArray 45))
    have HGb6 := Lib.hid ((HGb5.out.keeps hb6).alloc (.cells (zC.C (.slice none 0 0)).toArray 45))
    have HLb := Lib.hid (HGb5.out.keeps hb6).lt
    have HLa := Lib.hid (HGa5.out.keeps hb6).lt
    have HV4c := Lib.hid (SlB.keeps HV4b.out hb6)
    have HV5c := Lib.hid (SlB.keeps HV5b.out hb6)
    have HAl := Lib.hid (Blk.new w6 45 (zC.C (.slice none 0 0)))
    have HB7 := Lib.hid (HB6.out.alloc (by have := HB6.out.size; have := HGA.out; omega) (.cells (zC.C (.slice none 0 0)).toArray 45))
    have HTH := Lib.hid (HAl.out.thereMid 0 23 (by decide))
    obtain ⟨ar, pr, rfl, _⟩ := OwI.sl ho6
    have HO6 := Lib.hid ho6
    clear ho6 hb6 HR6 HGa5 HGb5 HV4b HV5b
    go_wp2_with (first | (refine st_cm rfl _ _ rfl w6.heap.size rfl c (.slice ar c.L.length pr) rfl rfl HTH.out ?_) | fail)
    intro w8 hW
    have hbk : Below w6.heap.size w6 w8 := by rw [hW.out]; exact below_setCells _ _ (below_new1 w6 _) (Nat.le_refl _)
    have HB8 : Hid (Below ga w w8) := by show Below _ _ _; rw [hW.out]; exact below_setCells _ _ HB7.out (by have := HLa.out; omega)
    have HGa8 : Hid (Blk w8 ga 45 (c.C (.slice ao c.L.length cap))) := by show Blk _ _ _ _; rw [hW.out]; exact HGa6.out.otherCells _ 0 (by have := HLa.out; omega)
    have HGb8 : Hid (Blk w8 gb 45 (d.C (.slice bo d.L.length dap))) := by show Blk _ _ _ _; rw [hW.out]; exact HGb6.out.otherCells _ 0 (by have := HLb.out; omega)
    have HGr8a : Hid (Blk w8 w6.heap.size 45 (c.C (.slice ar c.L.length pr))) := by show Blk _ _ _ _; rw [hW.out]; exact HAl.out.setAll _ rfl
    have HV4 := Lib.hid (SlB.keeps HV4c.out hbk)
    have HV5 := Lib.hid (SlB.keeps HV5c.out hbk)
    have ho8 := owi_kp HO6.out hbk
    obtain ⟨a9, c9, e9, hs9⟩ := OwI.sl ho8
    obtain ⟨rfl, rfl⟩ : ar = a9 ∧ pr = c9 := by simp only [Value.slice.injEq] at e9; exact ⟨e9.1, e9.2.2⟩
    have HSr8 : Hid (Sl w8 ar c.L.length pr (ic c.L)) := hs9
    have HW8 : Hid (Below w.heap.size w w8) := by show Below _ _ _; rw [HGA.out]; exact HB8.out
    have HSr := Lib.hid (fun U (hu : Below w8.heap.size w8 U) => csame_any U ao cap c (HS.out.keeps (below_on HW8.out HW8.out.size hu)) ar pr c (HSr8.out.keeps hu) true ((same_iff c c).2 rfl) HSL.out)
    obtain ⟨gr, hgr⟩ : ∃ g, w6.heap.size = g := ⟨_, rfl⟩
    rw [hgr] at HGr8a
    have HGr8 := HGr8a
    simp only [hgr]
    clear hW hbk ho8 e9 hs9 HAl HTH HB7 HGa6 HGb6 HV4c HV5c HO6 HLa HLb hgr HGr8a HB6 HB5 HW5
    by_cases hf : fe = 0
    · subst hf
      obtain ⟨hdr, hT2⟩ : d.right = true ∧ T2 = d.enc := by rcases HFE.out with h | h; exact ⟨h.2.1, h.2.2⟩; exact absurd rfl h
      by_cases hcd : c = d
      · subst hcd
        obtain rfl : T2 = T := by rw [hT2, HTq.out]
        have HSd := Lib.hid (fun U (hu : Below w8.heap.size w8 U) => csame_any U ao cap c (HS.out.keeps (below_on HW8.out HW8.out.size hu)) bo dap c (HT.out.keeps (below_on HW8.out HW8.out.size hu)) true ((same_iff c c).2 rfl) HSL.out)
        clear hT2 hdr HFE HW8
        go_wp2
        refine region_mono (by kernel_rfl) (by kernel_rfl) [some 47, some 48, some 49, some 50, some 51, some 52, some 53, some 54, some 55, some 56, some 57, some 58, some 59, some 60, some 61, some 62, some 63, some 64, some 65, some 66, some 67, some 68, some 69] (by kernel_rfl) ga w HB8.out (Nat.le_of_eq HGA.out.symm) (fun i v WW => match i with | 0 => v = .int .i64 0 | 1 => v = .bool false | 2 => v = .bool false | 3 => v = (.agg (c.C (.slice ao c.L.length cap)).toArray) | 4 => v = (.agg (c.C (.slice ar c.L.length pr)).toArray) | 5 => v = .bool true | 6 => v = .bool false | 7 => v = .bool false | 8 => v = .bool false | 9 => v = .int .i64 0 | 10 => v = .bool true | 11 => v = .bool true | 12 => v = v4 | 13 => v = .string (str T2) | 14 => v = v5 | 15 => v = .string (str T2) | 16 => v = .bool true | 17 => v = (.agg (c.C (.slice ao c.L.length cap)).toArray) | 18 => v = (.agg (c.C (.slice bo c.L.length dap)).toArray) | 19 => v = .bool true | 20 => v = .bool false | 21 => v = .bool false | 22 => v = .bool false | _ => True) ?_ ?_ ?_
        · intro i v WW WX h hbx
          rcases i with _ | _ | _ | _ | _ | _ | _ | _ | _ | _ | _ | _ | _ | _ | _ | _ | _ | _ | _ | _ | _ | _ | _ | i
          · exact h
          · exact h
          · exact h
          · exact h
          · exact h
          · exact h
          · exact h
          · exact h
          · exact h
          · exact h
          · exact h
          · exact h
          · exact h
          · exact h
          · exact h
          · exact h
          · exact h
          · exact h
          · exact h
          · exact h
          · exact h
          · exact h
          · exact h
          · trivial
        · intro iI oO V AC WW ho hf hbw K hK
          have hlt : iI < 23 := by have := (Array.getElem?_eq_some_iff.1 ho).1; first | exact this | simpa using this
          rcases iI with _ | _ | _ | _ | _ | _ | _ | _ | _ | _ | _ | _ | _ | _ | _ | _ | _ | _ | _ | _ | _ | _ | _ | iI
          · obtain rfl := Option.some.inj (show some _ = some oO from ho)
            rw [if_pos (by rfl)]
            have q12 : AC.tmps.getD 12 undef = .int .i64 0 := hf.rest 12 (by kernel_rfl)
            go_simp
            exact hK _ _ (Below.refl _ _) rfl
          · obtain rfl := Option.some.inj (show some _ = some oO from ho)
            rw [if_pos (by rfl)]
            have q47 : AC.tmps.getD 47 undef = .int .i64 0 := ((hf.dep ⟨0, .data⟩ (by simp) rfl).2 47 rfl).trans (hf.dep ⟨0, .data⟩ (by simp) rfl).1
            go_simp
            exact hK _ _ (Below.refl _ _) (by simp)
          · obtain rfl := Option.some.inj (show some _ = some oO from ho)
            rw [if_pos (by rfl)]
            have q48 : AC.tmps.getD 48 undef = .bool false := ((hf.dep ⟨1, .data⟩ (by simp) rfl).2 48 rfl).trans (hf.dep ⟨1, .data⟩ (by simp) rfl).1
            go_simp
            exact hK _ _ (Below.refl _ _) rfl
          · obtain rfl := Option.some.inj (show some _ = some oO from ho)
            rw [if_pos (wanted_yes (s := 49) rfl rfl rfl (by rw [hf.size]; simp) (((hf.dep ⟨2, .guard⟩ (by simp) rfl).2 49 rfl).trans (hf.dep ⟨2, .guard⟩ (by simp) rfl).1))]
            have q3 : AC.tmps.getD 3 undef = .pointer (some ⟨ga, 0, none⟩) := hf.rest 3 (by kernel_rfl)
            exact wp_load_mid _ _ rfl ga 0 q3 (c.C (.slice ao c.L.length cap)) _ (HGa8.out.keeps hbw).range Try.underlying45 rfl info_cm (hK _ _ (Below.refl _ _) rfl)
          · obtain rfl := Option.some.inj (show some _ = some oO from ho)
            rw [if_pos (wanted_yes (s := 49) rfl rfl rfl (by rw [hf.size]; simp) (((hf.dep ⟨2, .guard⟩ (by simp) rfl).2 49 rfl).trans (hf.dep ⟨2, .guard⟩ (by simp) rfl).1))]
            have q11 : AC.tmps.getD 11 undef = .pointer (some ⟨gr, 0, none⟩) := hf.rest 11 (by kernel_rfl)
            exact wp_load_mid _ _ rfl gr 0 q11 (c.C (.slice ar c.L.length pr)) _ (HGr8.out.keeps hbw).range Try.underlying45 rfl info_cm (hK _ _ (Below.refl _ _) rfl)
          · obtain rfl := Option.some.inj (show some _ = some oO from ho)
            rw [if_pos (wanted_yes (s := 49) rfl rfl rfl (by rw [hf.size]; simp) (((hf.dep ⟨2, .guard⟩ (by simp) rfl).2 49 rfl).trans (hf.dep ⟨2, .guard⟩ (by simp) rfl).1))]
            have q50 : AC.tmps.getD 50 undef = (.agg (c.C (.slice ao c.L.length cap)).toArray) := ((hf.dep ⟨3, .data⟩ (by simp) rfl).2 50 rfl).trans (hf.dep ⟨3, .data⟩ (by simp) rfl).1
            have q51 : AC.tmps.getD 51 undef = (.agg (c.C (.slice ar c.L.length pr)).toArray) := ((hf.dep ⟨4, .data⟩ (by simp) rfl).2 51 rfl).trans (hf.dep ⟨4, .data⟩ (by simp) rfl).1
            go_simp
            refine (HSr.out WW hbw).mono ?_
            rintro e w9 ⟨rfl, hb9⟩
            exact hK _ _ hb9 rfl
          · obtain rfl := Option.some.inj (show some _ = some oO from ho)
            rw [if_pos (wanted_yes (s := 49) rfl rfl rfl (by rw [hf.size]; simp) (((hf.dep ⟨2, .guard⟩ (by simp) rfl).2 49 rfl).trans (hf.dep ⟨2, .guard⟩ (by simp) rfl).1))]
            have q52 : AC.tmps.getD 52 undef = .bool true := ((hf.dep ⟨5, .data⟩ (by simp) rfl).2 52 rfl).trans (hf.dep ⟨5, .data⟩ (by simp) rfl).1
            go_simp
            exact hK _ _ (Below.refl _ _) (by simp)
          · obtain rfl := Option.some.inj (show some _ = some oO from ho)
            rw [if_pos (by rfl)]
            have q49 : AC.tmps.getD 49 undef = .bool false := ((hf.dep ⟨2, .data⟩ (by simp) rfl).2 49 rfl).trans (hf.dep ⟨2, .data⟩ (by simp) rfl).1
            have q53 : AC.tmps.getD 53 undef = .bool false := ((hf.dep ⟨6, .data⟩ (by simp) rfl).2 53 rfl).trans (hf.dep ⟨6, .data⟩ (by simp) rfl).1
            go_simp
            exact hK _ _ (Below.refl _ _) rfl
          · obtain rfl := Option.some.inj (show some _ = some oO from ho)
            rw [if_pos (by rfl)]
            have q54 : AC.tmps.getD 54 undef = .bool false := ((hf.dep ⟨7, .data⟩ (by simp) rfl).2 54 rfl).trans (hf.dep ⟨7, .data⟩ (by simp) rfl).1
            go_simp
            exact hK _ _ (Below.refl _ _) rfl
          · obtain rfl := Option.some.inj (show some _ = some oO from ho)
            rw [if_pos (wanted_yes (s := 55) rfl rfl rfl (by rw [hf.size]; simp) (((hf.dep ⟨8, .guard⟩ (by simp) rfl).2 55 rfl).trans (hf.dep ⟨8, .guard⟩ (by simp) rfl).1))]
            have q10 : AC.tmps.getD 10 undef = .int .i64 0 := hf.rest 10 (by kernel_rfl)
            go_simp
            exact hK _ _ (Below.refl _ _) rfl
          · obtain rfl := Option.some.inj (show some _ = some oO from ho)
            rw [if_pos (wanted_yes (s := 55) rfl rfl rfl (by rw [hf.size]; simp) (((hf.dep ⟨8, .guard⟩ (by simp) rfl).2 55 rfl).trans (hf.dep ⟨8, .guard⟩ (by simp) rfl).1))]
            have q56 : AC.tmps.getD 56 undef = .int .i64 0 := ((hf.dep ⟨9, .data⟩ (by simp) rfl).2 56 rfl).trans (hf.dep ⟨9, .data⟩ (by simp) rfl).1
            go_simp
            exact hK _ _ (Below.refl _ _) (by simp)
          · obtain rfl := Option.some.inj (show some _ = some oO from ho)
            rw [if_pos (wanted_yes (s := 55) rfl rfl rfl (by rw [hf.size]; simp) (((hf.dep ⟨8, .guard⟩ (by simp) rfl).2 55 rfl).trans (hf.dep ⟨8, .guard⟩ (by simp) rfl).1))]
            have q57 : AC.tmps.getD 57 undef = .bool true := ((hf.dep ⟨10, .data⟩ (by simp) rfl).2 57 rfl).trans (hf.dep ⟨10, .data⟩ (by simp) rfl).1
            go_simp
            exact hK _ _ (Below.refl _ _) rfl
          · obtain rfl := Option.some.inj (show some _ = some oO from ho)
            rw [if_pos (wanted_yes (s := 58) rfl rfl rfl (by rw [hf.size]; simp) (((hf.dep ⟨11, .guard⟩ (by simp) rfl).2 58 rfl).trans (hf.dep ⟨11, .guard⟩ (by simp) rfl).1))]
            have q7 : AC.tmps.getD 7 undef = v4 := hf.rest 7 (by kernel_rfl)
            go_simp
            exact hK _ _ (Below.refl _ _) rfl
          · obtain rfl := Option.some.inj (show some _ = some oO from ho)
            rw [if_pos (wanted_yes (s := 58) rfl rfl rfl (by rw [hf.size]; simp) (((hf.dep ⟨11, .guard⟩ (by simp) rfl).2 58 rfl).trans (hf.dep ⟨11, .guard⟩ (by simp) rfl).1))]
            have q59 : AC.tmps.getD 59 undef = v4 := ((hf.dep ⟨12, .data⟩ (by simp) rfl).2 59 rfl).trans (hf.dep ⟨12, .data⟩ (by simp) rfl).1
            exact to_text_op _ rfl _ q59 _ (SlB.keeps HV4.out hbw) (hK _ _ (Below.refl _ _) rfl)
          · obtain rfl := Option.some.inj (show some _ = some oO from ho)
            rw [if_pos (wanted_yes (s := 58) rfl rfl rfl (by rw [hf.size]; simp) (((hf.dep ⟨11, .guard⟩ (by simp) rfl).2 58 rfl).trans (hf.dep ⟨11, .guard⟩ (by simp) rfl).1))]
            have q9 : AC.tmps.getD 9 undef = v5 := hf.rest 9 (by kernel_rfl)
            go_simp
            exact hK _ _ (Below.refl _ _) rfl
          · obtain rfl := Option.some.inj (show some _ = some oO from ho)
            rw [if_pos (wanted_yes (s := 58) rfl rfl rfl (by rw [hf.size]; simp) (((hf.dep ⟨11, .guard⟩ (by simp) rfl).2 58 rfl).trans (hf.dep ⟨11, .guard⟩ (by simp) rfl).1))]
            have q61 : AC.tmps.getD 61 undef = v5 := ((hf.dep ⟨14, .data⟩ (by simp) rfl).2 61 rfl).trans (hf.dep ⟨14, .data⟩ (by simp) rfl).1
            exact to_text_op _ rfl _ q61 _ (SlB.keeps HV5.out hbw) (hK _ _ (Below.refl _ _) rfl)
          · obtain rfl := Option.some.inj (show some _ = some oO from ho)
            rw [if_pos (wanted_yes (s := 58) rfl rfl rfl (by rw [hf.size]; simp) (((hf.dep ⟨11, .guard⟩ (by simp) rfl).2 58 rfl).trans (hf.dep ⟨11, .guard⟩ (by simp) rfl).1))]
            have q60 : AC.tmps.getD 60 undef = .string (str T2) := ((hf.dep ⟨13, .data⟩ (by simp) rfl).2 60 rfl).trans (hf.dep ⟨13, .data⟩ (by simp) rfl).1
            have q62 : AC.tmps.getD 62 undef = .string (str T2) := ((hf.dep ⟨15, .data⟩ (by simp) rfl).2 62 rfl).trans (hf.dep ⟨15, .data⟩ (by simp) rfl).1
            go_simp
            exact hK _ _ (Below.refl _ _) (by first | rfl | simp | (simp; done))
          · obtain rfl := Option.some.inj (show some _ = some oO from ho)
            rw [if_pos (wanted_yes (s := 58) rfl rfl rfl (by rw [hf.size]; simp) (((hf.dep ⟨11, .guard⟩ (by simp) rfl).2 58 rfl).trans (hf.dep ⟨11, .guard⟩ (by simp) rfl).1))]
            have q3 : AC.tmps.getD 3 undef = .pointer (some ⟨ga, 0, none⟩) := hf.rest 3 (by kernel_rfl)
            exact wp_load_mid _ _ rfl ga 0 q3 (c.C (.slice ao c.L.length cap)) _ (HGa8.out.keeps hbw).range Try.underlying45 rfl info_cm (hK _ _ (Below.refl _ _) rfl)
          · obtain rfl := Option.some.inj (show some _ = some oO from ho)
            rw [if_pos (wanted_yes (s := 58) rfl rfl rfl (by rw [hf.size]; simp) (((hf.dep ⟨11, .guard⟩ (by simp) rfl).2 58 rfl).trans (hf.dep ⟨11, .guard⟩ (by simp) rfl).1))]
            have q4 : AC.tmps.getD 4 undef = .pointer (some ⟨gb, 0, none⟩) := hf.rest 4 (by kernel_rfl)
            exact wp_load_mid _ _ rfl gb 0 q4 (c.C (.slice bo c.L.length dap)) _ (HGb8.out.keeps hbw).range Try.underlying45 rfl info_cm (hK _ _ (Below.refl _ _) rfl)
          · obtain rfl := Option.some.inj (show some _ = some oO from ho)
            rw [if_pos (wanted_yes (s := 58) rfl rfl rfl (by rw [hf.size]; simp) (((hf.dep ⟨11, .guard⟩ (by simp) rfl).2 58 rfl).trans (hf.dep ⟨11, .guard⟩ (by simp) rfl).1))]
            have q64 : AC.tmps.getD 64 undef = (.agg (c.C (.slice ao c.L.length cap)).toArray) := ((hf.dep ⟨17, .data⟩ (by simp) rfl).2 64 rfl).trans (hf.dep ⟨17, .data⟩ (by simp) rfl).1
            have q65 : AC.tmps.getD 65 undef = (.agg (c.C (.slice bo c.L.length dap)).toArray) := ((hf.dep ⟨18, .data⟩ (by simp) rfl).2 65 rfl).trans (hf.dep ⟨18, .data⟩ (by simp) rfl).1
            go_simp
            refine (HSd.out WW hbw).mono ?_
            rintro e w9 ⟨rfl, hb9⟩
            exact hK _ _ hb9 rfl
          · obtain rfl := Option.some.inj (show some _ = some oO from ho)
            rw [if_pos (wanted_yes (s := 58) rfl rfl rfl (by rw [hf.size]; simp) (((hf.dep ⟨11, .guard⟩ (by simp) rfl).2 58 rfl).trans (hf.dep ⟨11, .guard⟩ (by simp) rfl).1))]
            have q63 : AC.tmps.getD 63 undef = .bool true := ((hf.dep ⟨16, .data⟩ (by simp) rfl).2 63 rfl).trans (hf.dep ⟨16, .data⟩ (by simp) rfl).1
            have q66 : AC.tmps.getD 66 undef = .bool true := ((hf.dep ⟨19, .data⟩ (by simp) rfl).2 66 rfl).trans (hf.dep ⟨19, .data⟩ (by simp) rfl).1
            go_simp
            exact hK _ _ (Below.refl _ _) (by simp)
          · obtain rfl := Option.some.inj (show some _ = some oO from ho)
            rw [if_pos (wanted_yes (s := 55) rfl rfl rfl (by rw [hf.size]; simp) (((hf.dep ⟨8, .guard⟩ (by simp) rfl).2 55 rfl).trans (hf.dep ⟨8, .guard⟩ (by simp) rfl).1))]
            have q58 : AC.tmps.getD 58 undef = .bool true := ((hf.dep ⟨11, .data⟩ (by simp) rfl).2 58 rfl).trans (hf.dep ⟨11, .data⟩ (by simp) rfl).1
            have q67 : AC.tmps.getD 67 undef = .bool false := ((hf.dep ⟨20, .data⟩ (by simp) rfl).2 67 rfl).trans (hf.dep ⟨20, .data⟩ (by simp) rfl).1
            go_simp
            exact hK _ _ (Below.refl _ _) rfl
          · obtain rfl := Option.some.inj (show some _ = some oO from ho)
            rw [if_pos (by rfl)]
            have q55 : AC.tmps.getD 55 undef = .bool false := ((hf.dep ⟨8, .data⟩ (by simp) rfl).2 55 rfl).trans (hf.dep ⟨8, .data⟩ (by simp) rfl).1
            have q68 : AC.tmps.getD 68 undef = .bool false := ((hf.dep ⟨21, .data⟩ (by simp) rfl).2 68 rfl).trans (hf.dep ⟨21, .data⟩ (by simp) rfl).1
            go_simp
            exact hK _ _ (Below.refl _ _) rfl
          · omega
        · intro V WW hall hbw hBW
          have vv0 : V 0 = .int .i64 0 := hall 0 (by decide)
          have vv1 : V 1 = .bool false := hall 1 (by decide)
          have vv2 : V 2 = .bool false := hall 2 (by decide)
          have vv3 : V 3 = (.agg (c.C (.slice ao c.L.length cap)).toArray) := hall 3 (by decide)
          have vv4 : V 4 = (.agg (c.C (.slice ar c.L.length pr)).toArray) := hall 4 (by decide)
          have vv5 : V 5 = .bool true := hall 5 (by decide)
          have vv6 : V 6 = .bool false := hall 6 (by decide)
          have vv7 : V 7 = .bool false := hall 7 (by decide)
          have vv8 : V 8 = .bool false := hall 8 (by decide)
          have vv9 : V 9 = .int .i64 0 := hall 9 (by decide)
          have vv10 : V 10 = .bool true := hall 10 (by decide)
          have vv11 : V 11 = .bool true := hall 11 (by decide)
          have vv12 : V 12 = v4 := hall 12 (by decide)
          have vv13 : V 13 = .string (str T2) := hall 13 (by decide)
          have vv14 : V 14 = v5 := hall 14 (by decide)
          have vv15 : V 15 = .string (str T2) := hall 15 (by decide)
          have vv16 : V 16 = .bool true := hall 16 (by decide)
          have vv17 : V 17 = (.agg (c.C (.slice ao c.L.length cap)).toArray) := hall 17 (by decide)
          have vv18 : V 18 = (.agg (c.C (.slice bo c.L.length dap)).toArray) := hall 18 (by decide)
          have vv19 : V 19 = .bool true := hall 19 (by decide)
          have vv20 : V 20 = .bool false := hall 20 (by decide)
          have vv21 : V 21 = .bool false := hall 21 (by decide)
          have vv22 : V 22 = .bool false := hall 22 (by decide)
          clear hall
          simp only [pairsOf, laid, Nat.zero_add, Nat.reduceAdd, vv0, vv1, vv2, vv3, vv4, vv5, vv6, vv7, vv8, vv9, vv10, vv11, vv12, vv13, vv14, vv15, vv16, vv17, vv18, vv19, vv20, vv21, vv22, List.setIfInBounds_toArray, List.set_cons_zero, List.set_cons_succ]
          clear vv0 vv1 vv2 vv3 vv4 vv5 vv6 vv7 vv8 vv9 vv10 vv11 vv12 vv13 vv14 vv15 vv16 vv17 vv18 vv19 vv20 vv21 vv22
          have HW9 := Lib.hid hBW
          clear hbw hBW
          have HM9 := Lib.hid (cread2_any WW (.slice a3 C.length p3) C (SlB.keeps HVc.out (Below.mono HW9.out (Nat.le_of_eq HGA.out))) (by have := HCl.out; omega) _ HMr.out)
          go_wp2_with fail
          refine HM9.out.mono ?_
          rintro e wa ⟨va, rfl, hoa, hba⟩
          have HBa := Lib.hid (below_on HW9.out (by have := HW9.out.size; have := HGA.out; omega) hba)
          have HAl := Lib.hid (Blk.new wa 45 (zC.C (.slice none 0 0)))
          have HBb := Lib.hid (HBa.out.alloc (by have := HBa.out.size; have := HGA.out; omega) (.cells (zC.C (.slice none 0 0)).toArray 45))
          have HTH := Lib.hid (HAl.out.thereMid 0 23 (by decide))
          obtain ⟨av, pv, rfl, _⟩ := OwI.sl hoa
          have HOa := Lib.hid hoa
          have HLE : Hid (ga ≤ wa.heap.size) := by show _ ≤ _; have := HBa.out.size; have := HGA.out; omega
          clear hoa hba HM9
          go_wp2_with (first | (refine st_cm rfl _ _ rfl wa.heap.size rfl m (.slice av m.L.length pv) rfl rfl HTH.out ?_) | fail)
          intro wb hW
          have HBc : Hid (Below ga w wb) := by show Below _ _ _; rw [hW.out]; exact below_setCells _ _ HBb.out HLE.out
          have HAc : Hid (Blk wb wa.heap.size 45 (m.C (.slice av m.L.length pv))) := by show Blk _ _ _ _; rw [hW.out]; exact HAl.out.setAll _ rfl
          have hoc : OwI wb WW.heap.size (.slice av m.L.length pv) m.L := by rw [hW.out]; exact owi_kp HOa.out (below_setCells _ _ (below_new1 wa _) (Nat.le_refl _))
          obtain ⟨a9, c9, e9, hs9⟩ := OwI.sl hoc
          obtain ⟨rfl, rfl⟩ : av = a9 ∧ pv = c9 := by simp only [Value.slice.injEq] at e9; exact ⟨e9.1, e9.2.2⟩
          have HBy := Lib.hid (cbytes_any wb av pv m hs9 HMw.out _ HZ.out)
          clear hW HAl HTH HBb HBa hoc e9 hs9 HOa HLE
          go_wp2_with (first | (refine ld_cm rfl _ rfl wa.heap.size 0 rfl m (.slice av m.L.length pv) HAc.out.range ?_) | fail)
          refine HBy.out.mono ?_
          rintro e wc ⟨vz, rfl, hoz, hbz⟩
          have HBd := Lib.hid (below_on HBc.out (by have := HBc.out.size; have := HGA.out; omega) hbz)
          have hz := hoz.sl
          have HVz : Hid (SlB wc vz Z) := hz
          have HVd := Lib.hid (SlB.keeps HVc.out (Below.mono HBd.out (Nat.le_of_eq HGA.out)))
          clear hoz hbz hz HBy HBc HAc
          by_cases hg : g = 0
          · subst hg
            obtain ⟨rfl, rfl⟩ : Z = C ∧ ze = 0 := HGZ.out rfl
            as_aux_lemma =>
            go_wp2_with (first | (refine to_text (by rfl) _ rfl _ rfl _ HVz.out ?_) | (refine to_text (by rfl) _ rfl _ rfl _ HVd.out ?_) | fail)
            go_ret
            exact ⟨rfl, by rw [HGA.out]; exact HBd.out⟩
          · have qg : (g != 0) = true := by simpa using hg
            as_aux_lemma =>
            go_wp2
            go_ret
            exact ⟨rfl, by rw [HGA.out]; exact HBd.out⟩
      · have hne : T ≠ T2 := fun e => hcd (by
          have h1 := readP_enc HCR.out HW.out
          have h2 := readP_enc hdr HWd.out
          rw [← HTq.out, e] at h1
          rw [← hT2, h1] at h2
          exact (Prod.mk.inj h2).1)
        have hsm : c.same d = false := by rw [Bool.eq_false_iff]; exact fun h => hcd ((same_iff c d).1 h)
        have qq := str_ne hne
        have HSd := Lib.hid (fun U (hu : Below w8.heap.size w8 U) => csame_any U ao cap c (HS.out.keeps (below_on HW8.out HW8.out.size hu)) bo dap d (HT.out.keeps (below_on HW8.out HW8.out.size hu)) false hsm HSL.out)
        clear hT2 hdr HFE HW8 hne hsm hcd
        go_wp2
        refine region_mono (by kernel_rfl) (by kernel_rfl) [some 47, some 48, some 49, some 50, some 51, some 52, some 53, some 54, some 55, some 56, some 57, some 58, some 59, some 60, some 61, some 62, some 63, some 64, some 65, some 66, some 67, some 68, some 69] (by kernel_rfl) ga w HB8.out (Nat.le_of_eq HGA.out.symm) (fun i v WW => match i with | 0 => v = .int .i64 0 | 1 => v = .bool false | 2 => v = .bool false | 3 => v = (.agg (c.C (.slice ao c.L.length cap)).toArray) | 4 => v = (.agg (c.C (.slice ar c.L.length pr)).toArray) | 5 => v = .bool true | 6 => v = .bool false | 7 => v = .bool false | 8 => v = .bool false | 9 => v = .int .i64 0 | 10 => v = .bool true | 11 => v = .bool true | 12 => v = v4 | 13 => v = .string (str T) | 14 => v = v5 | 15 => v = .string (str T2) | 16 => v = .bool false | 17 => v = (.agg (c.C (.slice ao c.L.length cap)).toArray) | 18 => v = (.agg (d.C (.slice bo d.L.length dap)).toArray) | 19 => v = .bool false | 20 => v = .bool false | 21 => v = .bool false | 22 => v = .bool false | _ => True) ?_ ?_ ?_
        · intro i v WW WX h hbx
          rcases i with _ | _ | _ | _ | _ | _ | _ | _ | _ | _ | _ | _ | _ | _ | _ | _ | _ | _ | _ | _ | _ | _ | _ | i
          · exact h
          · exact h
          · exact h
          · exact h
          · exact h
          · exact h
          · exact h
          · exact h
          · exact h
          · exact h
          · exact h
          · exact h
          · exact h
          · exact h
          · exact h
          · exact h
          · exact h
          · exact h
          · exact h
          · exact h
          · exact h
          · exact h
          · exact h
          · trivial
        · intro iI oO V AC WW ho hf hbw K hK
          have hlt : iI < 23 := by have := (Array.getElem?_eq_some_iff.1 ho).1; first | exact this | simpa using this
          rcases iI with _ | _ | _ | _ | _ | _ | _ | _ | _ | _ | _ | _ | _ | _ | _ | _ | _ | _ | _ | _ | _ | _ | _ | iI
          · obtain rfl := Option.some.inj (show some _ = some oO from ho)
            rw [if_pos (by rfl)]
            have q12 : AC.tmps.getD 12 undef = .int .i64 0 := hf.rest 12 (by kernel_rfl)
            go_simp
            exact hK _ _ (Below.refl _ _) rfl
          · obtain rfl := Option.some.inj (show some _ = some oO from ho)
            rw [if_pos (by rfl)]
            have q47 : AC.tmps.getD 47 undef = .int .i64 0 := ((hf.dep ⟨0, .data⟩ (by simp) rfl).2 47 rfl).trans (hf.dep ⟨0, .data⟩ (by simp) rfl).1
            go_simp
            exact hK _ _ (Below.refl _ _) (by simp)
          · obtain rfl := Option.some.inj (show some _ = some oO from ho)
            rw [if_pos (by rfl)]
            have q48 : AC.tmps.getD 48 undef = .bool false := ((hf.dep ⟨1, .data⟩ (by simp) rfl).2 48 rfl).trans (hf.dep ⟨1, .data⟩ (by simp) rfl).1
            go_simp
            exact hK _ _ (Below.refl _ _) rfl
          · obtain rfl := Option.some.inj (show some _ = some oO from ho)
            rw [if_pos (wanted_yes (s := 49) rfl rfl rfl (by rw [hf.size]; simp) (((hf.dep ⟨2, .guard⟩ (by simp) rfl).2 49 rfl).trans (hf.dep ⟨2, .guard⟩ (by simp) rfl).1))]
            have q3 : AC.tmps.getD 3 undef = .pointer (some ⟨ga, 0, none⟩) := hf.rest 3 (by kernel_rfl)
            exact wp_load_mid _ _ rfl ga 0 q3 (c.C (.slice ao c.L.length cap)) _ (HGa8.out.keeps hbw).range Try.underlying45 rfl info_cm (hK _ _ (Below.refl _ _) rfl)
          · obtain rfl := Option.some.inj (show some _ = some oO from ho)
            rw [if_pos (wanted_yes (s := 49) rfl rfl rfl (by rw [hf.size]; simp) (((hf.dep ⟨2, .guard⟩ (by simp) rfl).2 49 rfl).trans (hf.dep ⟨2, .guard⟩ (by simp) rfl).1))]
            have q11 : AC.tmps.getD 11 undef = .pointer (some ⟨gr, 0, none⟩) := hf.rest 11 (by kernel_rfl)
            exact wp_load_mid _ _ rfl gr 0 q11 (c.C (.slice ar c.L.length pr)) _ (HGr8.out.keeps hbw).range Try.underlying45 rfl info_cm (hK _ _ (Below.refl _ _) rfl)
          · obtain rfl := Option.some.inj (show some _ = some oO from ho)
            rw [if_pos (wanted_yes (s := 49) rfl rfl rfl (by rw [hf.size]; simp) (((hf.dep ⟨2, .guard⟩ (by simp) rfl).2 49 rfl).trans (hf.dep ⟨2, .guard⟩ (by simp) rfl).1))]
            have q50 : AC.tmps.getD 50 undef = (.agg (c.C (.slice ao c.L.length cap)).toArray) := ((hf.dep ⟨3, .data⟩ (by simp) rfl).2 50 rfl).trans (hf.dep ⟨3, .data⟩ (by simp) rfl).1
            have q51 : AC.tmps.getD 51 undef = (.agg (c.C (.slice ar c.L.length pr)).toArray) := ((hf.dep ⟨4, .data⟩ (by simp) rfl).2 51 rfl).trans (hf.dep ⟨4, .data⟩ (by simp) rfl).1
            go_simp
            refine (HSr.out WW hbw).mono ?_
            rintro e w9 ⟨rfl, hb9⟩
            exact hK _ _ hb9 rfl
          · obtain rfl := Option.some.inj (show some _ = some oO from ho)
            rw [if_pos (wanted_yes (s := 49) rfl rfl rfl (by rw [hf.size]; simp) (((hf.dep ⟨2, .guard⟩ (by simp) rfl).2 49 rfl).trans (hf.dep ⟨2, .guard⟩ (by simp) rfl).1))]
            have q52 : AC.tmps.getD 52 undef = .bool true := ((hf.dep ⟨5, .data⟩ (by simp) rfl).2 52 rfl).trans (hf.dep ⟨5, .data⟩ (by simp) rfl).1
            go_simp
            exact hK _ _ (Below.refl _ _) (by simp)
          · obtain rfl := Option.some.inj (show some _ = some oO from ho)
            rw [if_pos (by rfl)]
            have q49 : AC.tmps.getD 49 undef = .bool false := ((hf.dep ⟨2, .data⟩ (by simp) rfl).2 49 rfl).trans (hf.dep ⟨2, .data⟩ (by simp) rfl).1
            have q53 : AC.tmps.getD 53 undef = .bool false := ((hf.dep ⟨6, .data⟩ (by simp) rfl).2 53 rfl).trans (hf.dep ⟨6, .data⟩ (by simp) rfl).1
            go_simp
            exact hK _ _ (Below.refl _ _) rfl
          · obtain rfl := Option.some.inj (show some _ = some oO from ho)
            rw [if_pos (by rfl)]
            have q54 : AC.tmps.getD 54 undef = .bool false := ((hf.dep ⟨7, .data⟩ (by simp) rfl).2 54 rfl).trans (hf.dep ⟨7, .data⟩ (by simp) rfl).1
            go_simp
            exact hK _ _ (Below.refl _ _) rfl
          · obtain rfl := Option.some.inj (show some _ = some oO from ho)
            rw [if_pos (wanted_yes (s := 55) rfl rfl rfl (by rw [hf.size]; simp) (((hf.dep ⟨8, .guard⟩ (by simp) rfl).2 55 rfl).trans (hf.dep ⟨8, .guard⟩ (by simp) rfl).1))]
            have q10 : AC.tmps.getD 10 undef = .int .i64 0 := hf.rest 10 (by kernel_rfl)
            go_simp
            exact hK _ _ (Below.refl _ _) rfl
          · obtain rfl := Option.some.inj (show some _ = some oO from ho)
            rw [if_pos (wanted_yes (s := 55) rfl rfl rfl (by rw [hf.size]; simp) (((hf.dep ⟨8, .guard⟩ (by simp) rfl).2 55 rfl).trans (hf.dep ⟨8, .guard⟩ (by simp) rfl).1))]
            have q56 : AC.tmps.getD 56 undef = .int .i64 0 := ((hf.dep ⟨9, .data⟩ (by simp) rfl).2 56 rfl).trans (hf.dep ⟨9, .data⟩ (by simp) rfl).1
            go_simp
            exact hK _ _ (Below.refl _ _) (by simp)
          · obtain rfl := Option.some.inj (show some _ = some oO from ho)
            rw [if_pos (wanted_yes (s := 55) rfl rfl rfl (by rw [hf.size]; simp) (((hf.dep ⟨8, .guard⟩ (by simp) rfl).2 55 rfl).trans (hf.dep ⟨8, .guard⟩ (by simp) rfl).1))]
            have q57 : AC.tmps.getD 57 undef = .bool true := ((hf.dep ⟨10, .data⟩ (by simp) rfl).2 57 rfl).trans (hf.dep ⟨10, .data⟩ (by simp) rfl).1
            go_simp
            exact hK _ _ (Below.refl _ _) rfl
          · obtain rfl := Option.some.inj (show some _ = some oO from ho)
            rw [if_pos (wanted_yes (s := 58) rfl rfl rfl (by rw [hf.size]; simp) (((hf.dep ⟨11, .guard⟩ (by simp) rfl).2 58 rfl).trans (hf.dep ⟨11, .guard⟩ (by simp) rfl).1))]
            have q7 : AC.tmps.getD 7 undef = v4 := hf.rest 7 (by kernel_rfl)
            go_simp
            exact hK _ _ (Below.refl _ _) rfl
          · obtain rfl := Option.some.inj (show some _ = some oO from ho)
            rw [if_pos (wanted_yes (s := 58) rfl rfl rfl (by rw [hf.size]; simp) (((hf.dep ⟨11, .guard⟩ (by simp) rfl).2 58 rfl).trans (hf.dep ⟨11, .guard⟩ (by simp) rfl).1))]
            have q59 : AC.tmps.getD 59 undef = v4 := ((hf.dep ⟨12, .data⟩ (by simp) rfl).2 59 rfl).trans (hf.dep ⟨12, .data⟩ (by simp) rfl).1
            exact to_text_op _ rfl _ q59 _ (SlB.keeps HV4.out hbw) (hK _ _ (Below.refl _ _) rfl)
          · obtain rfl := Option.some.inj (show some _ = some oO from ho)
            rw [if_pos (wanted_yes (s := 58) rfl rfl rfl (by rw [hf.size]; simp) (((hf.dep ⟨11, .guard⟩ (by simp) rfl).2 58 rfl).trans (hf.dep ⟨11, .guard⟩ (by simp) rfl).1))]
            have q9 : AC.tmps.getD 9 undef = v5 := hf.rest 9 (by kernel_rfl)
            go_simp
            exact hK _ _ (Below.refl _ _) rfl
          · obtain rfl := Option.some.inj (show some _ = some oO from ho)
            rw [if_pos (wanted_yes (s := 58) rfl rfl rfl (by rw [hf.size]; simp) (((hf.dep ⟨11, .guard⟩ (by simp) rfl).2 58 rfl).trans (hf.dep ⟨11, .guard⟩ (by simp) rfl).1))]
            have q61 : AC.tmps.getD 61 undef = v5 := ((hf.dep ⟨14, .data⟩ (by simp) rfl).2 61 rfl).trans (hf.dep ⟨14, .data⟩ (by simp) rfl).1
            exact to_text_op _ rfl _ q61 _ (SlB.keeps HV5.out hbw) (hK _ _ (Below.refl _ _) rfl)
          · obtain rfl := Option.some.inj (show some _ = some oO from ho)
            rw [if_pos (wanted_yes (s := 58) rfl rfl rfl (by rw [hf.size]; simp) (((hf.dep ⟨11, .guard⟩ (by simp) rfl).2 58 rfl).trans (hf.dep ⟨11, .guard⟩ (by simp) rfl).1))]
            have q60 : AC.tmps.getD 60 undef = .string (str T) := ((hf.dep ⟨13, .data⟩ (by simp) rfl).2 60 rfl).trans (hf.dep ⟨13, .data⟩ (by simp) rfl).1
            have q62 : AC.tmps.getD 62 undef = .string (str T2) := ((hf.dep ⟨15, .data⟩ (by simp) rfl).2 62 rfl).trans (hf.dep ⟨15, .data⟩ (by simp) rfl).1
            go_simp
            exact hK _ _ (Below.refl _ _) (by first | rfl | simp | (simp; done))
          · obtain rfl := Option.some.inj (show some _ = some oO from ho)
            rw [if_pos (wanted_yes (s := 58) rfl rfl rfl (by rw [hf.size]; simp) (((hf.dep ⟨11, .guard⟩ (by simp) rfl).2 58 rfl).trans (hf.dep ⟨11, .guard⟩ (by simp) rfl).1))]
            have q3 : AC.tmps.getD 3 undef = .pointer (some ⟨ga, 0, none⟩) := hf.rest 3 (by kernel_rfl)
            exact wp_load_mid _ _ rfl ga 0 q3 (c.C (.slice ao c.L.length cap)) _ (HGa8.out.keeps hbw).range Try.underlying45 rfl info_cm (hK _ _ (Below.refl _ _) rfl)
          · obtain rfl := Option.some.inj (show some _ = some oO from ho)
            rw [if_pos (wanted_yes (s := 58) rfl rfl rfl (by rw [hf.size]; simp) (((hf.dep ⟨11, .guard⟩ (by simp) rfl).2 58 rfl).trans (hf.dep ⟨11, .guard⟩ (by simp) rfl).1))]
            have q4 : AC.tmps.getD 4 undef = .pointer (some ⟨gb, 0, none⟩) := hf.rest 4 (by kernel_rfl)
            exact wp_load_mid _ _ rfl gb 0 q4 (d.C (.slice bo d.L.length dap)) _ (HGb8.out.keeps hbw).range Try.underlying45 rfl info_cm (hK _ _ (Below.refl _ _) rfl)
          · obtain rfl := Option.some.inj (show some _ = some oO from ho)
            rw [if_pos (wanted_yes (s := 58) rfl rfl rfl (by rw [hf.size]; simp) (((hf.dep ⟨11, .guard⟩ (by simp) rfl).2 58 rfl).trans (hf.dep ⟨11, .guard⟩ (by simp) rfl).1))]
            have q64 : AC.tmps.getD 64 undef = (.agg (c.C (.slice ao c.L.length cap)).toArray) := ((hf.dep ⟨17, .data⟩ (by simp) rfl).2 64 rfl).trans (hf.dep ⟨17, .data⟩ (by simp) rfl).1
            have q65 : AC.tmps.getD 65 undef = (.agg (d.C (.slice bo d.L.length dap)).toArray) := ((hf.dep ⟨18, .data⟩ (by simp) rfl).2 65 rfl).trans (hf.dep ⟨18, .data⟩ (by simp) rfl).1
            go_simp
            refine (HSd.out WW hbw).mono ?_
            rintro e w9 ⟨rfl, hb9⟩
            exact hK _ _ hb9 rfl
          · obtain rfl := Option.some.inj (show some _ = some oO from ho)
            rw [if_pos (wanted_yes (s := 58) rfl rfl rfl (by rw [hf.size]; simp) (((hf.dep ⟨11, .guard⟩ (by simp) rfl).2 58 rfl).trans (hf.dep ⟨11, .guard⟩ (by simp) rfl).1))]
            have q63 : AC.tmps.getD 63 undef = .bool false := ((hf.dep ⟨16, .data⟩ (by simp) rfl).2 63 rfl).trans (hf.dep ⟨16, .data⟩ (by simp) rfl).1
            have q66 : AC.tmps.getD 66 undef = .bool false := ((hf.dep ⟨19, .data⟩ (by simp) rfl).2 66 rfl).trans (hf.dep ⟨19, .data⟩ (by simp) rfl).1
            go_simp
            exact hK _ _ (Below.refl _ _) (by simp)
          · obtain rfl := Option.some.inj (show some _ = some oO from ho)
            rw [if_pos (wanted_yes (s := 55) rfl rfl rfl (by rw [hf.size]; simp) (((hf.dep ⟨8, .guard⟩ (by simp) rfl).2 55 rfl).trans (hf.dep ⟨8, .guard⟩ (by simp) rfl).1))]
            have q58 : AC.tmps.getD 58 undef = .bool true := ((hf.dep ⟨11, .data⟩ (by simp) rfl).2 58 rfl).trans (hf.dep ⟨11, .data⟩ (by simp) rfl).1
            have q67 : AC.tmps.getD 67 undef = .bool false := ((hf.dep ⟨20, .data⟩ (by simp) rfl).2 67 rfl).trans (hf.dep ⟨20, .data⟩ (by simp) rfl).1
            go_simp
            exact hK _ _ (Below.refl _ _) rfl
          · obtain rfl := Option.some.inj (show some _ = some oO from ho)
            rw [if_pos (by rfl)]
            have q55 : AC.tmps.getD 55 undef = .bool false := ((hf.dep ⟨8, .data⟩ (by simp) rfl).2 55 rfl).trans (hf.dep ⟨8, .data⟩ (by simp) rfl).1
            have q68 : AC.tmps.getD 68 undef = .bool false := ((hf.dep ⟨21, .data⟩ (by simp) rfl).2 68 rfl).trans (hf.dep ⟨21, .data⟩ (by simp) rfl).1
            go_simp
            exact hK _ _ (Below.refl _ _) rfl
          · omega
        · intro V WW hall hbw hBW
          have vv0 : V 0 = .int .i64 0 := hall 0 (by decide)
          have vv1 : V 1 = .bool false := hall 1 (by decide)
          have vv2 : V 2 = .bool false := hall 2 (by decide)
          have vv3 : V 3 = (.agg (c.C (.slice ao c.L.length cap)).toArray) := hall 3 (by decide)
          have vv4 : V 4 = (.agg (c.C (.slice ar c.L.length pr)).toArray) := hall 4 (by decide)
          have vv5 : V 5 = .bool true := hall 5 (by decide)
          have vv6 : V 6 = .bool false := hall 6 (by decide)
          have vv7 : V 7 = .bool false := hall 7 (by decide)
          have vv8 : V 8 = .bool false := hall 8 (by decide)
          have vv9 : V 9 = .int .i64 0 := hall 9 (by decide)
          have vv10 : V 10 = .bool true := hall 10 (by decide)
          have vv11 : V 11 = .bool true := hall 11 (by decide)
          have vv12 : V 12 = v4 := hall 12 (by decide)
          have vv13 : V 13 = .string (str T) := hall 13 (by decide)
          have vv14 : V 14 = v5 := hall 14 (by decide)
          have vv15 : V 15 = .string (str T2) := hall 15 (by decide)
          have vv16 : V 16 = .bool false := hall 16 (by decide)
          have vv17 : V 17 = (.agg (c.C (.slice ao c.L.length cap)).toArray) := hall 17 (by decide)
          have vv18 : V 18 = (.agg (d.C (.slice bo d.L.length dap)).toArray) := hall 18 (by decide)
          have vv19 : V 19 = .bool false := hall 19 (by decide)
          have vv20 : V 20 = .bool false := hall 20 (by decide)
          have vv21 : V 21 = .bool false := hall 21 (by decide)
          have vv22 : V 22 = .bool false := hall 22 (by decide)
          clear hall
          simp only [pairsOf, laid, Nat.zero_add, Nat.reduceAdd, vv0, vv1, vv2, vv3, vv4, vv5, vv6, vv7, vv8, vv9, vv10, vv11, vv12, vv13, vv14, vv15, vv16, vv17, vv18, vv19, vv20, vv21, vv22, List.setIfInBounds_toArray, List.set_cons_zero, List.set_cons_succ]
          clear vv0 vv1 vv2 vv3 vv4 vv5 vv6 vv7 vv8 vv9 vv10 vv11 vv12 vv13 vv14 vv15 vv16 vv17 vv18 vv19 vv20 vv21 vv22
          have HW9 := Lib.hid hBW
          clear hbw hBW
          have HM9 := Lib.hid (cread2_any WW (.slice a3 C.length p3) C (SlB.keeps HVc.out (Below.mono HW9.out (Nat.le_of_eq HGA.out))) (by have := HCl.out; omega) _ HMr.out)
          go_wp2_with fail
          refine HM9.out.mono ?_
          rintro e wa ⟨va, rfl, hoa, hba⟩
          have HBa := Lib.hid (below_on HW9.out (by have := HW9.out.size; have := HGA.out; omega) hba)
          have HAl := Lib.hid (Blk.new wa 45 (zC.C (.slice none 0 0)))
          have HBb := Lib.hid (HBa.out.alloc (by have := HBa.out.size; have := HGA.out; omega) (.cells (zC.C (.slice none 0 0)).toArray 45))
          have HTH := Lib.hid (HAl.out.thereMid 0 23 (by decide))
          obtain ⟨av, pv, rfl, _⟩ := OwI.sl hoa
          have HOa := Lib.hid hoa
          have HLE : Hid (ga ≤ wa.heap.size) := by show _ ≤ _; have := HBa.out.size; have := HGA.out; omega
          clear hoa hba HM9
          go_wp2_with (first | (refine st_cm rfl _ _ rfl wa.heap.size rfl m (.slice av m.L.length pv) rfl rfl HTH.out ?_) | fail)
          intro wb hW
          have HBc : Hid (Below ga w wb) := by show Below _ _ _; rw [hW.out]; exact below_setCells _ _ HBb.out HLE.out
          have HAc : Hid (Blk wb wa.heap.size 45 (m.C (.slice av m.L.length pv))) := by show Blk _ _ _ _; rw [hW.out]; exact HAl.out.setAll _ rfl
          have hoc : OwI wb WW.heap.size (.slice av m.L.length pv) m.L := by rw [hW.out]; exact owi_kp HOa.out (below_setCells _ _ (below_new1 wa _) (Nat.le_refl _))
          obtain ⟨a9, c9, e9, hs9⟩ := OwI.sl hoc
          obtain ⟨rfl, rfl⟩ : av = a9 ∧ pv = c9 := by simp only [Value.slice.injEq] at e9; exact ⟨e9.1, e9.2.2⟩
          have HBy := Lib.hid (cbytes_any wb av pv m hs9 HMw.out _ HZ.out)
          clear hW HAl HTH HBb HBa hoc e9 hs9 HOa HLE
          go_wp2_with (first | (refine ld_cm rfl _ rfl wa.heap.size 0 rfl m (.slice av m.L.length pv) HAc.out.range ?_) | fail)
          refine HBy.out.mono ?_
          rintro e wc ⟨vz, rfl, hoz, hbz⟩
          have HBd := Lib.hid (below_on HBc.out (by have := HBc.out.size; have := HGA.out; omega) hbz)
          have hz := hoz.sl
          have HVz : Hid (SlB wc vz Z) := hz
          have HVd := Lib.hid (SlB.keeps HVc.out (Below.mono HBd.out (Nat.le_of_eq HGA.out)))
          clear hoz hbz hz HBy HBc HAc
          by_cases hg : g = 0
          · subst hg
            obtain ⟨rfl, rfl⟩ : Z = C ∧ ze = 0 := HGZ.out rfl
            as_aux_lemma =>
            go_wp2_with (first | (refine to_text (by rfl) _ rfl _ rfl _ HVz.out ?_) | (refine to_text (by rfl) _ rfl _ rfl _ HVd.out ?_) | fail)
            go_ret
            exact ⟨rfl, by rw [HGA.out]; exact HBd.out⟩
          · have qg : (g != 0) = true := by simpa using hg
            as_aux_lemma =>
            go_wp2
            go_ret
            exact ⟨rfl, by rw [HGA.out]; exact HBd.out⟩
    · have qf : (fe == 0) = false := by simpa using hf
      clear HFE HW8
      go_wp2
      refine region_mono (by kernel_rfl) (by kernel_rfl) [some 47, some 48, some 49, some 50, some 51, some 52, some 53, some 54, some 55, some 56, some 57, some 58, some 59, some 60, some 61, some 62, some 63, some 64, some 65, some 66, some 67, some 68, some 69] (by kernel_rfl) ga w HB8.out (Nat.le_of_eq HGA.out.symm) (fun i v WW => match i with | 0 => v = .int .i64 0 | 1 => v = .bool false | 2 => v = .bool false | 3 => v = (.agg (c.C (.slice ao c.L.length cap)).toArray) | 4 => v = (.agg (c.C (.slice ar c.L.length pr)).toArray) | 5 => v = .bool true | 6 => v = .bool false | 7 => v = .bool false | 8 => v = .bool false | 9 => v = .int .i64 fe | 10 => v = .bool false | 11 => v = .bool false | 12 => v = undef | 13 => v = undef | 14 => v = undef | 15 => v = undef | 16 => v = undef | 17 => v = undef | 18 => v = undef | 19 => v = undef | 20 => v = undef | 21 => v = .bool false | 22 => v = .bool false | _ => True) ?_ ?_ ?_
      · intro i v WW WX h hbx
        rcases i with _ | _ | _ | _ | _ | _ | _ | _ | _ | _ | _ | _ | _ | _ | _ | _ | _ | _ | _ | _ | _ | _ | _ | i
        · exact h
        · exact h
        · exact h
        · exact h
        · exact h
        · exact h
        · exact h
        · exact h
        · exact h
        · exact h
        · exact h
        · exact h
        · exact h
        · exact h
        · exact h
        · exact h
        · exact h
        · exact h
        · exact h
        · exact h
        · exact h
        · exact h
        · exact h
        · trivial
      · intro iI oO V AC WW ho hf hbw K hK
        have hlt : iI < 23 := by have := (Array.getElem?_eq_some_iff.1 ho).1; first | exact this | simpa using this
        rcases iI with _ | _ | _ | _ | _ | _ | _ | _ | _ | _ | _ | _ | _ | _ | _ | _ | _ | _ | _ | _ | _ | _ | _ | iI
        · obtain rfl := Option.some.inj (show some _ = some oO from ho)
          rw [if_pos (by rfl)]
          have q12 : AC.tmps.getD 12 undef = .int .i64 0 := hf.rest 12 (by kernel_rfl)
          go_simp
          exact hK _ _ (Below.refl _ _) rfl
        · obtain rfl := Option.some.inj (show some _ = some oO from ho)
          rw [if_pos (by rfl)]
          have q47 : AC.tmps.getD 47 undef = .int .i64 0 := ((hf.dep ⟨0, .data⟩ (by simp) rfl).2 47 rfl).trans (hf.dep ⟨0, .data⟩ (by simp) rfl).1
          go_simp
          exact hK _ _ (Below.refl _ _) (by simp)
        · obtain rfl := Option.some.inj (show some _ = some oO from ho)
          rw [if_pos (by rfl)]
          have q48 : AC.tmps.getD 48 undef = .bool false := ((hf.dep ⟨1, .data⟩ (by simp) rfl).2 48 rfl).trans (hf.dep ⟨1, .data⟩ (by simp) rfl).1
          go_simp
          exact hK _ _ (Below.refl _ _) rfl
        · obtain rfl := Option.some.inj (show some _ = some oO from ho)
          rw [if_pos (wanted_yes (s := 49) rfl rfl rfl (by rw [hf.size]; simp) (((hf.dep ⟨2, .guard⟩ (by simp) rfl).2 49 rfl).trans (hf.dep ⟨2, .guard⟩ (by simp) rfl).1))]
          have q3 : AC.tmps.getD 3 undef = .pointer (some ⟨ga, 0, none⟩) := hf.rest 3 (by kernel_rfl)
          exact wp_load_mid _ _ rfl ga 0 q3 (c.C (.slice ao c.L.length cap)) _ (HGa8.out.keeps hbw).range Try.underlying45 rfl info_cm (hK _ _ (Below.refl _ _) rfl)
        · obtain rfl := Option.some.inj (show some _ = some oO from ho)
          rw [if_pos (wanted_yes (s := 49) rfl rfl rfl (by rw [hf.size]; simp) (((hf.dep ⟨2, .guard⟩ (by simp) rfl).2 49 rfl).trans (hf.dep ⟨2, .guard⟩ (by simp) rfl).1))]
          have q11 : AC.tmps.getD 11 undef = .pointer (some ⟨gr, 0, none⟩) := hf.rest 11 (by kernel_rfl)
          exact wp_load_mid _ _ rfl gr 0 q11 (c.C (.slice ar c.L.length pr)) _ (HGr8.out.keeps hbw).range Try.underlying45 rfl info_cm (hK _ _ (Below.refl _ _) rfl)
        · obtain rfl := Option.some.inj (show some _ = some oO from ho)
          rw [if_pos (wanted_yes (s := 49) rfl rfl rfl (by rw [hf.size]; simp) (((hf.dep ⟨2, .guard⟩ (by simp) rfl).2 49 rfl).trans (hf.dep ⟨2, .guard⟩ (by simp) rfl).1))]
          have q50 : AC.tmps.getD 50 undef = (.agg (c.C (.slice ao c.L.length cap)).toArray) := ((hf.dep ⟨3, .data⟩ (by simp) rfl).2 50 rfl).trans (hf.dep ⟨3, .data⟩ (by simp) rfl).1
          have q51 : AC.tmps.getD 51 undef = (.agg (c.C (.slice ar c.L.length pr)).toArray) := ((hf.dep ⟨4, .data⟩ (by simp) rfl).2 51 rfl).trans (hf.dep ⟨4, .data⟩ (by simp) rfl).1
          go_simp
          refine (HSr.out WW hbw).mono ?_
          rintro e w9 ⟨rfl, hb9⟩
          exact hK _ _ hb9 rfl
        · obtain rfl := Option.some.inj (show some _ = some oO from ho)
          rw [if_pos (wanted_yes (s := 49) rfl rfl rfl (by rw [hf.size]; simp) (((hf.dep ⟨2, .guard⟩ (by simp) rfl).2 49 rfl).trans (hf.dep ⟨2, .guard⟩ (by simp) rfl).1))]
          have q52 : AC.tmps.getD 52 undef = .bool true := ((hf.dep ⟨5, .data⟩ (by simp) rfl).2 52 rfl).trans (hf.dep ⟨5, .data⟩ (by simp) rfl).1
          go_simp
          exact hK _ _ (Below.refl _ _) (by simp)
        · obtain rfl := Option.some.inj (show some _ = some oO from ho)
          rw [if_pos (by rfl)]
          have q49 : AC.tmps.getD 49 undef = .bool false := ((hf.dep ⟨2, .data⟩ (by simp) rfl).2 49 rfl).trans (hf.dep ⟨2, .data⟩ (by simp) rfl).1
          have q53 : AC.tmps.getD 53 undef = .bool false := ((hf.dep ⟨6, .data⟩ (by simp) rfl).2 53 rfl).trans (hf.dep ⟨6, .data⟩ (by simp) rfl).1
          go_simp
          exact hK _ _ (Below.refl _ _) rfl
        · obtain rfl := Option.some.inj (show some _ = some oO from ho)
          rw [if_pos (by rfl)]
          have q54 : AC.tmps.getD 54 undef = .bool false := ((hf.dep ⟨7, .data⟩ (by simp) rfl).2 54 rfl).trans (hf.dep ⟨7, .data⟩ (by simp) rfl).1
          go_simp
          exact hK _ _ (Below.refl _ _) rfl
        · obtain rfl := Option.some.inj (show some _ = some oO from ho)
          rw [if_pos (wanted_yes (s := 55) rfl rfl rfl (by rw [hf.size]; simp) (((hf.dep ⟨8, .guard⟩ (by simp) rfl).2 55 rfl).trans (hf.dep ⟨8, .guard⟩ (by simp) rfl).1))]
          have q10 : AC.tmps.getD 10 undef = .int .i64 fe := hf.rest 10 (by kernel_rfl)
          go_simp
          exact hK _ _ (Below.refl _ _) rfl
        · obtain rfl := Option.some.inj (show some _ = some oO from ho)
          rw [if_pos (wanted_yes (s := 55) rfl rfl rfl (by rw [hf.size]; simp) (((hf.dep ⟨8, .guard⟩ (by simp) rfl).2 55 rfl).trans (hf.dep ⟨8, .guard⟩ (by simp) rfl).1))]
          have q56 : AC.tmps.getD 56 undef = .int .i64 fe := ((hf.dep ⟨9, .data⟩ (by simp) rfl).2 56 rfl).trans (hf.dep ⟨9, .data⟩ (by simp) rfl).1
          go_simp
          exact hK _ _ (Below.refl _ _) (by simp)
        · obtain rfl := Option.some.inj (show some _ = some oO from ho)
          rw [if_pos (wanted_yes (s := 55) rfl rfl rfl (by rw [hf.size]; simp) (((hf.dep ⟨8, .guard⟩ (by simp) rfl).2 55 rfl).trans (hf.dep ⟨8, .guard⟩ (by simp) rfl).1))]
          have q57 : AC.tmps.getD 57 undef = .bool false := ((hf.dep ⟨10, .data⟩ (by simp) rfl).2 57 rfl).trans (hf.dep ⟨10, .data⟩ (by simp) rfl).1
          go_simp
          exact hK _ _ (Below.refl _ _) rfl
        · obtain rfl := Option.some.inj (show some _ = some oO from ho)
          rw [if_neg (wanted_no (s := 58) rfl rfl rfl (by rw [hf.size]; simp) (((hf.dep ⟨11, .guard⟩ (by simp) rfl).2 58 rfl).trans (hf.dep ⟨11, .guard⟩ (by simp) rfl).1) rfl)]
          exact hK _ _ (Below.refl _ _) rfl
        · obtain rfl := Option.some.inj (show some _ = some oO from ho)
          rw [if_neg (wanted_no (s := 58) rfl rfl rfl (by rw [hf.size]; simp) (((hf.dep ⟨11, .guard⟩ (by simp) rfl).2 58 rfl).trans (hf.dep ⟨11, .guard⟩ (by simp) rfl).1) rfl)]
          exact hK _ _ (Below.refl _ _) rfl
        · obtain rfl := Option.some.inj (show some _ = some oO from ho)
          rw [if_neg (wanted_no (s := 58) rfl rfl rfl (by rw [hf.size]; simp) (((hf.dep ⟨11, .guard⟩ (by simp) rfl).2 58 rfl).trans (hf.dep ⟨11, .guard⟩ (by simp) rfl).1) rfl)]
          exact hK _ _ (Below.refl _ _) rfl
        · obtain rfl := Option.some.inj (show some _ = some oO from ho)
          rw [if_neg (wanted_no (s := 58) rfl rfl rfl (by rw [hf.size]; simp) (((hf.dep ⟨11, .guard⟩ (by simp) rfl).2 58 rfl).trans (hf.dep ⟨11, .guard⟩ (by simp) rfl).1) rfl)]
          exact hK _ _ (Below.refl _ _) rfl
        · obtain rfl := Option.some.inj (show some _ = some oO from ho)
          rw [if_neg (wanted_no (s := 58) rfl rfl rfl (by rw [hf.size]; simp) (((hf.dep ⟨11, .guard⟩ (by simp) rfl).2 58 rfl).trans (hf.dep ⟨11, .guard⟩ (by simp) rfl).1) rfl)]
          exact hK _ _ (Below.refl _ _) rfl
        · obtain rfl := Option.some.inj (show some _ = some oO from ho)
          rw [if_neg (wanted_no (s := 58) rfl rfl rfl (by rw [hf.size]; simp) (((hf.dep ⟨11, .guard⟩ (by simp) rfl).2 58 rfl).trans (hf.dep ⟨11, .guard⟩ (by simp) rfl).1) rfl)]
          exact hK _ _ (Below.refl _ _) rfl
        · obtain rfl := Option.some.inj (show some _ = some oO from ho)
          rw [if_neg (wanted_no (s := 58) rfl rfl rfl (by rw [hf.size]; simp) (((hf.dep ⟨11, .guard⟩ (by simp) rfl).2 58 rfl).trans (hf.dep ⟨11, .guard⟩ (by simp) rfl).1) rfl)]
          exact hK _ _ (Below.refl _ _) rfl
        · obtain rfl := Option.some.inj (show some _ = some oO from ho)
          rw [if_neg (wanted_no (s := 58) rfl rfl rfl (by rw [hf.size]; simp) (((hf.dep ⟨11, .guard⟩ (by simp) rfl).2 58 rfl).trans (hf.dep ⟨11, .guard⟩ (by simp) rfl).1) rfl)]
          exact hK _ _ (Below.refl _ _) rfl
        · obtain rfl := Option.some.inj (show some _ = some oO from ho)
          rw [if_neg (wanted_no (s := 58) rfl rfl rfl (by rw [hf.size]; simp) (((hf.dep ⟨11, .guard⟩ (by simp) rfl).2 58 rfl).trans (hf.dep ⟨11, .guard⟩ (by simp) rfl).1) rfl)]
          exact hK _ _ (Below.refl _ _) rfl
        · obtain rfl := Option.some.inj (show some _ = some oO from ho)
          rw [if_pos (wanted_yes (s := 55) rfl rfl rfl (by rw [hf.size]; simp) (((hf.dep ⟨8, .guard⟩ (by simp) rfl).2 55 rfl).trans (hf.dep ⟨8, .guard⟩ (by simp) rfl).1))]
          have q58 : AC.tmps.getD 58 undef = .bool false := ((hf.dep ⟨11, .data⟩ (by simp) rfl).2 58 rfl).trans (hf.dep ⟨11, .data⟩ (by simp) rfl).1
          have q67 : AC.tmps.getD 67 undef = undef := ((hf.dep ⟨20, .data⟩ (by simp) rfl).2 67 rfl).trans (hf.dep ⟨20, .data⟩ (by simp) rfl).1
          go_simp
          exact hK _ _ (Below.refl _ _) rfl
        · obtain rfl := Option.some.inj (show some _ = some oO from ho)
          rw [if_pos (by rfl)]
          have q55 : AC.tmps.getD 55 undef = .bool false := ((hf.dep ⟨8, .data⟩ (by simp) rfl).2 55 rfl).trans (hf.dep ⟨8, .data⟩ (by simp) rfl).1
          have q68 : AC.tmps.getD 68 undef = .bool false := ((hf.dep ⟨21, .data⟩ (by simp) rfl).2 68 rfl).trans (hf.dep ⟨21, .data⟩ (by simp) rfl).1
          go_simp
          exact hK _ _ (Below.refl _ _) rfl
        · omega
      · intro V WW hall hbw hBW
        have vv0 : V 0 = .int .i64 0 := hall 0 (by decide)
        have vv1 : V 1 = .bool false := hall 1 (by decide)
        have vv2 : V 2 = .bool false := hall 2 (by decide)
        have vv3 : V 3 = (.agg (c.C (.slice ao c.L.length cap)).toArray) := hall 3 (by decide)
        have vv4 : V 4 = (.agg (c.C (.slice ar c.L.length pr)).toArray) := hall 4 (by decide)
        have vv5 : V 5 = .bool true := hall 5 (by decide)
        have vv6 : V 6 = .bool false := hall 6 (by decide)
        have vv7 : V 7 = .bool false := hall 7 (by decide)
        have vv8 : V 8 = .bool false := hall 8 (by decide)
        have vv9 : V 9 = .int .i64 fe := hall 9 (by decide)
        have vv10 : V 10 = .bool false := hall 10 (by decide)
        have vv11 : V 11 = .bool false := hall 11 (by decide)
        have vv12 : V 12 = undef := hall 12 (by decide)
        have vv13 : V 13 = undef := hall 13 (by decide)
        have vv14 : V 14 = undef := hall 14 (by decide)
        have vv15 : V 15 = undef := hall 15 (by decide)
        have vv16 : V 16 = undef := hall 16 (by decide)
        have vv17 : V 17 = undef := hall 17 (by decide)
        have vv18 : V 18 = undef := hall 18 (by decide)
        have vv19 : V 19 = undef := hall 19 (by decide)
        have vv20 : V 20 = undef := hall 20 (by decide)
        have vv21 : V 21 = .bool false := hall 21 (by decide)
        have vv22 : V 22 = .bool false := hall 22 (by decide)
        clear hall
        simp only [pairsOf, laid, Nat.zero_add, Nat.reduceAdd, vv0, vv1, vv2, vv3, vv4, vv5, vv6, vv7, vv8, vv9, vv10, vv11, vv12, vv13, vv14, vv15, vv16, vv17, vv18, vv19, vv20, vv21, vv22, List.setIfInBounds_toArray, List.set_cons_zero, List.set_cons_succ]
        clear vv0 vv1 vv2 vv3 vv4 vv5 vv6 vv7 vv8 vv9 vv10 vv11 vv12 vv13 vv14 vv15 vv16 vv17 vv18 vv19 vv20 vv21 vv22
        have HW9 := Lib.hid hBW
        clear hbw hBW
        have HM9 := Lib.hid (cread2_any WW (.slice a3 C.length p3) C (SlB.keeps HVc.out (Below.mono HW9.out (Nat.le_of_eq HGA.out))) (by have := HCl.out; omega) _ HMr.out)
        go_wp2_with fail
        refine HM9.out.mono ?_
        rintro e wa ⟨va, rfl, hoa, hba⟩
        have HBa := Lib.hid (below_on HW9.out (by have := HW9.out.size; have := HGA.out; omega) hba)
        have HAl := Lib.hid (Blk.new wa 45 (zC.C (.slice none 0 0)))
        have HBb := Lib.hid (HBa.out.alloc (by have := HBa.out.size; have := HGA.out; omega) (.cells (zC.C (.slice none 0 0)).toArray 45))
        have HTH := Lib.hid (HAl.out.thereMid 0 23 (by decide))
        obtain ⟨av, pv, rfl, _⟩ := OwI.sl hoa
        have HOa := Lib.hid hoa
        have HLE : Hid (ga ≤ wa.heap.size) := by show _ ≤ _; have := HBa.out.size; have := HGA.out; omega
        clear hoa hba HM9
        go_wp2_with (first | (refine st_cm rfl _ _ rfl wa.heap.size rfl m (.slice av m.L.length pv) rfl rfl HTH.out ?_) | fail)
        intro wb hW
        have HBc : Hid (Below ga w wb) := by show Below _ _ _; rw [hW.out]; exact below_setCells _ _ HBb.out HLE.out
        have HAc : Hid (Blk wb wa.heap.size 45 (m.C (.slice av m.L.length pv))) := by show Blk _ _ _ _; rw [hW.out]; exact HAl.out.setAll _ rfl
        have hoc : OwI wb WW.heap.size (.slice av m.L.length pv) m.L := by rw [hW.out]; exact owi_kp HOa.out (below_setCells _ _ (below_new1 wa _) (Nat.le_refl _))
        obtain ⟨a9, c9, e9, hs9⟩ := OwI.sl hoc
        obtain ⟨rfl, rfl⟩ : av = a9 ∧ pv = c9 := by simp only [Value.slice.injEq] at e9; exact ⟨e9.1, e9.2.2⟩
        have HBy := Lib.hid (cbytes_any wb av pv m hs9 HMw.out _ HZ.out)
        clear hW HAl HTH HBb HBa hoc e9 hs9 HOa HLE
        go_wp2_with (first | (refine ld_cm rfl _ rfl wa.heap.size 0 rfl m (.slice av m.L.length pv) HAc.out.range ?_) | fail)
        refine HBy.out.mono ?_
        rintro e wc ⟨vz, rfl, hoz, hbz⟩
        have HBd := Lib.hid (below_on HBc.out (by have := HBc.out.size; have := HGA.out; omega) hbz)
        have hz := hoz.sl
        have HVz : Hid (SlB wc vz Z) := hz
        have HVd := Lib.hid (SlB.keeps HVc.out (Below.mono HBd.out (Nat.le_of_eq HGA.out)))
        clear hoz hbz hz HBy HBc HAc
        by_cases hg : g = 0
        · subst hg
          obtain ⟨rfl, rfl⟩ : Z = C ∧ ze = 0 := HGZ.out rfl
          as_aux_lemma =>
          go_wp2_with (first | (refine to_text (by rfl) _ rfl _ rfl _ HVz.out ?_) | (refine to_text (by rfl) _ rfl _ rfl _ HVd.out ?_) | fail)
          go_ret
          exact ⟨rfl, by rw [HGA.out]; exact HBd.out⟩
        · have qg : (g != 0) = true := by simpa using hg
          as_aux_lemma =>
          go_wp2
          go_ret
          exact ⟨rfl, by rw [HGA.out]; exact HBd.out⟩
  · have q0 : (te == 0) = false := by simpa using h0
    clear HTE HFE HV4b HV5b HGa5 HGb5
    as_aux_lemma =>
    have HM9 := Lib.hid (cread2_any w5 (.slice a3 C.length p3) C (SlB.keeps HVc.out (Below.mono HB5.out (Nat.le_of_eq HGA.out))) (by have := HCl.out; omega) _ HMr.out)
    go_wp2_with fail
    refine HM9.out.mono ?_
    rintro e wa ⟨va, rfl, hoa, hba⟩
    have HBa := Lib.hid (below_on HB5.out (by have := HB5.out.size; have := HGA.out; omega) hba)
    have HAl := Lib.hid (Blk.new wa 45 (zC.C (.slice none 0 0)))
    have HBb := Lib.hid (HBa.out.alloc (by have := HBa.out.size; have := HGA.out; omega) (.cells (zC.C (.slice none 0 0)).toArray 45))
    have HTH := Lib.hid (HAl.out.thereMid 0 23 (by decide))
    obtain ⟨av, pv, rfl, _⟩ := OwI.sl hoa
    have HOa := Lib.hid hoa
    have HLE : Hid (ga ≤ wa.heap.size) := by show _ ≤ _; have := HBa.out.size; have := HGA.out; omega
    clear hoa hba HM9
    go_wp2_with (first | (refine st_cm rfl _ _ rfl wa.heap.size rfl m (.slice av m.L.length pv) rfl rfl HTH.out ?_) | fail)
    intro wb hW
    have HBc : Hid (Below ga w wb) := by show Below _ _ _; rw [hW.out]; exact below_setCells _ _ HBb.out HLE.out
    have HAc : Hid (Blk wb wa.heap.size 45 (m.C (.slice av m.L.length pv))) := by show Blk _ _ _ _; rw [hW.out]; exact HAl.out.setAll _ rfl
    have hoc : OwI wb w5.heap.size (.slice av m.L.length pv) m.L := by rw [hW.out]; exact owi_kp HOa.out (below_setCells _ _ (below_new1 wa _) (Nat.le_refl _))
    obtain ⟨a9, c9, e9, hs9⟩ := OwI.sl hoc
    obtain ⟨rfl, rfl⟩ : av = a9 ∧ pv = c9 := by simp only [Value.slice.injEq] at e9; exact ⟨e9.1, e9.2.2⟩
    have HBy := Lib.hid (cbytes_any wb av pv m hs9 HMw.out _ HZ.out)
    clear hW HAl HTH HBb HBa hoc e9 hs9 HOa HLE
    go_wp2_with (first | (refine ld_cm rfl _ rfl wa.heap.size 0 rfl m (.slice av m.L.length pv) HAc.out.range ?_) | fail)
    refine HBy.out.mono ?_
    rintro e wc ⟨vz, rfl, hoz, hbz⟩
    have HBd := Lib.hid (below_on HBc.out (by have := HBc.out.size; have := HGA.out; omega) hbz)
    have hz := hoz.sl
    have HVz : Hid (SlB wc vz Z) := hz
    have HVd := Lib.hid (SlB.keeps HVc.out (Below.mono HBd.out (Nat.le_of_eq HGA.out)))
    clear hoz hbz hz HBy HBc HAc
    by_cases hg : g = 0
    · subst hg
      obtain ⟨rfl, rfl⟩ : Z = C ∧ ze = 0 := HGZ.out rfl
      as_aux_lemma =>
      go_wp2_with (first | (refine to_text (by rfl) _ rfl _ rfl _ HVz.out ?_) | (refine to_text (by rfl) _ rfl _ rfl _ HVd.out ?_) | fail)
      go_ret
      exact ⟨rfl, by rw [HGA.out]; exact HBd.out⟩
    · have qg : (g != 0) = true := by simpa using hg
      as_aux_lemma =>
      go_wp2
      go_ret
      exact ⟨rfl, by rw [HGA.out]; exact HBd.out⟩
theorem cback_row (c : Cm) (ao : Option Addr) (cap : Nat) (hw : c.wf) (d : Cm) (bo : Option Addr) (dap : Nat) (hwd : d.wf) (u : Value) (C : List UInt8) (w : World) (h : Sl w ao c.L.length cap (ic c.L)) (hd : Sl w bo d.L.length dap (ic d.L)) (hc : SlB w u C) :
    Calls Try.prog 8 #[.agg (c.C (.slice ao c.L.length cap)).toArray, .agg (d.C (.slice bo d.L.length dap)).toArray, u] w fun e w' => e = .returned (.bool true) ∧ Below w.heap.size w w' :=
  cback_law w ao cap c h hw bo dap d hd hwd u C hc
end Go.Proofs.Ytdkcccigmejikaa
