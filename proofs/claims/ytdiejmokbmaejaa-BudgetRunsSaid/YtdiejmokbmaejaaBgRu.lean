/-
  The law BudgetRuns.
-/
import Derived.Test.YtdiejmokbmaejaaBgSt
import Derived.Test.YtdiejmokbmaejaaBgG
import Derived.Test.YtdiejmokbmaejaaBgTe
set_option linter.unusedVariables false
set_option linter.unusedSimpArgs false
namespace Go.Proofs.Ytdiejmokbmaejaa
open Go.RowKit Dg

set_option maxRecDepth 8000 in
set_option maxHeartbeats 8000000 in
theorem runs_core (ao : Option Addr) (cap : Nat) (L : List Ln) (co : Option Addr) (cap2 : Nat) (A : List Ac) (w : World) (h : SlL w ao cap L) (hA : SlA w co cap2 A) (hl : L.length ≤ 40) (hl2 : A.length ≤ 40) :
    Calls Try.prog 6 #[.slice ao L.length cap, .slice co A.length cap2] w fun e w' => e = .returned (.bool true) ∧ Below w.heap.size w w' := by
  have HAl := Lib.hid (fun W => balive_any W)
  have H := Lib.hid h; have HAc := Lib.hid hA
  have HLl0 := Lib.hid hl
  have h40 : ¬ (40 : Int) < L.length := by omega
  have h41 : ¬ (40 : Int) < A.length := by omega
  clear h hA
  go_enter Try.func6, Try.ntmps6
  go_wp2_with fail
  refine (HAl.out _).mono ?_
  rintro e w1 ⟨rfl, hb1⟩
  have HB2 := Lib.hid (hb1.alloc hb1.size (.cells #[] 33))
  have HS2 := Lib.hid (H.out.keeps HB2.out)
  have HO2 := Lib.hid (ownL_empty w1)
  have HBy := Lib.hid hb1.size
  clear hb1
  go_wp2_with (first | (refine ap_ln rfl _ _ rfl w1.heap.size _ rfl [] ?_ _ cap L rfl ?_ ?_ ?_ ?_) | fail)
  · exact HO2.out
  · exact HS2.out
  · simp; omega
  · simp
  intro v3 w3 h1 h2 h3
  try rw [List.nil_append] at h1
  have HB3 := Lib.hid (below_grown HO2.out h2 HBy.out (Nat.le_refl _) HB2.out)
  obtain ⟨a3, c3, rfl, hs3⟩ := OwL.sl h1
  have HS3 := Lib.hid hs3
  clear h1 h2 h3 hs3 HO2 HS2 HB2 HBy
  go_wp2
  go_loopw [5, 30] (fun l i wr => ∃ (k : Nat) (L : List Ln) (a : Option Addr) (c : Nat), k ≤ A.length ∧ i = .int .i64 k ∧ l = .slice a L.length c ∧ Hid (SlL wr a c L) ∧ Hid (L.length ≤ 40) ∧ Below w.heap.size w wr) (fun _ i _ => A.length - (intOf i).toNat)
  case atStart => exact ⟨0, L, a3, c3, by omega, rfl, rfl, HS3.out, HLl0.out, HB3.out⟩
  case round =>
    clear HS3 HLl0 h40 hl H
    obtain ⟨k, L, a, c, hk, rfl, rfl, HSL, HLl, hb⟩ := hrel
    by_cases hkl : k < A.length
    · obtain ⟨⟨kd, at_, to_, am, bm⟩, ht⟩ : ∃ t, A[k]? = some t := ⟨_, List.getElem?_eq_getElem hkl⟩
      have HT := Lib.hid ht
      have hwA := HAc.out.keeps hb
      have hb2 := hb.alloc hb.size (.cells #[.int .i64 kd, .int .i64 at_, .int .i64 to_, .int .i64 am, .int .i64 bm] 48)
      have HBx := Lib.hid (hb2.alloc hb2.size (.cells #[] 33))
      have HGx := Lib.hid ((Blk.new wr 48 [.int .i64 kd, .int .i64 at_, .int .i64 to_, .int .i64 am, .int .i64 bm]).alloc (.cells #[] 33))
      have HSx := Lib.hid (HSL.out.keeps (below_new2 wr (.cells #[.int .i64 kd, .int .i64 at_, .int .i64 to_, .int .i64 am, .int .i64 bm] 48) (.cells #[] 33)))
      have ho := ownL_empty (wr.alloc (.cells #[.int .i64 kd, .int .i64 at_, .int .i64 to_, .int .i64 am, .int .i64 bm] 48))
      rw [show (wr.alloc (.cells #[.int .i64 kd, .int .i64 at_, .int .i64 to_, .int .i64 am, .int .i64 bm] 48)).heap.size = wr.heap.size + 1 from by simp] at ho
      have HOx := Lib.hid ho
      have HWs := Lib.hid hb.size
      have HNW := Lib.hid (below_new2 wr (.cells #[.int .i64 kd, .int .i64 at_, .int .i64 to_, .int .i64 am, .int .i64 bm] 48) (.cells #[] 33))
      clear ht hb hb2 ho
      go_wp2_with (first | (refine ix_ac rfl _ _ rfl co cap2 A hwA rfl k _ HT.out rfl ?_; intro bb off k0 k1 k2 k3 k4) | (refine ap_ln rfl _ _ rfl (wr.heap.size + 1) _ rfl [] ?_ _ c L rfl ?_ ?_ ?_ ?_) | fail)
      · exact HOx.out
      · exact HSx.out
      · have := HLl.out; first | omega | (simp; omega)
      intro v7 w7 h1 h2 h3
      try rw [List.nil_append] at h1
      have HB7 := Lib.hid (below_grown HOx.out h2 (Nat.le_succ_of_le HWs.out) (Nat.le_refl _) HBx.out)
      have HG7 := Lib.hid (HGx.out.grownN h2 (fun e => by have := (World.ownsRow.lt HOx.out _ e).1; omega))
      have HSL7 : Hid (SlL w7 a c L) := HSL.out.keeps (below_grown HOx.out h2 (Nat.le_succ _) (Nat.le_refl _) HNW.out)
      obtain ⟨a7, c7, rfl, ho7⟩ := OwL.sl h1
      have HO7 := Lib.hid ho7
      have hG := HG7.out
      have e0 := hG.cell 0 _ rfl; have e1 := hG.cell 1 _ rfl; have e2 := hG.cell 2 _ rfl; have e3 := hG.cell 3 _ rfl; have e4 := hG.cell 4 _ rfl
      clear h1 h2 h3 ho7 hG k0 k1 k2 k3 k4 hwA HBx HGx HSx HOx HWs HNW HSL
      by_cases d0 : kd = 0
      · subst d0
        obtain ⟨q, hq⟩ : ∃ q, moveS L at_ to_ am = q := ⟨_, rfl⟩
        have HOp := Lib.hid (bmove_any w7 a7 c7 L HO7.out at_ to_ am q hq)
        have HRp := Lib.hid (fun U (hu : Below w7.heap.size w7 U) => rmove_any U a c L (HSL7.out.keeps hu) (by have := HLl.out; omega) at_ to_ am q hq)
        have HKl : Hid (q.1.length ≤ 40) := by
          show _ ≤ _
          obtain ⟨K, er⟩ := q
          by_cases e : er = 0
          · subst e
            have := (move_back hq).2.2.2.2
            have h2 := HLl.out
            show K.length ≤ 40
            omega
          · have h3 := moveS_nil (by rw [hq]; exact e)
            rw [hq] at h3
            rw [h3]; exact Nat.zero_le _
        obtain ⟨K, er⟩ := q
        replace HKl : Hid (K.length ≤ 40) := HKl
        clear hq
        go_wp2_with fail
        refine HOp.out.mono ?_
        rintro e w8 ⟨v8, rfl, ho8, hb8⟩
        have HB8 := Lib.hid (below_on HB7.out HB7.out.size hb8)
        have HSL8 := Lib.hid (HSL7.out.keeps hb8)
        have HO8 := Lib.hid (HO7.out.keeps hb8)
        have HG8 := HG7.out.keeps hb8
        have e0 := HG8.cell 0 _ rfl; have e1 := HG8.cell 1 _ rfl; have e2 := HG8.cell 2 _ rfl; have e3 := HG8.cell 3 _ rfl; have e4 := HG8.cell 4 _ rfl
        obtain ⟨a8, c8, rfl, hs8⟩ := OwL.sl ho8
        have HN8 : Hid (SlL w8 a8 c8 K) := hs8
        have HRp8 := Lib.hid (HRp.out w8 hb8)
        clear ho8 hs8 hb8 HOp HRp HG8
        go_wp2_with fail
        refine HRp8.out.mono ?_
        rintro e w9 ⟨v9, rfl, ho9, hb9⟩
        have HB9 := Lib.hid (below_on HB8.out HB8.out.size hb9)
        have HSL9 := Lib.hid (HSL8.out.keeps hb9)
        have HO9 := Lib.hid (HO8.out.keeps hb9)
        have HN9 := Lib.hid (HN8.out.keeps hb9)
        obtain ⟨a9, c9, rfl, hs9⟩ := OwL.sl ho9
        have HW9 : Hid (SlL w9 a9 c9 K) := hs9
        clear ho9 hs9 hb9 HRp8 e0 e1 e2 e3 e4 HSL8 HO8 HN8 HB8 HB7 HSL7 HO7
        have HSm := Lib.hid (bsame_any w9 a8 c8 K a9 c9 K HN9.out HW9.out true (by simp) (by have := HKl.out; omega))
        go_wp2_with fail
        refine HSm.out.mono ?_
        rintro e w10 ⟨rfl, hb10⟩
        have HB10 := Lib.hid (below_on HB9.out HB9.out.size hb10)
        have HW10 := Lib.hid (HW9.out.keeps hb10)
        have HSL10 := Lib.hid (HSL9.out.keeps hb10)
        have HSm2 := Lib.hid (bsame_any w10 a7 c7 L a c L (HO9.out.keeps hb10) HSL10.out true (by simp) (by have := HLl.out; omega))
        clear hb10 HSm HN9 HW9 HSL9 HO9 HB9
        go_wp2_with fail
        refine HSm2.out.mono ?_
        rintro e w11 ⟨rfl, hb11⟩
        have HB11 := Lib.hid (below_on HB10.out HB10.out.size hb11)
        have HW11 := Lib.hid (HW10.out.keeps hb11)
        have HSL11 := Lib.hid (HSL10.out.keeps hb11)
        clear hb11 HSm2 HW10 HSL10 HB10
        by_cases he : er = 0
        · subst he
          go_wp2
          go_roundw
          · exact ⟨k + 1, K, a9, c9, by omega, by go_num, rfl, HW11.out, HKl.out, HB11.out⟩
          · simp [intOf]; omega
        · go_wp2
          go_roundw
          · exact ⟨k + 1, L, a, c, by omega, by go_num, rfl, HSL11.out, HLl.out, HB11.out⟩
          · simp [intOf]; omega
      · by_cases d1 : kd = 1
        · subst d1
          clear d0
          obtain ⟨q, hq⟩ : ∃ q, cutS L at_ am = q := ⟨_, rfl⟩
          have HOp := Lib.hid (bcut_any w7 a7 c7 L HO7.out at_ am q hq)
          have HRp := Lib.hid (fun U (hu : Below w7.heap.size w7 U) => rcut_any U a c L (HSL7.out.keeps hu) (by have := HLl.out; omega) at_ am q hq)
          have HKl : Hid (q.1.length ≤ 40) := by
            show _ ≤ _
            obtain ⟨K, er⟩ := q
            by_cases e : er = 0
            · subst e
              have := (cut_keeps hq).2.1
              have h2 := HLl.out
              show K.length ≤ 40
              omega
            · have h3 := cutS_nil (by rw [hq]; exact e)
              rw [hq] at h3
              rw [h3]; exact Nat.zero_le _
          obtain ⟨K, er⟩ := q
          replace HKl : Hid (K.length ≤ 40) := HKl
          clear hq
          go_wp2_with fail
          refine HOp.out.mono ?_
          rintro e w8 ⟨v8, rfl, ho8, hb8⟩
          have HB8 := Lib.hid (below_on HB7.out HB7.out.size hb8)
          have HSL8 := Lib.hid (HSL7.out.keeps hb8)
          have HO8 := Lib.hid (HO7.out.keeps hb8)
          have HG8 := HG7.out.keeps hb8
          have e0 := HG8.cell 0 _ rfl; have e1 := HG8.cell 1 _ rfl; have e2 := HG8.cell 2 _ rfl; have e3 := HG8.cell 3 _ rfl; have e4 := HG8.cell 4 _ rfl
          obtain ⟨a8, c8, rfl, hs8⟩ := OwL.sl ho8
          have HN8 : Hid (SlL w8 a8 c8 K) := hs8
          have HRp8 := Lib.hid (HRp.out w8 hb8)
          clear ho8 hs8 hb8 HOp HRp HG8
          go_wp2_with fail
          refine HRp8.out.mono ?_
          rintro e w9 ⟨v9, rfl, ho9, hb9⟩
          have HB9 := Lib.hid (below_on HB8.out HB8.out.size hb9)
          have HSL9 := Lib.hid (HSL8.out.keeps hb9)
          have HO9 := Lib.hid (HO8.out.keeps hb9)
          have HN9 := Lib.hid (HN8.out.keeps hb9)
          obtain ⟨a9, c9, rfl, hs9⟩ := OwL.sl ho9
          have HW9 : Hid (SlL w9 a9 c9 K) := hs9
          clear ho9 hs9 hb9 HRp8 e0 e1 e2 e3 e4 HSL8 HO8 HN8 HB8 HB7 HSL7 HO7
          have HSm := Lib.hid (bsame_any w9 a8 c8 K a9 c9 K HN9.out HW9.out true (by simp) (by have := HKl.out; omega))
          go_wp2_with fail
          refine HSm.out.mono ?_
          rintro e w10 ⟨rfl, hb10⟩
          have HB10 := Lib.hid (below_on HB9.out HB9.out.size hb10)
          have HW10 := Lib.hid (HW9.out.keeps hb10)
          have HSL10 := Lib.hid (HSL9.out.keeps hb10)
          have HSm2 := Lib.hid (bsame_any w10 a7 c7 L a c L (HO9.out.keeps hb10) HSL10.out true (by simp) (by have := HLl.out; omega))
          clear hb10 HSm HN9 HW9 HSL9 HO9 HB9
          go_wp2_with fail
          refine HSm2.out.mono ?_
          rintro e w11 ⟨rfl, hb11⟩
          have HB11 := Lib.hid (below_on HB10.out HB10.out.size hb11)
          have HW11 := Lib.hid (HW10.out.keeps hb11)
          have HSL11 := Lib.hid (HSL10.out.keeps hb11)
          clear hb11 HSm2 HW10 HSL10 HB10
          by_cases he : er = 0
          · subst he
            go_wp2
            go_roundw
            · exact ⟨k + 1, K, a9, c9, by omega, by go_num, rfl, HW11.out, HKl.out, HB11.out⟩
            · simp [intOf]; omega
          · go_wp2
            go_roundw
            · exact ⟨k + 1, L, a, c, by omega, by go_num, rfl, HSL11.out, HLl.out, HB11.out⟩
            · simp [intOf]; omega
        · by_cases d2 : kd = 2
          · subst d2
            clear d0 d1
            obtain ⟨q, hq⟩ : ∃ q, inspS L at_ am = q := ⟨_, rfl⟩
            have HOp := Lib.hid (binsp_any w7 a7 c7 L HO7.out at_ am q hq)
            have HRp := Lib.hid (fun U (hu : Below w7.heap.size w7 U) => rinsp_any U a c L (HSL7.out.keeps hu) (by have := HLl.out; omega) at_ am q hq)
            have HKl : Hid (q.1.length ≤ 40) := by
              show _ ≤ _
              obtain ⟨K, er⟩ := q
              by_cases e : er = 0
              · subst e
                have := (insp_keeps hq).2.1
                have h2 := HLl.out
                show K.length ≤ 40
                omega
              · have h3 := inspS_nil (by rw [hq]; exact e)
                rw [hq] at h3
                rw [h3]; exact Nat.zero_le _
            obtain ⟨K, er⟩ := q
            replace HKl : Hid (K.length ≤ 40) := HKl
            clear hq
            go_wp2_with fail
            refine HOp.out.mono ?_
            rintro e w8 ⟨v8, rfl, ho8, hb8⟩
            have HB8 := Lib.hid (below_on HB7.out HB7.out.size hb8)
            have HSL8 := Lib.hid (HSL7.out.keeps hb8)
            have HO8 := Lib.hid (HO7.out.keeps hb8)
            have HG8 := HG7.out.keeps hb8
            have e0 := HG8.cell 0 _ rfl; have e1 := HG8.cell 1 _ rfl; have e2 := HG8.cell 2 _ rfl; have e3 := HG8.cell 3 _ rfl; have e4 := HG8.cell 4 _ rfl
            obtain ⟨a8, c8, rfl, hs8⟩ := OwL.sl ho8
            have HN8 : Hid (SlL w8 a8 c8 K) := hs8
            have HRp8 := Lib.hid (HRp.out w8 hb8)
            clear ho8 hs8 hb8 HOp HRp HG8
            go_wp2_with fail
            refine HRp8.out.mono ?_
            rintro e w9 ⟨v9, rfl, ho9, hb9⟩
            have HB9 := Lib.hid (below_on HB8.out HB8.out.size hb9)
            have HSL9 := Lib.hid (HSL8.out.keeps hb9)
            have HO9 := Lib.hid (HO8.out.keeps hb9)
            have HN9 := Lib.hid (HN8.out.keeps hb9)
            obtain ⟨a9, c9, rfl, hs9⟩ := OwL.sl ho9
            have HW9 : Hid (SlL w9 a9 c9 K) := hs9
            clear ho9 hs9 hb9 HRp8 e0 e1 e2 e3 e4 HSL8 HO8 HN8 HB8 HB7 HSL7 HO7
            have HSm := Lib.hid (bsame_any w9 a8 c8 K a9 c9 K HN9.out HW9.out true (by simp) (by have := HKl.out; omega))
            go_wp2_with fail
            refine HSm.out.mono ?_
            rintro e w10 ⟨rfl, hb10⟩
            have HB10 := Lib.hid (below_on HB9.out HB9.out.size hb10)
            have HW10 := Lib.hid (HW9.out.keeps hb10)
            have HSL10 := Lib.hid (HSL9.out.keeps hb10)
            have HSm2 := Lib.hid (bsame_any w10 a7 c7 L a c L (HO9.out.keeps hb10) HSL10.out true (by simp) (by have := HLl.out; omega))
            clear hb10 HSm HN9 HW9 HSL9 HO9 HB9
            go_wp2_with fail
            refine HSm2.out.mono ?_
            rintro e w11 ⟨rfl, hb11⟩
            have HB11 := Lib.hid (below_on HB10.out HB10.out.size hb11)
            have HW11 := Lib.hid (HW10.out.keeps hb11)
            have HSL11 := Lib.hid (HSL10.out.keeps hb11)
            clear hb11 HSm2 HW10 HSL10 HB10
            by_cases he : er = 0
            · subst he
              go_wp2
              go_roundw
              · exact ⟨k + 1, K, a9, c9, by omega, by go_num, rfl, HW11.out, HKl.out, HB11.out⟩
              · simp [intOf]; omega
            · go_wp2
              go_roundw
              · exact ⟨k + 1, L, a, c, by omega, by go_num, rfl, HSL11.out, HLl.out, HB11.out⟩
              · simp [intOf]; omega
          · by_cases d3 : kd = 3
            · subst d3
              clear d0 d1 d2
              obtain ⟨q, hq⟩ : ∃ q, payS L at_ am bm = q := ⟨_, rfl⟩
              have HOp := Lib.hid (bpay_any w7 a7 c7 L HO7.out at_ am bm q hq)
              have HRp := Lib.hid (fun U (hu : Below w7.heap.size w7 U) => rpay_any U a c L (HSL7.out.keeps hu) (by have := HLl.out; omega) at_ am bm q hq)
              have HKl : Hid (q.1.length ≤ 40) := by
                show _ ≤ _
                obtain ⟨K, er⟩ := q
                by_cases e : er = 0
                · subst e
                  have := (pay_keeps hq).2.1
                  have h2 := HLl.out
                  show K.length ≤ 40
                  omega
                · have h3 := payS_nil (by rw [hq]; exact e)
                  rw [hq] at h3
                  rw [h3]; exact Nat.zero_le _
              obtain ⟨K, er⟩ := q
              replace HKl : Hid (K.length ≤ 40) := HKl
              clear hq
              go_wp2_with fail
              refine HOp.out.mono ?_
              rintro e w8 ⟨v8, rfl, ho8, hb8⟩
              have HB8 := Lib.hid (below_on HB7.out HB7.out.size hb8)
              have HSL8 := Lib.hid (HSL7.out.keeps hb8)
              have HO8 := Lib.hid (HO7.out.keeps hb8)
              have HG8 := HG7.out.keeps hb8
              have e0 := HG8.cell 0 _ rfl; have e1 := HG8.cell 1 _ rfl; have e2 := HG8.cell 2 _ rfl; have e3 := HG8.cell 3 _ rfl; have e4 := HG8.cell 4 _ rfl
              obtain ⟨a8, c8, rfl, hs8⟩ := OwL.sl ho8
              have HN8 : Hid (SlL w8 a8 c8 K) := hs8
              have HRp8 := Lib.hid (HRp.out w8 hb8)
              clear ho8 hs8 hb8 HOp HRp HG8
              go_wp2_with fail
              refine HRp8.out.mono ?_
              rintro e w9 ⟨v9, rfl, ho9, hb9⟩
              have HB9 := Lib.hid (below_on HB8.out HB8.out.size hb9)
              have HSL9 := Lib.hid (HSL8.out.keeps hb9)
              have HO9 := Lib.hid (HO8.out.keeps hb9)
              have HN9 := Lib.hid (HN8.out.keeps hb9)
              obtain ⟨a9, c9, rfl, hs9⟩ := OwL.sl ho9
              have HW9 : Hid (SlL w9 a9 c9 K) := hs9
              clear ho9 hs9 hb9 HRp8 e0 e1 e2 e3 e4 HSL8 HO8 HN8 HB8 HB7 HSL7 HO7
              have HSm := Lib.hid (bsame_any w9 a8 c8 K a9 c9 K HN9.out HW9.out true (by simp) (by have := HKl.out; omega))
              go_wp2_with fail
              refine HSm.out.mono ?_
              rintro e w10 ⟨rfl, hb10⟩
              have HB10 := Lib.hid (below_on HB9.out HB9.out.size hb10)
              have HW10 := Lib.hid (HW9.out.keeps hb10)
              have HSL10 := Lib.hid (HSL9.out.keeps hb10)
              have HSm2 := Lib.hid (bsame_any w10 a7 c7 L a c L (HO9.out.keeps hb10) HSL10.out true (by simp) (by have := HLl.out; omega))
              clear hb10 HSm HN9 HW9 HSL9 HO9 HB9
              go_wp2_with fail
              refine HSm2.out.mono ?_
              rintro e w11 ⟨rfl, hb11⟩
              have HB11 := Lib.hid (below_on HB10.out HB10.out.size hb11)
              have HW11 := Lib.hid (HW10.out.keeps hb11)
              have HSL11 := Lib.hid (HSL10.out.keeps hb11)
              clear hb11 HSm2 HW10 HSL10 HB10
              by_cases he : er = 0
              · subst he
                go_wp2
                go_roundw
                · exact ⟨k + 1, K, a9, c9, by omega, by go_num, rfl, HW11.out, HKl.out, HB11.out⟩
                · simp [intOf]; omega
              · go_wp2
                go_roundw
                · exact ⟨k + 1, L, a, c, by omega, by go_num, rfl, HSL11.out, HLl.out, HB11.out⟩
                · simp [intOf]; omega
            · by_cases d4 : kd = 4
              · subst d4
                clear d0 d1 d2 d3
                obtain ⟨q, hq⟩ : ∃ q, relS L at_ = q := ⟨_, rfl⟩
                have HOp := Lib.hid (brel_any w7 a7 c7 L HO7.out at_ q hq)
                have HRp := Lib.hid (fun U (hu : Below w7.heap.size w7 U) => rrel_any U a c L (HSL7.out.keeps hu) (by have := HLl.out; omega) at_ q hq)
                have HKl : Hid (q.1.length ≤ 40) := by
                  show _ ≤ _
                  obtain ⟨K, hd, er⟩ := q
                  by_cases e : er = 0
                  · subst e
                    have := (rel_keeps hq).2.1
                    have h2 := HLl.out
                    show K.length ≤ 40
                    omega
                  · have h3 := relS_nil (by rw [hq]; exact e)
                    rw [hq] at h3
                    rw [h3]; exact Nat.zero_le _
                obtain ⟨K, hd, er⟩ := q
                replace HKl : Hid (K.length ≤ 40) := HKl
                clear hq
                go_wp2_with fail
                refine HOp.out.mono ?_
                rintro e w8 ⟨v8, rfl, ho8, hb8⟩
                have HB8 := Lib.hid (below_on HB7.out HB7.out.size hb8)
                have HSL8 := Lib.hid (HSL7.out.keeps hb8)
                have HO8 := Lib.hid (HO7.out.keeps hb8)
                have HG8 := HG7.out.keeps hb8
                have e0 := HG8.cell 0 _ rfl; have e1 := HG8.cell 1 _ rfl; have e2 := HG8.cell 2 _ rfl; have e3 := HG8.cell 3 _ rfl; have e4 := HG8.cell 4 _ rfl
                obtain ⟨a8, c8, rfl, hs8⟩ := OwL.sl ho8
                have HN8 : Hid (SlL w8 a8 c8 K) := hs8
                have HRp8 := Lib.hid (HRp.out w8 hb8)
                clear ho8 hs8 hb8 HOp HRp HG8
                go_wp2_with fail
                refine HRp8.out.mono ?_
                rintro e w9 ⟨v9, rfl, ho9, hb9⟩
                have HB9 := Lib.hid (below_on HB8.out HB8.out.size hb9)
                have HSL9 := Lib.hid (HSL8.out.keeps hb9)
                have HO9 := Lib.hid (HO8.out.keeps hb9)
                have HN9 := Lib.hid (HN8.out.keeps hb9)
                obtain ⟨a9, c9, rfl, hs9⟩ := OwL.sl ho9
                have HW9 : Hid (SlL w9 a9 c9 K) := hs9
                clear ho9 hs9 hb9 HRp8 e0 e1 e2 e3 e4 HSL8 HO8 HN8 HB8 HB7 HSL7 HO7
                have HSm := Lib.hid (bsame_any w9 a8 c8 K a9 c9 K HN9.out HW9.out true (by simp) (by have := HKl.out; omega))
                go_wp2_with fail
                refine HSm.out.mono ?_
                rintro e w10 ⟨rfl, hb10⟩
                have HB10 := Lib.hid (below_on HB9.out HB9.out.size hb10)
                have HW10 := Lib.hid (HW9.out.keeps hb10)
                have HSL10 := Lib.hid (HSL9.out.keeps hb10)
                have HSm2 := Lib.hid (bsame_any w10 a7 c7 L a c L (HO9.out.keeps hb10) HSL10.out true (by simp) (by have := HLl.out; omega))
                clear hb10 HSm HN9 HW9 HSL9 HO9 HB9
                go_wp2_with fail
                refine HSm2.out.mono ?_
                rintro e w11 ⟨rfl, hb11⟩
                have HB11 := Lib.hid (below_on HB10.out HB10.out.size hb11)
                have HW11 := Lib.hid (HW10.out.keeps hb11)
                have HSL11 := Lib.hid (HSL10.out.keeps hb11)
                clear hb11 HSm2 HW10 HSL10 HB10
                by_cases he : er = 0
                · subst he
                  go_wp2
                  go_roundw
                  · exact ⟨k + 1, K, a9, c9, by omega, by go_num, rfl, HW11.out, HKl.out, HB11.out⟩
                  · simp [intOf]; omega
                · go_wp2
                  go_roundw
                  · exact ⟨k + 1, L, a, c, by omega, by go_num, rfl, HSL11.out, HLl.out, HB11.out⟩
                  · simp [intOf]; omega
              · skip
                have HKl := HLl
                have HB9 := HB7; have HSL9 := HSL7; have HO9 := HO7; have HN9 := HO7; have HW9 := HSL7
                have HSm := Lib.hid (bsame_any w7 a7 c7 L a c L HN9.out HW9.out true (by simp) (by have := HKl.out; omega))
                go_wp2_with fail
                refine HSm.out.mono ?_
                rintro e w10 ⟨rfl, hb10⟩
                have HB10 := Lib.hid (below_on HB9.out HB9.out.size hb10)
                have HW10 := Lib.hid (HW9.out.keeps hb10)
                have HSL10 := Lib.hid (HSL9.out.keeps hb10)
                have HSm2 := Lib.hid (bsame_any w10 a7 c7 L a c L (HO9.out.keeps hb10) HSL10.out true (by simp) (by have := HLl.out; omega))
                clear hb10 HSm HN9 HW9 HSL9 HO9 HB9
                go_wp2_with fail
                refine HSm2.out.mono ?_
                rintro e w11 ⟨rfl, hb11⟩
                have HB11 := Lib.hid (below_on HB10.out HB10.out.size hb11)
                have HW11 := Lib.hid (HW10.out.keeps hb11)
                have HSL11 := Lib.hid (HSL10.out.keeps hb11)
                clear hb11 HSm2 HW10 HSL10 HB10
                go_wp2
                go_roundw
                · exact ⟨k + 1, L, a, c, by omega, by go_num, rfl, HSL11.out, HLl.out, HB11.out⟩
                · simp [intOf]; omega
    · obtain rfl : k = A.length := by omega
      go_wp2
      go_ret
      exact ⟨rfl, hb⟩
set_option maxRecDepth 8000 in
theorem budgetRuns_law (ao : Option Addr) (cap : Nat) (L : List Ln) (co : Option Addr) (cap2 : Nat) (A : List Ac) (w : World) (h : SlL w ao cap L) (hA : SlA w co cap2 A) :
    Calls Try.prog 6 #[.slice ao L.length cap, .slice co A.length cap2] w fun e w' => e = .returned (.bool true) ∧ Below w.heap.size w w' := by
  by_cases hl : L.length ≤ 40
  · by_cases hl2 : A.length ≤ 40
    · exact runs_core ao cap L co cap2 A w h hA hl hl2
    · have HAl := Lib.hid (fun W => balive_any W)
      have h40 : ¬ (40 : Int) < L.length := by omega
      have h41 : (40 : Int) < A.length := by omega
      clear h hA hl hl2
      go_enter Try.func6, Try.ntmps6
      go_wp2_with fail
      refine (HAl.out _).mono ?_
      rintro e w1 ⟨rfl, hb1⟩
      go_wp2
      go_ret
      exact ⟨rfl, hb1⟩
  · have HAl := Lib.hid (fun W => balive_any W)
    have h40 : (40 : Int) < L.length := by omega
    clear h hA hl
    go_enter Try.func6, Try.ntmps6
    go_wp2_with fail
    refine (HAl.out _).mono ?_
    rintro e w1 ⟨rfl, hb1⟩
    go_wp2
    go_ret
    exact ⟨rfl, hb1⟩
end Go.Proofs.Ytdiejmokbmaejaa
