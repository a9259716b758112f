/-
  The law DrawRuns.
-/
import Derived.Test.YtikfclioplploaaDwG
import Derived.Test.YtikfclioplploaaDwF
import Derived.Test.YtikfclioplploaaBgPl
import Derived.Test.YtikfclioplploaaBgG
set_option linter.unusedVariables false
set_option linter.unusedSimpArgs false
namespace Go.Proofs.Ytikfclioplploaa
open Go.RowKit Dg

/-- What is done: kind, place, place, an amount. -/
abbrev Aw := Int × Int × Int × Int
def awc (t : Aw) : List Value := [.int .i64 t.1, .int .i64 t.2.1, .int .i64 t.2.2.1, .int .i64 t.2.2.2]
theorem awc_len (t : Aw) : (awc t).length = 4 := rfl
abbrev SlAw (w : World) (ao : Option Addr) (cap : Nat) (L : List Aw) : Prop := Rk w 4 ao L.length cap (rc awc L)
theorem info_aw : (Try.prog.info? 38).map (fun i => (i.zero, i.size, i.bytes)) = some (some (.agg #[.int .i64 0, .int .i64 0, .int .i64 0, .int .i64 0]), 4, 32) := by kernel_rfl
theorem size_aw (w : World) : (sizeOf 38).run Try.prog w = .ok 4 w := by
  obtain ⟨i, hi, _, hs, _⟩ := info_parts info_aw
  simp [sizeOf, typeInfo, hi, hs]
section
variable {ops : Array Oper} {rest : List Oper} {o : Oper} {a : Act} {w : World} {Q : Exit → Act → World → Prop}
theorem ix_aw (hw : Region.wanted o (yielded ops a.tmps) = true) (s x : Operand) (ho : o.op = .indexAddr 35 s x) (ao : Option Addr) (cap : Nat) (L : List Aw) (hc : SlAw w ao cap L) (hs : a.eval s = .slice ao L.length cap) (k : Nat) (t : Aw) (ht : L[k]? = some t) (hx : a.eval x = .int .i64 k)
    (h : ∀ b off, w.cell? ⟨b, off, none⟩ = some (.int .i64 t.1) → w.cell? ⟨b, off + 1, none⟩ = some (.int .i64 t.2.1) → w.cell? ⟨b, off + 2, none⟩ = some (.int .i64 t.2.2.1) → w.cell? ⟨b, off + 3, none⟩ = some (.int .i64 t.2.2.2) → wpList Try.prog ops Q rest (a.put o.dst (.pointer (some ⟨b, off, none⟩))) w) : wpList Try.prog ops Q (o :: rest) a w := by
  refine wpList_ix_rec hw 35 38 s x ho Try.underlying35 4 (by decide) size_aw ao L.length cap hs (rc awc L) hc k (List.getElem?_eq_some_iff.1 ht).1 hx fun b off _ hcell => ?_
  have g : ∀ j u, (awc t)[j]? = some u → w.cell? ⟨b, off + k * 4 + j, none⟩ = some u := fun j u hu => by
    have := hcell _ _ (rc_at awc_len ht j u hu)
    rw [← Nat.add_assoc] at this; exact this
  exact h b (off + k * 4) (g 0 _ rfl) (g 1 _ rfl) (g 2 _ rfl) (g 3 _ rfl)
end
theorem Blk.grownQ {w w' : World} {b T : Nat} {C : List Value} {ob : Option Nat} (h : Blk w b T C) (hg : w.grownBy w' ob) (hne : ¬ ob = some b) : Blk w' b T C := by
  refine ⟨?_⟩
  have := hg.block b h.lt (fun e => hne e.symm)
  rw [this]; exact h.at_
theorem ask_len (D : List Dw) (L : List Ln) (k a : Int) : (askS D L k a).1.length ≤ 100 := by
  unfold askS
  split
  · split
    · split
      · rw [List.length_append]; simp; omega
      · simp
    · simp
  · simp
theorem appr_len (D : List Dw) (L : List Ln) (n : Int) : (apprS D L n).1.length ≤ 100 := by
  unfold apprS
  split
  · rename_i h
    have h1 := (rightW_true (find_ok h).1).1
    split
    · split
      · simp
      · simp; omega
    · simp
  · simp
theorem ref_len (D : List Dw) (n : Int) : (refS D n).1.length ≤ 100 := by
  unfold refS
  split
  · rename_i h
    have h1 := (rightW_true (find_ok h).1).1
    simp; omega
  · simp
theorem fund_len (D : List Dw) (L : List Ln) (n r : Int) : (fundS D L n r).1.length ≤ 100 := by
  unfold fundS
  split
  · rename_i h
    have h1 := (rightW_true (find_ok h).1).1
    split
    · split
      · simp; omega
      · simp
    · simp
  · simp
theorem fund_len2 (D : List Dw) (L : List Ln) (n r : Int) : (fundS D L n r).2.1.length ≤ 40 := by
  unfold fundS
  split
  · split
    · split
      · rename_i h
        obtain ⟨y, hy⟩ : ∃ y, payS L (atW D n).1 (stripS (atW D n).2.1 r).2.1 (stripS (atW D n).2.1 r).1 = y := ⟨_, rfl⟩
        rw [hy] at h ⊢
        obtain ⟨Kd, er⟩ := y
        obtain rfl : er = 0 := h
        have := (rightL_true (pay_keeps hy).1).2.1
        show Kd.length ≤ 40
        omega
      · simp
    · simp
  · simp
set_option maxRecDepth 8000 in
set_option maxHeartbeats 16000000 in
theorem druns_core (ao : Option Addr) (cap : Nat) (D : List Dw) (bo : Option Addr) (bcap : Nat) (L : List Ln) (co : Option Addr) (cap2 : Nat) (A : List Aw) (w : World) (h : SlW w ao cap D) (hL : SlL w bo bcap L) (hA : SlAw w co cap2 A) (hl : D.length ≤ 100) (hl1 : L.length ≤ 40) (hl2 : A.length ≤ 40) :
    Calls Try.prog 4 #[.slice ao D.length cap, .slice bo L.length bcap, .slice co A.length cap2] w fun e w' => e = .returned (.bool true) ∧ Below w.heap.size w w' := by
  have HAl := Lib.hid (fun W => dalive_any W)
  have H := Lib.hid h; have HLc := Lib.hid hL; have HAc := Lib.hid hA
  have HDl0 := Lib.hid hl; have HLl0 := Lib.hid hl1
  have h40 : ¬ (100 : Int) < D.length := by omega
  have h41 : ¬ (40 : Int) < L.length := by omega
  have h42 : ¬ (40 : Int) < A.length := by omega
  clear h hL hA
  go_enter Try.func4, Try.ntmps4
  go_wp2_with fail
  refine (HAl.out _).mono ?_
  rintro e w1 ⟨rfl, hb1⟩
  have HB2 := Lib.hid (hb1.alloc hb1.size (.cells #[] 33))
  have HS2 := Lib.hid (H.out.keeps HB2.out)
  have HO2 := Lib.hid (ownW_empty w1)
  have HBy := Lib.hid hb1.size
  clear hb1 HAl
  go_wp2_with (first | (refine ap_dw rfl _ _ rfl w1.heap.size _ rfl [] ?_ _ cap D rfl ?_ ?_ ?_ ?_) | fail)
  · exact HO2.out
  · exact HS2.out
  · simp; omega
  · simp
  intro v3 w3 h1 h2 h3
  try rw [List.nil_append] at h1
  have HB3 := Lib.hid (below_grown HO2.out h2 HBy.out (Nat.le_refl _) HB2.out)
  obtain ⟨a3, c3, rfl, hs3⟩ := OwW.sl h1
  have HB4 := Lib.hid (HB3.out.alloc HB3.out.size (.cells #[] 23))
  have HS4 := Lib.hid (HLc.out.keeps HB4.out)
  have HO4 := Lib.hid (ownL_empty w3)
  have HBz := Lib.hid HB3.out.size
  have HD4 := Lib.hid hs3
  clear h1 h2 h3 hs3 HO2 HS2 HB2 HBy HB3
  go_wp2_with (first | (refine ap_ln rfl _ _ rfl w3.heap.size _ rfl [] ?_ _ bcap L rfl ?_ ?_ ?_ ?_) | fail)
  · exact HO4.out
  · exact HS4.out
  · simp; omega
  · simp
  intro v5 w5 h1 h2 h3
  try rw [List.nil_append] at h1
  have HB5 := Lib.hid (below_grown HO4.out h2 HBz.out (Nat.le_refl _) HB4.out)
  have HD5 : Hid (SlW w5 a3 c3 D) := HD4.out.keeps (below_grown HO4.out h2 (Nat.le_refl _) (Nat.le_refl _) (below_new1 w3 (.cells #[] 23)))
  obtain ⟨b5, d5, rfl, hs5⟩ := OwL.sl h1
  have HL5 := Lib.hid hs5
  clear h1 h2 h3 hs5 HO4 HS4 HB4 HBz HD4
  obtain ⟨r, hr⟩ : ∃ r, rightW D = r := ⟨_, rfl⟩
  have HR1 := Lib.hid (dright_any w5 a3 c3 D HD5.out r hr)
  have HR2 := Lib.hid (fun U (hu : Below w5.heap.size w5 U) => drright_any U a3 c3 D (HD5.out.keeps hu) r hr (by omega))
  clear hr
  go_wp2_with fail
  refine HR1.out.mono ?_
  rintro e w6 ⟨rfl, hb6⟩
  have HR3 := Lib.hid (HR2.out w6 hb6)
  have HB6 := Lib.hid (below_on HB5.out HB5.out.size hb6)
  have HD6 := Lib.hid (HD5.out.keeps hb6)
  have HL6 := Lib.hid (HL5.out.keeps hb6)
  clear hb6 HR1 HR2 HB5 HD5 HL5
  go_wp2_with fail
  refine HR3.out.mono ?_
  rintro e w7 ⟨rfl, hb7⟩
  have HB7 := Lib.hid (below_on HB6.out HB6.out.size hb7)
  have HD7 := Lib.hid (HD6.out.keeps hb7)
  have HL7 := Lib.hid (HL6.out.keeps hb7)
  clear hb7 HR3 HB6 HD6 HL6
  have hrr : (r != r) = false := by simp
  go_wp2
  clear hrr
  go_loopw [7, 8, 60] (fun u v i wr => ∃ (k : Nat) (D : List Dw) (a : Option Addr) (c : Nat) (L : List Ln) (b : Option Addr) (d : Nat), k ≤ A.length ∧ i = .int .i64 k ∧ u = .slice a D.length c ∧ v = .slice b L.length d ∧ Hid (SlW wr a c D) ∧ Hid (D.length ≤ 100) ∧ Hid (SlL wr b d L) ∧ Hid (L.length ≤ 40) ∧ Below w.heap.size w wr) (fun _ _ i _ => A.length - (intOf i).toNat)
  case atStart => exact ⟨0, D, a3, c3, L, b5, d5, by omega, rfl, rfl, rfl, HD7.out, HDl0.out, HL7.out, HLl0.out, HB7.out⟩
  case round =>
    clear HD7 HL7 HB7 HDl0 HLl0 h40 h41 hl hl1 H HLc
    obtain ⟨k, D, a, c, L, b, d, hk, rfl, rfl, rfl, HSW, HDl, HSL, HLl, hb⟩ := hrel
    by_cases hkl : k < A.length
    · obtain ⟨⟨kd, at_, to_, am⟩, ht⟩ : ∃ t, A[k]? = some t := ⟨_, List.getElem?_eq_getElem hkl⟩
      have HT := Lib.hid ht
      have hwA := HAc.out.keeps hb
      have hb2 := hb.alloc hb.size (.cells #[.int .i64 kd, .int .i64 at_, .int .i64 to_, .int .i64 am] 38)
      have HBx := Lib.hid (hb2.alloc hb2.size (.cells #[] 33))
      have HGx := Lib.hid ((Blk.new wr 38 [.int .i64 kd, .int .i64 at_, .int .i64 to_, .int .i64 am]).alloc (.cells #[] 33))
      have HSx := Lib.hid (HSW.out.keeps (below_new2 wr (.cells #[.int .i64 kd, .int .i64 at_, .int .i64 to_, .int .i64 am] 38) (.cells #[] 33)))
      have ho := ownW_empty (wr.alloc (.cells #[.int .i64 kd, .int .i64 at_, .int .i64 to_, .int .i64 am] 38))
      rw [show (wr.alloc (.cells #[.int .i64 kd, .int .i64 at_, .int .i64 to_, .int .i64 am] 38)).heap.size = wr.heap.size + 1 from by simp] at ho
      have HOx := Lib.hid ho
      have HWs := Lib.hid hb.size
      have HNW := Lib.hid (below_new2 wr (.cells #[.int .i64 kd, .int .i64 at_, .int .i64 to_, .int .i64 am] 38) (.cells #[] 33))
      have hDl := HDl.out; have hLl := HLl.out
      clear ht hb hb2 ho
      go_wp2_with (first | (refine ix_aw rfl _ _ rfl co cap2 A hwA rfl k _ HT.out rfl ?_; intro bb off k0 k1 k2 k3) | (refine ap_dw rfl _ _ rfl (wr.heap.size + 1) _ rfl [] ?_ _ c D rfl ?_ ?_ ?_ ?_) | fail)
      · exact HOx.out
      · exact HSx.out
      · first | omega | (simp; omega)
      intro v7 w7 h1 h2 h3
      try rw [List.nil_append] at h1
      have HB7 := Lib.hid (below_grown HOx.out h2 (Nat.le_succ_of_le HWs.out) (Nat.le_refl _) HBx.out)
      have HG7 := Lib.hid (HGx.out.grownQ h2 (fun e => by have := (World.ownsRow.lt HOx.out _ e).1; omega))
      have hnw := below_grown HOx.out h2 (Nat.le_succ _) (Nat.le_refl _) HNW.out
      have HSW7 : Hid (SlW w7 a c D) := HSW.out.keeps hnw
      have HSL7 : Hid (SlL w7 b d L) := HSL.out.keeps hnw
      obtain ⟨a7, c7, rfl, ho7⟩ := OwW.sl h1
      have HOW7 : Hid (SlW w7 a7 c7 D) := ho7
      have HBy := Lib.hid (HB7.out.alloc HB7.out.size (.cells #[] 23))
      have HSy := Lib.hid (HSL7.out.keeps (below_new1 w7 (.cells #[] 23)))
      have HOy := Lib.hid (ownL_empty w7)
      have HW7 := Lib.hid HB7.out.size
      clear h1 h2 h3 ho7 hnw k0 k1 k2 k3 hwA HBx HGx HSx HOx HWs HNW HSL HSW
      go_wp2_with (first | (refine ap_ln rfl _ _ rfl w7.heap.size _ rfl [] ?_ _ d L rfl ?_ ?_ ?_ ?_) | fail)
      · exact HOy.out
      · exact HSy.out
      · first | omega | (simp; omega)
      · simp
      intro v8 w8 h1 h2 h3
      try rw [List.nil_append] at h1
      have HB8 := Lib.hid (below_grown HOy.out h2 HW7.out (Nat.le_refl _) HBy.out)
      have hnw := below_grown HOy.out h2 (Nat.le_refl _) (Nat.le_refl _) (below_new1 w7 (.cells #[] 23))
      have HG8 := Lib.hid (HG7.out.keeps hnw)
      have HSW8 := Lib.hid (HSW7.out.keeps hnw)
      have HSL8 := Lib.hid (HSL7.out.keeps hnw)
      have HOW8 := Lib.hid (HOW7.out.keeps hnw)
      obtain ⟨b8, d8, rfl, ho8⟩ := OwL.sl h1
      have HOL8 : Hid (SlL w8 b8 d8 L) := ho8
      obtain ⟨gx, hgx⟩ : ∃ g, wr.heap.size = g := ⟨_, rfl⟩
      rw [hgx] at HG8
      simp only [hgx]
      have hG := HG8.out
      have e0 := hG.cell 0 _ rfl; have e1 := hG.cell 1 _ rfl; have e2 := hG.cell 2 _ rfl; have e3 := hG.cell 3 _ rfl
      clear hG
      clear h1 h2 h3 ho8 hnw hgx HB7 HG7 HSW7 HSL7 HOW7 HBy HSy HOy HW7 hDl hLl
      by_cases d0 : kd = 0
      · subst d0
        as_aux_lemma =>
          obtain ⟨q, hq⟩ : ∃ q, askS D L at_ am = q := ⟨_, rfl⟩
          have HOp := Lib.hid (dask_any w8 a7 c7 D HOW8.out (by have := HDl.out; omega) b8 d8 L HOL8.out at_ am q hq)
          have HRp := Lib.hid (fun U (hu : Below w8.heap.size w8 U) => drask_any U a c D (HSW8.out.keeps hu) (by have := HDl.out; omega) b d L (HSL8.out.keeps hu) (by have := HLl.out; omega) at_ am q hq)
          have HKl : Hid (q.1.length ≤ 100) := by
            show _ ≤ _
            rw [← hq]; exact ask_len _ _ _ _
          obtain ⟨Kd, no, er⟩ := q
          replace HKl : Hid (Kd.length ≤ 100) := HKl
          clear hq
          go_wp2_with fail
          refine HOp.out.mono ?_
          rintro e w9 ⟨v9, rfl, ho9, hb9⟩
          have HB9 := Lib.hid (below_on HB8.out HB8.out.size hb9)
          have HG9 := Lib.hid (HG8.out.keeps hb9)
          have HSW9 := Lib.hid (HSW8.out.keeps hb9)
          have HSL9 := Lib.hid (HSL8.out.keeps hb9)
          have HOW9 := Lib.hid (HOW8.out.keeps hb9)
          have HOL9 := Lib.hid (HOL8.out.keeps hb9)
          have hG := HG9.out
          have e0 := hG.cell 0 _ rfl; have e1 := hG.cell 1 _ rfl; have e2 := hG.cell 2 _ rfl; have e3 := hG.cell 3 _ rfl
          clear hG
          obtain ⟨a9, c9, rfl, hs9⟩ := OwW.sl ho9
          have HN9 : Hid (SlW w9 a9 c9 Kd) := hs9
          have HRp9 := Lib.hid (HRp.out w9 hb9)
          clear ho9 hs9 hb9 HOp HRp HG8 HB8 HSW8 HSL8 HOW8 HOL8
          go_wp2_with fail
          refine HRp9.out.mono ?_
          rintro e w10 ⟨v10, rfl, ho10, hb10⟩
          have HB10 := Lib.hid (below_on HB9.out HB9.out.size hb10)
          have HG10 := Lib.hid (HG9.out.keeps hb10)
          have HSW10 := Lib.hid (HSW9.out.keeps hb10)
          have HSL10 := Lib.hid (HSL9.out.keeps hb10)
          have HOW10 := Lib.hid (HOW9.out.keeps hb10)
          have HOL10 := Lib.hid (HOL9.out.keeps hb10)
          have HN10 := Lib.hid (HN9.out.keeps hb10)
          obtain ⟨a10, c10, rfl, hs10⟩ := OwW.sl ho10
          have HW10 : Hid (SlW w10 a10 c10 Kd) := hs10
          have HM10 := HSL10
          have HMl := HLl
          clear ho10 hs10 hb10 HRp9 e0 e1 e2 e3 HG9 HB9 HSW9 HSL9 HOW9 HOL9 HN9
          have HSm := Lib.hid (dsame_any w10 a9 c9 Kd a10 c10 Kd HN10.out HW10.out true (by simp) (by have := HKl.out; omega))
          go_wp2_with fail
          refine HSm.out.mono ?_
          rintro e w11 ⟨rfl, hb11⟩
          have HB11 := Lib.hid (below_on HB10.out HB10.out.size hb11)
          have HG11 := Lib.hid (HG10.out.keeps hb11)
          have HW11 := Lib.hid (HW10.out.keeps hb11)
          have HOW11 := Lib.hid (HOW10.out.keeps hb11)
          have HSW11 := Lib.hid (HSW10.out.keeps hb11)
          have HOL11 := Lib.hid (HOL10.out.keeps hb11)
          have HSL11 := Lib.hid (HSL10.out.keeps hb11)
          have HM11 := Lib.hid (HM10.out.keeps hb11)
          clear hb11 HSm HB10 HG10 HSW10 HW10 HM10 HOW10 HSL10 HOL10 HN10
          have HSm := Lib.hid (dsame_any w11 a7 c7 D a c D HOW11.out HSW11.out true (by simp) (by have := HDl.out; omega))
          go_wp2_with fail
          refine HSm.out.mono ?_
          rintro e w12 ⟨rfl, hb12⟩
          have HB12 := Lib.hid (below_on HB11.out HB11.out.size hb12)
          have HG12 := Lib.hid (HG11.out.keeps hb12)
          have HW12 := Lib.hid (HW11.out.keeps hb12)
          have HSW12 := Lib.hid (HSW11.out.keeps hb12)
          have HOL12 := Lib.hid (HOL11.out.keeps hb12)
          have HSL12 := Lib.hid (HSL11.out.keeps hb12)
          have HM12 := Lib.hid (HM11.out.keeps hb12)
          clear hb12 HSm HB11 HG11 HSW11 HW11 HM11 HOW11 HSL11 HOL11
          have HSm := Lib.hid (bsame_any w12 b8 d8 L b d L HOL12.out HSL12.out true (by simp) (by have := HLl.out; omega))
          go_wp2_with fail
          refine HSm.out.mono ?_
          rintro e w13 ⟨rfl, hb13⟩
          have HB13 := Lib.hid (below_on HB12.out HB12.out.size hb13)
          have HG13 := Lib.hid (HG12.out.keeps hb13)
          have HW13 := Lib.hid (HW12.out.keeps hb13)
          have HSW13 := Lib.hid (HSW12.out.keeps hb13)
          have HSL13 := Lib.hid (HSL12.out.keeps hb13)
          have HM13 := Lib.hid (HM12.out.keeps hb13)
          clear hb13 HSm HB12 HG12 HSW12 HW12 HM12 HSL12 HOL12
          by_cases he : er = 0
          · subst he
            as_aux_lemma =>
              obtain ⟨r, hr⟩ : ∃ r, rightW Kd = r := ⟨_, rfl⟩
              have HRt := Lib.hid (fun U (hu : Below w13.heap.size w13 U) => drright_any U a10 c10 Kd (HW13.out.keeps hu) r hr (by have := HKl.out; omega))
              obtain ⟨pd, hpd⟩ : ∃ q, pendS at_ Kd = q := ⟨_, rfl⟩
              have HP1 := Lib.hid (fun (e : r = true) U (hu : Below w13.heap.size w13 U) => dpend_any U a10 c10 Kd (HW13.out.keeps hu) (hr.trans e) at_ pd hpd)
              have HP2 := Lib.hid (fun (e : r = true) U (hu : Below w13.heap.size w13 U) => drpend_any U a10 c10 Kd (HW13.out.keeps hu) (hr.trans e) at_ pd hpd)
              clear hr hpd
              go_wp2
              refine region_mono (by kernel_rfl) (by kernel_rfl) [some 231, some 232, some 233, some 234, some 235, some 236, some 237, some 238, some 239, some 240, some 241, some 242, some 243] (by kernel_rfl) w.heap.size w HB13.out (Nat.le_refl _) (fun i v WW => match i with | 0 => v = .slice a10 Kd.length c10 | 1 => v = .bool r | 2 => v = .bool r | 3 => v = (bif r then .slice a10 Kd.length c10 else undef) | 4 => v = (bif r then .pointer (some ⟨gx, 1, none⟩) else undef) | 5 => v = (bif r then .int .i64 at_ else undef) | 6 => v = (bif r then .int .i64 pd else undef) | 7 => v = (bif r then .slice a10 Kd.length c10 else undef) | 8 => v = (bif r then .pointer (some ⟨gx, 1, none⟩) else undef) | 9 => v = (bif r then .int .i64 at_ else undef) | 10 => v = (bif r then .int .i64 pd else undef) | 11 => v = (bif r then .bool false else undef) | 12 => v = .bool false | _ => True) ?_ ?_ ?_
              · intro i v WW WX h hbx
                rcases i with _ | _ | _ | _ | _ | _ | _ | _ | _ | _ | _ | _ | _ | i
                · exact h
                · exact h
                · exact h
                · exact h
                · exact h
                · exact h
                · exact h
                · exact h
                · exact h
                · exact h
                · exact h
                · exact h
                · exact h
                · trivial
              · intro iI oO V AC WW ho hf hbw K hK
                have hlt : iI < 13 := (Array.getElem?_eq_some_iff.1 ho).1
                rcases iI with _ | _ | _ | _ | _ | _ | _ | _ | _ | _ | _ | _ | _ | iI
                · obtain rfl := Option.some.inj (show some _ = some oO from ho)
                  rw [if_pos (by rfl)]
                  have q7 : AC.tmps.getD 7 undef = .slice a10 Kd.length c10 := hf.rest 7 (by kernel_rfl)
                  go_simp
                  refine hK _ _ (Below.refl _ _) ?_
                  exact rfl
                · obtain rfl := Option.some.inj (show some _ = some oO from ho)
                  rw [if_pos (by rfl)]
                  have q231 : AC.tmps.getD 231 undef = .slice a10 Kd.length c10 := ((hf.dep ⟨0, .data⟩ (by simp) rfl).2 231 rfl).trans (hf.dep ⟨0, .data⟩ (by simp) rfl).1
                  go_simp
                  refine (HRt.out WW hbw).mono ?_
                  rintro e w99 ⟨rfl, hb99⟩
                  exact hK _ _ hb99 rfl
                · obtain rfl := Option.some.inj (show some _ = some oO from ho)
                  rw [if_pos (by rfl)]
                  have q232 : AC.tmps.getD 232 undef = .bool r := ((hf.dep ⟨1, .data⟩ (by simp) rfl).2 232 rfl).trans (hf.dep ⟨1, .data⟩ (by simp) rfl).1
                  go_simp
                  refine hK _ _ (Below.refl _ _) ?_
                  exact rfl
                · obtain rfl := Option.some.inj (show some _ = some oO from ho)
                  cases r with
                  | false =>
                    rw [if_neg (wanted_no (s := 233) rfl rfl rfl (by rw [hf.size]; simp) (show AC.tmps.getD 233 undef = .bool false from ((hf.dep ⟨2, .guard⟩ (by simp) rfl).2 233 rfl).trans (hf.dep ⟨2, .guard⟩ (by simp) rfl).1) rfl)]
                    refine hK _ _ (Below.refl _ _) ?_
                    exact rfl
                  | true =>
                    rw [if_pos (wanted_yes (s := 233) rfl rfl rfl (by rw [hf.size]; simp) (show AC.tmps.getD 233 undef = .bool true from ((hf.dep ⟨2, .guard⟩ (by simp) rfl).2 233 rfl).trans (hf.dep ⟨2, .guard⟩ (by simp) rfl).1))]
                    have q7 : AC.tmps.getD 7 undef = .slice a10 Kd.length c10 := hf.rest 7 (by kernel_rfl)
                    go_simp
                    refine hK _ _ (Below.refl _ _) ?_
                    exact rfl
                · obtain rfl := Option.some.inj (show some _ = some oO from ho)
                  cases r with
                  | false =>
                    rw [if_neg (wanted_no (s := 233) rfl rfl rfl (by rw [hf.size]; simp) (show AC.tmps.getD 233 undef = .bool false from ((hf.dep ⟨2, .guard⟩ (by simp) rfl).2 233 rfl).trans (hf.dep ⟨2, .guard⟩ (by simp) rfl).1) rfl)]
                    refine hK _ _ (Below.refl _ _) ?_
                    exact rfl
                  | true =>
                    rw [if_pos (wanted_yes (s := 233) rfl rfl rfl (by rw [hf.size]; simp) (show AC.tmps.getD 233 undef = .bool true from ((hf.dep ⟨2, .guard⟩ (by simp) rfl).2 233 rfl).trans (hf.dep ⟨2, .guard⟩ (by simp) rfl).1))]
                    have q10 : AC.tmps.getD 10 undef = .pointer (some ⟨gx, 0, none⟩) := hf.rest 10 (by kernel_rfl)
                    go_simp
                    refine hK _ _ (Below.refl _ _) ?_
                    exact rfl
                · obtain rfl := Option.some.inj (show some _ = some oO from ho)
                  cases r with
                  | false =>
                    rw [if_neg (wanted_no (s := 233) rfl rfl rfl (by rw [hf.size]; simp) (show AC.tmps.getD 233 undef = .bool false from ((hf.dep ⟨2, .guard⟩ (by simp) rfl).2 233 rfl).trans (hf.dep ⟨2, .guard⟩ (by simp) rfl).1) rfl)]
                    refine hK _ _ (Below.refl _ _) ?_
                    exact rfl
                  | true =>
                    rw [if_pos (wanted_yes (s := 233) rfl rfl rfl (by rw [hf.size]; simp) (show AC.tmps.getD 233 undef = .bool true from ((hf.dep ⟨2, .guard⟩ (by simp) rfl).2 233 rfl).trans (hf.dep ⟨2, .guard⟩ (by simp) rfl).1))]
                    have q235 : AC.tmps.getD 235 undef = .pointer (some ⟨gx, 1, none⟩) := ((hf.dep ⟨4, .data⟩ (by simp) rfl).2 235 rfl).trans (hf.dep ⟨4, .data⟩ (by simp) rfl).1
                    have hG := HG13.out.keeps hbw
                    have g1 := hG.cell 1 _ rfl
                    go_simp
                    refine hK _ _ (Below.refl _ _) ?_
                    exact rfl
                · obtain rfl := Option.some.inj (show some _ = some oO from ho)
                  cases r with
                  | false =>
                    rw [if_neg (wanted_no (s := 233) rfl rfl rfl (by rw [hf.size]; simp) (show AC.tmps.getD 233 undef = .bool false from ((hf.dep ⟨2, .guard⟩ (by simp) rfl).2 233 rfl).trans (hf.dep ⟨2, .guard⟩ (by simp) rfl).1) rfl)]
                    refine hK _ _ (Below.refl _ _) ?_
                    exact rfl
                  | true =>
                    rw [if_pos (wanted_yes (s := 233) rfl rfl rfl (by rw [hf.size]; simp) (show AC.tmps.getD 233 undef = .bool true from ((hf.dep ⟨2, .guard⟩ (by simp) rfl).2 233 rfl).trans (hf.dep ⟨2, .guard⟩ (by simp) rfl).1))]
                    have q234 : AC.tmps.getD 234 undef = .slice a10 Kd.length c10 := ((hf.dep ⟨3, .data⟩ (by simp) rfl).2 234 rfl).trans (hf.dep ⟨3, .data⟩ (by simp) rfl).1
                    have q236 : AC.tmps.getD 236 undef = .int .i64 at_ := ((hf.dep ⟨5, .data⟩ (by simp) rfl).2 236 rfl).trans (hf.dep ⟨5, .data⟩ (by simp) rfl).1
                    go_simp
                    refine (HP1.out rfl WW hbw).mono ?_
                    rintro e w99 ⟨rfl, hb99⟩
                    exact hK _ _ hb99 rfl
                · obtain rfl := Option.some.inj (show some _ = some oO from ho)
                  cases r with
                  | false =>
                    rw [if_neg (wanted_no (s := 233) rfl rfl rfl (by rw [hf.size]; simp) (show AC.tmps.getD 233 undef = .bool false from ((hf.dep ⟨2, .guard⟩ (by simp) rfl).2 233 rfl).trans (hf.dep ⟨2, .guard⟩ (by simp) rfl).1) rfl)]
                    refine hK _ _ (Below.refl _ _) ?_
                    exact rfl
                  | true =>
                    rw [if_pos (wanted_yes (s := 233) rfl rfl rfl (by rw [hf.size]; simp) (show AC.tmps.getD 233 undef = .bool true from ((hf.dep ⟨2, .guard⟩ (by simp) rfl).2 233 rfl).trans (hf.dep ⟨2, .guard⟩ (by simp) rfl).1))]
                    have q7 : AC.tmps.getD 7 undef = .slice a10 Kd.length c10 := hf.rest 7 (by kernel_rfl)
                    go_simp
                    refine hK _ _ (Below.refl _ _) ?_
                    exact rfl
                · obtain rfl := Option.some.inj (show some _ = some oO from ho)
                  cases r with
                  | false =>
                    rw [if_neg (wanted_no (s := 233) rfl rfl rfl (by rw [hf.size]; simp) (show AC.tmps.getD 233 undef = .bool false from ((hf.dep ⟨2, .guard⟩ (by simp) rfl).2 233 rfl).trans (hf.dep ⟨2, .guard⟩ (by simp) rfl).1) rfl)]
                    refine hK _ _ (Below.refl _ _) ?_
                    exact rfl
                  | true =>
                    rw [if_pos (wanted_yes (s := 233) rfl rfl rfl (by rw [hf.size]; simp) (show AC.tmps.getD 233 undef = .bool true from ((hf.dep ⟨2, .guard⟩ (by simp) rfl).2 233 rfl).trans (hf.dep ⟨2, .guard⟩ (by simp) rfl).1))]
                    have q10 : AC.tmps.getD 10 undef = .pointer (some ⟨gx, 0, none⟩) := hf.rest 10 (by kernel_rfl)
                    go_simp
                    refine hK _ _ (Below.refl _ _) ?_
                    exact rfl
                · obtain rfl := Option.some.inj (show some _ = some oO from ho)
                  cases r with
                  | false =>
                    rw [if_neg (wanted_no (s := 233) rfl rfl rfl (by rw [hf.size]; simp) (show AC.tmps.getD 233 undef = .bool false from ((hf.dep ⟨2, .guard⟩ (by simp) rfl).2 233 rfl).trans (hf.dep ⟨2, .guard⟩ (by simp) rfl).1) rfl)]
                    refine hK _ _ (Below.refl _ _) ?_
                    exact rfl
                  | true =>
                    rw [if_pos (wanted_yes (s := 233) rfl rfl rfl (by rw [hf.size]; simp) (show AC.tmps.getD 233 undef = .bool true from ((hf.dep ⟨2, .guard⟩ (by simp) rfl).2 233 rfl).trans (hf.dep ⟨2, .guard⟩ (by simp) rfl).1))]
                    have q239 : AC.tmps.getD 239 undef = .pointer (some ⟨gx, 1, none⟩) := ((hf.dep ⟨8, .data⟩ (by simp) rfl).2 239 rfl).trans (hf.dep ⟨8, .data⟩ (by simp) rfl).1
                    have hG := HG13.out.keeps hbw
                    have g1 := hG.cell 1 _ rfl
                    go_simp
                    refine hK _ _ (Below.refl _ _) ?_
                    exact rfl
                · obtain rfl := Option.some.inj (show some _ = some oO from ho)
                  cases r with
                  | false =>
                    rw [if_neg (wanted_no (s := 233) rfl rfl rfl (by rw [hf.size]; simp) (show AC.tmps.getD 233 undef = .bool false from ((hf.dep ⟨2, .guard⟩ (by simp) rfl).2 233 rfl).trans (hf.dep ⟨2, .guard⟩ (by simp) rfl).1) rfl)]
                    refine hK _ _ (Below.refl _ _) ?_
                    exact rfl
                  | true =>
                    rw [if_pos (wanted_yes (s := 233) rfl rfl rfl (by rw [hf.size]; simp) (show AC.tmps.getD 233 undef = .bool true from ((hf.dep ⟨2, .guard⟩ (by simp) rfl).2 233 rfl).trans (hf.dep ⟨2, .guard⟩ (by simp) rfl).1))]
                    have q238 : AC.tmps.getD 238 undef = .slice a10 Kd.length c10 := ((hf.dep ⟨7, .data⟩ (by simp) rfl).2 238 rfl).trans (hf.dep ⟨7, .data⟩ (by simp) rfl).1
                    have q240 : AC.tmps.getD 240 undef = .int .i64 at_ := ((hf.dep ⟨9, .data⟩ (by simp) rfl).2 240 rfl).trans (hf.dep ⟨9, .data⟩ (by simp) rfl).1
                    go_simp
                    refine (HP2.out rfl WW hbw).mono ?_
                    rintro e w99 ⟨rfl, hb99⟩
                    exact hK _ _ hb99 rfl
                · obtain rfl := Option.some.inj (show some _ = some oO from ho)
                  cases r with
                  | false =>
                    rw [if_neg (wanted_no (s := 233) rfl rfl rfl (by rw [hf.size]; simp) (show AC.tmps.getD 233 undef = .bool false from ((hf.dep ⟨2, .guard⟩ (by simp) rfl).2 233 rfl).trans (hf.dep ⟨2, .guard⟩ (by simp) rfl).1) rfl)]
                    refine hK _ _ (Below.refl _ _) ?_
                    exact rfl
                  | true =>
                    rw [if_pos (wanted_yes (s := 233) rfl rfl rfl (by rw [hf.size]; simp) (show AC.tmps.getD 233 undef = .bool true from ((hf.dep ⟨2, .guard⟩ (by simp) rfl).2 233 rfl).trans (hf.dep ⟨2, .guard⟩ (by simp) rfl).1))]
                    have q237 : AC.tmps.getD 237 undef = .int .i64 pd := ((hf.dep ⟨6, .data⟩ (by simp) rfl).2 237 rfl).trans (hf.dep ⟨6, .data⟩ (by simp) rfl).1
                    have q241 : AC.tmps.getD 241 undef = .int .i64 pd := ((hf.dep ⟨10, .data⟩ (by simp) rfl).2 241 rfl).trans (hf.dep ⟨10, .data⟩ (by simp) rfl).1
                    go_simp
                    refine hK _ _ (Below.refl _ _) ?_
                    exact (by (show Value.bool _ = Value.bool _; first | rfl | simp))
                · obtain rfl := Option.some.inj (show some _ = some oO from ho)
                  cases r with
                  | false =>
                    rw [if_pos (by rfl)]
                    have q233 : AC.tmps.getD 233 undef = .bool false := ((hf.dep ⟨2, .data⟩ (by simp) rfl).2 233 rfl).trans (hf.dep ⟨2, .data⟩ (by simp) rfl).1
                    have q242 : AC.tmps.getD 242 undef = undef := ((hf.dep ⟨11, .data⟩ (by simp) rfl).2 242 rfl).trans (hf.dep ⟨11, .data⟩ (by simp) rfl).1
                    go_simp
                    refine hK _ _ (Below.refl _ _) ?_
                    exact rfl
                  | true =>
                    rw [if_pos (by rfl)]
                    have q233 : AC.tmps.getD 233 undef = .bool true := ((hf.dep ⟨2, .data⟩ (by simp) rfl).2 233 rfl).trans (hf.dep ⟨2, .data⟩ (by simp) rfl).1
                    have q242 : AC.tmps.getD 242 undef = .bool false := ((hf.dep ⟨11, .data⟩ (by simp) rfl).2 242 rfl).trans (hf.dep ⟨11, .data⟩ (by simp) rfl).1
                    go_simp
                    refine hK _ _ (Below.refl _ _) ?_
                    exact rfl
                · omega
              · intro V WW hall hbw hBW
                have vv0 : V 0 = .slice a10 Kd.length c10 := hall 0 (by decide)
                have vv1 : V 1 = .bool r := hall 1 (by decide)
                have vv2 : V 2 = .bool r := hall 2 (by decide)
                have vv12 : V 12 = .bool false := hall 12 (by decide)
                clear hall
                simp only [pairsOf, laid, Nat.zero_add, Nat.reduceAdd, vv0, vv1, vv2, vv12, List.setIfInBounds_toArray, List.set_cons_zero, List.set_cons_succ]
                clear vv0 vv1 vv2 vv12
                have HBe := Lib.hid hBW
                have HNe := Lib.hid (HW13.out.keeps hbw)
                have HLe := Lib.hid (HM13.out.keeps hbw)
                clear hbw hBW HRt HP1 HP2
                go_wp2
                go_roundw
                · exact ⟨k + 1, Kd, a10, c10, L, b, d, by omega, by go_num, rfl, rfl, HNe.out, HKl.out, HLe.out, HMl.out, HBe.out⟩
                · simp [intOf]; omega
          · as_aux_lemma =>
              obtain ⟨r, hr⟩ : ∃ r, rightW D = r := ⟨_, rfl⟩
              have HRt := Lib.hid (fun U (hu : Below w13.heap.size w13 U) => drright_any U a c D (HSW13.out.keeps hu) r hr (by have := HDl.out; omega))
              obtain ⟨pd, hpd⟩ : ∃ q, pendS at_ D = q := ⟨_, rfl⟩
              have HP1 := Lib.hid (fun (e : r = true) U (hu : Below w13.heap.size w13 U) => dpend_any U a c D (HSW13.out.keeps hu) (hr.trans e) at_ pd hpd)
              have HP2 := Lib.hid (fun (e : r = true) U (hu : Below w13.heap.size w13 U) => drpend_any U a c D (HSW13.out.keeps hu) (hr.trans e) at_ pd hpd)
              clear hr hpd
              go_wp2
              refine region_mono (by kernel_rfl) (by kernel_rfl) [some 231, some 232, some 233, some 234, some 235, some 236, some 237, some 238, some 239, some 240, some 241, some 242, some 243] (by kernel_rfl) w.heap.size w HB13.out (Nat.le_refl _) (fun i v WW => match i with | 0 => v = .slice a D.length c | 1 => v = .bool r | 2 => v = .bool r | 3 => v = (bif r then .slice a D.length c else undef) | 4 => v = (bif r then .pointer (some ⟨gx, 1, none⟩) else undef) | 5 => v = (bif r then .int .i64 at_ else undef) | 6 => v = (bif r then .int .i64 pd else undef) | 7 => v = (bif r then .slice a D.length c else undef) | 8 => v = (bif r then .pointer (some ⟨gx, 1, none⟩) else undef) | 9 => v = (bif r then .int .i64 at_ else undef) | 10 => v = (bif r then .int .i64 pd else undef) | 11 => v = (bif r then .bool false else undef) | 12 => v = .bool false | _ => True) ?_ ?_ ?_
              · intro i v WW WX h hbx
                rcases i with _ | _ | _ | _ | _ | _ | _ | _ | _ | _ | _ | _ | _ | i
                · exact h
                · exact h
                · exact h
                · exact h
                · exact h
                · exact h
                · exact h
                · exact h
                · exact h
                · exact h
                · exact h
                · exact h
                · exact h
                · trivial
              · intro iI oO V AC WW ho hf hbw K hK
                have hlt : iI < 13 := (Array.getElem?_eq_some_iff.1 ho).1
                rcases iI with _ | _ | _ | _ | _ | _ | _ | _ | _ | _ | _ | _ | _ | iI
                · obtain rfl := Option.some.inj (show some _ = some oO from ho)
                  rw [if_pos (by rfl)]
                  have q7 : AC.tmps.getD 7 undef = .slice a D.length c := hf.rest 7 (by kernel_rfl)
                  go_simp
                  refine hK _ _ (Below.refl _ _) ?_
                  exact rfl
                · obtain rfl := Option.some.inj (show some _ = some oO from ho)
                  rw [if_pos (by rfl)]
                  have q231 : AC.tmps.getD 231 undef = .slice a D.length c := ((hf.dep ⟨0, .data⟩ (by simp) rfl).2 231 rfl).trans (hf.dep ⟨0, .data⟩ (by simp) rfl).1
                  go_simp
                  refine (HRt.out WW hbw).mono ?_
                  rintro e w99 ⟨rfl, hb99⟩
                  exact hK _ _ hb99 rfl
                · obtain rfl := Option.some.inj (show some _ = some oO from ho)
                  rw [if_pos (by rfl)]
                  have q232 : AC.tmps.getD 232 undef = .bool r := ((hf.dep ⟨1, .data⟩ (by simp) rfl).2 232 rfl).trans (hf.dep ⟨1, .data⟩ (by simp) rfl).1
                  go_simp
                  refine hK _ _ (Below.refl _ _) ?_
                  exact rfl
                · obtain rfl := Option.some.inj (show some _ = some oO from ho)
                  cases r with
                  | false =>
                    rw [if_neg (wanted_no (s := 233) rfl rfl rfl (by rw [hf.size]; simp) (show AC.tmps.getD 233 undef = .bool false from ((hf.dep ⟨2, .guard⟩ (by simp) rfl).2 233 rfl).trans (hf.dep ⟨2, .guard⟩ (by simp) rfl).1) rfl)]
                    refine hK _ _ (Below.refl _ _) ?_
                    exact rfl
                  | true =>
                    rw [if_pos (wanted_yes (s := 233) rfl rfl rfl (by rw [hf.size]; simp) (show AC.tmps.getD 233 undef = .bool true from ((hf.dep ⟨2, .guard⟩ (by simp) rfl).2 233 rfl).trans (hf.dep ⟨2, .guard⟩ (by simp) rfl).1))]
                    have q7 : AC.tmps.getD 7 undef = .slice a D.length c := hf.rest 7 (by kernel_rfl)
                    go_simp
                    refine hK _ _ (Below.refl _ _) ?_
                    exact rfl
                · obtain rfl := Option.some.inj (show some _ = some oO from ho)
                  cases r with
                  | false =>
                    rw [if_neg (wanted_no (s := 233) rfl rfl rfl (by rw [hf.size]; simp) (show AC.tmps.getD 233 undef = .bool false from ((hf.dep ⟨2, .guard⟩ (by simp) rfl).2 233 rfl).trans (hf.dep ⟨2, .guard⟩ (by simp) rfl).1) rfl)]
                    refine hK _ _ (Below.refl _ _) ?_
                    exact rfl
                  | true =>
                    rw [if_pos (wanted_yes (s := 233) rfl rfl rfl (by rw [hf.size]; simp) (show AC.tmps.getD 233 undef = .bool true from ((hf.dep ⟨2, .guard⟩ (by simp) rfl).2 233 rfl).trans (hf.dep ⟨2, .guard⟩ (by simp) rfl).1))]
                    have q10 : AC.tmps.getD 10 undef = .pointer (some ⟨gx, 0, none⟩) := hf.rest 10 (by kernel_rfl)
                    go_simp
                    refine hK _ _ (Below.refl _ _) ?_
                    exact rfl
                · obtain rfl := Option.some.inj (show some _ = some oO from ho)
                  cases r with
                  | false =>
                    rw [if_neg (wanted_no (s := 233) rfl rfl rfl (by rw [hf.size]; simp) (show AC.tmps.getD 233 undef = .bool false from ((hf.dep ⟨2, .guard⟩ (by simp) rfl).2 233 rfl).trans (hf.dep ⟨2, .guard⟩ (by simp) rfl).1) rfl)]
                    refine hK _ _ (Below.refl _ _) ?_
                    exact rfl
                  | true =>
                    rw [if_pos (wanted_yes (s := 233) rfl rfl rfl (by rw [hf.size]; simp) (show AC.tmps.getD 233 undef = .bool true from ((hf.dep ⟨2, .guard⟩ (by simp) rfl).2 233 rfl).trans (hf.dep ⟨2, .guard⟩ (by simp) rfl).1))]
                    have q235 : AC.tmps.getD 235 undef = .pointer (some ⟨gx, 1, none⟩) := ((hf.dep ⟨4, .data⟩ (by simp) rfl).2 235 rfl).trans (hf.dep ⟨4, .data⟩ (by simp) rfl).1
                    have hG := HG13.out.keeps hbw
                    have g1 := hG.cell 1 _ rfl
                    go_simp
                    refine hK _ _ (Below.refl _ _) ?_
                    exact rfl
                · obtain rfl := Option.some.inj (show some _ = some oO from ho)
                  cases r with
                  | false =>
                    rw [if_neg (wanted_no (s := 233) rfl rfl rfl (by rw [hf.size]; simp) (show AC.tmps.getD 233 undef = .bool false from ((hf.dep ⟨2, .guard⟩ (by simp) rfl).2 233 rfl).trans (hf.dep ⟨2, .guard⟩ (by simp) rfl).1) rfl)]
                    refine hK _ _ (Below.refl _ _) ?_
                    exact rfl
                  | true =>
                    rw [if_pos (wanted_yes (s := 233) rfl rfl rfl (by rw [hf.size]; simp) (show AC.tmps.getD 233 undef = .bool true from ((hf.dep ⟨2, .guard⟩ (by simp) rfl).2 233 rfl).trans (hf.dep ⟨2, .guard⟩ (by simp) rfl).1))]
                    have q234 : AC.tmps.getD 234 undef = .slice a D.length c := ((hf.dep ⟨3, .data⟩ (by simp) rfl).2 234 rfl).trans (hf.dep ⟨3, .data⟩ (by simp) rfl).1
                    have q236 : AC.tmps.getD 236 undef = .int .i64 at_ := ((hf.dep ⟨5, .data⟩ (by simp) rfl).2 236 rfl).trans (hf.dep ⟨5, .data⟩ (by simp) rfl).1
                    go_simp
                    refine (HP1.out rfl WW hbw).mono ?_
                    rintro e w99 ⟨rfl, hb99⟩
                    exact hK _ _ hb99 rfl
                · obtain rfl := Option.some.inj (show some _ = some oO from ho)
                  cases r with
                  | false =>
                    rw [if_neg (wanted_no (s := 233) rfl rfl rfl (by rw [hf.size]; simp) (show AC.tmps.getD 233 undef = .bool false from ((hf.dep ⟨2, .guard⟩ (by simp) rfl).2 233 rfl).trans (hf.dep ⟨2, .guard⟩ (by simp) rfl).1) rfl)]
                    refine hK _ _ (Below.refl _ _) ?_
                    exact rfl
                  | true =>
                    rw [if_pos (wanted_yes (s := 233) rfl rfl rfl (by rw [hf.size]; simp) (show AC.tmps.getD 233 undef = .bool true from ((hf.dep ⟨2, .guard⟩ (by simp) rfl).2 233 rfl).trans (hf.dep ⟨2, .guard⟩ (by simp) rfl).1))]
                    have q7 : AC.tmps.getD 7 undef = .slice a D.length c := hf.rest 7 (by kernel_rfl)
                    go_simp
                    refine hK _ _ (Below.refl _ _) ?_
                    exact rfl
                · obtain rfl := Option.some.inj (show some _ = some oO from ho)
                  cases r with
                  | false =>
                    rw [if_neg (wanted_no (s := 233) rfl rfl rfl (by rw [hf.size]; simp) (show AC.tmps.getD 233 undef = .bool false from ((hf.dep ⟨2, .guard⟩ (by simp) rfl).2 233 rfl).trans (hf.dep ⟨2, .guard⟩ (by simp) rfl).1) rfl)]
                    refine hK _ _ (Below.refl _ _) ?_
                    exact rfl
                  | true =>
                    rw [if_pos (wanted_yes (s := 233) rfl rfl rfl (by rw [hf.size]; simp) (show AC.tmps.getD 233 undef = .bool true from ((hf.dep ⟨2, .guard⟩ (by simp) rfl).2 233 rfl).trans (hf.dep ⟨2, .guard⟩ (by simp) rfl).1))]
                    have q10 : AC.tmps.getD 10 undef = .pointer (some ⟨gx, 0, none⟩) := hf.rest 10 (by kernel_rfl)
                    go_simp
                    refine hK _ _ (Below.refl _ _) ?_
                    exact rfl
                · obtain rfl := Option.some.inj (show some _ = some oO from ho)
                  cases r with
                  | false =>
                    rw [if_neg (wanted_no (s := 233) rfl rfl rfl (by rw [hf.size]; simp) (show AC.tmps.getD 233 undef = .bool false from ((hf.dep ⟨2, .guard⟩ (by simp) rfl).2 233 rfl).trans (hf.dep ⟨2, .guard⟩ (by simp) rfl).1) rfl)]
                    refine hK _ _ (Below.refl _ _) ?_
                    exact rfl
                  | true =>
                    rw [if_pos (wanted_yes (s := 233) rfl rfl rfl (by rw [hf.size]; simp) (show AC.tmps.getD 233 undef = .bool true from ((hf.dep ⟨2, .guard⟩ (by simp) rfl).2 233 rfl).trans (hf.dep ⟨2, .guard⟩ (by simp) rfl).1))]
                    have q239 : AC.tmps.getD 239 undef = .pointer (some ⟨gx, 1, none⟩) := ((hf.dep ⟨8, .data⟩ (by simp) rfl).2 239 rfl).trans (hf.dep ⟨8, .data⟩ (by simp) rfl).1
                    have hG := HG13.out.keeps hbw
                    have g1 := hG.cell 1 _ rfl
                    go_simp
                    refine hK _ _ (Below.refl _ _) ?_
                    exact rfl
                · obtain rfl := Option.some.inj (show some _ = some oO from ho)
                  cases r with
                  | false =>
                    rw [if_neg (wanted_no (s := 233) rfl rfl rfl (by rw [hf.size]; simp) (show AC.tmps.getD 233 undef = .bool false from ((hf.dep ⟨2, .guard⟩ (by simp) rfl).2 233 rfl).trans (hf.dep ⟨2, .guard⟩ (by simp) rfl).1) rfl)]
                    refine hK _ _ (Below.refl _ _) ?_
                    exact rfl
                  | true =>
                    rw [if_pos (wanted_yes (s := 233) rfl rfl rfl (by rw [hf.size]; simp) (show AC.tmps.getD 233 undef = .bool true from ((hf.dep ⟨2, .guard⟩ (by simp) rfl).2 233 rfl).trans (hf.dep ⟨2, .guard⟩ (by simp) rfl).1))]
                    have q238 : AC.tmps.getD 238 undef = .slice a D.length c := ((hf.dep ⟨7, .data⟩ (by simp) rfl).2 238 rfl).trans (hf.dep ⟨7, .data⟩ (by simp) rfl).1
                    have q240 : AC.tmps.getD 240 undef = .int .i64 at_ := ((hf.dep ⟨9, .data⟩ (by simp) rfl).2 240 rfl).trans (hf.dep ⟨9, .data⟩ (by simp) rfl).1
                    go_simp
                    refine (HP2.out rfl WW hbw).mono ?_
                    rintro e w99 ⟨rfl, hb99⟩
                    exact hK _ _ hb99 rfl
                · obtain rfl := Option.some.inj (show some _ = some oO from ho)
                  cases r with
                  | false =>
                    rw [if_neg (wanted_no (s := 233) rfl rfl rfl (by rw [hf.size]; simp) (show AC.tmps.getD 233 undef = .bool false from ((hf.dep ⟨2, .guard⟩ (by simp) rfl).2 233 rfl).trans (hf.dep ⟨2, .guard⟩ (by simp) rfl).1) rfl)]
                    refine hK _ _ (Below.refl _ _) ?_
                    exact rfl
                  | true =>
                    rw [if_pos (wanted_yes (s := 233) rfl rfl rfl (by rw [hf.size]; simp) (show AC.tmps.getD 233 undef = .bool true from ((hf.dep ⟨2, .guard⟩ (by simp) rfl).2 233 rfl).trans (hf.dep ⟨2, .guard⟩ (by simp) rfl).1))]
                    have q237 : AC.tmps.getD 237 undef = .int .i64 pd := ((hf.dep ⟨6, .data⟩ (by simp) rfl).2 237 rfl).trans (hf.dep ⟨6, .data⟩ (by simp) rfl).1
                    have q241 : AC.tmps.getD 241 undef = .int .i64 pd := ((hf.dep ⟨10, .data⟩ (by simp) rfl).2 241 rfl).trans (hf.dep ⟨10, .data⟩ (by simp) rfl).1
                    go_simp
                    refine hK _ _ (Below.refl _ _) ?_
                    exact (by (show Value.bool _ = Value.bool _; first | rfl | simp))
                · obtain rfl := Option.some.inj (show some _ = some oO from ho)
                  cases r with
                  | false =>
                    rw [if_pos (by rfl)]
                    have q233 : AC.tmps.getD 233 undef = .bool false := ((hf.dep ⟨2, .data⟩ (by simp) rfl).2 233 rfl).trans (hf.dep ⟨2, .data⟩ (by simp) rfl).1
                    have q242 : AC.tmps.getD 242 undef = undef := ((hf.dep ⟨11, .data⟩ (by simp) rfl).2 242 rfl).trans (hf.dep ⟨11, .data⟩ (by simp) rfl).1
                    go_simp
                    refine hK _ _ (Below.refl _ _) ?_
                    exact rfl
                  | true =>
                    rw [if_pos (by rfl)]
                    have q233 : AC.tmps.getD 233 undef = .bool true := ((hf.dep ⟨2, .data⟩ (by simp) rfl).2 233 rfl).trans (hf.dep ⟨2, .data⟩ (by simp) rfl).1
                    have q242 : AC.tmps.getD 242 undef = .bool false := ((hf.dep ⟨11, .data⟩ (by simp) rfl).2 242 rfl).trans (hf.dep ⟨11, .data⟩ (by simp) rfl).1
                    go_simp
                    refine hK _ _ (Below.refl _ _) ?_
                    exact rfl
                · omega
              · intro V WW hall hbw hBW
                have vv0 : V 0 = .slice a D.length c := hall 0 (by decide)
                have vv1 : V 1 = .bool r := hall 1 (by decide)
                have vv2 : V 2 = .bool r := hall 2 (by decide)
                have vv12 : V 12 = .bool false := hall 12 (by decide)
                clear hall
                simp only [pairsOf, laid, Nat.zero_add, Nat.reduceAdd, vv0, vv1, vv2, vv12, List.setIfInBounds_toArray, List.set_cons_zero, List.set_cons_succ]
                clear vv0 vv1 vv2 vv12
                have HBe := Lib.hid hBW
                have HNe := Lib.hid (HSW13.out.keeps hbw)
                have HLe := Lib.hid (HSL13.out.keeps hbw)
                clear hbw hBW HRt HP1 HP2
                go_wp2
                go_roundw
                · exact ⟨k + 1, D, a, c, L, b, d, by omega, by go_num, rfl, rfl, HNe.out, HDl.out, HLe.out, HLl.out, HBe.out⟩
                · simp [intOf]; omega
      · by_cases d1 : kd = 1
        · subst d1
          clear d0
          as_aux_lemma =>
            obtain ⟨q, hq⟩ : ∃ q, apprS D L at_ = q := ⟨_, rfl⟩
            have HOp := Lib.hid (dappr_any w8 a7 c7 D HOW8.out b8 d8 L HOL8.out at_ q hq)
            have HRp := Lib.hid (fun U (hu : Below w8.heap.size w8 U) => drappr_any U a c D (HSW8.out.keeps hu) (by have := HDl.out; omega) b d L (HSL8.out.keeps hu) (by have := HLl.out; omega) at_ q hq)
            have HKl : Hid (q.1.length ≤ 100) := by
              show _ ≤ _
              rw [← hq]; exact appr_len _ _ _
            obtain ⟨Kd, er⟩ := q
            replace HKl : Hid (Kd.length ≤ 100) := HKl
            clear hq
            go_wp2_with fail
            refine HOp.out.mono ?_
            rintro e w9 ⟨v9, rfl, ho9, hb9⟩
            have HB9 := Lib.hid (below_on HB8.out HB8.out.size hb9)
            have HG9 := Lib.hid (HG8.out.keeps hb9)
            have HSW9 := Lib.hid (HSW8.out.keeps hb9)
            have HSL9 := Lib.hid (HSL8.out.keeps hb9)
            have HOW9 := Lib.hid (HOW8.out.keeps hb9)
            have HOL9 := Lib.hid (HOL8.out.keeps hb9)
            have hG := HG9.out
            have e0 := hG.cell 0 _ rfl; have e1 := hG.cell 1 _ rfl; have e2 := hG.cell 2 _ rfl; have e3 := hG.cell 3 _ rfl
            clear hG
            obtain ⟨a9, c9, rfl, hs9⟩ := OwW.sl ho9
            have HN9 : Hid (SlW w9 a9 c9 Kd) := hs9
            have HRp9 := Lib.hid (HRp.out w9 hb9)
            clear ho9 hs9 hb9 HOp HRp HG8 HB8 HSW8 HSL8 HOW8 HOL8
            go_wp2_with fail
            refine HRp9.out.mono ?_
            rintro e w10 ⟨v10, rfl, ho10, hb10⟩
            have HB10 := Lib.hid (below_on HB9.out HB9.out.size hb10)
            have HG10 := Lib.hid (HG9.out.keeps hb10)
            have HSW10 := Lib.hid (HSW9.out.keeps hb10)
            have HSL10 := Lib.hid (HSL9.out.keeps hb10)
            have HOW10 := Lib.hid (HOW9.out.keeps hb10)
            have HOL10 := Lib.hid (HOL9.out.keeps hb10)
            have HN10 := Lib.hid (HN9.out.keeps hb10)
            obtain ⟨a10, c10, rfl, hs10⟩ := OwW.sl ho10
            have HW10 : Hid (SlW w10 a10 c10 Kd) := hs10
            have HM10 := HSL10
            have HMl := HLl
            clear ho10 hs10 hb10 HRp9 e0 e1 e2 e3 HG9 HB9 HSW9 HSL9 HOW9 HOL9 HN9
            have HSm := Lib.hid (dsame_any w10 a9 c9 Kd a10 c10 Kd HN10.out HW10.out true (by simp) (by have := HKl.out; omega))
            go_wp2_with fail
            refine HSm.out.mono ?_
            rintro e w11 ⟨rfl, hb11⟩
            have HB11 := Lib.hid (below_on HB10.out HB10.out.size hb11)
            have HG11 := Lib.hid (HG10.out.keeps hb11)
            have HW11 := Lib.hid (HW10.out.keeps hb11)
            have HOW11 := Lib.hid (HOW10.out.keeps hb11)
            have HSW11 := Lib.hid (HSW10.out.keeps hb11)
            have HOL11 := Lib.hid (HOL10.out.keeps hb11)
            have HSL11 := Lib.hid (HSL10.out.keeps hb11)
            have HM11 := Lib.hid (HM10.out.keeps hb11)
            clear hb11 HSm HB10 HG10 HSW10 HW10 HM10 HOW10 HSL10 HOL10 HN10
            have HSm := Lib.hid (dsame_any w11 a7 c7 D a c D HOW11.out HSW11.out true (by simp) (by have := HDl.out; omega))
            go_wp2_with fail
            refine HSm.out.mono ?_
            rintro e w12 ⟨rfl, hb12⟩
            have HB12 := Lib.hid (below_on HB11.out HB11.out.size hb12)
            have HG12 := Lib.hid (HG11.out.keeps hb12)
            have HW12 := Lib.hid (HW11.out.keeps hb12)
            have HSW12 := Lib.hid (HSW11.out.keeps hb12)
            have HOL12 := Lib.hid (HOL11.out.keeps hb12)
            have HSL12 := Lib.hid (HSL11.out.keeps hb12)
            have HM12 := Lib.hid (HM11.out.keeps hb12)
            clear hb12 HSm HB11 HG11 HSW11 HW11 HM11 HOW11 HSL11 HOL11
            have HSm := Lib.hid (bsame_any w12 b8 d8 L b d L HOL12.out HSL12.out true (by simp) (by have := HLl.out; omega))
            go_wp2_with fail
            refine HSm.out.mono ?_
            rintro e w13 ⟨rfl, hb13⟩
            have HB13 := Lib.hid (below_on HB12.out HB12.out.size hb13)
            have HG13 := Lib.hid (HG12.out.keeps hb13)
            have HW13 := Lib.hid (HW12.out.keeps hb13)
            have HSW13 := Lib.hid (HSW12.out.keeps hb13)
            have HSL13 := Lib.hid (HSL12.out.keeps hb13)
            have HM13 := Lib.hid (HM12.out.keeps hb13)
            clear hb13 HSm HB12 HG12 HSW12 HW12 HM12 HSL12 HOL12
            by_cases he : er = 0
            · subst he
              as_aux_lemma =>
                obtain ⟨r, hr⟩ : ∃ r, rightW Kd = r := ⟨_, rfl⟩
                have HRt := Lib.hid (fun U (hu : Below w13.heap.size w13 U) => drright_any U a10 c10 Kd (HW13.out.keeps hu) r hr (by have := HKl.out; omega))
                obtain ⟨pd, hpd⟩ : ∃ q, pendS at_ Kd = q := ⟨_, rfl⟩
                have HP1 := Lib.hid (fun (e : r = true) U (hu : Below w13.heap.size w13 U) => dpend_any U a10 c10 Kd (HW13.out.keeps hu) (hr.trans e) at_ pd hpd)
                have HP2 := Lib.hid (fun (e : r = true) U (hu : Below w13.heap.size w13 U) => drpend_any U a10 c10 Kd (HW13.out.keeps hu) (hr.trans e) at_ pd hpd)
                clear hr hpd
                go_wp2
                refine region_mono (by kernel_rfl) (by kernel_rfl) [some 231, some 232, some 233, some 234, some 235, some 236, some 237, some 238, some 239, some 240, some 241, some 242, some 243] (by kernel_rfl) w.heap.size w HB13.out (Nat.le_refl _) (fun i v WW => match i with | 0 => v = .slice a10 Kd.length c10 | 1 => v = .bool r | 2 => v = .bool r | 3 => v = (bif r then .slice a10 Kd.length c10 else undef) | 4 => v = (bif r then .pointer (some ⟨gx, 1, none⟩) else undef) | 5 => v = (bif r then .int .i64 at_ else undef) | 6 => v = (bif r then .int .i64 pd else undef) | 7 => v = (bif r then .slice a10 Kd.length c10 else undef) | 8 => v = (bif r then .pointer (some ⟨gx, 1, none⟩) else undef) | 9 => v = (bif r then .int .i64 at_ else undef) | 10 => v = (bif r then .int .i64 pd else undef) | 11 => v = (bif r then .bool false else undef) | 12 => v = .bool false | _ => True) ?_ ?_ ?_
                · intro i v WW WX h hbx
                  rcases i with _ | _ | _ | _ | _ | _ | _ | _ | _ | _ | _ | _ | _ | i
                  · exact h
                  · exact h
                  · exact h
                  · exact h
                  · exact h
                  · exact h
                  · exact h
                  · exact h
                  · exact h
                  · exact h
                  · exact h
                  · exact h
                  · exact h
                  · trivial
                · intro iI oO V AC WW ho hf hbw K hK
                  have hlt : iI < 13 := (Array.getElem?_eq_some_iff.1 ho).1
                  rcases iI with _ | _ | _ | _ | _ | _ | _ | _ | _ | _ | _ | _ | _ | iI
                  · obtain rfl := Option.some.inj (show some _ = some oO from ho)
                    rw [if_pos (by rfl)]
                    have q7 : AC.tmps.getD 7 undef = .slice a10 Kd.length c10 := hf.rest 7 (by kernel_rfl)
                    go_simp
                    refine hK _ _ (Below.refl _ _) ?_
                    exact rfl
                  · obtain rfl := Option.some.inj (show some _ = some oO from ho)
                    rw [if_pos (by rfl)]
                    have q231 : AC.tmps.getD 231 undef = .slice a10 Kd.length c10 := ((hf.dep ⟨0, .data⟩ (by simp) rfl).2 231 rfl).trans (hf.dep ⟨0, .data⟩ (by simp) rfl).1
                    go_simp
                    refine (HRt.out WW hbw).mono ?_
                    rintro e w99 ⟨rfl, hb99⟩
                    exact hK _ _ hb99 rfl
                  · obtain rfl := Option.some.inj (show some _ = some oO from ho)
                    rw [if_pos (by rfl)]
                    have q232 : AC.tmps.getD 232 undef = .bool r := ((hf.dep ⟨1, .data⟩ (by simp) rfl).2 232 rfl).trans (hf.dep ⟨1, .data⟩ (by simp) rfl).1
                    go_simp
                    refine hK _ _ (Below.refl _ _) ?_
                    exact rfl
                  · obtain rfl := Option.some.inj (show some _ = some oO from ho)
                    cases r with
                    | false =>
                      rw [if_neg (wanted_no (s := 233) rfl rfl rfl (by rw [hf.size]; simp) (show AC.tmps.getD 233 undef = .bool false from ((hf.dep ⟨2, .guard⟩ (by simp) rfl).2 233 rfl).trans (hf.dep ⟨2, .guard⟩ (by simp) rfl).1) rfl)]
                      refine hK _ _ (Below.refl _ _) ?_
                      exact rfl
                    | true =>
                      rw [if_pos (wanted_yes (s := 233) rfl rfl rfl (by rw [hf.size]; simp) (show AC.tmps.getD 233 undef = .bool true from ((hf.dep ⟨2, .guard⟩ (by simp) rfl).2 233 rfl).trans (hf.dep ⟨2, .guard⟩ (by simp) rfl).1))]
                      have q7 : AC.tmps.getD 7 undef = .slice a10 Kd.length c10 := hf.rest 7 (by kernel_rfl)
                      go_simp
                      refine hK _ _ (Below.refl _ _) ?_
                      exact rfl
                  · obtain rfl := Option.some.inj (show some _ = some oO from ho)
                    cases r with
                    | false =>
                      rw [if_neg (wanted_no (s := 233) rfl rfl rfl (by rw [hf.size]; simp) (show AC.tmps.getD 233 undef = .bool false from ((hf.dep ⟨2, .guard⟩ (by simp) rfl).2 233 rfl).trans (hf.dep ⟨2, .guard⟩ (by simp) rfl).1) rfl)]
                      refine hK _ _ (Below.refl _ _) ?_
                      exact rfl
                    | true =>
                      rw [if_pos (wanted_yes (s := 233) rfl rfl rfl (by rw [hf.size]; simp) (show AC.tmps.getD 233 undef = .bool true from ((hf.dep ⟨2, .guard⟩ (by simp) rfl).2 233 rfl).trans (hf.dep ⟨2, .guard⟩ (by simp) rfl).1))]
                      have q10 : AC.tmps.getD 10 undef = .pointer (some ⟨gx, 0, none⟩) := hf.rest 10 (by kernel_rfl)
                      go_simp
                      refine hK _ _ (Below.refl _ _) ?_
                      exact rfl
                  · obtain rfl := Option.some.inj (show some _ = some oO from ho)
                    cases r with
                    | false =>
                      rw [if_neg (wanted_no (s := 233) rfl rfl rfl (by rw [hf.size]; simp) (show AC.tmps.getD 233 undef = .bool false from ((hf.dep ⟨2, .guard⟩ (by simp) rfl).2 233 rfl).trans (hf.dep ⟨2, .guard⟩ (by simp) rfl).1) rfl)]
                      refine hK _ _ (Below.refl _ _) ?_
                      exact rfl
                    | true =>
                      rw [if_pos (wanted_yes (s := 233) rfl rfl rfl (by rw [hf.size]; simp) (show AC.tmps.getD 233 undef = .bool true from ((hf.dep ⟨2, .guard⟩ (by simp) rfl).2 233 rfl).trans (hf.dep ⟨2, .guard⟩ (by simp) rfl).1))]
                      have q235 : AC.tmps.getD 235 undef = .pointer (some ⟨gx, 1, none⟩) := ((hf.dep ⟨4, .data⟩ (by simp) rfl).2 235 rfl).trans (hf.dep ⟨4, .data⟩ (by simp) rfl).1
                      have hG := HG13.out.keeps hbw
                      have g1 := hG.cell 1 _ rfl
                      go_simp
                      refine hK _ _ (Below.refl _ _) ?_
                      exact rfl
                  · obtain rfl := Option.some.inj (show some _ = some oO from ho)
                    cases r with
                    | false =>
                      rw [if_neg (wanted_no (s := 233) rfl rfl rfl (by rw [hf.size]; simp) (show AC.tmps.getD 233 undef = .bool false from ((hf.dep ⟨2, .guard⟩ (by simp) rfl).2 233 rfl).trans (hf.dep ⟨2, .guard⟩ (by simp) rfl).1) rfl)]
                      refine hK _ _ (Below.refl _ _) ?_
                      exact rfl
                    | true =>
                      rw [if_pos (wanted_yes (s := 233) rfl rfl rfl (by rw [hf.size]; simp) (show AC.tmps.getD 233 undef = .bool true from ((hf.dep ⟨2, .guard⟩ (by simp) rfl).2 233 rfl).trans (hf.dep ⟨2, .guard⟩ (by simp) rfl).1))]
                      have q234 : AC.tmps.getD 234 undef = .slice a10 Kd.length c10 := ((hf.dep ⟨3, .data⟩ (by simp) rfl).2 234 rfl).trans (hf.dep ⟨3, .data⟩ (by simp) rfl).1
                      have q236 : AC.tmps.getD 236 undef = .int .i64 at_ := ((hf.dep ⟨5, .data⟩ (by simp) rfl).2 236 rfl).trans (hf.dep ⟨5, .data⟩ (by simp) rfl).1
                      go_simp
                      refine (HP1.out rfl WW hbw).mono ?_
                      rintro e w99 ⟨rfl, hb99⟩
                      exact hK _ _ hb99 rfl
                  · obtain rfl := Option.some.inj (show some _ = some oO from ho)
                    cases r with
                    | false =>
                      rw [if_neg (wanted_no (s := 233) rfl rfl rfl (by rw [hf.size]; simp) (show AC.tmps.getD 233 undef = .bool false from ((hf.dep ⟨2, .guard⟩ (by simp) rfl).2 233 rfl).trans (hf.dep ⟨2, .guard⟩ (by simp) rfl).1) rfl)]
                      refine hK _ _ (Below.refl _ _) ?_
                      exact rfl
                    | true =>
                      rw [if_pos (wanted_yes (s := 233) rfl rfl rfl (by rw [hf.size]; simp) (show AC.tmps.getD 233 undef = .bool true from ((hf.dep ⟨2, .guard⟩ (by simp) rfl).2 233 rfl).trans (hf.dep ⟨2, .guard⟩ (by simp) rfl).1))]
                      have q7 : AC.tmps.getD 7 undef = .slice a10 Kd.length c10 := hf.rest 7 (by kernel_rfl)
                      go_simp
                      refine hK _ _ (Below.refl _ _) ?_
                      exact rfl
                  · obtain rfl := Option.some.inj (show some _ = some oO from ho)
                    cases r with
                    | false =>
                      rw [if_neg (wanted_no (s := 233) rfl rfl rfl (by rw [hf.size]; simp) (show AC.tmps.getD 233 undef = .bool false from ((hf.dep ⟨2, .guard⟩ (by simp) rfl).2 233 rfl).trans (hf.dep ⟨2, .guard⟩ (by simp) rfl).1) rfl)]
                      refine hK _ _ (Below.refl _ _) ?_
                      exact rfl
                    | true =>
                      rw [if_pos (wanted_yes (s := 233) rfl rfl rfl (by rw [hf.size]; simp) (show AC.tmps.getD 233 undef = .bool true from ((hf.dep ⟨2, .guard⟩ (by simp) rfl).2 233 rfl).trans (hf.dep ⟨2, .guard⟩ (by simp) rfl).1))]
                      have q10 : AC.tmps.getD 10 undef = .pointer (some ⟨gx, 0, none⟩) := hf.rest 10 (by kernel_rfl)
                      go_simp
                      refine hK _ _ (Below.refl _ _) ?_
                      exact rfl
                  · obtain rfl := Option.some.inj (show some _ = some oO from ho)
                    cases r with
                    | false =>
                      rw [if_neg (wanted_no (s := 233) rfl rfl rfl (by rw [hf.size]; simp) (show AC.tmps.getD 233 undef = .bool false from ((hf.dep ⟨2, .guard⟩ (by simp) rfl).2 233 rfl).trans (hf.dep ⟨2, .guard⟩ (by simp) rfl).1) rfl)]
                      refine hK _ _ (Below.refl _ _) ?_
                      exact rfl
                    | true =>
                      rw [if_pos (wanted_yes (s := 233) rfl rfl rfl (by rw [hf.size]; simp) (show AC.tmps.getD 233 undef = .bool true from ((hf.dep ⟨2, .guard⟩ (by simp) rfl).2 233 rfl).trans (hf.dep ⟨2, .guard⟩ (by simp) rfl).1))]
                      have q239 : AC.tmps.getD 239 undef = .pointer (some ⟨gx, 1, none⟩) := ((hf.dep ⟨8, .data⟩ (by simp) rfl).2 239 rfl).trans (hf.dep ⟨8, .data⟩ (by simp) rfl).1
                      have hG := HG13.out.keeps hbw
                      have g1 := hG.cell 1 _ rfl
                      go_simp
                      refine hK _ _ (Below.refl _ _) ?_
                      exact rfl
                  · obtain rfl := Option.some.inj (show some _ = some oO from ho)
                    cases r with
                    | false =>
                      rw [if_neg (wanted_no (s := 233) rfl rfl rfl (by rw [hf.size]; simp) (show AC.tmps.getD 233 undef = .bool false from ((hf.dep ⟨2, .guard⟩ (by simp) rfl).2 233 rfl).trans (hf.dep ⟨2, .guard⟩ (by simp) rfl).1) rfl)]
                      refine hK _ _ (Below.refl _ _) ?_
                      exact rfl
                    | true =>
                      rw [if_pos (wanted_yes (s := 233) rfl rfl rfl (by rw [hf.size]; simp) (show AC.tmps.getD 233 undef = .bool true from ((hf.dep ⟨2, .guard⟩ (by simp) rfl).2 233 rfl).trans (hf.dep ⟨2, .guard⟩ (by simp) rfl).1))]
                      have q238 : AC.tmps.getD 238 undef = .slice a10 Kd.length c10 := ((hf.dep ⟨7, .data⟩ (by simp) rfl).2 238 rfl).trans (hf.dep ⟨7, .data⟩ (by simp) rfl).1
                      have q240 : AC.tmps.getD 240 undef = .int .i64 at_ := ((hf.dep ⟨9, .data⟩ (by simp) rfl).2 240 rfl).trans (hf.dep ⟨9, .data⟩ (by simp) rfl).1
                      go_simp
                      refine (HP2.out rfl WW hbw).mono ?_
                      rintro e w99 ⟨rfl, hb99⟩
                      exact hK _ _ hb99 rfl
                  · obtain rfl := Option.some.inj (show some _ = some oO from ho)
                    cases r with
                    | false =>
                      rw [if_neg (wanted_no (s := 233) rfl rfl rfl (by rw [hf.size]; simp) (show AC.tmps.getD 233 undef = .bool false from ((hf.dep ⟨2, .guard⟩ (by simp) rfl).2 233 rfl).trans (hf.dep ⟨2, .guard⟩ (by simp) rfl).1) rfl)]
                      refine hK _ _ (Below.refl _ _) ?_
                      exact rfl
                    | true =>
                      rw [if_pos (wanted_yes (s := 233) rfl rfl rfl (by rw [hf.size]; simp) (show AC.tmps.getD 233 undef = .bool true from ((hf.dep ⟨2, .guard⟩ (by simp) rfl).2 233 rfl).trans (hf.dep ⟨2, .guard⟩ (by simp) rfl).1))]
                      have q237 : AC.tmps.getD 237 undef = .int .i64 pd := ((hf.dep ⟨6, .data⟩ (by simp) rfl).2 237 rfl).trans (hf.dep ⟨6, .data⟩ (by simp) rfl).1
                      have q241 : AC.tmps.getD 241 undef = .int .i64 pd := ((hf.dep ⟨10, .data⟩ (by simp) rfl).2 241 rfl).trans (hf.dep ⟨10, .data⟩ (by simp) rfl).1
                      go_simp
                      refine hK _ _ (Below.refl _ _) ?_
                      exact (by (show Value.bool _ = Value.bool _; first | rfl | simp))
                  · obtain rfl := Option.some.inj (show some _ = some oO from ho)
                    cases r with
                    | false =>
                      rw [if_pos (by rfl)]
                      have q233 : AC.tmps.getD 233 undef = .bool false := ((hf.dep ⟨2, .data⟩ (by simp) rfl).2 233 rfl).trans (hf.dep ⟨2, .data⟩ (by simp) rfl).1
                      have q242 : AC.tmps.getD 242 undef = undef := ((hf.dep ⟨11, .data⟩ (by simp) rfl).2 242 rfl).trans (hf.dep ⟨11, .data⟩ (by simp) rfl).1
                      go_simp
                      refine hK _ _ (Below.refl _ _) ?_
                      exact rfl
                    | true =>
                      rw [if_pos (by rfl)]
                      have q233 : AC.tmps.getD 233 undef = .bool true := ((hf.dep ⟨2, .data⟩ (by simp) rfl).2 233 rfl).trans (hf.dep ⟨2, .data⟩ (by simp) rfl).1
                      have q242 : AC.tmps.getD 242 undef = .bool false := ((hf.dep ⟨11, .data⟩ (by simp) rfl).2 242 rfl).trans (hf.dep ⟨11, .data⟩ (by simp) rfl).1
                      go_simp
                      refine hK _ _ (Below.refl _ _) ?_
                      exact rfl
                  · omega
                · intro V WW hall hbw hBW
                  have vv0 : V 0 = .slice a10 Kd.length c10 := hall 0 (by decide)
                  have vv1 : V 1 = .bool r := hall 1 (by decide)
                  have vv2 : V 2 = .bool r := hall 2 (by decide)
                  have vv12 : V 12 = .bool false := hall 12 (by decide)
                  clear hall
                  simp only [pairsOf, laid, Nat.zero_add, Nat.reduceAdd, vv0, vv1, vv2, vv12, List.setIfInBounds_toArray, List.set_cons_zero, List.set_cons_succ]
                  clear vv0 vv1 vv2 vv12
                  have HBe := Lib.hid hBW
                  have HNe := Lib.hid (HW13.out.keeps hbw)
                  have HLe := Lib.hid (HM13.out.keeps hbw)
                  clear hbw hBW HRt HP1 HP2
                  go_wp2
                  go_roundw
                  · exact ⟨k + 1, Kd, a10, c10, L, b, d, by omega, by go_num, rfl, rfl, HNe.out, HKl.out, HLe.out, HMl.out, HBe.out⟩
                  · simp [intOf]; omega
            · as_aux_lemma =>
                obtain ⟨r, hr⟩ : ∃ r, rightW D = r := ⟨_, rfl⟩
                have HRt := Lib.hid (fun U (hu : Below w13.heap.size w13 U) => drright_any U a c D (HSW13.out.keeps hu) r hr (by have := HDl.out; omega))
                obtain ⟨pd, hpd⟩ : ∃ q, pendS at_ D = q := ⟨_, rfl⟩
                have HP1 := Lib.hid (fun (e : r = true) U (hu : Below w13.heap.size w13 U) => dpend_any U a c D (HSW13.out.keeps hu) (hr.trans e) at_ pd hpd)
                have HP2 := Lib.hid (fun (e : r = true) U (hu : Below w13.heap.size w13 U) => drpend_any U a c D (HSW13.out.keeps hu) (hr.trans e) at_ pd hpd)
                clear hr hpd
                go_wp2
                refine region_mono (by kernel_rfl) (by kernel_rfl) [some 231, some 232, some 233, some 234, some 235, some 236, some 237, some 238, some 239, some 240, some 241, some 242, some 243] (by kernel_rfl) w.heap.size w HB13.out (Nat.le_refl _) (fun i v WW => match i with | 0 => v = .slice a D.length c | 1 => v = .bool r | 2 => v = .bool r | 3 => v = (bif r then .slice a D.length c else undef) | 4 => v = (bif r then .pointer (some ⟨gx, 1, none⟩) else undef) | 5 => v = (bif r then .int .i64 at_ else undef) | 6 => v = (bif r then .int .i64 pd else undef) | 7 => v = (bif r then .slice a D.length c else undef) | 8 => v = (bif r then .pointer (some ⟨gx, 1, none⟩) else undef) | 9 => v = (bif r then .int .i64 at_ else undef) | 10 => v = (bif r then .int .i64 pd else undef) | 11 => v = (bif r then .bool false else undef) | 12 => v = .bool false | _ => True) ?_ ?_ ?_
                · intro i v WW WX h hbx
                  rcases i with _ | _ | _ | _ | _ | _ | _ | _ | _ | _ | _ | _ | _ | i
                  · exact h
                  · exact h
                  · exact h
                  · exact h
                  · exact h
                  · exact h
                  · exact h
                  · exact h
                  · exact h
                  · exact h
                  · exact h
                  · exact h
                  · exact h
                  · trivial
                · intro iI oO V AC WW ho hf hbw K hK
                  have hlt : iI < 13 := (Array.getElem?_eq_some_iff.1 ho).1
                  rcases iI with _ | _ | _ | _ | _ | _ | _ | _ | _ | _ | _ | _ | _ | iI
                  · obtain rfl := Option.some.inj (show some _ = some oO from ho)
                    rw [if_pos (by rfl)]
                    have q7 : AC.tmps.getD 7 undef = .slice a D.length c := hf.rest 7 (by kernel_rfl)
                    go_simp
                    refine hK _ _ (Below.refl _ _) ?_
                    exact rfl
                  · obtain rfl := Option.some.inj (show some _ = some oO from ho)
                    rw [if_pos (by rfl)]
                    have q231 : AC.tmps.getD 231 undef = .slice a D.length c := ((hf.dep ⟨0, .data⟩ (by simp) rfl).2 231 rfl).trans (hf.dep ⟨0, .data⟩ (by simp) rfl).1
                    go_simp
                    refine (HRt.out WW hbw).mono ?_
                    rintro e w99 ⟨rfl, hb99⟩
                    exact hK _ _ hb99 rfl
                  · obtain rfl := Option.some.inj (show some _ = some oO from ho)
                    rw [if_pos (by rfl)]
                    have q232 : AC.tmps.getD 232 undef = .bool r := ((hf.dep ⟨1, .data⟩ (by simp) rfl).2 232 rfl).trans (hf.dep ⟨1, .data⟩ (by simp) rfl).1
                    go_simp
                    refine hK _ _ (Below.refl _ _) ?_
                    exact rfl
                  · obtain rfl := Option.some.inj (show some _ = some oO from ho)
                    cases r with
                    | false =>
                      rw [if_neg (wanted_no (s := 233) rfl rfl rfl (by rw [hf.size]; simp) (show AC.tmps.getD 233 undef = .bool false from ((hf.dep ⟨2, .guard⟩ (by simp) rfl).2 233 rfl).trans (hf.dep ⟨2, .guard⟩ (by simp) rfl).1) rfl)]
                      refine hK _ _ (Below.refl _ _) ?_
                      exact rfl
                    | true =>
                      rw [if_pos (wanted_yes (s := 233) rfl rfl rfl (by rw [hf.size]; simp) (show AC.tmps.getD 233 undef = .bool true from ((hf.dep ⟨2, .guard⟩ (by simp) rfl).2 233 rfl).trans (hf.dep ⟨2, .guard⟩ (by simp) rfl).1))]
                      have q7 : AC.tmps.getD 7 undef = .slice a D.length c := hf.rest 7 (by kernel_rfl)
                      go_simp
                      refine hK _ _ (Below.refl _ _) ?_
                      exact rfl
                  · obtain rfl := Option.some.inj (show some _ = some oO from ho)
                    cases r with
                    | false =>
                      rw [if_neg (wanted_no (s := 233) rfl rfl rfl (by rw [hf.size]; simp) (show AC.tmps.getD 233 undef = .bool false from ((hf.dep ⟨2, .guard⟩ (by simp) rfl).2 233 rfl).trans (hf.dep ⟨2, .guard⟩ (by simp) rfl).1) rfl)]
                      refine hK _ _ (Below.refl _ _) ?_
                      exact rfl
                    | true =>
                      rw [if_pos (wanted_yes (s := 233) rfl rfl rfl (by rw [hf.size]; simp) (show AC.tmps.getD 233 undef = .bool true from ((hf.dep ⟨2, .guard⟩ (by simp) rfl).2 233 rfl).trans (hf.dep ⟨2, .guard⟩ (by simp) rfl).1))]
                      have q10 : AC.tmps.getD 10 undef = .pointer (some ⟨gx, 0, none⟩) := hf.rest 10 (by kernel_rfl)
                      go_simp
                      refine hK _ _ (Below.refl _ _) ?_
                      exact rfl
                  · obtain rfl := Option.some.inj (show some _ = some oO from ho)
                    cases r with
                    | false =>
                      rw [if_neg (wanted_no (s := 233) rfl rfl rfl (by rw [hf.size]; simp) (show AC.tmps.getD 233 undef = .bool false from ((hf.dep ⟨2, .guard⟩ (by simp) rfl).2 233 rfl).trans (hf.dep ⟨2, .guard⟩ (by simp) rfl).1) rfl)]
                      refine hK _ _ (Below.refl _ _) ?_
                      exact rfl
                    | true =>
                      rw [if_pos (wanted_yes (s := 233) rfl rfl rfl (by rw [hf.size]; simp) (show AC.tmps.getD 233 undef = .bool true from ((hf.dep ⟨2, .guard⟩ (by simp) rfl).2 233 rfl).trans (hf.dep ⟨2, .guard⟩ (by simp) rfl).1))]
                      have q235 : AC.tmps.getD 235 undef = .pointer (some ⟨gx, 1, none⟩) := ((hf.dep ⟨4, .data⟩ (by simp) rfl).2 235 rfl).trans (hf.dep ⟨4, .data⟩ (by simp) rfl).1
                      have hG := HG13.out.keeps hbw
                      have g1 := hG.cell 1 _ rfl
                      go_simp
                      refine hK _ _ (Below.refl _ _) ?_
                      exact rfl
                  · obtain rfl := Option.some.inj (show some _ = some oO from ho)
                    cases r with
                    | false =>
                      rw [if_neg (wanted_no (s := 233) rfl rfl rfl (by rw [hf.size]; simp) (show AC.tmps.getD 233 undef = .bool false from ((hf.dep ⟨2, .guard⟩ (by simp) rfl).2 233 rfl).trans (hf.dep ⟨2, .guard⟩ (by simp) rfl).1) rfl)]
                      refine hK _ _ (Below.refl _ _) ?_
                      exact rfl
                    | true =>
                      rw [if_pos (wanted_yes (s := 233) rfl rfl rfl (by rw [hf.size]; simp) (show AC.tmps.getD 233 undef = .bool true from ((hf.dep ⟨2, .guard⟩ (by simp) rfl).2 233 rfl).trans (hf.dep ⟨2, .guard⟩ (by simp) rfl).1))]
                      have q234 : AC.tmps.getD 234 undef = .slice a D.length c := ((hf.dep ⟨3, .data⟩ (by simp) rfl).2 234 rfl).trans (hf.dep ⟨3, .data⟩ (by simp) rfl).1
                      have q236 : AC.tmps.getD 236 undef = .int .i64 at_ := ((hf.dep ⟨5, .data⟩ (by simp) rfl).2 236 rfl).trans (hf.dep ⟨5, .data⟩ (by simp) rfl).1
                      go_simp
                      refine (HP1.out rfl WW hbw).mono ?_
                      rintro e w99 ⟨rfl, hb99⟩
                      exact hK _ _ hb99 rfl
                  · obtain rfl := Option.some.inj (show some _ = some oO from ho)
                    cases r with
                    | false =>
                      rw [if_neg (wanted_no (s := 233) rfl rfl rfl (by rw [hf.size]; simp) (show AC.tmps.getD 233 undef = .bool false from ((hf.dep ⟨2, .guard⟩ (by simp) rfl).2 233 rfl).trans (hf.dep ⟨2, .guard⟩ (by simp) rfl).1) rfl)]
                      refine hK _ _ (Below.refl _ _) ?_
                      exact rfl
                    | true =>
                      rw [if_pos (wanted_yes (s := 233) rfl rfl rfl (by rw [hf.size]; simp) (show AC.tmps.getD 233 undef = .bool true from ((hf.dep ⟨2, .guard⟩ (by simp) rfl).2 233 rfl).trans (hf.dep ⟨2, .guard⟩ (by simp) rfl).1))]
                      have q7 : AC.tmps.getD 7 undef = .slice a D.length c := hf.rest 7 (by kernel_rfl)
                      go_simp
                      refine hK _ _ (Below.refl _ _) ?_
                      exact rfl
                  · obtain rfl := Option.some.inj (show some _ = some oO from ho)
                    cases r with
                    | false =>
                      rw [if_neg (wanted_no (s := 233) rfl rfl rfl (by rw [hf.size]; simp) (show AC.tmps.getD 233 undef = .bool false from ((hf.dep ⟨2, .guard⟩ (by simp) rfl).2 233 rfl).trans (hf.dep ⟨2, .guard⟩ (by simp) rfl).1) rfl)]
                      refine hK _ _ (Below.refl _ _) ?_
                      exact rfl
                    | true =>
                      rw [if_pos (wanted_yes (s := 233) rfl rfl rfl (by rw [hf.size]; simp) (show AC.tmps.getD 233 undef = .bool true from ((hf.dep ⟨2, .guard⟩ (by simp) rfl).2 233 rfl).trans (hf.dep ⟨2, .guard⟩ (by simp) rfl).1))]
                      have q10 : AC.tmps.getD 10 undef = .pointer (some ⟨gx, 0, none⟩) := hf.rest 10 (by kernel_rfl)
                      go_simp
                      refine hK _ _ (Below.refl _ _) ?_
                      exact rfl
                  · obtain rfl := Option.some.inj (show some _ = some oO from ho)
                    cases r with
                    | false =>
                      rw [if_neg (wanted_no (s := 233) rfl rfl rfl (by rw [hf.size]; simp) (show AC.tmps.getD 233 undef = .bool false from ((hf.dep ⟨2, .guard⟩ (by simp) rfl).2 233 rfl).trans (hf.dep ⟨2, .guard⟩ (by simp) rfl).1) rfl)]
                      refine hK _ _ (Below.refl _ _) ?_
                      exact rfl
                    | true =>
                      rw [if_pos (wanted_yes (s := 233) rfl rfl rfl (by rw [hf.size]; simp) (show AC.tmps.getD 233 undef = .bool true from ((hf.dep ⟨2, .guard⟩ (by simp) rfl).2 233 rfl).trans (hf.dep ⟨2, .guard⟩ (by simp) rfl).1))]
                      have q239 : AC.tmps.getD 239 undef = .pointer (some ⟨gx, 1, none⟩) := ((hf.dep ⟨8, .data⟩ (by simp) rfl).2 239 rfl).trans (hf.dep ⟨8, .data⟩ (by simp) rfl).1
                      have hG := HG13.out.keeps hbw
                      have g1 := hG.cell 1 _ rfl
                      go_simp
                      refine hK _ _ (Below.refl _ _) ?_
                      exact rfl
                  · obtain rfl := Option.some.inj (show some _ = some oO from ho)
                    cases r with
                    | false =>
                      rw [if_neg (wanted_no (s := 233) rfl rfl rfl (by rw [hf.size]; simp) (show AC.tmps.getD 233 undef = .bool false from ((hf.dep ⟨2, .guard⟩ (by simp) rfl).2 233 rfl).trans (hf.dep ⟨2, .guard⟩ (by simp) rfl).1) rfl)]
                      refine hK _ _ (Below.refl _ _) ?_
                      exact rfl
                    | true =>
                      rw [if_pos (wanted_yes (s := 233) rfl rfl rfl (by rw [hf.size]; simp) (show AC.tmps.getD 233 undef = .bool true from ((hf.dep ⟨2, .guard⟩ (by simp) rfl).2 233 rfl).trans (hf.dep ⟨2, .guard⟩ (by simp) rfl).1))]
                      have q238 : AC.tmps.getD 238 undef = .slice a D.length c := ((hf.dep ⟨7, .data⟩ (by simp) rfl).2 238 rfl).trans (hf.dep ⟨7, .data⟩ (by simp) rfl).1
                      have q240 : AC.tmps.getD 240 undef = .int .i64 at_ := ((hf.dep ⟨9, .data⟩ (by simp) rfl).2 240 rfl).trans (hf.dep ⟨9, .data⟩ (by simp) rfl).1
                      go_simp
                      refine (HP2.out rfl WW hbw).mono ?_
                      rintro e w99 ⟨rfl, hb99⟩
                      exact hK _ _ hb99 rfl
                  · obtain rfl := Option.some.inj (show some _ = some oO from ho)
                    cases r with
                    | false =>
                      rw [if_neg (wanted_no (s := 233) rfl rfl rfl (by rw [hf.size]; simp) (show AC.tmps.getD 233 undef = .bool false from ((hf.dep ⟨2, .guard⟩ (by simp) rfl).2 233 rfl).trans (hf.dep ⟨2, .guard⟩ (by simp) rfl).1) rfl)]
                      refine hK _ _ (Below.refl _ _) ?_
                      exact rfl
                    | true =>
                      rw [if_pos (wanted_yes (s := 233) rfl rfl rfl (by rw [hf.size]; simp) (show AC.tmps.getD 233 undef = .bool true from ((hf.dep ⟨2, .guard⟩ (by simp) rfl).2 233 rfl).trans (hf.dep ⟨2, .guard⟩ (by simp) rfl).1))]
                      have q237 : AC.tmps.getD 237 undef = .int .i64 pd := ((hf.dep ⟨6, .data⟩ (by simp) rfl).2 237 rfl).trans (hf.dep ⟨6, .data⟩ (by simp) rfl).1
                      have q241 : AC.tmps.getD 241 undef = .int .i64 pd := ((hf.dep ⟨10, .data⟩ (by simp) rfl).2 241 rfl).trans (hf.dep ⟨10, .data⟩ (by simp) rfl).1
                      go_simp
                      refine hK _ _ (Below.refl _ _) ?_
                      exact (by (show Value.bool _ = Value.bool _; first | rfl | simp))
                  · obtain rfl := Option.some.inj (show some _ = some oO from ho)
                    cases r with
                    | false =>
                      rw [if_pos (by rfl)]
                      have q233 : AC.tmps.getD 233 undef = .bool false := ((hf.dep ⟨2, .data⟩ (by simp) rfl).2 233 rfl).trans (hf.dep ⟨2, .data⟩ (by simp) rfl).1
                      have q242 : AC.tmps.getD 242 undef = undef := ((hf.dep ⟨11, .data⟩ (by simp) rfl).2 242 rfl).trans (hf.dep ⟨11, .data⟩ (by simp) rfl).1
                      go_simp
                      refine hK _ _ (Below.refl _ _) ?_
                      exact rfl
                    | true =>
                      rw [if_pos (by rfl)]
                      have q233 : AC.tmps.getD 233 undef = .bool true := ((hf.dep ⟨2, .data⟩ (by simp) rfl).2 233 rfl).trans (hf.dep ⟨2, .data⟩ (by simp) rfl).1
                      have q242 : AC.tmps.getD 242 undef = .bool false := ((hf.dep ⟨11, .data⟩ (by simp) rfl).2 242 rfl).trans (hf.dep ⟨11, .data⟩ (by simp) rfl).1
                      go_simp
                      refine hK _ _ (Below.refl _ _) ?_
                      exact rfl
                  · omega
                · intro V WW hall hbw hBW
                  have vv0 : V 0 = .slice a D.length c := hall 0 (by decide)
                  have vv1 : V 1 = .bool r := hall 1 (by decide)
                  have vv2 : V 2 = .bool r := hall 2 (by decide)
                  have vv12 : V 12 = .bool false := hall 12 (by decide)
                  clear hall
                  simp only [pairsOf, laid, Nat.zero_add, Nat.reduceAdd, vv0, vv1, vv2, vv12, List.setIfInBounds_toArray, List.set_cons_zero, List.set_cons_succ]
                  clear vv0 vv1 vv2 vv12
                  have HBe := Lib.hid hBW
                  have HNe := Lib.hid (HSW13.out.keeps hbw)
                  have HLe := Lib.hid (HSL13.out.keeps hbw)
                  clear hbw hBW HRt HP1 HP2
                  go_wp2
                  go_roundw
                  · exact ⟨k + 1, D, a, c, L, b, d, by omega, by go_num, rfl, rfl, HNe.out, HDl.out, HLe.out, HLl.out, HBe.out⟩
                  · simp [intOf]; omega
        · by_cases d2 : kd = 2
          · subst d2
            clear d0 d1
            as_aux_lemma =>
              obtain ⟨q, hq⟩ : ∃ q, refS D at_ = q := ⟨_, rfl⟩
              have HOp := Lib.hid (drefuse_any w8 a7 c7 D HOW8.out at_ q hq)
              have HRp := Lib.hid (fun U (hu : Below w8.heap.size w8 U) => drrefuse_any U a c D (HSW8.out.keeps hu) (by have := HDl.out; omega) at_ q hq)
              have HKl : Hid (q.1.length ≤ 100) := by
                show _ ≤ _
                rw [← hq]; exact ref_len _ _
              obtain ⟨Kd, er⟩ := q
              replace HKl : Hid (Kd.length ≤ 100) := HKl
              clear hq
              go_wp2_with fail
              refine HOp.out.mono ?_
              rintro e w9 ⟨v9, rfl, ho9, hb9⟩
              have HB9 := Lib.hid (below_on HB8.out HB8.out.size hb9)
              have HG9 := Lib.hid (HG8.out.keeps hb9)
              have HSW9 := Lib.hid (HSW8.out.keeps hb9)
              have HSL9 := Lib.hid (HSL8.out.keeps hb9)
              have HOW9 := Lib.hid (HOW8.out.keeps hb9)
              have HOL9 := Lib.hid (HOL8.out.keeps hb9)
              have hG := HG9.out
              have e0 := hG.cell 0 _ rfl; have e1 := hG.cell 1 _ rfl; have e2 := hG.cell 2 _ rfl; have e3 := hG.cell 3 _ rfl
              clear hG
              obtain ⟨a9, c9, rfl, hs9⟩ := OwW.sl ho9
              have HN9 : Hid (SlW w9 a9 c9 Kd) := hs9
              have HRp9 := Lib.hid (HRp.out w9 hb9)
              clear ho9 hs9 hb9 HOp HRp HG8 HB8 HSW8 HSL8 HOW8 HOL8
              go_wp2_with fail
              refine HRp9.out.mono ?_
              rintro e w10 ⟨v10, rfl, ho10, hb10⟩
              have HB10 := Lib.hid (below_on HB9.out HB9.out.size hb10)
              have HG10 := Lib.hid (HG9.out.keeps hb10)
              have HSW10 := Lib.hid (HSW9.out.keeps hb10)
              have HSL10 := Lib.hid (HSL9.out.keeps hb10)
              have HOW10 := Lib.hid (HOW9.out.keeps hb10)
              have HOL10 := Lib.hid (HOL9.out.keeps hb10)
              have HN10 := Lib.hid (HN9.out.keeps hb10)
              obtain ⟨a10, c10, rfl, hs10⟩ := OwW.sl ho10
              have HW10 : Hid (SlW w10 a10 c10 Kd) := hs10
              have HM10 := HSL10
              have HMl := HLl
              clear ho10 hs10 hb10 HRp9 e0 e1 e2 e3 HG9 HB9 HSW9 HSL9 HOW9 HOL9 HN9
              have HSm := Lib.hid (dsame_any w10 a9 c9 Kd a10 c10 Kd HN10.out HW10.out true (by simp) (by have := HKl.out; omega))
              go_wp2_with fail
              refine HSm.out.mono ?_
              rintro e w11 ⟨rfl, hb11⟩
              have HB11 := Lib.hid (below_on HB10.out HB10.out.size hb11)
              have HG11 := Lib.hid (HG10.out.keeps hb11)
              have HW11 := Lib.hid (HW10.out.keeps hb11)
              have HOW11 := Lib.hid (HOW10.out.keeps hb11)
              have HSW11 := Lib.hid (HSW10.out.keeps hb11)
              have HOL11 := Lib.hid (HOL10.out.keeps hb11)
              have HSL11 := Lib.hid (HSL10.out.keeps hb11)
              have HM11 := Lib.hid (HM10.out.keeps hb11)
              clear hb11 HSm HB10 HG10 HSW10 HW10 HM10 HOW10 HSL10 HOL10 HN10
              have HSm := Lib.hid (dsame_any w11 a7 c7 D a c D HOW11.out HSW11.out true (by simp) (by have := HDl.out; omega))
              go_wp2_with fail
              refine HSm.out.mono ?_
              rintro e w12 ⟨rfl, hb12⟩
              have HB12 := Lib.hid (below_on HB11.out HB11.out.size hb12)
              have HG12 := Lib.hid (HG11.out.keeps hb12)
              have HW12 := Lib.hid (HW11.out.keeps hb12)
              have HSW12 := Lib.hid (HSW11.out.keeps hb12)
              have HOL12 := Lib.hid (HOL11.out.keeps hb12)
              have HSL12 := Lib.hid (HSL11.out.keeps hb12)
              have HM12 := Lib.hid (HM11.out.keeps hb12)
              clear hb12 HSm HB11 HG11 HSW11 HW11 HM11 HOW11 HSL11 HOL11
              have HSm := Lib.hid (bsame_any w12 b8 d8 L b d L HOL12.out HSL12.out true (by simp) (by have := HLl.out; omega))
              go_wp2_with fail
              refine HSm.out.mono ?_
              rintro e w13 ⟨rfl, hb13⟩
              have HB13 := Lib.hid (below_on HB12.out HB12.out.size hb13)
              have HG13 := Lib.hid (HG12.out.keeps hb13)
              have HW13 := Lib.hid (HW12.out.keeps hb13)
              have HSW13 := Lib.hid (HSW12.out.keeps hb13)
              have HSL13 := Lib.hid (HSL12.out.keeps hb13)
              have HM13 := Lib.hid (HM12.out.keeps hb13)
              clear hb13 HSm HB12 HG12 HSW12 HW12 HM12 HSL12 HOL12
              by_cases he : er = 0
              · subst he
                as_aux_lemma =>
                  obtain ⟨r, hr⟩ : ∃ r, rightW Kd = r := ⟨_, rfl⟩
                  have HRt := Lib.hid (fun U (hu : Below w13.heap.size w13 U) => drright_any U a10 c10 Kd (HW13.out.keeps hu) r hr (by have := HKl.out; omega))
                  obtain ⟨pd, hpd⟩ : ∃ q, pendS at_ Kd = q := ⟨_, rfl⟩
                  have HP1 := Lib.hid (fun (e : r = true) U (hu : Below w13.heap.size w13 U) => dpend_any U a10 c10 Kd (HW13.out.keeps hu) (hr.trans e) at_ pd hpd)
                  have HP2 := Lib.hid (fun (e : r = true) U (hu : Below w13.heap.size w13 U) => drpend_any U a10 c10 Kd (HW13.out.keeps hu) (hr.trans e) at_ pd hpd)
                  clear hr hpd
                  go_wp2
                  refine region_mono (by kernel_rfl) (by kernel_rfl) [some 231, some 232, some 233, some 234, some 235, some 236, some 237, some 238, some 239, some 240, some 241, some 242, some 243] (by kernel_rfl) w.heap.size w HB13.out (Nat.le_refl _) (fun i v WW => match i with | 0 => v = .slice a10 Kd.length c10 | 1 => v = .bool r | 2 => v = .bool r | 3 => v = (bif r then .slice a10 Kd.length c10 else undef) | 4 => v = (bif r then .pointer (some ⟨gx, 1, none⟩) else undef) | 5 => v = (bif r then .int .i64 at_ else undef) | 6 => v = (bif r then .int .i64 pd else undef) | 7 => v = (bif r then .slice a10 Kd.length c10 else undef) | 8 => v = (bif r then .pointer (some ⟨gx, 1, none⟩) else undef) | 9 => v = (bif r then .int .i64 at_ else undef) | 10 => v = (bif r then .int .i64 pd else undef) | 11 => v = (bif r then .bool false else undef) | 12 => v = .bool false | _ => True) ?_ ?_ ?_
                  · intro i v WW WX h hbx
                    rcases i with _ | _ | _ | _ | _ | _ | _ | _ | _ | _ | _ | _ | _ | i
                    · exact h
                    · exact h
                    · exact h
                    · exact h
                    · exact h
                    · exact h
                    · exact h
                    · exact h
                    · exact h
                    · exact h
                    · exact h
                    · exact h
                    · exact h
                    · trivial
                  · intro iI oO V AC WW ho hf hbw K hK
                    have hlt : iI < 13 := (Array.getElem?_eq_some_iff.1 ho).1
                    rcases iI with _ | _ | _ | _ | _ | _ | _ | _ | _ | _ | _ | _ | _ | iI
                    · obtain rfl := Option.some.inj (show some _ = some oO from ho)
                      rw [if_pos (by rfl)]
                      have q7 : AC.tmps.getD 7 undef = .slice a10 Kd.length c10 := hf.rest 7 (by kernel_rfl)
                      go_simp
                      refine hK _ _ (Below.refl _ _) ?_
                      exact rfl
                    · obtain rfl := Option.some.inj (show some _ = some oO from ho)
                      rw [if_pos (by rfl)]
                      have q231 : AC.tmps.getD 231 undef = .slice a10 Kd.length c10 := ((hf.dep ⟨0, .data⟩ (by simp) rfl).2 231 rfl).trans (hf.dep ⟨0, .data⟩ (by simp) rfl).1
                      go_simp
                      refine (HRt.out WW hbw).mono ?_
                      rintro e w99 ⟨rfl, hb99⟩
                      exact hK _ _ hb99 rfl
                    · obtain rfl := Option.some.inj (show some _ = some oO from ho)
                      rw [if_pos (by rfl)]
                      have q232 : AC.tmps.getD 232 undef = .bool r := ((hf.dep ⟨1, .data⟩ (by simp) rfl).2 232 rfl).trans (hf.dep ⟨1, .data⟩ (by simp) rfl).1
                      go_simp
                      refine hK _ _ (Below.refl _ _) ?_
                      exact rfl
                    · obtain rfl := Option.some.inj (show some _ = some oO from ho)
                      cases r with
                      | false =>
                        rw [if_neg (wanted_no (s := 233) rfl rfl rfl (by rw [hf.size]; simp) (show AC.tmps.getD 233 undef = .bool false from ((hf.dep ⟨2, .guard⟩ (by simp) rfl).2 233 rfl).trans (hf.dep ⟨2, .guard⟩ (by simp) rfl).1) rfl)]
                        refine hK _ _ (Below.refl _ _) ?_
                        exact rfl
                      | true =>
                        rw [if_pos (wanted_yes (s := 233) rfl rfl rfl (by rw [hf.size]; simp) (show AC.tmps.getD 233 undef = .bool true from ((hf.dep ⟨2, .guard⟩ (by simp) rfl).2 233 rfl).trans (hf.dep ⟨2, .guard⟩ (by simp) rfl).1))]
                        have q7 : AC.tmps.getD 7 undef = .slice a10 Kd.length c10 := hf.rest 7 (by kernel_rfl)
                        go_simp
                        refine hK _ _ (Below.refl _ _) ?_
                        exact rfl
                    · obtain rfl := Option.some.inj (show some _ = some oO from ho)
                      cases r with
                      | false =>
                        rw [if_neg (wanted_no (s := 233) rfl rfl rfl (by rw [hf.size]; simp) (show AC.tmps.getD 233 undef = .bool false from ((hf.dep ⟨2, .guard⟩ (by simp) rfl).2 233 rfl).trans (hf.dep ⟨2, .guard⟩ (by simp) rfl).1) rfl)]
                        refine hK _ _ (Below.refl _ _) ?_
                        exact rfl
                      | true =>
                        rw [if_pos (wanted_yes (s := 233) rfl rfl rfl (by rw [hf.size]; simp) (show AC.tmps.getD 233 undef = .bool true from ((hf.dep ⟨2, .guard⟩ (by simp) rfl).2 233 rfl).trans (hf.dep ⟨2, .guard⟩ (by simp) rfl).1))]
                        have q10 : AC.tmps.getD 10 undef = .pointer (some ⟨gx, 0, none⟩) := hf.rest 10 (by kernel_rfl)
                        go_simp
                        refine hK _ _ (Below.refl _ _) ?_
                        exact rfl
                    · obtain rfl := Option.some.inj (show some _ = some oO from ho)
                      cases r with
                      | false =>
                        rw [if_neg (wanted_no (s := 233) rfl rfl rfl (by rw [hf.size]; simp) (show AC.tmps.getD 233 undef = .bool false from ((hf.dep ⟨2, .guard⟩ (by simp) rfl).2 233 rfl).trans (hf.dep ⟨2, .guard⟩ (by simp) rfl).1) rfl)]
                        refine hK _ _ (Below.refl _ _) ?_
                        exact rfl
                      | true =>
                        rw [if_pos (wanted_yes (s := 233) rfl rfl rfl (by rw [hf.size]; simp) (show AC.tmps.getD 233 undef = .bool true from ((hf.dep ⟨2, .guard⟩ (by simp) rfl).2 233 rfl).trans (hf.dep ⟨2, .guard⟩ (by simp) rfl).1))]
                        have q235 : AC.tmps.getD 235 undef = .pointer (some ⟨gx, 1, none⟩) := ((hf.dep ⟨4, .data⟩ (by simp) rfl).2 235 rfl).trans (hf.dep ⟨4, .data⟩ (by simp) rfl).1
                        have hG := HG13.out.keeps hbw
                        have g1 := hG.cell 1 _ rfl
                        go_simp
                        refine hK _ _ (Below.refl _ _) ?_
                        exact rfl
                    · obtain rfl := Option.some.inj (show some _ = some oO from ho)
                      cases r with
                      | false =>
                        rw [if_neg (wanted_no (s := 233) rfl rfl rfl (by rw [hf.size]; simp) (show AC.tmps.getD 233 undef = .bool false from ((hf.dep ⟨2, .guard⟩ (by simp) rfl).2 233 rfl).trans (hf.dep ⟨2, .guard⟩ (by simp) rfl).1) rfl)]
                        refine hK _ _ (Below.refl _ _) ?_
                        exact rfl
                      | true =>
                        rw [if_pos (wanted_yes (s := 233) rfl rfl rfl (by rw [hf.size]; simp) (show AC.tmps.getD 233 undef = .bool true from ((hf.dep ⟨2, .guard⟩ (by simp) rfl).2 233 rfl).trans (hf.dep ⟨2, .guard⟩ (by simp) rfl).1))]
                        have q234 : AC.tmps.getD 234 undef = .slice a10 Kd.length c10 := ((hf.dep ⟨3, .data⟩ (by simp) rfl).2 234 rfl).trans (hf.dep ⟨3, .data⟩ (by simp) rfl).1
                        have q236 : AC.tmps.getD 236 undef = .int .i64 at_ := ((hf.dep ⟨5, .data⟩ (by simp) rfl).2 236 rfl).trans (hf.dep ⟨5, .data⟩ (by simp) rfl).1
                        go_simp
                        refine (HP1.out rfl WW hbw).mono ?_
                        rintro e w99 ⟨rfl, hb99⟩
                        exact hK _ _ hb99 rfl
                    · obtain rfl := Option.some.inj (show some _ = some oO from ho)
                      cases r with
                      | false =>
                        rw [if_neg (wanted_no (s := 233) rfl rfl rfl (by rw [hf.size]; simp) (show AC.tmps.getD 233 undef = .bool false from ((hf.dep ⟨2, .guard⟩ (by simp) rfl).2 233 rfl).trans (hf.dep ⟨2, .guard⟩ (by simp) rfl).1) rfl)]
                        refine hK _ _ (Below.refl _ _) ?_
                        exact rfl
                      | true =>
                        rw [if_pos (wanted_yes (s := 233) rfl rfl rfl (by rw [hf.size]; simp) (show AC.tmps.getD 233 undef = .bool true from ((hf.dep ⟨2, .guard⟩ (by simp) rfl).2 233 rfl).trans (hf.dep ⟨2, .guard⟩ (by simp) rfl).1))]
                        have q7 : AC.tmps.getD 7 undef = .slice a10 Kd.length c10 := hf.rest 7 (by kernel_rfl)
                        go_simp
                        refine hK _ _ (Below.refl _ _) ?_
                        exact rfl
                    · obtain rfl := Option.some.inj (show some _ = some oO from ho)
                      cases r with
                      | false =>
                        rw [if_neg (wanted_no (s := 233) rfl rfl rfl (by rw [hf.size]; simp) (show AC.tmps.getD 233 undef = .bool false from ((hf.dep ⟨2, .guard⟩ (by simp) rfl).2 233 rfl).trans (hf.dep ⟨2, .guard⟩ (by simp) rfl).1) rfl)]
                        refine hK _ _ (Below.refl _ _) ?_
                        exact rfl
                      | true =>
                        rw [if_pos (wanted_yes (s := 233) rfl rfl rfl (by rw [hf.size]; simp) (show AC.tmps.getD 233 undef = .bool true from ((hf.dep ⟨2, .guard⟩ (by simp) rfl).2 233 rfl).trans (hf.dep ⟨2, .guard⟩ (by simp) rfl).1))]
                        have q10 : AC.tmps.getD 10 undef = .pointer (some ⟨gx, 0, none⟩) := hf.rest 10 (by kernel_rfl)
                        go_simp
                        refine hK _ _ (Below.refl _ _) ?_
                        exact rfl
                    · obtain rfl := Option.some.inj (show some _ = some oO from ho)
                      cases r with
                      | false =>
                        rw [if_neg (wanted_no (s := 233) rfl rfl rfl (by rw [hf.size]; simp) (show AC.tmps.getD 233 undef = .bool false from ((hf.dep ⟨2, .guard⟩ (by simp) rfl).2 233 rfl).trans (hf.dep ⟨2, .guard⟩ (by simp) rfl).1) rfl)]
                        refine hK _ _ (Below.refl _ _) ?_
                        exact rfl
                      | true =>
                        rw [if_pos (wanted_yes (s := 233) rfl rfl rfl (by rw [hf.size]; simp) (show AC.tmps.getD 233 undef = .bool true from ((hf.dep ⟨2, .guard⟩ (by simp) rfl).2 233 rfl).trans (hf.dep ⟨2, .guard⟩ (by simp) rfl).1))]
                        have q239 : AC.tmps.getD 239 undef = .pointer (some ⟨gx, 1, none⟩) := ((hf.dep ⟨8, .data⟩ (by simp) rfl).2 239 rfl).trans (hf.dep ⟨8, .data⟩ (by simp) rfl).1
                        have hG := HG13.out.keeps hbw
                        have g1 := hG.cell 1 _ rfl
                        go_simp
                        refine hK _ _ (Below.refl _ _) ?_
                        exact rfl
                    · obtain rfl := Option.some.inj (show some _ = some oO from ho)
                      cases r with
                      | false =>
                        rw [if_neg (wanted_no (s := 233) rfl rfl rfl (by rw [hf.size]; simp) (show AC.tmps.getD 233 undef = .bool false from ((hf.dep ⟨2, .guard⟩ (by simp) rfl).2 233 rfl).trans (hf.dep ⟨2, .guard⟩ (by simp) rfl).1) rfl)]
                        refine hK _ _ (Below.refl _ _) ?_
                        exact rfl
                      | true =>
                        rw [if_pos (wanted_yes (s := 233) rfl rfl rfl (by rw [hf.size]; simp) (show AC.tmps.getD 233 undef = .bool true from ((hf.dep ⟨2, .guard⟩ (by simp) rfl).2 233 rfl).trans (hf.dep ⟨2, .guard⟩ (by simp) rfl).1))]
                        have q238 : AC.tmps.getD 238 undef = .slice a10 Kd.length c10 := ((hf.dep ⟨7, .data⟩ (by simp) rfl).2 238 rfl).trans (hf.dep ⟨7, .data⟩ (by simp) rfl).1
                        have q240 : AC.tmps.getD 240 undef = .int .i64 at_ := ((hf.dep ⟨9, .data⟩ (by simp) rfl).2 240 rfl).trans (hf.dep ⟨9, .data⟩ (by simp) rfl).1
                        go_simp
                        refine (HP2.out rfl WW hbw).mono ?_
                        rintro e w99 ⟨rfl, hb99⟩
                        exact hK _ _ hb99 rfl
                    · obtain rfl := Option.some.inj (show some _ = some oO from ho)
                      cases r with
                      | false =>
                        rw [if_neg (wanted_no (s := 233) rfl rfl rfl (by rw [hf.size]; simp) (show AC.tmps.getD 233 undef = .bool false from ((hf.dep ⟨2, .guard⟩ (by simp) rfl).2 233 rfl).trans (hf.dep ⟨2, .guard⟩ (by simp) rfl).1) rfl)]
                        refine hK _ _ (Below.refl _ _) ?_
                        exact rfl
                      | true =>
                        rw [if_pos (wanted_yes (s := 233) rfl rfl rfl (by rw [hf.size]; simp) (show AC.tmps.getD 233 undef = .bool true from ((hf.dep ⟨2, .guard⟩ (by simp) rfl).2 233 rfl).trans (hf.dep ⟨2, .guard⟩ (by simp) rfl).1))]
                        have q237 : AC.tmps.getD 237 undef = .int .i64 pd := ((hf.dep ⟨6, .data⟩ (by simp) rfl).2 237 rfl).trans (hf.dep ⟨6, .data⟩ (by simp) rfl).1
                        have q241 : AC.tmps.getD 241 undef = .int .i64 pd := ((hf.dep ⟨10, .data⟩ (by simp) rfl).2 241 rfl).trans (hf.dep ⟨10, .data⟩ (by simp) rfl).1
                        go_simp
                        refine hK _ _ (Below.refl _ _) ?_
                        exact (by (show Value.bool _ = Value.bool _; first | rfl | simp))
                    · obtain rfl := Option.some.inj (show some _ = some oO from ho)
                      cases r with
                      | false =>
                        rw [if_pos (by rfl)]
                        have q233 : AC.tmps.getD 233 undef = .bool false := ((hf.dep ⟨2, .data⟩ (by simp) rfl).2 233 rfl).trans (hf.dep ⟨2, .data⟩ (by simp) rfl).1
                        have q242 : AC.tmps.getD 242 undef = undef := ((hf.dep ⟨11, .data⟩ (by simp) rfl).2 242 rfl).trans (hf.dep ⟨11, .data⟩ (by simp) rfl).1
                        go_simp
                        refine hK _ _ (Below.refl _ _) ?_
                        exact rfl
                      | true =>
                        rw [if_pos (by rfl)]
                        have q233 : AC.tmps.getD 233 undef = .bool true := ((hf.dep ⟨2, .data⟩ (by simp) rfl).2 233 rfl).trans (hf.dep ⟨2, .data⟩ (by simp) rfl).1
                        have q242 : AC.tmps.getD 242 undef = .bool false := ((hf.dep ⟨11, .data⟩ (by simp) rfl).2 242 rfl).trans (hf.dep ⟨11, .data⟩ (by simp) rfl).1
                        go_simp
                        refine hK _ _ (Below.refl _ _) ?_
                        exact rfl
                    · omega
                  · intro V WW hall hbw hBW
                    have vv0 : V 0 = .slice a10 Kd.length c10 := hall 0 (by decide)
                    have vv1 : V 1 = .bool r := hall 1 (by decide)
                    have vv2 : V 2 = .bool r := hall 2 (by decide)
                    have vv12 : V 12 = .bool false := hall 12 (by decide)
                    clear hall
                    simp only [pairsOf, laid, Nat.zero_add, Nat.reduceAdd, vv0, vv1, vv2, vv12, List.setIfInBounds_toArray, List.set_cons_zero, List.set_cons_succ]
                    clear vv0 vv1 vv2 vv12
                    have HBe := Lib.hid hBW
                    have HNe := Lib.hid (HW13.out.keeps hbw)
                    have HLe := Lib.hid (HM13.out.keeps hbw)
                    clear hbw hBW HRt HP1 HP2
                    go_wp2
                    go_roundw
                    · exact ⟨k + 1, Kd, a10, c10, L, b, d, by omega, by go_num, rfl, rfl, HNe.out, HKl.out, HLe.out, HMl.out, HBe.out⟩
                    · simp [intOf]; omega
              · as_aux_lemma =>
                  obtain ⟨r, hr⟩ : ∃ r, rightW D = r := ⟨_, rfl⟩
                  have HRt := Lib.hid (fun U (hu : Below w13.heap.size w13 U) => drright_any U a c D (HSW13.out.keeps hu) r hr (by have := HDl.out; omega))
                  obtain ⟨pd, hpd⟩ : ∃ q, pendS at_ D = q := ⟨_, rfl⟩
                  have HP1 := Lib.hid (fun (e : r = true) U (hu : Below w13.heap.size w13 U) => dpend_any U a c D (HSW13.out.keeps hu) (hr.trans e) at_ pd hpd)
                  have HP2 := Lib.hid (fun (e : r = true) U (hu : Below w13.heap.size w13 U) => drpend_any U a c D (HSW13.out.keeps hu) (hr.trans e) at_ pd hpd)
                  clear hr hpd
                  go_wp2
                  refine region_mono (by kernel_rfl) (by kernel_rfl) [some 231, some 232, some 233, some 234, some 235, some 236, some 237, some 238, some 239, some 240, some 241, some 242, some 243] (by kernel_rfl) w.heap.size w HB13.out (Nat.le_refl _) (fun i v WW => match i with | 0 => v = .slice a D.length c | 1 => v = .bool r | 2 => v = .bool r | 3 => v = (bif r then .slice a D.length c else undef) | 4 => v = (bif r then .pointer (some ⟨gx, 1, none⟩) else undef) | 5 => v = (bif r then .int .i64 at_ else undef) | 6 => v = (bif r then .int .i64 pd else undef) | 7 => v = (bif r then .slice a D.length c else undef) | 8 => v = (bif r then .pointer (some ⟨gx, 1, none⟩) else undef) | 9 => v = (bif r then .int .i64 at_ else undef) | 10 => v = (bif r then .int .i64 pd else undef) | 11 => v = (bif r then .bool false else undef) | 12 => v = .bool false | _ => True) ?_ ?_ ?_
                  · intro i v WW WX h hbx
                    rcases i with _ | _ | _ | _ | _ | _ | _ | _ | _ | _ | _ | _ | _ | i
                    · exact h
                    · exact h
                    · exact h
                    · exact h
                    · exact h
                    · exact h
                    · exact h
                    · exact h
                    · exact h
                    · exact h
                    · exact h
                    · exact h
                    · exact h
                    · trivial
                  · intro iI oO V AC WW ho hf hbw K hK
                    have hlt : iI < 13 := (Array.getElem?_eq_some_iff.1 ho).1
                    rcases iI with _ | _ | _ | _ | _ | _ | _ | _ | _ | _ | _ | _ | _ | iI
                    · obtain rfl := Option.some.inj (show some _ = some oO from ho)
                      rw [if_pos (by rfl)]
                      have q7 : AC.tmps.getD 7 undef = .slice a D.length c := hf.rest 7 (by kernel_rfl)
                      go_simp
                      refine hK _ _ (Below.refl _ _) ?_
                      exact rfl
                    · obtain rfl := Option.some.inj (show some _ = some oO from ho)
                      rw [if_pos (by rfl)]
                      have q231 : AC.tmps.getD 231 undef = .slice a D.length c := ((hf.dep ⟨0, .data⟩ (by simp) rfl).2 231 rfl).trans (hf.dep ⟨0, .data⟩ (by simp) rfl).1
                      go_simp
                      refine (HRt.out WW hbw).mono ?_
                      rintro e w99 ⟨rfl, hb99⟩
                      exact hK _ _ hb99 rfl
                    · obtain rfl := Option.some.inj (show some _ = some oO from ho)
                      rw [if_pos (by rfl)]
                      have q232 : AC.tmps.getD 232 undef = .bool r := ((hf.dep ⟨1, .data⟩ (by simp) rfl).2 232 rfl).trans (hf.dep ⟨1, .data⟩ (by simp) rfl).1
                      go_simp
                      refine hK _ _ (Below.refl _ _) ?_
                      exact rfl
                    · obtain rfl := Option.some.inj (show some _ = some oO from ho)
                      cases r with
                      | false =>
                        rw [if_neg (wanted_no (s := 233) rfl rfl rfl (by rw [hf.size]; simp) (show AC.tmps.getD 233 undef = .bool false from ((hf.dep ⟨2, .guard⟩ (by simp) rfl).2 233 rfl).trans (hf.dep ⟨2, .guard⟩ (by simp) rfl).1) rfl)]
                        refine hK _ _ (Below.refl _ _) ?_
                        exact rfl
                      | true =>
                        rw [if_pos (wanted_yes (s := 233) rfl rfl rfl (by rw [hf.size]; simp) (show AC.tmps.getD 233 undef = .bool true from ((hf.dep ⟨2, .guard⟩ (by simp) rfl).2 233 rfl).trans (hf.dep ⟨2, .guard⟩ (by simp) rfl).1))]
                        have q7 : AC.tmps.getD 7 undef = .slice a D.length c := hf.rest 7 (by kernel_rfl)
                        go_simp
                        refine hK _ _ (Below.refl _ _) ?_
                        exact rfl
                    · obtain rfl := Option.some.inj (show some _ = some oO from ho)
                      cases r with
                      | false =>
                        rw [if_neg (wanted_no (s := 233) rfl rfl rfl (by rw [hf.size]; simp) (show AC.tmps.getD 233 undef = .bool false from ((hf.dep ⟨2, .guard⟩ (by simp) rfl).2 233 rfl).trans (hf.dep ⟨2, .guard⟩ (by simp) rfl).1) rfl)]
                        refine hK _ _ (Below.refl _ _) ?_
                        exact rfl
                      | true =>
                        rw [if_pos (wanted_yes (s := 233) rfl rfl rfl (by rw [hf.size]; simp) (show AC.tmps.getD 233 undef = .bool true from ((hf.dep ⟨2, .guard⟩ (by simp) rfl).2 233 rfl).trans (hf.dep ⟨2, .guard⟩ (by simp) rfl).1))]
                        have q10 : AC.tmps.getD 10 undef = .pointer (some ⟨gx, 0, none⟩) := hf.rest 10 (by kernel_rfl)
                        go_simp
                        refine hK _ _ (Below.refl _ _) ?_
                        exact rfl
                    · obtain rfl := Option.some.inj (show some _ = some oO from ho)
                      cases r with
                      | false =>
                        rw [if_neg (wanted_no (s := 233) rfl rfl rfl (by rw [hf.size]; simp) (show AC.tmps.getD 233 undef = .bool false from ((hf.dep ⟨2, .guard⟩ (by simp) rfl).2 233 rfl).trans (hf.dep ⟨2, .guard⟩ (by simp) rfl).1) rfl)]
                        refine hK _ _ (Below.refl _ _) ?_
                        exact rfl
                      | true =>
                        rw [if_pos (wanted_yes (s := 233) rfl rfl rfl (by rw [hf.size]; simp) (show AC.tmps.getD 233 undef = .bool true from ((hf.dep ⟨2, .guard⟩ (by simp) rfl).2 233 rfl).trans (hf.dep ⟨2, .guard⟩ (by simp) rfl).1))]
                        have q235 : AC.tmps.getD 235 undef = .pointer (some ⟨gx, 1, none⟩) := ((hf.dep ⟨4, .data⟩ (by simp) rfl).2 235 rfl).trans (hf.dep ⟨4, .data⟩ (by simp) rfl).1
                        have hG := HG13.out.keeps hbw
                        have g1 := hG.cell 1 _ rfl
                        go_simp
                        refine hK _ _ (Below.refl _ _) ?_
                        exact rfl
                    · obtain rfl := Option.some.inj (show some _ = some oO from ho)
                      cases r with
                      | false =>
                        rw [if_neg (wanted_no (s := 233) rfl rfl rfl (by rw [hf.size]; simp) (show AC.tmps.getD 233 undef = .bool false from ((hf.dep ⟨2, .guard⟩ (by simp) rfl).2 233 rfl).trans (hf.dep ⟨2, .guard⟩ (by simp) rfl).1) rfl)]
                        refine hK _ _ (Below.refl _ _) ?_
                        exact rfl
                      | true =>
                        rw [if_pos (wanted_yes (s := 233) rfl rfl rfl (by rw [hf.size]; simp) (show AC.tmps.getD 233 undef = .bool true from ((hf.dep ⟨2, .guard⟩ (by simp) rfl).2 233 rfl).trans (hf.dep ⟨2, .guard⟩ (by simp) rfl).1))]
                        have q234 : AC.tmps.getD 234 undef = .slice a D.length c := ((hf.dep ⟨3, .data⟩ (by simp) rfl).2 234 rfl).trans (hf.dep ⟨3, .data⟩ (by simp) rfl).1
                        have q236 : AC.tmps.getD 236 undef = .int .i64 at_ := ((hf.dep ⟨5, .data⟩ (by simp) rfl).2 236 rfl).trans (hf.dep ⟨5, .data⟩ (by simp) rfl).1
                        go_simp
                        refine (HP1.out rfl WW hbw).mono ?_
                        rintro e w99 ⟨rfl, hb99⟩
                        exact hK _ _ hb99 rfl
                    · obtain rfl := Option.some.inj (show some _ = some oO from ho)
                      cases r with
                      | false =>
                        rw [if_neg (wanted_no (s := 233) rfl rfl rfl (by rw [hf.size]; simp) (show AC.tmps.getD 233 undef = .bool false from ((hf.dep ⟨2, .guard⟩ (by simp) rfl).2 233 rfl).trans (hf.dep ⟨2, .guard⟩ (by simp) rfl).1) rfl)]
                        refine hK _ _ (Below.refl _ _) ?_
                        exact rfl
                      | true =>
                        rw [if_pos (wanted_yes (s := 233) rfl rfl rfl (by rw [hf.size]; simp) (show AC.tmps.getD 233 undef = .bool true from ((hf.dep ⟨2, .guard⟩ (by simp) rfl).2 233 rfl).trans (hf.dep ⟨2, .guard⟩ (by simp) rfl).1))]
                        have q7 : AC.tmps.getD 7 undef = .slice a D.length c := hf.rest 7 (by kernel_rfl)
                        go_simp
                        refine hK _ _ (Below.refl _ _) ?_
                        exact rfl
                    · obtain rfl := Option.some.inj (show some _ = some oO from ho)
                      cases r with
                      | false =>
                        rw [if_neg (wanted_no (s := 233) rfl rfl rfl (by rw [hf.size]; simp) (show AC.tmps.getD 233 undef = .bool false from ((hf.dep ⟨2, .guard⟩ (by simp) rfl).2 233 rfl).trans (hf.dep ⟨2, .guard⟩ (by simp) rfl).1) rfl)]
                        refine hK _ _ (Below.refl _ _) ?_
                        exact rfl
                      | true =>
                        rw [if_pos (wanted_yes (s := 233) rfl rfl rfl (by rw [hf.size]; simp) (show AC.tmps.getD 233 undef = .bool true from ((hf.dep ⟨2, .guard⟩ (by simp) rfl).2 233 rfl).trans (hf.dep ⟨2, .guard⟩ (by simp) rfl).1))]
                        have q10 : AC.tmps.getD 10 undef = .pointer (some ⟨gx, 0, none⟩) := hf.rest 10 (by kernel_rfl)
                        go_simp
                        refine hK _ _ (Below.refl _ _) ?_
                        exact rfl
                    · obtain rfl := Option.some.inj (show some _ = some oO from ho)
                      cases r with
                      | false =>
                        rw [if_neg (wanted_no (s := 233) rfl rfl rfl (by rw [hf.size]; simp) (show AC.tmps.getD 233 undef = .bool false from ((hf.dep ⟨2, .guard⟩ (by simp) rfl).2 233 rfl).trans (hf.dep ⟨2, .guard⟩ (by simp) rfl).1) rfl)]
                        refine hK _ _ (Below.refl _ _) ?_
                        exact rfl
                      | true =>
                        rw [if_pos (wanted_yes (s := 233) rfl rfl rfl (by rw [hf.size]; simp) (show AC.tmps.getD 233 undef = .bool true from ((hf.dep ⟨2, .guard⟩ (by simp) rfl).2 233 rfl).trans (hf.dep ⟨2, .guard⟩ (by simp) rfl).1))]
                        have q239 : AC.tmps.getD 239 undef = .pointer (some ⟨gx, 1, none⟩) := ((hf.dep ⟨8, .data⟩ (by simp) rfl).2 239 rfl).trans (hf.dep ⟨8, .data⟩ (by simp) rfl).1
                        have hG := HG13.out.keeps hbw
                        have g1 := hG.cell 1 _ rfl
                        go_simp
                        refine hK _ _ (Below.refl _ _) ?_
                        exact rfl
                    · obtain rfl := Option.some.inj (show some _ = some oO from ho)
                      cases r with
                      | false =>
                        rw [if_neg (wanted_no (s := 233) rfl rfl rfl (by rw [hf.size]; simp) (show AC.tmps.getD 233 undef = .bool false from ((hf.dep ⟨2, .guard⟩ (by simp) rfl).2 233 rfl).trans (hf.dep ⟨2, .guard⟩ (by simp) rfl).1) rfl)]
                        refine hK _ _ (Below.refl _ _) ?_
                        exact rfl
                      | true =>
                        rw [if_pos (wanted_yes (s := 233) rfl rfl rfl (by rw [hf.size]; simp) (show AC.tmps.getD 233 undef = .bool true from ((hf.dep ⟨2, .guard⟩ (by simp) rfl).2 233 rfl).trans (hf.dep ⟨2, .guard⟩ (by simp) rfl).1))]
                        have q238 : AC.tmps.getD 238 undef = .slice a D.length c := ((hf.dep ⟨7, .data⟩ (by simp) rfl).2 238 rfl).trans (hf.dep ⟨7, .data⟩ (by simp) rfl).1
                        have q240 : AC.tmps.getD 240 undef = .int .i64 at_ := ((hf.dep ⟨9, .data⟩ (by simp) rfl).2 240 rfl).trans (hf.dep ⟨9, .data⟩ (by simp) rfl).1
                        go_simp
                        refine (HP2.out rfl WW hbw).mono ?_
                        rintro e w99 ⟨rfl, hb99⟩
                        exact hK _ _ hb99 rfl
                    · obtain rfl := Option.some.inj (show some _ = some oO from ho)
                      cases r with
                      | false =>
                        rw [if_neg (wanted_no (s := 233) rfl rfl rfl (by rw [hf.size]; simp) (show AC.tmps.getD 233 undef = .bool false from ((hf.dep ⟨2, .guard⟩ (by simp) rfl).2 233 rfl).trans (hf.dep ⟨2, .guard⟩ (by simp) rfl).1) rfl)]
                        refine hK _ _ (Below.refl _ _) ?_
                        exact rfl
                      | true =>
                        rw [if_pos (wanted_yes (s := 233) rfl rfl rfl (by rw [hf.size]; simp) (show AC.tmps.getD 233 undef = .bool true from ((hf.dep ⟨2, .guard⟩ (by simp) rfl).2 233 rfl).trans (hf.dep ⟨2, .guard⟩ (by simp) rfl).1))]
                        have q237 : AC.tmps.getD 237 undef = .int .i64 pd := ((hf.dep ⟨6, .data⟩ (by simp) rfl).2 237 rfl).trans (hf.dep ⟨6, .data⟩ (by simp) rfl).1
                        have q241 : AC.tmps.getD 241 undef = .int .i64 pd := ((hf.dep ⟨10, .data⟩ (by simp) rfl).2 241 rfl).trans (hf.dep ⟨10, .data⟩ (by simp) rfl).1
                        go_simp
                        refine hK _ _ (Below.refl _ _) ?_
                        exact (by (show Value.bool _ = Value.bool _; first | rfl | simp))
                    · obtain rfl := Option.some.inj (show some _ = some oO from ho)
                      cases r with
                      | false =>
                        rw [if_pos (by rfl)]
                        have q233 : AC.tmps.getD 233 undef = .bool false := ((hf.dep ⟨2, .data⟩ (by simp) rfl).2 233 rfl).trans (hf.dep ⟨2, .data⟩ (by simp) rfl).1
                        have q242 : AC.tmps.getD 242 undef = undef := ((hf.dep ⟨11, .data⟩ (by simp) rfl).2 242 rfl).trans (hf.dep ⟨11, .data⟩ (by simp) rfl).1
                        go_simp
                        refine hK _ _ (Below.refl _ _) ?_
                        exact rfl
                      | true =>
                        rw [if_pos (by rfl)]
                        have q233 : AC.tmps.getD 233 undef = .bool true := ((hf.dep ⟨2, .data⟩ (by simp) rfl).2 233 rfl).trans (hf.dep ⟨2, .data⟩ (by simp) rfl).1
                        have q242 : AC.tmps.getD 242 undef = .bool false := ((hf.dep ⟨11, .data⟩ (by simp) rfl).2 242 rfl).trans (hf.dep ⟨11, .data⟩ (by simp) rfl).1
                        go_simp
                        refine hK _ _ (Below.refl _ _) ?_
                        exact rfl
                    · omega
                  · intro V WW hall hbw hBW
                    have vv0 : V 0 = .slice a D.length c := hall 0 (by decide)
                    have vv1 : V 1 = .bool r := hall 1 (by decide)
                    have vv2 : V 2 = .bool r := hall 2 (by decide)
                    have vv12 : V 12 = .bool false := hall 12 (by decide)
                    clear hall
                    simp only [pairsOf, laid, Nat.zero_add, Nat.reduceAdd, vv0, vv1, vv2, vv12, List.setIfInBounds_toArray, List.set_cons_zero, List.set_cons_succ]
                    clear vv0 vv1 vv2 vv12
                    have HBe := Lib.hid hBW
                    have HNe := Lib.hid (HSW13.out.keeps hbw)
                    have HLe := Lib.hid (HSL13.out.keeps hbw)
                    clear hbw hBW HRt HP1 HP2
                    go_wp2
                    go_roundw
                    · exact ⟨k + 1, D, a, c, L, b, d, by omega, by go_num, rfl, rfl, HNe.out, HDl.out, HLe.out, HLl.out, HBe.out⟩
                    · simp [intOf]; omega
          · by_cases d3 : kd = 3
            · subst d3
              clear d0 d1 d2
              as_aux_lemma =>
                obtain ⟨q, hq⟩ : ∃ q, fundS D L at_ am = q := ⟨_, rfl⟩
                have HOp := Lib.hid (dfund_any w8 a7 c7 D HOW8.out b8 d8 L HOL8.out at_ am q hq)
                have HRp := Lib.hid (fun U (hu : Below w8.heap.size w8 U) => drfund_any U a c D (HSW8.out.keeps hu) (by have := HDl.out; omega) b d L (HSL8.out.keeps hu) (by have := HLl.out; omega) at_ am q hq)
                have HKl : Hid (q.1.length ≤ 100) := by
                  show _ ≤ _
                  rw [← hq]; exact fund_len _ _ _ _
                have HMl : Hid (q.2.1.length ≤ 40) := by
                  show _ ≤ _
                  rw [← hq]; exact fund_len2 _ _ _ _
                obtain ⟨Kd, M, ⟨x0, x1, x2, x3⟩, er⟩ := q
                replace HKl : Hid (Kd.length ≤ 100) := HKl
                replace HMl : Hid (M.length ≤ 40) := HMl
                clear hq
                go_wp2_with fail
                refine HOp.out.mono ?_
                rintro e w9 ⟨v9, u9, rfl, ho9, hp9, hb9⟩
                obtain ⟨a9, c9, rfl, hs9⟩ := OwW.sl ho9
                obtain ⟨b9, d9, rfl, ht9⟩ := OwL.sl hp9
                have hbx := hb9.alloc hb9.size (.cells #[.int .i64 x0, .int .i64 x1, .int .i64 x2, .int .i64 x3] 23)
                have HB9 := Lib.hid (below_on HB8.out HB8.out.size hbx)
                have HG9 := Lib.hid (HG8.out.keeps hbx)
                have HSW9 := Lib.hid (HSW8.out.keeps hbx)
                have HSL9 := Lib.hid (HSL8.out.keeps hbx)
                have HOW9 := Lib.hid (HOW8.out.keeps hbx)
                have HOL9 := Lib.hid (HOL8.out.keeps hbx)
                have HX9 := Lib.hid (Blk.new w9 23 [.int .i64 x0, .int .i64 x1, .int .i64 x2, .int .i64 x3])
                have HN9 := Lib.hid (hs9.alloc (.cells #[.int .i64 x0, .int .i64 x1, .int .i64 x2, .int .i64 x3] 23))
                have HY9 := Lib.hid (ht9.alloc (.cells #[.int .i64 x0, .int .i64 x1, .int .i64 x2, .int .i64 x3] 23))
                replace HN9 : Hid (SlW (w9.alloc (.cells #[.int .i64 x0, .int .i64 x1, .int .i64 x2, .int .i64 x3] 23)) a9 c9 Kd) := HN9
                replace HY9 : Hid (SlL (w9.alloc (.cells #[.int .i64 x0, .int .i64 x1, .int .i64 x2, .int .i64 x3] 23)) b9 d9 M) := HY9
                have hG := HG9.out
                have e0 := hG.cell 0 _ rfl; have e1 := hG.cell 1 _ rfl; have e2 := hG.cell 2 _ rfl; have e3 := hG.cell 3 _ rfl
                clear hG
                have HRp9 := Lib.hid (HRp.out _ hbx)
                clear ho9 hp9 hs9 ht9 hb9 hbx HOp HRp HG8 HB8 HSW8 HSL8 HOW8 HOL8
                have e1b := HG9.out.cell 1 _ rfl; have e3b := HG9.out.cell 3 _ rfl
                go_wp2_with fail
                refine HRp9.out.mono ?_
                rintro e w0 ⟨v10, u10, rfl, ho10, hp10, hb10⟩
                obtain ⟨a10, c10, rfl, hs10⟩ := OwW.sl ho10
                obtain ⟨bm, dm, rfl, ht10⟩ := OwL.sl hp10
                have hbx := hb10.alloc hb10.size (.cells #[.int .i64 x0, .int .i64 x1, .int .i64 x2, .int .i64 x3] 23)
                have HB := Lib.hid (below_on HB9.out HB9.out.size hbx)
                have HG := Lib.hid (HG9.out.keeps hbx)
                have HSW := Lib.hid (HSW9.out.keeps hbx)
                have HSL := Lib.hid (HSL9.out.keeps hbx)
                have HOW := Lib.hid (HOW9.out.keeps hbx)
                have HOL := Lib.hid (HOL9.out.keeps hbx)
                have HN := Lib.hid (HN9.out.keeps hbx)
                have HX := Lib.hid (HX9.out.keeps hbx)
                have HY := Lib.hid (HY9.out.keeps hbx)
                have HZ := Lib.hid (Blk.new w0 23 [.int .i64 x0, .int .i64 x1, .int .i64 x2, .int .i64 x3])
                have HW : Hid (SlW (w0.alloc (.cells #[.int .i64 x0, .int .i64 x1, .int .i64 x2, .int .i64 x3] 23)) a10 c10 Kd) := Rk.alloc hs10 (.cells #[.int .i64 x0, .int .i64 x1, .int .i64 x2, .int .i64 x3] 23)
                have HM : Hid (SlL (w0.alloc (.cells #[.int .i64 x0, .int .i64 x1, .int .i64 x2, .int .i64 x3] 23)) bm dm M) := Rk.alloc ht10 (.cells #[.int .i64 x0, .int .i64 x1, .int .i64 x2, .int .i64 x3] 23)
                have HSm := Lib.hid (bsame_any _ b9 d9 M bm dm M HY.out HM.out true (by simp) (by have := HMl.out; omega))
                clear ho10 hp10 hs10 ht10 hb10 hbx HRp9 e0 e1 e2 e3 e1b e3b HG9 HB9 HSW9 HSL9 HOW9 HOL9 HN9 HX9 HY9
                go_wp2_with fail
                refine HSm.out.mono ?_
                rintro e w10 ⟨rfl, hb10⟩
                have HB10 := Lib.hid (below_on HB.out HB.out.size hb10)
                have HSW10 := Lib.hid (HSW.out.keeps hb10)
                have HSL10 := Lib.hid (HSL.out.keeps hb10)
                have HOW10 := Lib.hid (HOW.out.keeps hb10)
                have HOL10 := Lib.hid (HOL.out.keeps hb10)
                have HN10 := Lib.hid (HN.out.keeps hb10)
                have HX10 := Lib.hid (HX.out.keeps hb10)
                have HZ10 := Lib.hid (HZ.out.keeps hb10)
                have HW10 := Lib.hid (HW.out.keeps hb10)
                have HM10 := Lib.hid (HM.out.keeps hb10)
                have HG10 := Lib.hid (HG.out.keeps hb10)
                clear hb10 HSm HB HG HSW HSL HOW HOL HN HX HY HZ HW HM
                have hX := HX10.out; have hZ := HZ10.out
                have z0 := hX.cell 0 _ rfl; have z1 := hX.cell 1 _ rfl; have z2 := hX.cell 2 _ rfl; have z3 := hX.cell 3 _ rfl
                have y0 := hZ.cell 0 _ rfl; have y1 := hZ.cell 1 _ rfl; have y2 := hZ.cell 2 _ rfl; have y3 := hZ.cell 3 _ rfl
                clear hX hZ
                have HSm := Lib.hid (dsame_any w10 a9 c9 Kd a10 c10 Kd HN10.out HW10.out true (by simp) (by have := HKl.out; omega))
                go_wp2_with fail
                refine HSm.out.mono ?_
                rintro e w11 ⟨rfl, hb11⟩
                have HB11 := Lib.hid (below_on HB10.out HB10.out.size hb11)
                have HG11 := Lib.hid (HG10.out.keeps hb11)
                have HW11 := Lib.hid (HW10.out.keeps hb11)
                have HOW11 := Lib.hid (HOW10.out.keeps hb11)
                have HSW11 := Lib.hid (HSW10.out.keeps hb11)
                have HOL11 := Lib.hid (HOL10.out.keeps hb11)
                have HSL11 := Lib.hid (HSL10.out.keeps hb11)
                have HM11 := Lib.hid (HM10.out.keeps hb11)
                clear z0 z1 z2 z3 y0 y1 y2 y3 HX10 HZ10 hb11 HSm HB10 HG10 HSW10 HW10 HM10 HOW10 HSL10 HOL10 HN10
                have HSm := Lib.hid (dsame_any w11 a7 c7 D a c D HOW11.out HSW11.out true (by simp) (by have := HDl.out; omega))
                go_wp2_with fail
                refine HSm.out.mono ?_
                rintro e w12 ⟨rfl, hb12⟩
                have HB12 := Lib.hid (below_on HB11.out HB11.out.size hb12)
                have HG12 := Lib.hid (HG11.out.keeps hb12)
                have HW12 := Lib.hid (HW11.out.keeps hb12)
                have HSW12 := Lib.hid (HSW11.out.keeps hb12)
                have HOL12 := Lib.hid (HOL11.out.keeps hb12)
                have HSL12 := Lib.hid (HSL11.out.keeps hb12)
                have HM12 := Lib.hid (HM11.out.keeps hb12)
                clear hb12 HSm HB11 HG11 HSW11 HW11 HM11 HOW11 HSL11 HOL11
                have HSm := Lib.hid (bsame_any w12 b8 d8 L b d L HOL12.out HSL12.out true (by simp) (by have := HLl.out; omega))
                go_wp2_with fail
                refine HSm.out.mono ?_
                rintro e w13 ⟨rfl, hb13⟩
                have HB13 := Lib.hid (below_on HB12.out HB12.out.size hb13)
                have HG13 := Lib.hid (HG12.out.keeps hb13)
                have HW13 := Lib.hid (HW12.out.keeps hb13)
                have HSW13 := Lib.hid (HSW12.out.keeps hb13)
                have HSL13 := Lib.hid (HSL12.out.keeps hb13)
                have HM13 := Lib.hid (HM12.out.keeps hb13)
                clear hb13 HSm HB12 HG12 HSW12 HW12 HM12 HSL12 HOL12
                by_cases he : er = 0
                · subst he
                  as_aux_lemma =>
                    obtain ⟨r, hr⟩ : ∃ r, rightW Kd = r := ⟨_, rfl⟩
                    have HRt := Lib.hid (fun U (hu : Below w13.heap.size w13 U) => drright_any U a10 c10 Kd (HW13.out.keeps hu) r hr (by have := HKl.out; omega))
                    obtain ⟨pd, hpd⟩ : ∃ q, pendS at_ Kd = q := ⟨_, rfl⟩
                    have HP1 := Lib.hid (fun (e : r = true) U (hu : Below w13.heap.size w13 U) => dpend_any U a10 c10 Kd (HW13.out.keeps hu) (hr.trans e) at_ pd hpd)
                    have HP2 := Lib.hid (fun (e : r = true) U (hu : Below w13.heap.size w13 U) => drpend_any U a10 c10 Kd (HW13.out.keeps hu) (hr.trans e) at_ pd hpd)
                    clear hr hpd
                    go_wp2
                    refine region_mono (by kernel_rfl) (by kernel_rfl) [some 231, some 232, some 233, some 234, some 235, some 236, some 237, some 238, some 239, some 240, some 241, some 242, some 243] (by kernel_rfl) w.heap.size w HB13.out (Nat.le_refl _) (fun i v WW => match i with | 0 => v = .slice a10 Kd.length c10 | 1 => v = .bool r | 2 => v = .bool r | 3 => v = (bif r then .slice a10 Kd.length c10 else undef) | 4 => v = (bif r then .pointer (some ⟨gx, 1, none⟩) else undef) | 5 => v = (bif r then .int .i64 at_ else undef) | 6 => v = (bif r then .int .i64 pd else undef) | 7 => v = (bif r then .slice a10 Kd.length c10 else undef) | 8 => v = (bif r then .pointer (some ⟨gx, 1, none⟩) else undef) | 9 => v = (bif r then .int .i64 at_ else undef) | 10 => v = (bif r then .int .i64 pd else undef) | 11 => v = (bif r then .bool false else undef) | 12 => v = .bool false | _ => True) ?_ ?_ ?_
                    · intro i v WW WX h hbx
                      rcases i with _ | _ | _ | _ | _ | _ | _ | _ | _ | _ | _ | _ | _ | i
                      · exact h
                      · exact h
                      · exact h
                      · exact h
                      · exact h
                      · exact h
                      · exact h
                      · exact h
                      · exact h
                      · exact h
                      · exact h
                      · exact h
                      · exact h
                      · trivial
                    · intro iI oO V AC WW ho hf hbw K hK
                      have hlt : iI < 13 := (Array.getElem?_eq_some_iff.1 ho).1
                      rcases iI with _ | _ | _ | _ | _ | _ | _ | _ | _ | _ | _ | _ | _ | iI
                      · obtain rfl := Option.some.inj (show some _ = some oO from ho)
                        rw [if_pos (by rfl)]
                        have q7 : AC.tmps.getD 7 undef = .slice a10 Kd.length c10 := hf.rest 7 (by kernel_rfl)
                        go_simp
                        refine hK _ _ (Below.refl _ _) ?_
                        exact rfl
                      · obtain rfl := Option.some.inj (show some _ = some oO from ho)
                        rw [if_pos (by rfl)]
                        have q231 : AC.tmps.getD 231 undef = .slice a10 Kd.length c10 := ((hf.dep ⟨0, .data⟩ (by simp) rfl).2 231 rfl).trans (hf.dep ⟨0, .data⟩ (by simp) rfl).1
                        go_simp
                        refine (HRt.out WW hbw).mono ?_
                        rintro e w99 ⟨rfl, hb99⟩
                        exact hK _ _ hb99 rfl
                      · obtain rfl := Option.some.inj (show some _ = some oO from ho)
                        rw [if_pos (by rfl)]
                        have q232 : AC.tmps.getD 232 undef = .bool r := ((hf.dep ⟨1, .data⟩ (by simp) rfl).2 232 rfl).trans (hf.dep ⟨1, .data⟩ (by simp) rfl).1
                        go_simp
                        refine hK _ _ (Below.refl _ _) ?_
                        exact rfl
                      · obtain rfl := Option.some.inj (show some _ = some oO from ho)
                        cases r with
                        | false =>
                          rw [if_neg (wanted_no (s := 233) rfl rfl rfl (by rw [hf.size]; simp) (show AC.tmps.getD 233 undef = .bool false from ((hf.dep ⟨2, .guard⟩ (by simp) rfl).2 233 rfl).trans (hf.dep ⟨2, .guard⟩ (by simp) rfl).1) rfl)]
                          refine hK _ _ (Below.refl _ _) ?_
                          exact rfl
                        | true =>
                          rw [if_pos (wanted_yes (s := 233) rfl rfl rfl (by rw [hf.size]; simp) (show AC.tmps.getD 233 undef = .bool true from ((hf.dep ⟨2, .guard⟩ (by simp) rfl).2 233 rfl).trans (hf.dep ⟨2, .guard⟩ (by simp) rfl).1))]
                          have q7 : AC.tmps.getD 7 undef = .slice a10 Kd.length c10 := hf.rest 7 (by kernel_rfl)
                          go_simp
                          refine hK _ _ (Below.refl _ _) ?_
                          exact rfl
                      · obtain rfl := Option.some.inj (show some _ = some oO from ho)
                        cases r with
                        | false =>
                          rw [if_neg (wanted_no (s := 233) rfl rfl rfl (by rw [hf.size]; simp) (show AC.tmps.getD 233 undef = .bool false from ((hf.dep ⟨2, .guard⟩ (by simp) rfl).2 233 rfl).trans (hf.dep ⟨2, .guard⟩ (by simp) rfl).1) rfl)]
                          refine hK _ _ (Below.refl _ _) ?_
                          exact rfl
                        | true =>
                          rw [if_pos (wanted_yes (s := 233) rfl rfl rfl (by rw [hf.size]; simp) (show AC.tmps.getD 233 undef = .bool true from ((hf.dep ⟨2, .guard⟩ (by simp) rfl).2 233 rfl).trans (hf.dep ⟨2, .guard⟩ (by simp) rfl).1))]
                          have q10 : AC.tmps.getD 10 undef = .pointer (some ⟨gx, 0, none⟩) := hf.rest 10 (by kernel_rfl)
                          go_simp
                          refine hK _ _ (Below.refl _ _) ?_
                          exact rfl
                      · obtain rfl := Option.some.inj (show some _ = some oO from ho)
                        cases r with
                        | false =>
                          rw [if_neg (wanted_no (s := 233) rfl rfl rfl (by rw [hf.size]; simp) (show AC.tmps.getD 233 undef = .bool false from ((hf.dep ⟨2, .guard⟩ (by simp) rfl).2 233 rfl).trans (hf.dep ⟨2, .guard⟩ (by simp) rfl).1) rfl)]
                          refine hK _ _ (Below.refl _ _) ?_
                          exact rfl
                        | true =>
                          rw [if_pos (wanted_yes (s := 233) rfl rfl rfl (by rw [hf.size]; simp) (show AC.tmps.getD 233 undef = .bool true from ((hf.dep ⟨2, .guard⟩ (by simp) rfl).2 233 rfl).trans (hf.dep ⟨2, .guard⟩ (by simp) rfl).1))]
                          have q235 : AC.tmps.getD 235 undef = .pointer (some ⟨gx, 1, none⟩) := ((hf.dep ⟨4, .data⟩ (by simp) rfl).2 235 rfl).trans (hf.dep ⟨4, .data⟩ (by simp) rfl).1
                          have hG := HG13.out.keeps hbw
                          have g1 := hG.cell 1 _ rfl
                          go_simp
                          refine hK _ _ (Below.refl _ _) ?_
                          exact rfl
                      · obtain rfl := Option.some.inj (show some _ = some oO from ho)
                        cases r with
                        | false =>
                          rw [if_neg (wanted_no (s := 233) rfl rfl rfl (by rw [hf.size]; simp) (show AC.tmps.getD 233 undef = .bool false from ((hf.dep ⟨2, .guard⟩ (by simp) rfl).2 233 rfl).trans (hf.dep ⟨2, .guard⟩ (by simp) rfl).1) rfl)]
                          refine hK _ _ (Below.refl _ _) ?_
                          exact rfl
                        | true =>
                          rw [if_pos (wanted_yes (s := 233) rfl rfl rfl (by rw [hf.size]; simp) (show AC.tmps.getD 233 undef = .bool true from ((hf.dep ⟨2, .guard⟩ (by simp) rfl).2 233 rfl).trans (hf.dep ⟨2, .guard⟩ (by simp) rfl).1))]
                          have q234 : AC.tmps.getD 234 undef = .slice a10 Kd.length c10 := ((hf.dep ⟨3, .data⟩ (by simp) rfl).2 234 rfl).trans (hf.dep ⟨3, .data⟩ (by simp) rfl).1
                          have q236 : AC.tmps.getD 236 undef = .int .i64 at_ := ((hf.dep ⟨5, .data⟩ (by simp) rfl).2 236 rfl).trans (hf.dep ⟨5, .data⟩ (by simp) rfl).1
                          go_simp
                          refine (HP1.out rfl WW hbw).mono ?_
                          rintro e w99 ⟨rfl, hb99⟩
                          exact hK _ _ hb99 rfl
                      · obtain rfl := Option.some.inj (show some _ = some oO from ho)
                        cases r with
                        | false =>
                          rw [if_neg (wanted_no (s := 233) rfl rfl rfl (by rw [hf.size]; simp) (show AC.tmps.getD 233 undef = .bool false from ((hf.dep ⟨2, .guard⟩ (by simp) rfl).2 233 rfl).trans (hf.dep ⟨2, .guard⟩ (by simp) rfl).1) rfl)]
                          refine hK _ _ (Below.refl _ _) ?_
                          exact rfl
                        | true =>
                          rw [if_pos (wanted_yes (s := 233) rfl rfl rfl (by rw [hf.size]; simp) (show AC.tmps.getD 233 undef = .bool true from ((hf.dep ⟨2, .guard⟩ (by simp) rfl).2 233 rfl).trans (hf.dep ⟨2, .guard⟩ (by simp) rfl).1))]
                          have q7 : AC.tmps.getD 7 undef = .slice a10 Kd.length c10 := hf.rest 7 (by kernel_rfl)
                          go_simp
                          refine hK _ _ (Below.refl _ _) ?_
                          exact rfl
                      · obtain rfl := Option.some.inj (show some _ = some oO from ho)
                        cases r with
                        | false =>
                          rw [if_neg (wanted_no (s := 233) rfl rfl rfl (by rw [hf.size]; simp) (show AC.tmps.getD 233 undef = .bool false from ((hf.dep ⟨2, .guard⟩ (by simp) rfl).2 233 rfl).trans (hf.dep ⟨2, .guard⟩ (by simp) rfl).1) rfl)]
                          refine hK _ _ (Below.refl _ _) ?_
                          exact rfl
                        | true =>
                          rw [if_pos (wanted_yes (s := 233) rfl rfl rfl (by rw [hf.size]; simp) (show AC.tmps.getD 233 undef = .bool true from ((hf.dep ⟨2, .guard⟩ (by simp) rfl).2 233 rfl).trans (hf.dep ⟨2, .guard⟩ (by simp) rfl).1))]
                          have q10 : AC.tmps.getD 10 undef = .pointer (some ⟨gx, 0, none⟩) := hf.rest 10 (by kernel_rfl)
                          go_simp
                          refine hK _ _ (Below.refl _ _) ?_
                          exact rfl
                      · obtain rfl := Option.some.inj (show some _ = some oO from ho)
                        cases r with
                        | false =>
                          rw [if_neg (wanted_no (s := 233) rfl rfl rfl (by rw [hf.size]; simp) (show AC.tmps.getD 233 undef = .bool false from ((hf.dep ⟨2, .guard⟩ (by simp) rfl).2 233 rfl).trans (hf.dep ⟨2, .guard⟩ (by simp) rfl).1) rfl)]
                          refine hK _ _ (Below.refl _ _) ?_
                          exact rfl
                        | true =>
                          rw [if_pos (wanted_yes (s := 233) rfl rfl rfl (by rw [hf.size]; simp) (show AC.tmps.getD 233 undef = .bool true from ((hf.dep ⟨2, .guard⟩ (by simp) rfl).2 233 rfl).trans (hf.dep ⟨2, .guard⟩ (by simp) rfl).1))]
                          have q239 : AC.tmps.getD 239 undef = .pointer (some ⟨gx, 1, none⟩) := ((hf.dep ⟨8, .data⟩ (by simp) rfl).2 239 rfl).trans (hf.dep ⟨8, .data⟩ (by simp) rfl).1
                          have hG := HG13.out.keeps hbw
                          have g1 := hG.cell 1 _ rfl
                          go_simp
                          refine hK _ _ (Below.refl _ _) ?_
                          exact rfl
                      · obtain rfl := Option.some.inj (show some _ = some oO from ho)
                        cases r with
                        | false =>
                          rw [if_neg (wanted_no (s := 233) rfl rfl rfl (by rw [hf.size]; simp) (show AC.tmps.getD 233 undef = .bool false from ((hf.dep ⟨2, .guard⟩ (by simp) rfl).2 233 rfl).trans (hf.dep ⟨2, .guard⟩ (by simp) rfl).1) rfl)]
                          refine hK _ _ (Below.refl _ _) ?_
                          exact rfl
                        | true =>
                          rw [if_pos (wanted_yes (s := 233) rfl rfl rfl (by rw [hf.size]; simp) (show AC.tmps.getD 233 undef = .bool true from ((hf.dep ⟨2, .guard⟩ (by simp) rfl).2 233 rfl).trans (hf.dep ⟨2, .guard⟩ (by simp) rfl).1))]
                          have q238 : AC.tmps.getD 238 undef = .slice a10 Kd.length c10 := ((hf.dep ⟨7, .data⟩ (by simp) rfl).2 238 rfl).trans (hf.dep ⟨7, .data⟩ (by simp) rfl).1
                          have q240 : AC.tmps.getD 240 undef = .int .i64 at_ := ((hf.dep ⟨9, .data⟩ (by simp) rfl).2 240 rfl).trans (hf.dep ⟨9, .data⟩ (by simp) rfl).1
                          go_simp
                          refine (HP2.out rfl WW hbw).mono ?_
                          rintro e w99 ⟨rfl, hb99⟩
                          exact hK _ _ hb99 rfl
                      · obtain rfl := Option.some.inj (show some _ = some oO from ho)
                        cases r with
                        | false =>
                          rw [if_neg (wanted_no (s := 233) rfl rfl rfl (by rw [hf.size]; simp) (show AC.tmps.getD 233 undef = .bool false from ((hf.dep ⟨2, .guard⟩ (by simp) rfl).2 233 rfl).trans (hf.dep ⟨2, .guard⟩ (by simp) rfl).1) rfl)]
                          refine hK _ _ (Below.refl _ _) ?_
                          exact rfl
                        | true =>
                          rw [if_pos (wanted_yes (s := 233) rfl rfl rfl (by rw [hf.size]; simp) (show AC.tmps.getD 233 undef = .bool true from ((hf.dep ⟨2, .guard⟩ (by simp) rfl).2 233 rfl).trans (hf.dep ⟨2, .guard⟩ (by simp) rfl).1))]
                          have q237 : AC.tmps.getD 237 undef = .int .i64 pd := ((hf.dep ⟨6, .data⟩ (by simp) rfl).2 237 rfl).trans (hf.dep ⟨6, .data⟩ (by simp) rfl).1
                          have q241 : AC.tmps.getD 241 undef = .int .i64 pd := ((hf.dep ⟨10, .data⟩ (by simp) rfl).2 241 rfl).trans (hf.dep ⟨10, .data⟩ (by simp) rfl).1
                          go_simp
                          refine hK _ _ (Below.refl _ _) ?_
                          exact (by (show Value.bool _ = Value.bool _; first | rfl | simp))
                      · obtain rfl := Option.some.inj (show some _ = some oO from ho)
                        cases r with
                        | false =>
                          rw [if_pos (by rfl)]
                          have q233 : AC.tmps.getD 233 undef = .bool false := ((hf.dep ⟨2, .data⟩ (by simp) rfl).2 233 rfl).trans (hf.dep ⟨2, .data⟩ (by simp) rfl).1
                          have q242 : AC.tmps.getD 242 undef = undef := ((hf.dep ⟨11, .data⟩ (by simp) rfl).2 242 rfl).trans (hf.dep ⟨11, .data⟩ (by simp) rfl).1
                          go_simp
                          refine hK _ _ (Below.refl _ _) ?_
                          exact rfl
                        | true =>
                          rw [if_pos (by rfl)]
                          have q233 : AC.tmps.getD 233 undef = .bool true := ((hf.dep ⟨2, .data⟩ (by simp) rfl).2 233 rfl).trans (hf.dep ⟨2, .data⟩ (by simp) rfl).1
                          have q242 : AC.tmps.getD 242 undef = .bool false := ((hf.dep ⟨11, .data⟩ (by simp) rfl).2 242 rfl).trans (hf.dep ⟨11, .data⟩ (by simp) rfl).1
                          go_simp
                          refine hK _ _ (Below.refl _ _) ?_
                          exact rfl
                      · omega
                    · intro V WW hall hbw hBW
                      have vv0 : V 0 = .slice a10 Kd.length c10 := hall 0 (by decide)
                      have vv1 : V 1 = .bool r := hall 1 (by decide)
                      have vv2 : V 2 = .bool r := hall 2 (by decide)
                      have vv12 : V 12 = .bool false := hall 12 (by decide)
                      clear hall
                      simp only [pairsOf, laid, Nat.zero_add, Nat.reduceAdd, vv0, vv1, vv2, vv12, List.setIfInBounds_toArray, List.set_cons_zero, List.set_cons_succ]
                      clear vv0 vv1 vv2 vv12
                      have HBe := Lib.hid hBW
                      have HNe := Lib.hid (HW13.out.keeps hbw)
                      have HLe := Lib.hid (HM13.out.keeps hbw)
                      clear hbw hBW HRt HP1 HP2
                      go_wp2
                      go_roundw
                      · exact ⟨k + 1, Kd, a10, c10, M, bm, dm, by omega, by go_num, rfl, rfl, HNe.out, HKl.out, HLe.out, HMl.out, HBe.out⟩
                      · simp [intOf]; omega
                · as_aux_lemma =>
                    obtain ⟨r, hr⟩ : ∃ r, rightW D = r := ⟨_, rfl⟩
                    have HRt := Lib.hid (fun U (hu : Below w13.heap.size w13 U) => drright_any U a c D (HSW13.out.keeps hu) r hr (by have := HDl.out; omega))
                    obtain ⟨pd, hpd⟩ : ∃ q, pendS at_ D = q := ⟨_, rfl⟩
                    have HP1 := Lib.hid (fun (e : r = true) U (hu : Below w13.heap.size w13 U) => dpend_any U a c D (HSW13.out.keeps hu) (hr.trans e) at_ pd hpd)
                    have HP2 := Lib.hid (fun (e : r = true) U (hu : Below w13.heap.size w13 U) => drpend_any U a c D (HSW13.out.keeps hu) (hr.trans e) at_ pd hpd)
                    clear hr hpd
                    go_wp2
                    refine region_mono (by kernel_rfl) (by kernel_rfl) [some 231, some 232, some 233, some 234, some 235, some 236, some 237, some 238, some 239, some 240, some 241, some 242, some 243] (by kernel_rfl) w.heap.size w HB13.out (Nat.le_refl _) (fun i v WW => match i with | 0 => v = .slice a D.length c | 1 => v = .bool r | 2 => v = .bool r | 3 => v = (bif r then .slice a D.length c else undef) | 4 => v = (bif r then .pointer (some ⟨gx, 1, none⟩) else undef) | 5 => v = (bif r then .int .i64 at_ else undef) | 6 => v = (bif r then .int .i64 pd else undef) | 7 => v = (bif r then .slice a D.length c else undef) | 8 => v = (bif r then .pointer (some ⟨gx, 1, none⟩) else undef) | 9 => v = (bif r then .int .i64 at_ else undef) | 10 => v = (bif r then .int .i64 pd else undef) | 11 => v = (bif r then .bool false else undef) | 12 => v = .bool false | _ => True) ?_ ?_ ?_
                    · intro i v WW WX h hbx
                      rcases i with _ | _ | _ | _ | _ | _ | _ | _ | _ | _ | _ | _ | _ | i
                      · exact h
                      · exact h
                      · exact h
                      · exact h
                      · exact h
                      · exact h
                      · exact h
                      · exact h
                      · exact h
                      · exact h
                      · exact h
                      · exact h
                      · exact h
                      · trivial
                    · intro iI oO V AC WW ho hf hbw K hK
                      have hlt : iI < 13 := (Array.getElem?_eq_some_iff.1 ho).1
                      rcases iI with _ | _ | _ | _ | _ | _ | _ | _ | _ | _ | _ | _ | _ | iI
                      · obtain rfl := Option.some.inj (show some _ = some oO from ho)
                        rw [if_pos (by rfl)]
                        have q7 : AC.tmps.getD 7 undef = .slice a D.length c := hf.rest 7 (by kernel_rfl)
                        go_simp
                        refine hK _ _ (Below.refl _ _) ?_
                        exact rfl
                      · obtain rfl := Option.some.inj (show some _ = some oO from ho)
                        rw [if_pos (by rfl)]
                        have q231 : AC.tmps.getD 231 undef = .slice a D.length c := ((hf.dep ⟨0, .data⟩ (by simp) rfl).2 231 rfl).trans (hf.dep ⟨0, .data⟩ (by simp) rfl).1
                        go_simp
                        refine (HRt.out WW hbw).mono ?_
                        rintro e w99 ⟨rfl, hb99⟩
                        exact hK _ _ hb99 rfl
                      · obtain rfl := Option.some.inj (show some _ = some oO from ho)
                        rw [if_pos (by rfl)]
                        have q232 : AC.tmps.getD 232 undef = .bool r := ((hf.dep ⟨1, .data⟩ (by simp) rfl).2 232 rfl).trans (hf.dep ⟨1, .data⟩ (by simp) rfl).1
                        go_simp
                        refine hK _ _ (Below.refl _ _) ?_
                        exact rfl
                      · obtain rfl := Option.some.inj (show some _ = some oO from ho)
                        cases r with
                        | false =>
                          rw [if_neg (wanted_no (s := 233) rfl rfl rfl (by rw [hf.size]; simp) (show AC.tmps.getD 233 undef = .bool false from ((hf.dep ⟨2, .guard⟩ (by simp) rfl).2 233 rfl).trans (hf.dep ⟨2, .guard⟩ (by simp) rfl).1) rfl)]
                          refine hK _ _ (Below.refl _ _) ?_
                          exact rfl
                        | true =>
                          rw [if_pos (wanted_yes (s := 233) rfl rfl rfl (by rw [hf.size]; simp) (show AC.tmps.getD 233 undef = .bool true from ((hf.dep ⟨2, .guard⟩ (by simp) rfl).2 233 rfl).trans (hf.dep ⟨2, .guard⟩ (by simp) rfl).1))]
                          have q7 : AC.tmps.getD 7 undef = .slice a D.length c := hf.rest 7 (by kernel_rfl)
                          go_simp
                          refine hK _ _ (Below.refl _ _) ?_
                          exact rfl
                      · obtain rfl := Option.some.inj (show some _ = some oO from ho)
                        cases r with
                        | false =>
                          rw [if_neg (wanted_no (s := 233) rfl rfl rfl (by rw [hf.size]; simp) (show AC.tmps.getD 233 undef = .bool false from ((hf.dep ⟨2, .guard⟩ (by simp) rfl).2 233 rfl).trans (hf.dep ⟨2, .guard⟩ (by simp) rfl).1) rfl)]
                          refine hK _ _ (Below.refl _ _) ?_
                          exact rfl
                        | true =>
                          rw [if_pos (wanted_yes (s := 233) rfl rfl rfl (by rw [hf.size]; simp) (show AC.tmps.getD 233 undef = .bool true from ((hf.dep ⟨2, .guard⟩ (by simp) rfl).2 233 rfl).trans (hf.dep ⟨2, .guard⟩ (by simp) rfl).1))]
                          have q10 : AC.tmps.getD 10 undef = .pointer (some ⟨gx, 0, none⟩) := hf.rest 10 (by kernel_rfl)
                          go_simp
                          refine hK _ _ (Below.refl _ _) ?_
                          exact rfl
                      · obtain rfl := Option.some.inj (show some _ = some oO from ho)
                        cases r with
                        | false =>
                          rw [if_neg (wanted_no (s := 233) rfl rfl rfl (by rw [hf.size]; simp) (show AC.tmps.getD 233 undef = .bool false from ((hf.dep ⟨2, .guard⟩ (by simp) rfl).2 233 rfl).trans (hf.dep ⟨2, .guard⟩ (by simp) rfl).1) rfl)]
                          refine hK _ _ (Below.refl _ _) ?_
                          exact rfl
                        | true =>
                          rw [if_pos (wanted_yes (s := 233) rfl rfl rfl (by rw [hf.size]; simp) (show AC.tmps.getD 233 undef = .bool true from ((hf.dep ⟨2, .guard⟩ (by simp) rfl).2 233 rfl).trans (hf.dep ⟨2, .guard⟩ (by simp) rfl).1))]
                          have q235 : AC.tmps.getD 235 undef = .pointer (some ⟨gx, 1, none⟩) := ((hf.dep ⟨4, .data⟩ (by simp) rfl).2 235 rfl).trans (hf.dep ⟨4, .data⟩ (by simp) rfl).1
                          have hG := HG13.out.keeps hbw
                          have g1 := hG.cell 1 _ rfl
                          go_simp
                          refine hK _ _ (Below.refl _ _) ?_
                          exact rfl
                      · obtain rfl := Option.some.inj (show some _ = some oO from ho)
                        cases r with
                        | false =>
                          rw [if_neg (wanted_no (s := 233) rfl rfl rfl (by rw [hf.size]; simp) (show AC.tmps.getD 233 undef = .bool false from ((hf.dep ⟨2, .guard⟩ (by simp) rfl).2 233 rfl).trans (hf.dep ⟨2, .guard⟩ (by simp) rfl).1) rfl)]
                          refine hK _ _ (Below.refl _ _) ?_
                          exact rfl
                        | true =>
                          rw [if_pos (wanted_yes (s := 233) rfl rfl rfl (by rw [hf.size]; simp) (show AC.tmps.getD 233 undef = .bool true from ((hf.dep ⟨2, .guard⟩ (by simp) rfl).2 233 rfl).trans (hf.dep ⟨2, .guard⟩ (by simp) rfl).1))]
                          have q234 : AC.tmps.getD 234 undef = .slice a D.length c := ((hf.dep ⟨3, .data⟩ (by simp) rfl).2 234 rfl).trans (hf.dep ⟨3, .data⟩ (by simp) rfl).1
                          have q236 : AC.tmps.getD 236 undef = .int .i64 at_ := ((hf.dep ⟨5, .data⟩ (by simp) rfl).2 236 rfl).trans (hf.dep ⟨5, .data⟩ (by simp) rfl).1
                          go_simp
                          refine (HP1.out rfl WW hbw).mono ?_
                          rintro e w99 ⟨rfl, hb99⟩
                          exact hK _ _ hb99 rfl
                      · obtain rfl := Option.some.inj (show some _ = some oO from ho)
                        cases r with
                        | false =>
                          rw [if_neg (wanted_no (s := 233) rfl rfl rfl (by rw [hf.size]; simp) (show AC.tmps.getD 233 undef = .bool false from ((hf.dep ⟨2, .guard⟩ (by simp) rfl).2 233 rfl).trans (hf.dep ⟨2, .guard⟩ (by simp) rfl).1) rfl)]
                          refine hK _ _ (Below.refl _ _) ?_
                          exact rfl
                        | true =>
                          rw [if_pos (wanted_yes (s := 233) rfl rfl rfl (by rw [hf.size]; simp) (show AC.tmps.getD 233 undef = .bool true from ((hf.dep ⟨2, .guard⟩ (by simp) rfl).2 233 rfl).trans (hf.dep ⟨2, .guard⟩ (by simp) rfl).1))]
                          have q7 : AC.tmps.getD 7 undef = .slice a D.length c := hf.rest 7 (by kernel_rfl)
                          go_simp
                          refine hK _ _ (Below.refl _ _) ?_
                          exact rfl
                      · obtain rfl := Option.some.inj (show some _ = some oO from ho)
                        cases r with
                        | false =>
                          rw [if_neg (wanted_no (s := 233) rfl rfl rfl (by rw [hf.size]; simp) (show AC.tmps.getD 233 undef = .bool false from ((hf.dep ⟨2, .guard⟩ (by simp) rfl).2 233 rfl).trans (hf.dep ⟨2, .guard⟩ (by simp) rfl).1) rfl)]
                          refine hK _ _ (Below.refl _ _) ?_
                          exact rfl
                        | true =>
                          rw [if_pos (wanted_yes (s := 233) rfl rfl rfl (by rw [hf.size]; simp) (show AC.tmps.getD 233 undef = .bool true from ((hf.dep ⟨2, .guard⟩ (by simp) rfl).2 233 rfl).trans (hf.dep ⟨2, .guard⟩ (by simp) rfl).1))]
                          have q10 : AC.tmps.getD 10 undef = .pointer (some ⟨gx, 0, none⟩) := hf.rest 10 (by kernel_rfl)
                          go_simp
                          refine hK _ _ (Below.refl _ _) ?_
                          exact rfl
                      · obtain rfl := Option.some.inj (show some _ = some oO from ho)
                        cases r with
                        | false =>
                          rw [if_neg (wanted_no (s := 233) rfl rfl rfl (by rw [hf.size]; simp) (show AC.tmps.getD 233 undef = .bool false from ((hf.dep ⟨2, .guard⟩ (by simp) rfl).2 233 rfl).trans (hf.dep ⟨2, .guard⟩ (by simp) rfl).1) rfl)]
                          refine hK _ _ (Below.refl _ _) ?_
                          exact rfl
                        | true =>
                          rw [if_pos (wanted_yes (s := 233) rfl rfl rfl (by rw [hf.size]; simp) (show AC.tmps.getD 233 undef = .bool true from ((hf.dep ⟨2, .guard⟩ (by simp) rfl).2 233 rfl).trans (hf.dep ⟨2, .guard⟩ (by simp) rfl).1))]
                          have q239 : AC.tmps.getD 239 undef = .pointer (some ⟨gx, 1, none⟩) := ((hf.dep ⟨8, .data⟩ (by simp) rfl).2 239 rfl).trans (hf.dep ⟨8, .data⟩ (by simp) rfl).1
                          have hG := HG13.out.keeps hbw
                          have g1 := hG.cell 1 _ rfl
                          go_simp
                          refine hK _ _ (Below.refl _ _) ?_
                          exact rfl
                      · obtain rfl := Option.some.inj (show some _ = some oO from ho)
                        cases r with
                        | false =>
                          rw [if_neg (wanted_no (s := 233) rfl rfl rfl (by rw [hf.size]; simp) (show AC.tmps.getD 233 undef = .bool false from ((hf.dep ⟨2, .guard⟩ (by simp) rfl).2 233 rfl).trans (hf.dep ⟨2, .guard⟩ (by simp) rfl).1) rfl)]
                          refine hK _ _ (Below.refl _ _) ?_
                          exact rfl
                        | true =>
                          rw [if_pos (wanted_yes (s := 233) rfl rfl rfl (by rw [hf.size]; simp) (show AC.tmps.getD 233 undef = .bool true from ((hf.dep ⟨2, .guard⟩ (by simp) rfl).2 233 rfl).trans (hf.dep ⟨2, .guard⟩ (by simp) rfl).1))]
                          have q238 : AC.tmps.getD 238 undef = .slice a D.length c := ((hf.dep ⟨7, .data⟩ (by simp) rfl).2 238 rfl).trans (hf.dep ⟨7, .data⟩ (by simp) rfl).1
                          have q240 : AC.tmps.getD 240 undef = .int .i64 at_ := ((hf.dep ⟨9, .data⟩ (by simp) rfl).2 240 rfl).trans (hf.dep ⟨9, .data⟩ (by simp) rfl).1
                          go_simp
                          refine (HP2.out rfl WW hbw).mono ?_
                          rintro e w99 ⟨rfl, hb99⟩
                          exact hK _ _ hb99 rfl
                      · obtain rfl := Option.some.inj (show some _ = some oO from ho)
                        cases r with
                        | false =>
                          rw [if_neg (wanted_no (s := 233) rfl rfl rfl (by rw [hf.size]; simp) (show AC.tmps.getD 233 undef = .bool false from ((hf.dep ⟨2, .guard⟩ (by simp) rfl).2 233 rfl).trans (hf.dep ⟨2, .guard⟩ (by simp) rfl).1) rfl)]
                          refine hK _ _ (Below.refl _ _) ?_
                          exact rfl
                        | true =>
                          rw [if_pos (wanted_yes (s := 233) rfl rfl rfl (by rw [hf.size]; simp) (show AC.tmps.getD 233 undef = .bool true from ((hf.dep ⟨2, .guard⟩ (by simp) rfl).2 233 rfl).trans (hf.dep ⟨2, .guard⟩ (by simp) rfl).1))]
                          have q237 : AC.tmps.getD 237 undef = .int .i64 pd := ((hf.dep ⟨6, .data⟩ (by simp) rfl).2 237 rfl).trans (hf.dep ⟨6, .data⟩ (by simp) rfl).1
                          have q241 : AC.tmps.getD 241 undef = .int .i64 pd := ((hf.dep ⟨10, .data⟩ (by simp) rfl).2 241 rfl).trans (hf.dep ⟨10, .data⟩ (by simp) rfl).1
                          go_simp
                          refine hK _ _ (Below.refl _ _) ?_
                          exact (by (show Value.bool _ = Value.bool _; first | rfl | simp))
                      · obtain rfl := Option.some.inj (show some _ = some oO from ho)
                        cases r with
                        | false =>
                          rw [if_pos (by rfl)]
                          have q233 : AC.tmps.getD 233 undef = .bool false := ((hf.dep ⟨2, .data⟩ (by simp) rfl).2 233 rfl).trans (hf.dep ⟨2, .data⟩ (by simp) rfl).1
                          have q242 : AC.tmps.getD 242 undef = undef := ((hf.dep ⟨11, .data⟩ (by simp) rfl).2 242 rfl).trans (hf.dep ⟨11, .data⟩ (by simp) rfl).1
                          go_simp
                          refine hK _ _ (Below.refl _ _) ?_
                          exact rfl
                        | true =>
                          rw [if_pos (by rfl)]
                          have q233 : AC.tmps.getD 233 undef = .bool true := ((hf.dep ⟨2, .data⟩ (by simp) rfl).2 233 rfl).trans (hf.dep ⟨2, .data⟩ (by simp) rfl).1
                          have q242 : AC.tmps.getD 242 undef = .bool false := ((hf.dep ⟨11, .data⟩ (by simp) rfl).2 242 rfl).trans (hf.dep ⟨11, .data⟩ (by simp) rfl).1
                          go_simp
                          refine hK _ _ (Below.refl _ _) ?_
                          exact rfl
                      · omega
                    · intro V WW hall hbw hBW
                      have vv0 : V 0 = .slice a D.length c := hall 0 (by decide)
                      have vv1 : V 1 = .bool r := hall 1 (by decide)
                      have vv2 : V 2 = .bool r := hall 2 (by decide)
                      have vv12 : V 12 = .bool false := hall 12 (by decide)
                      clear hall
                      simp only [pairsOf, laid, Nat.zero_add, Nat.reduceAdd, vv0, vv1, vv2, vv12, List.setIfInBounds_toArray, List.set_cons_zero, List.set_cons_succ]
                      clear vv0 vv1 vv2 vv12
                      have HBe := Lib.hid hBW
                      have HNe := Lib.hid (HSW13.out.keeps hbw)
                      have HLe := Lib.hid (HSL13.out.keeps hbw)
                      clear hbw hBW HRt HP1 HP2
                      go_wp2
                      go_roundw
                      · exact ⟨k + 1, D, a, c, L, b, d, by omega, by go_num, rfl, rfl, HNe.out, HDl.out, HLe.out, HLl.out, HBe.out⟩
                      · simp [intOf]; omega
            · by_cases d4 : kd = 4
              · subst d4
                clear d0 d1 d2 d3
                as_aux_lemma =>
                  obtain ⟨q, hq⟩ : ∃ q, inspS L at_ am = q := ⟨_, rfl⟩
                  have HRp := Lib.hid (rinsp_any w8 b d L HSL8.out (by have := HLl.out; omega) at_ am q hq)
                  have HMl : Hid (q.1.length ≤ 40) := by
                    show _ ≤ _
                    obtain ⟨Kd, er⟩ := q
                    by_cases e : er = 0
                    · subst e
                      have := (insp_keeps hq).2.1
                      have h2 := HLl.out
                      show Kd.length ≤ 40
                      omega
                    · have h3 := inspS_nil (by rw [hq]; exact e)
                      rw [hq] at h3
                      rw [h3]; exact Nat.zero_le _
                  obtain ⟨M, er⟩ := q
                  replace HMl : Hid (M.length ≤ 40) := HMl
                  clear hq
                  go_wp2_with fail
                  refine HRp.out.mono ?_
                  rintro e w9 ⟨v9, rfl, ho9, hb9⟩
                  have HB9 := Lib.hid (below_on HB8.out HB8.out.size hb9)
                  have HSW9 := Lib.hid (HSW8.out.keeps hb9)
                  have HSL9 := Lib.hid (HSL8.out.keeps hb9)
                  obtain ⟨b9, d9, rfl, hs9⟩ := OwL.sl ho9
                  have HM9 : Hid (SlL w9 b9 d9 M) := hs9
                  clear ho9 hs9 hb9 HRp HG8 HB8 HSW8 HSL8 HOW8 HOL8 e0 e1 e2 e3
                  by_cases he : er = 0
                  · subst he
                    go_wp2
                    go_roundw
                    · exact ⟨k + 1, D, a, c, M, b9, d9, by omega, by go_num, rfl, rfl, HSW9.out, HDl.out, HM9.out, HMl.out, HB9.out⟩
                    · simp [intOf]; omega
                  · go_wp2
                    go_roundw
                    · exact ⟨k + 1, D, a, c, L, b, d, by omega, by go_num, rfl, rfl, HSW9.out, HDl.out, HSL9.out, HLl.out, HB9.out⟩
                    · simp [intOf]; omega
              · by_cases d5 : kd = 5
                · subst d5
                  clear d0 d1 d2 d3 d4
                  as_aux_lemma =>
                    obtain ⟨q, hq⟩ : ∃ q, moveS L at_ to_ am = q := ⟨_, rfl⟩
                    have HRp := Lib.hid (rmove_any w8 b d L HSL8.out (by have := HLl.out; omega) at_ to_ am q hq)
                    have HMl : Hid (q.1.length ≤ 40) := by
                      show _ ≤ _
                      obtain ⟨Kd, er⟩ := q
                      by_cases e : er = 0
                      · subst e
                        have := (move_back hq).2.2.2.2
                        have h2 := HLl.out
                        show Kd.length ≤ 40
                        omega
                      · have h3 := moveS_nil (by rw [hq]; exact e)
                        rw [hq] at h3
                        rw [h3]; exact Nat.zero_le _
                    obtain ⟨M, er⟩ := q
                    replace HMl : Hid (M.length ≤ 40) := HMl
                    clear hq
                    go_wp2_with fail
                    refine HRp.out.mono ?_
                    rintro e w9 ⟨v9, rfl, ho9, hb9⟩
                    have HB9 := Lib.hid (below_on HB8.out HB8.out.size hb9)
                    have HSW9 := Lib.hid (HSW8.out.keeps hb9)
                    have HSL9 := Lib.hid (HSL8.out.keeps hb9)
                    obtain ⟨b9, d9, rfl, hs9⟩ := OwL.sl ho9
                    have HM9 : Hid (SlL w9 b9 d9 M) := hs9
                    clear ho9 hs9 hb9 HRp HG8 HB8 HSW8 HSL8 HOW8 HOL8 e0 e1 e2 e3
                    by_cases he : er = 0
                    · subst he
                      go_wp2
                      go_roundw
                      · exact ⟨k + 1, D, a, c, M, b9, d9, by omega, by go_num, rfl, rfl, HSW9.out, HDl.out, HM9.out, HMl.out, HB9.out⟩
                      · simp [intOf]; omega
                    · go_wp2
                      go_roundw
                      · exact ⟨k + 1, D, a, c, L, b, d, by omega, by go_num, rfl, rfl, HSW9.out, HDl.out, HSL9.out, HLl.out, HB9.out⟩
                      · simp [intOf]; omega
                · skip
                  as_aux_lemma =>
                    have HKl := HDl; have HMl := HLl
                    have HB10 := HB8; have HG10 := HG8; have HN10 := HOW8; have HW10 := HSW8; have HOW10 := HOW8; have HSW10 := HSW8; have HOL10 := HOL8; have HSL10 := HSL8; have HM10 := HSL8
                    clear HB8 HG8 HOW8 HSW8 HOL8 HSL8
                    obtain ⟨w10, hw10⟩ : ∃ W, w8 = W := ⟨_, rfl⟩
                    subst hw10
                    have HSm := Lib.hid (dsame_any w8 a7 c7 D a c D HN10.out HW10.out true (by simp) (by have := HKl.out; omega))
                    go_wp2_with fail
                    refine HSm.out.mono ?_
                    rintro e w11 ⟨rfl, hb11⟩
                    have HB11 := Lib.hid (below_on HB10.out HB10.out.size hb11)
                    have HG11 := Lib.hid (HG10.out.keeps hb11)
                    have HW11 := Lib.hid (HW10.out.keeps hb11)
                    have HOW11 := Lib.hid (HOW10.out.keeps hb11)
                    have HSW11 := Lib.hid (HSW10.out.keeps hb11)
                    have HOL11 := Lib.hid (HOL10.out.keeps hb11)
                    have HSL11 := Lib.hid (HSL10.out.keeps hb11)
                    have HM11 := Lib.hid (HM10.out.keeps hb11)
                    clear e0 e1 e2 e3 hb11 HSm HB10 HG10 HSW10 HW10 HM10 HOW10 HSL10 HOL10 HN10
                    have HSm := Lib.hid (dsame_any w11 a7 c7 D a c D HOW11.out HSW11.out true (by simp) (by have := HDl.out; omega))
                    go_wp2_with fail
                    refine HSm.out.mono ?_
                    rintro e w12 ⟨rfl, hb12⟩
                    have HB12 := Lib.hid (below_on HB11.out HB11.out.size hb12)
                    have HG12 := Lib.hid (HG11.out.keeps hb12)
                    have HW12 := Lib.hid (HW11.out.keeps hb12)
                    have HSW12 := Lib.hid (HSW11.out.keeps hb12)
                    have HOL12 := Lib.hid (HOL11.out.keeps hb12)
                    have HSL12 := Lib.hid (HSL11.out.keeps hb12)
                    have HM12 := Lib.hid (HM11.out.keeps hb12)
                    clear hb12 HSm HB11 HG11 HSW11 HW11 HM11 HOW11 HSL11 HOL11
                    have HSm := Lib.hid (bsame_any w12 b8 d8 L b d L HOL12.out HSL12.out true (by simp) (by have := HLl.out; omega))
                    go_wp2_with fail
                    refine HSm.out.mono ?_
                    rintro e w13 ⟨rfl, hb13⟩
                    have HB13 := Lib.hid (below_on HB12.out HB12.out.size hb13)
                    have HG13 := Lib.hid (HG12.out.keeps hb13)
                    have HW13 := Lib.hid (HW12.out.keeps hb13)
                    have HSW13 := Lib.hid (HSW12.out.keeps hb13)
                    have HSL13 := Lib.hid (HSL12.out.keeps hb13)
                    have HM13 := Lib.hid (HM12.out.keeps hb13)
                    clear hb13 HSm HB12 HG12 HSW12 HW12 HM12 HSL12 HOL12
                    obtain ⟨r, hr⟩ : ∃ r, rightW D = r := ⟨_, rfl⟩
                    have HRt := Lib.hid (fun U (hu : Below w13.heap.size w13 U) => drright_any U a c D (HW13.out.keeps hu) r hr (by have := HKl.out; omega))
                    obtain ⟨pd, hpd⟩ : ∃ q, pendS at_ D = q := ⟨_, rfl⟩
                    have HP1 := Lib.hid (fun (e : r = true) U (hu : Below w13.heap.size w13 U) => dpend_any U a c D (HW13.out.keeps hu) (hr.trans e) at_ pd hpd)
                    have HP2 := Lib.hid (fun (e : r = true) U (hu : Below w13.heap.size w13 U) => drpend_any U a c D (HW13.out.keeps hu) (hr.trans e) at_ pd hpd)
                    clear hr hpd
                    go_wp2
                    refine region_mono (by kernel_rfl) (by kernel_rfl) [some 231, some 232, some 233, some 234, some 235, some 236, some 237, some 238, some 239, some 240, some 241, some 242, some 243] (by kernel_rfl) w.heap.size w HB13.out (Nat.le_refl _) (fun i v WW => match i with | 0 => v = .slice a D.length c | 1 => v = .bool r | 2 => v = .bool r | 3 => v = (bif r then .slice a D.length c else undef) | 4 => v = (bif r then .pointer (some ⟨gx, 1, none⟩) else undef) | 5 => v = (bif r then .int .i64 at_ else undef) | 6 => v = (bif r then .int .i64 pd else undef) | 7 => v = (bif r then .slice a D.length c else undef) | 8 => v = (bif r then .pointer (some ⟨gx, 1, none⟩) else undef) | 9 => v = (bif r then .int .i64 at_ else undef) | 10 => v = (bif r then .int .i64 pd else undef) | 11 => v = (bif r then .bool false else undef) | 12 => v = .bool false | _ => True) ?_ ?_ ?_
                    · intro i v WW WX h hbx
                      rcases i with _ | _ | _ | _ | _ | _ | _ | _ | _ | _ | _ | _ | _ | i
                      · exact h
                      · exact h
                      · exact h
                      · exact h
                      · exact h
                      · exact h
                      · exact h
                      · exact h
                      · exact h
                      · exact h
                      · exact h
                      · exact h
                      · exact h
                      · trivial
                    · intro iI oO V AC WW ho hf hbw K hK
                      have hlt : iI < 13 := (Array.getElem?_eq_some_iff.1 ho).1
                      rcases iI with _ | _ | _ | _ | _ | _ | _ | _ | _ | _ | _ | _ | _ | iI
                      · obtain rfl := Option.some.inj (show some _ = some oO from ho)
                        rw [if_pos (by rfl)]
                        have q7 : AC.tmps.getD 7 undef = .slice a D.length c := hf.rest 7 (by kernel_rfl)
                        go_simp
                        refine hK _ _ (Below.refl _ _) ?_
                        exact rfl
                      · obtain rfl := Option.some.inj (show some _ = some oO from ho)
                        rw [if_pos (by rfl)]
                        have q231 : AC.tmps.getD 231 undef = .slice a D.length c := ((hf.dep ⟨0, .data⟩ (by simp) rfl).2 231 rfl).trans (hf.dep ⟨0, .data⟩ (by simp) rfl).1
                        go_simp
                        refine (HRt.out WW hbw).mono ?_
                        rintro e w99 ⟨rfl, hb99⟩
                        exact hK _ _ hb99 rfl
                      · obtain rfl := Option.some.inj (show some _ = some oO from ho)
                        rw [if_pos (by rfl)]
                        have q232 : AC.tmps.getD 232 undef = .bool r := ((hf.dep ⟨1, .data⟩ (by simp) rfl).2 232 rfl).trans (hf.dep ⟨1, .data⟩ (by simp) rfl).1
                        go_simp
                        refine hK _ _ (Below.refl _ _) ?_
                        exact rfl
                      · obtain rfl := Option.some.inj (show some _ = some oO from ho)
                        cases r with
                        | false =>
                          rw [if_neg (wanted_no (s := 233) rfl rfl rfl (by rw [hf.size]; simp) (show AC.tmps.getD 233 undef = .bool false from ((hf.dep ⟨2, .guard⟩ (by simp) rfl).2 233 rfl).trans (hf.dep ⟨2, .guard⟩ (by simp) rfl).1) rfl)]
                          refine hK _ _ (Below.refl _ _) ?_
                          exact rfl
                        | true =>
                          rw [if_pos (wanted_yes (s := 233) rfl rfl rfl (by rw [hf.size]; simp) (show AC.tmps.getD 233 undef = .bool true from ((hf.dep ⟨2, .guard⟩ (by simp) rfl).2 233 rfl).trans (hf.dep ⟨2, .guard⟩ (by simp) rfl).1))]
                          have q7 : AC.tmps.getD 7 undef = .slice a D.length c := hf.rest 7 (by kernel_rfl)
                          go_simp
                          refine hK _ _ (Below.refl _ _) ?_
                          exact rfl
                      · obtain rfl := Option.some.inj (show some _ = some oO from ho)
                        cases r with
                        | false =>
                          rw [if_neg (wanted_no (s := 233) rfl rfl rfl (by rw [hf.size]; simp) (show AC.tmps.getD 233 undef = .bool false from ((hf.dep ⟨2, .guard⟩ (by simp) rfl).2 233 rfl).trans (hf.dep ⟨2, .guard⟩ (by simp) rfl).1) rfl)]
                          refine hK _ _ (Below.refl _ _) ?_
                          exact rfl
                        | true =>
                          rw [if_pos (wanted_yes (s := 233) rfl rfl rfl (by rw [hf.size]; simp) (show AC.tmps.getD 233 undef = .bool true from ((hf.dep ⟨2, .guard⟩ (by simp) rfl).2 233 rfl).trans (hf.dep ⟨2, .guard⟩ (by simp) rfl).1))]
                          have q10 : AC.tmps.getD 10 undef = .pointer (some ⟨gx, 0, none⟩) := hf.rest 10 (by kernel_rfl)
                          go_simp
                          refine hK _ _ (Below.refl _ _) ?_
                          exact rfl
                      · obtain rfl := Option.some.inj (show some _ = some oO from ho)
                        cases r with
                        | false =>
                          rw [if_neg (wanted_no (s := 233) rfl rfl rfl (by rw [hf.size]; simp) (show AC.tmps.getD 233 undef = .bool false from ((hf.dep ⟨2, .guard⟩ (by simp) rfl).2 233 rfl).trans (hf.dep ⟨2, .guard⟩ (by simp) rfl).1) rfl)]
                          refine hK _ _ (Below.refl _ _) ?_
                          exact rfl
                        | true =>
                          rw [if_pos (wanted_yes (s := 233) rfl rfl rfl (by rw [hf.size]; simp) (show AC.tmps.getD 233 undef = .bool true from ((hf.dep ⟨2, .guard⟩ (by simp) rfl).2 233 rfl).trans (hf.dep ⟨2, .guard⟩ (by simp) rfl).1))]
                          have q235 : AC.tmps.getD 235 undef = .pointer (some ⟨gx, 1, none⟩) := ((hf.dep ⟨4, .data⟩ (by simp) rfl).2 235 rfl).trans (hf.dep ⟨4, .data⟩ (by simp) rfl).1
                          have hG := HG13.out.keeps hbw
                          have g1 := hG.cell 1 _ rfl
                          go_simp
                          refine hK _ _ (Below.refl _ _) ?_
                          exact rfl
                      · obtain rfl := Option.some.inj (show some _ = some oO from ho)
                        cases r with
                        | false =>
                          rw [if_neg (wanted_no (s := 233) rfl rfl rfl (by rw [hf.size]; simp) (show AC.tmps.getD 233 undef = .bool false from ((hf.dep ⟨2, .guard⟩ (by simp) rfl).2 233 rfl).trans (hf.dep ⟨2, .guard⟩ (by simp) rfl).1) rfl)]
                          refine hK _ _ (Below.refl _ _) ?_
                          exact rfl
                        | true =>
                          rw [if_pos (wanted_yes (s := 233) rfl rfl rfl (by rw [hf.size]; simp) (show AC.tmps.getD 233 undef = .bool true from ((hf.dep ⟨2, .guard⟩ (by simp) rfl).2 233 rfl).trans (hf.dep ⟨2, .guard⟩ (by simp) rfl).1))]
                          have q234 : AC.tmps.getD 234 undef = .slice a D.length c := ((hf.dep ⟨3, .data⟩ (by simp) rfl).2 234 rfl).trans (hf.dep ⟨3, .data⟩ (by simp) rfl).1
                          have q236 : AC.tmps.getD 236 undef = .int .i64 at_ := ((hf.dep ⟨5, .data⟩ (by simp) rfl).2 236 rfl).trans (hf.dep ⟨5, .data⟩ (by simp) rfl).1
                          go_simp
                          refine (HP1.out rfl WW hbw).mono ?_
                          rintro e w99 ⟨rfl, hb99⟩
                          exact hK _ _ hb99 rfl
                      · obtain rfl := Option.some.inj (show some _ = some oO from ho)
                        cases r with
                        | false =>
                          rw [if_neg (wanted_no (s := 233) rfl rfl rfl (by rw [hf.size]; simp) (show AC.tmps.getD 233 undef = .bool false from ((hf.dep ⟨2, .guard⟩ (by simp) rfl).2 233 rfl).trans (hf.dep ⟨2, .guard⟩ (by simp) rfl).1) rfl)]
                          refine hK _ _ (Below.refl _ _) ?_
                          exact rfl
                        | true =>
                          rw [if_pos (wanted_yes (s := 233) rfl rfl rfl (by rw [hf.size]; simp) (show AC.tmps.getD 233 undef = .bool true from ((hf.dep ⟨2, .guard⟩ (by simp) rfl).2 233 rfl).trans (hf.dep ⟨2, .guard⟩ (by simp) rfl).1))]
                          have q7 : AC.tmps.getD 7 undef = .slice a D.length c := hf.rest 7 (by kernel_rfl)
                          go_simp
                          refine hK _ _ (Below.refl _ _) ?_
                          exact rfl
                      · obtain rfl := Option.some.inj (show some _ = some oO from ho)
                        cases r with
                        | false =>
                          rw [if_neg (wanted_no (s := 233) rfl rfl rfl (by rw [hf.size]; simp) (show AC.tmps.getD 233 undef = .bool false from ((hf.dep ⟨2, .guard⟩ (by simp) rfl).2 233 rfl).trans (hf.dep ⟨2, .guard⟩ (by simp) rfl).1) rfl)]
                          refine hK _ _ (Below.refl _ _) ?_
                          exact rfl
                        | true =>
                          rw [if_pos (wanted_yes (s := 233) rfl rfl rfl (by rw [hf.size]; simp) (show AC.tmps.getD 233 undef = .bool true from ((hf.dep ⟨2, .guard⟩ (by simp) rfl).2 233 rfl).trans (hf.dep ⟨2, .guard⟩ (by simp) rfl).1))]
                          have q10 : AC.tmps.getD 10 undef = .pointer (some ⟨gx, 0, none⟩) := hf.rest 10 (by kernel_rfl)
                          go_simp
                          refine hK _ _ (Below.refl _ _) ?_
                          exact rfl
                      · obtain rfl := Option.some.inj (show some _ = some oO from ho)
                        cases r with
                        | false =>
                          rw [if_neg (wanted_no (s := 233) rfl rfl rfl (by rw [hf.size]; simp) (show AC.tmps.getD 233 undef = .bool false from ((hf.dep ⟨2, .guard⟩ (by simp) rfl).2 233 rfl).trans (hf.dep ⟨2, .guard⟩ (by simp) rfl).1) rfl)]
                          refine hK _ _ (Below.refl _ _) ?_
                          exact rfl
                        | true =>
                          rw [if_pos (wanted_yes (s := 233) rfl rfl rfl (by rw [hf.size]; simp) (show AC.tmps.getD 233 undef = .bool true from ((hf.dep ⟨2, .guard⟩ (by simp) rfl).2 233 rfl).trans (hf.dep ⟨2, .guard⟩ (by simp) rfl).1))]
                          have q239 : AC.tmps.getD 239 undef = .pointer (some ⟨gx, 1, none⟩) := ((hf.dep ⟨8, .data⟩ (by simp) rfl).2 239 rfl).trans (hf.dep ⟨8, .data⟩ (by simp) rfl).1
                          have hG := HG13.out.keeps hbw
                          have g1 := hG.cell 1 _ rfl
                          go_simp
                          refine hK _ _ (Below.refl _ _) ?_
                          exact rfl
                      · obtain rfl := Option.some.inj (show some _ = some oO from ho)
                        cases r with
                        | false =>
                          rw [if_neg (wanted_no (s := 233) rfl rfl rfl (by rw [hf.size]; simp) (show AC.tmps.getD 233 undef = .bool false from ((hf.dep ⟨2, .guard⟩ (by simp) rfl).2 233 rfl).trans (hf.dep ⟨2, .guard⟩ (by simp) rfl).1) rfl)]
                          refine hK _ _ (Below.refl _ _) ?_
                          exact rfl
                        | true =>
                          rw [if_pos (wanted_yes (s := 233) rfl rfl rfl (by rw [hf.size]; simp) (show AC.tmps.getD 233 undef = .bool true from ((hf.dep ⟨2, .guard⟩ (by simp) rfl).2 233 rfl).trans (hf.dep ⟨2, .guard⟩ (by simp) rfl).1))]
                          have q238 : AC.tmps.getD 238 undef = .slice a D.length c := ((hf.dep ⟨7, .data⟩ (by simp) rfl).2 238 rfl).trans (hf.dep ⟨7, .data⟩ (by simp) rfl).1
                          have q240 : AC.tmps.getD 240 undef = .int .i64 at_ := ((hf.dep ⟨9, .data⟩ (by simp) rfl).2 240 rfl).trans (hf.dep ⟨9, .data⟩ (by simp) rfl).1
                          go_simp
                          refine (HP2.out rfl WW hbw).mono ?_
                          rintro e w99 ⟨rfl, hb99⟩
                          exact hK _ _ hb99 rfl
                      · obtain rfl := Option.some.inj (show some _ = some oO from ho)
                        cases r with
                        | false =>
                          rw [if_neg (wanted_no (s := 233) rfl rfl rfl (by rw [hf.size]; simp) (show AC.tmps.getD 233 undef = .bool false from ((hf.dep ⟨2, .guard⟩ (by simp) rfl).2 233 rfl).trans (hf.dep ⟨2, .guard⟩ (by simp) rfl).1) rfl)]
                          refine hK _ _ (Below.refl _ _) ?_
                          exact rfl
                        | true =>
                          rw [if_pos (wanted_yes (s := 233) rfl rfl rfl (by rw [hf.size]; simp) (show AC.tmps.getD 233 undef = .bool true from ((hf.dep ⟨2, .guard⟩ (by simp) rfl).2 233 rfl).trans (hf.dep ⟨2, .guard⟩ (by simp) rfl).1))]
                          have q237 : AC.tmps.getD 237 undef = .int .i64 pd := ((hf.dep ⟨6, .data⟩ (by simp) rfl).2 237 rfl).trans (hf.dep ⟨6, .data⟩ (by simp) rfl).1
                          have q241 : AC.tmps.getD 241 undef = .int .i64 pd := ((hf.dep ⟨10, .data⟩ (by simp) rfl).2 241 rfl).trans (hf.dep ⟨10, .data⟩ (by simp) rfl).1
                          go_simp
                          refine hK _ _ (Below.refl _ _) ?_
                          exact (by (show Value.bool _ = Value.bool _; first | rfl | simp))
                      · obtain rfl := Option.some.inj (show some _ = some oO from ho)
                        cases r with
                        | false =>
                          rw [if_pos (by rfl)]
                          have q233 : AC.tmps.getD 233 undef = .bool false := ((hf.dep ⟨2, .data⟩ (by simp) rfl).2 233 rfl).trans (hf.dep ⟨2, .data⟩ (by simp) rfl).1
                          have q242 : AC.tmps.getD 242 undef = undef := ((hf.dep ⟨11, .data⟩ (by simp) rfl).2 242 rfl).trans (hf.dep ⟨11, .data⟩ (by simp) rfl).1
                          go_simp
                          refine hK _ _ (Below.refl _ _) ?_
                          exact rfl
                        | true =>
                          rw [if_pos (by rfl)]
                          have q233 : AC.tmps.getD 233 undef = .bool true := ((hf.dep ⟨2, .data⟩ (by simp) rfl).2 233 rfl).trans (hf.dep ⟨2, .data⟩ (by simp) rfl).1
                          have q242 : AC.tmps.getD 242 undef = .bool false := ((hf.dep ⟨11, .data⟩ (by simp) rfl).2 242 rfl).trans (hf.dep ⟨11, .data⟩ (by simp) rfl).1
                          go_simp
                          refine hK _ _ (Below.refl _ _) ?_
                          exact rfl
                      · omega
                    · intro V WW hall hbw hBW
                      have vv0 : V 0 = .slice a D.length c := hall 0 (by decide)
                      have vv1 : V 1 = .bool r := hall 1 (by decide)
                      have vv2 : V 2 = .bool r := hall 2 (by decide)
                      have vv12 : V 12 = .bool false := hall 12 (by decide)
                      clear hall
                      simp only [pairsOf, laid, Nat.zero_add, Nat.reduceAdd, vv0, vv1, vv2, vv12, List.setIfInBounds_toArray, List.set_cons_zero, List.set_cons_succ]
                      clear vv0 vv1 vv2 vv12
                      have HBe := Lib.hid hBW
                      have HNe := Lib.hid (HW13.out.keeps hbw)
                      have HLe := Lib.hid (HM13.out.keeps hbw)
                      clear hbw hBW HRt HP1 HP2
                      go_wp2
                      go_roundw
                      · exact ⟨k + 1, D, a, c, L, b, d, by omega, by go_num, rfl, rfl, HNe.out, HKl.out, HLe.out, HMl.out, HBe.out⟩
                      · simp [intOf]; omega
    · obtain rfl : k = A.length := by omega
      go_wp2
      go_ret
      exact ⟨rfl, hb⟩
set_option maxRecDepth 8000 in
theorem drawRuns_law (ao : Option Addr) (cap : Nat) (D : List Dw) (bo : Option Addr) (bcap : Nat) (L : List Ln) (co : Option Addr) (cap2 : Nat) (A : List Aw) (w : World) (h : SlW w ao cap D) (hL : SlL w bo bcap L) (hA : SlAw w co cap2 A) :
    Calls Try.prog 4 #[.slice ao D.length cap, .slice bo L.length bcap, .slice co A.length cap2] w fun e w' => e = .returned (.bool true) ∧ Below w.heap.size w w' := by
  by_cases hl : D.length ≤ 100
  · have i0 : ¬ (100 : Int) < D.length := by omega
    by_cases hl1 : L.length ≤ 40
    · have i1 : ¬ (40 : Int) < L.length := by omega
      by_cases hl2 : A.length ≤ 40
      · exact druns_core ao cap D bo bcap L co cap2 A w h hL hA hl hl1 hl2
      · have i2 : (40 : Int) < A.length := by omega
        clear hl hl1 hl2
        have HAl := Lib.hid (fun W => dalive_any W)
        clear h hL hA
        go_enter Try.func4, Try.ntmps4
        go_wp2_with fail
        refine (HAl.out _).mono ?_
        rintro e w1 ⟨rfl, hb1⟩
        go_wp2
        go_ret
        exact ⟨rfl, hb1⟩
    · have i1 : (40 : Int) < L.length := by omega
      clear hl hl1
      have HAl := Lib.hid (fun W => dalive_any W)
      clear h hL hA
      go_enter Try.func4, Try.ntmps4
      go_wp2_with fail
      refine (HAl.out _).mono ?_
      rintro e w1 ⟨rfl, hb1⟩
      go_wp2
      go_ret
      exact ⟨rfl, hb1⟩
  · have i0 : (100 : Int) < D.length := by omega
    clear hl
    have HAl := Lib.hid (fun W => dalive_any W)
    clear h hL hA
    go_enter Try.func4, Try.ntmps4
    go_wp2_with fail
    refine (HAl.out _).mono ?_
    rintro e w1 ⟨rfl, hb1⟩
    go_wp2
    go_ret
    exact ⟨rfl, hb1⟩
end Go.Proofs.Ytikfclioplploaa
