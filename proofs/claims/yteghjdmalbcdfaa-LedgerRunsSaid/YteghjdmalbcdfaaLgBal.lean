/-
  The law LedgerBalances.
-/
import Derived.Test.YteghjdmalbcdfaaLgK
import Derived.Test.YteghjdmalbcdfaaRefSum
set_option linter.unusedVariables false
set_option linter.unusedSimpArgs false
namespace Go.Proofs.Yteghjdmalbcdfaa
open Go.RowKit Dg

theorem Rk.blk_lt {w : World} {S n cap : Nat} {ao : Option Addr} {C : List Value} (h : Rk w S ao n cap C) (hn : C ≠ []) : ∀ a, ao = some a → a.block < w.heap.size := by
  intro a ha
  obtain ⟨g, off, e, hc⟩ := h.cells hn
  obtain rfl : a = ⟨g, off, none⟩ := by rw [ha] at e; exact Option.some.inj e
  obtain ⟨u, hu⟩ : ∃ u, C[0]? = some u := ⟨_, List.getElem?_eq_getElem (List.length_pos_iff.2 hn)⟩
  exact World.block_lt_of_cell? w _ (hc 0 u hu)
theorem Sl.fr' {w w' : World} {n cap b : Nat} {ao : Option Addr} {C : List Value} {row : Option Nat} (h : Sl w ao n cap C) (hf : Fr b row w w') (hne : C ≠ [] → ∀ a, ao = some a → a.block ≠ b ∧ some a.block ≠ row) : Sl w' ao n cap C :=
  ⟨h.len, h.room, h.nil, fun hn => by
    obtain ⟨g, off, e, hc⟩ := h.cells hn
    obtain ⟨n1, n2⟩ := hne hn _ e
    exact ⟨g, off, e, fun j u hu => by
      have h1 := hc j u hu
      have hlt : g < w.heap.size := World.block_lt_of_cell? w _ h1
      rw [World.cell?_of_block (hf.block g hlt n1 n2)]; exact h1⟩⟩
theorem rc_ne {L : List Lg} (h : L ≠ []) : rc lgc L ≠ [] := by
  intro e
  have := rc_len lgc_len L
  rw [e] at this
  exact h (List.eq_nil_of_length_eq_zero (by simp at this; omega))
set_option maxRecDepth 8000 in
set_option maxHeartbeats 8000000 in
theorem bal_core (ao : Option Addr) (cap : Nat) (A : List Ak) (mo : Option Addr) (mc : Nat) (M : List Lg) (w : World) (h : SlK w ao cap A) (hA : ∀ t ∈ A, LegsAt w t) (hm : SlG w mo mc M) (hMr : ∀ x ∈ M, -9223372036854775808 ≤ x.2 ∧ x.2 ≤ 9223372036854775807) (hg : greatA A = false) (hl : M.length ≤ 40) :
    Calls Try.prog 4 #[.slice ao A.length cap, .slice mo M.length mc] w fun e w' => e = .returned (.bool true) ∧ Below w.heap.size w w' := by
  have HAl := Lib.hid (fun W => lalive_any W)
  have HA := Lib.hid hA; have H := Lib.hid h; have HM := Lib.hid hm; have HMr := Lib.hid hMr
  have HG := Lib.hid (fun U (hu : Below w.heap.size w U) => great_any U ao cap A (h.keeps hu) (fun t ht => (hA t ht).keeps hu) false hg)
  have h40 : ¬ (40 : Int) < M.length := by omega
  have HM40 := Lib.hid hl
  have HA60 : Hid (A.length ≤ 60) := by
    show _ ≤ _
    unfold greatA at hg
    rw [Bool.or_eq_false_iff] at hg
    have := hg.1
    simp at this; exact this
  have HAl40 : Hid (∀ t ∈ A, t.2.2.2.length ≤ 40) := by
    intro t ht
    unfold greatA at hg
    rw [Bool.or_eq_false_iff] at hg
    have := List.any_eq_false.1 hg.2 t ht
    simpa using this
  clear hA h hm hMr hg hl
  go_enter Try.func4, Try.ntmps4
  go_wp2_with fail
  refine (HAl.out _).mono ?_
  rintro e w1 ⟨rfl, hb1⟩
  have HB1 := Lib.hid hb1
  go_wp2_with fail
  refine (HG.out _ hb1).mono ?_
  rintro e w2 ⟨rfl, hb2⟩
  have HB2 := Lib.hid (below_on HB1.out HB1.out.size hb2)
  have HN := Lib.hid (new_any w2)
  obtain ⟨w3, hw3⟩ : ∃ w3, w3 = w2.alloc (.cells (.slice none 0 0 :: ic z8).toArray 64) := ⟨_, rfl⟩
  have HB3 : Hid (Below w.heap.size w w3) := by show Below _ _ _; rw [hw3]; exact HB2.out.alloc HB2.out.size _
  have HL3 : Hid (Led w3 w.heap.size w2.heap.size (.slice none 0 0) [] z8 []) := by show Led _ _ _ _ _ _ _; rw [hw3]; exact Led.new w2 _ HB2.out.size
  rw [← hw3] at HN
  obtain ⟨b, hbe⟩ : ∃ b, w2.heap.size = b := ⟨_, rfl⟩
  have HBE := Lib.hid (show w.heap.size ≤ b by rw [← hbe]; exact HB2.out.size)
  rw [hbe] at HN HL3
  clear hw3 hbe HG hb1 hb2
  go_wp2_with fail
  refine HN.out.mono ?_
  rintro e w3' ⟨rfl, rfl⟩
  clear HN
  go_wp2
  go_loopw [32] (fun i wr => ∃ (k : Nat) (v : Value) (C : List Value) (T : List Int) (E : List (List Lg)), k ≤ A.length ∧ i = .int .i64 k ∧ Hid (Led wr w.heap.size b v C T E) ∧ Hid (OkB T) ∧ Hid (OkE E k) ∧ Below w.heap.size w wr) (fun i _ => A.length - (intOf i).toNat)
  case atStart => exact ⟨0, _, _, _, _, by omega, rfl, HL3.out, OkB.zero, OkE.nil 0, HB3.out⟩
  case round =>
    obtain ⟨k, v, C, T, E, hk, rfl, HL, HT, HE, hb⟩ := hrel
    have hA60 := HA60.out
    by_cases hkl : k < A.length
    · obtain ⟨⟨kd, at_, u, L⟩, ht⟩ : ∃ t, A[k]? = some t := ⟨_, List.getElem?_eq_getElem hkl⟩
      have htm := List.mem_of_getElem? ht
      obtain ⟨po, pc, hu, hs, hr⟩ := HA.out _ htm
      obtain rfl : u = .slice po L.length pc := hu
      replace hs : SlG w po pc L := hs
      replace hr : ∀ x ∈ L, -9223372036854775808 ≤ x.2 ∧ x.2 ≤ 9223372036854775807 := hr
      have hl40 : L.length ≤ 40 := HAl40.out _ htm
      have HT1 := Lib.hid ht
      have hwA := H.out.keeps hb
      have HBx := Lib.hid (hb.alloc hb.size (.cells #[.int .i64 kd, .int .i64 at_, .slice po L.length pc] 36))
      have HGx := Lib.hid (Blk.new wr 36 [.int .i64 kd, .int .i64 at_, .slice po L.length pc])
      have HLx := Lib.hid (HL.out.keeps (below_new1 wr (.cells #[.int .i64 kd, .int .i64 at_, .slice po L.length pc] 36)))
      have HVB := Lib.hid (own_base HL.out.row)
      have HBlt := Lib.hid HL.out.blk.lt
      have hE60 : E.length ≤ 100000 := by have := HE.out.len; have := HA60.out; omega
      have HLEG := Lib.hid (hs.keeps HBx.out)
      have HAO : Hid (L ≠ [] → ∀ a, po = some a → a.block ≠ b ∧ some a.block ≠ v.ownBlock) := fun hn a ha => by
        have h1 := Rk.blk_lt hs (rc_ne hn) a ha
        have h2 := HBE.out
        exact ⟨by omega, fun e => by have := (HVB.out _ e.symm).1; omega⟩
      have HE60 := Lib.hid hE60; have HLr := Lib.hid hr; have HL40 := Lib.hid hl40
      clear ht htm hs hr hl40 hE60 HL
      by_cases d0 : kd = 0
      · subst d0
        obtain ⟨s, hs⟩ : ∃ s, postS T E L = s := ⟨_, rfl⟩
        have HP := Lib.hid (post_any _ _ _ _ _ _ _ HLx.out HBx.out.size HE60.out HT.out.rng po pc L HLEG.out HAO.out (by have := HL40.out; omega) HLr.out s hs)
        have hok := post_ok HT.out HE.out HLr.out hs
        obtain ⟨T8, E8, n8, e8⟩ := s
        have HT8 : Hid (OkB T8) := hok.1; have HE8 : Hid (OkE E8 (k + 1)) := hok.2
        clear hs hok hb
        go_wp2_with (first | (refine ix_ak rfl _ _ rfl ao cap A hwA rfl k _ HT1.out rfl ?_; intro bb off k0 k1 k2) | fail)
        refine HP.out.mono ?_
        rintro e w8 ⟨rfl, ⟨v8, C8, hl8, h8⟩, hf8⟩
        have HL8 := Lib.hid hl8
        have HB8 := Lib.hid (hf8.below HBx.out (Nat.le_refl _) HBE.out (fun g hg => (HVB.out g hg).1))
        have hG := HGx.out.fr hf8 (by have := HBlt.out; omega) (fun e => by have := (HVB.out _ e.symm).2; omega)
        have e0 := hG.cell 0 _ rfl
        clear hl8 h8 hf8 hG HP k0 k1 k2 hwA HLx HGx HBx
        have HTr := Lib.hid (trial_any _ _ _ _ _ _ _ HL8.out)
        go_wp2_with fail
        refine HTr.out.mono ?_
        rintro e w9 ⟨v9, rfl, ho9, hb9⟩
        obtain ⟨a9, c9, rfl, hs9⟩ := OwI.sl ho9
        have HB9 := Lib.hid (below_on HB8.out HB8.out.size hb9)
        have HL9 := Lib.hid (HL8.out.keeps hb9)
        have HSm := Lib.hid (rsum_any w9 a9 c9 T8 hs9 (by rw [HT8.out.len]; decide) HT8.out.rng)
        rw [HT8.out.sum, cutI_in (by decide) (by decide)] at HSm
        clear ho9 hb9 hs9 HTr
        go_wp2_with fail
        refine HSm.out.mono ?_
        rintro e w10 ⟨rfl, hb10⟩
        have HB10 := Lib.hid (below_on HB9.out HB9.out.size hb10)
        have HL10 := Lib.hid (HL9.out.keeps hb10)
        obtain ⟨⟨sa, sb, sf⟩, hsd⟩ : ∃ s, sidesS T8 = s := ⟨_, rfl⟩
        have HSd := Lib.hid (sides_any _ _ _ _ _ _ _ HL10.out HT8.out.rng _ hsd)
        have hok := sides_ok HT8.out.sum hsd
        clear hb10 HSm hsd
        go_wp2_with fail
        refine HSd.out.mono ?_
        rintro e w11 ⟨rfl, hb11⟩
        have HB11 := Lib.hid (below_on HB10.out HB10.out.size hb11)
        have HL11 := Lib.hid (HL10.out.keeps hb11)
        clear hb11 HSd
        rcases hok with ⟨q1, q2, q3⟩ | q1
        · replace q1 : sf = 0 := q1; replace q2 : sa = sb := q2; replace q3 : 0 ≤ sa := q3
          subst q1; subst q2
          have q3' : ¬ sa < 0 := by omega
          clear q3
          go_wp2
          go_roundw
          · exact ⟨k + 1, _, _, _, _, by omega, by go_num, HL11.out, HT8.out, HE8.out, HB11.out⟩
          · simp [intOf]; omega
        · replace q1 : sf = 11 := q1
          subst q1
          go_wp2
          go_roundw
          · exact ⟨k + 1, _, _, _, _, by omega, by go_num, HL11.out, HT8.out, HE8.out, HB11.out⟩
          · simp [intOf]; omega
      · by_cases d1 : kd = 1
        · subst d1
          obtain ⟨s, hs⟩ : ∃ s, revS T E at_ = s := ⟨_, rfl⟩
          have HP := Lib.hid (reverse_any _ _ _ _ _ _ _ HLx.out HBx.out.size HE60.out HT.out.rng HE.out.sz HE.out.rng at_ s hs)
          have hok := rev_ok HT.out HE.out hs
          obtain ⟨T8, E8, n8, e8⟩ := s
          have HT8 : Hid (OkB T8) := hok.1; have HE8 : Hid (OkE E8 (k + 1)) := hok.2
          clear hs hok hb d0
          go_wp2_with (first | (refine ix_ak rfl _ _ rfl ao cap A hwA rfl k _ HT1.out rfl ?_; intro bb off k0 k1 k2) | fail)
          refine HP.out.mono ?_
          rintro e w8 ⟨rfl, ⟨v8, C8, hl8, h8⟩, hf8⟩
          have HL8 := Lib.hid hl8
          have HB8 := Lib.hid (hf8.below HBx.out (Nat.le_refl _) HBE.out (fun g hg => (HVB.out g hg).1))
          have hG := HGx.out.fr hf8 (by have := HBlt.out; omega) (fun e => by have := (HVB.out _ e.symm).2; omega)
          clear hl8 h8 hf8 hG HP k0 k1 k2 hwA HLx HGx HBx
          have HTr := Lib.hid (trial_any _ _ _ _ _ _ _ HL8.out)
          go_wp2_with fail
          refine HTr.out.mono ?_
          rintro e w9 ⟨v9, rfl, ho9, hb9⟩
          obtain ⟨a9, c9, rfl, hs9⟩ := OwI.sl ho9
          have HB9 := Lib.hid (below_on HB8.out HB8.out.size hb9)
          have HL9 := Lib.hid (HL8.out.keeps hb9)
          have HSm := Lib.hid (rsum_any w9 a9 c9 T8 hs9 (by rw [HT8.out.len]; decide) HT8.out.rng)
          rw [HT8.out.sum, cutI_in (by decide) (by decide)] at HSm
          clear ho9 hb9 hs9 HTr
          go_wp2_with fail
          refine HSm.out.mono ?_
          rintro e w10 ⟨rfl, hb10⟩
          have HB10 := Lib.hid (below_on HB9.out HB9.out.size hb10)
          have HL10 := Lib.hid (HL9.out.keeps hb10)
          obtain ⟨⟨sa, sb, sf⟩, hsd⟩ : ∃ s, sidesS T8 = s := ⟨_, rfl⟩
          have HSd := Lib.hid (sides_any _ _ _ _ _ _ _ HL10.out HT8.out.rng _ hsd)
          have hok := sides_ok HT8.out.sum hsd
          clear hb10 HSm hsd
          go_wp2_with fail
          refine HSd.out.mono ?_
          rintro e w11 ⟨rfl, hb11⟩
          have HB11 := Lib.hid (below_on HB10.out HB10.out.size hb11)
          have HL11 := Lib.hid (HL10.out.keeps hb11)
          clear hb11 HSd
          rcases hok with ⟨q1, q2, q3⟩ | q1
          · replace q1 : sf = 0 := q1; replace q2 : sa = sb := q2; replace q3 : 0 ≤ sa := q3
            subst q1; subst q2
            have q3' : ¬ sa < 0 := by omega
            clear q3
            go_wp2
            go_roundw
            · exact ⟨k + 1, _, _, _, _, by omega, by go_num, HL11.out, HT8.out, HE8.out, HB11.out⟩
            · simp [intOf]; omega
          · replace q1 : sf = 11 := q1
            subst q1
            go_wp2
            go_roundw
            · exact ⟨k + 1, _, _, _, _, by omega, by go_num, HL11.out, HT8.out, HE8.out, HB11.out⟩
            · simp [intOf]; omega
        · have HT8 := HT
          have HE8 : Hid (OkE E (k + 1)) := HE.out.more (by omega)
          have HL8 := HLx
          have HB8 := HBx
          clear hb
          have HTr := Lib.hid (trial_any _ _ _ _ _ _ _ HL8.out)
          go_wp2_with (first | (refine ix_ak rfl _ _ rfl ao cap A hwA rfl k _ HT1.out rfl ?_; intro bb off k0 k1 k2) | fail)
          clear k0 k1 k2 hwA HLx HGx HBx
          refine HTr.out.mono ?_
          rintro e w9 ⟨v9, rfl, ho9, hb9⟩
          obtain ⟨a9, c9, rfl, hs9⟩ := OwI.sl ho9
          have HB9 := Lib.hid (below_on HB8.out HB8.out.size hb9)
          have HL9 := Lib.hid (HL8.out.keeps hb9)
          have HSm := Lib.hid (rsum_any w9 a9 c9 T hs9 (by rw [HT.out.len]; decide) HT.out.rng)
          rw [HT.out.sum, cutI_in (by decide) (by decide)] at HSm
          clear ho9 hb9 hs9 HTr
          go_wp2_with fail
          refine HSm.out.mono ?_
          rintro e w10 ⟨rfl, hb10⟩
          have HB10 := Lib.hid (below_on HB9.out HB9.out.size hb10)
          have HL10 := Lib.hid (HL9.out.keeps hb10)
          obtain ⟨⟨sa, sb, sf⟩, hsd⟩ : ∃ s, sidesS T = s := ⟨_, rfl⟩
          have HSd := Lib.hid (sides_any _ _ _ _ _ _ _ HL10.out HT.out.rng _ hsd)
          have hok := sides_ok HT.out.sum hsd
          clear hb10 HSm hsd
          go_wp2_with fail
          refine HSd.out.mono ?_
          rintro e w11 ⟨rfl, hb11⟩
          have HB11 := Lib.hid (below_on HB10.out HB10.out.size hb11)
          have HL11 := Lib.hid (HL10.out.keeps hb11)
          clear hb11 HSd
          rcases hok with ⟨q1, q2, q3⟩ | q1
          · replace q1 : sf = 0 := q1; replace q2 : sa = sb := q2; replace q3 : 0 ≤ sa := q3
            subst q1; subst q2
            have q3' : ¬ sa < 0 := by omega
            clear q3
            go_wp2
            go_roundw
            · exact ⟨k + 1, _, _, _, _, by omega, by go_num, HL11.out, HT.out, HE8.out, HB11.out⟩
            · simp [intOf]; omega
          · replace q1 : sf = 11 := q1
            subst q1
            go_wp2
            go_roundw
            · exact ⟨k + 1, _, _, _, _, by omega, by go_num, HL11.out, HT.out, HE8.out, HB11.out⟩
            · simp [intOf]; omega
    · obtain rfl : k = A.length := by omega
      have HBB := Lib.hid hb
      have HVB := Lib.hid (own_base HL.out.row)
      have HTr := Lib.hid (trial_any _ _ _ _ _ _ _ HL.out)
      have HE60 : Hid (E.length ≤ 60) := by show _ ≤ _; have := HE.out.len; have := HA60.out; omega
      clear hb
      go_wp2_with fail
      refine HTr.out.mono ?_
      rintro e w20 ⟨v20, rfl, ho20, hb20⟩
      have HOB := Lib.hid (own_base ho20)
      obtain ⟨a20, c20, rfl, hs20⟩ := OwI.sl ho20
      have HS20 := Lib.hid hs20
      have HB20 := Lib.hid (below_on HBB.out HBB.out.size hb20)
      have HL20 := Lib.hid (HL.out.keeps hb20)
      have HBb := Lib.hid HL.out.blk.lt
      obtain ⟨s, hs⟩ : ∃ s, postS T E M = s := ⟨_, rfl⟩
      have HP := Lib.hid (post_any _ _ _ _ _ _ _ HL20.out HB20.out.size (by have := HE60.out; omega) HT.out.rng mo mc M (HM.out.keeps HB20.out) (fun hn a ha => by
        have h1 := Rk.blk_lt HM.out (rc_ne hn) a ha
        have h2 := HBE.out
        exact ⟨by omega, fun e => by have := (HVB.out _ e.symm).1; omega⟩) (by have := HM40.out; omega) HMr.out s hs)
      have HCa := Lib.hid (post_cases hs)
      have HPo := Lib.hid (fun h0 => post_back (q := _) HT.out.len hs h0 rfl)
      have HOk := Lib.hid (post_ok HT.out HE.out HMr.out hs)
      obtain ⟨T1, E1, n1, er⟩ := s
      clear hs hs20 ho20 hb20 HTr HL
      go_wp2_with fail
      refine HP.out.mono ?_
      rintro e w21 ⟨rfl, ⟨v21, C21, hl21, h21⟩, hf21⟩
      have HL21 := Lib.hid hl21
      have HV21 := Lib.hid h21
      have HB21 := Lib.hid (hf21.below HB20.out (Nat.le_refl _) HBE.out (fun g hg => (HVB.out g hg).1))
      have HS21 : Hid (Sl w21 a20 T.length c20 (ic T)) := Sl.fr' HS20.out hf21 (fun _ a ha => by
        have h1 := (HOB.out a.block (by rw [ha]; rfl)).1
        have h2 := HBb.out
        exact ⟨by omega, fun e => by have := (HVB.out _ e.symm).2; omega⟩)
      clear hl21 h21 hf21 HP
      by_cases her : er = 0
      · subst her
        obtain ⟨q, hq⟩ : ∃ q, revS T1 E1 n1 = q := ⟨_, rfl⟩
        have hc := HPo.out rfl
        replace hc : (q.2.2.2 = 0 ∧ q.1 = T) ∨ q.2.2.2 = 11 ∨ q.2.2.2 = 132 := by rw [← hq]; exact hc
        have HRv := Lib.hid (reverse_any _ _ _ _ _ _ _ HL21.out HB21.out.size (by have h1 := HOk.out.2.len; have h2 := HA60.out; show E1.length ≤ _; replace h1 : E1.length ≤ _ := h1; omega) HOk.out.1.rng HOk.out.2.sz HOk.out.2.rng n1 q hq)
        have HVB1 := Lib.hid (own_base HL21.out.row)
        obtain ⟨T2, E2, n2, e2⟩ := q
        clear hq HPo HCa HOk
        go_wp2_with fail
        refine HRv.out.mono ?_
        rintro e w22 ⟨rfl, ⟨v22, C22, hl22, h22⟩, hf22⟩
        have HB22 := Lib.hid (hf22.below HB21.out (Nat.le_refl _) HBE.out (fun g hg => (HVB1.out g hg).1))
        have HS22 : Hid (Sl w22 a20 T.length c20 (ic T)) := Sl.fr' HS21.out hf22 (fun hn a ha => by
          have h1 := (HOB.out a.block (by rw [ha]; rfl)).1
          have h4 := (HOB.out a.block (by rw [ha]; rfl)).2
          have h2 := HBb.out
          refine ⟨by omega, fun e => ?_⟩
          rcases HV21.out _ e.symm with h | h
          · have := (HVB.out _ h).2; omega
          · omega)
        have HL22a := Lib.hid hl22
        clear hl22 h22 hf22 HRv
        rcases hc with ⟨q0, q1⟩ | q0 | q0
        · replace q0 : e2 = 0 := q0; replace q1 : T2 = T := q1
          subst q0; subst q1
          have HL22 := HL22a
          have HTr2 := Lib.hid (trial_any _ _ _ _ _ _ _ HL22.out)
          go_wp2_with fail
          refine HTr2.out.mono ?_
          rintro e w23 ⟨v23, rfl, ho23, hb23⟩
          obtain ⟨a23, c23, rfl, hs23⟩ := OwI.sl ho23
          have HB23 := Lib.hid (below_on HB22.out HB22.out.size hb23)
          have HSa := Lib.hid (HS22.out.keeps hb23)
          have HSb := Lib.hid hs23
          clear ho23 hb23 hs23 HTr2
          go_wp2
          go_loopw [118] (fun i wr => ∃ j : Nat, j ≤ T2.length ∧ i = .int .i64 j ∧ Below w23.heap.size w23 wr) (fun i _ => T2.length - (intOf i).toNat)
          case atStart => exact ⟨0, by omega, rfl, Below.refl _ _⟩
          case round =>
            obtain ⟨j, hj, rfl, hbj⟩ := hrel
            by_cases hjl : j < T2.length
            · have hT9 : T2.length ≤ 8 := by rw [HT.out.len]; decide
              obtain ⟨x, hx⟩ : ∃ x, T2[j]? = some x := ⟨_, List.getElem?_eq_getElem hjl⟩
              have hx2 := ic_at hx
              obtain ⟨g1, o1, rfl, hc1⟩ := (HSa.out.keeps hbj).cells (by intro e; rw [e] at hx2; simp at hx2)
              obtain ⟨g2, o2, rfl, hc2⟩ := (HSb.out.keeps hbj).cells (by intro e; rw [e] at hx2; simp at hx2)
              have d1 := hc1 _ _ hx2; have d2 := hc2 _ _ hx2
              have HTL := Lib.hid HT.out.len
              clear hx hx2 hc1 hc2
              go_wp2
              go_quiet (fail)
              go_wp2
              go_roundw
              · exact ⟨j + 1, by omega, by go_num, pw_belowN hbj _⟩
              · simp [intOf]; omega
            · obtain rfl : j = T2.length := by omega
              go_wp2
              go_ret
              exact ⟨rfl, below_on HB23.out HB23.out.size hbj⟩
        · replace q0 : e2 = 11 := q0
          subst q0
          go_wp2
          go_ret
          exact ⟨rfl, HB22.out⟩
        · replace q0 : e2 = 132 := q0
          subst q0
          go_wp2
          go_ret
          exact ⟨rfl, HB22.out⟩
      · have ht1 : T1 = T := by
          rcases HCa.out with ⟨_, h, _⟩ | ⟨h, _⟩
          · exact h
          · exact absurd h her
        subst ht1
        have HL22 := HL21; have HS22 := HS21; have HB22 := HB21
        clear HPo HCa HOk
        have HTr2 := Lib.hid (trial_any _ _ _ _ _ _ _ HL22.out)
        go_wp2_with fail
        refine HTr2.out.mono ?_
        rintro e w23 ⟨v23, rfl, ho23, hb23⟩
        obtain ⟨a23, c23, rfl, hs23⟩ := OwI.sl ho23
        have HB23 := Lib.hid (below_on HB22.out HB22.out.size hb23)
        have HSa := Lib.hid (HS22.out.keeps hb23)
        have HSb := Lib.hid hs23
        clear ho23 hb23 hs23 HTr2
        go_wp2
        go_loopw [118] (fun i wr => ∃ j : Nat, j ≤ T1.length ∧ i = .int .i64 j ∧ Below w23.heap.size w23 wr) (fun i _ => T1.length - (intOf i).toNat)
        case atStart => exact ⟨0, by omega, rfl, Below.refl _ _⟩
        case round =>
          obtain ⟨j, hj, rfl, hbj⟩ := hrel
          by_cases hjl : j < T1.length
          · have hT9 : T1.length ≤ 8 := by rw [HT.out.len]; decide
            obtain ⟨x, hx⟩ : ∃ x, T1[j]? = some x := ⟨_, List.getElem?_eq_getElem hjl⟩
            have hx2 := ic_at hx
            obtain ⟨g1, o1, rfl, hc1⟩ := (HSa.out.keeps hbj).cells (by intro e; rw [e] at hx2; simp at hx2)
            obtain ⟨g2, o2, rfl, hc2⟩ := (HSb.out.keeps hbj).cells (by intro e; rw [e] at hx2; simp at hx2)
            have d1 := hc1 _ _ hx2; have d2 := hc2 _ _ hx2
            have HTL := Lib.hid HT.out.len
            clear hx hx2 hc1 hc2
            go_wp2
            go_quiet (fail)
            go_wp2
            go_roundw
            · exact ⟨j + 1, by omega, by go_num, pw_belowN hbj _⟩
            · simp [intOf]; omega
          · obtain rfl : j = T1.length := by omega
            go_wp2
            go_ret
            exact ⟨rfl, below_on HB23.out HB23.out.size hbj⟩
theorem wf_inB {x : Int} (h : (Lit.int .i64 x).wf = true) : -9223372036854775808 ≤ x ∧ x ≤ 9223372036854775807 := by
  simp [Lit.wf, IntKind.min, IntKind.max, IntKind.signed, IntKind.bits] at h; omega
set_option maxRecDepth 8000 in
theorem ledgerBalances_law (ao : Option Addr) (cap : Nat) (A : List Ak) (mo : Option Addr) (mc : Nat) (M : List Lg) (wM : ∀ a ∈ M, ∀ z ∈ [a.1, a.2], (Lit.int .i64 z).wf = true) (w : World) (h : SlK w ao cap A ∧ ∀ t ∈ A, LegsAt w t) (hm : SlG w mo mc M) :
    Calls Try.prog 4 #[.slice ao A.length cap, .slice mo M.length mc] w fun e w' => e = .returned (.bool true) ∧ Below w.heap.size w w' := by
  obtain ⟨h, hA⟩ := h
  obtain ⟨v, hv⟩ : ∃ v, greatA A = v := ⟨_, rfl⟩
  by_cases hl : M.length ≤ 40 ∧ v = false
  · obtain ⟨hl, rfl⟩ := hl
    exact bal_core ao cap A mo mc M w h hA hm (fun x hx => wf_inB (wM x hx x.2 (by simp))) hv hl
  · have HAl := Lib.hid (fun W => lalive_any W)
    have HG := Lib.hid (fun U (hu : Below w.heap.size w U) => great_any U ao cap A (h.keeps hu) (fun t ht => (hA t ht).keeps hu) v hv)
    cases v with
    | true =>
      clear h hA hm wM hl hv
      go_enter Try.func4, Try.ntmps4
      go_wp2_with fail
      refine (HAl.out _).mono ?_
      rintro e w1 ⟨rfl, hb1⟩
      have HB1 := Lib.hid hb1
      go_wp2_with fail
      refine (HG.out _ hb1).mono ?_
      rintro e w2 ⟨rfl, hb2⟩
      have HB2 := Lib.hid (below_on HB1.out HB1.out.size hb2)
      clear hb1 hb2 HG
      go_wp2
      go_ret
      exact ⟨rfl, HB2.out⟩
    | false =>
      have h40 : (40 : Int) < M.length := by simp at hl; omega
      clear h hA hm wM hl hv
      go_enter Try.func4, Try.ntmps4
      go_wp2_with fail
      refine (HAl.out _).mono ?_
      rintro e w1 ⟨rfl, hb1⟩
      have HB1 := Lib.hid hb1
      go_wp2_with fail
      refine (HG.out _ hb1).mono ?_
      rintro e w2 ⟨rfl, hb2⟩
      have HB2 := Lib.hid (below_on HB1.out HB1.out.size hb2)
      clear hb1 hb2 HG
      go_wp2
      go_ret
      exact ⟨rfl, HB2.out⟩
end Go.Proofs.Yteghjdmalbcdfaa
