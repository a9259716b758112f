/-
  Answers of the reference: the walks of its SameAnswer and Open.
-/
import Derived.Test.YtdkcccigmejikaaCmM
set_option linter.unusedVariables false
set_option linter.unusedSimpArgs false
set_option maxRecDepth 20000
namespace Go.Proofs.Ytdkcccigmejikaa
open Go.RowKit

theorem sameAns_any (w : World) (e1 e2 : Int) (ao bo : Option Addr) (cap dap : Nat) (N M : List Int) (h : Sl w ao N.length cap (ic N)) (hm : Sl w bo M.length dap (ic M)) (hl : N.length ≤ 1000000000) (v : Bool) (hv : decide (e1 = e2 ∧ N = M) = v) :
    Calls Try.prog 13 #[.agg #[.int .i64 e1, .slice ao N.length cap], .agg #[.int .i64 e2, .slice bo M.length dap]] w fun e w' => e = .returned (.bool v) ∧ Below w.heap.size w w' := by
  have HB2 := Lib.hid (below_new2 w (.cells #[.int .i64 e1, .slice ao N.length cap] 25) (.cells #[.int .i64 e2, .slice bo M.length dap] 25))
  have HV := Lib.hid hv
  clear hv
  by_cases he : e1 = e2
  · subst he
    have HS := Lib.hid (sameI_any _ ao cap N bo dap M (h.keeps HB2.out) (hm.keeps HB2.out) _ rfl hl)
    have q1 : (e1 == e1) = true := by simp
    clear h hm
    go_enter Try.func13, Try.ntmps13
    go_wp2_with fail
    refine HS.out.mono ?_
    rintro e w1 ⟨rfl, hb1⟩
    have HE := Lib.hid (below_on HB2.out HB2.out.size hb1)
    have HF : Hid (v = decide (N = M)) := by show _ = _; rw [← HV.out]; simp
    clear hb1 HV HS
    go_wp2
    go_ret
    exact ⟨by rw [HF.out]; rfl, HE.out⟩
  · have q1 : (e1 == e2) = false := by simpa using he
    obtain rfl : v = false := by rw [← HV.out]; simp [he]
    go_enter Try.func13, Try.ntmps13
    go_wp2
    go_ret
    exact ⟨rfl, HB2.out⟩
set_option maxHeartbeats 3200000 in
theorem ropen_any (w : World) (ao : Option Addr) (cap : Nat) (L : List UInt8) (h : Sl w ao L.length cap (bc L)) (hlo : ∀ a, ao = some a → a.block < w.heap.size) (hl : L.length ≤ 1000000) (s : (Int × List Int) × Int) (hs : ropenA L = s) :
    Calls Try.prog 23 #[.slice ao L.length cap] w fun e w' => ∃ ao' cap', e = .returned (.tuple #[.agg #[.int .i64 s.1.1, .slice ao' s.1.2.length cap'], .int .i64 s.2]) ∧ Sl w' ao' s.1.2.length cap' (ic s.1.2) ∧ Below w.heap.size w w' := by
  have HB0 := Lib.hid (below_new1 w (.cells #[.int .i64 0, .slice none 0 0] 25))
  have HG0 := Lib.hid (Blk.new w 25 [.int .i64 0, .slice none 0 0])
  have HL0 := Lib.hid (h.keeps HB0.out)
  have HLo := Lib.hid hlo
  have HT1 := Lib.hid (tsmall_q 65535 (by decide) _ (.agg #[.slice ao L.length cap, .bool false]) w.heap.size L false ⟨ao, cap, rfl, HL0.out, hlo⟩ (by simp) hl)
  obtain ⟨q1, hq1⟩ : ∃ q, rdSm 65535 L false = q := ⟨_, rfl⟩
  obtain ⟨q2, hq2⟩ : ∃ q, rdSm 64 q1.2.1 q1.2.2 = q := ⟨_, rfl⟩
  have hm := rdSm_lim 64 q1.2.1 q1.2.2
  unfold ropenA at hs
  rw [hq1, hq2] at hs
  rw [hq2] at hm
  have hf1 := rdSm_flag (lim := 65535) (L := L) (f := false) (by simp)
  have hf2 := rdSm_flag (lim := 64) (L := q1.2.1) (f := q1.2.2) (by rw [← hq1]; exact hf1)
  have hl1 := rdSm_le2 65535 L false
  have hl2 := rdSm_le2 64 q1.2.1 q1.2.2
  rw [hq1] at hf1 hl1 HT1
  rw [hq2] at hf2 hl2
  obtain ⟨ern, L1, f1⟩ := q1
  obtain ⟨m, L2, f2⟩ := q2
  replace hs : (if packA ern (rdIs m L2 f2).1 = (L, 0) then (((ern : Int), (rdIs m L2 f2).1), 0) else ((0, []), 221)) = s := hs
  replace hm : m ≤ 64 := hm
  replace hq2 : rdSm 64 L1 f1 = (m, L2, f2) := hq2
  replace hf1 : f1 = true → L1 = [] := hf1
  replace hf2 : f2 = true → L2 = [] := hf2
  replace hl1 : L1.length ≤ L.length := hl1
  replace hl2 : L2.length ≤ L1.length := hl2
  have HS := Lib.hid hs
  have HQ2 := Lib.hid hq2
  have HF1 := Lib.hid hf1
  have HF2 := Lib.hid hf2
  have HLe1 := Lib.hid (Nat.le_trans hl1 hl)
  have HLe2 := Lib.hid (Nat.le_trans hl2 (Nat.le_trans hl1 hl))
  have HH := Lib.hid h
  clear hs hq2 hf1 hf2 hl1 hl2 h hlo hq1
  go_enter Try.func23, Try.ntmps23
  go_wp2_with fail
  refine HT1.out.mono ?_
  rintro e w1 ⟨v1, rfl, ⟨a1, p1, rfl, hs1, hlo1⟩, hb1⟩
  have hb1' := below_on HB0.out HB0.out.size hb1
  have hbx := hb1'.alloc hb1'.size (.cells #[.slice a1 L1.length p1, .bool f1] 80)
  have HBx := Lib.hid hbx
  have HGx := Lib.hid ((HG0.out.keeps hb1).alloc (.cells #[.slice a1 L1.length p1, .bool f1] 80))
  have hsx := hs1.keeps (below_new1 w1 (.cells #[.slice a1 L1.length p1, .bool f1] 80))
  have hT2 := tsmall_q 64 (by decide) _ (.agg #[.slice a1 L1.length p1, .bool f1]) w.heap.size L1 f1 ⟨a1, p1, rfl, hsx, hlo1⟩ HF1.out HLe1.out
  rw [HQ2.out] at hT2
  have HT2 := Lib.hid hT2
  have HBk := Lib.hid (Blk.new w1 80 [.slice a1 L1.length p1, .bool f1])
  have HRs := Lib.hid (HG0.out.keeps hb1).lt
  clear hb1 hb1' hbx hs1 hsx hT2 hlo1 HT1 HB0 HG0 HL0
  go_wp2_with fail
  refine HT2.out.mono ?_
  rintro e w2 ⟨v2, rfl, ⟨a2, p2, rfl, hs2, hlo2⟩, hb2⟩
  obtain ⟨r, hr⟩ : ∃ g, w1.heap.size = g := ⟨_, rfl⟩
  obtain ⟨er, her⟩ : ∃ e : Int, (ern : Int) = e := ⟨_, rfl⟩
  have HBk2 := Lib.hid (HBk.out.keeps hb2)
  rw [hr] at HBk2 HRs
  have HTH := Lib.hid (HBk2.out.thereMid 0 2 (by simp))
  have HB2 := Lib.hid (below_on HBx.out HBx.out.size hb2)
  have HG2 := Lib.hid (HGx.out.keeps hb2)
  have HS2 := Lib.hid hs2
  have HLo2 := Lib.hid hlo2
  have HSe : Hid ((if packA er (rdIs m L2 f2).1 = (L, 0) then ((er, (rdIs m L2 f2).1), 0) else ((0, []), 221)) = s) := by show _ = _; rw [← her]; exact HS.out
  simp only [hr, her]
  clear hb2 hs2 hlo2 HBx HGx HBk HT2 HS hr her
  go_wp2_with (first | (refine st_rr rfl _ _ rfl r 0 rfl (.slice a2 L2.length p2) (.bool f2) rfl rfl rfl HTH.out ?_) | fail)
  intro W hW
  have HGn : Hid (Blk W w.heap.size 25 [.int .i64 0, .slice none 0 0]) := by show Blk _ _ _ _; rw [hW.out]; exact ⟨by rw [heap_setCells_at _ _ _ _ _ (by have := HRs.out; omega)]; exact HG2.out.at_⟩
  have HBn : Hid (Below w.heap.size w W) := by show Below _ _ _; rw [hW.out]; exact below_setCells _ _ HB2.out (by have := HRs.out; omega)
  have HRn : Hid (RdR W r w.heap.size L2 f2) := by show RdR _ _ _ _ _; rw [hW.out]; exact ⟨a2, p2, HBk2.out.setAll _ rfl, sl_setR HBk2.out HS2.out _, HLo2.out⟩
  have HI := Lib.hid (rrints_any W r w.heap.size HBn.out.size L2 f2 m HRn.out HF2.out HLe2.out (by omega))
  clear hW HBk2 HTH HB2 HG2 HS2 HRn
  go_wp2_with fail
  refine HI.out.mono ?_
  rintro e w3 ⟨v3, rfl, ho3, _, hg3⟩
  obtain ⟨a3, c3, rfl, hs3⟩ := OwI.sl ho3
  have HWl := Lib.hid HGn.out.lt
  have HM : Hid ((rdIs m L2 f2).1.length = m) := rdIs_len _ _ _
  have HIn := Lib.hid (rdIs_in m L2 f2)
  obtain ⟨N, hN⟩ : ∃ N, (rdIs m L2 f2).1 = N := ⟨_, rfl⟩
  rw [hN] at hs3 HSe HM HIn ho3
  have hb3 := HBn.out.grown hg3 HBn.out.size (fun k hk => by obtain rfl := Option.some.inj hk; have := HRs.out; omega)
  have hG3 := HGn.out.rd hg3 (by have := HRs.out; omega)
  have HB4 := Lib.hid (hb3.alloc hb3.size (.cells #[.int .i64 er, .slice a3 N.length c3] 25))
  have HG4 := Lib.hid (hG3.alloc (.cells #[.int .i64 er, .slice a3 N.length c3] 25))
  have hs4 := hs3.keeps (below_new1 w3 (.cells #[.int .i64 er, .slice a3 N.length c3] 25))
  have HA4 := Lib.hid (Blk.new w3 25 [.int .i64 er, .slice a3 N.length c3])
  have HS4 := Lib.hid hs4
  have HO4 := Lib.hid (owi_kp ho3 (below_new1 w3 (.cells #[.int .i64 er, .slice a3 N.length c3] 25)))
  obtain ⟨t, ht⟩ : ∃ t, packA er N = t := ⟨_, rfl⟩
  rw [ht] at HSe
  have HP := Lib.hid (rpack_any _ er a3 c3 N hs4 HIn.out (by have := HM.out; omega) t ht)
  simp only [hN]
  obtain ⟨g7, hg7⟩ : ∃ g, w3.heap.size = g := ⟨_, rfl⟩
  clear HI ho3 hg3 hs3 hb3 hG3 hs4 HBn HGn ht hN
  go_wp2_with fail
  refine HP.out.mono ?_
  rintro e w5 ⟨v5, rfl, ho5, hb5⟩
  rw [hg7] at HA4
  simp only [hg7]
  have HB5 := Lib.hid (below_on HB4.out HB4.out.size hb5)
  have HG5 := Lib.hid (HG4.out.keeps hb5)
  have HA5 := Lib.hid (HA4.out.keeps hb5)
  have HS5 := Lib.hid (HS4.out.keeps hb5)
  have HO5 := Lib.hid (owi_kp HO4.out hb5)
  have hv5 := ho5.sl
  have HV5 : Hid (SlB w5 v5 t.1) := hv5
  have HL5 : Hid (SlB w5 (.slice ao L.length cap) L) := ⟨ao, cap, rfl, HH.out.keeps HB5.out⟩
  have HT0 := Lib.hid (HG5.out.thereMid 0 2 (by simp))
  clear ho5 hb5 hv5 HP HB4 HG4 HA4 HS4 HO4 hg7
  obtain ⟨T, te⟩ := t
  replace HV5 : Hid (SlB w5 v5 T) := HV5
  simp only
  have HC0 := HA5.out.cell 0 _ rfl
  have HC1 := HA5.out.cell 1 _ rfl
  by_cases h0 : te = 0
  · subst h0
    by_cases hTL : T = L
    · subst hTL
      have HE : Hid (s = ((er, N), 0)) := by show _ = _; rw [← HSe.out, if_pos rfl]
      clear HSe
      obtain rfl := HE.out
      go_wp2_with (first | (refine to_text (by rfl) _ rfl _ rfl _ HV5.out ?_) | (refine to_text (by rfl) _ rfl _ rfl _ HL5.out ?_) | (refine st_an rfl _ _ rfl w.heap.size 0 rfl (.int .i64 er) (.slice a3 N.length c3) rfl rfl rfl HT0.out ?_) | fail)
      intro W2 hW2
      have HGe : Hid (Blk W2 w.heap.size 25 [.int .i64 er, .slice a3 N.length c3]) := by show Blk _ _ _ _; rw [hW2.out]; exact HG5.out.setAll _ rfl
      have HBe : Hid (Below w.heap.size w W2) := by show Below _ _ _; rw [hW2.out]; exact below_setCells _ _ HB5.out (Nat.le_refl _)
      obtain ⟨a9, c9, e9, hs9⟩ := OwI.sl (owi_setCells [.int .i64 er, .slice a3 N.length c3] HO5.out HWl.out 0)
      obtain ⟨rfl, rfl⟩ : a3 = a9 ∧ c3 = c9 := by simp only [Value.slice.injEq] at e9; exact ⟨e9.1, e9.2.2⟩
      have HSe2 : Hid (Sl W2 a3 N.length c3 (ic N)) := by rw [hW2.out]; exact hs9
      clear hW2
      go_wp2
      exact bodyPost_ret (v := .tuple #[.agg #[.int .i64 er, .slice a3 N.length c3], .int .i64 0]) (res_open Try.results23 _ _ _ (.int .i64 er) (.slice a3 N.length c3) _ rfl rfl HGe.out) rfl ⟨a3, c3, rfl, HSe2.out, HBe.out⟩
    · have HE : Hid (s = ((0, []), 221)) := by show _ = _; rw [← HSe.out, if_neg (fun h => hTL (Prod.mk.inj h).1)]
      clear HSe
      obtain rfl := HE.out
      have qq := str_ne hTL
      go_wp2_with (first | (refine to_text (by rfl) _ rfl _ rfl _ HV5.out ?_) | (refine to_text (by rfl) _ rfl _ rfl _ HL5.out ?_) | (refine st_an rfl _ _ rfl w.heap.size 0 rfl (.int .i64 0) (.slice none 0 0) rfl rfl rfl HT0.out ?_) | fail)
      intro W2 hW2
      have HGe : Hid (Blk W2 w.heap.size 25 [.int .i64 0, .slice none 0 0]) := by show Blk _ _ _ _; rw [hW2.out]; exact HG5.out.setAll _ rfl
      have HBe : Hid (Below w.heap.size w W2) := by show Below _ _ _; rw [hW2.out]; exact below_setCells _ _ HB5.out (Nat.le_refl _)
      clear hW2
      go_wp2
      exact bodyPost_ret (v := .tuple #[.agg #[.int .i64 0, .slice none 0 0], .int .i64 221]) (res_open Try.results23 _ _ _ (.int .i64 0) (.slice none 0 0) _ rfl rfl HGe.out) rfl ⟨none, 0, rfl, Sl.of_nil _, HBe.out⟩
  · have HE : Hid (s = ((0, []), 221)) := by show _ = _; rw [← HSe.out, if_neg (fun h => h0 (Prod.mk.inj h).2)]
    clear HSe
    obtain rfl := HE.out
    have qq : (te != 0) = true := by simpa using h0
    go_wp2_with (first | (refine st_an rfl _ _ rfl w.heap.size 0 rfl (.int .i64 0) (.slice none 0 0) rfl rfl rfl HT0.out ?_) | fail)
    intro W2 hW2
    have HGe : Hid (Blk W2 w.heap.size 25 [.int .i64 0, .slice none 0 0]) := by show Blk _ _ _ _; rw [hW2.out]; exact HG5.out.setAll _ rfl
    have HBe : Hid (Below w.heap.size w W2) := by show Below _ _ _; rw [hW2.out]; exact below_setCells _ _ HB5.out (Nat.le_refl _)
    clear hW2
    go_wp2
    exact bodyPost_ret (v := .tuple #[.agg #[.int .i64 0, .slice none 0 0], .int .i64 221]) (res_open Try.results23 _ _ _ (.int .i64 0) (.slice none 0 0) _ rfl rfl HGe.out) rfl ⟨none, 0, rfl, Sl.of_nil _, HBe.out⟩
end Go.Proofs.Ytdkcccigmejikaa
