/-
  Law CommandReads: the walk.
-/
import Derived.Test.YtdkcccigmejikaaCmBk
import Derived.Test.YtdkcccigmejikaaCmRb
import Derived.Test.YtdkcccigmejikaaCmQ
set_option linter.unusedVariables false
set_option linter.unusedSimpArgs false
set_option maxRecDepth 20000
namespace Go.Proofs.Ytdkcccigmejikaa
open Go.RowKit

theorem readP_len (B : List UInt8) : (readP B).1.L.length ≤ 16 := by
  obtain ⟨c, hc | hc⟩ := readP_err B
  · rw [hc]; exact (right_nums (readP_ok hc).1).2.2
  · rw [hc]; simp [zC]
theorem openA_len (B : List UInt8) : (openA B).1.2.length ≤ 64 := by
  unfold openA
  split
  · rw [rdIs_len]; exact rdSm_lim 64 _ _
  · simp
theorem ld_an_w {ops : Array Oper} {rest : List Oper} {op : Oper} {a : Act} {w : World} {Q : Exit → Act → World → Prop} (hw : Region.wanted op (yielded ops a.tmps) = true) (x : Operand) (ho : op.op = .load 25 x) (b o : Nat) (hx : a.eval x = .pointer (some ⟨b, o, none⟩)) (p q : Value) (hc : w.rangeAt b o [p, q])
    (h : wpList Try.prog ops Q rest (a.put op.dst (.agg #[p, q])) w) : wpList Try.prog ops Q (op :: rest) a w :=
  wpList_step fun _ hK => by
    rw [if_pos hw]
    exact wp_load_mid _ x ho b o hx [p, q] _ hc Try.underlying25 rfl info_ans (hK _ _ h)
set_option maxHeartbeats 6400000 in
theorem creads_law (w : World) (a3 : Option Addr) (p3 : Nat) (B : List UInt8) (h : Sl w a3 B.length p3 (bc B)) (hlo : ∀ a, a3 = some a → a.block < w.heap.size) :
    Calls Try.prog 5 #[.slice a3 B.length p3] w fun e w' => e = .returned (.bool true) ∧ Below w.heap.size w w' := by
  have HH := Lib.hid h
  have HLo := Lib.hid hlo
  have HA := Lib.hid (calive_any w)
  have hcl := readP_len B
  have hnl := openA_len B
  obtain ⟨⟨c, ce⟩, hs⟩ : ∃ s, readP B = s := ⟨_, rfl⟩
  obtain ⟨⟨⟨ae, N⟩, ne⟩, ht⟩ : ∃ s, openA B = s := ⟨_, rfl⟩
  rw [hs] at hcl
  rw [ht] at hnl
  have hs2 := (read_eq B).symm.trans hs
  have ht2 := (open_eq B).symm.trans ht
  have HS := Lib.hid hs
  have HS2 := Lib.hid hs2
  have HT := Lib.hid ht
  have HT2 := Lib.hid ht2
  have HCL : Hid (c.L.length ≤ 1000000000) := by show _ ≤ _; simp only at hcl; omega
  have HNL : Hid (N.length ≤ 1000000000) := by show _ ≤ _; simp only at hnl; omega
  clear h hlo hs ht hs2 ht2 hcl hnl
  go_enter Try.func5, Try.ntmps5
  go_wp2_with fail
  refine HA.out.mono ?_
  rintro e w1 ⟨rfl, hb1⟩
  have HB1 := Lib.hid hb1
  clear hb1 HA
  by_cases h7 : (700 : Int) < B.length
  · go_wp2
    go_ret
    exact ⟨rfl, HB1.out⟩
  have HBl : Hid (B.length ≤ 700) := by show _ ≤ _; omega
  have HBa := Lib.hid (HB1.out.alloc HB1.out.size (.cells #[] 5))
  have HVa : Hid (SlB (w1.alloc (.cells #[] 5)) (.slice a3 B.length p3) B) := ⟨a3, p3, rfl, HH.out.keeps HBa.out⟩
  have HEm := Lib.hid (own_empty w1)
  go_wp2_with (first | (refine ap_sl (by rfl) _ _ rfl w1.heap.size _ rfl [] HEm.out B _ rfl HVa.out (by have := HBl.out; simp; omega) (by simp) ?_) | fail)
  intro v2 w2 ho2 hg2 _
  have HBb := Lib.hid (grown_below HEm.out hg2 HB1.out.size (Nat.le_refl _) HBa.out)
  have h2 := ho2.sl
  have HV2 : Hid (SlB w2 v2 B) := h2
  have HP := Lib.hid (cread2_any w2 v2 B h2 (by omega) _ HS.out)
  clear ho2 hg2 h2 HBa HVa HEm HB1 h7
  go_wp2_with fail
  refine HP.out.mono ?_
  rintro e w3 ⟨v3, rfl, ho3, hb3⟩
  have HB3 := Lib.hid (below_on HBb.out HBb.out.size hb3)
  have HV3 := Lib.hid (SlB.keeps HV2.out hb3)
  have HO3 : Hid (OwI w3 w2.heap.size v3 c.L) := ho3
  have HAl := Lib.hid (Blk.new w3 45 (zC.C (.slice none 0 0)))
  have HB4 := Lib.hid (HB3.out.alloc HB3.out.size (.cells (zC.C (.slice none 0 0)).toArray 45))
  have HTH := Lib.hid (HAl.out.thereMid 0 23 (by decide))
  obtain ⟨ax, px, rfl, _⟩ := OwI.sl HO3.out
  clear ho3 hb3 HP HV2 HBb
  go_wp2_with (first | (refine st_cm rfl _ _ rfl w3.heap.size rfl c (.slice ax c.L.length px) rfl rfl HTH.out ?_) | fail)
  intro w4 hW
  have hbk : Below w3.heap.size w3 w4 := by rw [hW.out]; exact below_setCells _ _ (below_new1 w3 _) (Nat.le_refl _)
  have HB5 : Hid (Below w.heap.size w w4) := by show Below _ _ _; rw [hW.out]; exact below_setCells _ _ HB4.out HB3.out.size
  have HGx := Lib.hid (show Blk w4 w3.heap.size 45 (c.C (.slice ax c.L.length px)) by rw [hW.out]; exact HAl.out.setAll _ rfl)
  have HOx := Lib.hid (owi_kp HO3.out hbk)
  have HV4 := Lib.hid (SlB.keeps HV3.out hbk)
  obtain ⟨gx, hgx⟩ : ∃ g, w3.heap.size = g := ⟨_, rfl⟩
  rw [hgx] at HGx
  simp only [hgx]
  have HR := Lib.hid (rread_any w4 a3 p3 B (HH.out.keeps HB5.out) (fun a e => Nat.lt_of_lt_of_le (HLo.out a e) HB5.out.size) (by have := HBl.out; omega) _ HS2.out)
  clear hW hbk HAl HB4 HTH HO3 HV3 HB3 hgx
  go_wp2_with fail
  refine HR.out.mono ?_
  rintro e w5 ⟨v5, rfl, ho5, hb5⟩
  have HB6 := Lib.hid (below_on HB5.out HB5.out.size hb5)
  have HV5 := Lib.hid (SlB.keeps HV4.out hb5)
  have HGx5 := Lib.hid (HGx.out.keeps hb5)
  have HOx5 := Lib.hid (owi_kp HOx.out hb5)
  have HO5 : Hid (OwI w5 w4.heap.size v5 c.L) := ho5
  have HAl := Lib.hid (Blk.new w5 45 (zC.C (.slice none 0 0)))
  have HB7 := Lib.hid (HB6.out.alloc HB6.out.size (.cells (zC.C (.slice none 0 0)).toArray 45))
  have HTH := Lib.hid (HAl.out.thereMid 0 23 (by decide))
  obtain ⟨ay, py, rfl, _⟩ := OwI.sl HO5.out
  clear ho5 hb5 HR HV4 HGx HOx HB5
  go_wp2_with (first | (refine st_cm rfl _ _ rfl w5.heap.size rfl c (.slice ay c.L.length py) rfl rfl HTH.out ?_) | fail)
  intro w6 hW
  have hbk : Below w5.heap.size w5 w6 := by rw [hW.out]; exact below_setCells _ _ (below_new1 w5 _) (Nat.le_refl _)
  have HB8 : Hid (Below w.heap.size w w6) := by show Below _ _ _; rw [hW.out]; exact below_setCells _ _ HB7.out HB6.out.size
  have HGx6 := Lib.hid (HGx5.out.keeps hbk)
  have HOx6 := Lib.hid (owi_kp HOx5.out hbk)
  have HGy := Lib.hid (show Blk w6 w5.heap.size 45 (c.C (.slice ay c.L.length py)) by rw [hW.out]; exact HAl.out.setAll _ rfl)
  have HOy := Lib.hid (owi_kp HO5.out hbk)
  have HV6 := Lib.hid (SlB.keeps HV5.out hbk)
  obtain ⟨gy, hgy⟩ : ∃ g, w5.heap.size = g := ⟨_, rfl⟩
  rw [hgy] at HGy
  simp only [hgy]
  have HO := Lib.hid (copen_any w6 v2 B HV6.out (by have := HBl.out; omega) _ HT.out)
  clear hW hbk HAl HB7 HTH HO5 HV5 HB6 HGx5 HOx5 hgy
  go_wp2_with fail
  refine HO.out.mono ?_
  rintro e w7 ⟨ap, pp, rfl, hsp, hb7⟩
  have hb7' := below_on HB8.out HB8.out.size hb7
  have hbn := below_on (B := w6.heap.size) hb7 hb7.size (below_new1 w7 (.cells #[.int .i64 ae, .slice ap N.length pp] 25))
  have HB9 := Lib.hid (hb7'.alloc hb7'.size (.cells #[.int .i64 ae, .slice ap N.length pp] 25))
  have HV8 := Lib.hid (SlB.keeps HV6.out hbn)
  have HGx8 := Lib.hid (HGx6.out.keeps hbn)
  have HGy8 := Lib.hid (HGy.out.keeps hbn)
  have HOx8 := Lib.hid (owi_kp HOx6.out hbn)
  have HOy8 := Lib.hid (owi_kp HOy.out hbn)
  have HSp := Lib.hid (Sl.keeps hsp (below_new1 w7 (.cells #[.int .i64 ae, .slice ap N.length pp] 25)))
  have HGp := Lib.hid (Blk.new w7 25 [.int .i64 ae, .slice ap N.length pp])
  have HRO := Lib.hid (ropen_any _ a3 p3 B (HH.out.keeps HB9.out) (fun a e => Nat.lt_of_lt_of_le (HLo.out a e) HB9.out.size) (by have := HBl.out; omega) _ HT2.out)
  obtain ⟨gp, hgp⟩ : ∃ g, w7.heap.size = g := ⟨_, rfl⟩
  rw [hgp] at HGp
  have HGP := Lib.hid hgp
  clear hsp hb7 hb7' hbn HO HV6 HGx6 HGy HOx6 HOy HB8 hgp
  go_wp2_with fail
  refine HRO.out.mono ?_
  simp only [HGP.out]
  rintro e w8 ⟨aq, pq, rfl, hsq, hb8⟩
  have hb8' := below_on HB9.out HB9.out.size hb8
  have hbn := below_on hb8 hb8.size (below_new1 w8 (.cells #[.int .i64 ae, .slice aq N.length pq] 25))
  have HBa := Lib.hid (hb8'.alloc hb8'.size (.cells #[.int .i64 ae, .slice aq N.length pq] 25))
  have HV9 := Lib.hid (SlB.keeps HV8.out hbn)
  have HGx9 := Lib.hid (HGx8.out.keeps hbn)
  have HGy9 := Lib.hid (HGy8.out.keeps hbn)
  have HOx9 := Lib.hid (owi_kp HOx8.out hbn)
  have HOy9 := Lib.hid (owi_kp HOy8.out hbn)
  have HSp9 := Lib.hid (HSp.out.keeps hbn)
  have HSq9 := Lib.hid (Sl.keeps hsq (below_new1 w8 (.cells #[.int .i64 ae, .slice aq N.length pq] 25)))
  have HGp9 := Lib.hid (HGp.out.keeps hbn)
  have HGq9 := Lib.hid (Blk.new w8 25 [.int .i64 ae, .slice aq N.length pq])
  obtain ⟨ax9, px9, ex9, hsx9⟩ := OwI.sl HOx9.out
  obtain ⟨rfl, rfl⟩ : ax = ax9 ∧ px = px9 := by simp only [Value.slice.injEq] at ex9; exact ⟨ex9.1, ex9.2.2⟩
  obtain ⟨ay9, py9, ey9, hsy9⟩ := OwI.sl HOy9.out
  obtain ⟨rfl, rfl⟩ : ay = ay9 ∧ py = py9 := by simp only [Value.slice.injEq] at ey9; exact ⟨ey9.1, ey9.2.2⟩
  have HSm := Lib.hid (rsame22_any _ ax px c hsx9 ay py c hsy9 true ((same_iff c c).2 rfl) HCL.out)
  clear ex9 ey9 hsx9 hsy9
  obtain ⟨gq, hgq⟩ : ∃ g, w8.heap.size = g := ⟨_, rfl⟩
  rw [hgq] at HGq9
  have HGQ := Lib.hid hgq
  clear hsq hb8 hb8' hbn HRO HV8 HGx8 HGy8 HOx8 HOy8 HSp HGp HB9 hgq HGP
  go_wp2_with (first | (refine ld_cm rfl _ rfl gx 0 rfl c (.slice ax c.L.length px) HGx9.out.range ?_) | (refine ld_cm rfl _ rfl gy 0 rfl c (.slice ay c.L.length py) HGy9.out.range ?_) | fail)
  simp only [HGQ.out]
  refine HSm.out.mono ?_
  rintro e w9 ⟨rfl, hb9⟩
  have HBb := Lib.hid (below_on HBa.out HBa.out.size hb9)
  have HVb := Lib.hid (SlB.keeps HV9.out hb9)
  have HGpb := Lib.hid (HGp9.out.keeps hb9)
  have HGqb := Lib.hid (HGq9.out.keeps hb9)
  have HSA := Lib.hid (sameAns_any w9 ae ae ap aq pp pq N N (HSp9.out.keeps hb9) (HSq9.out.keeps hb9) HNL.out true (by simp))
  clear hb9 HSm HV9 HGx9 HGy9 HOx9 HOy9 HSp9 HSq9 HGp9 HGq9 HBa HGQ
  go_wp2_with (first | (refine ld_an_w (by rfl) _ rfl gp 0 rfl (.int .i64 ae) (.slice ap N.length pp) HGpb.out.range ?_) | (refine ld_an_w (by rfl) _ rfl gq 0 rfl (.int .i64 ae) (.slice aq N.length pq) HGqb.out.range ?_) | fail)
  refine HSA.out.mono ?_
  rintro e wa ⟨rfl, hba⟩
  have HBc := Lib.hid (below_on HBb.out HBb.out.size hba)
  have HVc := Lib.hid (SlB.keeps HVb.out hba)
  have HVd : Hid (SlB wa (.slice a3 B.length p3) B) := ⟨a3, p3, rfl, HH.out.keeps HBc.out⟩
  clear hba HSA HGpb HGqb HVb HBb
  go_wp2_with (first | (refine to_text (by rfl) _ rfl _ rfl _ HVc.out ?_) | (refine to_text (by rfl) _ rfl _ rfl _ HVd.out ?_) | fail)
  go_ret
  exact ⟨rfl, HBc.out⟩
theorem creads_row (a3 : Option Addr) (p3 : Nat) (B : List UInt8) (w : World) (h : Sl w a3 B.length p3 (bc B) ∧ ∀ a, a3 = some a → a.block < w.heap.size) :
    Calls Try.prog 5 #[.slice a3 B.length p3] w fun e w' => e = .returned (.bool true) ∧ Below w.heap.size w w' := creads_law w a3 p3 B h.1 h.2
end Go.Proofs.Ytdkcccigmejikaa
