/-
  The walk of command.Read.
-/
import Derived.Test.YtdkcccigmejikaaCmV
set_option linter.unusedVariables false
set_option linter.unusedSimpArgs false
set_option maxRecDepth 20000
namespace Go.Proofs.Ytdkcccigmejikaa
open Go.RowKit

section
variable {ops : Array Oper} {rest : List Oper} {op : Oper} {a : Act} {w : World} {Q : Exit → Act → World → Prop}
theorem ld_cm_w2 (hw : Region.wanted op (yielded ops a.tmps) = true) (x : Operand) (ho : op.op = .load 45 x) (b o : Nat) (hx : a.eval x = .pointer (some ⟨b, o, none⟩)) (c : Cm) (v : Value) (hc : w.rangeAt b o (c.C v))
    (h : wpList Try.prog ops Q rest (a.put op.dst (.agg (c.C v).toArray)) w) : wpList Try.prog ops Q (op :: rest) a w :=
  wpList_step fun _ hK => by
    rw [if_pos hw]
    exact wp_load_mid _ x ho b o hx (c.C v) _ hc Try.underlying45 rfl info_cm (hK _ _ h)
end
/-- What Read answers: the command, the error. -/
def readP (B : List UInt8) : Cm × Int :=
  if (!(parseC 26 B).2.2 && (parseC 26 B).2.1.isEmpty && (parseC 26 B).1.right) = true then ((parseC 26 B).1, 0) else (zC, 221)
set_option maxHeartbeats 6400000 in
theorem cread2_any (w : World) (u : Value) (B : List UInt8) (h : SlB w u B) (hl : B.length ≤ 100000000) (s : Cm × Int) (hs : readP B = s) :
    Calls Try.prog 21 #[u] w fun e w' => ∃ v, e = .returned (.tuple #[.agg (s.1.C v).toArray, .int .i64 s.2]) ∧ OwI w' w.heap.size v s.1.L ∧ Below w.heap.size w w' := by
  have HB0 := Lib.hid (below_new1 w (.cells (zC.C (.slice none 0 0)).toArray 45))
  have HG0 := Lib.hid (Blk.new w 45 (zC.C (.slice none 0 0)))
  have HN := Lib.hid (new_q _ u B (h.keeps HB0.out) (by omega))
  obtain ⟨⟨c, L1, f1⟩, hq⟩ : ∃ q, parseC 26 B = q := ⟨_, rfl⟩
  unfold readP at hs
  rw [hq] at hs
  replace hs : (if (!f1 && L1.isEmpty && c.right) = true then (c, 0) else (zC, 221)) = s := hs
  have HS := Lib.hid hs
  have HQ := Lib.hid hq
  clear hs hq h
  go_enter Try.func21, Try.ntmps21
  go_wp2_with fail
  refine HN.out.mono ?_
  rintro e w1 ⟨r, rfl, hr1, hrl, hb1⟩
  have HB1 := Lib.hid (below_on HB0.out HB0.out.size hb1)
  have HG1 := Lib.hid (HG0.out.keeps hb1)
  have HRl := Lib.hid (show w.heap.size < r by have := HG0.out.lt; omega)
  have HC := Lib.hid (cread_any w1 r B hr1 _ HQ.out)
  clear hb1 hr1 hrl HN HB0 HG0
  go_wp2_with fail
  refine HC.out.mono ?_
  rintro e w2 ⟨v, rfl, ho2, hr2, hg2⟩
  have HB2 := Lib.hid (HB1.out.grown hg2 HB1.out.size (fun k hk => by obtain rfl := Option.some.inj hk; have := HRl.out; omega))
  have HG2 := Lib.hid (HG1.out.rd hg2 (by have := HRl.out; omega))
  have HO2 : Hid (OwI w2 (w.heap.size + 1) v c.L) := OwI.up ho2 (by have := HG1.out.lt; omega)
  have HR2 : Hid (RdQ w2 r L1 f1) := hr2
  have HAl := Lib.hid (Blk.new w2 45 (zC.C (.slice none 0 0)))
  have HB3 := Lib.hid (HB2.out.alloc HB2.out.size (.cells (zC.C (.slice none 0 0)).toArray 45))
  have HG3 := Lib.hid (HG2.out.alloc (.cells (zC.C (.slice none 0 0)).toArray 45))
  have HR3 := Lib.hid (HR2.out.alloc (.cells (zC.C (.slice none 0 0)).toArray 45))
  have HTH := Lib.hid (HAl.out.thereMid 0 23 (by decide))
  have HGA := Lib.hid (show w.heap.size < w2.heap.size from HG2.out.lt)
  have HRG := Lib.hid (show r < w2.heap.size from HR2.out.lt)
  have hov : v.oneCell' = true := by obtain ⟨a9, c9, rfl, _⟩ := OwI.sl ho2; rfl
  have HOV := Lib.hid hov
  clear ho2 hr2 hg2 HC HB1 HG1 HB2 HG2 HR2 hov
  go_wp2_with (first | (refine st_cm rfl _ _ rfl w2.heap.size rfl c v HOV.out rfl HTH.out ?_) | fail)
  intro w3 hW
  have HA4 : Hid (Blk w3 w2.heap.size 45 (c.C v)) := by show Blk _ _ _ _; rw [hW.out]; exact HAl.out.setAll _ rfl
  have HB4 : Hid (Below w.heap.size w w3) := by show Below _ _ _; rw [hW.out]; exact below_setCells _ _ HB3.out (by have := HGA.out; omega)
  have HG4 : Hid (Blk w3 w.heap.size 45 (zC.C (.slice none 0 0))) := by show Blk _ _ _ _; rw [hW.out]; exact HG3.out.otherCells _ 0 (by have := HGA.out; omega)
  have HR4 : Hid (RdQ w3 r L1 f1) := by show RdQ _ _ _ _; rw [hW.out]; exact rdq_setCells _ HR3.out HRG.out 0
  have HO4 : Hid (OwI w3 (w.heap.size + 1) v c.L) := by
    show OwI _ _ _ _
    rw [hW.out]
    exact owi_kp HO2.out (below_setCells _ _ (below_new1 w2 _) (Nat.le_refl _))
  clear hW HAl HTH HB3 HG3 HR3 HO2
  obtain ⟨ga, hga⟩ : ∃ g, w2.heap.size = g := ⟨_, rfl⟩
  obtain ⟨g0, hg0⟩ : ∃ g, w.heap.size = g := ⟨_, rfl⟩
  rw [hga] at HA4
  rw [hg0] at HG4 HB4 HO4
  have HG0e := Lib.hid hg0
  simp only [hga, hg0]
  have HE := Lib.hid (ended_any w3 r _ _ HR4.out.rd)
  clear hga hg0 HGA HRG HRl
  go_wp2_with fail
  refine HE.out.mono ?_
  rintro e w9 ⟨rfl, rfl⟩
  obtain ⟨en, hen⟩ : ∃ b, (!f1 && L1.isEmpty) = b := ⟨_, rfl⟩
  have hS := HS.out
  rw [hen] at hS
  simp only [hen]
  have HS4 := Lib.hid hS
  clear hS HS hen HE HR4
  cases en with
  | false =>
    obtain rfl : s = (zC, 221) := by rw [← HS4.out]; rfl
    clear HS4
    have HTH := Lib.hid (HG4.out.thereMid 0 23 (by decide))
    go_wp2_with (first | (refine st_cm rfl _ _ rfl g0 rfl zC (.slice none 0 0) rfl rfl HTH.out ?_) | fail)
    intro W hW
    have HGn : Hid (Blk W g0 45 (zC.C (.slice none 0 0))) := by show Blk _ _ _ _; rw [hW.out]; exact HG4.out.setAll _ rfl
    have HBn : Hid (Below g0 w W) := by show Below _ _ _; rw [hW.out]; exact below_setCells _ _ HB4.out (Nat.le_refl _)
    clear hW
    go_wp2
    exact bodyPost_ret (v := .tuple #[.agg (zC.C (.slice none 0 0)).toArray, .int .i64 221]) (res_cm2 Try.results21 _ _ _ zC (.slice none 0 0) _ rfl rfl HGn.out) rfl ⟨_, rfl, owi_nil _ _, by rw [HG0e.out]; exact HBn.out⟩
  | true =>
    obtain ⟨ra, hra⟩ : ∃ b, c.right = b := ⟨_, rfl⟩
    obtain ⟨av, capv, rfl, hsv⟩ := OwI.sl HO4.out
    have HRa := Lib.hid (fun U => cright_any U av capv c ra hra)
    have hS := HS4.out
    rw [hra] at hS
    have HS5 := Lib.hid hS
    clear hS hra HS4 hsv
    go_wp2_with (first | (refine ld_cm_w2 (by rfl) _ rfl ga 0 rfl c (.slice av c.L.length capv) HA4.out.range ?_) | fail)
    refine (HRa.out _).mono ?_
    rintro e w10 ⟨rfl, hb10⟩
    have HB5 := Lib.hid (below_on HB4.out (by have := HB4.out.size; have := HG0e.out; omega) hb10)
    have HG5 := Lib.hid (HG4.out.keeps hb10)
    have HA5 := Lib.hid (HA4.out.keeps hb10)
    have HO5 := Lib.hid (owi_kp HO4.out hb10)
    clear hb10 HRa HB4 HG4 HA4 HO4
    cases ra with
    | false =>
      obtain rfl : s = (zC, 221) := by rw [← HS5.out]; rfl
      clear HS5
      have HTH := Lib.hid (HG5.out.thereMid 0 23 (by decide))
      go_wp2_with (first | (refine st_cm rfl _ _ rfl g0 rfl zC (.slice none 0 0) rfl rfl HTH.out ?_) | fail)
      intro W hW
      have HGn : Hid (Blk W g0 45 (zC.C (.slice none 0 0))) := by show Blk _ _ _ _; rw [hW.out]; exact HG5.out.setAll _ rfl
      have HBn : Hid (Below g0 w W) := by show Below _ _ _; rw [hW.out]; exact below_setCells _ _ HB5.out (Nat.le_refl _)
      clear hW
      go_wp2
      exact bodyPost_ret (v := .tuple #[.agg (zC.C (.slice none 0 0)).toArray, .int .i64 221]) (res_cm2 Try.results21 _ _ _ zC (.slice none 0 0) _ rfl rfl HGn.out) rfl ⟨_, rfl, owi_nil _ _, by rw [HG0e.out]; exact HBn.out⟩
    | true =>
      obtain rfl : s = (c, 0) := by rw [← HS5.out]; rfl
      clear HS5
      have HTH := Lib.hid (HG5.out.thereMid 0 23 (by decide))
      go_wp2_with (first | (refine ld_cm_w2 (by rfl) _ rfl ga 0 rfl c (.slice av c.L.length capv) HA5.out.range ?_) | (refine st_cm rfl _ _ rfl g0 rfl c (.slice av c.L.length capv) rfl rfl HTH.out ?_) | fail)
      intro W hW
      have HGn : Hid (Blk W g0 45 (c.C (.slice av c.L.length capv))) := by show Blk _ _ _ _; rw [hW.out]; exact HG5.out.setAll _ rfl
      have HBn : Hid (Below g0 w W) := by show Below _ _ _; rw [hW.out]; exact below_setCells _ _ HB5.out (Nat.le_refl _)
      have HOn : Hid (OwI W g0 (.slice av c.L.length capv) c.L) := by show OwI _ _ _ _; rw [hW.out]; exact OwI.up (owi_setCells _ HO5.out (by omega) 0) (by omega)
      clear hW
      go_wp2
      exact bodyPost_ret (v := .tuple #[.agg (c.C (.slice av c.L.length capv)).toArray, .int .i64 0]) (res_cm2 Try.results21 _ _ _ c (.slice av c.L.length capv) _ rfl rfl HGn.out) rfl ⟨_, rfl, by rw [HG0e.out]; exact HOn.out, by rw [HG0e.out]; exact HBn.out⟩
end Go.Proofs.Ytdkcccigmejikaa
