/-
  Law CommandBytes: the walk.
-/
import Derived.Test.YtdkcccigmejikaaCmD
import Derived.Test.YtdkcccigmejikaaCmE
import Derived.Test.YtdkcccigmejikaaCmG
import Derived.Test.YtdkcccigmejikaaCmP
set_option linter.unusedVariables false
set_option linter.unusedSimpArgs false
set_option maxRecDepth 20000
namespace Go.Proofs.Ytdkcccigmejikaa
open Go.RowKit

section
variable {ops : Array Oper} {rest : List Oper} {op : Oper} {a : Act} {w : World} {Q : Exit → Act → World → Prop}
theorem ld_cm_w (hw : Region.wanted op (yielded ops a.tmps) = true) (x : Operand) (ho : op.op = .load 45 x) (b o : Nat) (hx : a.eval x = .pointer (some ⟨b, o, none⟩)) (c : Cm) (v : Value) (hc : w.rangeAt b o (c.C v))
    (h : wpList Try.prog ops Q rest (a.put op.dst (.agg (c.C v).toArray)) w) : wpList Try.prog ops Q (op :: rest) a w :=
  wpList_step fun _ hK => by
    rw [if_pos hw]
    exact wp_load_mid _ x ho b o hx (c.C v) _ hc Try.underlying45 rfl info_cm (hK _ _ h)
end
set_option maxHeartbeats 1600000 in
theorem great_any (w : World) (ao : Option Addr) (cap : Nat) (c : Cm) (v : Bool) (hv : decide (40 < (c.L.length : Int)) = v) :
    Calls Try.prog 14 #[.agg (c.C (.slice ao c.L.length cap)).toArray] w fun e w' => e = .returned (.bool v) ∧ Below w.heap.size w w' := by
  have HB0 := Lib.hid (below_new1 w (.cells (c.C (.slice ao c.L.length cap)).toArray 45))
  have HG0 := Lib.hid (Blk.new w 45 (c.C (.slice ao c.L.length cap)))
  have HV := Lib.hid hv
  have c6 := HG0.out.cell 6 _ rfl
  clear hv
  go_enter Try.func14, Try.ntmps14
  go_wp2
  go_ret
  exact ⟨by rw [← HV.out]; rfl, HB0.out⟩
set_option maxHeartbeats 6400000 in
theorem cbytes_law (w : World) (ao : Option Addr) (cap : Nat) (c : Cm) (h : Sl w ao c.L.length cap (ic c.L)) (hw : c.wf) (bo : Option Addr) (dap : Nat) (d : Cm) (hd : Sl w bo d.L.length dap (ic d.L)) :
    Calls Try.prog 4 #[.agg (c.C (.slice ao c.L.length cap)).toArray, .agg (d.C (.slice bo d.L.length dap)).toArray] w fun e w' => e = .returned (.bool true) ∧ Below w.heap.size w w' := by
  have HBa := Lib.hid (below_new1 w (.cells (c.C (.slice ao c.L.length cap)).toArray 45))
  have HB0 := Lib.hid (HBa.out.alloc HBa.out.size (.cells (d.C (.slice bo d.L.length dap)).toArray 45))
  have HGa := Lib.hid ((Blk.new w 45 (c.C (.slice ao c.L.length cap))).alloc (.cells (d.C (.slice bo d.L.length dap)).toArray 45))
  have HGb := Lib.hid (Blk.new (w.alloc (.cells (c.C (.slice ao c.L.length cap)).toArray 45)) 45 (d.C (.slice bo d.L.length dap)))
  have HS := Lib.hid h
  have HT := Lib.hid hd
  have HW := Lib.hid hw
  have hgs : (w.alloc (.cells (c.C (.slice ao c.L.length cap)).toArray 45)).heap.size = w.heap.size + 1 := by simp
  rw [hgs] at HGb
  have HA := Lib.hid (calive_any ((w.alloc (.cells (c.C (.slice ao c.L.length cap)).toArray 45)).alloc (.cells (d.C (.slice bo d.L.length dap)).toArray 45)))
  clear h hd hw HBa hgs
  go_enter Try.func4, Try.ntmps4
  obtain ⟨x40, hx⟩ : ∃ z, decide (40 < (c.L.length : Int)) = z := ⟨_, rfl⟩
  obtain ⟨y40, hy⟩ : ∃ z, decide (40 < (d.L.length : Int)) = z := ⟨_, rfl⟩
  have HX := Lib.hid hx
  have HY := Lib.hid hy
  have HGR := Lib.hid (fun U => great_any U ao cap c x40 hx)
  have HGR2 := Lib.hid (fun U => great_any U bo dap d y40 hy)
  clear hx hy
  go_wp2_with fail
  refine HA.out.mono ?_
  rintro e w1 ⟨rfl, hb1⟩
  have HB1 := Lib.hid (below_on HB0.out HB0.out.size hb1)
  have HGa1 := Lib.hid (HGa.out.keeps hb1)
  have HGb1 := Lib.hid (HGb.out.keeps hb1)
  clear hb1 HB0 HGa HGb HA
  go_wp2_with (first | (refine ld_cm rfl _ rfl w.heap.size 0 rfl c (.slice ao c.L.length cap) HGa1.out.range ?_) | fail)
  refine (HGR.out _).mono ?_
  rintro e w2 ⟨rfl, hb2⟩
  have HB2 := Lib.hid (below_on HB1.out HB1.out.size hb2)
  have HGa2 := Lib.hid (HGa1.out.keeps hb2)
  have HGb2 := Lib.hid (HGb1.out.keeps hb2)
  clear hb2 HB1 HGa1 HGb1 HGR
  cases x40 with
  | true =>
    go_wp2
    go_ret
    exact ⟨rfl, HB2.out⟩
  | false =>
  go_wp2_with (first | (refine ld_cm_w (by rfl) _ rfl (w.heap.size + 1) 0 rfl d (.slice bo d.L.length dap) HGb2.out.range ?_) | fail)
  refine (HGR2.out _).mono ?_
  rintro e w3 ⟨rfl, hb3⟩
  have HB3 := Lib.hid (below_on HB2.out HB2.out.size hb3)
  have HGa3 := Lib.hid (HGa2.out.keeps hb3)
  have HGb3 := Lib.hid (HGb2.out.keeps hb3)
  clear hb3 HB2 HGa2 HGb2 HGR2
  cases y40 with
  | true =>
    go_wp2
    go_ret
    exact ⟨rfl, HB3.out⟩
  | false =>
  have hl : c.L.length ≤ 1000000000 := by have := of_decide_eq_false HX.out; omega
  have hl2 : d.L.length ≤ 1000000000 := by have := of_decide_eq_false HY.out; omega
  obtain ⟨⟨T, te⟩, ht⟩ : ∃ t, c.bytes = t := ⟨_, rfl⟩
  obtain ⟨rr, hrr⟩ : ∃ t, c.right = t := ⟨_, rfl⟩
  obtain ⟨sm, hsm⟩ : ∃ t, c.same d = t := ⟨_, rfl⟩
  have HC := Lib.hid (cbytes_any w3 ao cap c (HS.out.keeps HB3.out) HW.out _ ht)
  have HRB := Lib.hid (fun U (hu : Below w.heap.size w U) => rbytes_any U ao cap c (HS.out.keeps hu) HW.out hl _ ht)
  have HRi := Lib.hid (fun U => cright_any U ao cap c rr hrr)
  have HRr := Lib.hid (fun U => rright22_any U ao cap c rr hrr hl)
  have HSa0 := Lib.hid (fun U (hu : Below w.heap.size w U) => csame_any U ao cap c (HS.out.keeps hu) bo dap d (HT.out.keeps hu) sm hsm hl)
  have HSb0 := Lib.hid (fun U (hu : Below w.heap.size w U) => rsame22_any U ao cap c (HS.out.keeps hu) bo dap d (HT.out.keeps hu) sm hsm hl)
  clear ht hrr hsm hl hl2 HX HY HS HT HW
  go_wp2_with (first | (refine ld_cm rfl _ rfl w.heap.size 0 rfl c (.slice ao c.L.length cap) HGa3.out.range ?_) | fail)
  refine HC.out.mono ?_
  rintro e w4 ⟨v4, rfl, ho4, hb4⟩
  have HB4 := Lib.hid (below_on HB3.out HB3.out.size hb4)
  have HGa4 := Lib.hid (HGa3.out.keeps hb4)
  have HGb4 := Lib.hid (HGb3.out.keeps hb4)
  have h4 := ho4.sl
  have HV4a : Hid (SlB w4 v4 T) := h4
  clear hb4 ho4 h4 HB3 HGa3 HGb3 HC
  go_wp2_with (first | (refine ld_cm rfl _ rfl w.heap.size 0 rfl c (.slice ao c.L.length cap) HGa4.out.range ?_) | fail)
  refine (HRB.out w4 HB4.out).mono ?_
  rintro e w5 ⟨v5, rfl, ho5, hb5⟩
  have HB5 := Lib.hid (below_on HB4.out HB4.out.size hb5)
  have HGa5 := Lib.hid (HGa4.out.keeps hb5)
  have HGb5 := Lib.hid (HGb4.out.keeps hb5)
  have HV4 := Lib.hid (SlB.keeps HV4a.out hb5)
  have h5 := ho5.sl
  have HV5 : Hid (SlB w5 v5 T) := h5
  clear hb5 ho5 h5 HB4 HGa4 HGb4 HRB HV4a
  have HSa := Lib.hid (fun U (hu : Below w5.heap.size w5 U) => HSa0.out U (below_on HB5.out HB5.out.size hu))
  have HSb := Lib.hid (fun U (hu : Below w5.heap.size w5 U) => HSb0.out U (below_on HB5.out HB5.out.size hu))
  clear HSa0 HSb0
  obtain ⟨ga, hga⟩ : ∃ g, w.heap.size = g := ⟨_, rfl⟩
  obtain ⟨gb, hgb⟩ : ∃ g, w.heap.size + 1 = g := ⟨_, rfl⟩
  rw [hga] at HGa5
  rw [hgb] at HGb5
  simp only [hgb]
  simp only [hga]
  rw [hga] at HB5
  have HGA := Lib.hid hga
  clear hgb hga
  go_wp2
  refine region_mono (by kernel_rfl) (by kernel_rfl) [some 27, some 28, some 29, some 30, some 31, some 32, some 33, some 34, some 35, some 36, some 37, some 38, some 39, some 40, some 41, some 42, some 43, some 44, some 45, some 46, some 47, some 48, some 49, some 50, some 51, some 52, some 4] (by kernel_rfl) ga w HB5.out (Nat.le_of_eq HGA.out.symm) (fun i v WW => match i with | 0 => v = (.agg (c.C (.slice ao c.L.length cap)).toArray) | 1 => v = .bool rr | 2 => v = (.agg (c.C (.slice ao c.L.length cap)).toArray) | 3 => v = .bool rr | 4 => v = .bool true | 5 => v = .bool true | 6 => v = (.agg (c.C (.slice ao c.L.length cap)).toArray) | 7 => v = (.agg (d.C (.slice bo d.L.length dap)).toArray) | 8 => v = .bool sm | 9 => v = (.agg (c.C (.slice ao c.L.length cap)).toArray) | 10 => v = (.agg (d.C (.slice bo d.L.length dap)).toArray) | 11 => v = .bool sm | 12 => v = .bool true | 13 => v = .bool true | 14 => v = .bool true | 15 => v = v4 | 16 => v = .string (str T) | 17 => v = v5 | 18 => v = .string (str T) | 19 => v = .bool true | 20 => v = .bool true | 21 => v = .bool true | 22 => v = .int .i64 te | 23 => v = .int .i64 te | 24 => v = .bool true | 25 => v = .bool true | 26 => v = .bool true | _ => True) ?_ ?_ ?_
  · intro i v WW WX h hbx
    rcases i with _ | _ | _ | _ | _ | _ | _ | _ | _ | _ | _ | _ | _ | _ | _ | _ | _ | _ | _ | _ | _ | _ | _ | _ | _ | _ | _ | i
    · exact h
    · exact h
    · exact h
    · exact h
    · exact h
    · exact h
    · exact h
    · exact h
    · exact h
    · exact h
    · exact h
    · exact h
    · exact h
    · exact h
    · exact h
    · exact h
    · exact h
    · exact h
    · exact h
    · exact h
    · exact h
    · exact h
    · exact h
    · exact h
    · exact h
    · exact h
    · exact h
    · trivial
  · intro iI oO V AC WW ho hf hbw K hK
    have hlt : iI < 27 := by have := (Array.getElem?_eq_some_iff.1 ho).1; first | exact this | simpa using this
    rcases iI with _ | _ | _ | _ | _ | _ | _ | _ | _ | _ | _ | _ | _ | _ | _ | _ | _ | _ | _ | _ | _ | _ | _ | _ | _ | _ | _ | iI
    · obtain rfl := Option.some.inj (show some _ = some oO from ho)
      rw [if_pos (by rfl)]
      have q2 : AC.tmps.getD 2 undef = .pointer (some ⟨ga, 0, none⟩) := hf.rest 2 (by kernel_rfl)
      exact wp_load_mid _ _ rfl ga 0 q2 (c.C (.slice ao c.L.length cap)) _ (HGa5.out.keeps hbw).range Try.underlying45 rfl info_cm (hK _ _ (Below.refl _ _) rfl)
    · obtain rfl := Option.some.inj (show some _ = some oO from ho)
      rw [if_pos (by rfl)]
      have q27 : AC.tmps.getD 27 undef = (.agg (c.C (.slice ao c.L.length cap)).toArray) := ((hf.dep ⟨0, .data⟩ (by simp) rfl).2 27 rfl).trans (hf.dep ⟨0, .data⟩ (by simp) rfl).1
      go_simp
      refine (HRi.out WW).mono ?_
      rintro e w9 ⟨rfl, hb9⟩
      exact hK _ _ hb9 rfl
    · obtain rfl := Option.some.inj (show some _ = some oO from ho)
      rw [if_pos (by rfl)]
      have q2 : AC.tmps.getD 2 undef = .pointer (some ⟨ga, 0, none⟩) := hf.rest 2 (by kernel_rfl)
      exact wp_load_mid _ _ rfl ga 0 q2 (c.C (.slice ao c.L.length cap)) _ (HGa5.out.keeps hbw).range Try.underlying45 rfl info_cm (hK _ _ (Below.refl _ _) rfl)
    · obtain rfl := Option.some.inj (show some _ = some oO from ho)
      rw [if_pos (by rfl)]
      have q29 : AC.tmps.getD 29 undef = (.agg (c.C (.slice ao c.L.length cap)).toArray) := ((hf.dep ⟨2, .data⟩ (by simp) rfl).2 29 rfl).trans (hf.dep ⟨2, .data⟩ (by simp) rfl).1
      go_simp
      refine (HRr.out WW).mono ?_
      rintro e w9 ⟨rfl, hb9⟩
      exact hK _ _ hb9 rfl
    · obtain rfl := Option.some.inj (show some _ = some oO from ho)
      rw [if_pos (by rfl)]
      have q28 : AC.tmps.getD 28 undef = .bool rr := ((hf.dep ⟨1, .data⟩ (by simp) rfl).2 28 rfl).trans (hf.dep ⟨1, .data⟩ (by simp) rfl).1
      have q30 : AC.tmps.getD 30 undef = .bool rr := ((hf.dep ⟨3, .data⟩ (by simp) rfl).2 30 rfl).trans (hf.dep ⟨3, .data⟩ (by simp) rfl).1
      go_simp
      exact hK _ _ (Below.refl _ _) (by simp)
    · obtain rfl := Option.some.inj (show some _ = some oO from ho)
      rw [if_pos (by rfl)]
      have q31 : AC.tmps.getD 31 undef = .bool true := ((hf.dep ⟨4, .data⟩ (by simp) rfl).2 31 rfl).trans (hf.dep ⟨4, .data⟩ (by simp) rfl).1
      go_simp
      exact hK _ _ (Below.refl _ _) rfl
    · obtain rfl := Option.some.inj (show some _ = some oO from ho)
      rw [if_pos (wanted_yes (s := 32) rfl rfl rfl (by rw [hf.size]; simp) (((hf.dep ⟨5, .guard⟩ (by simp) rfl).2 32 rfl).trans (hf.dep ⟨5, .guard⟩ (by simp) rfl).1))]
      have q2 : AC.tmps.getD 2 undef = .pointer (some ⟨ga, 0, none⟩) := hf.rest 2 (by kernel_rfl)
      exact wp_load_mid _ _ rfl ga 0 q2 (c.C (.slice ao c.L.length cap)) _ (HGa5.out.keeps hbw).range Try.underlying45 rfl info_cm (hK _ _ (Below.refl _ _) rfl)
    · obtain rfl := Option.some.inj (show some _ = some oO from ho)
      rw [if_pos (wanted_yes (s := 32) rfl rfl rfl (by rw [hf.size]; simp) (((hf.dep ⟨5, .guard⟩ (by simp) rfl).2 32 rfl).trans (hf.dep ⟨5, .guard⟩ (by simp) rfl).1))]
      have q3 : AC.tmps.getD 3 undef = .pointer (some ⟨gb, 0, none⟩) := hf.rest 3 (by kernel_rfl)
      exact wp_load_mid _ _ rfl gb 0 q3 (d.C (.slice bo d.L.length dap)) _ (HGb5.out.keeps hbw).range Try.underlying45 rfl info_cm (hK _ _ (Below.refl _ _) rfl)
    · obtain rfl := Option.some.inj (show some _ = some oO from ho)
      rw [if_pos (wanted_yes (s := 32) rfl rfl rfl (by rw [hf.size]; simp) (((hf.dep ⟨5, .guard⟩ (by simp) rfl).2 32 rfl).trans (hf.dep ⟨5, .guard⟩ (by simp) rfl).1))]
      have q33 : AC.tmps.getD 33 undef = (.agg (c.C (.slice ao c.L.length cap)).toArray) := ((hf.dep ⟨6, .data⟩ (by simp) rfl).2 33 rfl).trans (hf.dep ⟨6, .data⟩ (by simp) rfl).1
      have q34 : AC.tmps.getD 34 undef = (.agg (d.C (.slice bo d.L.length dap)).toArray) := ((hf.dep ⟨7, .data⟩ (by simp) rfl).2 34 rfl).trans (hf.dep ⟨7, .data⟩ (by simp) rfl).1
      go_simp
      refine (HSa.out WW hbw).mono ?_
      rintro e w9 ⟨rfl, hb9⟩
      exact hK _ _ hb9 rfl
    · obtain rfl := Option.some.inj (show some _ = some oO from ho)
      rw [if_pos (wanted_yes (s := 32) rfl rfl rfl (by rw [hf.size]; simp) (((hf.dep ⟨5, .guard⟩ (by simp) rfl).2 32 rfl).trans (hf.dep ⟨5, .guard⟩ (by simp) rfl).1))]
      have q2 : AC.tmps.getD 2 undef = .pointer (some ⟨ga, 0, none⟩) := hf.rest 2 (by kernel_rfl)
      exact wp_load_mid _ _ rfl ga 0 q2 (c.C (.slice ao c.L.length cap)) _ (HGa5.out.keeps hbw).range Try.underlying45 rfl info_cm (hK _ _ (Below.refl _ _) rfl)
    · obtain rfl := Option.some.inj (show some _ = some oO from ho)
      rw [if_pos (wanted_yes (s := 32) rfl rfl rfl (by rw [hf.size]; simp) (((hf.dep ⟨5, .guard⟩ (by simp) rfl).2 32 rfl).trans (hf.dep ⟨5, .guard⟩ (by simp) rfl).1))]
      have q3 : AC.tmps.getD 3 undef = .pointer (some ⟨gb, 0, none⟩) := hf.rest 3 (by kernel_rfl)
      exact wp_load_mid _ _ rfl gb 0 q3 (d.C (.slice bo d.L.length dap)) _ (HGb5.out.keeps hbw).range Try.underlying45 rfl info_cm (hK _ _ (Below.refl _ _) rfl)
    · obtain rfl := Option.some.inj (show some _ = some oO from ho)
      rw [if_pos (wanted_yes (s := 32) rfl rfl rfl (by rw [hf.size]; simp) (((hf.dep ⟨5, .guard⟩ (by simp) rfl).2 32 rfl).trans (hf.dep ⟨5, .guard⟩ (by simp) rfl).1))]
      have q36 : AC.tmps.getD 36 undef = (.agg (c.C (.slice ao c.L.length cap)).toArray) := ((hf.dep ⟨9, .data⟩ (by simp) rfl).2 36 rfl).trans (hf.dep ⟨9, .data⟩ (by simp) rfl).1
      have q37 : AC.tmps.getD 37 undef = (.agg (d.C (.slice bo d.L.length dap)).toArray) := ((hf.dep ⟨10, .data⟩ (by simp) rfl).2 37 rfl).trans (hf.dep ⟨10, .data⟩ (by simp) rfl).1
      go_simp
      refine (HSb.out WW hbw).mono ?_
      rintro e w9 ⟨rfl, hb9⟩
      exact hK _ _ hb9 rfl
    · obtain rfl := Option.some.inj (show some _ = some oO from ho)
      rw [if_pos (wanted_yes (s := 32) rfl rfl rfl (by rw [hf.size]; simp) (((hf.dep ⟨5, .guard⟩ (by simp) rfl).2 32 rfl).trans (hf.dep ⟨5, .guard⟩ (by simp) rfl).1))]
      have q35 : AC.tmps.getD 35 undef = .bool sm := ((hf.dep ⟨8, .data⟩ (by simp) rfl).2 35 rfl).trans (hf.dep ⟨8, .data⟩ (by simp) rfl).1
      have q38 : AC.tmps.getD 38 undef = .bool sm := ((hf.dep ⟨11, .data⟩ (by simp) rfl).2 38 rfl).trans (hf.dep ⟨11, .data⟩ (by simp) rfl).1
      go_simp
      exact hK _ _ (Below.refl _ _) (by simp)
    · obtain rfl := Option.some.inj (show some _ = some oO from ho)
      rw [if_pos (by rfl)]
      have q32 : AC.tmps.getD 32 undef = .bool true := ((hf.dep ⟨5, .data⟩ (by simp) rfl).2 32 rfl).trans (hf.dep ⟨5, .data⟩ (by simp) rfl).1
      have q39 : AC.tmps.getD 39 undef = .bool true := ((hf.dep ⟨12, .data⟩ (by simp) rfl).2 39 rfl).trans (hf.dep ⟨12, .data⟩ (by simp) rfl).1
      go_simp
      exact hK _ _ (Below.refl _ _) rfl
    · obtain rfl := Option.some.inj (show some _ = some oO from ho)
      rw [if_pos (by rfl)]
      have q40 : AC.tmps.getD 40 undef = .bool true := ((hf.dep ⟨13, .data⟩ (by simp) rfl).2 40 rfl).trans (hf.dep ⟨13, .data⟩ (by simp) rfl).1
      go_simp
      exact hK _ _ (Below.refl _ _) rfl
    · obtain rfl := Option.some.inj (show some _ = some oO from ho)
      rw [if_pos (wanted_yes (s := 41) rfl rfl rfl (by rw [hf.size]; simp) (((hf.dep ⟨14, .guard⟩ (by simp) rfl).2 41 rfl).trans (hf.dep ⟨14, .guard⟩ (by simp) rfl).1))]
      have q5 : AC.tmps.getD 5 undef = v4 := hf.rest 5 (by kernel_rfl)
      go_simp
      exact hK _ _ (Below.refl _ _) rfl
    · obtain rfl := Option.some.inj (show some _ = some oO from ho)
      rw [if_pos (wanted_yes (s := 41) rfl rfl rfl (by rw [hf.size]; simp) (((hf.dep ⟨14, .guard⟩ (by simp) rfl).2 41 rfl).trans (hf.dep ⟨14, .guard⟩ (by simp) rfl).1))]
      have q42 : AC.tmps.getD 42 undef = v4 := ((hf.dep ⟨15, .data⟩ (by simp) rfl).2 42 rfl).trans (hf.dep ⟨15, .data⟩ (by simp) rfl).1
      exact to_text_op _ rfl _ q42 _ (SlB.keeps HV4.out hbw) (hK _ _ (Below.refl _ _) rfl)
    · obtain rfl := Option.some.inj (show some _ = some oO from ho)
      rw [if_pos (wanted_yes (s := 41) rfl rfl rfl (by rw [hf.size]; simp) (((hf.dep ⟨14, .guard⟩ (by simp) rfl).2 41 rfl).trans (hf.dep ⟨14, .guard⟩ (by simp) rfl).1))]
      have q7 : AC.tmps.getD 7 undef = v5 := hf.rest 7 (by kernel_rfl)
      go_simp
      exact hK _ _ (Below.refl _ _) rfl
    · obtain rfl := Option.some.inj (show some _ = some oO from ho)
      rw [if_pos (wanted_yes (s := 41) rfl rfl rfl (by rw [hf.size]; simp) (((hf.dep ⟨14, .guard⟩ (by simp) rfl).2 41 rfl).trans (hf.dep ⟨14, .guard⟩ (by simp) rfl).1))]
      have q44 : AC.tmps.getD 44 undef = v5 := ((hf.dep ⟨17, .data⟩ (by simp) rfl).2 44 rfl).trans (hf.dep ⟨17, .data⟩ (by simp) rfl).1
      exact to_text_op _ rfl _ q44 _ (SlB.keeps HV5.out hbw) (hK _ _ (Below.refl _ _) rfl)
    · obtain rfl := Option.some.inj (show some _ = some oO from ho)
      rw [if_pos (wanted_yes (s := 41) rfl rfl rfl (by rw [hf.size]; simp) (((hf.dep ⟨14, .guard⟩ (by simp) rfl).2 41 rfl).trans (hf.dep ⟨14, .guard⟩ (by simp) rfl).1))]
      have q43 : AC.tmps.getD 43 undef = .string (str T) := ((hf.dep ⟨16, .data⟩ (by simp) rfl).2 43 rfl).trans (hf.dep ⟨16, .data⟩ (by simp) rfl).1
      have q45 : AC.tmps.getD 45 undef = .string (str T) := ((hf.dep ⟨18, .data⟩ (by simp) rfl).2 45 rfl).trans (hf.dep ⟨18, .data⟩ (by simp) rfl).1
      go_simp
      exact hK _ _ (Below.refl _ _) (by simp)
    · obtain rfl := Option.some.inj (show some _ = some oO from ho)
      rw [if_pos (by rfl)]
      have q41 : AC.tmps.getD 41 undef = .bool true := ((hf.dep ⟨14, .data⟩ (by simp) rfl).2 41 rfl).trans (hf.dep ⟨14, .data⟩ (by simp) rfl).1
      have q46 : AC.tmps.getD 46 undef = .bool true := ((hf.dep ⟨19, .data⟩ (by simp) rfl).2 46 rfl).trans (hf.dep ⟨19, .data⟩ (by simp) rfl).1
      go_simp
      exact hK _ _ (Below.refl _ _) rfl
    · obtain rfl := Option.some.inj (show some _ = some oO from ho)
      rw [if_pos (by rfl)]
      have q47 : AC.tmps.getD 47 undef = .bool true := ((hf.dep ⟨20, .data⟩ (by simp) rfl).2 47 rfl).trans (hf.dep ⟨20, .data⟩ (by simp) rfl).1
      go_simp
      exact hK _ _ (Below.refl _ _) rfl
    · obtain rfl := Option.some.inj (show some _ = some oO from ho)
      rw [if_pos (wanted_yes (s := 48) rfl rfl rfl (by rw [hf.size]; simp) (((hf.dep ⟨21, .guard⟩ (by simp) rfl).2 48 rfl).trans (hf.dep ⟨21, .guard⟩ (by simp) rfl).1))]
      have q6 : AC.tmps.getD 6 undef = .int .i64 te := hf.rest 6 (by kernel_rfl)
      go_simp
      exact hK _ _ (Below.refl _ _) rfl
    · obtain rfl := Option.some.inj (show some _ = some oO from ho)
      rw [if_pos (wanted_yes (s := 48) rfl rfl rfl (by rw [hf.size]; simp) (((hf.dep ⟨21, .guard⟩ (by simp) rfl).2 48 rfl).trans (hf.dep ⟨21, .guard⟩ (by simp) rfl).1))]
      have q8 : AC.tmps.getD 8 undef = .int .i64 te := hf.rest 8 (by kernel_rfl)
      go_simp
      exact hK _ _ (Below.refl _ _) rfl
    · obtain rfl := Option.some.inj (show some _ = some oO from ho)
      rw [if_pos (wanted_yes (s := 48) rfl rfl rfl (by rw [hf.size]; simp) (((hf.dep ⟨21, .guard⟩ (by simp) rfl).2 48 rfl).trans (hf.dep ⟨21, .guard⟩ (by simp) rfl).1))]
      have q49 : AC.tmps.getD 49 undef = .int .i64 te := ((hf.dep ⟨22, .data⟩ (by simp) rfl).2 49 rfl).trans (hf.dep ⟨22, .data⟩ (by simp) rfl).1
      have q50 : AC.tmps.getD 50 undef = .int .i64 te := ((hf.dep ⟨23, .data⟩ (by simp) rfl).2 50 rfl).trans (hf.dep ⟨23, .data⟩ (by simp) rfl).1
      go_simp
      exact hK _ _ (Below.refl _ _) (by simp)
    · obtain rfl := Option.some.inj (show some _ = some oO from ho)
      rw [if_pos (by rfl)]
      have q48 : AC.tmps.getD 48 undef = .bool true := ((hf.dep ⟨21, .data⟩ (by simp) rfl).2 48 rfl).trans (hf.dep ⟨21, .data⟩ (by simp) rfl).1
      have q51 : AC.tmps.getD 51 undef = .bool true := ((hf.dep ⟨24, .data⟩ (by simp) rfl).2 51 rfl).trans (hf.dep ⟨24, .data⟩ (by simp) rfl).1
      go_simp
      exact hK _ _ (Below.refl _ _) rfl
    · obtain rfl := Option.some.inj (show some _ = some oO from ho)
      rw [if_pos (by rfl)]
      have q52 : AC.tmps.getD 52 undef = .bool true := ((hf.dep ⟨25, .data⟩ (by simp) rfl).2 52 rfl).trans (hf.dep ⟨25, .data⟩ (by simp) rfl).1
      go_simp
      exact hK _ _ (Below.refl _ _) rfl
    · omega
  · intro V WW hall hbw hBW
    have vv0 : V 0 = (.agg (c.C (.slice ao c.L.length cap)).toArray) := hall 0 (by decide)
    have vv1 : V 1 = .bool rr := hall 1 (by decide)
    have vv2 : V 2 = (.agg (c.C (.slice ao c.L.length cap)).toArray) := hall 2 (by decide)
    have vv3 : V 3 = .bool rr := hall 3 (by decide)
    have vv4 : V 4 = .bool true := hall 4 (by decide)
    have vv5 : V 5 = .bool true := hall 5 (by decide)
    have vv6 : V 6 = (.agg (c.C (.slice ao c.L.length cap)).toArray) := hall 6 (by decide)
    have vv7 : V 7 = (.agg (d.C (.slice bo d.L.length dap)).toArray) := hall 7 (by decide)
    have vv8 : V 8 = .bool sm := hall 8 (by decide)
    have vv9 : V 9 = (.agg (c.C (.slice ao c.L.length cap)).toArray) := hall 9 (by decide)
    have vv10 : V 10 = (.agg (d.C (.slice bo d.L.length dap)).toArray) := hall 10 (by decide)
    have vv11 : V 11 = .bool sm := hall 11 (by decide)
    have vv12 : V 12 = .bool true := hall 12 (by decide)
    have vv13 : V 13 = .bool true := hall 13 (by decide)
    have vv14 : V 14 = .bool true := hall 14 (by decide)
    have vv15 : V 15 = v4 := hall 15 (by decide)
    have vv16 : V 16 = .string (str T) := hall 16 (by decide)
    have vv17 : V 17 = v5 := hall 17 (by decide)
    have vv18 : V 18 = .string (str T) := hall 18 (by decide)
    have vv19 : V 19 = .bool true := hall 19 (by decide)
    have vv20 : V 20 = .bool true := hall 20 (by decide)
    have vv21 : V 21 = .bool true := hall 21 (by decide)
    have vv22 : V 22 = .int .i64 te := hall 22 (by decide)
    have vv23 : V 23 = .int .i64 te := hall 23 (by decide)
    have vv24 : V 24 = .bool true := hall 24 (by decide)
    have vv25 : V 25 = .bool true := hall 25 (by decide)
    have vv26 : V 26 = .bool true := hall 26 (by decide)
    clear hall
    simp only [pairsOf, laid, Nat.zero_add, Nat.reduceAdd, vv0, vv1, vv2, vv3, vv4, vv5, vv6, vv7, vv8, vv9, vv10, vv11, vv12, vv13, vv14, vv15, vv16, vv17, vv18, vv19, vv20, vv21, vv22, vv23, vv24, vv25, vv26, List.setIfInBounds_toArray, List.set_cons_zero, List.set_cons_succ]
    clear vv0 vv1 vv2 vv3 vv4 vv5 vv6 vv7 vv8 vv9 vv10 vv11 vv12 vv13 vv14 vv15 vv16 vv17 vv18 vv19 vv20 vv21 vv22 vv23 vv24 vv25 vv26
    have HWf := Lib.hid hBW
    clear hbw hBW
    go_wp2
    go_ret
    exact ⟨rfl, by rw [HGA.out]; exact HWf.out⟩
theorem cbytes_row (c : Cm) (ao : Option Addr) (cap : Nat) (hw : c.wf) (d : Cm) (bo : Option Addr) (dap : Nat) (w : World) (h : Sl w ao c.L.length cap (ic c.L)) (hd : Sl w bo d.L.length dap (ic d.L)) :
    Calls Try.prog 4 #[.agg (c.C (.slice ao c.L.length cap)).toArray, .agg (d.C (.slice bo d.L.length dap)).toArray] w fun e w' => e = .returned (.bool true) ∧ Below w.heap.size w w' :=
  cbytes_law w ao cap c h hw bo dap d hd
end Go.Proofs.Ytdkcccigmejikaa
