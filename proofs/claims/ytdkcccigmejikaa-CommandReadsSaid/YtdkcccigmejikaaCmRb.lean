/-
  The walk of the reference's Read.
-/
import Derived.Test.YtdkcccigmejikaaCmRa
import Derived.Test.YtdkcccigmejikaaCmG
import Derived.Test.YtdkcccigmejikaaThen
set_option linter.unusedVariables false
set_option linter.unusedSimpArgs false
set_option maxRecDepth 20000
namespace Go.Proofs.Ytdkcccigmejikaa
open Go.RowKit

section
variable {ops : Array Oper} {rest : List Oper} {op : Oper} {a : Act} {w : World} {Q : Exit → Act → World → Prop} {P : Program}
theorem st_c1 (hgd : op.guard = none) (ty : TypeId) (x y : Operand) (ho : op.op = .store ty x y) (b o : Nat) (v : Value) (hx : a.eval x = .pointer (some ⟨b, o, none⟩)) (hy : a.eval y = v) (h1 : v.oneCell' = true) (hc : w.there b o 1)
    (hi : (P.info? ty).map (·.size) = some 1) (h : ∀ W, Hid (W = w.setCell ⟨b, o, none⟩ v) → wpList P ops Q rest (a.put op.dst undef) W) : wpList P ops Q (op :: rest) a w := st_c hgd ty x y ho b o v hx hy h1 hc hi h
end
theorem ld_rr {ops : Array Oper} {rest : List Oper} {op : Oper} {a : Act} {w : World} {Q : Exit → Act → World → Prop} (hgd : op.guard = none) (x : Operand) (ho : op.op = .load 80 x) (b o : Nat) (hx : a.eval x = .pointer (some ⟨b, o, none⟩)) (p q : Value) (hc : w.rangeAt b o [p, q])
    (h : wpList Try.prog ops Q rest (a.put op.dst (.agg #[p, q])) w) : wpList Try.prog ops Q (op :: rest) a w :=
  wpList_load_mid hgd _ x ho b o hx [p, q] _ hc Try.underlying80 rfl info_rr h
theorem info_sl64 : (Try.prog.info? 23).map (·.size) = some 1 := by kernel_rfl
theorem info_terms : (Try.prog.info? 37).map (·.size) = some 3 := by kernel_rfl
theorem info_limits : (Try.prog.info? 39).map (·.size) = some 3 := by kernel_rfl
theorem info_figs : (Try.prog.info? 43).map (·.size) = some 5 := by kernel_rfl
theorem eleven_of (l : List Int) (h : l.length = 11) : ∃ a b c d e f g h i j k, l = [a, b, c, d, e, f, g, h, i, j, k] := by
  match l, h with
  | [a, b, c, d, e, f, g, h, i, j, k], _ => exact ⟨a, b, c, d, e, f, g, h, i, j, k, rfl⟩
theorem readR_of {B : List UInt8} {s : Cm × Int} (hs : readR B = s) {c : Cm} {L : List UInt8} {f : Bool} (hp : parseC 30 B = (c, L, f)) : ∀ t : List UInt8 × Int, c.bytes = t → (t.2 = 0 → t.1 = B → s = (c, 0)) ∧ (¬ (t.2 = 0 ∧ t.1 = B) → s = (zC, 221)) := by
  rintro ⟨T, te⟩ ht
  unfold readR at hs
  rw [hp] at hs
  simp only [ht] at hs
  constructor
  · rintro rfl rfl
    rw [← hs, if_pos rfl]
  · intro h
    rw [← hs, if_neg]
    intro e
    exact h ⟨(Prod.mk.inj e).2, (Prod.mk.inj e).1⟩
set_option maxHeartbeats 12800000 in
theorem rread_any (w : World) (a3 : Option Addr) (p3 : Nat) (B : List UInt8) (h : Sl w a3 B.length p3 (bc B)) (hlo : ∀ a, a3 = some a → a.block < w.heap.size) (hl : B.length ≤ 1000000) (s : Cm × Int) (hs : readR B = s) :
    Calls Try.prog 22 #[.slice a3 B.length p3] w fun e w' => ∃ v, e = .returned (.tuple #[.agg (s.1.C v).toArray, .int .i64 s.2]) ∧ OwI w' w.heap.size v s.1.L ∧ Below w.heap.size w w' := by
  obtain ⟨kn, L0, f0, y0, y1, y2, y3, y4, L5, f5, e0, e5, hk, hcase⟩ := parse_cases 30 B
  have hwf := parseC_wf 30 (by decide) B
  have HCs := Lib.hid hcase
  have HE0 := Lib.hid e0
  have HE5 := Lib.hid e5
  have HSR := Lib.hid hs
  have HWP := Lib.hid hwf
  have HH := Lib.hid h
  have HST := Lib.hid (RT.start h hlo hl)
  have HTH := Lib.hid ((Blk.new3 w (.cells (zC.C (.slice none 0 0)).toArray 45) (.cells #[.slice a3 B.length p3, .bool false] 80) 45 (zC.C (.slice none 0 0))).thereMid 0 23 (by decide))
  clear hcase e0 e5 hs hwf h hlo hl
  go_enter Try.func22, Try.ntmps22
  go_wp2_with (first | (refine st_cm rfl _ _ rfl (w.heap.size + 2) rfl zC (.slice none 0 0) rfl rfl HTH.out ?_) | fail)
  intro w1 hW
  have HSs := Lib.hid (HST.out w1 hW.out)
  obtain ⟨ga, hga⟩ : ∃ g, w.heap.size + 2 = g := ⟨_, rfl⟩
  obtain ⟨r, hr⟩ : ∃ g, w.heap.size + 1 = g := ⟨_, rfl⟩
  obtain ⟨g0, hg0⟩ : ∃ g, w.heap.size = g := ⟨_, rfl⟩
  rw [hga, hr, hg0] at HSs
  simp only [show w.heap.size + 1 + 1 = ga from hga]
  simp only [hr]
  simp only [hg0]
  clear hW HTH HST hga hr hg0
  obtain ⟨ar1, pr1, hB, hT⟩ := HSs.out.take 30 (by decide) _ _ _ HE0.out
  have HBr := Lib.hid hB
  have HT := Lib.hid hT
  clear hB hT
  go_wp2_with (first | (refine ld_rr rfl _ rfl r 0 rfl (.slice ar1 B.length pr1) (.bool false) HBr.out.range ?_) | fail)
  refine HT.out.mono ?_
  rintro e wt1 ⟨at1, pt1, rfl, hth, hnx⟩
  have HTH := Lib.hid hth
  have HNX := Lib.hid hnx
  clear hth hnx HBr HT HSs
  go_wp2_with (first | (refine st_rr rfl _ _ rfl r 0 rfl (.slice at1 L0.length pt1) (.bool f0) rfl rfl rfl HTH.out ?_) | fail)
  intro wu1 hW
  have HS1 : Hid (RT w wu1 r g0 ga zC (.slice none 0 0) L0 f0) := HNX.out _ hW.out
  clear hW HTH HNX
  have HTH := Lib.hid (HS1.out.there 0 (by decide))
  go_wp2_with (first | (refine st_c rfl _ _ _ rfl ga 0 (.int .i64 (kn : Int)) rfl rfl rfl HTH.out info_int ?_) | fail)
  intro ws1 hW
  have HA0 : Hid (RT w ws1 r g0 ga (⟨(kn : Int), 0, 0, 0, 0, 0, [], 0, 0, 0, 0, 0, 0, 0, 0, 0, 0, 0, 0, 0, 0, 0, 0⟩ : Cm) (.slice none 0 0) L0 f0) := by show RT _ _ _ _ _ _ _ _ _; rw [hW.out]; exact HS1.out.setI 0 _ _ rfl rfl
  clear hW HTH HS1
  go_wp2_with fail
  refine (HA0.out.ints 5 (by decide) _ _ _ HE5.out).mono ?_
  rintro e wi_g8 ⟨u, rfl, hou, hs_⟩
  have HB0 := Lib.hid hs_
  obtain ⟨g8, p_g8, rfl, hg_, -, hn_⟩ := OwI.cells hou (by simp)
  have HN0 := Lib.hid hn_
  have HLg8 : Hid (ga < g8) := by show _ < _; omega
  simp only [List.length_cons, List.length_nil, Nat.zero_add, Nat.reduceAdd]
  clear hou hs_ hg_ hn_ HA0
  have HTH := Lib.hid (HB0.out.there 1 (by decide))
  have hn := HN0.out 0 _ rfl
  go_wp2_with (first | (refine st_c rfl _ _ _ rfl ga 1 (.int .i64 y0) rfl rfl rfl HTH.out info_int ?_) | fail)
  intro ws2 hW
  have HB1 : Hid (RT w ws2 r g0 ga (⟨(kn : Int), y0, 0, 0, 0, 0, [], 0, 0, 0, 0, 0, 0, 0, 0, 0, 0, 0, 0, 0, 0, 0, 0⟩ : Cm) (.slice none 0 0) L5 f5) := by show RT _ _ _ _ _ _ _ _ _; rw [hW.out]; exact HB0.out.setI 1 _ _ rfl rfl
  have HN1 : Hid (NC ws2 g8 [y0, y1, y2, y3, y4]) := by show NC _ _ _; rw [hW.out]; exact NC.set HN0.out (by have := HLg8.out; omega)
  clear hn HN0
  clear hW HTH HB0
  have HTH := Lib.hid (HB1.out.there 2 (by decide))
  have hn := HN1.out 1 _ rfl
  go_wp2_with (first | (refine st_c rfl _ _ _ rfl ga 2 (.int .i64 y1) rfl rfl rfl HTH.out info_int ?_) | fail)
  intro ws3 hW
  have HB2 : Hid (RT w ws3 r g0 ga (⟨(kn : Int), y0, y1, 0, 0, 0, [], 0, 0, 0, 0, 0, 0, 0, 0, 0, 0, 0, 0, 0, 0, 0, 0⟩ : Cm) (.slice none 0 0) L5 f5) := by show RT _ _ _ _ _ _ _ _ _; rw [hW.out]; exact HB1.out.setI 2 _ _ rfl rfl
  have HN2 : Hid (NC ws3 g8 [y0, y1, y2, y3, y4]) := by show NC _ _ _; rw [hW.out]; exact NC.set HN1.out (by have := HLg8.out; omega)
  clear hn HN1
  clear hW HTH HB1
  have HTH := Lib.hid (HB2.out.there 3 (by decide))
  have hn := HN2.out 2 _ rfl
  go_wp2_with (first | (refine st_c rfl _ _ _ rfl ga 3 (.int .i64 y2) rfl rfl rfl HTH.out info_int ?_) | fail)
  intro ws4 hW
  have HB3 : Hid (RT w ws4 r g0 ga (⟨(kn : Int), y0, y1, y2, 0, 0, [], 0, 0, 0, 0, 0, 0, 0, 0, 0, 0, 0, 0, 0, 0, 0, 0⟩ : Cm) (.slice none 0 0) L5 f5) := by show RT _ _ _ _ _ _ _ _ _; rw [hW.out]; exact HB2.out.setI 3 _ _ rfl rfl
  have HN3 : Hid (NC ws4 g8 [y0, y1, y2, y3, y4]) := by show NC _ _ _; rw [hW.out]; exact NC.set HN2.out (by have := HLg8.out; omega)
  clear hn HN2
  clear hW HTH HB2
  have HTH := Lib.hid (HB3.out.there 4 (by decide))
  have hn := HN3.out 3 _ rfl
  go_wp2_with (first | (refine st_c rfl _ _ _ rfl ga 4 (.int .i64 y3) rfl rfl rfl HTH.out info_int64 ?_) | fail)
  intro ws5 hW
  have HB4 : Hid (RT w ws5 r g0 ga (⟨(kn : Int), y0, y1, y2, y3, 0, [], 0, 0, 0, 0, 0, 0, 0, 0, 0, 0, 0, 0, 0, 0, 0, 0⟩ : Cm) (.slice none 0 0) L5 f5) := by show RT _ _ _ _ _ _ _ _ _; rw [hW.out]; exact HB3.out.setI 4 _ _ rfl rfl
  have HN4 : Hid (NC ws5 g8 [y0, y1, y2, y3, y4]) := by show NC _ _ _; rw [hW.out]; exact NC.set HN3.out (by have := HLg8.out; omega)
  clear hn HN3
  clear hW HTH HB3
  have HTH := Lib.hid (HB4.out.there 5 (by decide))
  have hn := HN4.out 4 _ rfl
  go_wp2_with (first | (refine st_c rfl _ _ _ rfl ga 5 (.int .i64 y4) rfl rfl rfl HTH.out info_int64 ?_) | fail)
  intro ws6 hW
  have HB5 : Hid (RT w ws6 r g0 ga (⟨(kn : Int), y0, y1, y2, y3, y4, [], 0, 0, 0, 0, 0, 0, 0, 0, 0, 0, 0, 0, 0, 0, 0, 0⟩ : Cm) (.slice none 0 0) L5 f5) := by show RT _ _ _ _ _ _ _ _ _; rw [hW.out]; exact HB4.out.setI 5 _ _ rfl rfl
  have HN5 : Hid (NC ws6 g8 [y0, y1, y2, y3, y4]) := by show NC _ _ _; rw [hW.out]; exact NC.set HN4.out (by have := HLg8.out; omega)
  clear hn HN4
  clear hW HTH HB4
  clear HN5 HLg8 HE0 HE5
  rcases HCs.out with ⟨rfl, m, L6, f6, M, L7, f7, N, L8, f8, e6, e7, e8, hm, h7, h8, hp⟩ | ⟨rfl, z0, z1, z2, L8, f8, e8, hp⟩ | ⟨k1, k15, hp⟩
  · obtain ⟨n0, n1, n2, n3, n4, n5, n6, n7, n8, n9, n10, rfl⟩ := eleven_of N h8
    have HML : Hid (M.length ≤ 16) := by show _ ≤ _; omega
    have HMn := Lib.hid h7
    have HE6 := Lib.hid e6
    have HE7 := Lib.hid e7
    have HE8 := Lib.hid e8
    have HSE := Lib.hid (readR_of HSR.out hp)
    have HWF := HWP.out
    rw [hp] at HWF
    replace HWF := Lib.hid HWF
    have hm1 : m ≤ 1000 := by omega
    clear e6 e7 e8 hp h7 HWP HSR HCs
    as_aux_lemma =>
    obtain ⟨ar2, pr2, hB, hT⟩ := HB5.out.take 16 (by decide) _ _ _ HE6.out
    have HBr := Lib.hid hB
    have HT := Lib.hid hT
    clear hB hT
    go_wp2_with (first | (refine ld_rr rfl _ rfl r 0 rfl (.slice ar2 L5.length pr2) (.bool f5) HBr.out.range ?_) | fail)
    refine HT.out.mono ?_
    rintro e wt2 ⟨at2, pt2, rfl, hth, hnx⟩
    have HTH := Lib.hid hth
    have HNX := Lib.hid hnx
    clear hth hnx HBr HT HB5
    go_wp2_with (first | (refine st_rr rfl _ _ rfl r 0 rfl (.slice at2 L6.length pt2) (.bool f6) rfl rfl rfl HTH.out ?_) | fail)
    intro wu2 hW
    have HS2 : Hid (RT w wu2 r g0 ga (⟨((1 : Nat) : Int), y0, y1, y2, y3, y4, [], 0, 0, 0, 0, 0, 0, 0, 0, 0, 0, 0, 0, 0, 0, 0, 0⟩ : Cm) (.slice none 0 0) L6 f6) := HNX.out _ hW.out
    clear hW HTH HNX
    go_wp2_with fail
    refine (HS2.out.ints m hm1 _ _ _ HE7.out).mono ?_
    rintro e wl ⟨ul, rfl, hou, hs_⟩
    have HC0 := Lib.hid hs_
    have HOU := Lib.hid hou
    have hol : ul.oneCell' = true := by obtain ⟨a9, c9, rfl, _⟩ := OwI.sl hou; rfl
    have HOL := Lib.hid hol
    have HTH := Lib.hid (hs_.there 6 (by decide))
    clear hou hs_ hol HS2
    go_wp2_with (first | (refine st_c1 rfl _ _ _ rfl ga 6 ul rfl rfl HOL.out HTH.out info_sl64 ?_) | fail)
    intro wm hW
    have HC1 : Hid (RT w wm r g0 ga (⟨((1 : Nat) : Int), y0, y1, y2, y3, y4, M, 0, 0, 0, 0, 0, 0, 0, 0, 0, 0, 0, 0, 0, 0, 0, 0⟩ : Cm) ul L7 f7) := by show RT _ _ _ _ _ _ _ _ _; rw [hW.out]; exact HC0.out.set 6 _ _ _ rfl HOU.out
    clear hW HTH HOU HOL HC0
    go_wp2_with fail
    refine (HC1.out.ints 11 (by decide) _ _ _ HE8.out).mono ?_
    rintro e wi_gn ⟨u, rfl, hou, hs_⟩
    have HD0 := Lib.hid hs_
    obtain ⟨gn, p_gn, rfl, hg_, -, hn_⟩ := OwI.cells hou (by simp)
    have HP0 := Lib.hid hn_
    have HLgn : Hid (ga < gn) := by show _ < _; omega
    simp only [List.length_cons, List.length_nil, Nat.zero_add, Nat.reduceAdd]
    clear hou hs_ hg_ hn_ HC1
    have HTH := Lib.hid (HD0.out.there 7 (by decide))
    have hn := HP0.out 0 _ rfl
    go_wp2_with (first | (refine st_c rfl _ _ _ rfl ga 7 (.int .i64 n0) rfl rfl rfl HTH.out info_int64 ?_) | fail)
    intro ws7 hW
    have HD1 : Hid (RT w ws7 r g0 ga (⟨((1 : Nat) : Int), y0, y1, y2, y3, y4, M, n0, 0, 0, 0, 0, 0, 0, 0, 0, 0, 0, 0, 0, 0, 0, 0⟩ : Cm) ul L8 f8) := by show RT _ _ _ _ _ _ _ _ _; rw [hW.out]; exact HD0.out.setI 7 _ _ rfl rfl
    have HP1 : Hid (NC ws7 gn [n0, n1, n2, n3, n4, n5, n6, n7, n8, n9, n10]) := by show NC _ _ _; rw [hW.out]; exact NC.set HP0.out (by have := HLgn.out; omega)
    clear hn HP0
    clear hW HTH HD0
    have HTH := Lib.hid (HD1.out.there 8 (by decide))
    have hn := HP1.out 1 _ rfl
    go_wp2_with (first | (refine st_c rfl _ _ _ rfl ga 8 (.int .i64 n1) rfl rfl rfl HTH.out info_int64 ?_) | fail)
    intro ws8 hW
    have HD2 : Hid (RT w ws8 r g0 ga (⟨((1 : Nat) : Int), y0, y1, y2, y3, y4, M, n0, n1, 0, 0, 0, 0, 0, 0, 0, 0, 0, 0, 0, 0, 0, 0⟩ : Cm) ul L8 f8) := by show RT _ _ _ _ _ _ _ _ _; rw [hW.out]; exact HD1.out.setI 8 _ _ rfl rfl
    have HP2 : Hid (NC ws8 gn [n0, n1, n2, n3, n4, n5, n6, n7, n8, n9, n10]) := by show NC _ _ _; rw [hW.out]; exact NC.set HP1.out (by have := HLgn.out; omega)
    clear hn HP1
    clear hW HTH HD1
    have HTH := Lib.hid (HD2.out.there 9 (by decide))
    have hn := HP2.out 2 _ rfl
    go_wp2_with (first | (refine st_c rfl _ _ _ rfl ga 9 (.int .i64 n2) rfl rfl rfl HTH.out info_int64 ?_) | fail)
    intro ws9 hW
    have HD3 : Hid (RT w ws9 r g0 ga (⟨((1 : Nat) : Int), y0, y1, y2, y3, y4, M, n0, n1, n2, 0, 0, 0, 0, 0, 0, 0, 0, 0, 0, 0, 0, 0⟩ : Cm) ul L8 f8) := by show RT _ _ _ _ _ _ _ _ _; rw [hW.out]; exact HD2.out.setI 9 _ _ rfl rfl
    have HP3 : Hid (NC ws9 gn [n0, n1, n2, n3, n4, n5, n6, n7, n8, n9, n10]) := by show NC _ _ _; rw [hW.out]; exact NC.set HP2.out (by have := HLgn.out; omega)
    clear hn HP2
    clear hW HTH HD2
    have HTH := Lib.hid (HD3.out.there 10 (by decide))
    have hn := HP3.out 3 _ rfl
    go_wp2_with (first | (refine st_c rfl _ _ _ rfl ga 10 (.int .i64 n3) rfl rfl rfl HTH.out info_int64 ?_) | fail)
    intro ws10 hW
    have HD4 : Hid (RT w ws10 r g0 ga (⟨((1 : Nat) : Int), y0, y1, y2, y3, y4, M, n0, n1, n2, n3, 0, 0, 0, 0, 0, 0, 0, 0, 0, 0, 0, 0⟩ : Cm) ul L8 f8) := by show RT _ _ _ _ _ _ _ _ _; rw [hW.out]; exact HD3.out.setI 10 _ _ rfl rfl
    have HP4 : Hid (NC ws10 gn [n0, n1, n2, n3, n4, n5, n6, n7, n8, n9, n10]) := by show NC _ _ _; rw [hW.out]; exact NC.set HP3.out (by have := HLgn.out; omega)
    clear hn HP3
    clear hW HTH HD3
    have HTH := Lib.hid (HD4.out.there 11 (by decide))
    have hn := HP4.out 4 _ rfl
    go_wp2_with (first | (refine st_c rfl _ _ _ rfl ga 11 (.int .i64 n4) rfl rfl rfl HTH.out info_int64 ?_) | fail)
    intro ws11 hW
    have HD5 : Hid (RT w ws11 r g0 ga (⟨((1 : Nat) : Int), y0, y1, y2, y3, y4, M, n0, n1, n2, n3, n4, 0, 0, 0, 0, 0, 0, 0, 0, 0, 0, 0⟩ : Cm) ul L8 f8) := by show RT _ _ _ _ _ _ _ _ _; rw [hW.out]; exact HD4.out.setI 11 _ _ rfl rfl
    have HP5 : Hid (NC ws11 gn [n0, n1, n2, n3, n4, n5, n6, n7, n8, n9, n10]) := by show NC _ _ _; rw [hW.out]; exact NC.set HP4.out (by have := HLgn.out; omega)
    clear hn HP4
    clear hW HTH HD4
    go_wp2
    refine region_then (by kernel_rfl) (by kernel_rfl) [some 97, some 98, some 99, some 100, some 101, some 102, some 103, some 104, some 105, some 106, some 107, some 108, none] (by kernel_rfl) 12 [(1, 0), (2, 1), (4, 3), (5, 4), (7, 6), (8, 7), (9, 2), (9, 5), (9, 8), (11, 10), (12, 11), (12, 9)] (by kernel_rfl) (by kernel_rfl) (by kernel_rfl) (by decide) (fun i v WW => match i with | 0 => v = .slice (some ⟨gn, 0, none⟩) 11 p_gn | 1 => v = .pointer (some ⟨gn, 5, none⟩) | 2 => v = .int .i64 n5 | 3 => v = .slice (some ⟨gn, 0, none⟩) 11 p_gn | 4 => v = .pointer (some ⟨gn, 6, none⟩) | 5 => v = .int .i64 n6 | 6 => v = .slice (some ⟨gn, 0, none⟩) 11 p_gn | 7 => v = .pointer (some ⟨gn, 7, none⟩) | 8 => v = .int .i64 n7 | 9 => v = .agg #[.int .i64 n5, .int .i64 n6, .int .i64 n7] | 10 => v = .pointer (some ⟨ga, 6, none⟩) | 11 => v = .pointer (some ⟨ga, 12, none⟩) | _ => True) ?_ (fun i v => match i with | 0 => v = .slice (some ⟨gn, 0, none⟩) 11 p_gn | 1 => v = .pointer (some ⟨gn, 5, none⟩) | 2 => v = .int .i64 n5 | 3 => v = .slice (some ⟨gn, 0, none⟩) 11 p_gn | 4 => v = .pointer (some ⟨gn, 6, none⟩) | 5 => v = .int .i64 n6 | 6 => v = .slice (some ⟨gn, 0, none⟩) 11 p_gn | 7 => v = .pointer (some ⟨gn, 7, none⟩) | 8 => v = .int .i64 n7 | 9 => v = .agg #[.int .i64 n5, .int .i64 n6, .int .i64 n7] | 10 => v = .pointer (some ⟨ga, 6, none⟩) | 11 => v = .pointer (some ⟨ga, 12, none⟩) | _ => True) ?_ (fun v WW => RT w WW r g0 ga (⟨((1 : Nat) : Int), y0, y1, y2, y3, y4, M, n0, n1, n2, n3, n4, n5, n6, n7, 0, 0, 0, 0, 0, 0, 0, 0⟩ : Cm) ul L8 f8 ∧ NC WW gn [n0, n1, n2, n3, n4, n5, n6, n7, n8, n9, n10]) (fun i u v => match i with  | _ => True) ?_ ?_ ?_ ?_
    · intro i v WW WX h hbx
      rcases i with _ | _ | _ | _ | _ | _ | _ | _ | _ | _ | _ | _ | i
      · exact h
      · exact h
      · exact h
      · exact h
      · exact h
      · exact h
      · exact h
      · exact h
      · exact h
      · exact h
      · exact h
      · exact h
      · trivial
    · intro i v WW h
      rcases i with _ | _ | _ | _ | _ | _ | _ | _ | _ | _ | _ | _ | i
      · exact h
      · exact h
      · exact h
      · exact h
      · exact h
      · exact h
      · exact h
      · exact h
      · exact h
      · exact h
      · exact h
      · exact h
      · trivial
    · intro iI oO V AC WW hiN ho hf hbw K hK
      rcases iI with _ | _ | _ | _ | _ | _ | _ | _ | _ | _ | _ | _ | iI
      · obtain rfl := Option.some.inj (show some _ = some oO from ho)
        rw [if_pos (by rfl)]
        have q11 : AC.tmps.getD 11 undef = .slice (some ⟨gn, 0, none⟩) 11 p_gn := hf.rest 11 (by kernel_rfl)
        go_simp
        exact hK _ _ (Below.refl _ _) rfl
      · obtain rfl := Option.some.inj (show some _ = some oO from ho)
        rw [if_pos (by rfl)]
        have q97 : AC.tmps.getD 97 undef = .slice (some ⟨gn, 0, none⟩) 11 p_gn := ((hf.dep ⟨0, .data⟩ (by simp) rfl).2 97 rfl).trans (hf.dep ⟨0, .data⟩ (by simp) rfl).1
        go_simp
        exact hK _ _ (Below.refl _ _) rfl
      · obtain rfl := Option.some.inj (show some _ = some oO from ho)
        rw [if_pos (by rfl)]
        have q98 : AC.tmps.getD 98 undef = .pointer (some ⟨gn, 5, none⟩) := ((hf.dep ⟨1, .data⟩ (by simp) rfl).2 98 rfl).trans (hf.dep ⟨1, .data⟩ (by simp) rfl).1
        have en := (NC.keep HP5.out hbw) 5 _ rfl
        go_simp
        exact hK _ _ (Below.refl _ _) rfl
      · obtain rfl := Option.some.inj (show some _ = some oO from ho)
        rw [if_pos (by rfl)]
        have q11 : AC.tmps.getD 11 undef = .slice (some ⟨gn, 0, none⟩) 11 p_gn := hf.rest 11 (by kernel_rfl)
        go_simp
        exact hK _ _ (Below.refl _ _) rfl
      · obtain rfl := Option.some.inj (show some _ = some oO from ho)
        rw [if_pos (by rfl)]
        have q100 : AC.tmps.getD 100 undef = .slice (some ⟨gn, 0, none⟩) 11 p_gn := ((hf.dep ⟨3, .data⟩ (by simp) rfl).2 100 rfl).trans (hf.dep ⟨3, .data⟩ (by simp) rfl).1
        go_simp
        exact hK _ _ (Below.refl _ _) rfl
      · obtain rfl := Option.some.inj (show some _ = some oO from ho)
        rw [if_pos (by rfl)]
        have q101 : AC.tmps.getD 101 undef = .pointer (some ⟨gn, 6, none⟩) := ((hf.dep ⟨4, .data⟩ (by simp) rfl).2 101 rfl).trans (hf.dep ⟨4, .data⟩ (by simp) rfl).1
        have en := (NC.keep HP5.out hbw) 6 _ rfl
        go_simp
        exact hK _ _ (Below.refl _ _) rfl
      · obtain rfl := Option.some.inj (show some _ = some oO from ho)
        rw [if_pos (by rfl)]
        have q11 : AC.tmps.getD 11 undef = .slice (some ⟨gn, 0, none⟩) 11 p_gn := hf.rest 11 (by kernel_rfl)
        go_simp
        exact hK _ _ (Below.refl _ _) rfl
      · obtain rfl := Option.some.inj (show some _ = some oO from ho)
        rw [if_pos (by rfl)]
        have q103 : AC.tmps.getD 103 undef = .slice (some ⟨gn, 0, none⟩) 11 p_gn := ((hf.dep ⟨6, .data⟩ (by simp) rfl).2 103 rfl).trans (hf.dep ⟨6, .data⟩ (by simp) rfl).1
        go_simp
        exact hK _ _ (Below.refl _ _) rfl
      · obtain rfl := Option.some.inj (show some _ = some oO from ho)
        rw [if_pos (by rfl)]
        have q104 : AC.tmps.getD 104 undef = .pointer (some ⟨gn, 7, none⟩) := ((hf.dep ⟨7, .data⟩ (by simp) rfl).2 104 rfl).trans (hf.dep ⟨7, .data⟩ (by simp) rfl).1
        have en := (NC.keep HP5.out hbw) 7 _ rfl
        go_simp
        exact hK _ _ (Below.refl _ _) rfl
      · obtain rfl := Option.some.inj (show some _ = some oO from ho)
        rw [if_pos (by rfl)]
        have q99 : AC.tmps.getD 99 undef = .int .i64 n5 := ((hf.dep ⟨2, .data⟩ (by simp) rfl).2 99 rfl).trans (hf.dep ⟨2, .data⟩ (by simp) rfl).1
        have q102 : AC.tmps.getD 102 undef = .int .i64 n6 := ((hf.dep ⟨5, .data⟩ (by simp) rfl).2 102 rfl).trans (hf.dep ⟨5, .data⟩ (by simp) rfl).1
        have q105 : AC.tmps.getD 105 undef = .int .i64 n7 := ((hf.dep ⟨8, .data⟩ (by simp) rfl).2 105 rfl).trans (hf.dep ⟨8, .data⟩ (by simp) rfl).1
        have p99 := q99
        rw [Array.getD_eq_getD_getElem?] at p99
        have p102 := q102
        rw [Array.getD_eq_getD_getElem?] at p102
        have p105 := q105
        rw [Array.getD_eq_getD_getElem?] at p105
        go_simp
        exact hK _ _ (Below.refl _ _) rfl
      · obtain rfl := Option.some.inj (show some _ = some oO from ho)
        rw [if_pos (by rfl)]
        have q5 : AC.tmps.getD 5 undef = .pointer (some ⟨ga, 0, none⟩) := hf.rest 5 (by kernel_rfl)
        go_simp
        exact hK _ _ (Below.refl _ _) rfl
      · obtain rfl := Option.some.inj (show some _ = some oO from ho)
        rw [if_pos (by rfl)]
        have q107 : AC.tmps.getD 107 undef = .pointer (some ⟨ga, 6, none⟩) := ((hf.dep ⟨10, .data⟩ (by simp) rfl).2 107 rfl).trans (hf.dep ⟨10, .data⟩ (by simp) rfl).1
        go_simp
        exact hK _ _ (Below.refl _ _) rfl
      · omega
    · intro oO V AC WW ho hf hallT hbw K hK
      obtain rfl := Option.some.inj (show some _ = some oO from ho)
      rw [if_pos (by rfl)]
      have q106 : AC.tmps.getD 106 undef = .agg #[.int .i64 n5, .int .i64 n6, .int .i64 n7] := ((hf.dep ⟨9, .data⟩ (by simp) rfl).2 106 rfl).trans (hf.dep ⟨9, .data⟩ (by simp) rfl).1
      have q108 : AC.tmps.getD 108 undef = .pointer (some ⟨ga, 12, none⟩) := ((hf.dep ⟨11, .data⟩ (by simp) rfl).2 108 rfl).trans (hf.dep ⟨11, .data⟩ (by simp) rfl).1
      have hR := (HD5.out.below hbw).many 12 [.int .i64 n5, .int .i64 n6, .int .i64 n7] (⟨((1 : Nat) : Int), y0, y1, y2, y3, y4, M, n0, n1, n2, n3, n4, n5, n6, n7, 0, 0, 0, 0, 0, 0, 0, 0⟩ : Cm) rfl (by show 12 + 3 ≤ 23; omega) rfl
      have hN := (NC.keep HP5.out hbw).setCells (ga := ga) (o := 12) (vs := [.int .i64 n5, .int .i64 n6, .int .i64 n7]) (by have := HLgn.out; omega)
      have hth := (HD5.out.below hbw).bl.thereMid 12 3 (by show _ ≤ 23; omega)
      exact wp_store_mid _ _ _ rfl ga 12 #[.int .i64 n5, .int .i64 n6, .int .i64 n7] q108 q106 hth info_terms (by simp only [List.all_toArray, List.all_cons, List.all_nil, show ∀ z, (Value.int IntKind.i64 z).oneCell' = true from fun _ => rfl, Bool.and_self]) (hK _ _ ⟨hR, hN⟩)
    · intro iI oO LL V AC WW hiN ho hf hPf hT2 K hK
      have hlt : iI < 13 := by have := (Array.getElem?_eq_some_iff.1 ho).1; first | exact this | simpa using this
      rcases iI with _ | _ | _ | _ | _ | _ | _ | _ | _ | _ | _ | _ | _ | iI
      · omega
      · omega
      · omega
      · omega
      · omega
      · omega
      · omega
      · omega
      · omega
      · omega
      · omega
      · omega
      · omega
      · omega
    · intro V WW hall hPf hT2
      have vv0 : V 0 = .slice (some ⟨gn, 0, none⟩) 11 p_gn := hall 0 (by decide)
      have vv1 : V 1 = .pointer (some ⟨gn, 5, none⟩) := hall 1 (by decide)
      have vv2 : V 2 = .int .i64 n5 := hall 2 (by decide)
      have vv3 : V 3 = .slice (some ⟨gn, 0, none⟩) 11 p_gn := hall 3 (by decide)
      have vv4 : V 4 = .pointer (some ⟨gn, 6, none⟩) := hall 4 (by decide)
      have vv5 : V 5 = .int .i64 n6 := hall 5 (by decide)
      have vv6 : V 6 = .slice (some ⟨gn, 0, none⟩) 11 p_gn := hall 6 (by decide)
      have vv7 : V 7 = .pointer (some ⟨gn, 7, none⟩) := hall 7 (by decide)
      have vv8 : V 8 = .int .i64 n7 := hall 8 (by decide)
      have vv9 : V 9 = .agg #[.int .i64 n5, .int .i64 n6, .int .i64 n7] := hall 9 (by decide)
      have vv10 : V 10 = .pointer (some ⟨ga, 6, none⟩) := hall 10 (by decide)
      have vv11 : V 11 = .pointer (some ⟨ga, 12, none⟩) := hall 11 (by decide)
      clear hall hT2
      simp only [pairsOf, laid, Nat.zero_add, Nat.reduceAdd, vv0, vv1, vv2, vv3, vv4, vv5, vv6, vv7, vv8, vv9, vv10, vv11, List.setIfInBounds_toArray, List.set_cons_zero, List.set_cons_succ]
      clear vv0 vv1 vv2 vv3 vv4 vv5 vv6 vv7 vv8 vv9 vv10 vv11
      have HD8 := Lib.hid hPf.1
      have HP8 := Lib.hid hPf.2
      clear hPf HD5 HP5
      go_wp2
      refine region_then (by kernel_rfl) (by kernel_rfl) [some 109, some 110, some 111, some 112, some 113, some 114, some 115, some 116, some 117, some 118, some 119, some 120, none] (by kernel_rfl) 12 [(1, 0), (2, 1), (4, 3), (5, 4), (7, 6), (8, 7), (9, 2), (9, 5), (9, 8), (11, 10), (12, 11), (12, 9)] (by kernel_rfl) (by kernel_rfl) (by kernel_rfl) (by decide) (fun i v WW => match i with | 0 => v = .slice (some ⟨gn, 0, none⟩) 11 p_gn | 1 => v = .pointer (some ⟨gn, 8, none⟩) | 2 => v = .int .i64 n8 | 3 => v = .slice (some ⟨gn, 0, none⟩) 11 p_gn | 4 => v = .pointer (some ⟨gn, 9, none⟩) | 5 => v = .int .i64 n9 | 6 => v = .slice (some ⟨gn, 0, none⟩) 11 p_gn | 7 => v = .pointer (some ⟨gn, 10, none⟩) | 8 => v = .int .i64 n10 | 9 => v = .agg #[.int .i64 n8, .int .i64 n9, .int .i64 n10] | 10 => v = .pointer (some ⟨ga, 6, none⟩) | 11 => v = .pointer (some ⟨ga, 15, none⟩) | _ => True) ?_ (fun i v => match i with | 0 => v = .slice (some ⟨gn, 0, none⟩) 11 p_gn | 1 => v = .pointer (some ⟨gn, 8, none⟩) | 2 => v = .int .i64 n8 | 3 => v = .slice (some ⟨gn, 0, none⟩) 11 p_gn | 4 => v = .pointer (some ⟨gn, 9, none⟩) | 5 => v = .int .i64 n9 | 6 => v = .slice (some ⟨gn, 0, none⟩) 11 p_gn | 7 => v = .pointer (some ⟨gn, 10, none⟩) | 8 => v = .int .i64 n10 | 9 => v = .agg #[.int .i64 n8, .int .i64 n9, .int .i64 n10] | 10 => v = .pointer (some ⟨ga, 6, none⟩) | 11 => v = .pointer (some ⟨ga, 15, none⟩) | _ => True) ?_ (fun v WW => RT w WW r g0 ga (⟨((1 : Nat) : Int), y0, y1, y2, y3, y4, M, n0, n1, n2, n3, n4, n5, n6, n7, n8, n9, n10, 0, 0, 0, 0, 0⟩ : Cm) ul L8 f8 ∧ NC WW gn [n0, n1, n2, n3, n4, n5, n6, n7, n8, n9, n10]) (fun i u v => match i with  | _ => True) ?_ ?_ ?_ ?_
      · intro i v WW WX h hbx
        rcases i with _ | _ | _ | _ | _ | _ | _ | _ | _ | _ | _ | _ | i
        · exact h
        · exact h
        · exact h
        · exact h
        · exact h
        · exact h
        · exact h
        · exact h
        · exact h
        · exact h
        · exact h
        · exact h
        · trivial
      · intro i v WW h
        rcases i with _ | _ | _ | _ | _ | _ | _ | _ | _ | _ | _ | _ | i
        · exact h
        · exact h
        · exact h
        · exact h
        · exact h
        · exact h
        · exact h
        · exact h
        · exact h
        · exact h
        · exact h
        · exact h
        · trivial
      · intro iI oO V AC WW hiN ho hf hbw K hK
        rcases iI with _ | _ | _ | _ | _ | _ | _ | _ | _ | _ | _ | _ | iI
        · obtain rfl := Option.some.inj (show some _ = some oO from ho)
          rw [if_pos (by rfl)]
          have q11 : AC.tmps.getD 11 undef = .slice (some ⟨gn, 0, none⟩) 11 p_gn := hf.rest 11 (by kernel_rfl)
          go_simp
          exact hK _ _ (Below.refl _ _) rfl
        · obtain rfl := Option.some.inj (show some _ = some oO from ho)
          rw [if_pos (by rfl)]
          have q109 : AC.tmps.getD 109 undef = .slice (some ⟨gn, 0, none⟩) 11 p_gn := ((hf.dep ⟨0, .data⟩ (by simp) rfl).2 109 rfl).trans (hf.dep ⟨0, .data⟩ (by simp) rfl).1
          go_simp
          exact hK _ _ (Below.refl _ _) rfl
        · obtain rfl := Option.some.inj (show some _ = some oO from ho)
          rw [if_pos (by rfl)]
          have q110 : AC.tmps.getD 110 undef = .pointer (some ⟨gn, 8, none⟩) := ((hf.dep ⟨1, .data⟩ (by simp) rfl).2 110 rfl).trans (hf.dep ⟨1, .data⟩ (by simp) rfl).1
          have en := (NC.keep HP8.out hbw) 8 _ rfl
          go_simp
          exact hK _ _ (Below.refl _ _) rfl
        · obtain rfl := Option.some.inj (show some _ = some oO from ho)
          rw [if_pos (by rfl)]
          have q11 : AC.tmps.getD 11 undef = .slice (some ⟨gn, 0, none⟩) 11 p_gn := hf.rest 11 (by kernel_rfl)
          go_simp
          exact hK _ _ (Below.refl _ _) rfl
        · obtain rfl := Option.some.inj (show some _ = some oO from ho)
          rw [if_pos (by rfl)]
          have q112 : AC.tmps.getD 112 undef = .slice (some ⟨gn, 0, none⟩) 11 p_gn := ((hf.dep ⟨3, .data⟩ (by simp) rfl).2 112 rfl).trans (hf.dep ⟨3, .data⟩ (by simp) rfl).1
          go_simp
          exact hK _ _ (Below.refl _ _) rfl
        · obtain rfl := Option.some.inj (show some _ = some oO from ho)
          rw [if_pos (by rfl)]
          have q113 : AC.tmps.getD 113 undef = .pointer (some ⟨gn, 9, none⟩) := ((hf.dep ⟨4, .data⟩ (by simp) rfl).2 113 rfl).trans (hf.dep ⟨4, .data⟩ (by simp) rfl).1
          have en := (NC.keep HP8.out hbw) 9 _ rfl
          go_simp
          exact hK _ _ (Below.refl _ _) rfl
        · obtain rfl := Option.some.inj (show some _ = some oO from ho)
          rw [if_pos (by rfl)]
          have q11 : AC.tmps.getD 11 undef = .slice (some ⟨gn, 0, none⟩) 11 p_gn := hf.rest 11 (by kernel_rfl)
          go_simp
          exact hK _ _ (Below.refl _ _) rfl
        · obtain rfl := Option.some.inj (show some _ = some oO from ho)
          rw [if_pos (by rfl)]
          have q115 : AC.tmps.getD 115 undef = .slice (some ⟨gn, 0, none⟩) 11 p_gn := ((hf.dep ⟨6, .data⟩ (by simp) rfl).2 115 rfl).trans (hf.dep ⟨6, .data⟩ (by simp) rfl).1
          go_simp
          exact hK _ _ (Below.refl _ _) rfl
        · obtain rfl := Option.some.inj (show some _ = some oO from ho)
          rw [if_pos (by rfl)]
          have q116 : AC.tmps.getD 116 undef = .pointer (some ⟨gn, 10, none⟩) := ((hf.dep ⟨7, .data⟩ (by simp) rfl).2 116 rfl).trans (hf.dep ⟨7, .data⟩ (by simp) rfl).1
          have en := (NC.keep HP8.out hbw) 10 _ rfl
          go_simp
          exact hK _ _ (Below.refl _ _) rfl
        · obtain rfl := Option.some.inj (show some _ = some oO from ho)
          rw [if_pos (by rfl)]
          have q111 : AC.tmps.getD 111 undef = .int .i64 n8 := ((hf.dep ⟨2, .data⟩ (by simp) rfl).2 111 rfl).trans (hf.dep ⟨2, .data⟩ (by simp) rfl).1
          have q114 : AC.tmps.getD 114 undef = .int .i64 n9 := ((hf.dep ⟨5, .data⟩ (by simp) rfl).2 114 rfl).trans (hf.dep ⟨5, .data⟩ (by simp) rfl).1
          have q117 : AC.tmps.getD 117 undef = .int .i64 n10 := ((hf.dep ⟨8, .data⟩ (by simp) rfl).2 117 rfl).trans (hf.dep ⟨8, .data⟩ (by simp) rfl).1
          have p111 := q111
          rw [Array.getD_eq_getD_getElem?] at p111
          have p114 := q114
          rw [Array.getD_eq_getD_getElem?] at p114
          have p117 := q117
          rw [Array.getD_eq_getD_getElem?] at p117
          go_simp
          exact hK _ _ (Below.refl _ _) rfl
        · obtain rfl := Option.some.inj (show some _ = some oO from ho)
          rw [if_pos (by rfl)]
          have q5 : AC.tmps.getD 5 undef = .pointer (some ⟨ga, 0, none⟩) := hf.rest 5 (by kernel_rfl)
          go_simp
          exact hK _ _ (Below.refl _ _) rfl
        · obtain rfl := Option.some.inj (show some _ = some oO from ho)
          rw [if_pos (by rfl)]
          have q119 : AC.tmps.getD 119 undef = .pointer (some ⟨ga, 6, none⟩) := ((hf.dep ⟨10, .data⟩ (by simp) rfl).2 119 rfl).trans (hf.dep ⟨10, .data⟩ (by simp) rfl).1
          go_simp
          exact hK _ _ (Below.refl _ _) rfl
        · omega
      · intro oO V AC WW ho hf hallT hbw K hK
        obtain rfl := Option.some.inj (show some _ = some oO from ho)
        rw [if_pos (by rfl)]
        have q118 : AC.tmps.getD 118 undef = .agg #[.int .i64 n8, .int .i64 n9, .int .i64 n10] := ((hf.dep ⟨9, .data⟩ (by simp) rfl).2 118 rfl).trans (hf.dep ⟨9, .data⟩ (by simp) rfl).1
        have q120 : AC.tmps.getD 120 undef = .pointer (some ⟨ga, 15, none⟩) := ((hf.dep ⟨11, .data⟩ (by simp) rfl).2 120 rfl).trans (hf.dep ⟨11, .data⟩ (by simp) rfl).1
        have hR := (HD8.out.below hbw).many 15 [.int .i64 n8, .int .i64 n9, .int .i64 n10] (⟨((1 : Nat) : Int), y0, y1, y2, y3, y4, M, n0, n1, n2, n3, n4, n5, n6, n7, n8, n9, n10, 0, 0, 0, 0, 0⟩ : Cm) rfl (by show 15 + 3 ≤ 23; omega) rfl
        have hN := (NC.keep HP8.out hbw).setCells (ga := ga) (o := 15) (vs := [.int .i64 n8, .int .i64 n9, .int .i64 n10]) (by have := HLgn.out; omega)
        have hth := (HD8.out.below hbw).bl.thereMid 15 3 (by show _ ≤ 23; omega)
        exact wp_store_mid _ _ _ rfl ga 15 #[.int .i64 n8, .int .i64 n9, .int .i64 n10] q120 q118 hth info_limits (by simp only [List.all_toArray, List.all_cons, List.all_nil, show ∀ z, (Value.int IntKind.i64 z).oneCell' = true from fun _ => rfl, Bool.and_self]) (hK _ _ ⟨hR, hN⟩)
      · intro iI oO LL V AC WW hiN ho hf hPf hT2 K hK
        have hlt : iI < 13 := by have := (Array.getElem?_eq_some_iff.1 ho).1; first | exact this | simpa using this
        rcases iI with _ | _ | _ | _ | _ | _ | _ | _ | _ | _ | _ | _ | _ | iI
        · omega
        · omega
        · omega
        · omega
        · omega
        · omega
        · omega
        · omega
        · omega
        · omega
        · omega
        · omega
        · omega
        · omega
      · intro V WW hall hPf hT2
        have vv0 : V 0 = .slice (some ⟨gn, 0, none⟩) 11 p_gn := hall 0 (by decide)
        have vv1 : V 1 = .pointer (some ⟨gn, 8, none⟩) := hall 1 (by decide)
        have vv2 : V 2 = .int .i64 n8 := hall 2 (by decide)
        have vv3 : V 3 = .slice (some ⟨gn, 0, none⟩) 11 p_gn := hall 3 (by decide)
        have vv4 : V 4 = .pointer (some ⟨gn, 9, none⟩) := hall 4 (by decide)
        have vv5 : V 5 = .int .i64 n9 := hall 5 (by decide)
        have vv6 : V 6 = .slice (some ⟨gn, 0, none⟩) 11 p_gn := hall 6 (by decide)
        have vv7 : V 7 = .pointer (some ⟨gn, 10, none⟩) := hall 7 (by decide)
        have vv8 : V 8 = .int .i64 n10 := hall 8 (by decide)
        have vv9 : V 9 = .agg #[.int .i64 n8, .int .i64 n9, .int .i64 n10] := hall 9 (by decide)
        have vv10 : V 10 = .pointer (some ⟨ga, 6, none⟩) := hall 10 (by decide)
        have vv11 : V 11 = .pointer (some ⟨ga, 15, none⟩) := hall 11 (by decide)
        clear hall hT2
        simp only [pairsOf, laid, Nat.zero_add, Nat.reduceAdd, vv0, vv1, vv2, vv3, vv4, vv5, vv6, vv7, vv8, vv9, vv10, vv11, List.setIfInBounds_toArray, List.set_cons_zero, List.set_cons_succ]
        clear vv0 vv1 vv2 vv3 vv4 vv5 vv6 vv7 vv8 vv9 vv10 vv11
        have HDb := Lib.hid hPf.1
        have HPb := Lib.hid hPf.2
        clear hPf HD8 HP8
        clear HPb HLgn HE6 HE7 HE8
        obtain ⟨av, pv, rfl, _⟩ := OwI.sl HDb.out.ow
        obtain ⟨a9, c9, e9, hs9⟩ := OwI.sl HDb.out.ow
        obtain ⟨rfl, rfl⟩ : av = a9 ∧ pv = c9 := by simp only [Value.slice.injEq] at e9; exact ⟨e9.1, e9.2.2⟩
        clear e9
        obtain ⟨⟨T, te⟩, ht⟩ : ∃ t, (⟨((1 : Nat) : Int), y0, y1, y2, y3, y4, M, n0, n1, n2, n3, n4, n5, n6, n7, n8, n9, n10, 0, 0, 0, 0, 0⟩ : Cm).bytes = t := ⟨_, rfl⟩
        have hSE := HSE.out _ ht
        have HRB := Lib.hid (rbytes_any _ av pv (⟨((1 : Nat) : Int), y0, y1, y2, y3, y4, M, n0, n1, n2, n3, n4, n5, n6, n7, n8, n9, n10, 0, 0, 0, 0, 0⟩ : Cm) hs9 HWF.out (by have := HML.out; simp only; omega) _ ht)
        have HSE2 := Lib.hid hSE
        clear ht hSE HSE
        go_wp2_with (first | (refine ld_cm rfl _ rfl ga 0 rfl (⟨((1 : Nat) : Int), y0, y1, y2, y3, y4, M, n0, n1, n2, n3, n4, n5, n6, n7, n8, n9, n10, 0, 0, 0, 0, 0⟩ : Cm) (.slice av M.length pv) HDb.out.bl.range ?_) | fail)
        refine HRB.out.mono ?_
        rintro e wx ⟨vx, rfl, hox, hbx⟩
        have HSx := Lib.hid (HDb.out.below hbx)
        have hx := hox.sl
        have HVx : Hid (SlB wx vx T) := hx
        have HVb : Hid (SlB wx (.slice a3 B.length p3) B) := ⟨a3, p3, rfl, HH.out.keeps HSx.out.bw⟩
        have HTz := Lib.hid (HSx.out.z.thereMid 0 23 (by decide))
        clear hox hbx hx HRB HDb hs9
        by_cases h0 : te = 0
        · subst h0
          by_cases hTB : T = B
          · subst hTB
            obtain rfl : s = ((⟨((1 : Nat) : Int), y0, y1, y2, y3, y4, M, n0, n1, n2, n3, n4, n5, n6, n7, n8, n9, n10, 0, 0, 0, 0, 0⟩ : Cm), 0) := HSE2.out.1 rfl rfl
            as_aux_lemma =>
            go_wp2_with (first | (refine to_text (by rfl) _ rfl _ rfl _ HVx.out ?_) | (refine to_text (by rfl) _ rfl _ rfl _ HVb.out ?_) | (refine ld_cm rfl _ rfl ga 0 rfl (⟨((1 : Nat) : Int), y0, y1, y2, y3, y4, M, n0, n1, n2, n3, n4, n5, n6, n7, n8, n9, n10, 0, 0, 0, 0, 0⟩ : Cm) (.slice av M.length pv) HSx.out.bl.range ?_) | (refine st_cm rfl _ _ rfl g0 rfl (⟨((1 : Nat) : Int), y0, y1, y2, y3, y4, M, n0, n1, n2, n3, n4, n5, n6, n7, n8, n9, n10, 0, 0, 0, 0, 0⟩ : Cm) (.slice av M.length pv) rfl rfl HTz.out ?_) | fail)
            intro W hW
            obtain ⟨f1_, f2_, f3_⟩ : Below w.heap.size w W ∧ Blk W g0 45 ((⟨((1 : Nat) : Int), y0, y1, y2, y3, y4, M, n0, n1, n2, n3, n4, n5, n6, n7, n8, n9, n10, 0, 0, 0, 0, 0⟩ : Cm).C (.slice av M.length pv)) ∧ OwI W w.heap.size (.slice av M.length pv) (⟨((1 : Nat) : Int), y0, y1, y2, y3, y4, M, n0, n1, n2, n3, n4, n5, n6, n7, n8, n9, n10, 0, 0, 0, 0, 0⟩ : Cm).L := by rw [hW.out]; exact HSx.out.fin
            have F1 := Lib.hid f1_
            have F2 := Lib.hid f2_
            have F3 := Lib.hid f3_
            clear hW f1_ f2_ f3_
            go_wp2
            exact bodyPost_ret (v := .tuple #[.agg ((⟨((1 : Nat) : Int), y0, y1, y2, y3, y4, M, n0, n1, n2, n3, n4, n5, n6, n7, n8, n9, n10, 0, 0, 0, 0, 0⟩ : Cm).C (.slice av M.length pv)).toArray, .int .i64 0]) (res_cm2 Try.results22 _ _ _ (⟨((1 : Nat) : Int), y0, y1, y2, y3, y4, M, n0, n1, n2, n3, n4, n5, n6, n7, n8, n9, n10, 0, 0, 0, 0, 0⟩ : Cm) (.slice av M.length pv) _ rfl rfl F2.out) rfl ⟨_, rfl, F3.out, F1.out⟩
          · have qq := str_ne hTB
            obtain rfl : s = (zC, 221) := HSE2.out.2 (fun h => hTB h.2)
            as_aux_lemma =>
            go_wp2_with (first | (refine to_text (by rfl) _ rfl _ rfl _ HVx.out ?_) | (refine to_text (by rfl) _ rfl _ rfl _ HVb.out ?_) | (refine st_cm rfl _ _ rfl g0 rfl zC (.slice none 0 0) rfl rfl HTz.out ?_) | fail)
            intro W hW
            have F1 : Hid (Below w.heap.size w W) := by show Below _ _ _; rw [hW.out]; exact below_setCells _ _ HSx.out.bw HSx.out.l0
            have F2 : Hid (Blk W g0 45 (zC.C (.slice none 0 0))) := by show Blk _ _ _ _; rw [hW.out]; exact HSx.out.z.setAll _ rfl
            clear hW
            go_wp2
            exact bodyPost_ret (v := .tuple #[.agg (zC.C (.slice none 0 0)).toArray, .int .i64 221]) (res_cm2 Try.results22 _ _ _ zC (.slice none 0 0) _ rfl rfl F2.out) rfl ⟨_, rfl, owi_nil _ _, F1.out⟩
        · have qq : (te != 0) = true := by simpa using h0
          obtain rfl : s = (zC, 221) := HSE2.out.2 (fun h => h0 h.1)
          as_aux_lemma =>
          go_wp2_with (first | (refine st_cm rfl _ _ rfl g0 rfl zC (.slice none 0 0) rfl rfl HTz.out ?_) | fail)
          intro W hW
          have F1 : Hid (Below w.heap.size w W) := by show Below _ _ _; rw [hW.out]; exact below_setCells _ _ HSx.out.bw HSx.out.l0
          have F2 : Hid (Blk W g0 45 (zC.C (.slice none 0 0))) := by show Blk _ _ _ _; rw [hW.out]; exact HSx.out.z.setAll _ rfl
          clear hW
          go_wp2
          exact bodyPost_ret (v := .tuple #[.agg (zC.C (.slice none 0 0)).toArray, .int .i64 221]) (res_cm2 Try.results22 _ _ _ zC (.slice none 0 0) _ rfl rfl F2.out) rfl ⟨_, rfl, owi_nil _ _, F1.out⟩
  · have HML : Hid (([] : List Int).length ≤ 16) := by show _ ≤ _; simp
    have HE8 := Lib.hid e8
    have HSE := Lib.hid (readR_of HSR.out hp)
    have HWF := HWP.out
    rw [hp] at HWF
    replace HWF := Lib.hid HWF
    clear e8 hp HWP HSR HCs
    as_aux_lemma =>
    go_wp2_with fail
    refine (HB5.out.ints 3 (by decide) _ _ _ HE8.out).mono ?_
    rintro e wi_gz ⟨u, rfl, hou, hs_⟩
    have HC0 := Lib.hid hs_
    obtain ⟨gz, p_gz, rfl, hg_, -, hn_⟩ := OwI.cells hou (by simp)
    have HP0 := Lib.hid hn_
    have HLgz : Hid (ga < gz) := by show _ < _; omega
    simp only [List.length_cons, List.length_nil, Nat.zero_add, Nat.reduceAdd]
    clear hou hs_ hg_ hn_ HB5
    go_wp2
    refine region_then (by kernel_rfl) (by kernel_rfl) [some 125, some 126, some 127, some 128, some 129, some 130, some 131, some 132, some 133, some 134, some 135, none] (by kernel_rfl) 11 [(1, 0), (2, 1), (4, 3), (5, 4), (7, 6), (8, 7), (9, 2), (9, 5), (9, 8), (11, 10), (11, 9)] (by kernel_rfl) (by kernel_rfl) (by kernel_rfl) (by decide) (fun i v WW => match i with | 0 => v = .slice (some ⟨gz, 0, none⟩) 3 p_gz | 1 => v = .pointer (some ⟨gz, 0, none⟩) | 2 => v = .int .i64 z0 | 3 => v = .slice (some ⟨gz, 0, none⟩) 3 p_gz | 4 => v = .pointer (some ⟨gz, 1, none⟩) | 5 => v = .int .i64 z1 | 6 => v = .slice (some ⟨gz, 0, none⟩) 3 p_gz | 7 => v = .pointer (some ⟨gz, 2, none⟩) | 8 => v = .int .i64 z2 | 9 => v = .agg #[.int .i64 0, .int .i64 z0, .int .i64 z1, .int .i64 z2, .int .i64 0] | 10 => v = .pointer (some ⟨ga, 18, none⟩) | _ => True) ?_ (fun i v => match i with | 0 => v = .slice (some ⟨gz, 0, none⟩) 3 p_gz | 1 => v = .pointer (some ⟨gz, 0, none⟩) | 2 => v = .int .i64 z0 | 3 => v = .slice (some ⟨gz, 0, none⟩) 3 p_gz | 4 => v = .pointer (some ⟨gz, 1, none⟩) | 5 => v = .int .i64 z1 | 6 => v = .slice (some ⟨gz, 0, none⟩) 3 p_gz | 7 => v = .pointer (some ⟨gz, 2, none⟩) | 8 => v = .int .i64 z2 | 9 => v = .agg #[.int .i64 0, .int .i64 z0, .int .i64 z1, .int .i64 z2, .int .i64 0] | 10 => v = .pointer (some ⟨ga, 18, none⟩) | _ => True) ?_ (fun v WW => RT w WW r g0 ga (⟨((15 : Nat) : Int), y0, y1, y2, y3, y4, [], 0, 0, 0, 0, 0, 0, 0, 0, 0, 0, 0, 0, z0, z1, z2, 0⟩ : Cm) (.slice none 0 0) L8 f8 ∧ NC WW gz [z0, z1, z2]) (fun i u v => match i with  | _ => True) ?_ ?_ ?_ ?_
    · intro i v WW WX h hbx
      rcases i with _ | _ | _ | _ | _ | _ | _ | _ | _ | _ | _ | i
      · exact h
      · exact h
      · exact h
      · exact h
      · exact h
      · exact h
      · exact h
      · exact h
      · exact h
      · exact h
      · exact h
      · trivial
    · intro i v WW h
      rcases i with _ | _ | _ | _ | _ | _ | _ | _ | _ | _ | _ | i
      · exact h
      · exact h
      · exact h
      · exact h
      · exact h
      · exact h
      · exact h
      · exact h
      · exact h
      · exact h
      · exact h
      · trivial
    · intro iI oO V AC WW hiN ho hf hbw K hK
      rcases iI with _ | _ | _ | _ | _ | _ | _ | _ | _ | _ | _ | iI
      · obtain rfl := Option.some.inj (show some _ = some oO from ho)
        rw [if_pos (by rfl)]
        have q12 : AC.tmps.getD 12 undef = .slice (some ⟨gz, 0, none⟩) 3 p_gz := hf.rest 12 (by kernel_rfl)
        go_simp
        exact hK _ _ (Below.refl _ _) rfl
      · obtain rfl := Option.some.inj (show some _ = some oO from ho)
        rw [if_pos (by rfl)]
        have q125 : AC.tmps.getD 125 undef = .slice (some ⟨gz, 0, none⟩) 3 p_gz := ((hf.dep ⟨0, .data⟩ (by simp) rfl).2 125 rfl).trans (hf.dep ⟨0, .data⟩ (by simp) rfl).1
        go_simp
        exact hK _ _ (Below.refl _ _) rfl
      · obtain rfl := Option.some.inj (show some _ = some oO from ho)
        rw [if_pos (by rfl)]
        have q126 : AC.tmps.getD 126 undef = .pointer (some ⟨gz, 0, none⟩) := ((hf.dep ⟨1, .data⟩ (by simp) rfl).2 126 rfl).trans (hf.dep ⟨1, .data⟩ (by simp) rfl).1
        have en := (NC.keep HP0.out hbw) 0 _ rfl
        go_simp
        exact hK _ _ (Below.refl _ _) rfl
      · obtain rfl := Option.some.inj (show some _ = some oO from ho)
        rw [if_pos (by rfl)]
        have q12 : AC.tmps.getD 12 undef = .slice (some ⟨gz, 0, none⟩) 3 p_gz := hf.rest 12 (by kernel_rfl)
        go_simp
        exact hK _ _ (Below.refl _ _) rfl
      · obtain rfl := Option.some.inj (show some _ = some oO from ho)
        rw [if_pos (by rfl)]
        have q128 : AC.tmps.getD 128 undef = .slice (some ⟨gz, 0, none⟩) 3 p_gz := ((hf.dep ⟨3, .data⟩ (by simp) rfl).2 128 rfl).trans (hf.dep ⟨3, .data⟩ (by simp) rfl).1
        go_simp
        exact hK _ _ (Below.refl _ _) rfl
      · obtain rfl := Option.some.inj (show some _ = some oO from ho)
        rw [if_pos (by rfl)]
        have q129 : AC.tmps.getD 129 undef = .pointer (some ⟨gz, 1, none⟩) := ((hf.dep ⟨4, .data⟩ (by simp) rfl).2 129 rfl).trans (hf.dep ⟨4, .data⟩ (by simp) rfl).1
        have en := (NC.keep HP0.out hbw) 1 _ rfl
        go_simp
        exact hK _ _ (Below.refl _ _) rfl
      · obtain rfl := Option.some.inj (show some _ = some oO from ho)
        rw [if_pos (by rfl)]
        have q12 : AC.tmps.getD 12 undef = .slice (some ⟨gz, 0, none⟩) 3 p_gz := hf.rest 12 (by kernel_rfl)
        go_simp
        exact hK _ _ (Below.refl _ _) rfl
      · obtain rfl := Option.some.inj (show some _ = some oO from ho)
        rw [if_pos (by rfl)]
        have q131 : AC.tmps.getD 131 undef = .slice (some ⟨gz, 0, none⟩) 3 p_gz := ((hf.dep ⟨6, .data⟩ (by simp) rfl).2 131 rfl).trans (hf.dep ⟨6, .data⟩ (by simp) rfl).1
        go_simp
        exact hK _ _ (Below.refl _ _) rfl
      · obtain rfl := Option.some.inj (show some _ = some oO from ho)
        rw [if_pos (by rfl)]
        have q132 : AC.tmps.getD 132 undef = .pointer (some ⟨gz, 2, none⟩) := ((hf.dep ⟨7, .data⟩ (by simp) rfl).2 132 rfl).trans (hf.dep ⟨7, .data⟩ (by simp) rfl).1
        have en := (NC.keep HP0.out hbw) 2 _ rfl
        go_simp
        exact hK _ _ (Below.refl _ _) rfl
      · obtain rfl := Option.some.inj (show some _ = some oO from ho)
        rw [if_pos (by rfl)]
        have q127 : AC.tmps.getD 127 undef = .int .i64 z0 := ((hf.dep ⟨2, .data⟩ (by simp) rfl).2 127 rfl).trans (hf.dep ⟨2, .data⟩ (by simp) rfl).1
        have q130 : AC.tmps.getD 130 undef = .int .i64 z1 := ((hf.dep ⟨5, .data⟩ (by simp) rfl).2 130 rfl).trans (hf.dep ⟨5, .data⟩ (by simp) rfl).1
        have q133 : AC.tmps.getD 133 undef = .int .i64 z2 := ((hf.dep ⟨8, .data⟩ (by simp) rfl).2 133 rfl).trans (hf.dep ⟨8, .data⟩ (by simp) rfl).1
        have p127 := q127
        rw [Array.getD_eq_getD_getElem?] at p127
        have p130 := q130
        rw [Array.getD_eq_getD_getElem?] at p130
        have p133 := q133
        rw [Array.getD_eq_getD_getElem?] at p133
        go_simp
        exact hK _ _ (Below.refl _ _) rfl
      · obtain rfl := Option.some.inj (show some _ = some oO from ho)
        rw [if_pos (by rfl)]
        have q5 : AC.tmps.getD 5 undef = .pointer (some ⟨ga, 0, none⟩) := hf.rest 5 (by kernel_rfl)
        go_simp
        exact hK _ _ (Below.refl _ _) rfl
      · omega
    · intro oO V AC WW ho hf hallT hbw K hK
      obtain rfl := Option.some.inj (show some _ = some oO from ho)
      rw [if_pos (by rfl)]
      have q134 : AC.tmps.getD 134 undef = .agg #[.int .i64 0, .int .i64 z0, .int .i64 z1, .int .i64 z2, .int .i64 0] := ((hf.dep ⟨9, .data⟩ (by simp) rfl).2 134 rfl).trans (hf.dep ⟨9, .data⟩ (by simp) rfl).1
      have q135 : AC.tmps.getD 135 undef = .pointer (some ⟨ga, 18, none⟩) := ((hf.dep ⟨10, .data⟩ (by simp) rfl).2 135 rfl).trans (hf.dep ⟨10, .data⟩ (by simp) rfl).1
      have hR := (HC0.out.below hbw).many 18 [.int .i64 0, .int .i64 z0, .int .i64 z1, .int .i64 z2, .int .i64 0] (⟨((15 : Nat) : Int), y0, y1, y2, y3, y4, [], 0, 0, 0, 0, 0, 0, 0, 0, 0, 0, 0, 0, z0, z1, z2, 0⟩ : Cm) rfl (by show 18 + 5 ≤ 23; omega) rfl
      have hN := (NC.keep HP0.out hbw).setCells (ga := ga) (o := 18) (vs := [.int .i64 0, .int .i64 z0, .int .i64 z1, .int .i64 z2, .int .i64 0]) (by have := HLgz.out; omega)
      have hth := (HC0.out.below hbw).bl.thereMid 18 5 (by show _ ≤ 23; omega)
      exact wp_store_mid _ _ _ rfl ga 18 #[.int .i64 0, .int .i64 z0, .int .i64 z1, .int .i64 z2, .int .i64 0] q135 q134 hth info_figs (by simp only [List.all_toArray, List.all_cons, List.all_nil, show ∀ z, (Value.int IntKind.i64 z).oneCell' = true from fun _ => rfl, Bool.and_self]) (hK _ _ ⟨hR, hN⟩)
    · intro iI oO LL V AC WW hiN ho hf hPf hT2 K hK
      have hlt : iI < 12 := by have := (Array.getElem?_eq_some_iff.1 ho).1; first | exact this | simpa using this
      rcases iI with _ | _ | _ | _ | _ | _ | _ | _ | _ | _ | _ | _ | iI
      · omega
      · omega
      · omega
      · omega
      · omega
      · omega
      · omega
      · omega
      · omega
      · omega
      · omega
      · omega
      · omega
    · intro V WW hall hPf hT2
      have vv0 : V 0 = .slice (some ⟨gz, 0, none⟩) 3 p_gz := hall 0 (by decide)
      have vv1 : V 1 = .pointer (some ⟨gz, 0, none⟩) := hall 1 (by decide)
      have vv2 : V 2 = .int .i64 z0 := hall 2 (by decide)
      have vv3 : V 3 = .slice (some ⟨gz, 0, none⟩) 3 p_gz := hall 3 (by decide)
      have vv4 : V 4 = .pointer (some ⟨gz, 1, none⟩) := hall 4 (by decide)
      have vv5 : V 5 = .int .i64 z1 := hall 5 (by decide)
      have vv6 : V 6 = .slice (some ⟨gz, 0, none⟩) 3 p_gz := hall 6 (by decide)
      have vv7 : V 7 = .pointer (some ⟨gz, 2, none⟩) := hall 7 (by decide)
      have vv8 : V 8 = .int .i64 z2 := hall 8 (by decide)
      have vv9 : V 9 = .agg #[.int .i64 0, .int .i64 z0, .int .i64 z1, .int .i64 z2, .int .i64 0] := hall 9 (by decide)
      have vv10 : V 10 = .pointer (some ⟨ga, 18, none⟩) := hall 10 (by decide)
      clear hall hT2
      simp only [pairsOf, laid, Nat.zero_add, Nat.reduceAdd, vv0, vv1, vv2, vv3, vv4, vv5, vv6, vv7, vv8, vv9, vv10, List.setIfInBounds_toArray, List.set_cons_zero, List.set_cons_succ]
      clear vv0 vv1 vv2 vv3 vv4 vv5 vv6 vv7 vv8 vv9 vv10
      have HC1 := Lib.hid hPf.1
      have HP1 := Lib.hid hPf.2
      clear hPf HC0 HP0
      clear HP1 HLgz HE8
      obtain ⟨⟨T, te⟩, ht⟩ : ∃ t, (⟨((15 : Nat) : Int), y0, y1, y2, y3, y4, [], 0, 0, 0, 0, 0, 0, 0, 0, 0, 0, 0, 0, z0, z1, z2, 0⟩ : Cm).bytes = t := ⟨_, rfl⟩
      have hSE := HSE.out _ ht
      have HRB := Lib.hid (fun U => rbytes_any U none 0 (⟨((15 : Nat) : Int), y0, y1, y2, y3, y4, [], 0, 0, 0, 0, 0, 0, 0, 0, 0, 0, 0, 0, z0, z1, z2, 0⟩ : Cm) (Sl.of_nil U) HWF.out (by have := HML.out; simp only; omega) _ ht)
      have HSE2 := Lib.hid hSE
      clear ht hSE HSE
      go_wp2_with (first | (refine ld_cm rfl _ rfl ga 0 rfl (⟨((15 : Nat) : Int), y0, y1, y2, y3, y4, [], 0, 0, 0, 0, 0, 0, 0, 0, 0, 0, 0, 0, z0, z1, z2, 0⟩ : Cm) (.slice none 0 0) HC1.out.bl.range ?_) | fail)
      refine (HRB.out _).mono ?_
      rintro e wx ⟨vx, rfl, hox, hbx⟩
      have HSx := Lib.hid (HC1.out.below hbx)
      have hx := hox.sl
      have HVx : Hid (SlB wx vx T) := hx
      have HVb : Hid (SlB wx (.slice a3 B.length p3) B) := ⟨a3, p3, rfl, HH.out.keeps HSx.out.bw⟩
      have HTz := Lib.hid (HSx.out.z.thereMid 0 23 (by decide))
      clear hox hbx hx HRB HC1 
      by_cases h0 : te = 0
      · subst h0
        by_cases hTB : T = B
        · subst hTB
          obtain rfl : s = ((⟨((15 : Nat) : Int), y0, y1, y2, y3, y4, [], 0, 0, 0, 0, 0, 0, 0, 0, 0, 0, 0, 0, z0, z1, z2, 0⟩ : Cm), 0) := HSE2.out.1 rfl rfl
          as_aux_lemma =>
          go_wp2_with (first | (refine to_text (by rfl) _ rfl _ rfl _ HVx.out ?_) | (refine to_text (by rfl) _ rfl _ rfl _ HVb.out ?_) | (refine ld_cm rfl _ rfl ga 0 rfl (⟨((15 : Nat) : Int), y0, y1, y2, y3, y4, [], 0, 0, 0, 0, 0, 0, 0, 0, 0, 0, 0, 0, z0, z1, z2, 0⟩ : Cm) (.slice none 0 0) HSx.out.bl.range ?_) | (refine st_cm rfl _ _ rfl g0 rfl (⟨((15 : Nat) : Int), y0, y1, y2, y3, y4, [], 0, 0, 0, 0, 0, 0, 0, 0, 0, 0, 0, 0, z0, z1, z2, 0⟩ : Cm) (.slice none 0 0) rfl rfl HTz.out ?_) | fail)
          intro W hW
          obtain ⟨f1_, f2_, f3_⟩ : Below w.heap.size w W ∧ Blk W g0 45 ((⟨((15 : Nat) : Int), y0, y1, y2, y3, y4, [], 0, 0, 0, 0, 0, 0, 0, 0, 0, 0, 0, 0, z0, z1, z2, 0⟩ : Cm).C (.slice none 0 0)) ∧ OwI W w.heap.size (.slice none 0 0) (⟨((15 : Nat) : Int), y0, y1, y2, y3, y4, [], 0, 0, 0, 0, 0, 0, 0, 0, 0, 0, 0, 0, z0, z1, z2, 0⟩ : Cm).L := by rw [hW.out]; exact HSx.out.fin
          have F1 := Lib.hid f1_
          have F2 := Lib.hid f2_
          have F3 := Lib.hid f3_
          clear hW f1_ f2_ f3_
          go_wp2
          exact bodyPost_ret (v := .tuple #[.agg ((⟨((15 : Nat) : Int), y0, y1, y2, y3, y4, [], 0, 0, 0, 0, 0, 0, 0, 0, 0, 0, 0, 0, z0, z1, z2, 0⟩ : Cm).C (.slice none 0 0)).toArray, .int .i64 0]) (res_cm2 Try.results22 _ _ _ (⟨((15 : Nat) : Int), y0, y1, y2, y3, y4, [], 0, 0, 0, 0, 0, 0, 0, 0, 0, 0, 0, 0, z0, z1, z2, 0⟩ : Cm) (.slice none 0 0) _ rfl rfl F2.out) rfl ⟨_, rfl, F3.out, F1.out⟩
        · have qq := str_ne hTB
          obtain rfl : s = (zC, 221) := HSE2.out.2 (fun h => hTB h.2)
          as_aux_lemma =>
          go_wp2_with (first | (refine to_text (by rfl) _ rfl _ rfl _ HVx.out ?_) | (refine to_text (by rfl) _ rfl _ rfl _ HVb.out ?_) | (refine st_cm rfl _ _ rfl g0 rfl zC (.slice none 0 0) rfl rfl HTz.out ?_) | fail)
          intro W hW
          have F1 : Hid (Below w.heap.size w W) := by show Below _ _ _; rw [hW.out]; exact below_setCells _ _ HSx.out.bw HSx.out.l0
          have F2 : Hid (Blk W g0 45 (zC.C (.slice none 0 0))) := by show Blk _ _ _ _; rw [hW.out]; exact HSx.out.z.setAll _ rfl
          clear hW
          go_wp2
          exact bodyPost_ret (v := .tuple #[.agg (zC.C (.slice none 0 0)).toArray, .int .i64 221]) (res_cm2 Try.results22 _ _ _ zC (.slice none 0 0) _ rfl rfl F2.out) rfl ⟨_, rfl, owi_nil _ _, F1.out⟩
      · have qq : (te != 0) = true := by simpa using h0
        obtain rfl : s = (zC, 221) := HSE2.out.2 (fun h => h0 h.1)
        as_aux_lemma =>
        go_wp2_with (first | (refine st_cm rfl _ _ rfl g0 rfl zC (.slice none 0 0) rfl rfl HTz.out ?_) | fail)
        intro W hW
        have F1 : Hid (Below w.heap.size w W) := by show Below _ _ _; rw [hW.out]; exact below_setCells _ _ HSx.out.bw HSx.out.l0
        have F2 : Hid (Blk W g0 45 (zC.C (.slice none 0 0))) := by show Blk _ _ _ _; rw [hW.out]; exact HSx.out.z.setAll _ rfl
        clear hW
        go_wp2
        exact bodyPost_ret (v := .tuple #[.agg (zC.C (.slice none 0 0)).toArray, .int .i64 221]) (res_cm2 Try.results22 _ _ _ zC (.slice none 0 0) _ rfl rfl F2.out) rfl ⟨_, rfl, owi_nil _ _, F1.out⟩
  · have HML : Hid (([] : List Int).length ≤ 16) := by show _ ≤ _; simp
    have HSE := Lib.hid (readR_of HSR.out hp)
    have HWF := HWP.out
    rw [hp] at HWF
    replace HWF := Lib.hid HWF
    have q1 : ((kn : Int) == 1) = false := by simp; omega
    have q15 : ((kn : Int) == 15) = false := by simp; omega
    clear hp HWP HSR HCs
    as_aux_lemma =>
    obtain ⟨⟨T, te⟩, ht⟩ : ∃ t, (⟨(kn : Int), y0, y1, y2, y3, y4, [], 0, 0, 0, 0, 0, 0, 0, 0, 0, 0, 0, 0, 0, 0, 0, 0⟩ : Cm).bytes = t := ⟨_, rfl⟩
    have hSE := HSE.out _ ht
    have HRB := Lib.hid (fun U => rbytes_any U none 0 (⟨(kn : Int), y0, y1, y2, y3, y4, [], 0, 0, 0, 0, 0, 0, 0, 0, 0, 0, 0, 0, 0, 0, 0, 0⟩ : Cm) (Sl.of_nil U) HWF.out (by have := HML.out; simp only; omega) _ ht)
    have HSE2 := Lib.hid hSE
    clear ht hSE HSE
    go_wp2_with (first | (refine ld_cm rfl _ rfl ga 0 rfl (⟨(kn : Int), y0, y1, y2, y3, y4, [], 0, 0, 0, 0, 0, 0, 0, 0, 0, 0, 0, 0, 0, 0, 0, 0⟩ : Cm) (.slice none 0 0) HB5.out.bl.range ?_) | fail)
    refine (HRB.out _).mono ?_
    rintro e wx ⟨vx, rfl, hox, hbx⟩
    have HSx := Lib.hid (HB5.out.below hbx)
    have hx := hox.sl
    have HVx : Hid (SlB wx vx T) := hx
    have HVb : Hid (SlB wx (.slice a3 B.length p3) B) := ⟨a3, p3, rfl, HH.out.keeps HSx.out.bw⟩
    have HTz := Lib.hid (HSx.out.z.thereMid 0 23 (by decide))
    clear hox hbx hx HRB HB5 
    by_cases h0 : te = 0
    · subst h0
      by_cases hTB : T = B
      · subst hTB
        obtain rfl : s = ((⟨(kn : Int), y0, y1, y2, y3, y4, [], 0, 0, 0, 0, 0, 0, 0, 0, 0, 0, 0, 0, 0, 0, 0, 0⟩ : Cm), 0) := HSE2.out.1 rfl rfl
        as_aux_lemma =>
        go_wp2_with (first | (refine to_text (by rfl) _ rfl _ rfl _ HVx.out ?_) | (refine to_text (by rfl) _ rfl _ rfl _ HVb.out ?_) | (refine ld_cm rfl _ rfl ga 0 rfl (⟨(kn : Int), y0, y1, y2, y3, y4, [], 0, 0, 0, 0, 0, 0, 0, 0, 0, 0, 0, 0, 0, 0, 0, 0⟩ : Cm) (.slice none 0 0) HSx.out.bl.range ?_) | (refine st_cm rfl _ _ rfl g0 rfl (⟨(kn : Int), y0, y1, y2, y3, y4, [], 0, 0, 0, 0, 0, 0, 0, 0, 0, 0, 0, 0, 0, 0, 0, 0⟩ : Cm) (.slice none 0 0) rfl rfl HTz.out ?_) | fail)
        intro W hW
        obtain ⟨f1_, f2_, f3_⟩ : Below w.heap.size w W ∧ Blk W g0 45 ((⟨(kn : Int), y0, y1, y2, y3, y4, [], 0, 0, 0, 0, 0, 0, 0, 0, 0, 0, 0, 0, 0, 0, 0, 0⟩ : Cm).C (.slice none 0 0)) ∧ OwI W w.heap.size (.slice none 0 0) (⟨(kn : Int), y0, y1, y2, y3, y4, [], 0, 0, 0, 0, 0, 0, 0, 0, 0, 0, 0, 0, 0, 0, 0, 0⟩ : Cm).L := by rw [hW.out]; exact HSx.out.fin
        have F1 := Lib.hid f1_
        have F2 := Lib.hid f2_
        have F3 := Lib.hid f3_
        clear hW f1_ f2_ f3_
        go_wp2
        exact bodyPost_ret (v := .tuple #[.agg ((⟨(kn : Int), y0, y1, y2, y3, y4, [], 0, 0, 0, 0, 0, 0, 0, 0, 0, 0, 0, 0, 0, 0, 0, 0⟩ : Cm).C (.slice none 0 0)).toArray, .int .i64 0]) (res_cm2 Try.results22 _ _ _ (⟨(kn : Int), y0, y1, y2, y3, y4, [], 0, 0, 0, 0, 0, 0, 0, 0, 0, 0, 0, 0, 0, 0, 0, 0⟩ : Cm) (.slice none 0 0) _ rfl rfl F2.out) rfl ⟨_, rfl, F3.out, F1.out⟩
      · have qq := str_ne hTB
        obtain rfl : s = (zC, 221) := HSE2.out.2 (fun h => hTB h.2)
        as_aux_lemma =>
        go_wp2_with (first | (refine to_text (by rfl) _ rfl _ rfl _ HVx.out ?_) | (refine to_text (by rfl) _ rfl _ rfl _ HVb.out ?_) | (refine st_cm rfl _ _ rfl g0 rfl zC (.slice none 0 0) rfl rfl HTz.out ?_) | fail)
        intro W hW
        have F1 : Hid (Below w.heap.size w W) := by show Below _ _ _; rw [hW.out]; exact below_setCells _ _ HSx.out.bw HSx.out.l0
        have F2 : Hid (Blk W g0 45 (zC.C (.slice none 0 0))) := by show Blk _ _ _ _; rw [hW.out]; exact HSx.out.z.setAll _ rfl
        clear hW
        go_wp2
        exact bodyPost_ret (v := .tuple #[.agg (zC.C (.slice none 0 0)).toArray, .int .i64 221]) (res_cm2 Try.results22 _ _ _ zC (.slice none 0 0) _ rfl rfl F2.out) rfl ⟨_, rfl, owi_nil _ _, F1.out⟩
    · have qq : (te != 0) = true := by simpa using h0
      obtain rfl : s = (zC, 221) := HSE2.out.2 (fun h => h0 h.1)
      as_aux_lemma =>
      go_wp2_with (first | (refine st_cm rfl _ _ rfl g0 rfl zC (.slice none 0 0) rfl rfl HTz.out ?_) | fail)
      intro W hW
      have F1 : Hid (Below w.heap.size w W) := by show Below _ _ _; rw [hW.out]; exact below_setCells _ _ HSx.out.bw HSx.out.l0
      have F2 : Hid (Blk W g0 45 (zC.C (.slice none 0 0))) := by show Blk _ _ _ _; rw [hW.out]; exact HSx.out.z.setAll _ rfl
      clear hW
      go_wp2
      exact bodyPost_ret (v := .tuple #[.agg (zC.C (.slice none 0 0)).toArray, .int .i64 221]) (res_cm2 Try.results22 _ _ _ zC (.slice none 0 0) _ rfl rfl F2.out) rfl ⟨_, rfl, owi_nil _ _, F1.out⟩
end Go.Proofs.Ytdkcccigmejikaa
