/-
  Draws: the walks of the reference's Approve, Fund.
-/
import Derived.Test.YtikfclioplploaaDwE
import Derived.Test.YtikfclioplploaaDwD
set_option linter.unusedVariables false
set_option linter.unusedSimpArgs false
namespace Go.Proofs.Ytikfclioplploaa
open Go.RowKit Dg

set_option maxRecDepth 8000 in
set_option maxHeartbeats 3200000 in
theorem drappr_any (w : World) (ao : Option Addr) (cap : Nat) (D : List Dw) (h : SlW w ao cap D) (hl : D.length ≤ 100000) (lo : Option Addr) (lcap : Nat) (L : List Ln) (hL : SlL w lo lcap L) (hl2 : L.length ≤ 100000) (no : Int) (s : List Dw × Int) (hs : apprS D L no = s) :
    Calls Try.prog 13 #[.slice ao D.length cap, .slice lo L.length lcap, .int .i64 no] w fun e w' => ∃ v', e = .returned (.tuple #[v', .int .i64 s.2]) ∧ OwW w' w.heap.size v' s.1 ∧ Below w.heap.size w w' := by
  obtain ⟨th, hth⟩ : ∃ r, thereW D no = r := ⟨_, rfl⟩
  have HTh := Lib.hid (drthere_any w ao cap D h (by omega) no th hth)
  have HD := Lib.hid h
  have HLL := Lib.hid hL
  unfold apprS at hs
  cases th with
  | false =>
    rw [find_un hth] at hs
    have hs2 : (([], 151) : List Dw × Int) = s := hs
    subst hs2
    clear hs h hth HD HLL hL
    go_enter Try.func13, Try.ntmps13
    go_wp2_with fail
    refine HTh.out.mono ?_
    rintro e w1 ⟨rfl, hb1⟩
    clear HTh
    go_wp2
    exact bodyPost_ret (v := .tuple #[.slice none 0 0, .int .i64 151]) (by simp [results, Try.results13, go_sem]) rfl ⟨_, rfl, ownW_nil _ _, hb1⟩
  | true =>
    obtain ⟨hr, n, l, a, st, rfl, hn, ht, hat, hf⟩ := find_there (A := [0]) hth
    have hnums := okDw_nums (List.all_eq_true.1 (rightW_true hr).2 _ (List.mem_of_getElem? ht))
    replace hnums : (0 ≤ l ∧ l ≤ 15) ∧ (1 ≤ a ∧ a ≤ 1000000000000) ∧ (0 ≤ st ∧ st ≤ 3) := hnums
    have HNums := Lib.hid hnums
    have HC := Lib.hid (fun U (hu : Below w.heap.size w U) => drchange_any U ao cap D (h.keeps hu) hl n l a st ht 1)
    have HT := Lib.hid ht
    have HRR := Lib.hid hr
    have hnI : (n : Int) < D.length := by omega
    rw [hf, hat, Int.toNat_natCast] at hs
    obtain ⟨rl, hrl⟩ : ∃ r, rightL L = r := ⟨_, rfl⟩
    have HRl := Lib.hid (fun U (hu : Below w.heap.size w U) => rright_any U lo lcap L (hL.keeps hu) rl hrl (by omega))
    have HRL := Lib.hid hrl
    have hthS : thereS L [l] = (rl && (decide (0 ≤ l) && decide (l < (L.length : Int)))) := by rw [← hrl]; simp [thereS, inN]
    clear h hth hat hf ht hr hnums hrl hL
    by_cases h0 : st = 0
    · subst h0
      rw [show [(0 : Int)].contains 0 = true from rfl] at hs
      replace hs : (if thereS L [l] = true then (if capS (atL L l).1 (atL L l).2.1 < (atL L l).2.2.1 + (atL L l).2.2.2 + pendS l D + a then ([], 143) else (D.set n (l, a, 1), 0)) else ([], 141)) = s := hs
      rw [hthS] at hs
      have HS := Lib.hid hs
      clear hs hthS
      go_enter Try.func13, Try.ntmps13
      go_wp2_with fail
      refine HTh.out.mono ?_
      rintro e w1 ⟨rfl, hb1⟩
      have HB1 := Lib.hid hb1
      have hw := HD.out.keeps hb1
      have HB2 := Lib.hid (HB1.out.alloc HB1.out.size (.cells #[.int .i64 l, .int .i64 a, .int .i64 0] 33))
      have HX2 := Lib.hid (Blk.new w1 33 [.int .i64 l, .int .i64 a, .int .i64 0])
      clear HTh hb1
      go_wp2_with (first | (refine ix_dw rfl _ _ rfl ao cap D hw rfl n _ HT.out rfl ?_; intro bb1 off1 c0 c1 c2) | fail)
      refine (HRl.out _ HB2.out).mono ?_
      rintro e w3 ⟨rfl, hb3⟩
      have HB3 := Lib.hid (below_on HB2.out HB2.out.size hb3)
      have HX3 := Lib.hid (HX2.out.keeps hb3)
      have x0 := HX3.out.cell 0 _ rfl
      clear hb3 HRl HX2 HB2 c0 c1 c2 hw
      cases rl with
      | false =>
        obtain rfl : s = ([], 141) := by rw [← HS.out]; rfl
        clear HS
        go_wp2
        exact bodyPost_ret (v := .tuple #[.slice none 0 0, .int .i64 141]) (by simp [results, Try.results13, go_sem]) rfl ⟨_, rfl, ownW_nil _ _, HB3.out⟩
      | true =>
        have l0 : 0 ≤ l := HNums.out.1.1
        by_cases k1 : (L.length : Int) ≤ l
        · obtain rfl : s = ([], 141) := by
            rw [← HS.out, if_neg]
            simp only [Bool.true_and, Bool.and_eq_true, decide_eq_true_eq]; omega
          clear HS
          go_wp2
          exact bodyPost_ret (v := .tuple #[.slice none 0 0, .int .i64 141]) (by simp [results, Try.results13, go_sem]) rfl ⟨_, rfl, ownW_nil _ _, HB3.out⟩
        · have hS : (if capS (atL L l).1 (atL L l).2.1 < (atL L l).2.2.1 + (atL L l).2.2.2 + pendS l D + a then ([], 143) else (D.set n (l, a, 1), 0)) = s := by
            rw [← HS.out]
            exact (if_pos (by simp only [Bool.true_and, Bool.and_eq_true, decide_eq_true_eq]; omega)).symm
          clear HS
          obtain ⟨m, rfl⟩ := Int.eq_ofNat_of_zero_le l0
          have hm : m < L.length := by omega
          have hrL := HRL.out
          obtain ⟨⟨b, p, x, y⟩, ht2⟩ : ∃ t, L[m]? = some t := ⟨_, List.getElem?_eq_getElem hm⟩
          have hok : okLn (b, p, x, y) = true := List.all_eq_true.1 (rightL_true hrL).2.2 _ (List.mem_of_getElem? ht2)
          have hln := okLn_nums hok
          have hat2 := atL_nat ht2
          have HT2 := Lib.hid ht2
          have hL3 := HLL.out.keeps HB3.out
          have HS0 := Lib.hid (Nat.le_refl w.heap.size)
          have HB4 := Lib.hid (HB3.out.alloc HB3.out.size (.cells #[.int .i64 b, .int .i64 p, .int .i64 x, .int .i64 y] 23))
          have HX4 := Lib.hid (HX3.out.alloc (.cells #[.int .i64 b, .int .i64 p, .int .i64 x, .int .i64 y] 23))
          have HY4 := Lib.hid (Blk.new w3 23 [.int .i64 b, .int .i64 p, .int .i64 x, .int .i64 y])
          have HCp := Lib.hid (fun W => rcap_any b p x y (by omega) (by omega) (by omega) (by omega) W)
          obtain ⟨q, hq⟩ : ∃ q, capS b p = q := ⟨_, rfl⟩
          obtain ⟨pd, hpd⟩ : ∃ q, pendS (m : Int) D = q := ⟨_, rfl⟩
          obtain ⟨w4, hw4⟩ : ∃ W, w3.alloc (.cells #[.int .i64 b, .int .i64 p, .int .i64 x, .int .i64 y] 23) = W := ⟨_, rfl⟩
          obtain ⟨gy, hgy⟩ : ∃ g, w3.heap.size = g := ⟨_, rfl⟩
          obtain ⟨gx, hgx⟩ : ∃ g, w1.heap.size = g := ⟨_, rfl⟩
          rw [hw4] at HB4 HX4 HY4
          rw [hgx] at HX4
          rw [hgy] at HY4
          have HPd := Lib.hid (fun U (hu : Below w4.heap.size w4 U) => drpend_any U ao cap D (HD.out.keeps (below_on HB4.out HB4.out.size hu)) HRR.out m pd hpd)
          have hpi := pend_at HRR.out m D.length
          rw [List.take_length, hpd] at hpi
          have hnn := HNums.out
          replace x0 : w3.cell? ⟨w1.heap.size, 0, none⟩ = some (.int .i64 m) := x0
          have HR : Hid (0 ≤ x + y ∧ x + y ≤ 1000000000000 ∧ 0 ≤ pd ∧ pd ≤ 64000000000000 ∧ 1 ≤ a ∧ a ≤ 1000000000000) := by
            show _ ∧ _
            have := hln; have hci := cap_in (b := b) (p := p) (by omega) (by omega) (by omega) (by omega)
            omega
          obtain ⟨c, hc⟩ : ∃ c, decide (q < x + y + pd + a) = c := ⟨_, rfl⟩
          have HC2 := Lib.hid hc
          rw [hat2] at hS
          replace hS : (if capS b p < x + y + pendS m D + a then ([], 143) else (D.set n ((m : Int), a, 1), 0)) = s := hS
          rw [hpd, hq] at hS
          have HS2 := Lib.hid hS
          rw [hq] at HCp
          have HW4 := Lib.hid hw4; have HGy := Lib.hid hgy; have HGx := Lib.hid hgx
          clear hrL hok hln hat2 ht2 hpi hnn hc hS HNums hpd hq HLL hw4 hgy hgx
          go_wp2_with (first | (refine ix_ln rfl _ _ rfl lo lcap L hL3 rfl m _ HT2.out rfl ?_; intro bb2 off2 c0 c1 c2 c3) | fail)
          clear c0 c1 c2 c3 hL3 HX3 x0
          rw [HW4.out, HGy.out, HGx.out]
          have HCH := HC
          have HC := HC2
          refine region_mono (by kernel_rfl) (by kernel_rfl) [some 36, some 37, some 38, some 39, some 40, some 41, some 42, some 43, some 44, some 45, some 46, some 47, some 48, some 49, some 50, some 51] (by kernel_rfl) w.heap.size w HB4.out HS0.out (fun i v WW => match i with | 0 => v = .pointer (some ⟨gy, 2, none⟩) | 1 => v = .int .i64 x | 2 => v = .pointer (some ⟨gy, 3, none⟩) | 3 => v = .int .i64 y | 4 => v = .int .i64 (x + y) | 5 => v = .slice ao D.length cap | 6 => v = .pointer (some ⟨gx, 0, none⟩) | 7 => v = .int .i64 m | 8 => v = .int .i64 pd | 9 => v = .int .i64 (x + y + pd) | 10 => v = .pointer (some ⟨gx, 1, none⟩) | 11 => v = .int .i64 a | 12 => v = .int .i64 (x + y + pd + a) | 13 => v = .agg #[.int .i64 b, .int .i64 p, .int .i64 x, .int .i64 y] | 14 => v = .int .i64 q | 15 => v = .bool c | _ => True) ?_ ?_ ?_
          · intro i v WW WX h hbx
            rcases i with _ | _ | _ | _ | _ | _ | _ | _ | _ | _ | _ | _ | _ | _ | _ | _ | i
            · exact h
            · exact h
            · exact h
            · exact h
            · exact h
            · exact h
            · exact h
            · exact h
            · exact h
            · exact h
            · exact h
            · exact h
            · exact h
            · exact h
            · exact h
            · exact h
            · trivial
          · intro iI oO V AC WW ho hf hbw K hK
            have hlt : iI < 16 := (Array.getElem?_eq_some_iff.1 ho).1
            rcases iI with _ | _ | _ | _ | _ | _ | _ | _ | _ | _ | _ | _ | _ | _ | _ | _ | iI
            · obtain rfl := Option.some.inj (show some _ = some oO from ho)
              rw [if_pos (by rfl)]
              have q9 : AC.tmps.getD 9 undef = .pointer (some ⟨gy, 0, none⟩) := hf.rest 9 (by kernel_rfl)
              go_simp
              refine hK _ _ (Below.refl _ _) ?_
              exact rfl
            · obtain rfl := Option.some.inj (show some _ = some oO from ho)
              rw [if_pos (by rfl)]
              have q36 : AC.tmps.getD 36 undef = .pointer (some ⟨gy, 2, none⟩) := ((hf.dep ⟨0, .data⟩ (by simp) rfl).2 36 rfl).trans (hf.dep ⟨0, .data⟩ (by simp) rfl).1
              have hG := HY4.out.keeps hbw
              have g2 := hG.cell 2 _ rfl
              go_simp
              refine hK _ _ (Below.refl _ _) ?_
              exact rfl
            · obtain rfl := Option.some.inj (show some _ = some oO from ho)
              rw [if_pos (by rfl)]
              have q9 : AC.tmps.getD 9 undef = .pointer (some ⟨gy, 0, none⟩) := hf.rest 9 (by kernel_rfl)
              go_simp
              refine hK _ _ (Below.refl _ _) ?_
              exact rfl
            · obtain rfl := Option.some.inj (show some _ = some oO from ho)
              rw [if_pos (by rfl)]
              have q38 : AC.tmps.getD 38 undef = .pointer (some ⟨gy, 3, none⟩) := ((hf.dep ⟨2, .data⟩ (by simp) rfl).2 38 rfl).trans (hf.dep ⟨2, .data⟩ (by simp) rfl).1
              have hG := HY4.out.keeps hbw
              have g3 := hG.cell 3 _ rfl
              go_simp
              refine hK _ _ (Below.refl _ _) ?_
              exact rfl
            · obtain rfl := Option.some.inj (show some _ = some oO from ho)
              rw [if_pos (by rfl)]
              have q37 : AC.tmps.getD 37 undef = .int .i64 x := ((hf.dep ⟨1, .data⟩ (by simp) rfl).2 37 rfl).trans (hf.dep ⟨1, .data⟩ (by simp) rfl).1
              have q39 : AC.tmps.getD 39 undef = .int .i64 y := ((hf.dep ⟨3, .data⟩ (by simp) rfl).2 39 rfl).trans (hf.dep ⟨3, .data⟩ (by simp) rfl).1
              obtain ⟨r0, r1, r2, r3, r4, r5⟩ := HR.out
              go_simp
              refine hK _ _ (Below.refl _ _) ?_
              exact (by (show Value.int _ _ = Value.int _ _; rw [IntKind.wrap_i64]; congr 1; omega))
            · obtain rfl := Option.some.inj (show some _ = some oO from ho)
              rw [if_pos (by rfl)]
              have q0 : AC.tmps.getD 0 undef = .slice ao D.length cap := hf.rest 0 (by kernel_rfl)
              go_simp
              refine hK _ _ (Below.refl _ _) ?_
              exact rfl
            · obtain rfl := Option.some.inj (show some _ = some oO from ho)
              rw [if_pos (by rfl)]
              have q8 : AC.tmps.getD 8 undef = .pointer (some ⟨gx, 0, none⟩) := hf.rest 8 (by kernel_rfl)
              go_simp
              refine hK _ _ (Below.refl _ _) ?_
              exact rfl
            · obtain rfl := Option.some.inj (show some _ = some oO from ho)
              rw [if_pos (by rfl)]
              have q42 : AC.tmps.getD 42 undef = .pointer (some ⟨gx, 0, none⟩) := ((hf.dep ⟨6, .data⟩ (by simp) rfl).2 42 rfl).trans (hf.dep ⟨6, .data⟩ (by simp) rfl).1
              have hG := HX4.out.keeps hbw
              have g0 := hG.cell 0 _ rfl
              go_simp
              refine hK _ _ (Below.refl _ _) ?_
              exact rfl
            · obtain rfl := Option.some.inj (show some _ = some oO from ho)
              rw [if_pos (by rfl)]
              have q41 : AC.tmps.getD 41 undef = .slice ao D.length cap := ((hf.dep ⟨5, .data⟩ (by simp) rfl).2 41 rfl).trans (hf.dep ⟨5, .data⟩ (by simp) rfl).1
              have q43 : AC.tmps.getD 43 undef = .int .i64 m := ((hf.dep ⟨7, .data⟩ (by simp) rfl).2 43 rfl).trans (hf.dep ⟨7, .data⟩ (by simp) rfl).1
              go_simp
              refine (HPd.out WW hbw).mono ?_
              rintro e w9 ⟨rfl, hb9⟩
              exact hK _ _ hb9 rfl
            · obtain rfl := Option.some.inj (show some _ = some oO from ho)
              rw [if_pos (by rfl)]
              have q40 : AC.tmps.getD 40 undef = .int .i64 (x + y) := ((hf.dep ⟨4, .data⟩ (by simp) rfl).2 40 rfl).trans (hf.dep ⟨4, .data⟩ (by simp) rfl).1
              have q44 : AC.tmps.getD 44 undef = .int .i64 pd := ((hf.dep ⟨8, .data⟩ (by simp) rfl).2 44 rfl).trans (hf.dep ⟨8, .data⟩ (by simp) rfl).1
              obtain ⟨r0, r1, r2, r3, r4, r5⟩ := HR.out
              go_simp
              refine hK _ _ (Below.refl _ _) ?_
              exact (by (show Value.int _ _ = Value.int _ _; rw [IntKind.wrap_i64]; congr 1; omega))
            · obtain rfl := Option.some.inj (show some _ = some oO from ho)
              rw [if_pos (by rfl)]
              have q8 : AC.tmps.getD 8 undef = .pointer (some ⟨gx, 0, none⟩) := hf.rest 8 (by kernel_rfl)
              go_simp
              refine hK _ _ (Below.refl _ _) ?_
              exact rfl
            · obtain rfl := Option.some.inj (show some _ = some oO from ho)
              rw [if_pos (by rfl)]
              have q46 : AC.tmps.getD 46 undef = .pointer (some ⟨gx, 1, none⟩) := ((hf.dep ⟨10, .data⟩ (by simp) rfl).2 46 rfl).trans (hf.dep ⟨10, .data⟩ (by simp) rfl).1
              have hG := HX4.out.keeps hbw
              have g1 := hG.cell 1 _ rfl
              go_simp
              refine hK _ _ (Below.refl _ _) ?_
              exact rfl
            · obtain rfl := Option.some.inj (show some _ = some oO from ho)
              rw [if_pos (by rfl)]
              have q45 : AC.tmps.getD 45 undef = .int .i64 (x + y + pd) := ((hf.dep ⟨9, .data⟩ (by simp) rfl).2 45 rfl).trans (hf.dep ⟨9, .data⟩ (by simp) rfl).1
              have q47 : AC.tmps.getD 47 undef = .int .i64 a := ((hf.dep ⟨11, .data⟩ (by simp) rfl).2 47 rfl).trans (hf.dep ⟨11, .data⟩ (by simp) rfl).1
              obtain ⟨r0, r1, r2, r3, r4, r5⟩ := HR.out
              go_simp
              refine hK _ _ (Below.refl _ _) ?_
              exact (by (show Value.int _ _ = Value.int _ _; rw [IntKind.wrap_i64]; congr 1; omega))
            · obtain rfl := Option.some.inj (show some _ = some oO from ho)
              rw [if_pos (by rfl)]
              have q9 : AC.tmps.getD 9 undef = .pointer (some ⟨gy, 0, none⟩) := hf.rest 9 (by kernel_rfl)
              have hG := HY4.out.keeps hbw
              have g0 := hG.cell 0 _ rfl
              have g1 := hG.cell 1 _ rfl
              have g2 := hG.cell 2 _ rfl
              have g3 := hG.cell 3 _ rfl
              go_simp
              refine hK _ _ (Below.refl _ _) ?_
              exact rfl
            · obtain rfl := Option.some.inj (show some _ = some oO from ho)
              rw [if_pos (by rfl)]
              have q49 : AC.tmps.getD 49 undef = .agg #[.int .i64 b, .int .i64 p, .int .i64 x, .int .i64 y] := ((hf.dep ⟨13, .data⟩ (by simp) rfl).2 49 rfl).trans (hf.dep ⟨13, .data⟩ (by simp) rfl).1
              go_simp
              refine (HCp.out WW).mono ?_
              rintro e w9 ⟨rfl, hb9⟩
              exact hK _ _ hb9 rfl
            · obtain rfl := Option.some.inj (show some _ = some oO from ho)
              rw [if_pos (by rfl)]
              have q48 : AC.tmps.getD 48 undef = .int .i64 (x + y + pd + a) := ((hf.dep ⟨12, .data⟩ (by simp) rfl).2 48 rfl).trans (hf.dep ⟨12, .data⟩ (by simp) rfl).1
              have q50 : AC.tmps.getD 50 undef = .int .i64 q := ((hf.dep ⟨14, .data⟩ (by simp) rfl).2 50 rfl).trans (hf.dep ⟨14, .data⟩ (by simp) rfl).1
              go_simp
              refine hK _ _ (Below.refl _ _) ?_
              exact (by (show Value.bool _ = Value.bool _; rw [HC.out]))
            · omega
          · intro V WW hall hbw hBW
            have vv0 : V 0 = .pointer (some ⟨gy, 2, none⟩) := hall 0 (by decide)
            have vv1 : V 1 = .int .i64 x := hall 1 (by decide)
            have vv2 : V 2 = .pointer (some ⟨gy, 3, none⟩) := hall 2 (by decide)
            have vv3 : V 3 = .int .i64 y := hall 3 (by decide)
            have vv4 : V 4 = .int .i64 (x + y) := hall 4 (by decide)
            have vv5 : V 5 = .slice ao D.length cap := hall 5 (by decide)
            have vv6 : V 6 = .pointer (some ⟨gx, 0, none⟩) := hall 6 (by decide)
            have vv7 : V 7 = .int .i64 m := hall 7 (by decide)
            have vv8 : V 8 = .int .i64 pd := hall 8 (by decide)
            have vv9 : V 9 = .int .i64 (x + y + pd) := hall 9 (by decide)
            have vv10 : V 10 = .pointer (some ⟨gx, 1, none⟩) := hall 10 (by decide)
            have vv11 : V 11 = .int .i64 a := hall 11 (by decide)
            have vv12 : V 12 = .int .i64 (x + y + pd + a) := hall 12 (by decide)
            have vv13 : V 13 = .agg #[.int .i64 b, .int .i64 p, .int .i64 x, .int .i64 y] := hall 13 (by decide)
            have vv14 : V 14 = .int .i64 q := hall 14 (by decide)
            have vv15 : V 15 = .bool c := hall 15 (by decide)
            clear hall
            simp only [pairsOf, laid, Nat.zero_add, Nat.reduceAdd, vv0, vv1, vv2, vv3, vv4, vv5, vv6, vv7, vv8, vv9, vv10, vv11, vv12, vv13, vv14, vv15, List.setIfInBounds_toArray, List.set_cons_zero, List.set_cons_succ]
            clear vv0 vv1 vv2 vv3 vv4 vv5 vv6 vv7 vv8 vv9 vv10 vv11 vv12 vv13 vv14 vv15
            have HW := Lib.hid hBW
            clear hbw hBW HCp HPd HX4 HY4 HB4 HC2
            cases c with
            | true =>
              obtain rfl : s = ([], 143) := by rw [← HS2.out, if_pos (of_decide_eq_true HC.out)]
              clear HS2
              go_wp2
              exact bodyPost_ret (v := .tuple #[.slice none 0 0, .int .i64 143]) (by simp [results, Try.results13, go_sem]) rfl ⟨_, rfl, ownW_nil _ _, HW.out⟩
            | false =>
              obtain rfl : s = (D.set n ((m : Int), a, 1), 0) := by rw [← HS2.out, if_neg (of_decide_eq_false HC.out)]
              clear HS2
              go_wp2_with fail
              refine (HCH.out _ HW.out).mono ?_
              rintro e w5 ⟨v5, rfl, ho5, hb5⟩
              have HB5 := Lib.hid (below_on HW.out HW.out.size hb5)
              have HO5 := Lib.hid (own_dn ho5 HW.out.size)
              clear ho5 hb5 HCH
              go_wp2
              exact bodyPost_ret (v := .tuple #[v5, .int .i64 0]) (by simp [results, Try.results13, go_sem]) rfl ⟨_, rfl, HO5.out, HB5.out⟩
    · have hc : [0].contains st = false := by
        rw [Bool.eq_false_iff]; intro e
        have := List.mem_of_elem_eq_true e
        simp at this; omega
      rw [hc] at hs
      have hs2 : (([], 152) : List Dw × Int) = s := hs
      subst hs2
      clear hs hc hthS
      go_enter Try.func13, Try.ntmps13
      go_wp2_with fail
      refine HTh.out.mono ?_
      rintro e w1 ⟨rfl, hb1⟩
      have HB1 := Lib.hid (hb1.alloc hb1.size (.cells #[.int .i64 l, .int .i64 a, .int .i64 st] 33))
      have hw := HD.out.keeps hb1
      clear HTh hb1
      go_wp2_with (first | (refine ix_dw rfl _ _ rfl ao cap D hw rfl n _ HT.out rfl ?_; intro bb1 off1 c0 c1 c2) | fail)
      exact bodyPost_ret (v := .tuple #[.slice none 0 0, .int .i64 152]) (by simp [results, Try.results13, go_sem]) rfl ⟨_, rfl, ownW_nil _ _, HB1.out⟩
set_option maxRecDepth 8000 in
set_option maxHeartbeats 6400000 in
theorem drfund_any (w : World) (ao : Option Addr) (cap : Nat) (D : List Dw) (h : SlW w ao cap D) (hl : D.length ≤ 100000) (lo : Option Addr) (lcap : Nat) (L : List Ln) (hL : SlL w lo lcap L) (hl2 : L.length ≤ 100000) (no r : Int) (s : List Dw × List Ln × Ln × Int) (hs : fundS D L no r = s) :
    Calls Try.prog 16 #[.slice ao D.length cap, .slice lo L.length lcap, .int .i64 no, .int .i64 r] w fun e w' => ∃ v' u', e = .returned (.tuple #[v', u', .agg #[.int .i64 s.2.2.1.1, .int .i64 s.2.2.1.2.1, .int .i64 s.2.2.1.2.2.1, .int .i64 s.2.2.1.2.2.2], .int .i64 s.2.2.2]) ∧ OwW w' w.heap.size v' s.1 ∧ OwL w' w.heap.size u' s.2.1 ∧ Below w.heap.size w w' := by
  have HB0 := Lib.hid (below_new1 w (.cells #[.int .i64 0, .int .i64 0, .int .i64 0, .int .i64 0] 23))
  have HG0 := Lib.hid (Blk.new w 23 [.int .i64 0, .int .i64 0, .int .i64 0, .int .i64 0])
  obtain ⟨th, hth⟩ : ∃ r, thereW D no = r := ⟨_, rfl⟩
  have HTh := Lib.hid (drthere_any _ ao cap D (h.keeps HB0.out) (by omega) no th hth)
  have HD := Lib.hid h
  have HLL := Lib.hid hL
  have HGB := Lib.hid (Nat.le_refl w.heap.size)
  unfold fundS at hs
  cases th with
  | false =>
    rw [find_un hth] at hs
    have hs2 : (([], [], (0, 0, 0, 0), 151) : List Dw × List Ln × Ln × Int) = s := hs
    subst hs2
    clear hs h hth HD HLL hL
    go_enter Try.func16, Try.ntmps16
    go_wp2_with fail
    refine HTh.out.mono ?_
    rintro e w1 ⟨rfl, hb1⟩
    have HB1 := Lib.hid (below_on HB0.out HB0.out.size hb1)
    have HG1 := Lib.hid (HG0.out.keeps hb1)
    clear HTh hb1 HG0 HB0
    obtain ⟨g, hg⟩ : ∃ g, w.heap.size = g := ⟨_, rfl⟩
    rw [hg] at HG1
    have HGB2 := Lib.hid (Nat.le_of_eq hg)
    simp only [hg]
    clear hg HGB
    have HGB := HGB2
    have HTH := Lib.hid (HG1.out.thereMid 0 4 (by decide))
    go_wp2_with (first | (refine st_ln rfl _ _ rfl g 0 rfl ((0, 0, 0, 0) : Ln) rfl HTH.out ?_) | fail)
    intro W hW
    have HGn : Hid (Blk W g 23 (lnc ((0, 0, 0, 0) : Ln))) := by show Blk _ _ _ _; rw [hW.out]; exact HG1.out.setAll _ (by simp [lnc_len])
    have HBn : Hid (Below w.heap.size w W) := by show Below _ _ _; rw [hW.out]; exact below_setCells _ _ HB1.out HGB.out
    clear hW
    go_wp2
    exact bodyPost_ret (v := .tuple #[.slice none 0 0, .slice none 0 0, .agg (lnc ((0, 0, 0, 0) : Ln)).toArray, .int .i64 151]) (res_fund Try.results16 _ _ _ ((0, 0, 0, 0) : Ln) _ _ _ rfl rfl rfl rfl HGn.out) rfl ⟨_, _, rfl, ownW_nil _ _, ownL_nil _ _, HBn.out⟩
  | true =>
    obtain ⟨hr, n, l, a, st, rfl, hn, ht, hat, hf⟩ := find_there (A := [1]) hth
    have hnums := okDw_nums (List.all_eq_true.1 (rightW_true hr).2 _ (List.mem_of_getElem? ht))
    replace hnums : (0 ≤ l ∧ l ≤ 15) ∧ (1 ≤ a ∧ a ≤ 1000000000000) ∧ (0 ≤ st ∧ st ≤ 3) := hnums
    have HTn := Lib.hid (fun U (hu : Below w.heap.size w U) => drchange_any U ao cap D (h.keeps hu) hl n l a st ht 2)
    have HT := Lib.hid ht
    have hnI : (n : Int) < D.length := by omega
    rw [hf, hat, Int.toNat_natCast] at hs
    have HSt := Lib.hid (fun W => drstrip_any a r (by omega) (by omega) W)
    clear h hth hat hf ht hr hnums
    by_cases h0 : st = 1
    · subst h0
      rw [show [(1 : Int)].contains 1 = true from rfl] at hs
      obtain ⟨z, hz⟩ : ∃ z, stripS a r = z := ⟨_, rfl⟩
      replace hs : (if (stripS a r).2.2 = 0 then (if (payS L l (stripS a r).2.1 (stripS a r).1).2 = 0 then (D.set n (l, a, 2), (payS L l (stripS a r).2.1 (stripS a r).1).1, (0, 0, (stripS a r).2.1, (stripS a r).1), 0) else ([], [], (0, 0, 0, 0), (payS L l (stripS a r).2.1 (stripS a r).1).2)) else ([], [], (0, 0, 0, 0), 142)) = s := hs
      rw [hz] at HSt hs
      obtain ⟨held, paid, er⟩ := z
      replace hs : (if er = 0 then (if (payS L l paid held).2 = 0 then (D.set n (l, a, 2), (payS L l paid held).1, (0, 0, paid, held), 0) else ([], [], (0, 0, 0, 0), (payS L l paid held).2)) else ([], [], (0, 0, 0, 0), 142)) = s := hs
      obtain ⟨y, hy⟩ : ∃ y, payS L l paid held = y := ⟨_, rfl⟩
      rw [hy] at hs
      have HPy := Lib.hid (fun U (hu : Below w.heap.size w U) => rpay_any U lo lcap L (hL.keeps hu) (by omega) l paid held y hy)
      have HS := Lib.hid hs
      clear hs hL hz hy
      go_enter Try.func16, Try.ntmps16
      go_wp2_with fail
      refine HTh.out.mono ?_
      rintro e w1 ⟨rfl, hb1⟩
      have HB1 := Lib.hid (below_on HB0.out HB0.out.size hb1)
      have HG1 := Lib.hid (HG0.out.keeps hb1)
      have HB2 := Lib.hid (HB1.out.alloc HB1.out.size (.cells #[.int .i64 l, .int .i64 a, .int .i64 1] 33))
      have HX2 := Lib.hid (Blk.new w1 33 [.int .i64 l, .int .i64 a, .int .i64 1])
      have HG2 := Lib.hid (HG1.out.alloc (.cells #[.int .i64 l, .int .i64 a, .int .i64 1] 33))
      have hw := HD.out.keeps HB1.out
      clear hb1 HTh HG0 HB0
      go_wp2_with (first | (refine ix_dw rfl _ _ rfl ao cap D hw rfl n _ HT.out rfl ?_; intro bb1 off1 c0 c1 c2) | fail)
      refine (HSt.out _).mono ?_
      rintro e w3 ⟨rfl, hb3⟩
      have HB3 := Lib.hid (below_on HB2.out HB2.out.size hb3)
      have HG3 := Lib.hid (HG2.out.keeps hb3)
      have HX3 := Lib.hid (HX2.out.keeps hb3)
      clear hb3 HSt HG2 HB2 HX2 HG1 c0 c1 c2 hw
      obtain ⟨g, hg⟩ : ∃ g, w.heap.size = g := ⟨_, rfl⟩
      rw [hg] at HG3
      have HGB2 := Lib.hid (Nat.le_of_eq hg)
      simp only [hg]
      clear hg HGB
      have HGB := HGB2
      by_cases hez : er = 0
      · subst hez
        have hS : (if y.2 = 0 then (D.set n (l, a, 2), y.1, (0, 0, paid, held), 0) else ([], [], (0, 0, 0, 0), y.2)) = s := HS.out
        have HS2 := Lib.hid hS
        have x0 := HX3.out.cell 0 _ rfl
        clear hS HS
        go_wp2_with fail
        refine (HPy.out _ HB3.out).mono ?_
        rintro e w4 ⟨v4, rfl, ho4, hb4⟩
        have HB4 := Lib.hid (below_on HB3.out HB3.out.size hb4)
        have HG4 := Lib.hid (HG3.out.keeps hb4)
        have HO4 := Lib.hid ho4
        have HGlt := Lib.hid (HG3.out.lt)
        clear x0 hb4 ho4 HPy HX3 HG3
        obtain ⟨y1, y2⟩ := y
        by_cases hy2 : y2 = 0
        · subst hy2
          obtain rfl : s = (D.set n (l, a, 2), y1, (0, 0, paid, held), 0) := HS2.out.symm
          clear HS2
          go_wp2_with fail
          refine (HTn.out _ HB4.out).mono ?_
          rintro e w5 ⟨v5, rfl, ho5, hb5⟩
          have HB5 := Lib.hid (below_on HB4.out HB4.out.size hb5)
          have HG5 := Lib.hid (HG4.out.keeps hb5)
          have HO5 := Lib.hid ho5
          have HO45 := Lib.hid (own_kp HO4.out hb5)
          have HGlt4 := Lib.hid (HG4.out.lt)
          clear hb5 ho5 HTn HO4
          have HTH := Lib.hid (HG5.out.thereMid 0 4 (by decide))
          go_wp2_with (first | (refine st_ln rfl _ _ rfl g 0 rfl (0, 0, paid, held) rfl HTH.out ?_) | fail)
          intro W hW
          have HGn : Hid (Blk W g 23 (lnc (0, 0, paid, held))) := by show Blk _ _ _ _; rw [hW.out]; exact HG5.out.setAll _ (by simp [lnc_len])
          have HBn : Hid (Below w.heap.size w W) := by show Below _ _ _; rw [hW.out]; exact below_setCells _ _ HB5.out HGB.out
          have HOa : Hid (OwW W w.heap.size v5 (D.set n (l, a, 2))) := by show World.ownsRow _ _ _ _ _ _ _; rw [hW.out]; exact own_dn (own_setCells HO5.out HGlt4.out _ _) HB4.out.size
          have HOb : Hid (OwL W w.heap.size v4 y1) := by show World.ownsRow _ _ _ _ _ _ _; rw [hW.out]; exact own_dn (own_setCells HO45.out HGlt.out _ _) HB3.out.size
          clear hW
          go_wp2
          exact bodyPost_ret (v := .tuple #[v5, v4, .agg (lnc (0, 0, paid, held)).toArray, .int .i64 0]) (res_fund Try.results16 _ _ _ (0, 0, paid, held) _ _ _ rfl rfl rfl rfl HGn.out) rfl ⟨_, _, rfl, HOa.out, HOb.out, HBn.out⟩
        · have hS2 := HS2.out
          replace hS2 : (if y2 = 0 then (D.set n (l, a, 2), y1, (0, 0, paid, held), 0) else ([], [], (0, 0, 0, 0), y2)) = s := hS2
          rw [if_neg hy2] at hS2
          subst hS2
          clear HS2
          have HTH := Lib.hid (HG4.out.thereMid 0 4 (by decide))
          go_wp2_with (first | (refine st_ln rfl _ _ rfl g 0 rfl ((0, 0, 0, 0) : Ln) rfl HTH.out ?_) | fail)
          intro W hW
          have HGn : Hid (Blk W g 23 (lnc ((0, 0, 0, 0) : Ln))) := by show Blk _ _ _ _; rw [hW.out]; exact HG4.out.setAll _ (by simp [lnc_len])
          have HBn : Hid (Below w.heap.size w W) := by show Below _ _ _; rw [hW.out]; exact below_setCells _ _ HB4.out HGB.out
          clear hW
          go_wp2
          exact bodyPost_ret (v := .tuple #[.slice none 0 0, .slice none 0 0, .agg (lnc ((0, 0, 0, 0) : Ln)).toArray, .int .i64 y2]) (res_fund Try.results16 _ _ _ ((0, 0, 0, 0) : Ln) _ _ _ rfl rfl rfl rfl HGn.out) rfl ⟨_, _, rfl, ownW_nil _ _, ownL_nil _ _, HBn.out⟩
      · have hS := HS.out
        replace hS : (if er = 0 then (if y.2 = 0 then (D.set n (l, a, 2), y.1, (0, 0, paid, held), 0) else ([], [], (0, 0, 0, 0), y.2)) else ([], [], (0, 0, 0, 0), 142)) = s := hS
        rw [if_neg hez] at hS
        subst hS
        clear HS
        have HTH := Lib.hid (HG3.out.thereMid 0 4 (by decide))
        go_wp2_with (first | (refine st_ln rfl _ _ rfl g 0 rfl ((0, 0, 0, 0) : Ln) rfl HTH.out ?_) | fail)
        intro W hW
        have HGn : Hid (Blk W g 23 (lnc ((0, 0, 0, 0) : Ln))) := by show Blk _ _ _ _; rw [hW.out]; exact HG3.out.setAll _ (by simp [lnc_len])
        have HBn : Hid (Below w.heap.size w W) := by show Below _ _ _; rw [hW.out]; exact below_setCells _ _ HB3.out HGB.out
        clear hW
        go_wp2
        exact bodyPost_ret (v := .tuple #[.slice none 0 0, .slice none 0 0, .agg (lnc ((0, 0, 0, 0) : Ln)).toArray, .int .i64 142]) (res_fund Try.results16 _ _ _ ((0, 0, 0, 0) : Ln) _ _ _ rfl rfl rfl rfl HGn.out) rfl ⟨_, _, rfl, ownW_nil _ _, ownL_nil _ _, HBn.out⟩
    · have hc : [1].contains st = false := by
        rw [Bool.eq_false_iff]; intro e
        have := List.mem_of_elem_eq_true e
        simp at this; omega
      rw [hc] at hs
      have hs2 : (([], [], (0, 0, 0, 0), 152) : List Dw × List Ln × Ln × Int) = s := hs
      subst hs2
      clear hs hc hL HLL
      go_enter Try.func16, Try.ntmps16
      go_wp2_with fail
      refine HTh.out.mono ?_
      rintro e w1 ⟨rfl, hb1⟩
      have HB1 := Lib.hid (below_on HB0.out HB0.out.size hb1)
      have HG1 := Lib.hid (HG0.out.keeps hb1)
      have HB2 := Lib.hid (HB1.out.alloc HB1.out.size (.cells #[.int .i64 l, .int .i64 a, .int .i64 st] 33))
      have HG2 := Lib.hid (HG1.out.alloc (.cells #[.int .i64 l, .int .i64 a, .int .i64 st] 33))
      have hw := HD.out.keeps HB1.out
      clear HTh hb1 HG0 HB0 HG1
      obtain ⟨g, hg⟩ : ∃ g, w.heap.size = g := ⟨_, rfl⟩
      rw [hg] at HG2
      have HGB2 := Lib.hid (Nat.le_of_eq hg)
      simp only [hg]
      clear hg HGB
      have HGB := HGB2
      have HTH := Lib.hid (HG2.out.thereMid 0 4 (by decide))
      go_wp2_with (first | (refine ix_dw rfl _ _ rfl ao cap D hw rfl n _ HT.out rfl ?_; intro bb1 off1 c0 c1 c2) | (refine st_ln rfl _ _ rfl g 0 rfl ((0, 0, 0, 0) : Ln) rfl HTH.out ?_) | fail)
      intro W hW
      have HGn : Hid (Blk W g 23 (lnc ((0, 0, 0, 0) : Ln))) := by show Blk _ _ _ _; rw [hW.out]; exact HG2.out.setAll _ (by simp [lnc_len])
      have HBn : Hid (Below w.heap.size w W) := by show Below _ _ _; rw [hW.out]; exact below_setCells _ _ HB2.out HGB.out
      clear hW
      go_wp2
      exact bodyPost_ret (v := .tuple #[.slice none 0 0, .slice none 0 0, .agg (lnc ((0, 0, 0, 0) : Ln)).toArray, .int .i64 152]) (res_fund Try.results16 _ _ _ ((0, 0, 0, 0) : Ln) _ _ _ rfl rfl rfl rfl HGn.out) rfl ⟨_, _, rfl, ownW_nil _ _, ownL_nil _ _, HBn.out⟩
end Go.Proofs.Ytikfclioplploaa
