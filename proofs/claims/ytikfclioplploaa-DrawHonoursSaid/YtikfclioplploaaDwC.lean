/-
  Draws: the walk of draw.Approve.
-/
import Derived.Test.YtikfclioplploaaDwB
import Derived.Test.YtikfclioplploaaBgF
set_option linter.unusedVariables false
set_option linter.unusedSimpArgs false
namespace Go.Proofs.Ytikfclioplploaa
open Go.RowKit Dg

theorem index_rec (t e : TypeId) (ht : Try.prog.underlying t = some (.slice e)) (S : Nat) (hz : ∀ w, (sizeOf e).run Try.prog w = .ok S w) (b off n cap k : Nat) (hk : k < n) (w : World) :
    (Instr.indexAt t (.slice (some ⟨b, off, none⟩) n cap) (.int .i64 k)).run Try.prog w = .ok (.pointer (some ⟨b, off + k * S, none⟩)) w := by
  have hkn : (k : Int) < n := by omega
  by_cases h0 : k * S = 0
  · simp [Instr.indexAt, asIntOf, run_underlying ht, hz, hkn, Addr.add, h0]
    intro h; omega
  · simp [Instr.indexAt, asIntOf, run_underlying ht, hz, hkn, Addr.add, h0]
    intro h; omega
theorem Rk.cells3 {w : World} {S b off n cap : Nat} {C : List Value} (h : Rk w S (some ⟨b, off, none⟩) n cap C) (_ : True = True) : ∀ j u, C[j]? = some u → w.cell? ⟨b, off + j, none⟩ = some u := by
  intro j u hu
  obtain ⟨b', off', e, hc⟩ := h.cells (by rintro rfl; simp at hu)
  obtain ⟨rfl, rfl⟩ : b = b' ∧ off = off' := by
    simp only [Option.some.injEq, Addr.mk.injEq] at e; exact ⟨e.1, e.2.1⟩
  exact hc j u hu
/-- What Approve answers. -/
def apprS (D : List Dw) (L : List Ln) (no : Int) : List Dw × Int :=
  if (findS D no [0]).2 = 0 then
    (if thereS L [(atW D no).1] = true then
      (if capS (atL L (atW D no).1).1 (atL L (atW D no).1).2.1 < (atL L (atW D no).1).2.2.1 + (atL L (atW D no).1).2.2.2 + pendS (atW D no).1 D + (atW D no).2.1 then ([], 143)
       else (D.set no.toNat ((atW D no).1, (atW D no).2.1, 1), 0)) else ([], 141))
  else ([], (findS D no [0]).2)
set_option maxRecDepth 8000 in
set_option maxHeartbeats 3200000 in
theorem dappr_any (w : World) (ao : Option Addr) (cap : Nat) (D : List Dw) (h : SlW w ao cap D) (lo : Option Addr) (lcap : Nat) (L : List Ln) (hL : SlL w lo lcap L) (no : Int) (s : List Dw × Int) (hs : apprS D L no = s) :
    Calls Try.prog 7 #[.slice ao D.length cap, .slice lo L.length lcap, .int .i64 no] w fun e w' => ∃ v', e = .returned (.tuple #[v', .int .i64 s.2]) ∧ OwW w' w.heap.size v' s.1 ∧ Below w.heap.size w w' := by
  have HB0 := Lib.hid (below_new1 w (.cells #[.int .i64 0] 3))
  obtain ⟨q, hq⟩ : ∃ q, findS D no [0] = q := ⟨_, rfl⟩
  have HF := Lib.hid (dfind_any _ ao cap D (h.keeps HB0.out) no _ 1 [0] (sl_k1 w 0) (by decide) q hq)
  have HD := Lib.hid h
  have HLL := Lib.hid hL
  unfold apprS at hs
  by_cases he : q.2 = 0
  · obtain ⟨hr, n, l, a, st, rfl, hn, ht, hat, hst, hf⟩ := find_ok (by rw [hq]; exact he)
    have HTn := Lib.hid (fun U (hu : Below w.heap.size w U) => dturned_any U ao cap D (h.keeps hu) (by have := (rightW_true hr).1; omega) n l a st ht 1)
    rw [hq, if_pos he, hat, Int.toNat_natCast] at hs
    obtain rfl : q = ((l, a, st), 0) := hq.symm.trans hf
    have hnums := okDw_nums (List.all_eq_true.1 (rightW_true hr).2 _ (List.mem_of_getElem? ht))
    have HRR := Lib.hid hr
    obtain ⟨th, hth⟩ : ∃ r, thereS L [l] = r := ⟨_, rfl⟩
    have HTh := Lib.hid (fun U (hu : Below w.heap.size w U) => dthere_any U lo lcap L (hL.keeps hu) l th hth)
    have HTE := Lib.hid hth
    have HS := Lib.hid hs
    have HNums := Lib.hid hnums
    clear hq hf hat ht hr h he hs hst hth hnums hL
    go_enter Try.func7, Try.ntmps7
    go_wp2_with fail
    refine HF.out.mono ?_
    rintro e w1 ⟨rfl, hb1⟩
    have HB1 := Lib.hid (below_on HB0.out HB0.out.size hb1)
    have HB2 := Lib.hid (HB1.out.alloc HB1.out.size (.cells #[.int .i64 l, .int .i64 a, .int .i64 st] 33))
    have HG2 := Lib.hid (Blk.new w1 33 [.int .i64 l, .int .i64 a, .int .i64 st])
    clear hb1 HF
    go_wp2_with fail
    refine (HTh.out _ HB2.out).mono ?_
    rintro e w3 ⟨rfl, hb3⟩
    have HB3 := Lib.hid (below_on HB2.out HB2.out.size hb3)
    have HG3 := Lib.hid (HG2.out.keeps hb3)
    clear hb3 HTh HG2 HB2
    cases th with
    | false =>
      obtain rfl : s = ([], 141) := by rw [← HS.out, HTE.out]; rfl
      clear HS
      go_wp2
      exact bodyPost_ret (v := .tuple #[.slice none 0 0, .int .i64 141]) (by simp [results, Try.results7, go_sem]) rfl ⟨_, rfl, ownW_nil _ _, HB3.out⟩
    | true =>
      obtain ⟨hrL, m, hm, rfl⟩ := thereS_one HTE.out
      obtain ⟨⟨b, p, x, y⟩, ht2⟩ : ∃ t, L[m]? = some t := ⟨_, List.getElem?_eq_getElem hm⟩
      have hok : okLn (b, p, x, y) = true := List.all_eq_true.1 (rightL_true hrL).2.2 _ (List.mem_of_getElem? ht2)
      have hln := okLn_nums hok
      have hat2 := atL_nat ht2
      have HT2 := Lib.hid ht2
      have HL3 := Lib.hid (HLL.out.keeps HB3.out)
      have HS0 := Lib.hid (Nat.le_refl w.heap.size)
      have HU := Lib.hid (fun W => used_any b p x y (by simp [okM]; omega) (by simp [okM]; omega) W)
      have HCp := Lib.hid (fun W => cap_any b p x y (by simp [okM]; omega) (by omega) (by omega) W)
      obtain ⟨q, hq⟩ : ∃ q, capS b p = q := ⟨_, rfl⟩
      obtain ⟨pd, hpd⟩ : ∃ q, pendS (m : Int) D = q := ⟨_, rfl⟩
      have HPd := Lib.hid (fun U (hu : Below w3.heap.size w3 U) => dpend_any U ao cap D (HD.out.keeps (below_on HB3.out HB3.out.size hu)) HRR.out m pd hpd)
      have hpi := pend_at HRR.out m D.length
      rw [List.take_length, hpd] at hpi
      have hnn := HNums.out
      replace hnn : (0 ≤ (m : Int) ∧ (m : Int) ≤ 15) ∧ (1 ≤ a ∧ a ≤ 1000000000000) ∧ (0 ≤ st ∧ st ≤ 3) := hnn
      have HR : Hid (0 ≤ x + y ∧ x + y ≤ 1000000000000 ∧ 0 ≤ pd ∧ pd ≤ 64000000000000 ∧ 1 ≤ a ∧ a ≤ 1000000000000) := by
        show _ ∧ _
        have := hln; have hci := cap_in (b := b) (p := p) (by omega) (by omega) (by omega) (by omega)
        omega
      obtain ⟨c, hc⟩ : ∃ c, decide (q < x + y + pd + a) = c := ⟨_, rfl⟩
      have HC := Lib.hid hc
      have hS := HS.out
      rw [HTE.out, if_pos rfl, hat2] at hS
      replace hS : (if capS b p < x + y + pendS m D + a then ([], 143) else (D.set n ((m : Int), a, 1), 0)) = s := hS
      rw [hpd, hq] at hS
      have HS2 := Lib.hid hS
      rw [hq] at HCp
      obtain ⟨bb, lo, rfl, _⟩ := HL3.out.cells (by
        intro e
        have := rc_at lnc_len HT2.out 0 _ rfl
        rw [e] at this; simp at this)
      have HIX := Lib.hid (fun W => index_rec 24 23 Try.underlying24 4 size_ln bb lo L.length lcap m hm W)
      obtain ⟨g, hg⟩ : ∃ g, w1.heap.size = g := ⟨_, rfl⟩
      rw [hg] at HG3
      clear hrL hok hln hat2 ht2 hpi hnn hc hS HS HTE HNums hpd hq HLL
      go_wp2
      try simp only [hg]
      clear hg
      refine region_mono (by kernel_rfl) (by kernel_rfl) [some 28, some 29, some 30, some 31, some 32, some 33, some 34, some 35, some 36, some 37, some 38, some 39, some 40, some 41, some 42, some 43, some 44, some 45, some 46, some 47, some 48, some 27] (by kernel_rfl) w.heap.size w HB3.out HS0.out (fun i v WW => match i with | 0 => v = .slice (some ⟨bb, lo, none⟩) L.length lcap | 1 => v = .pointer (some ⟨g, 0, none⟩) | 2 => v = .int .i64 m | 3 => v = .pointer (some ⟨bb, lo + m * 4, none⟩) | 4 => v = .agg #[.int .i64 b, .int .i64 p, .int .i64 x, .int .i64 y] | 5 => v = .int .i64 (x + y) | 6 => v = .slice ao D.length cap | 7 => v = .pointer (some ⟨g, 0, none⟩) | 8 => v = .int .i64 m | 9 => v = .int .i64 pd | 10 => v = .int .i64 (x + y + pd) | 11 => v = .pointer (some ⟨g, 1, none⟩) | 12 => v = .int .i64 a | 13 => v = .int .i64 (x + y + pd + a) | 14 => v = .slice (some ⟨bb, lo, none⟩) L.length lcap | 15 => v = .pointer (some ⟨g, 0, none⟩) | 16 => v = .int .i64 m | 17 => v = .pointer (some ⟨bb, lo + m * 4, none⟩) | 18 => v = .agg #[.int .i64 b, .int .i64 p, .int .i64 x, .int .i64 y] | 19 => v = .int .i64 q | 20 => v = .bool c | 21 => v = .bool c | _ => True) ?_ ?_ ?_
      · intro i v WW WX h hbx
        rcases i with _ | _ | _ | _ | _ | _ | _ | _ | _ | _ | _ | _ | _ | _ | _ | _ | _ | _ | _ | _ | _ | _ | i
        · exact h
        · exact h
        · exact h
        · exact h
        · exact h
        · exact h
        · exact h
        · exact h
        · exact h
        · exact h
        · exact h
        · exact h
        · exact h
        · exact h
        · exact h
        · exact h
        · exact h
        · exact h
        · exact h
        · exact h
        · exact h
        · exact h
        · trivial
      · intro iI oO V AC WW ho hf hbw K hK
        have hlt : iI < 22 := (Array.getElem?_eq_some_iff.1 ho).1
        rcases iI with _ | _ | _ | _ | _ | _ | _ | _ | _ | _ | _ | _ | _ | _ | _ | _ | _ | _ | _ | _ | _ | _ | iI
        · obtain rfl := Option.some.inj (show some _ = some oO from ho)
          rw [if_pos (by rfl)]
          have q1 : AC.tmps.getD 1 undef = .slice (some ⟨bb, lo, none⟩) L.length lcap := hf.rest 1 (by kernel_rfl)
          go_simp
          refine hK _ _ (Below.refl _ _) ?_
          exact rfl
        · obtain rfl := Option.some.inj (show some _ = some oO from ho)
          rw [if_pos (by rfl)]
          have q8 : AC.tmps.getD 8 undef = .pointer (some ⟨g, 0, none⟩) := hf.rest 8 (by kernel_rfl)
          go_simp
          refine hK _ _ (Below.refl _ _) ?_
          exact rfl
        · obtain rfl := Option.some.inj (show some _ = some oO from ho)
          rw [if_pos (by rfl)]
          have q29 : AC.tmps.getD 29 undef = .pointer (some ⟨g, 0, none⟩) := ((hf.dep ⟨1, .data⟩ (by simp) rfl).2 29 rfl).trans (hf.dep ⟨1, .data⟩ (by simp) rfl).1
          have hG := HG3.out.keeps hbw
          have g0 := hG.cell 0 _ rfl
          go_simp
          refine hK _ _ (Below.refl _ _) ?_
          exact rfl
        · obtain rfl := Option.some.inj (show some _ = some oO from ho)
          rw [if_pos (by rfl)]
          have q28 : AC.tmps.getD 28 undef = .slice (some ⟨bb, lo, none⟩) L.length lcap := ((hf.dep ⟨0, .data⟩ (by simp) rfl).2 28 rfl).trans (hf.dep ⟨0, .data⟩ (by simp) rfl).1
          have q30 : AC.tmps.getD 30 undef = .int .i64 m := ((hf.dep ⟨2, .data⟩ (by simp) rfl).2 30 rfl).trans (hf.dep ⟨2, .data⟩ (by simp) rfl).1
          have hix := HIX.out WW
          go_simp
          refine hK _ _ (Below.refl _ _) ?_
          exact rfl
        · obtain rfl := Option.some.inj (show some _ = some oO from ho)
          rw [if_pos (by rfl)]
          have q31 : AC.tmps.getD 31 undef = .pointer (some ⟨bb, lo + m * 4, none⟩) := ((hf.dep ⟨3, .data⟩ (by simp) rfl).2 31 rfl).trans (hf.dep ⟨3, .data⟩ (by simp) rfl).1
          have hL := HL3.out.keeps hbw
          obtain ⟨k0, k1, k2, k3⟩ := ln_cells (hL.cells3 rfl) HT2.out
          go_simp
          refine hK _ _ (Below.refl _ _) ?_
          exact rfl
        · obtain rfl := Option.some.inj (show some _ = some oO from ho)
          rw [if_pos (by rfl)]
          have q32 : AC.tmps.getD 32 undef = .agg #[.int .i64 b, .int .i64 p, .int .i64 x, .int .i64 y] := ((hf.dep ⟨4, .data⟩ (by simp) rfl).2 32 rfl).trans (hf.dep ⟨4, .data⟩ (by simp) rfl).1
          go_simp
          refine (HU.out WW).mono ?_
          rintro e w9 ⟨rfl, hb9⟩
          exact hK _ _ hb9 rfl
        · obtain rfl := Option.some.inj (show some _ = some oO from ho)
          rw [if_pos (by rfl)]
          have q0 : AC.tmps.getD 0 undef = .slice ao D.length cap := hf.rest 0 (by kernel_rfl)
          go_simp
          refine hK _ _ (Below.refl _ _) ?_
          exact rfl
        · obtain rfl := Option.some.inj (show some _ = some oO from ho)
          rw [if_pos (by rfl)]
          have q8 : AC.tmps.getD 8 undef = .pointer (some ⟨g, 0, none⟩) := hf.rest 8 (by kernel_rfl)
          go_simp
          refine hK _ _ (Below.refl _ _) ?_
          exact rfl
        · obtain rfl := Option.some.inj (show some _ = some oO from ho)
          rw [if_pos (by rfl)]
          have q35 : AC.tmps.getD 35 undef = .pointer (some ⟨g, 0, none⟩) := ((hf.dep ⟨7, .data⟩ (by simp) rfl).2 35 rfl).trans (hf.dep ⟨7, .data⟩ (by simp) rfl).1
          have hG := HG3.out.keeps hbw
          have g0 := hG.cell 0 _ rfl
          go_simp
          refine hK _ _ (Below.refl _ _) ?_
          exact rfl
        · obtain rfl := Option.some.inj (show some _ = some oO from ho)
          rw [if_pos (by rfl)]
          have q34 : AC.tmps.getD 34 undef = .slice ao D.length cap := ((hf.dep ⟨6, .data⟩ (by simp) rfl).2 34 rfl).trans (hf.dep ⟨6, .data⟩ (by simp) rfl).1
          have q36 : AC.tmps.getD 36 undef = .int .i64 m := ((hf.dep ⟨8, .data⟩ (by simp) rfl).2 36 rfl).trans (hf.dep ⟨8, .data⟩ (by simp) rfl).1
          go_simp
          refine (HPd.out WW hbw).mono ?_
          rintro e w9 ⟨rfl, hb9⟩
          exact hK _ _ hb9 rfl
        · obtain rfl := Option.some.inj (show some _ = some oO from ho)
          rw [if_pos (by rfl)]
          have q33 : AC.tmps.getD 33 undef = .int .i64 (x + y) := ((hf.dep ⟨5, .data⟩ (by simp) rfl).2 33 rfl).trans (hf.dep ⟨5, .data⟩ (by simp) rfl).1
          have q37 : AC.tmps.getD 37 undef = .int .i64 pd := ((hf.dep ⟨9, .data⟩ (by simp) rfl).2 37 rfl).trans (hf.dep ⟨9, .data⟩ (by simp) rfl).1
          obtain ⟨r0, r1, r2, r3, r4, r5⟩ := HR.out
          go_simp
          refine hK _ _ (Below.refl _ _) ?_
          exact (by (show Value.int _ _ = Value.int _ _; rw [IntKind.wrap_i64]; congr 1; omega))
        · obtain rfl := Option.some.inj (show some _ = some oO from ho)
          rw [if_pos (by rfl)]
          have q8 : AC.tmps.getD 8 undef = .pointer (some ⟨g, 0, none⟩) := hf.rest 8 (by kernel_rfl)
          go_simp
          refine hK _ _ (Below.refl _ _) ?_
          exact rfl
        · obtain rfl := Option.some.inj (show some _ = some oO from ho)
          rw [if_pos (by rfl)]
          have q39 : AC.tmps.getD 39 undef = .pointer (some ⟨g, 1, none⟩) := ((hf.dep ⟨11, .data⟩ (by simp) rfl).2 39 rfl).trans (hf.dep ⟨11, .data⟩ (by simp) rfl).1
          have hG := HG3.out.keeps hbw
          have g1 := hG.cell 1 _ rfl
          go_simp
          refine hK _ _ (Below.refl _ _) ?_
          exact rfl
        · obtain rfl := Option.some.inj (show some _ = some oO from ho)
          rw [if_pos (by rfl)]
          have q38 : AC.tmps.getD 38 undef = .int .i64 (x + y + pd) := ((hf.dep ⟨10, .data⟩ (by simp) rfl).2 38 rfl).trans (hf.dep ⟨10, .data⟩ (by simp) rfl).1
          have q40 : AC.tmps.getD 40 undef = .int .i64 a := ((hf.dep ⟨12, .data⟩ (by simp) rfl).2 40 rfl).trans (hf.dep ⟨12, .data⟩ (by simp) rfl).1
          obtain ⟨r0, r1, r2, r3, r4, r5⟩ := HR.out
          go_simp
          refine hK _ _ (Below.refl _ _) ?_
          exact (by (show Value.int _ _ = Value.int _ _; rw [IntKind.wrap_i64]; congr 1; omega))
        · obtain rfl := Option.some.inj (show some _ = some oO from ho)
          rw [if_pos (by rfl)]
          have q1 : AC.tmps.getD 1 undef = .slice (some ⟨bb, lo, none⟩) L.length lcap := hf.rest 1 (by kernel_rfl)
          go_simp
          refine hK _ _ (Below.refl _ _) ?_
          exact rfl
        · obtain rfl := Option.some.inj (show some _ = some oO from ho)
          rw [if_pos (by rfl)]
          have q8 : AC.tmps.getD 8 undef = .pointer (some ⟨g, 0, none⟩) := hf.rest 8 (by kernel_rfl)
          go_simp
          refine hK _ _ (Below.refl _ _) ?_
          exact rfl
        · obtain rfl := Option.some.inj (show some _ = some oO from ho)
          rw [if_pos (by rfl)]
          have q43 : AC.tmps.getD 43 undef = .pointer (some ⟨g, 0, none⟩) := ((hf.dep ⟨15, .data⟩ (by simp) rfl).2 43 rfl).trans (hf.dep ⟨15, .data⟩ (by simp) rfl).1
          have hG := HG3.out.keeps hbw
          have g0 := hG.cell 0 _ rfl
          go_simp
          refine hK _ _ (Below.refl _ _) ?_
          exact rfl
        · obtain rfl := Option.some.inj (show some _ = some oO from ho)
          rw [if_pos (by rfl)]
          have q42 : AC.tmps.getD 42 undef = .slice (some ⟨bb, lo, none⟩) L.length lcap := ((hf.dep ⟨14, .data⟩ (by simp) rfl).2 42 rfl).trans (hf.dep ⟨14, .data⟩ (by simp) rfl).1
          have q44 : AC.tmps.getD 44 undef = .int .i64 m := ((hf.dep ⟨16, .data⟩ (by simp) rfl).2 44 rfl).trans (hf.dep ⟨16, .data⟩ (by simp) rfl).1
          have hix := HIX.out WW
          go_simp
          refine hK _ _ (Below.refl _ _) ?_
          exact rfl
        · obtain rfl := Option.some.inj (show some _ = some oO from ho)
          rw [if_pos (by rfl)]
          have q45 : AC.tmps.getD 45 undef = .pointer (some ⟨bb, lo + m * 4, none⟩) := ((hf.dep ⟨17, .data⟩ (by simp) rfl).2 45 rfl).trans (hf.dep ⟨17, .data⟩ (by simp) rfl).1
          have hL := HL3.out.keeps hbw
          obtain ⟨k0, k1, k2, k3⟩ := ln_cells (hL.cells3 rfl) HT2.out
          go_simp
          refine hK _ _ (Below.refl _ _) ?_
          exact rfl
        · obtain rfl := Option.some.inj (show some _ = some oO from ho)
          rw [if_pos (by rfl)]
          have q46 : AC.tmps.getD 46 undef = .agg #[.int .i64 b, .int .i64 p, .int .i64 x, .int .i64 y] := ((hf.dep ⟨18, .data⟩ (by simp) rfl).2 46 rfl).trans (hf.dep ⟨18, .data⟩ (by simp) rfl).1
          go_simp
          refine (HCp.out WW).mono ?_
          rintro e w9 ⟨rfl, hb9⟩
          exact hK _ _ hb9 rfl
        · obtain rfl := Option.some.inj (show some _ = some oO from ho)
          rw [if_pos (by rfl)]
          have q41 : AC.tmps.getD 41 undef = .int .i64 (x + y + pd + a) := ((hf.dep ⟨13, .data⟩ (by simp) rfl).2 41 rfl).trans (hf.dep ⟨13, .data⟩ (by simp) rfl).1
          have q47 : AC.tmps.getD 47 undef = .int .i64 q := ((hf.dep ⟨19, .data⟩ (by simp) rfl).2 47 rfl).trans (hf.dep ⟨19, .data⟩ (by simp) rfl).1
          go_simp
          refine hK _ _ (Below.refl _ _) ?_
          exact (by (show Value.bool _ = Value.bool _; rw [HC.out]))
        · obtain rfl := Option.some.inj (show some _ = some oO from ho)
          rw [if_pos (by rfl)]
          have q48 : AC.tmps.getD 48 undef = .bool c := ((hf.dep ⟨20, .data⟩ (by simp) rfl).2 48 rfl).trans (hf.dep ⟨20, .data⟩ (by simp) rfl).1
          go_simp
          refine hK _ _ (Below.refl _ _) ?_
          exact rfl
        · omega
      · intro V WW hall hbw hBW
        have vv0 : V 0 = .slice (some ⟨bb, lo, none⟩) L.length lcap := hall 0 (by decide)
        have vv1 : V 1 = .pointer (some ⟨g, 0, none⟩) := hall 1 (by decide)
        have vv2 : V 2 = .int .i64 m := hall 2 (by decide)
        have vv3 : V 3 = .pointer (some ⟨bb, lo + m * 4, none⟩) := hall 3 (by decide)
        have vv4 : V 4 = .agg #[.int .i64 b, .int .i64 p, .int .i64 x, .int .i64 y] := hall 4 (by decide)
        have vv5 : V 5 = .int .i64 (x + y) := hall 5 (by decide)
        have vv6 : V 6 = .slice ao D.length cap := hall 6 (by decide)
        have vv7 : V 7 = .pointer (some ⟨g, 0, none⟩) := hall 7 (by decide)
        have vv8 : V 8 = .int .i64 m := hall 8 (by decide)
        have vv9 : V 9 = .int .i64 pd := hall 9 (by decide)
        have vv10 : V 10 = .int .i64 (x + y + pd) := hall 10 (by decide)
        have vv11 : V 11 = .pointer (some ⟨g, 1, none⟩) := hall 11 (by decide)
        have vv12 : V 12 = .int .i64 a := hall 12 (by decide)
        have vv13 : V 13 = .int .i64 (x + y + pd + a) := hall 13 (by decide)
        have vv14 : V 14 = .slice (some ⟨bb, lo, none⟩) L.length lcap := hall 14 (by decide)
        have vv15 : V 15 = .pointer (some ⟨g, 0, none⟩) := hall 15 (by decide)
        have vv16 : V 16 = .int .i64 m := hall 16 (by decide)
        have vv17 : V 17 = .pointer (some ⟨bb, lo + m * 4, none⟩) := hall 17 (by decide)
        have vv18 : V 18 = .agg #[.int .i64 b, .int .i64 p, .int .i64 x, .int .i64 y] := hall 18 (by decide)
        have vv19 : V 19 = .int .i64 q := hall 19 (by decide)
        have vv20 : V 20 = .bool c := hall 20 (by decide)
        have vv21 : V 21 = .bool c := hall 21 (by decide)
        clear hall
        simp only [pairsOf, laid, Nat.zero_add, Nat.reduceAdd, vv0, vv1, vv2, vv3, vv4, vv5, vv6, vv7, vv8, vv9, vv10, vv11, vv12, vv13, vv14, vv15, vv16, vv17, vv18, vv19, vv20, vv21, List.setIfInBounds_toArray, List.set_cons_zero, List.set_cons_succ]
        clear vv0 vv1 vv2 vv3 vv4 vv5 vv6 vv7 vv8 vv9 vv10 vv11 vv12 vv13 vv14 vv15 vv16 vv17 vv18 vv19 vv20 vv21
        have HW := Lib.hid hBW
        clear hbw hBW HU HCp HPd HIX HG3 HL3 HB3
        cases c with
        | true =>
          obtain rfl : s = ([], 143) := by rw [← HS2.out, if_pos (of_decide_eq_true HC.out)]
          clear HS2
          go_wp2
          exact bodyPost_ret (v := .tuple #[.slice none 0 0, .int .i64 143]) (by simp [results, Try.results7, go_sem]) rfl ⟨_, rfl, ownW_nil _ _, HW.out⟩
        | false =>
          obtain rfl : s = (D.set n ((m : Int), a, 1), 0) := by rw [← HS2.out, if_neg (of_decide_eq_false HC.out)]
          clear HS2
          go_wp2_with fail
          refine (HTn.out _ HW.out).mono ?_
          rintro e w5 ⟨v5, rfl, ho5, hb5⟩
          have HB5 := Lib.hid (below_on HW.out HW.out.size hb5)
          have HO5 := Lib.hid (own_dn ho5 HW.out.size)
          clear ho5 hb5 HTn
          go_wp2
          exact bodyPost_ret (v := .tuple #[v5, .int .i64 0]) (by simp [results, Try.results7, go_sem]) rfl ⟨_, rfl, HO5.out, HB5.out⟩
  · obtain ⟨hz, _⟩ := find_no (by rw [hq]; exact he)
    rw [hq] at hz
    rw [hq, if_neg he] at hs
    obtain ⟨q1, q2⟩ := q
    replace hz : q1 = (0, 0, 0) := hz
    subst hz
    replace he : ¬ q2 = 0 := he
    subst hs
    clear hq h HD HLL hL
    go_enter Try.func7, Try.ntmps7
    go_wp2_with fail
    refine HF.out.mono ?_
    rintro e w1 ⟨rfl, hb1⟩
    have HB1 := Lib.hid (below_on HB0.out HB0.out.size hb1)
    have HB2 := Lib.hid (HB1.out.alloc HB1.out.size (.cells #[.int .i64 0, .int .i64 0, .int .i64 0] 33))
    clear hb1 HF
    go_wp2
    exact bodyPost_ret (v := .tuple #[.slice none 0 0, .int .i64 q2]) (by simp [results, Try.results7, go_sem]) rfl ⟨_, rfl, ownW_nil _ _, HB2.out⟩
end Go.Proofs.Ytikfclioplploaa
