/-
  Draws: the walk of draw.Fund.
-/
import Derived.Test.YtikfclioplploaaDwC
set_option linter.unusedVariables false
set_option linter.unusedSimpArgs false
namespace Go.Proofs.Ytikfclioplploaa
open Go.RowKit Dg

theorem res_fund {fn : Func} {p q r s : Tmp} (h : fn.results = #[.tmp p, .tmp q, .cell r 23, .tmp s]) (tmps : Array Value) (w : World) (g : Nat) (t : Ln) (v1 v2 v : Value)
    (hp : tmps.getD p undef = v1) (hq : tmps.getD q undef = v2) (hr : tmps.getD r undef = .pointer (some ⟨g, 0, none⟩)) (hs : tmps.getD s undef = v) (hg : Blk w g 23 (lnc t)) : (results fn tmps).run Try.prog w = .ok (.tuple #[v1, v2, .agg (lnc t).toArray, v]) w := by
  have hp' : tmps[p]?.getD undef = v1 := by simpa using hp
  have hq' : tmps[q]?.getD undef = v2 := by simpa using hq
  have hr' : tmps[r]?.getD undef = .pointer (some ⟨g, 0, none⟩) := by simpa using hr
  have hs' : tmps[s]?.getD undef = v := by simpa using hs
  have hru := run_loadVar_row (P := Try.prog) w g 23 23 (lnc t).toArray _ _ hg.at_ Try.underlying23 rfl (by kernel_rfl)
  simp [results, h, hp', hq', hr', hs', asAddr, hru]
theorem heap_setCells_ne : ∀ (vs : List Value) (o : Nat) (w : World) (b g : Nat), g ≠ b → (w.setCells b o vs).heap[g]? = w.heap[g]?
  | [], _, _, _, _, _ => rfl
  | v :: r, o, w, b, g, h => by
    rw [World.setCells, heap_setCells_ne r (o + 1) _ b g h, heap_setCell_other w ⟨b, o, none⟩ g v h]
theorem own_setCells {w : World} {base e S n b : Nat} {v : Value} {C : List Value} (h : w.ownsRow base e S v n C) (hb : b < base) (o : Nat) (vs : List Value) : (w.setCells b o vs).ownsRow base e S v n C := by
  refine ⟨h.1, ?_⟩
  rcases h.2 with h0 | ⟨g, cap, cur, e1, h1, h2, h3⟩
  · exact .inl h0
  · exact .inr ⟨g, cap, cur, e1, h1, by rw [heap_setCells_ne _ _ _ _ _ (by omega)]; exact h2, h3⟩
theorem sl_k1b (w : World) (o : Obj) (x : Int) : Sl ((w.alloc o).alloc (.cells #[.int .i64 x] 3)) (some ⟨w.heap.size + 1, 0, none⟩) 1 1 (ic [x]) :=
  ⟨rfl, Nat.le_refl _, by simp, fun _ => ⟨_, _, rfl, fun j u hu => by
    rw [Nat.zero_add]
    exact (Blk.new2 w o 3 [.int .i64 x]).cell j u hu⟩⟩
/-- What Fund answers. -/
def fundS (D : List Dw) (L : List Ln) (no r : Int) : List Dw × List Ln × Ln × Int :=
  if (findS D no [1]).2 = 0 then
    (if (stripS (atW D no).2.1 r).2.2 = 0 then
      (if (payS L (atW D no).1 (stripS (atW D no).2.1 r).2.1 (stripS (atW D no).2.1 r).1).2 = 0 then
        (D.set no.toNat ((atW D no).1, (atW D no).2.1, 2), (payS L (atW D no).1 (stripS (atW D no).2.1 r).2.1 (stripS (atW D no).2.1 r).1).1, (0, 0, (stripS (atW D no).2.1 r).2.1, (stripS (atW D no).2.1 r).1), 0)
      else ([], [], (0, 0, 0, 0), (payS L (atW D no).1 (stripS (atW D no).2.1 r).2.1 (stripS (atW D no).2.1 r).1).2))
    else ([], [], (0, 0, 0, 0), 142))
  else ([], [], (0, 0, 0, 0), (findS D no [1]).2)
set_option maxRecDepth 8000 in
set_option maxHeartbeats 6400000 in
theorem dfund_any (w : World) (ao : Option Addr) (cap : Nat) (D : List Dw) (h : SlW w ao cap D) (lo : Option Addr) (lcap : Nat) (L : List Ln) (hL : SlL w lo lcap L) (no r : Int) (s : List Dw × List Ln × Ln × Int) (hs : fundS D L no r = s) :
    Calls Try.prog 15 #[.slice ao D.length cap, .slice lo L.length lcap, .int .i64 no, .int .i64 r] w fun e w' => ∃ v' u', e = .returned (.tuple #[v', u', .agg #[.int .i64 s.2.2.1.1, .int .i64 s.2.2.1.2.1, .int .i64 s.2.2.1.2.2.1, .int .i64 s.2.2.1.2.2.2], .int .i64 s.2.2.2]) ∧ OwW w' w.heap.size v' s.1 ∧ OwL w' w.heap.size u' s.2.1 ∧ Below w.heap.size w w' := by
  have HB0 := Lib.hid (below_new2 w (.cells #[.int .i64 0, .int .i64 0, .int .i64 0, .int .i64 0] 23) (.cells #[.int .i64 1] 3))
  have HG0 := Lib.hid ((Blk.new w 23 [.int .i64 0, .int .i64 0, .int .i64 0, .int .i64 0]).alloc (.cells #[.int .i64 1] 3))
  obtain ⟨q, hq⟩ : ∃ q, findS D no [1] = q := ⟨_, rfl⟩
  have HF := Lib.hid (dfind_any _ ao cap D (h.keeps HB0.out) no _ 1 [1] (sl_k1b w (.cells #[.int .i64 0, .int .i64 0, .int .i64 0, .int .i64 0] 23) 1) (by decide) q hq)
  have HLL := Lib.hid hL
  have HGB := Lib.hid (Nat.le_refl w.heap.size)
  unfold fundS at hs
  by_cases he : q.2 = 0
  · obtain ⟨hr, n, l, a, st, rfl, hn, ht, hat, hst, hf⟩ := find_ok (by rw [hq]; exact he)
    have HTn := Lib.hid (fun U (hu : Below w.heap.size w U) => dturned_any U ao cap D (h.keeps hu) (by have := (rightW_true hr).1; omega) n l a st ht 2)
    rw [hq, if_pos he, hat, Int.toNat_natCast] at hs
    obtain rfl : q = ((l, a, st), 0) := hq.symm.trans hf
    have hnums := okDw_nums (List.all_eq_true.1 (rightW_true hr).2 _ (List.mem_of_getElem? ht))
    have HSt := Lib.hid (fun W => strip_any a r (by have := hnums.2.1.1; simpa using (show 0 ≤ (l, a, st).2.1 by omega)) (by have := hnums.2.1.2; simpa using this) W)
    obtain ⟨z, hz⟩ : ∃ z, stripS a r = z := ⟨_, rfl⟩
    replace hs : (if (stripS a r).2.2 = 0 then (if (payS L l (stripS a r).2.1 (stripS a r).1).2 = 0 then (D.set n (l, a, 2), (payS L l (stripS a r).2.1 (stripS a r).1).1, (0, 0, (stripS a r).2.1, (stripS a r).1), 0) else ([], [], (0, 0, 0, 0), (payS L l (stripS a r).2.1 (stripS a r).1).2)) else ([], [], (0, 0, 0, 0), 142)) = s := hs
    rw [hz] at HSt hs
    obtain ⟨held, paid, er⟩ := z
    replace hs : (if er = 0 then (if (payS L l paid held).2 = 0 then (D.set n (l, a, 2), (payS L l paid held).1, (0, 0, paid, held), 0) else ([], [], (0, 0, 0, 0), (payS L l paid held).2)) else ([], [], (0, 0, 0, 0), 142)) = s := hs
    obtain ⟨y, hy⟩ : ∃ y, payS L l paid held = y := ⟨_, rfl⟩
    rw [hy] at hs
    have HPy := Lib.hid (fun U (hu : Below w.heap.size w U) => bpay_any U lo lcap L (hL.keeps hu) l paid held y hy)
    have HS := Lib.hid hs
    clear hq hf hat ht hr h he hs hst hnums hL hz hy
    go_enter Try.func15, Try.ntmps15
    go_wp2_with fail
    refine HF.out.mono ?_
    rintro e w1 ⟨rfl, hb1⟩
    obtain ⟨g, hg⟩ : ∃ g, w.heap.size = g := ⟨_, rfl⟩
    have HB1 := Lib.hid (below_on HB0.out HB0.out.size hb1)
    have HG1 := Lib.hid (HG0.out.keeps hb1)
    have HB2 := Lib.hid (HB1.out.alloc HB1.out.size (.cells #[.int .i64 l, .int .i64 a, .int .i64 st] 33))
    have HX2 := Lib.hid (Blk.new w1 33 [.int .i64 l, .int .i64 a, .int .i64 st])
    have HG2 := Lib.hid (HG1.out.alloc (.cells #[.int .i64 l, .int .i64 a, .int .i64 st] 33))
    clear hb1 HF HG0 HB0
    go_wp2_with fail
    refine (HSt.out _).mono ?_
    rintro e w3 ⟨rfl, hb3⟩
    have HB3 := Lib.hid (below_on HB2.out HB2.out.size hb3)
    have HG3 := Lib.hid (HG2.out.keeps hb3)
    have HX3 := Lib.hid (HX2.out.keeps hb3)
    rw [hg] at HG3
    have HGB2 := Lib.hid (Nat.le_of_eq hg)
    clear hb3 HSt HG2 HB2 HX2 HG1
    simp only [hg]
    clear hg HGB
    have HGB := HGB2
    by_cases hez : er = 0
    · subst hez
      have hS : (if y.2 = 0 then (D.set n (l, a, 2), y.1, (0, 0, paid, held), 0) else ([], [], (0, 0, 0, 0), y.2)) = s := HS.out
      have HS2 := Lib.hid hS
      have x0 := HX3.out.cell 0 _ rfl
      clear hS HS
      go_wp2_with fail
      refine (HPy.out _ HB3.out).mono ?_
      rintro e w4 ⟨v4, rfl, ho4, hb4⟩
      have HB4 := Lib.hid (below_on HB3.out HB3.out.size hb4)
      have HG4 := Lib.hid (HG3.out.keeps hb4)
      have HO4 := Lib.hid ho4
      have HGlt := Lib.hid (HG3.out.lt)
      clear x0 hb4 ho4 HPy HX3 HG3
      obtain ⟨y1, y2⟩ := y
      by_cases hy2 : y2 = 0
      · subst hy2
        obtain rfl : s = (D.set n (l, a, 2), y1, (0, 0, paid, held), 0) := HS2.out.symm
        clear HS2
        go_wp2_with fail
        refine (HTn.out _ HB4.out).mono ?_
        rintro e w5 ⟨v5, rfl, ho5, hb5⟩
        have HB5 := Lib.hid (below_on HB4.out HB4.out.size hb5)
        have HG5 := Lib.hid (HG4.out.keeps hb5)
        have HO5 := Lib.hid ho5
        have HO45 := Lib.hid (own_kp HO4.out hb5)
        have HGlt4 := Lib.hid (HG4.out.lt)
        clear hb5 ho5 HTn HO4
        have HTH := Lib.hid (HG5.out.thereMid 0 4 (by decide))
        go_wp2_with (first | (refine st_ln rfl _ _ rfl g 0 rfl (0, 0, paid, held) rfl HTH.out ?_) | fail)
        intro W hW
        have HGn : Hid (Blk W g 23 (lnc (0, 0, paid, held))) := by show Blk _ _ _ _; rw [hW.out]; exact HG5.out.setAll _ (by simp [lnc_len])
        have HBn : Hid (Below w.heap.size w W) := by show Below _ _ _; rw [hW.out]; exact below_setCells _ _ HB5.out HGB.out
        have HOa : Hid (OwW W w.heap.size v5 (D.set n (l, a, 2))) := by show World.ownsRow _ _ _ _ _ _ _; rw [hW.out]; exact own_dn (own_setCells HO5.out HGlt4.out _ _) HB4.out.size
        have HOb : Hid (OwL W w.heap.size v4 y1) := by show World.ownsRow _ _ _ _ _ _ _; rw [hW.out]; exact own_dn (own_setCells HO45.out HGlt.out _ _) HB3.out.size
        clear hW
        go_wp2
        exact bodyPost_ret (v := .tuple #[v5, v4, .agg (lnc (0, 0, paid, held)).toArray, .int .i64 0]) (res_fund Try.results15 _ _ _ (0, 0, paid, held) _ _ _ rfl rfl rfl rfl HGn.out) rfl ⟨_, _, rfl, HOa.out, HOb.out, HBn.out⟩
      · have hS2 := HS2.out
        replace hS2 : (if y2 = 0 then (D.set n (l, a, 2), y1, (0, 0, paid, held), 0) else ([], [], (0, 0, 0, 0), y2)) = s := hS2
        rw [if_neg hy2] at hS2
        subst hS2
        clear HS2
        have HTH := Lib.hid (HG4.out.thereMid 0 4 (by decide))
        go_wp2_with (first | (refine st_ln rfl _ _ rfl g 0 rfl ((0, 0, 0, 0) : Ln) rfl HTH.out ?_) | fail)
        intro W hW
        have HGn : Hid (Blk W g 23 (lnc ((0, 0, 0, 0) : Ln))) := by show Blk _ _ _ _; rw [hW.out]; exact HG4.out.setAll _ (by simp [lnc_len])
        have HBn : Hid (Below w.heap.size w W) := by show Below _ _ _; rw [hW.out]; exact below_setCells _ _ HB4.out HGB.out
        clear hW
        go_wp2
        exact bodyPost_ret (v := .tuple #[.slice none 0 0, .slice none 0 0, .agg (lnc ((0, 0, 0, 0) : Ln)).toArray, .int .i64 y2]) (res_fund Try.results15 _ _ _ ((0, 0, 0, 0) : Ln) _ _ _ rfl rfl rfl rfl HGn.out) rfl ⟨_, _, rfl, ownW_nil _ _, ownL_nil _ _, HBn.out⟩
    · have hS := HS.out
      replace hS : (if er = 0 then (if y.2 = 0 then (D.set n (l, a, 2), y.1, (0, 0, paid, held), 0) else ([], [], (0, 0, 0, 0), y.2)) else ([], [], (0, 0, 0, 0), 142)) = s := hS
      rw [if_neg hez] at hS
      subst hS
      clear HS
      have HTH := Lib.hid (HG3.out.thereMid 0 4 (by decide))
      go_wp2_with (first | (refine st_ln rfl _ _ rfl g 0 rfl ((0, 0, 0, 0) : Ln) rfl HTH.out ?_) | fail)
      intro W hW
      have HGn : Hid (Blk W g 23 (lnc ((0, 0, 0, 0) : Ln))) := by show Blk _ _ _ _; rw [hW.out]; exact HG3.out.setAll _ (by simp [lnc_len])
      have HBn : Hid (Below w.heap.size w W) := by show Below _ _ _; rw [hW.out]; exact below_setCells _ _ HB3.out HGB.out
      clear hW
      go_wp2
      exact bodyPost_ret (v := .tuple #[.slice none 0 0, .slice none 0 0, .agg (lnc ((0, 0, 0, 0) : Ln)).toArray, .int .i64 142]) (res_fund Try.results15 _ _ _ ((0, 0, 0, 0) : Ln) _ _ _ rfl rfl rfl rfl HGn.out) rfl ⟨_, _, rfl, ownW_nil _ _, ownL_nil _ _, HBn.out⟩
  · obtain ⟨hz, _⟩ := find_no (by rw [hq]; exact he)
    rw [hq] at hz
    rw [hq, if_neg he] at hs
    obtain ⟨q1, q2⟩ := q
    replace hz : q1 = (0, 0, 0) := hz
    subst hz
    replace he : ¬ q2 = 0 := he
    subst hs
    clear hq h HLL hL
    go_enter Try.func15, Try.ntmps15
    go_wp2_with fail
    refine HF.out.mono ?_
    rintro e w1 ⟨rfl, hb1⟩
    obtain ⟨g, hg⟩ : ∃ g, w.heap.size = g := ⟨_, rfl⟩
    have HB1 := Lib.hid (below_on HB0.out HB0.out.size hb1)
    have HG1 := Lib.hid (HG0.out.keeps hb1)
    have HB2 := Lib.hid (HB1.out.alloc HB1.out.size (.cells #[.int .i64 0, .int .i64 0, .int .i64 0] 33))
    have HG2 := Lib.hid (HG1.out.alloc (.cells #[.int .i64 0, .int .i64 0, .int .i64 0] 33))
    rw [hg] at HG2
    have HGB2 := Lib.hid (Nat.le_of_eq hg)
    clear hb1 HF HG0 HB0 HG1
    simp only [hg]
    clear hg HGB
    have HGB := HGB2
    have HTH := Lib.hid (HG2.out.thereMid 0 4 (by decide))
    go_wp2_with (first | (refine st_ln rfl _ _ rfl g 0 rfl ((0, 0, 0, 0) : Ln) rfl HTH.out ?_) | fail)
    intro W hW
    have HGn : Hid (Blk W g 23 (lnc ((0, 0, 0, 0) : Ln))) := by show Blk _ _ _ _; rw [hW.out]; exact HG2.out.setAll _ (by simp [lnc_len])
    have HBn : Hid (Below w.heap.size w W) := by show Below _ _ _; rw [hW.out]; exact below_setCells _ _ HB2.out HGB.out
    clear hW
    go_wp2
    exact bodyPost_ret (v := .tuple #[.slice none 0 0, .slice none 0 0, .agg (lnc ((0, 0, 0, 0) : Ln)).toArray, .int .i64 q2]) (res_fund Try.results15 _ _ _ ((0, 0, 0, 0) : Ln) _ _ _ rfl rfl rfl rfl HGn.out) rfl ⟨_, _, rfl, ownW_nil _ _, ownL_nil _ _, HBn.out⟩
end Go.Proofs.Ytikfclioplploaa
