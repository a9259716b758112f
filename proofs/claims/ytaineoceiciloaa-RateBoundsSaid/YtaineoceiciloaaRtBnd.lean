/-
  The law RateBounds.
-/
import Derived.Test.YtaineoceiciloaaRtAd
import Derived.Test.YtaineoceiciloaaRtA
set_option linter.unusedVariables false
set_option linter.unusedSimpArgs false
namespace Go.Proofs.Ytaineoceiciloaa
open Go.RowKit

theorem atR_app {L M : List Rt} {day : Int} : ∀ k, k ≤ L.length → atR (L ++ M) day k = atR L day k
  | 0, _ => rfl
  | k + 1, h => by
    have e : (L ++ M).getD k (0, 0) = L.getD k (0, 0) := by
      rw [List.getD_eq_getElem?_getD, List.getD_eq_getElem?_getD, List.getElem?_append_left (by omega)]
    rw [atR, atR, e, atR_app k (by omega)]
theorem atS_before {L : List Rt} {d x day : Int} (h : day < d) : atS (L ++ [(d, x)]) day = atS L day := by
  unfold atS
  have e : (L ++ [(d, x)]).getD L.length (0, 0) = (d, x) := by
    rw [List.getD_eq_getElem?_getD, List.getElem?_append_right (Nat.le_refl _), Nat.sub_self]; rfl
  rw [show (L ++ [(d, x)]).length = L.length + 1 from by simp, atR, e, if_neg (by show ¬ d ≤ day; omega), atR_app _ (Nat.le_refl _)]
theorem rate_within {m f c : Int} {L : List Rt} {day : Int} (h : (rateS m f c L day).2 = 0) : f ≤ (rateS m f c L day).1 ∧ (rateS m f c L day).1 ≤ c := by
  unfold rateS at h ⊢
  split at h
  · rename_i hh
    rw [if_pos hh]
    have := okTm_true hh.1
    show f ≤ max f (min c _) ∧ max f (min c _) ≤ c
    omega
  · simp at h
theorem rate_before {m f c : Int} {L : List Rt} {d x day : Int} (h1 : tabS L = true) (h2 : tabS (L ++ [(d, x)]) = true) (h : day < d) : rateS m f c (L ++ [(d, x)]) day = rateS m f c L day := by
  unfold rateS
  rw [h1, h2, atS_before h]
set_option maxRecDepth 8000 in
set_option maxHeartbeats 3200000 in
theorem rateBounds_core (m f c : Int) (ao : Option Addr) (cap : Nat) (L : List Rt) (n0 n1 : Int) (w : World) (h : SlR w ao cap L) (hl : L.length ≤ 100) :
    Calls Try.prog 7 #[.agg #[.int .i64 m, .int .i64 f, .int .i64 c], .slice ao L.length cap, .agg #[.int .i64 n0, .int .i64 n1]] w fun e w' => e = .returned (.bool true) ∧ Below w.heap.size w w' := by
  obtain ⟨s, hs⟩ : ∃ s, raddS L (n0, 77) = s := ⟨_, rfl⟩
  have HAl := Lib.hid (fun W => ralive_any W)
  have HB0 := Lib.hid (below_new2 w (.cells #[.int .i64 m, .int .i64 f, .int .i64 c] 23) (.cells #[.int .i64 n0, .int .i64 n1] 52))
  have HT0 := Lib.hid ((Blk.new w 23 [.int .i64 m, .int .i64 f, .int .i64 c]).alloc (.cells #[.int .i64 n0, .int .i64 n1] 52))
  have HD0 := Lib.hid (Blk.new2 w (.cells #[.int .i64 m, .int .i64 f, .int .i64 c] 23) 52 [.int .i64 n0, .int .i64 n1])
  have H0 := Lib.hid (fun U (hu : Below w.heap.size w U) => radd_any U ao cap L n0 77 (h.keeps hu) s hs (by omega))
  have HL := Lib.hid h
  have HS := Lib.hid hs
  have hl100 : ¬ (100 : Int) < L.length := by omega
  clear h hs
  go_enter Try.func7, Try.ntmps7
  go_wp2_with fail
  refine (HAl.out _).mono ?_
  rintro e w1 ⟨rfl, hb1⟩
  have HB1 := Lib.hid (below_on HB0.out HB0.out.size hb1)
  have HT1 := Lib.hid (HT0.out.keeps hb1)
  have hD := HD0.out.keeps hb1
  have d0 := hD.cell 0 _ rfl; have d1 := hD.cell 1 _ rfl
  have hlt := hD.lt
  have HBx := Lib.hid (HB1.out.alloc HB1.out.size (.cells #[.int .i64 n0, .int .i64 77] 46))
  have HTx := Lib.hid (HT1.out.alloc (.cells #[.int .i64 n0, .int .i64 77] 46))
  have HXx := Lib.hid (Blk.new w1 46 [.int .i64 n0, .int .i64 77])
  have hlt2 : w.heap.size + 1 < w1.heap.size := hlt
  have hlt3 : w.heap.size < w1.heap.size := by omega
  clear hb1 hD hlt
  go_wp2_with fail
  refine (H0.out _ HBx.out).mono ?_
  rintro e w2 ⟨⟨a2, c2, rfl, hs2⟩, hb2⟩
  have HB2 := Lib.hid (below_on HBx.out HBx.out.size hb2)
  have HT2 := Lib.hid (HTx.out.keeps hb2)
  have HX2 := Lib.hid (HXx.out.keeps hb2)
  have hS := HS.out
  unfold raddS at hS
  by_cases hok : tabS L = true ∧ tabS (L ++ [(n0, 77)]) = true
  · rw [if_pos hok] at hS
    subst hS
    obtain ⟨t1, t2⟩ := hok
    obtain ⟨p, hp⟩ : ∃ p, rateS m f c L n1 = p := ⟨_, rfl⟩
    obtain ⟨q, hq⟩ : ∃ q, rateS m f c (L ++ [(n0, 77)]) n1 = q := ⟨_, rfl⟩
    obtain ⟨M, hM⟩ : ∃ M, L ++ [(n0, 77)] = M := ⟨_, rfl⟩
    have HW := Lib.hid (fun h => rate_within (m := m) (f := f) (c := c) (L := L ++ [(n0, 77)]) (day := n1) h)
    have HBf := Lib.hid (fun h => rate_before (m := m) (f := f) (c := c) (day := n1) t1 t2 h)
    have hs2' : SlR w2 a2 c2 (L ++ [(n0, 77)]) := hs2
    have hMl : M.length ≤ 1000 := by rw [← hM, List.length_append]; simp; omega
    rw [hM] at hs2' hq HW HBf
    rw [hq] at HW HBf; rw [hp] at HBf
    have HM := Lib.hid hM
    have H1 := Lib.hid (fun U (hu : Below w.heap.size w U) => rate_any U m f c ao cap L n1 (HL.out.keeps hu) p hp (by omega))
    have H2 := Lib.hid (fun U (hu : Below w2.heap.size w2 U) => rate_any U m f c a2 c2 M n1 (hs2'.keeps hu) q hq (by omega))
    have hT := HT2.out
    have a0 := hT.cell 0 _ rfl; have a1 := hT.cell 1 _ rfl; have a2' := hT.cell 2 _ rfl
    simp only [hM]
    clear hs2 hs2' hq hp t1 t2 HS hT hb2 d0 d1 hlt2 hM
    go_wp2_with fail
    refine (H1.out _ HB2.out).mono ?_
    rintro e w3 ⟨rfl, hb3⟩
    have HB3 := Lib.hid (below_on HB2.out HB2.out.size hb3)
    have HT3 := Lib.hid (HT2.out.keeps hb3)
    have HX3 := Lib.hid (HX2.out.keeps hb3)
    have hT := HT3.out
    clear a0 a1 a2'
    have a0 := hT.cell 0 _ rfl; have a1 := hT.cell 1 _ rfl; have a2' := hT.cell 2 _ rfl
    clear hT
    go_wp2_with fail
    refine (H2.out _ hb3).mono ?_
    rintro e w4 ⟨rfl, hb4⟩
    have HB4 := Lib.hid (below_on HB3.out HB3.out.size hb4)
    have hT := HT3.out.keeps hb4
    have hX := HX3.out.keeps hb4
    clear a0 a1 a2'
    have a0 := hT.cell 0 _ rfl; have a1 := hT.cell 1 _ rfl; have a2' := hT.cell 2 _ rfl
    have x0 := hX.cell 0 _ rfl
    obtain ⟨b, gg⟩ := q
    obtain ⟨pa, pf⟩ := p
    clear hT hX hb4 hb3 H1 H2
    by_cases hg0 : gg = 0
    · subst hg0
      obtain ⟨w1', w2'⟩ := HW.out rfl
      have n1' : ¬ b < f := by simpa using w1'
      have n2' : ¬ c < b := by simpa using w2'
      clear w1' w2'
      by_cases hd : n0 ≤ n1
      · go_wp2
        go_ret
        exact ⟨rfl, HB4.out⟩
      · have e := HBf.out (by omega)
        obtain ⟨rfl, rfl⟩ : b = pa ∧ 0 = pf := by simpa using e
        clear e
        go_wp2
        go_ret
        exact ⟨rfl, HB4.out⟩
    · by_cases hd : n0 ≤ n1
      · go_wp2
        go_ret
        exact ⟨rfl, HB4.out⟩
      · have e := HBf.out (by omega)
        obtain ⟨rfl, rfl⟩ : b = pa ∧ gg = pf := by simpa using e
        clear e
        go_wp2
        go_ret
        exact ⟨rfl, HB4.out⟩
  · rw [if_neg hok] at hS
    subst hS
    clear hok hs2 HS hb2 d0 d1 hlt2
    go_wp2
    go_ret
    exact ⟨rfl, HB2.out⟩
set_option maxRecDepth 8000 in
theorem rateBounds_law (m f c : Int) (ao : Option Addr) (cap : Nat) (L : List Rt) (n0 n1 : Int) (w : World) (h : SlR w ao cap L) :
    Calls Try.prog 7 #[.agg #[.int .i64 m, .int .i64 f, .int .i64 c], .slice ao L.length cap, .agg #[.int .i64 n0, .int .i64 n1]] w fun e w' => e = .returned (.bool true) ∧ Below w.heap.size w w' := by
  by_cases hl : L.length ≤ 100
  · exact rateBounds_core m f c ao cap L n0 n1 w h hl
  · have HAl := Lib.hid (fun W => ralive_any W)
    have HB0 := Lib.hid (below_new2 w (.cells #[.int .i64 m, .int .i64 f, .int .i64 c] 23) (.cells #[.int .i64 n0, .int .i64 n1] 52))
    have hl100 : (100 : Int) < L.length := by omega
    clear h hl
    go_enter Try.func7, Try.ntmps7
    go_wp2_with fail
    refine (HAl.out _).mono ?_
    rintro e w1 ⟨rfl, hb1⟩
    have HB1 := Lib.hid (below_on HB0.out HB0.out.size hb1)
    clear hb1
    go_wp2
    go_ret
    exact ⟨rfl, HB1.out⟩
end Go.Proofs.Ytaineoceiciloaa
