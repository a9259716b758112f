/-
  The example of chapter 05; the law RateTells.
-/
import Derived.Test.YtaineoceiciloaaRtP
import Derived.Test.YtaineoceiciloaaRtH
set_option linter.unusedVariables false
set_option linter.unusedSimpArgs false
namespace Go.Proofs.Ytaineoceiciloaa
open Go.RowKit

theorem sl_rt1 (w : World) (a b : Int) : SlR (w.alloc (.cells #[.int .i64 a, .int .i64 b] 46)) (some ⟨w.heap.size, 0, none⟩) 1 [(a, b)] :=
  ⟨rfl, Nat.le_refl _, by simp, fun _ => ⟨_, _, rfl, fun j u hu => by
    rw [Nat.zero_add]
    exact (Blk.new w 46 [.int .i64 a, .int .i64 b]).cell j u (by simpa [rc, rtc] using hu)⟩⟩
theorem rateX : rateS 250 300 900 [(5, 400)] 7 = (650, 0) := by decide
set_option maxRecDepth 8000 in
set_option maxHeartbeats 1600000 in
theorem ralive_any (w : World) : Calls Try.prog 9 #[] w fun e w' => e = .returned (.bool true) ∧ Below w.heap.size w w' := by
  have HA := Lib.hid (points_a w)
  have HB := Lib.hid (points_b w)
  have HR := Lib.hid (rate_any (w.alloc (.cells #[.int .i64 5, .int .i64 400] 46)) 250 300 900 _ 1 [(5, 400)] 7 (sl_rt1 w 5 400) _ rateX (by decide))
  have HB1 := Lib.hid (below_new1 w (.cells #[.int .i64 5, .int .i64 400] 46))
  go_enter Try.func9, Try.ntmps9
  go_wp2_with fail
  refine HA.out.mono ?_
  rintro e w1 ⟨rfl, rfl⟩
  go_wp2_with fail
  refine HB.out.mono ?_
  rintro e w2 ⟨rfl, rfl⟩
  go_wp2_with fail
  refine HR.out.mono ?_
  rintro e w3 ⟨rfl, hb3⟩
  have HB3 := Lib.hid (below_on HB1.out HB1.out.size hb3)
  clear hb3
  go_wp2
  go_ret
  exact ⟨rfl, HB3.out⟩
set_option maxRecDepth 8000 in
set_option maxHeartbeats 3200000 in
theorem rateTells_core (m f c : Int) (ao : Option Addr) (cap : Nat) (L : List Rt) (day : Int) (w : World) (h : SlR w ao cap L) (hl : L.length ≤ 100) :
    Calls Try.prog 3 #[.agg #[.int .i64 m, .int .i64 f, .int .i64 c], .slice ao L.length cap, .int .i64 day] w fun e w' => e = .returned (.bool true) ∧ Below w.heap.size w w' := by
  obtain ⟨s, hs⟩ : ∃ s, rateS m f c L day = s := ⟨_, rfl⟩
  obtain ⟨t, ht⟩ : ∃ t, tabS L = t := ⟨_, rfl⟩
  obtain ⟨q, hq⟩ : ∃ q, atS L day = q := ⟨_, rfl⟩
  have HAl := Lib.hid (fun W => ralive_any W)
  have HB0 := Lib.hid (below_new1 w (.cells #[.int .i64 m, .int .i64 f, .int .i64 c] 23))
  have HT0 := Lib.hid (Blk.new w 23 [.int .i64 m, .int .i64 f, .int .i64 c])
  have H1 := Lib.hid (fun U (hu : Below w.heap.size w U) => rate_any U m f c ao cap L day (h.keeps hu) s hs (by omega))
  have H2 := Lib.hid (fun U (hu : Below w.heap.size w U) => rrate_any U m f c ao cap L day (h.keeps hu) s hs (by omega))
  have H3 := Lib.hid (fun U (hu : Below w.heap.size w U) => rtable_any U ao cap L (h.keeps hu) t ht (by omega))
  have H4 := Lib.hid (fun U (hu : Below w.heap.size w U) => rat_any U ao cap L day (h.keeps hu) q hq (by omega))
  have H5 := Lib.hid (fun (htt : t = true) U (hu : Below w.heap.size w U) => at_any U ao cap L day (h.keeps hu) q hq (by omega) (rises_of (ht.trans htt)))
  have hl100 : ¬ (100 : Int) < L.length := by omega
  clear h hs ht hq
  go_enter Try.func3, Try.ntmps3
  go_wp2_with fail
  refine (HAl.out _).mono ?_
  rintro e w1 ⟨rfl, hb1⟩
  have HB1 := Lib.hid (below_on HB0.out HB0.out.size hb1)
  have hT := HT0.out.keeps hb1
  have HT1 := Lib.hid hT
  have a0 := hT.cell 0 _ rfl; have a1 := hT.cell 1 _ rfl; have a2 := hT.cell 2 _ rfl
  clear hb1 hT
  go_wp2_with fail
  refine (H1.out _ HB1.out).mono ?_
  rintro e w2 ⟨rfl, hb2⟩
  have HB2 := Lib.hid (below_on HB1.out HB1.out.size hb2)
  have hT := HT1.out.keeps hb2
  clear a0 a1 a2 hb2
  have a0 := hT.cell 0 _ rfl; have a1 := hT.cell 1 _ rfl; have a2 := hT.cell 2 _ rfl
  clear hT
  go_wp2_with fail
  refine (H2.out _ HB2.out).mono ?_
  rintro e w3 ⟨rfl, hb3⟩
  have HB3 := Lib.hid (below_on HB2.out HB2.out.size hb3)
  clear a0 a1 a2 hb3
  go_wp2_with fail
  refine (H3.out _ HB3.out).mono ?_
  rintro e w4 ⟨rfl, hb4⟩
  have HB4 := Lib.hid (below_on HB3.out HB3.out.size hb4)
  clear hb4
  cases t with
  | false =>
    go_wp2
    go_ret
    exact ⟨rfl, HB4.out⟩
  | true =>
    go_wp2_with fail
    refine (H5.out (by trivial) _ HB4.out).mono ?_
    rintro e w5 ⟨rfl, hb5⟩
    have HB5 := Lib.hid (below_on HB4.out HB4.out.size hb5)
    clear hb5
    go_wp2_with fail
    refine (H4.out _ HB5.out).mono ?_
    rintro e w6 ⟨rfl, hb6⟩
    have HB6 := Lib.hid (below_on HB5.out HB5.out.size hb6)
    clear hb6
    go_wp2
    go_ret
    exact ⟨rfl, HB6.out⟩
set_option maxRecDepth 8000 in
theorem rateTells_law (m f c : Int) (ao : Option Addr) (cap : Nat) (L : List Rt) (day : Int) (w : World) (h : SlR w ao cap L) :
    Calls Try.prog 3 #[.agg #[.int .i64 m, .int .i64 f, .int .i64 c], .slice ao L.length cap, .int .i64 day] w fun e w' => e = .returned (.bool true) ∧ Below w.heap.size w w' := by
  by_cases hl : L.length ≤ 100
  · exact rateTells_core m f c ao cap L day w h hl
  · have HAl := Lib.hid (fun W => ralive_any W)
    have HB0 := Lib.hid (below_new1 w (.cells #[.int .i64 m, .int .i64 f, .int .i64 c] 23))
    have hl100 : (100 : Int) < L.length := by omega
    clear h hl
    go_enter Try.func3, Try.ntmps3
    go_wp2_with fail
    refine (HAl.out _).mono ?_
    rintro e w1 ⟨rfl, hb1⟩
    have HB1 := Lib.hid (below_on HB0.out HB0.out.size hb1)
    clear hb1
    go_wp2
    go_ret
    exact ⟨rfl, HB1.out⟩
end Go.Proofs.Ytaineoceiciloaa
