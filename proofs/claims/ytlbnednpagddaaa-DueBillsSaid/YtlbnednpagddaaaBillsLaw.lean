/-
  The walk of the law DueBills: it answers true at every input.
-/
import Derived.Test.YtlbnednpagddaaaAlive
import Derived.Test.YtlbnednpagddaaaFlow
set_option linter.unusedVariables false
set_option linter.unusedSimpArgs false
namespace Go.Proofs.Ytlbnednpagddaaa
open Go.RowKit

set_option maxRecDepth 8000 in
set_option maxHeartbeats 1600000 in
theorem bills_law (a b c i f r : Int) (w : World) :
    Calls Try.prog 6 #[.agg #[.int .i64 a, .int .i64 b, .int .i64 c], .agg #[.int .i64 i, .int .i64 f, .int .i64 r]] w fun e w' => e = .returned (.bool true) ∧ Below w.heap.size w w' := by
  obtain ⟨s, hs⟩ : ∃ s, billS a b c i f r = s := ⟨_, rfl⟩
  have H1 := Lib.hid (fun W => bill_any a b c i f r s hs W)
  have H2 := Lib.hid (fun W => rbill_any a b c i f r s hs W)
  clear hs
  obtain ⟨⟨x, y, z⟩, p, n⟩ := s
  simp only [dv] at H1 H2
  go_enter Try.func6, Try.ntmps6
  go_wp2_with fail
  refine (alive_any _).mono ?_
  rintro e w1 ⟨rfl, hb⟩
  have hD := ((Blk.new w 23 [.int .i64 a, .int .i64 b, .int .i64 c]).alloc _).keeps hb
  have hN := (Blk.new2 w _ 37 [.int .i64 i, .int .i64 f, .int .i64 r]).keeps hb
  have hB := below_on (below_new2 w _ _) (by simp; omega) hb
  have D0 := hD.cell 0 _ rfl; have D1 := hD.cell 1 _ rfl; have D2 := hD.cell 2 _ rfl; have Df := hD.frozen; have Dn := hD.lt
  have N0 := hN.cell 0 _ rfl; have N1 := hN.cell 1 _ rfl; have N2 := hN.cell 2 _ rfl; have Nf := hN.frozen; have Nn := hN.lt
  clear hb
  go_wp2_with fail
  refine (H1.out _).mono ?_
  rintro e w2 ⟨rfl, hb⟩
  have hD2 := hD.keeps hb
  have hN2 := hN.keeps hb
  have hB2 := below_on hB (by omega) hb
  clear D0 D1 D2 Df Dn N0 N1 N2 Nf Nn hb hD hB hN
  have D0 := hD2.cell 0 _ rfl; have D1 := hD2.cell 1 _ rfl; have D2 := hD2.cell 2 _ rfl; have Df := hD2.frozen; have Dn := hD2.lt
  have N0 := hN2.cell 0 _ rfl; have N1 := hN2.cell 1 _ rfl; have N2 := hN2.cell 2 _ rfl; have Nf := hN2.frozen; have Nn := hN2.lt
  go_wp2_with fail
  refine (H2.out _).mono ?_
  rintro e w3 ⟨rfl, hb⟩
  have hD3 := (hD2.alloc _).keeps hb
  have hX3 := (Blk.new w2 23 [.int .i64 x, .int .i64 y, .int .i64 z]).keeps hb
  have hB3 := below_on (hB2.alloc (by omega) _) (by simp; omega) hb
  clear D0 D1 D2 Df Dn N0 N1 N2 Nf Nn hb hD2 hB2 hN2
  have hD := hD3.alloc (.cells #[.int .i64 x, .int .i64 y, .int .i64 z] 23)
  have hX := hX3.alloc (.cells #[.int .i64 x, .int .i64 y, .int .i64 z] 23)
  have hY := Blk.new w3 23 [.int .i64 x, .int .i64 y, .int .i64 z]
  have hBe := hB3.alloc hB3.size (.cells #[.int .i64 x, .int .i64 y, .int .i64 z] 23)
  clear hD3 hX3 hB3 H1 H2
  go_wp2
  cases hv : okD a b c with
  | true =>
    obtain ⟨⟨a0, a1⟩, ⟨b0, b1⟩, ⟨c0, c1⟩⟩ := okD_true hv
    have HR := Lib.hid (fun W => right_any a b c true hv W)
    have HQ := Lib.hid (fun W => rright_any a b c true hv W)
    have HT := Lib.hid (fun W => total_any a b c hv W)
    clear hv
    refine region_flow (by kernel_rfl) (by kernel_rfl) [(37, Value.agg #[Value.int IntKind.i64 x, Value.int IntKind.i64 y, Value.int IntKind.i64 z]), (38, Value.agg #[Value.int IntKind.i64 x, Value.int IntKind.i64 y, Value.int IntKind.i64 z]), (39, Value.bool true), (40, Value.bool true), (41, Value.int IntKind.i64 p), (42, Value.int IntKind.i64 p), (43, Value.bool true), (44, Value.bool true), (45, Value.bool true), (46, Value.int IntKind.i64 n), (47, Value.int IntKind.i64 n), (48, Value.bool true), (49, Value.bool true), (50, Value.bool true), (51, Value.agg #[Value.int IntKind.i64 a, Value.int IntKind.i64 b, Value.int IntKind.i64 c]), (52, Value.bool true), (53, Value.agg #[Value.int IntKind.i64 a, Value.int IntKind.i64 b, Value.int IntKind.i64 c]), (54, Value.bool true), (55, Value.bool true), (56, Value.bool true), (57, Value.bool true), (58, Value.agg #[Value.int IntKind.i64 a, Value.int IntKind.i64 b, Value.int IntKind.i64 c]), (59, Value.bool true), (60, Value.bool false), (61, Value.bool false), (62, Value.agg #[Value.int IntKind.i64 a, Value.int IntKind.i64 b, Value.int IntKind.i64 c]), (63, Value.int IntKind.i64 (a + b + c)), (64, Value.pointer (some { block := w.heap.size, off := 0 })), (65, Value.int IntKind.i64 a), (66, Value.pointer (some { block := w.heap.size, off := 1 })), (67, Value.int IntKind.i64 b), (68, Value.int IntKind.i64 (a + b)), (69, Value.pointer (some { block := w.heap.size, off := 2 })), (70, Value.int IntKind.i64 c), (71, Value.int IntKind.i64 (a + b + c)), (72, Value.bool true), (73, Value.bool true), (74, Value.bool true), (4, Value.bool true)] (by kernel_rfl) (fun WW => Blk WW (w.heap.size) 23 [Value.int IntKind.i64 a, Value.int IntKind.i64 b, Value.int IntKind.i64 c] ∧ Blk WW (w2.heap.size) 23 [Value.int IntKind.i64 x, Value.int IntKind.i64 y, Value.int IntKind.i64 z] ∧ Blk WW (w3.heap.size) 23 [Value.int IntKind.i64 x, Value.int IntKind.i64 y, Value.int IntKind.i64 z] ∧ Below w.heap.size w WW) ⟨hD.drew, hX.drew, hY.drew, hBe.drew⟩ ?_ ?_
    · intro iI oO sS vV AC WW ho hx hf hkp K hK
      clear hBe hD hX hY
      obtain ⟨hD, hX, hY, hBe⟩ := hkp
      have hsz : AC.tmps.size = 75 := hf.size
      have hlt : iI < 39 := (Array.getElem?_eq_some_iff.1 ho).1
      rcases iI with _ | _ | _ | _ | _ | _ | _ | _ | _ | _ | _ | _ | _ | _ | _ | _ | _ | _ | _ | _ | _ | _ | _ | _ | _ | _ | _ | _ | _ | _ | _ | _ | _ | _ | _ | _ | _ | _ | _ | iI
      · obtain rfl := Option.some.inj (show some _ = some oO from ho)
        obtain ⟨rfl, rfl⟩ := Prod.mk.inj (Option.some.inj (show some (37, Value.agg #[Value.int IntKind.i64 x, Value.int IntKind.i64 y, Value.int IntKind.i64 z]) = some (sS, vV) from hx))
        rw [if_pos (by rfl)]
        have q5 : AC.tmps.getD 5 undef = Value.pointer (some { block := w2.heap.size, off := 0 }) := hf.rest 5 (by kernel_rfl)
        have z0 := hX.cell 0 _ rfl
        have z1 := hX.cell 1 _ rfl
        have z2 := hX.cell 2 _ rfl
        go_simp
        exact hK _ ⟨hD, hX, hY, hBe⟩
      · obtain rfl := Option.some.inj (show some _ = some oO from ho)
        obtain ⟨rfl, rfl⟩ := Prod.mk.inj (Option.some.inj (show some (38, Value.agg #[Value.int IntKind.i64 x, Value.int IntKind.i64 y, Value.int IntKind.i64 z]) = some (sS, vV) from hx))
        rw [if_pos (by rfl)]
        have q8 : AC.tmps.getD 8 undef = Value.pointer (some { block := w3.heap.size, off := 0 }) := hf.rest 8 (by kernel_rfl)
        have z0 := hY.cell 0 _ rfl
        have z1 := hY.cell 1 _ rfl
        have z2 := hY.cell 2 _ rfl
        go_simp
        exact hK _ ⟨hD, hX, hY, hBe⟩
      · obtain rfl := Option.some.inj (show some _ = some oO from ho)
        obtain ⟨rfl, rfl⟩ := Prod.mk.inj (Option.some.inj (show some (39, Value.bool true) = some (sS, vV) from hx))
        rw [if_pos (by rfl)]
        have q37 : AC.tmps.getD 37 undef = Value.agg #[Value.int IntKind.i64 x, Value.int IntKind.i64 y, Value.int IntKind.i64 z] := hf.dep ⟨0, .data⟩ (by simp) rfl _ _ rfl
        have q38 : AC.tmps.getD 38 undef = Value.agg #[Value.int IntKind.i64 x, Value.int IntKind.i64 y, Value.int IntKind.i64 z] := hf.dep ⟨1, .data⟩ (by simp) rfl _ _ rfl
        go_simp
        exact hK _ ⟨hD, hX, hY, hBe⟩
      · obtain rfl := Option.some.inj (show some _ = some oO from ho)
        obtain ⟨rfl, rfl⟩ := Prod.mk.inj (Option.some.inj (show some (40, Value.bool true) = some (sS, vV) from hx))
        rw [if_pos (by rfl)]
        have q39 : AC.tmps.getD 39 undef = Value.bool true := hf.dep ⟨2, .data⟩ (by simp) rfl _ _ rfl
        go_simp
        exact hK _ ⟨hD, hX, hY, hBe⟩
      · obtain rfl := Option.some.inj (show some _ = some oO from ho)
        obtain ⟨rfl, rfl⟩ := Prod.mk.inj (Option.some.inj (show some (41, Value.int IntKind.i64 p) = some (sS, vV) from hx))
        rw [if_pos (wanted_yes (s := 40) rfl rfl rfl (by omega) (hf.dep ⟨3, .guard⟩ (by simp) rfl 40 (Value.bool true) rfl))]
        have q6 : AC.tmps.getD 6 undef = Value.int IntKind.i64 p := hf.rest 6 (by kernel_rfl)
        go_simp
        exact hK _ ⟨hD, hX, hY, hBe⟩
      · obtain rfl := Option.some.inj (show some _ = some oO from ho)
        obtain ⟨rfl, rfl⟩ := Prod.mk.inj (Option.some.inj (show some (42, Value.int IntKind.i64 p) = some (sS, vV) from hx))
        rw [if_pos (wanted_yes (s := 40) rfl rfl rfl (by omega) (hf.dep ⟨3, .guard⟩ (by simp) rfl 40 (Value.bool true) rfl))]
        have q9 : AC.tmps.getD 9 undef = Value.int IntKind.i64 p := hf.rest 9 (by kernel_rfl)
        go_simp
        exact hK _ ⟨hD, hX, hY, hBe⟩
      · obtain rfl := Option.some.inj (show some _ = some oO from ho)
        obtain ⟨rfl, rfl⟩ := Prod.mk.inj (Option.some.inj (show some (43, Value.bool true) = some (sS, vV) from hx))
        rw [if_pos (wanted_yes (s := 40) rfl rfl rfl (by omega) (hf.dep ⟨3, .guard⟩ (by simp) rfl 40 (Value.bool true) rfl))]
        have q41 : AC.tmps.getD 41 undef = Value.int IntKind.i64 p := hf.dep ⟨4, .data⟩ (by simp) rfl _ _ rfl
        have q42 : AC.tmps.getD 42 undef = Value.int IntKind.i64 p := hf.dep ⟨5, .data⟩ (by simp) rfl _ _ rfl
        go_simp
        exact hK _ ⟨hD, hX, hY, hBe⟩
      · obtain rfl := Option.some.inj (show some _ = some oO from ho)
        obtain ⟨rfl, rfl⟩ := Prod.mk.inj (Option.some.inj (show some (44, Value.bool true) = some (sS, vV) from hx))
        rw [if_pos (by rfl)]
        have q40 : AC.tmps.getD 40 undef = Value.bool true := hf.dep ⟨3, .data⟩ (by simp) rfl _ _ rfl
        have q43 : AC.tmps.getD 43 undef = Value.bool true := hf.dep ⟨6, .data⟩ (by simp) rfl _ _ rfl
        go_simp
        exact hK _ ⟨hD, hX, hY, hBe⟩
      · obtain rfl := Option.some.inj (show some _ = some oO from ho)
        obtain ⟨rfl, rfl⟩ := Prod.mk.inj (Option.some.inj (show some (45, Value.bool true) = some (sS, vV) from hx))
        rw [if_pos (by rfl)]
        have q44 : AC.tmps.getD 44 undef = Value.bool true := hf.dep ⟨7, .data⟩ (by simp) rfl _ _ rfl
        go_simp
        exact hK _ ⟨hD, hX, hY, hBe⟩
      · obtain rfl := Option.some.inj (show some _ = some oO from ho)
        obtain ⟨rfl, rfl⟩ := Prod.mk.inj (Option.some.inj (show some (46, Value.int IntKind.i64 n) = some (sS, vV) from hx))
        rw [if_pos (wanted_yes (s := 45) rfl rfl rfl (by omega) (hf.dep ⟨8, .guard⟩ (by simp) rfl 45 (Value.bool true) rfl))]
        have q7 : AC.tmps.getD 7 undef = Value.int IntKind.i64 n := hf.rest 7 (by kernel_rfl)
        go_simp
        exact hK _ ⟨hD, hX, hY, hBe⟩
      · obtain rfl := Option.some.inj (show some _ = some oO from ho)
        obtain ⟨rfl, rfl⟩ := Prod.mk.inj (Option.some.inj (show some (47, Value.int IntKind.i64 n) = some (sS, vV) from hx))
        rw [if_pos (wanted_yes (s := 45) rfl rfl rfl (by omega) (hf.dep ⟨8, .guard⟩ (by simp) rfl 45 (Value.bool true) rfl))]
        have q10 : AC.tmps.getD 10 undef = Value.int IntKind.i64 n := hf.rest 10 (by kernel_rfl)
        go_simp
        exact hK _ ⟨hD, hX, hY, hBe⟩
      · obtain rfl := Option.some.inj (show some _ = some oO from ho)
        obtain ⟨rfl, rfl⟩ := Prod.mk.inj (Option.some.inj (show some (48, Value.bool true) = some (sS, vV) from hx))
        rw [if_pos (wanted_yes (s := 45) rfl rfl rfl (by omega) (hf.dep ⟨8, .guard⟩ (by simp) rfl 45 (Value.bool true) rfl))]
        have q46 : AC.tmps.getD 46 undef = Value.int IntKind.i64 n := hf.dep ⟨9, .data⟩ (by simp) rfl _ _ rfl
        have q47 : AC.tmps.getD 47 undef = Value.int IntKind.i64 n := hf.dep ⟨10, .data⟩ (by simp) rfl _ _ rfl
        go_simp
        exact hK _ ⟨hD, hX, hY, hBe⟩
      · obtain rfl := Option.some.inj (show some _ = some oO from ho)
        obtain ⟨rfl, rfl⟩ := Prod.mk.inj (Option.some.inj (show some (49, Value.bool true) = some (sS, vV) from hx))
        rw [if_pos (by rfl)]
        have q45 : AC.tmps.getD 45 undef = Value.bool true := hf.dep ⟨8, .data⟩ (by simp) rfl _ _ rfl
        have q48 : AC.tmps.getD 48 undef = Value.bool true := hf.dep ⟨11, .data⟩ (by simp) rfl _ _ rfl
        go_simp
        exact hK _ ⟨hD, hX, hY, hBe⟩
      · obtain rfl := Option.some.inj (show some _ = some oO from ho)
        obtain ⟨rfl, rfl⟩ := Prod.mk.inj (Option.some.inj (show some (50, Value.bool true) = some (sS, vV) from hx))
        rw [if_pos (by rfl)]
        have q49 : AC.tmps.getD 49 undef = Value.bool true := hf.dep ⟨12, .data⟩ (by simp) rfl _ _ rfl
        go_simp
        exact hK _ ⟨hD, hX, hY, hBe⟩
      · obtain rfl := Option.some.inj (show some _ = some oO from ho)
        obtain ⟨rfl, rfl⟩ := Prod.mk.inj (Option.some.inj (show some (51, Value.agg #[Value.int IntKind.i64 a, Value.int IntKind.i64 b, Value.int IntKind.i64 c]) = some (sS, vV) from hx))
        rw [if_pos (wanted_yes (s := 50) rfl rfl rfl (by omega) (hf.dep ⟨13, .guard⟩ (by simp) rfl 50 (Value.bool true) rfl))]
        have q2 : AC.tmps.getD 2 undef = Value.pointer (some { block := w.heap.size, off := 0 }) := hf.rest 2 (by kernel_rfl)
        have z0 := hD.cell 0 _ rfl
        have z1 := hD.cell 1 _ rfl
        have z2 := hD.cell 2 _ rfl
        go_simp
        exact hK _ ⟨hD, hX, hY, hBe⟩
      · obtain rfl := Option.some.inj (show some _ = some oO from ho)
        obtain ⟨rfl, rfl⟩ := Prod.mk.inj (Option.some.inj (show some (52, Value.bool true) = some (sS, vV) from hx))
        rw [if_pos (wanted_yes (s := 50) rfl rfl rfl (by omega) (hf.dep ⟨13, .guard⟩ (by simp) rfl 50 (Value.bool true) rfl))]
        have q51 : AC.tmps.getD 51 undef = Value.agg #[Value.int IntKind.i64 a, Value.int IntKind.i64 b, Value.int IntKind.i64 c] := hf.dep ⟨14, .data⟩ (by simp) rfl _ _ rfl
        go_simp
        refine (HR.out _).mono ?_
        rintro e w1 ⟨rfl, hb⟩
        exact hK _ ⟨hD.keeps hb, hX.keeps hb, hY.keeps hb, below_on hBe hBe.size hb⟩
      · obtain rfl := Option.some.inj (show some _ = some oO from ho)
        obtain ⟨rfl, rfl⟩ := Prod.mk.inj (Option.some.inj (show some (53, Value.agg #[Value.int IntKind.i64 a, Value.int IntKind.i64 b, Value.int IntKind.i64 c]) = some (sS, vV) from hx))
        rw [if_pos (wanted_yes (s := 50) rfl rfl rfl (by omega) (hf.dep ⟨13, .guard⟩ (by simp) rfl 50 (Value.bool true) rfl))]
        have q2 : AC.tmps.getD 2 undef = Value.pointer (some { block := w.heap.size, off := 0 }) := hf.rest 2 (by kernel_rfl)
        have z0 := hD.cell 0 _ rfl
        have z1 := hD.cell 1 _ rfl
        have z2 := hD.cell 2 _ rfl
        go_simp
        exact hK _ ⟨hD, hX, hY, hBe⟩
      · obtain rfl := Option.some.inj (show some _ = some oO from ho)
        obtain ⟨rfl, rfl⟩ := Prod.mk.inj (Option.some.inj (show some (54, Value.bool true) = some (sS, vV) from hx))
        rw [if_pos (wanted_yes (s := 50) rfl rfl rfl (by omega) (hf.dep ⟨13, .guard⟩ (by simp) rfl 50 (Value.bool true) rfl))]
        have q53 : AC.tmps.getD 53 undef = Value.agg #[Value.int IntKind.i64 a, Value.int IntKind.i64 b, Value.int IntKind.i64 c] := hf.dep ⟨16, .data⟩ (by simp) rfl _ _ rfl
        go_simp
        refine (HQ.out _).mono ?_
        rintro e w1 ⟨rfl, hb⟩
        exact hK _ ⟨hD.keeps hb, hX.keeps hb, hY.keeps hb, below_on hBe hBe.size hb⟩
      · obtain rfl := Option.some.inj (show some _ = some oO from ho)
        obtain ⟨rfl, rfl⟩ := Prod.mk.inj (Option.some.inj (show some (55, Value.bool true) = some (sS, vV) from hx))
        rw [if_pos (wanted_yes (s := 50) rfl rfl rfl (by omega) (hf.dep ⟨13, .guard⟩ (by simp) rfl 50 (Value.bool true) rfl))]
        have q52 : AC.tmps.getD 52 undef = Value.bool true := hf.dep ⟨15, .data⟩ (by simp) rfl _ _ rfl
        have q54 : AC.tmps.getD 54 undef = Value.bool true := hf.dep ⟨17, .data⟩ (by simp) rfl _ _ rfl
        go_simp
        exact hK _ ⟨hD, hX, hY, hBe⟩
      · obtain rfl := Option.some.inj (show some _ = some oO from ho)
        obtain ⟨rfl, rfl⟩ := Prod.mk.inj (Option.some.inj (show some (56, Value.bool true) = some (sS, vV) from hx))
        rw [if_pos (by rfl)]
        have q50 : AC.tmps.getD 50 undef = Value.bool true := hf.dep ⟨13, .data⟩ (by simp) rfl _ _ rfl
        have q55 : AC.tmps.getD 55 undef = Value.bool true := hf.dep ⟨18, .data⟩ (by simp) rfl _ _ rfl
        go_simp
        exact hK _ ⟨hD, hX, hY, hBe⟩
      · obtain rfl := Option.some.inj (show some _ = some oO from ho)
        obtain ⟨rfl, rfl⟩ := Prod.mk.inj (Option.some.inj (show some (57, Value.bool true) = some (sS, vV) from hx))
        rw [if_pos (by rfl)]
        have q56 : AC.tmps.getD 56 undef = Value.bool true := hf.dep ⟨19, .data⟩ (by simp) rfl _ _ rfl
        go_simp
        exact hK _ ⟨hD, hX, hY, hBe⟩
      · obtain rfl := Option.some.inj (show some _ = some oO from ho)
        obtain ⟨rfl, rfl⟩ := Prod.mk.inj (Option.some.inj (show some (58, Value.agg #[Value.int IntKind.i64 a, Value.int IntKind.i64 b, Value.int IntKind.i64 c]) = some (sS, vV) from hx))
        rw [if_pos (wanted_yes (s := 57) rfl rfl rfl (by omega) (hf.dep ⟨20, .guard⟩ (by simp) rfl 57 (Value.bool true) rfl))]
        have q2 : AC.tmps.getD 2 undef = Value.pointer (some { block := w.heap.size, off := 0 }) := hf.rest 2 (by kernel_rfl)
        have z0 := hD.cell 0 _ rfl
        have z1 := hD.cell 1 _ rfl
        have z2 := hD.cell 2 _ rfl
        go_simp
        exact hK _ ⟨hD, hX, hY, hBe⟩
      · obtain rfl := Option.some.inj (show some _ = some oO from ho)
        obtain ⟨rfl, rfl⟩ := Prod.mk.inj (Option.some.inj (show some (59, Value.bool true) = some (sS, vV) from hx))
        rw [if_pos (wanted_yes (s := 57) rfl rfl rfl (by omega) (hf.dep ⟨20, .guard⟩ (by simp) rfl 57 (Value.bool true) rfl))]
        have q58 : AC.tmps.getD 58 undef = Value.agg #[Value.int IntKind.i64 a, Value.int IntKind.i64 b, Value.int IntKind.i64 c] := hf.dep ⟨21, .data⟩ (by simp) rfl _ _ rfl
        go_simp
        refine (HQ.out _).mono ?_
        rintro e w1 ⟨rfl, hb⟩
        exact hK _ ⟨hD.keeps hb, hX.keeps hb, hY.keeps hb, below_on hBe hBe.size hb⟩
      · obtain rfl := Option.some.inj (show some _ = some oO from ho)
        obtain ⟨rfl, rfl⟩ := Prod.mk.inj (Option.some.inj (show some (60, Value.bool false) = some (sS, vV) from hx))
        rw [if_pos (wanted_yes (s := 57) rfl rfl rfl (by omega) (hf.dep ⟨20, .guard⟩ (by simp) rfl 57 (Value.bool true) rfl))]
        have q59 : AC.tmps.getD 59 undef = Value.bool true := hf.dep ⟨22, .data⟩ (by simp) rfl _ _ rfl
        go_simp
        exact hK _ ⟨hD, hX, hY, hBe⟩
      · obtain rfl := Option.some.inj (show some _ = some oO from ho)
        obtain ⟨rfl, rfl⟩ := Prod.mk.inj (Option.some.inj (show some (61, Value.bool false) = some (sS, vV) from hx))
        rw [if_pos (wanted_yes (s := 57) rfl rfl rfl (by omega) (hf.dep ⟨20, .guard⟩ (by simp) rfl 57 (Value.bool true) rfl))]
        have q60 : AC.tmps.getD 60 undef = Value.bool false := hf.dep ⟨23, .data⟩ (by simp) rfl _ _ rfl
        go_simp
        exact hK _ ⟨hD, hX, hY, hBe⟩
      · obtain rfl := Option.some.inj (show some _ = some oO from ho)
        obtain ⟨rfl, rfl⟩ := Prod.mk.inj (Option.some.inj (show some (62, Value.agg #[Value.int IntKind.i64 a, Value.int IntKind.i64 b, Value.int IntKind.i64 c]) = some (sS, vV) from hx))
        rw [if_pos (wanted_yes (s := 61) rfl rfl rfl (by omega) (hf.dep ⟨24, .guard⟩ (by simp) rfl 61 (Value.bool false) rfl))]
        have q2 : AC.tmps.getD 2 undef = Value.pointer (some { block := w.heap.size, off := 0 }) := hf.rest 2 (by kernel_rfl)
        have z0 := hD.cell 0 _ rfl
        have z1 := hD.cell 1 _ rfl
        have z2 := hD.cell 2 _ rfl
        go_simp
        exact hK _ ⟨hD, hX, hY, hBe⟩
      · obtain rfl := Option.some.inj (show some _ = some oO from ho)
        obtain ⟨rfl, rfl⟩ := Prod.mk.inj (Option.some.inj (show some (63, Value.int IntKind.i64 (a + b + c)) = some (sS, vV) from hx))
        rw [if_pos (wanted_yes (s := 61) rfl rfl rfl (by omega) (hf.dep ⟨24, .guard⟩ (by simp) rfl 61 (Value.bool false) rfl))]
        have q62 : AC.tmps.getD 62 undef = Value.agg #[Value.int IntKind.i64 a, Value.int IntKind.i64 b, Value.int IntKind.i64 c] := hf.dep ⟨25, .data⟩ (by simp) rfl _ _ rfl
        go_simp
        refine (HT.out _).mono ?_
        rintro e w1 ⟨rfl, hb⟩
        exact hK _ ⟨hD.keeps hb, hX.keeps hb, hY.keeps hb, below_on hBe hBe.size hb⟩
      · obtain rfl := Option.some.inj (show some _ = some oO from ho)
        obtain ⟨rfl, rfl⟩ := Prod.mk.inj (Option.some.inj (show some (64, Value.pointer (some { block := w.heap.size, off := 0 })) = some (sS, vV) from hx))
        rw [if_pos (wanted_yes (s := 61) rfl rfl rfl (by omega) (hf.dep ⟨24, .guard⟩ (by simp) rfl 61 (Value.bool false) rfl))]
        have q2 : AC.tmps.getD 2 undef = Value.pointer (some { block := w.heap.size, off := 0 }) := hf.rest 2 (by kernel_rfl)
        go_simp
        exact hK _ ⟨hD, hX, hY, hBe⟩
      · obtain rfl := Option.some.inj (show some _ = some oO from ho)
        obtain ⟨rfl, rfl⟩ := Prod.mk.inj (Option.some.inj (show some (65, Value.int IntKind.i64 a) = some (sS, vV) from hx))
        rw [if_pos (wanted_yes (s := 61) rfl rfl rfl (by omega) (hf.dep ⟨24, .guard⟩ (by simp) rfl 61 (Value.bool false) rfl))]
        have q64 : AC.tmps.getD 64 undef = Value.pointer (some { block := w.heap.size, off := 0 }) := hf.dep ⟨27, .data⟩ (by simp) rfl _ _ rfl
        have z0 := hD.cell 0 _ rfl
        go_simp
        exact hK _ ⟨hD, hX, hY, hBe⟩
      · obtain rfl := Option.some.inj (show some _ = some oO from ho)
        obtain ⟨rfl, rfl⟩ := Prod.mk.inj (Option.some.inj (show some (66, Value.pointer (some { block := w.heap.size, off := 1 })) = some (sS, vV) from hx))
        rw [if_pos (wanted_yes (s := 61) rfl rfl rfl (by omega) (hf.dep ⟨24, .guard⟩ (by simp) rfl 61 (Value.bool false) rfl))]
        have q2 : AC.tmps.getD 2 undef = Value.pointer (some { block := w.heap.size, off := 0 }) := hf.rest 2 (by kernel_rfl)
        go_simp
        exact hK _ ⟨hD, hX, hY, hBe⟩
      · obtain rfl := Option.some.inj (show some _ = some oO from ho)
        obtain ⟨rfl, rfl⟩ := Prod.mk.inj (Option.some.inj (show some (67, Value.int IntKind.i64 b) = some (sS, vV) from hx))
        rw [if_pos (wanted_yes (s := 61) rfl rfl rfl (by omega) (hf.dep ⟨24, .guard⟩ (by simp) rfl 61 (Value.bool false) rfl))]
        have q66 : AC.tmps.getD 66 undef = Value.pointer (some { block := w.heap.size, off := 1 }) := hf.dep ⟨29, .data⟩ (by simp) rfl _ _ rfl
        have z1 := hD.cell 1 _ rfl
        go_simp
        exact hK _ ⟨hD, hX, hY, hBe⟩
      · obtain rfl := Option.some.inj (show some _ = some oO from ho)
        obtain ⟨rfl, rfl⟩ := Prod.mk.inj (Option.some.inj (show some (68, Value.int IntKind.i64 (a + b)) = some (sS, vV) from hx))
        rw [if_pos (wanted_yes (s := 61) rfl rfl rfl (by omega) (hf.dep ⟨24, .guard⟩ (by simp) rfl 61 (Value.bool false) rfl))]
        have q65 : AC.tmps.getD 65 undef = Value.int IntKind.i64 a := hf.dep ⟨28, .data⟩ (by simp) rfl _ _ rfl
        have q67 : AC.tmps.getD 67 undef = Value.int IntKind.i64 b := hf.dep ⟨30, .data⟩ (by simp) rfl _ _ rfl
        go_simp
        rw [show IntKind.i64.wrap (a + b) = a + b from by rw [IntKind.wrap_i64]; omega]
        exact hK _ ⟨hD, hX, hY, hBe⟩
      · obtain rfl := Option.some.inj (show some _ = some oO from ho)
        obtain ⟨rfl, rfl⟩ := Prod.mk.inj (Option.some.inj (show some (69, Value.pointer (some { block := w.heap.size, off := 2 })) = some (sS, vV) from hx))
        rw [if_pos (wanted_yes (s := 61) rfl rfl rfl (by omega) (hf.dep ⟨24, .guard⟩ (by simp) rfl 61 (Value.bool false) rfl))]
        have q2 : AC.tmps.getD 2 undef = Value.pointer (some { block := w.heap.size, off := 0 }) := hf.rest 2 (by kernel_rfl)
        go_simp
        exact hK _ ⟨hD, hX, hY, hBe⟩
      · obtain rfl := Option.some.inj (show some _ = some oO from ho)
        obtain ⟨rfl, rfl⟩ := Prod.mk.inj (Option.some.inj (show some (70, Value.int IntKind.i64 c) = some (sS, vV) from hx))
        rw [if_pos (wanted_yes (s := 61) rfl rfl rfl (by omega) (hf.dep ⟨24, .guard⟩ (by simp) rfl 61 (Value.bool false) rfl))]
        have q69 : AC.tmps.getD 69 undef = Value.pointer (some { block := w.heap.size, off := 2 }) := hf.dep ⟨32, .data⟩ (by simp) rfl _ _ rfl
        have z2 := hD.cell 2 _ rfl
        go_simp
        exact hK _ ⟨hD, hX, hY, hBe⟩
      · obtain rfl := Option.some.inj (show some _ = some oO from ho)
        obtain ⟨rfl, rfl⟩ := Prod.mk.inj (Option.some.inj (show some (71, Value.int IntKind.i64 (a + b + c)) = some (sS, vV) from hx))
        rw [if_pos (wanted_yes (s := 61) rfl rfl rfl (by omega) (hf.dep ⟨24, .guard⟩ (by simp) rfl 61 (Value.bool false) rfl))]
        have q68 : AC.tmps.getD 68 undef = Value.int IntKind.i64 (a + b) := hf.dep ⟨31, .data⟩ (by simp) rfl _ _ rfl
        have q70 : AC.tmps.getD 70 undef = Value.int IntKind.i64 c := hf.dep ⟨33, .data⟩ (by simp) rfl _ _ rfl
        go_simp
        rw [show IntKind.i64.wrap (a + b + c) = a + b + c from by rw [IntKind.wrap_i64]; omega]
        exact hK _ ⟨hD, hX, hY, hBe⟩
      · obtain rfl := Option.some.inj (show some _ = some oO from ho)
        obtain ⟨rfl, rfl⟩ := Prod.mk.inj (Option.some.inj (show some (72, Value.bool true) = some (sS, vV) from hx))
        rw [if_pos (wanted_yes (s := 61) rfl rfl rfl (by omega) (hf.dep ⟨24, .guard⟩ (by simp) rfl 61 (Value.bool false) rfl))]
        have q63 : AC.tmps.getD 63 undef = Value.int IntKind.i64 (a + b + c) := hf.dep ⟨26, .data⟩ (by simp) rfl _ _ rfl
        have q71 : AC.tmps.getD 71 undef = Value.int IntKind.i64 (a + b + c) := hf.dep ⟨34, .data⟩ (by simp) rfl _ _ rfl
        go_simp
        exact hK _ ⟨hD, hX, hY, hBe⟩
      · obtain rfl := Option.some.inj (show some _ = some oO from ho)
        obtain ⟨rfl, rfl⟩ := Prod.mk.inj (Option.some.inj (show some (73, Value.bool true) = some (sS, vV) from hx))
        rw [if_pos (wanted_yes (s := 57) rfl rfl rfl (by omega) (hf.dep ⟨20, .guard⟩ (by simp) rfl 57 (Value.bool true) rfl))]
        have q61 : AC.tmps.getD 61 undef = Value.bool false := hf.dep ⟨24, .data⟩ (by simp) rfl _ _ rfl
        have q72 : AC.tmps.getD 72 undef = Value.bool true := hf.dep ⟨35, .data⟩ (by simp) rfl _ _ rfl
        go_simp
        exact hK _ ⟨hD, hX, hY, hBe⟩
      · obtain rfl := Option.some.inj (show some _ = some oO from ho)
        obtain ⟨rfl, rfl⟩ := Prod.mk.inj (Option.some.inj (show some (74, Value.bool true) = some (sS, vV) from hx))
        rw [if_pos (by rfl)]
        have q57 : AC.tmps.getD 57 undef = Value.bool true := hf.dep ⟨20, .data⟩ (by simp) rfl _ _ rfl
        have q73 : AC.tmps.getD 73 undef = Value.bool true := hf.dep ⟨36, .data⟩ (by simp) rfl _ _ rfl
        go_simp
        exact hK _ ⟨hD, hX, hY, hBe⟩
      · obtain rfl := Option.some.inj (show some _ = some oO from ho)
        obtain ⟨rfl, rfl⟩ := Prod.mk.inj (Option.some.inj (show some (4, Value.bool true) = some (sS, vV) from hx))
        rw [if_pos (by rfl)]
        have q74 : AC.tmps.getD 74 undef = Value.bool true := hf.dep ⟨37, .data⟩ (by simp) rfl _ _ rfl
        go_simp
        exact hK _ ⟨hD, hX, hY, hBe⟩
      · omega
    · intro WW hkp
      clear hBe hD hX hY
      obtain ⟨hD, hX, hY, hBe⟩ := hkp
      rw [show laid _ _ = #[Value.agg #[Value.int IntKind.i64 a, Value.int IntKind.i64 b, Value.int IntKind.i64 c], Value.agg #[Value.int IntKind.i64 i, Value.int IntKind.i64 f, Value.int IntKind.i64 r], Value.pointer (some { block := w.heap.size, off := 0 }), Value.pointer (some { block := w.heap.size + 1, off := 0 }), Value.bool true, Value.pointer (some { block := w2.heap.size, off := 0 }), Value.int IntKind.i64 p, Value.int IntKind.i64 n, Value.pointer (some { block := w3.heap.size, off := 0 }), Value.int IntKind.i64 p, Value.int IntKind.i64 n, Value.bool true, Value.bool false, Value.tuple #[Value.agg #[Value.int IntKind.i64 x, Value.int IntKind.i64 y, Value.int IntKind.i64 z], Value.int IntKind.i64 p, Value.int IntKind.i64 n], Value.agg #[Value.int IntKind.i64 a, Value.int IntKind.i64 b, Value.int IntKind.i64 c], Value.pointer (some { block := w.heap.size + 1, off := 0 }), Value.int IntKind.i64 i, Value.pointer (some { block := w.heap.size + 1, off := 1 }), Value.int IntKind.i64 f, Value.pointer (some { block := w.heap.size + 1, off := 2 }), Value.int IntKind.i64 r, Value.tuple #[Value.agg #[Value.int IntKind.i64 x, Value.int IntKind.i64 y, Value.int IntKind.i64 z], Value.int IntKind.i64 p, Value.int IntKind.i64 n], Value.agg #[Value.int IntKind.i64 x, Value.int IntKind.i64 y, Value.int IntKind.i64 z], Value.int IntKind.i64 p, Value.int IntKind.i64 n, Value.tuple #[Value.agg #[Value.int IntKind.i64 x, Value.int IntKind.i64 y, Value.int IntKind.i64 z], Value.int IntKind.i64 p, Value.int IntKind.i64 n], Value.agg #[Value.int IntKind.i64 a, Value.int IntKind.i64 b, Value.int IntKind.i64 c], Value.pointer (some { block := w.heap.size + 1, off := 0 }), Value.int IntKind.i64 i, Value.pointer (some { block := w.heap.size + 1, off := 1 }), Value.int IntKind.i64 f, Value.pointer (some { block := w.heap.size + 1, off := 2 }), Value.int IntKind.i64 r, Value.tuple #[Value.agg #[Value.int IntKind.i64 x, Value.int IntKind.i64 y, Value.int IntKind.i64 z], Value.int IntKind.i64 p, Value.int IntKind.i64 n], Value.agg #[Value.int IntKind.i64 x, Value.int IntKind.i64 y, Value.int IntKind.i64 z], Value.int IntKind.i64 p, Value.int IntKind.i64 n, Value.agg #[Value.int IntKind.i64 x, Value.int IntKind.i64 y, Value.int IntKind.i64 z], Value.agg #[Value.int IntKind.i64 x, Value.int IntKind.i64 y, Value.int IntKind.i64 z], Value.bool true, Value.bool true, Value.int IntKind.i64 p, Value.int IntKind.i64 p, Value.bool true, Value.bool true, Value.bool true, Value.int IntKind.i64 n, Value.int IntKind.i64 n, Value.bool true, Value.bool true, Value.bool true, Value.agg #[Value.int IntKind.i64 a, Value.int IntKind.i64 b, Value.int IntKind.i64 c], Value.bool true, Value.agg #[Value.int IntKind.i64 a, Value.int IntKind.i64 b, Value.int IntKind.i64 c], Value.bool true, Value.bool true, Value.bool true, Value.bool true, Value.agg #[Value.int IntKind.i64 a, Value.int IntKind.i64 b, Value.int IntKind.i64 c], Value.bool true, Value.bool false, Value.bool false, Value.agg #[Value.int IntKind.i64 a, Value.int IntKind.i64 b, Value.int IntKind.i64 c], Value.int IntKind.i64 (a + b + c), Value.pointer (some { block := w.heap.size, off := 0 }), Value.int IntKind.i64 a, Value.pointer (some { block := w.heap.size, off := 1 }), Value.int IntKind.i64 b, Value.int IntKind.i64 (a + b), Value.pointer (some { block := w.heap.size, off := 2 }), Value.int IntKind.i64 c, Value.int IntKind.i64 (a + b + c), Value.bool true, Value.bool true, Value.bool true] from by kernel_rfl]
      go_wp2
      go_ret
      exact ⟨rfl, hBe⟩
  | false =>
    have HR := Lib.hid (fun W => right_any a b c false hv W)
    have HQ := Lib.hid (fun W => rright_any a b c false hv W)
    clear hv
    refine region_flow (by kernel_rfl) (by kernel_rfl) [(37, Value.agg #[Value.int IntKind.i64 x, Value.int IntKind.i64 y, Value.int IntKind.i64 z]), (38, Value.agg #[Value.int IntKind.i64 x, Value.int IntKind.i64 y, Value.int IntKind.i64 z]), (39, Value.bool true), (40, Value.bool true), (41, Value.int IntKind.i64 p), (42, Value.int IntKind.i64 p), (43, Value.bool true), (44, Value.bool true), (45, Value.bool true), (46, Value.int IntKind.i64 n), (47, Value.int IntKind.i64 n), (48, Value.bool true), (49, Value.bool true), (50, Value.bool true), (51, Value.agg #[Value.int IntKind.i64 a, Value.int IntKind.i64 b, Value.int IntKind.i64 c]), (52, Value.bool false), (53, Value.agg #[Value.int IntKind.i64 a, Value.int IntKind.i64 b, Value.int IntKind.i64 c]), (54, Value.bool false), (55, Value.bool true), (56, Value.bool true), (57, Value.bool true), (58, Value.agg #[Value.int IntKind.i64 a, Value.int IntKind.i64 b, Value.int IntKind.i64 c]), (59, Value.bool false), (60, Value.bool true), (61, Value.bool true), (62, undef), (63, undef), (64, undef), (65, undef), (66, undef), (67, undef), (68, undef), (69, undef), (70, undef), (71, undef), (72, undef), (73, Value.bool true), (74, Value.bool true), (4, Value.bool true)] (by kernel_rfl) (fun WW => Blk WW (w.heap.size) 23 [Value.int IntKind.i64 a, Value.int IntKind.i64 b, Value.int IntKind.i64 c] ∧ Blk WW (w2.heap.size) 23 [Value.int IntKind.i64 x, Value.int IntKind.i64 y, Value.int IntKind.i64 z] ∧ Blk WW (w3.heap.size) 23 [Value.int IntKind.i64 x, Value.int IntKind.i64 y, Value.int IntKind.i64 z] ∧ Below w.heap.size w WW) ⟨hD.drew, hX.drew, hY.drew, hBe.drew⟩ ?_ ?_
    · intro iI oO sS vV AC WW ho hx hf hkp K hK
      clear hBe hD hX hY
      obtain ⟨hD, hX, hY, hBe⟩ := hkp
      have hsz : AC.tmps.size = 75 := hf.size
      have hlt : iI < 39 := (Array.getElem?_eq_some_iff.1 ho).1
      rcases iI with _ | _ | _ | _ | _ | _ | _ | _ | _ | _ | _ | _ | _ | _ | _ | _ | _ | _ | _ | _ | _ | _ | _ | _ | _ | _ | _ | _ | _ | _ | _ | _ | _ | _ | _ | _ | _ | _ | _ | iI
      · obtain rfl := Option.some.inj (show some _ = some oO from ho)
        obtain ⟨rfl, rfl⟩ := Prod.mk.inj (Option.some.inj (show some (37, Value.agg #[Value.int IntKind.i64 x, Value.int IntKind.i64 y, Value.int IntKind.i64 z]) = some (sS, vV) from hx))
        rw [if_pos (by rfl)]
        have q5 : AC.tmps.getD 5 undef = Value.pointer (some { block := w2.heap.size, off := 0 }) := hf.rest 5 (by kernel_rfl)
        have z0 := hX.cell 0 _ rfl
        have z1 := hX.cell 1 _ rfl
        have z2 := hX.cell 2 _ rfl
        go_simp
        exact hK _ ⟨hD, hX, hY, hBe⟩
      · obtain rfl := Option.some.inj (show some _ = some oO from ho)
        obtain ⟨rfl, rfl⟩ := Prod.mk.inj (Option.some.inj (show some (38, Value.agg #[Value.int IntKind.i64 x, Value.int IntKind.i64 y, Value.int IntKind.i64 z]) = some (sS, vV) from hx))
        rw [if_pos (by rfl)]
        have q8 : AC.tmps.getD 8 undef = Value.pointer (some { block := w3.heap.size, off := 0 }) := hf.rest 8 (by kernel_rfl)
        have z0 := hY.cell 0 _ rfl
        have z1 := hY.cell 1 _ rfl
        have z2 := hY.cell 2 _ rfl
        go_simp
        exact hK _ ⟨hD, hX, hY, hBe⟩
      · obtain rfl := Option.some.inj (show some _ = some oO from ho)
        obtain ⟨rfl, rfl⟩ := Prod.mk.inj (Option.some.inj (show some (39, Value.bool true) = some (sS, vV) from hx))
        rw [if_pos (by rfl)]
        have q37 : AC.tmps.getD 37 undef = Value.agg #[Value.int IntKind.i64 x, Value.int IntKind.i64 y, Value.int IntKind.i64 z] := hf.dep ⟨0, .data⟩ (by simp) rfl _ _ rfl
        have q38 : AC.tmps.getD 38 undef = Value.agg #[Value.int IntKind.i64 x, Value.int IntKind.i64 y, Value.int IntKind.i64 z] := hf.dep ⟨1, .data⟩ (by simp) rfl _ _ rfl
        go_simp
        exact hK _ ⟨hD, hX, hY, hBe⟩
      · obtain rfl := Option.some.inj (show some _ = some oO from ho)
        obtain ⟨rfl, rfl⟩ := Prod.mk.inj (Option.some.inj (show some (40, Value.bool true) = some (sS, vV) from hx))
        rw [if_pos (by rfl)]
        have q39 : AC.tmps.getD 39 undef = Value.bool true := hf.dep ⟨2, .data⟩ (by simp) rfl _ _ rfl
        go_simp
        exact hK _ ⟨hD, hX, hY, hBe⟩
      · obtain rfl := Option.some.inj (show some _ = some oO from ho)
        obtain ⟨rfl, rfl⟩ := Prod.mk.inj (Option.some.inj (show some (41, Value.int IntKind.i64 p) = some (sS, vV) from hx))
        rw [if_pos (wanted_yes (s := 40) rfl rfl rfl (by omega) (hf.dep ⟨3, .guard⟩ (by simp) rfl 40 (Value.bool true) rfl))]
        have q6 : AC.tmps.getD 6 undef = Value.int IntKind.i64 p := hf.rest 6 (by kernel_rfl)
        go_simp
        exact hK _ ⟨hD, hX, hY, hBe⟩
      · obtain rfl := Option.some.inj (show some _ = some oO from ho)
        obtain ⟨rfl, rfl⟩ := Prod.mk.inj (Option.some.inj (show some (42, Value.int IntKind.i64 p) = some (sS, vV) from hx))
        rw [if_pos (wanted_yes (s := 40) rfl rfl rfl (by omega) (hf.dep ⟨3, .guard⟩ (by simp) rfl 40 (Value.bool true) rfl))]
        have q9 : AC.tmps.getD 9 undef = Value.int IntKind.i64 p := hf.rest 9 (by kernel_rfl)
        go_simp
        exact hK _ ⟨hD, hX, hY, hBe⟩
      · obtain rfl := Option.some.inj (show some _ = some oO from ho)
        obtain ⟨rfl, rfl⟩ := Prod.mk.inj (Option.some.inj (show some (43, Value.bool true) = some (sS, vV) from hx))
        rw [if_pos (wanted_yes (s := 40) rfl rfl rfl (by omega) (hf.dep ⟨3, .guard⟩ (by simp) rfl 40 (Value.bool true) rfl))]
        have q41 : AC.tmps.getD 41 undef = Value.int IntKind.i64 p := hf.dep ⟨4, .data⟩ (by simp) rfl _ _ rfl
        have q42 : AC.tmps.getD 42 undef = Value.int IntKind.i64 p := hf.dep ⟨5, .data⟩ (by simp) rfl _ _ rfl
        go_simp
        exact hK _ ⟨hD, hX, hY, hBe⟩
      · obtain rfl := Option.some.inj (show some _ = some oO from ho)
        obtain ⟨rfl, rfl⟩ := Prod.mk.inj (Option.some.inj (show some (44, Value.bool true) = some (sS, vV) from hx))
        rw [if_pos (by rfl)]
        have q40 : AC.tmps.getD 40 undef = Value.bool true := hf.dep ⟨3, .data⟩ (by simp) rfl _ _ rfl
        have q43 : AC.tmps.getD 43 undef = Value.bool true := hf.dep ⟨6, .data⟩ (by simp) rfl _ _ rfl
        go_simp
        exact hK _ ⟨hD, hX, hY, hBe⟩
      · obtain rfl := Option.some.inj (show some _ = some oO from ho)
        obtain ⟨rfl, rfl⟩ := Prod.mk.inj (Option.some.inj (show some (45, Value.bool true) = some (sS, vV) from hx))
        rw [if_pos (by rfl)]
        have q44 : AC.tmps.getD 44 undef = Value.bool true := hf.dep ⟨7, .data⟩ (by simp) rfl _ _ rfl
        go_simp
        exact hK _ ⟨hD, hX, hY, hBe⟩
      · obtain rfl := Option.some.inj (show some _ = some oO from ho)
        obtain ⟨rfl, rfl⟩ := Prod.mk.inj (Option.some.inj (show some (46, Value.int IntKind.i64 n) = some (sS, vV) from hx))
        rw [if_pos (wanted_yes (s := 45) rfl rfl rfl (by omega) (hf.dep ⟨8, .guard⟩ (by simp) rfl 45 (Value.bool true) rfl))]
        have q7 : AC.tmps.getD 7 undef = Value.int IntKind.i64 n := hf.rest 7 (by kernel_rfl)
        go_simp
        exact hK _ ⟨hD, hX, hY, hBe⟩
      · obtain rfl := Option.some.inj (show some _ = some oO from ho)
        obtain ⟨rfl, rfl⟩ := Prod.mk.inj (Option.some.inj (show some (47, Value.int IntKind.i64 n) = some (sS, vV) from hx))
        rw [if_pos (wanted_yes (s := 45) rfl rfl rfl (by omega) (hf.dep ⟨8, .guard⟩ (by simp) rfl 45 (Value.bool true) rfl))]
        have q10 : AC.tmps.getD 10 undef = Value.int IntKind.i64 n := hf.rest 10 (by kernel_rfl)
        go_simp
        exact hK _ ⟨hD, hX, hY, hBe⟩
      · obtain rfl := Option.some.inj (show some _ = some oO from ho)
        obtain ⟨rfl, rfl⟩ := Prod.mk.inj (Option.some.inj (show some (48, Value.bool true) = some (sS, vV) from hx))
        rw [if_pos (wanted_yes (s := 45) rfl rfl rfl (by omega) (hf.dep ⟨8, .guard⟩ (by simp) rfl 45 (Value.bool true) rfl))]
        have q46 : AC.tmps.getD 46 undef = Value.int IntKind.i64 n := hf.dep ⟨9, .data⟩ (by simp) rfl _ _ rfl
        have q47 : AC.tmps.getD 47 undef = Value.int IntKind.i64 n := hf.dep ⟨10, .data⟩ (by simp) rfl _ _ rfl
        go_simp
        exact hK _ ⟨hD, hX, hY, hBe⟩
      · obtain rfl := Option.some.inj (show some _ = some oO from ho)
        obtain ⟨rfl, rfl⟩ := Prod.mk.inj (Option.some.inj (show some (49, Value.bool true) = some (sS, vV) from hx))
        rw [if_pos (by rfl)]
        have q45 : AC.tmps.getD 45 undef = Value.bool true := hf.dep ⟨8, .data⟩ (by simp) rfl _ _ rfl
        have q48 : AC.tmps.getD 48 undef = Value.bool true := hf.dep ⟨11, .data⟩ (by simp) rfl _ _ rfl
        go_simp
        exact hK _ ⟨hD, hX, hY, hBe⟩
      · obtain rfl := Option.some.inj (show some _ = some oO from ho)
        obtain ⟨rfl, rfl⟩ := Prod.mk.inj (Option.some.inj (show some (50, Value.bool true) = some (sS, vV) from hx))
        rw [if_pos (by rfl)]
        have q49 : AC.tmps.getD 49 undef = Value.bool true := hf.dep ⟨12, .data⟩ (by simp) rfl _ _ rfl
        go_simp
        exact hK _ ⟨hD, hX, hY, hBe⟩
      · obtain rfl := Option.some.inj (show some _ = some oO from ho)
        obtain ⟨rfl, rfl⟩ := Prod.mk.inj (Option.some.inj (show some (51, Value.agg #[Value.int IntKind.i64 a, Value.int IntKind.i64 b, Value.int IntKind.i64 c]) = some (sS, vV) from hx))
        rw [if_pos (wanted_yes (s := 50) rfl rfl rfl (by omega) (hf.dep ⟨13, .guard⟩ (by simp) rfl 50 (Value.bool true) rfl))]
        have q2 : AC.tmps.getD 2 undef = Value.pointer (some { block := w.heap.size, off := 0 }) := hf.rest 2 (by kernel_rfl)
        have z0 := hD.cell 0 _ rfl
        have z1 := hD.cell 1 _ rfl
        have z2 := hD.cell 2 _ rfl
        go_simp
        exact hK _ ⟨hD, hX, hY, hBe⟩
      · obtain rfl := Option.some.inj (show some _ = some oO from ho)
        obtain ⟨rfl, rfl⟩ := Prod.mk.inj (Option.some.inj (show some (52, Value.bool false) = some (sS, vV) from hx))
        rw [if_pos (wanted_yes (s := 50) rfl rfl rfl (by omega) (hf.dep ⟨13, .guard⟩ (by simp) rfl 50 (Value.bool true) rfl))]
        have q51 : AC.tmps.getD 51 undef = Value.agg #[Value.int IntKind.i64 a, Value.int IntKind.i64 b, Value.int IntKind.i64 c] := hf.dep ⟨14, .data⟩ (by simp) rfl _ _ rfl
        go_simp
        refine (HR.out _).mono ?_
        rintro e w1 ⟨rfl, hb⟩
        exact hK _ ⟨hD.keeps hb, hX.keeps hb, hY.keeps hb, below_on hBe hBe.size hb⟩
      · obtain rfl := Option.some.inj (show some _ = some oO from ho)
        obtain ⟨rfl, rfl⟩ := Prod.mk.inj (Option.some.inj (show some (53, Value.agg #[Value.int IntKind.i64 a, Value.int IntKind.i64 b, Value.int IntKind.i64 c]) = some (sS, vV) from hx))
        rw [if_pos (wanted_yes (s := 50) rfl rfl rfl (by omega) (hf.dep ⟨13, .guard⟩ (by simp) rfl 50 (Value.bool true) rfl))]
        have q2 : AC.tmps.getD 2 undef = Value.pointer (some { block := w.heap.size, off := 0 }) := hf.rest 2 (by kernel_rfl)
        have z0 := hD.cell 0 _ rfl
        have z1 := hD.cell 1 _ rfl
        have z2 := hD.cell 2 _ rfl
        go_simp
        exact hK _ ⟨hD, hX, hY, hBe⟩
      · obtain rfl := Option.some.inj (show some _ = some oO from ho)
        obtain ⟨rfl, rfl⟩ := Prod.mk.inj (Option.some.inj (show some (54, Value.bool false) = some (sS, vV) from hx))
        rw [if_pos (wanted_yes (s := 50) rfl rfl rfl (by omega) (hf.dep ⟨13, .guard⟩ (by simp) rfl 50 (Value.bool true) rfl))]
        have q53 : AC.tmps.getD 53 undef = Value.agg #[Value.int IntKind.i64 a, Value.int IntKind.i64 b, Value.int IntKind.i64 c] := hf.dep ⟨16, .data⟩ (by simp) rfl _ _ rfl
        go_simp
        refine (HQ.out _).mono ?_
        rintro e w1 ⟨rfl, hb⟩
        exact hK _ ⟨hD.keeps hb, hX.keeps hb, hY.keeps hb, below_on hBe hBe.size hb⟩
      · obtain rfl := Option.some.inj (show some _ = some oO from ho)
        obtain ⟨rfl, rfl⟩ := Prod.mk.inj (Option.some.inj (show some (55, Value.bool true) = some (sS, vV) from hx))
        rw [if_pos (wanted_yes (s := 50) rfl rfl rfl (by omega) (hf.dep ⟨13, .guard⟩ (by simp) rfl 50 (Value.bool true) rfl))]
        have q52 : AC.tmps.getD 52 undef = Value.bool false := hf.dep ⟨15, .data⟩ (by simp) rfl _ _ rfl
        have q54 : AC.tmps.getD 54 undef = Value.bool false := hf.dep ⟨17, .data⟩ (by simp) rfl _ _ rfl
        go_simp
        exact hK _ ⟨hD, hX, hY, hBe⟩
      · obtain rfl := Option.some.inj (show some _ = some oO from ho)
        obtain ⟨rfl, rfl⟩ := Prod.mk.inj (Option.some.inj (show some (56, Value.bool true) = some (sS, vV) from hx))
        rw [if_pos (by rfl)]
        have q50 : AC.tmps.getD 50 undef = Value.bool true := hf.dep ⟨13, .data⟩ (by simp) rfl _ _ rfl
        have q55 : AC.tmps.getD 55 undef = Value.bool true := hf.dep ⟨18, .data⟩ (by simp) rfl _ _ rfl
        go_simp
        exact hK _ ⟨hD, hX, hY, hBe⟩
      · obtain rfl := Option.some.inj (show some _ = some oO from ho)
        obtain ⟨rfl, rfl⟩ := Prod.mk.inj (Option.some.inj (show some (57, Value.bool true) = some (sS, vV) from hx))
        rw [if_pos (by rfl)]
        have q56 : AC.tmps.getD 56 undef = Value.bool true := hf.dep ⟨19, .data⟩ (by simp) rfl _ _ rfl
        go_simp
        exact hK _ ⟨hD, hX, hY, hBe⟩
      · obtain rfl := Option.some.inj (show some _ = some oO from ho)
        obtain ⟨rfl, rfl⟩ := Prod.mk.inj (Option.some.inj (show some (58, Value.agg #[Value.int IntKind.i64 a, Value.int IntKind.i64 b, Value.int IntKind.i64 c]) = some (sS, vV) from hx))
        rw [if_pos (wanted_yes (s := 57) rfl rfl rfl (by omega) (hf.dep ⟨20, .guard⟩ (by simp) rfl 57 (Value.bool true) rfl))]
        have q2 : AC.tmps.getD 2 undef = Value.pointer (some { block := w.heap.size, off := 0 }) := hf.rest 2 (by kernel_rfl)
        have z0 := hD.cell 0 _ rfl
        have z1 := hD.cell 1 _ rfl
        have z2 := hD.cell 2 _ rfl
        go_simp
        exact hK _ ⟨hD, hX, hY, hBe⟩
      · obtain rfl := Option.some.inj (show some _ = some oO from ho)
        obtain ⟨rfl, rfl⟩ := Prod.mk.inj (Option.some.inj (show some (59, Value.bool false) = some (sS, vV) from hx))
        rw [if_pos (wanted_yes (s := 57) rfl rfl rfl (by omega) (hf.dep ⟨20, .guard⟩ (by simp) rfl 57 (Value.bool true) rfl))]
        have q58 : AC.tmps.getD 58 undef = Value.agg #[Value.int IntKind.i64 a, Value.int IntKind.i64 b, Value.int IntKind.i64 c] := hf.dep ⟨21, .data⟩ (by simp) rfl _ _ rfl
        go_simp
        refine (HQ.out _).mono ?_
        rintro e w1 ⟨rfl, hb⟩
        exact hK _ ⟨hD.keeps hb, hX.keeps hb, hY.keeps hb, below_on hBe hBe.size hb⟩
      · obtain rfl := Option.some.inj (show some _ = some oO from ho)
        obtain ⟨rfl, rfl⟩ := Prod.mk.inj (Option.some.inj (show some (60, Value.bool true) = some (sS, vV) from hx))
        rw [if_pos (wanted_yes (s := 57) rfl rfl rfl (by omega) (hf.dep ⟨20, .guard⟩ (by simp) rfl 57 (Value.bool true) rfl))]
        have q59 : AC.tmps.getD 59 undef = Value.bool false := hf.dep ⟨22, .data⟩ (by simp) rfl _ _ rfl
        go_simp
        exact hK _ ⟨hD, hX, hY, hBe⟩
      · obtain rfl := Option.some.inj (show some _ = some oO from ho)
        obtain ⟨rfl, rfl⟩ := Prod.mk.inj (Option.some.inj (show some (61, Value.bool true) = some (sS, vV) from hx))
        rw [if_pos (wanted_yes (s := 57) rfl rfl rfl (by omega) (hf.dep ⟨20, .guard⟩ (by simp) rfl 57 (Value.bool true) rfl))]
        have q60 : AC.tmps.getD 60 undef = Value.bool true := hf.dep ⟨23, .data⟩ (by simp) rfl _ _ rfl
        go_simp
        exact hK _ ⟨hD, hX, hY, hBe⟩
      · obtain rfl := Option.some.inj (show some _ = some oO from ho)
        obtain ⟨rfl, rfl⟩ := Prod.mk.inj (Option.some.inj (show some (62, undef) = some (sS, vV) from hx))
        rw [if_neg (wanted_no (s := 61) rfl rfl rfl (by omega) (hf.dep ⟨24, .guard⟩ (by simp) rfl 61 (Value.bool true) rfl) rfl)]
        exact hK _ ⟨hD, hX, hY, hBe⟩
      · obtain rfl := Option.some.inj (show some _ = some oO from ho)
        obtain ⟨rfl, rfl⟩ := Prod.mk.inj (Option.some.inj (show some (63, undef) = some (sS, vV) from hx))
        rw [if_neg (wanted_no (s := 61) rfl rfl rfl (by omega) (hf.dep ⟨24, .guard⟩ (by simp) rfl 61 (Value.bool true) rfl) rfl)]
        exact hK _ ⟨hD, hX, hY, hBe⟩
      · obtain rfl := Option.some.inj (show some _ = some oO from ho)
        obtain ⟨rfl, rfl⟩ := Prod.mk.inj (Option.some.inj (show some (64, undef) = some (sS, vV) from hx))
        rw [if_neg (wanted_no (s := 61) rfl rfl rfl (by omega) (hf.dep ⟨24, .guard⟩ (by simp) rfl 61 (Value.bool true) rfl) rfl)]
        exact hK _ ⟨hD, hX, hY, hBe⟩
      · obtain rfl := Option.some.inj (show some _ = some oO from ho)
        obtain ⟨rfl, rfl⟩ := Prod.mk.inj (Option.some.inj (show some (65, undef) = some (sS, vV) from hx))
        rw [if_neg (wanted_no (s := 61) rfl rfl rfl (by omega) (hf.dep ⟨24, .guard⟩ (by simp) rfl 61 (Value.bool true) rfl) rfl)]
        exact hK _ ⟨hD, hX, hY, hBe⟩
      · obtain rfl := Option.some.inj (show some _ = some oO from ho)
        obtain ⟨rfl, rfl⟩ := Prod.mk.inj (Option.some.inj (show some (66, undef) = some (sS, vV) from hx))
        rw [if_neg (wanted_no (s := 61) rfl rfl rfl (by omega) (hf.dep ⟨24, .guard⟩ (by simp) rfl 61 (Value.bool true) rfl) rfl)]
        exact hK _ ⟨hD, hX, hY, hBe⟩
      · obtain rfl := Option.some.inj (show some _ = some oO from ho)
        obtain ⟨rfl, rfl⟩ := Prod.mk.inj (Option.some.inj (show some (67, undef) = some (sS, vV) from hx))
        rw [if_neg (wanted_no (s := 61) rfl rfl rfl (by omega) (hf.dep ⟨24, .guard⟩ (by simp) rfl 61 (Value.bool true) rfl) rfl)]
        exact hK _ ⟨hD, hX, hY, hBe⟩
      · obtain rfl := Option.some.inj (show some _ = some oO from ho)
        obtain ⟨rfl, rfl⟩ := Prod.mk.inj (Option.some.inj (show some (68, undef) = some (sS, vV) from hx))
        rw [if_neg (wanted_no (s := 61) rfl rfl rfl (by omega) (hf.dep ⟨24, .guard⟩ (by simp) rfl 61 (Value.bool true) rfl) rfl)]
        exact hK _ ⟨hD, hX, hY, hBe⟩
      · obtain rfl := Option.some.inj (show some _ = some oO from ho)
        obtain ⟨rfl, rfl⟩ := Prod.mk.inj (Option.some.inj (show some (69, undef) = some (sS, vV) from hx))
        rw [if_neg (wanted_no (s := 61) rfl rfl rfl (by omega) (hf.dep ⟨24, .guard⟩ (by simp) rfl 61 (Value.bool true) rfl) rfl)]
        exact hK _ ⟨hD, hX, hY, hBe⟩
      · obtain rfl := Option.some.inj (show some _ = some oO from ho)
        obtain ⟨rfl, rfl⟩ := Prod.mk.inj (Option.some.inj (show some (70, undef) = some (sS, vV) from hx))
        rw [if_neg (wanted_no (s := 61) rfl rfl rfl (by omega) (hf.dep ⟨24, .guard⟩ (by simp) rfl 61 (Value.bool true) rfl) rfl)]
        exact hK _ ⟨hD, hX, hY, hBe⟩
      · obtain rfl := Option.some.inj (show some _ = some oO from ho)
        obtain ⟨rfl, rfl⟩ := Prod.mk.inj (Option.some.inj (show some (71, undef) = some (sS, vV) from hx))
        rw [if_neg (wanted_no (s := 61) rfl rfl rfl (by omega) (hf.dep ⟨24, .guard⟩ (by simp) rfl 61 (Value.bool true) rfl) rfl)]
        exact hK _ ⟨hD, hX, hY, hBe⟩
      · obtain rfl := Option.some.inj (show some _ = some oO from ho)
        obtain ⟨rfl, rfl⟩ := Prod.mk.inj (Option.some.inj (show some (72, undef) = some (sS, vV) from hx))
        rw [if_neg (wanted_no (s := 61) rfl rfl rfl (by omega) (hf.dep ⟨24, .guard⟩ (by simp) rfl 61 (Value.bool true) rfl) rfl)]
        exact hK _ ⟨hD, hX, hY, hBe⟩
      · obtain rfl := Option.some.inj (show some _ = some oO from ho)
        obtain ⟨rfl, rfl⟩ := Prod.mk.inj (Option.some.inj (show some (73, Value.bool true) = some (sS, vV) from hx))
        rw [if_pos (wanted_yes (s := 57) rfl rfl rfl (by omega) (hf.dep ⟨20, .guard⟩ (by simp) rfl 57 (Value.bool true) rfl))]
        have q61 : AC.tmps.getD 61 undef = Value.bool true := hf.dep ⟨24, .data⟩ (by simp) rfl _ _ rfl
        have q72 : AC.tmps.getD 72 undef = undef := hf.dep ⟨35, .data⟩ (by simp) rfl _ _ rfl
        go_simp
        exact hK _ ⟨hD, hX, hY, hBe⟩
      · obtain rfl := Option.some.inj (show some _ = some oO from ho)
        obtain ⟨rfl, rfl⟩ := Prod.mk.inj (Option.some.inj (show some (74, Value.bool true) = some (sS, vV) from hx))
        rw [if_pos (by rfl)]
        have q57 : AC.tmps.getD 57 undef = Value.bool true := hf.dep ⟨20, .data⟩ (by simp) rfl _ _ rfl
        have q73 : AC.tmps.getD 73 undef = Value.bool true := hf.dep ⟨36, .data⟩ (by simp) rfl _ _ rfl
        go_simp
        exact hK _ ⟨hD, hX, hY, hBe⟩
      · obtain rfl := Option.some.inj (show some _ = some oO from ho)
        obtain ⟨rfl, rfl⟩ := Prod.mk.inj (Option.some.inj (show some (4, Value.bool true) = some (sS, vV) from hx))
        rw [if_pos (by rfl)]
        have q74 : AC.tmps.getD 74 undef = Value.bool true := hf.dep ⟨37, .data⟩ (by simp) rfl _ _ rfl
        go_simp
        exact hK _ ⟨hD, hX, hY, hBe⟩
      · omega
    · intro WW hkp
      clear hBe hD hX hY
      obtain ⟨hD, hX, hY, hBe⟩ := hkp
      rw [show laid _ _ = #[Value.agg #[Value.int IntKind.i64 a, Value.int IntKind.i64 b, Value.int IntKind.i64 c], Value.agg #[Value.int IntKind.i64 i, Value.int IntKind.i64 f, Value.int IntKind.i64 r], Value.pointer (some { block := w.heap.size, off := 0 }), Value.pointer (some { block := w.heap.size + 1, off := 0 }), Value.bool true, Value.pointer (some { block := w2.heap.size, off := 0 }), Value.int IntKind.i64 p, Value.int IntKind.i64 n, Value.pointer (some { block := w3.heap.size, off := 0 }), Value.int IntKind.i64 p, Value.int IntKind.i64 n, Value.bool true, Value.bool false, Value.tuple #[Value.agg #[Value.int IntKind.i64 x, Value.int IntKind.i64 y, Value.int IntKind.i64 z], Value.int IntKind.i64 p, Value.int IntKind.i64 n], Value.agg #[Value.int IntKind.i64 a, Value.int IntKind.i64 b, Value.int IntKind.i64 c], Value.pointer (some { block := w.heap.size + 1, off := 0 }), Value.int IntKind.i64 i, Value.pointer (some { block := w.heap.size + 1, off := 1 }), Value.int IntKind.i64 f, Value.pointer (some { block := w.heap.size + 1, off := 2 }), Value.int IntKind.i64 r, Value.tuple #[Value.agg #[Value.int IntKind.i64 x, Value.int IntKind.i64 y, Value.int IntKind.i64 z], Value.int IntKind.i64 p, Value.int IntKind.i64 n], Value.agg #[Value.int IntKind.i64 x, Value.int IntKind.i64 y, Value.int IntKind.i64 z], Value.int IntKind.i64 p, Value.int IntKind.i64 n, Value.tuple #[Value.agg #[Value.int IntKind.i64 x, Value.int IntKind.i64 y, Value.int IntKind.i64 z], Value.int IntKind.i64 p, Value.int IntKind.i64 n], Value.agg #[Value.int IntKind.i64 a, Value.int IntKind.i64 b, Value.int IntKind.i64 c], Value.pointer (some { block := w.heap.size + 1, off := 0 }), Value.int IntKind.i64 i, Value.pointer (some { block := w.heap.size + 1, off := 1 }), Value.int IntKind.i64 f, Value.pointer (some { block := w.heap.size + 1, off := 2 }), Value.int IntKind.i64 r, Value.tuple #[Value.agg #[Value.int IntKind.i64 x, Value.int IntKind.i64 y, Value.int IntKind.i64 z], Value.int IntKind.i64 p, Value.int IntKind.i64 n], Value.agg #[Value.int IntKind.i64 x, Value.int IntKind.i64 y, Value.int IntKind.i64 z], Value.int IntKind.i64 p, Value.int IntKind.i64 n, Value.agg #[Value.int IntKind.i64 x, Value.int IntKind.i64 y, Value.int IntKind.i64 z], Value.agg #[Value.int IntKind.i64 x, Value.int IntKind.i64 y, Value.int IntKind.i64 z], Value.bool true, Value.bool true, Value.int IntKind.i64 p, Value.int IntKind.i64 p, Value.bool true, Value.bool true, Value.bool true, Value.int IntKind.i64 n, Value.int IntKind.i64 n, Value.bool true, Value.bool true, Value.bool true, Value.agg #[Value.int IntKind.i64 a, Value.int IntKind.i64 b, Value.int IntKind.i64 c], Value.bool false, Value.agg #[Value.int IntKind.i64 a, Value.int IntKind.i64 b, Value.int IntKind.i64 c], Value.bool false, Value.bool true, Value.bool true, Value.bool true, Value.agg #[Value.int IntKind.i64 a, Value.int IntKind.i64 b, Value.int IntKind.i64 c], Value.bool false, Value.bool true, Value.bool true, undef, undef, undef, undef, undef, undef, undef, undef, undef, undef, undef, Value.bool true, Value.bool true] from by kernel_rfl]
      go_wp2
      go_ret
      exact ⟨rfl, hBe⟩
end Go.Proofs.Ytlbnednpagddaaa
