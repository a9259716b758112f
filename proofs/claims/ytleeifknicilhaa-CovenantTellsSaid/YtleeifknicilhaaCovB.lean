/-
  Covenants: the walks of Broken, Most, and of the reference.
-/
import Derived.Test.YtleeifknicilhaaCov
set_option linter.unusedVariables false
set_option linter.unusedSimpArgs false
namespace Go.Proofs.Ytleeifknicilhaa
open Go.RowKit Dg

def brk (x y z : Bool) : Int := (if x then 0 else 1) + (if y then 0 else 2) + (if z then 0 else 4)
set_option maxRecDepth 8000 in
set_option maxHeartbeats 1600000 in
theorem broken_ttt (o c v i s l t d : Int) (hR : rightF o c v i s l t d = true) (h1 : i64 o) (h2 : i64 c) (h3 : i64 v) (h4 : i64 i) (h5 : i64 s) (h6 : i64 l) (h7 : i64 t) (h8 : i64 d)
    (e1 : ltcB o c l = true) (e2 : ltcB o v t = true) (e3 : dscrB i s d = true) (w : World) :
    Calls Try.prog 8 #[.agg #[.int .i64 o, .int .i64 c, .int .i64 v, .int .i64 i, .int .i64 s], .agg #[.int .i64 l, .int .i64 t, .int .i64 d]] w fun e w' => e = .returned (.tuple #[.int .i64 0, .int .i64 0]) ∧ Below w.heap.size w w' := by
  have HRR := Lib.hid (fun W => cright_any o c v i s l t d true hR W)
  have HLt := Lib.hid (fun W => cltc_any o c v i s l t d h1 h2 h6 W)
  have HLv := Lib.hid (fun W => cltv_any o c v i s l t d h1 h3 h7 W)
  have HLd := Lib.hid (fun W => cdscr_any o c v i s l t d h4 h5 h8 W)
  rw [e1] at HLt; rw [e2] at HLv; rw [e3] at HLd
  have b71 : bits .andNot .i64 7 1 = 6 := by decide
  have b72 : bits .andNot .i64 7 2 = 5 := by decide
  have b62 : bits .andNot .i64 6 2 = 4 := by decide
  have b74 : bits .andNot .i64 7 4 = 3 := by decide
  have b64 : bits .andNot .i64 6 4 = 2 := by decide
  have b54 : bits .andNot .i64 5 4 = 1 := by decide
  have b44 : bits .andNot .i64 4 4 = 0 := by decide
  have ix0 : ∀ W, (Instr.index 41 (.agg #[.int .i64 1, .bool true, .int .i64 2, .bool true, .int .i64 4, .bool true]) (.int .i64 0)).run Try.prog W = .ok (.agg #[.int .i64 1, .bool true]) W := fun W => by kernel_rfl
  have ix1 : ∀ W, (Instr.index 41 (.agg #[.int .i64 1, .bool true, .int .i64 2, .bool true, .int .i64 4, .bool true]) (.int .i64 1)).run Try.prog W = .ok (.agg #[.int .i64 2, .bool true]) W := fun W => by kernel_rfl
  have ix2 : ∀ W, (Instr.index 41 (.agg #[.int .i64 1, .bool true, .int .i64 2, .bool true, .int .i64 4, .bool true]) (.int .i64 2)).run Try.prog W = .ok (.agg #[.int .i64 4, .bool true]) W := fun W => by kernel_rfl
  clear hR e1 e2 e3 h1 h2 h3 h4 h5 h6 h7 h8
  have HB := Lib.hid (below_new2 w (.cells #[.int .i64 o, .int .i64 c, .int .i64 v, .int .i64 i, .int .i64 s] 26) (.cells #[.int .i64 l, .int .i64 t, .int .i64 d] 28))
  have HA := Lib.hid ((Blk.new w 26 [.int .i64 o, .int .i64 c, .int .i64 v, .int .i64 i, .int .i64 s]).alloc (.cells #[.int .i64 l, .int .i64 t, .int .i64 d] 28))
  have HC := Lib.hid (Blk.new2 w (.cells #[.int .i64 o, .int .i64 c, .int .i64 v, .int .i64 i, .int .i64 s] 26) 28 [.int .i64 l, .int .i64 t, .int .i64 d])
  go_enter Try.func8, Try.ntmps8
  have hA := HA.out
  have hC := HC.out
  have a0 := hA.cell 0 _ rfl; have a1 := hA.cell 1 _ rfl; have a2 := hA.cell 2 _ rfl; have a3 := hA.cell 3 _ rfl; have a4 := hA.cell 4 _ rfl
  have c0 := hC.cell 0 _ rfl; have c1 := hC.cell 1 _ rfl; have c2 := hC.cell 2 _ rfl
  go_wp2_with fail
  refine (HRR.out _).mono ?_
  rintro e w1 ⟨rfl, hb1⟩
  have HA2 := Lib.hid (HA.out.keeps hb1)
  have HC2 := Lib.hid (HC.out.keeps hb1)
  have HB3 := Lib.hid (below_on HB.out HB.out.size hb1)
  clear a0 a1 a2 a3 a4 c0 c1 c2 hA hC hb1 HA HC HB
  go_wp2_with fail
  refine region_mono (by kernel_rfl) (by kernel_rfl) [some 13, some 14, some 15, some 16, some 17, some 18, some 19, some 20, some 21, some 22, some 23, some 24, some 25, some 26] (by kernel_rfl) w.heap.size w HB3.out (Nat.le_refl _) (fun iV vV WW => match iV with | 0 => vV = .agg #[.int .i64 o, .int .i64 c, .int .i64 v, .int .i64 i, .int .i64 s] | 1 => vV = .agg #[.int .i64 l, .int .i64 t, .int .i64 d] | 2 => vV = .bool true | 3 => vV = .agg #[.int .i64 1, .bool true] | 4 => vV = .agg #[.int .i64 o, .int .i64 c, .int .i64 v, .int .i64 i, .int .i64 s] | 5 => vV = .agg #[.int .i64 l, .int .i64 t, .int .i64 d] | 6 => vV = .bool true | 7 => vV = .agg #[.int .i64 2, .bool true] | 8 => vV = .agg #[.int .i64 o, .int .i64 c, .int .i64 v, .int .i64 i, .int .i64 s] | 9 => vV = .agg #[.int .i64 l, .int .i64 t, .int .i64 d] | 10 => vV = .bool true | 11 => vV = .agg #[.int .i64 4, .bool true] | 12 => vV = .agg #[.int .i64 1, .bool true, .int .i64 2, .bool true, .int .i64 4, .bool true] | 13 => vV = .int .i64 0 | _ => True) ?_ ?_ ?_
  · intro iV vV WW WX h hbx
    rcases iV with _ | _ | _ | _ | _ | _ | _ | _ | _ | _ | _ | _ | _ | _ | i
    · exact h
    · exact h
    · exact h
    · exact h
    · exact h
    · exact h
    · exact h
    · exact h
    · exact h
    · exact h
    · exact h
    · exact h
    · exact h
    · exact h
    · trivial
  · intro iI oO V AC WW ho hf hbw K hK
    have hlt : iI < 14 := (Array.getElem?_eq_some_iff.1 ho).1
    rcases iI with _ | _ | _ | _ | _ | _ | _ | _ | _ | _ | _ | _ | _ | _ | iI
    · obtain rfl := Option.some.inj (show some _ = some oO from ho)
      rw [if_pos (by rfl)]
      have q2 : AC.tmps.getD 2 undef = .pointer (some ⟨w.heap.size, 0, none⟩) := hf.rest 2 (by kernel_rfl)
      have hA := HA2.out.keeps hbw
      have a0 := hA.cell 0 _ rfl; have a1 := hA.cell 1 _ rfl; have a2 := hA.cell 2 _ rfl; have a3 := hA.cell 3 _ rfl; have a4 := hA.cell 4 _ rfl
      go_simp
      exact hK _ _ (Below.refl _ _) rfl
    · obtain rfl := Option.some.inj (show some _ = some oO from ho)
      rw [if_pos (by rfl)]
      have q3 : AC.tmps.getD 3 undef = .pointer (some ⟨w.heap.size + 1, 0, none⟩) := hf.rest 3 (by kernel_rfl)
      have hC := HC2.out.keeps hbw
      have c0 := hC.cell 0 _ rfl; have c1 := hC.cell 1 _ rfl; have c2 := hC.cell 2 _ rfl
      go_simp
      exact hK _ _ (Below.refl _ _) rfl
    · obtain rfl := Option.some.inj (show some _ = some oO from ho)
      rw [if_pos (by rfl)]
      have q13 : AC.tmps.getD 13 undef = .agg #[.int .i64 o, .int .i64 c, .int .i64 v, .int .i64 i, .int .i64 s] := ((hf.dep ⟨0, .data⟩ (by simp) rfl).2 13 rfl).trans (hf.dep ⟨0, .data⟩ (by simp) rfl).1
      have q14 : AC.tmps.getD 14 undef = .agg #[.int .i64 l, .int .i64 t, .int .i64 d] := ((hf.dep ⟨1, .data⟩ (by simp) rfl).2 14 rfl).trans (hf.dep ⟨1, .data⟩ (by simp) rfl).1
      go_simp
      refine (HLt.out WW).mono ?_
      rintro e w6 ⟨rfl, hb6⟩
      exact hK _ _ hb6 rfl
    · obtain rfl := Option.some.inj (show some _ = some oO from ho)
      rw [if_pos (by rfl)]
      have q15 : AC.tmps.getD 15 undef = .bool true := ((hf.dep ⟨2, .data⟩ (by simp) rfl).2 15 rfl).trans (hf.dep ⟨2, .data⟩ (by simp) rfl).1
      have pp15 := q15
      rw [Array.getD_eq_getD_getElem?] at pp15
      go_simp
      exact hK _ _ (Below.refl _ _) rfl
    · obtain rfl := Option.some.inj (show some _ = some oO from ho)
      rw [if_pos (by rfl)]
      have q2 : AC.tmps.getD 2 undef = .pointer (some ⟨w.heap.size, 0, none⟩) := hf.rest 2 (by kernel_rfl)
      have hA := HA2.out.keeps hbw
      have a0 := hA.cell 0 _ rfl; have a1 := hA.cell 1 _ rfl; have a2 := hA.cell 2 _ rfl; have a3 := hA.cell 3 _ rfl; have a4 := hA.cell 4 _ rfl
      go_simp
      exact hK _ _ (Below.refl _ _) rfl
    · obtain rfl := Option.some.inj (show some _ = some oO from ho)
      rw [if_pos (by rfl)]
      have q3 : AC.tmps.getD 3 undef = .pointer (some ⟨w.heap.size + 1, 0, none⟩) := hf.rest 3 (by kernel_rfl)
      have hC := HC2.out.keeps hbw
      have c0 := hC.cell 0 _ rfl; have c1 := hC.cell 1 _ rfl; have c2 := hC.cell 2 _ rfl
      go_simp
      exact hK _ _ (Below.refl _ _) rfl
    · obtain rfl := Option.some.inj (show some _ = some oO from ho)
      rw [if_pos (by rfl)]
      have q17 : AC.tmps.getD 17 undef = .agg #[.int .i64 o, .int .i64 c, .int .i64 v, .int .i64 i, .int .i64 s] := ((hf.dep ⟨4, .data⟩ (by simp) rfl).2 17 rfl).trans (hf.dep ⟨4, .data⟩ (by simp) rfl).1
      have q18 : AC.tmps.getD 18 undef = .agg #[.int .i64 l, .int .i64 t, .int .i64 d] := ((hf.dep ⟨5, .data⟩ (by simp) rfl).2 18 rfl).trans (hf.dep ⟨5, .data⟩ (by simp) rfl).1
      go_simp
      refine (HLv.out WW).mono ?_
      rintro e w6 ⟨rfl, hb6⟩
      exact hK _ _ hb6 rfl
    · obtain rfl := Option.some.inj (show some _ = some oO from ho)
      rw [if_pos (by rfl)]
      have q19 : AC.tmps.getD 19 undef = .bool true := ((hf.dep ⟨6, .data⟩ (by simp) rfl).2 19 rfl).trans (hf.dep ⟨6, .data⟩ (by simp) rfl).1
      have pp19 := q19
      rw [Array.getD_eq_getD_getElem?] at pp19
      go_simp
      exact hK _ _ (Below.refl _ _) rfl
    · obtain rfl := Option.some.inj (show some _ = some oO from ho)
      rw [if_pos (by rfl)]
      have q2 : AC.tmps.getD 2 undef = .pointer (some ⟨w.heap.size, 0, none⟩) := hf.rest 2 (by kernel_rfl)
      have hA := HA2.out.keeps hbw
      have a0 := hA.cell 0 _ rfl; have a1 := hA.cell 1 _ rfl; have a2 := hA.cell 2 _ rfl; have a3 := hA.cell 3 _ rfl; have a4 := hA.cell 4 _ rfl
      go_simp
      exact hK _ _ (Below.refl _ _) rfl
    · obtain rfl := Option.some.inj (show some _ = some oO from ho)
      rw [if_pos (by rfl)]
      have q3 : AC.tmps.getD 3 undef = .pointer (some ⟨w.heap.size + 1, 0, none⟩) := hf.rest 3 (by kernel_rfl)
      have hC := HC2.out.keeps hbw
      have c0 := hC.cell 0 _ rfl; have c1 := hC.cell 1 _ rfl; have c2 := hC.cell 2 _ rfl
      go_simp
      exact hK _ _ (Below.refl _ _) rfl
    · obtain rfl := Option.some.inj (show some _ = some oO from ho)
      rw [if_pos (by rfl)]
      have q21 : AC.tmps.getD 21 undef = .agg #[.int .i64 o, .int .i64 c, .int .i64 v, .int .i64 i, .int .i64 s] := ((hf.dep ⟨8, .data⟩ (by simp) rfl).2 21 rfl).trans (hf.dep ⟨8, .data⟩ (by simp) rfl).1
      have q22 : AC.tmps.getD 22 undef = .agg #[.int .i64 l, .int .i64 t, .int .i64 d] := ((hf.dep ⟨9, .data⟩ (by simp) rfl).2 22 rfl).trans (hf.dep ⟨9, .data⟩ (by simp) rfl).1
      go_simp
      refine (HLd.out WW).mono ?_
      rintro e w6 ⟨rfl, hb6⟩
      exact hK _ _ hb6 rfl
    · obtain rfl := Option.some.inj (show some _ = some oO from ho)
      rw [if_pos (by rfl)]
      have q23 : AC.tmps.getD 23 undef = .bool true := ((hf.dep ⟨10, .data⟩ (by simp) rfl).2 23 rfl).trans (hf.dep ⟨10, .data⟩ (by simp) rfl).1
      have pp23 := q23
      rw [Array.getD_eq_getD_getElem?] at pp23
      go_simp
      exact hK _ _ (Below.refl _ _) rfl
    · obtain rfl := Option.some.inj (show some _ = some oO from ho)
      rw [if_pos (by rfl)]
      have q16 : AC.tmps.getD 16 undef = .agg #[.int .i64 1, .bool true] := ((hf.dep ⟨3, .data⟩ (by simp) rfl).2 16 rfl).trans (hf.dep ⟨3, .data⟩ (by simp) rfl).1
      have q20 : AC.tmps.getD 20 undef = .agg #[.int .i64 2, .bool true] := ((hf.dep ⟨7, .data⟩ (by simp) rfl).2 20 rfl).trans (hf.dep ⟨7, .data⟩ (by simp) rfl).1
      have q24 : AC.tmps.getD 24 undef = .agg #[.int .i64 4, .bool true] := ((hf.dep ⟨11, .data⟩ (by simp) rfl).2 24 rfl).trans (hf.dep ⟨11, .data⟩ (by simp) rfl).1
      have pp16 := q16
      rw [Array.getD_eq_getD_getElem?] at pp16
      have pp20 := q20
      rw [Array.getD_eq_getD_getElem?] at pp20
      have pp24 := q24
      rw [Array.getD_eq_getD_getElem?] at pp24
      go_simp
      exact hK _ _ (Below.refl _ _) rfl
    · obtain rfl := Option.some.inj (show some _ = some oO from ho)
      rw [if_pos (by rfl)]
      go_simp
      exact hK _ _ (Below.refl _ _) rfl
    · omega
  · intro V WW hall hbw hBW
    have vv0 : V 0 = .agg #[.int .i64 o, .int .i64 c, .int .i64 v, .int .i64 i, .int .i64 s] := hall 0 (by decide)
    have vv1 : V 1 = .agg #[.int .i64 l, .int .i64 t, .int .i64 d] := hall 1 (by decide)
    have vv2 : V 2 = .bool true := hall 2 (by decide)
    have vv3 : V 3 = .agg #[.int .i64 1, .bool true] := hall 3 (by decide)
    have vv4 : V 4 = .agg #[.int .i64 o, .int .i64 c, .int .i64 v, .int .i64 i, .int .i64 s] := hall 4 (by decide)
    have vv5 : V 5 = .agg #[.int .i64 l, .int .i64 t, .int .i64 d] := hall 5 (by decide)
    have vv6 : V 6 = .bool true := hall 6 (by decide)
    have vv7 : V 7 = .agg #[.int .i64 2, .bool true] := hall 7 (by decide)
    have vv8 : V 8 = .agg #[.int .i64 o, .int .i64 c, .int .i64 v, .int .i64 i, .int .i64 s] := hall 8 (by decide)
    have vv9 : V 9 = .agg #[.int .i64 l, .int .i64 t, .int .i64 d] := hall 9 (by decide)
    have vv10 : V 10 = .bool true := hall 10 (by decide)
    have vv11 : V 11 = .agg #[.int .i64 4, .bool true] := hall 11 (by decide)
    have vv12 : V 12 = .agg #[.int .i64 1, .bool true, .int .i64 2, .bool true, .int .i64 4, .bool true] := hall 12 (by decide)
    have vv13 : V 13 = .int .i64 0 := hall 13 (by decide)
    clear hall
    simp only [pairsOf, laid, Nat.zero_add, Nat.reduceAdd, vv0, vv1, vv2, vv3, vv4, vv5, vv6, vv7, vv8, vv9, vv10, vv11, vv12, vv13, List.setIfInBounds_toArray, List.set_cons_zero, List.set_cons_succ]
    clear vv0 vv1 vv2 vv3 vv4 vv5 vv6 vv7 vv8 vv9 vv10 vv11 vv12 vv13
    have HBW := Lib.hid hBW
    clear hbw hBW
    go_wp2_with fail
    go_loopw [6, 26] (fun o i wr => ((i = .int .i64 0 ∧ o = .int .i64 7) ∨ (i = .int .i64 1 ∧ o = .int .i64 6) ∨ (i = .int .i64 2 ∧ o = .int .i64 4) ∨ (i = .int .i64 3 ∧ o = .int .i64 0)) ∧ Below w.heap.size w wr) (fun _ i _ => 3 - (intOf i).toNat)
    case atStart => exact ⟨.inl ⟨rfl, rfl⟩, HBW.out⟩
    case round =>
      obtain ⟨hrel, hb⟩ := hrel
      rcases hrel with ⟨rfl, rfl⟩ | ⟨rfl, rfl⟩ | ⟨rfl, rfl⟩ | ⟨rfl, rfl⟩
      · go_wp2
        go_roundw
        · exact ⟨.inr (.inl ⟨rfl, rfl⟩), hb.alloc hb.size _⟩
        · simp [intOf]
      · go_wp2
        go_roundw
        · exact ⟨.inr (.inr (.inl ⟨rfl, rfl⟩)), hb.alloc hb.size _⟩
        · simp [intOf]
      · go_wp2
        go_roundw
        · exact ⟨.inr (.inr (.inr ⟨rfl, rfl⟩)), hb.alloc hb.size _⟩
        · simp [intOf]
      · go_wp2
        go_ret2
        exact ⟨rfl, hb⟩
set_option maxRecDepth 8000 in
set_option maxHeartbeats 1600000 in
theorem broken_ttf (o c v i s l t d : Int) (hR : rightF o c v i s l t d = true) (h1 : i64 o) (h2 : i64 c) (h3 : i64 v) (h4 : i64 i) (h5 : i64 s) (h6 : i64 l) (h7 : i64 t) (h8 : i64 d)
    (e1 : ltcB o c l = true) (e2 : ltcB o v t = true) (e3 : dscrB i s d = false) (w : World) :
    Calls Try.prog 8 #[.agg #[.int .i64 o, .int .i64 c, .int .i64 v, .int .i64 i, .int .i64 s], .agg #[.int .i64 l, .int .i64 t, .int .i64 d]] w fun e w' => e = .returned (.tuple #[.int .i64 4, .int .i64 0]) ∧ Below w.heap.size w w' := by
  have HRR := Lib.hid (fun W => cright_any o c v i s l t d true hR W)
  have HLt := Lib.hid (fun W => cltc_any o c v i s l t d h1 h2 h6 W)
  have HLv := Lib.hid (fun W => cltv_any o c v i s l t d h1 h3 h7 W)
  have HLd := Lib.hid (fun W => cdscr_any o c v i s l t d h4 h5 h8 W)
  rw [e1] at HLt; rw [e2] at HLv; rw [e3] at HLd
  have b71 : bits .andNot .i64 7 1 = 6 := by decide
  have b72 : bits .andNot .i64 7 2 = 5 := by decide
  have b62 : bits .andNot .i64 6 2 = 4 := by decide
  have b74 : bits .andNot .i64 7 4 = 3 := by decide
  have b64 : bits .andNot .i64 6 4 = 2 := by decide
  have b54 : bits .andNot .i64 5 4 = 1 := by decide
  have b44 : bits .andNot .i64 4 4 = 0 := by decide
  have ix0 : ∀ W, (Instr.index 41 (.agg #[.int .i64 1, .bool true, .int .i64 2, .bool true, .int .i64 4, .bool false]) (.int .i64 0)).run Try.prog W = .ok (.agg #[.int .i64 1, .bool true]) W := fun W => by kernel_rfl
  have ix1 : ∀ W, (Instr.index 41 (.agg #[.int .i64 1, .bool true, .int .i64 2, .bool true, .int .i64 4, .bool false]) (.int .i64 1)).run Try.prog W = .ok (.agg #[.int .i64 2, .bool true]) W := fun W => by kernel_rfl
  have ix2 : ∀ W, (Instr.index 41 (.agg #[.int .i64 1, .bool true, .int .i64 2, .bool true, .int .i64 4, .bool false]) (.int .i64 2)).run Try.prog W = .ok (.agg #[.int .i64 4, .bool false]) W := fun W => by kernel_rfl
  clear hR e1 e2 e3 h1 h2 h3 h4 h5 h6 h7 h8
  have HB := Lib.hid (below_new2 w (.cells #[.int .i64 o, .int .i64 c, .int .i64 v, .int .i64 i, .int .i64 s] 26) (.cells #[.int .i64 l, .int .i64 t, .int .i64 d] 28))
  have HA := Lib.hid ((Blk.new w 26 [.int .i64 o, .int .i64 c, .int .i64 v, .int .i64 i, .int .i64 s]).alloc (.cells #[.int .i64 l, .int .i64 t, .int .i64 d] 28))
  have HC := Lib.hid (Blk.new2 w (.cells #[.int .i64 o, .int .i64 c, .int .i64 v, .int .i64 i, .int .i64 s] 26) 28 [.int .i64 l, .int .i64 t, .int .i64 d])
  go_enter Try.func8, Try.ntmps8
  have hA := HA.out
  have hC := HC.out
  have a0 := hA.cell 0 _ rfl; have a1 := hA.cell 1 _ rfl; have a2 := hA.cell 2 _ rfl; have a3 := hA.cell 3 _ rfl; have a4 := hA.cell 4 _ rfl
  have c0 := hC.cell 0 _ rfl; have c1 := hC.cell 1 _ rfl; have c2 := hC.cell 2 _ rfl
  go_wp2_with fail
  refine (HRR.out _).mono ?_
  rintro e w1 ⟨rfl, hb1⟩
  have HA2 := Lib.hid (HA.out.keeps hb1)
  have HC2 := Lib.hid (HC.out.keeps hb1)
  have HB3 := Lib.hid (below_on HB.out HB.out.size hb1)
  clear a0 a1 a2 a3 a4 c0 c1 c2 hA hC hb1 HA HC HB
  go_wp2_with fail
  refine region_mono (by kernel_rfl) (by kernel_rfl) [some 13, some 14, some 15, some 16, some 17, some 18, some 19, some 20, some 21, some 22, some 23, some 24, some 25, some 26] (by kernel_rfl) w.heap.size w HB3.out (Nat.le_refl _) (fun iV vV WW => match iV with | 0 => vV = .agg #[.int .i64 o, .int .i64 c, .int .i64 v, .int .i64 i, .int .i64 s] | 1 => vV = .agg #[.int .i64 l, .int .i64 t, .int .i64 d] | 2 => vV = .bool true | 3 => vV = .agg #[.int .i64 1, .bool true] | 4 => vV = .agg #[.int .i64 o, .int .i64 c, .int .i64 v, .int .i64 i, .int .i64 s] | 5 => vV = .agg #[.int .i64 l, .int .i64 t, .int .i64 d] | 6 => vV = .bool true | 7 => vV = .agg #[.int .i64 2, .bool true] | 8 => vV = .agg #[.int .i64 o, .int .i64 c, .int .i64 v, .int .i64 i, .int .i64 s] | 9 => vV = .agg #[.int .i64 l, .int .i64 t, .int .i64 d] | 10 => vV = .bool false | 11 => vV = .agg #[.int .i64 4, .bool false] | 12 => vV = .agg #[.int .i64 1, .bool true, .int .i64 2, .bool true, .int .i64 4, .bool false] | 13 => vV = .int .i64 0 | _ => True) ?_ ?_ ?_
  · intro iV vV WW WX h hbx
    rcases iV with _ | _ | _ | _ | _ | _ | _ | _ | _ | _ | _ | _ | _ | _ | i
    · exact h
    · exact h
    · exact h
    · exact h
    · exact h
    · exact h
    · exact h
    · exact h
    · exact h
    · exact h
    · exact h
    · exact h
    · exact h
    · exact h
    · trivial
  · intro iI oO V AC WW ho hf hbw K hK
    have hlt : iI < 14 := (Array.getElem?_eq_some_iff.1 ho).1
    rcases iI with _ | _ | _ | _ | _ | _ | _ | _ | _ | _ | _ | _ | _ | _ | iI
    · obtain rfl := Option.some.inj (show some _ = some oO from ho)
      rw [if_pos (by rfl)]
      have q2 : AC.tmps.getD 2 undef = .pointer (some ⟨w.heap.size, 0, none⟩) := hf.rest 2 (by kernel_rfl)
      have hA := HA2.out.keeps hbw
      have a0 := hA.cell 0 _ rfl; have a1 := hA.cell 1 _ rfl; have a2 := hA.cell 2 _ rfl; have a3 := hA.cell 3 _ rfl; have a4 := hA.cell 4 _ rfl
      go_simp
      exact hK _ _ (Below.refl _ _) rfl
    · obtain rfl := Option.some.inj (show some _ = some oO from ho)
      rw [if_pos (by rfl)]
      have q3 : AC.tmps.getD 3 undef = .pointer (some ⟨w.heap.size + 1, 0, none⟩) := hf.rest 3 (by kernel_rfl)
      have hC := HC2.out.keeps hbw
      have c0 := hC.cell 0 _ rfl; have c1 := hC.cell 1 _ rfl; have c2 := hC.cell 2 _ rfl
      go_simp
      exact hK _ _ (Below.refl _ _) rfl
    · obtain rfl := Option.some.inj (show some _ = some oO from ho)
      rw [if_pos (by rfl)]
      have q13 : AC.tmps.getD 13 undef = .agg #[.int .i64 o, .int .i64 c, .int .i64 v, .int .i64 i, .int .i64 s] := ((hf.dep ⟨0, .data⟩ (by simp) rfl).2 13 rfl).trans (hf.dep ⟨0, .data⟩ (by simp) rfl).1
      have q14 : AC.tmps.getD 14 undef = .agg #[.int .i64 l, .int .i64 t, .int .i64 d] := ((hf.dep ⟨1, .data⟩ (by simp) rfl).2 14 rfl).trans (hf.dep ⟨1, .data⟩ (by simp) rfl).1
      go_simp
      refine (HLt.out WW).mono ?_
      rintro e w6 ⟨rfl, hb6⟩
      exact hK _ _ hb6 rfl
    · obtain rfl := Option.some.inj (show some _ = some oO from ho)
      rw [if_pos (by rfl)]
      have q15 : AC.tmps.getD 15 undef = .bool true := ((hf.dep ⟨2, .data⟩ (by simp) rfl).2 15 rfl).trans (hf.dep ⟨2, .data⟩ (by simp) rfl).1
      have pp15 := q15
      rw [Array.getD_eq_getD_getElem?] at pp15
      go_simp
      exact hK _ _ (Below.refl _ _) rfl
    · obtain rfl := Option.some.inj (show some _ = some oO from ho)
      rw [if_pos (by rfl)]
      have q2 : AC.tmps.getD 2 undef = .pointer (some ⟨w.heap.size, 0, none⟩) := hf.rest 2 (by kernel_rfl)
      have hA := HA2.out.keeps hbw
      have a0 := hA.cell 0 _ rfl; have a1 := hA.cell 1 _ rfl; have a2 := hA.cell 2 _ rfl; have a3 := hA.cell 3 _ rfl; have a4 := hA.cell 4 _ rfl
      go_simp
      exact hK _ _ (Below.refl _ _) rfl
    · obtain rfl := Option.some.inj (show some _ = some oO from ho)
      rw [if_pos (by rfl)]
      have q3 : AC.tmps.getD 3 undef = .pointer (some ⟨w.heap.size + 1, 0, none⟩) := hf.rest 3 (by kernel_rfl)
      have hC := HC2.out.keeps hbw
      have c0 := hC.cell 0 _ rfl; have c1 := hC.cell 1 _ rfl; have c2 := hC.cell 2 _ rfl
      go_simp
      exact hK _ _ (Below.refl _ _) rfl
    · obtain rfl := Option.some.inj (show some _ = some oO from ho)
      rw [if_pos (by rfl)]
      have q17 : AC.tmps.getD 17 undef = .agg #[.int .i64 o, .int .i64 c, .int .i64 v, .int .i64 i, .int .i64 s] := ((hf.dep ⟨4, .data⟩ (by simp) rfl).2 17 rfl).trans (hf.dep ⟨4, .data⟩ (by simp) rfl).1
      have q18 : AC.tmps.getD 18 undef = .agg #[.int .i64 l, .int .i64 t, .int .i64 d] := ((hf.dep ⟨5, .data⟩ (by simp) rfl).2 18 rfl).trans (hf.dep ⟨5, .data⟩ (by simp) rfl).1
      go_simp
      refine (HLv.out WW).mono ?_
      rintro e w6 ⟨rfl, hb6⟩
      exact hK _ _ hb6 rfl
    · obtain rfl := Option.some.inj (show some _ = some oO from ho)
      rw [if_pos (by rfl)]
      have q19 : AC.tmps.getD 19 undef = .bool true := ((hf.dep ⟨6, .data⟩ (by simp) rfl).2 19 rfl).trans (hf.dep ⟨6, .data⟩ (by simp) rfl).1
      have pp19 := q19
      rw [Array.getD_eq_getD_getElem?] at pp19
      go_simp
      exact hK _ _ (Below.refl _ _) rfl
    · obtain rfl := Option.some.inj (show some _ = some oO from ho)
      rw [if_pos (by rfl)]
      have q2 : AC.tmps.getD 2 undef = .pointer (some ⟨w.heap.size, 0, none⟩) := hf.rest 2 (by kernel_rfl)
      have hA := HA2.out.keeps hbw
      have a0 := hA.cell 0 _ rfl; have a1 := hA.cell 1 _ rfl; have a2 := hA.cell 2 _ rfl; have a3 := hA.cell 3 _ rfl; have a4 := hA.cell 4 _ rfl
      go_simp
      exact hK _ _ (Below.refl _ _) rfl
    · obtain rfl := Option.some.inj (show some _ = some oO from ho)
      rw [if_pos (by rfl)]
      have q3 : AC.tmps.getD 3 undef = .pointer (some ⟨w.heap.size + 1, 0, none⟩) := hf.rest 3 (by kernel_rfl)
      have hC := HC2.out.keeps hbw
      have c0 := hC.cell 0 _ rfl; have c1 := hC.cell 1 _ rfl; have c2 := hC.cell 2 _ rfl
      go_simp
      exact hK _ _ (Below.refl _ _) rfl
    · obtain rfl := Option.some.inj (show some _ = some oO from ho)
      rw [if_pos (by rfl)]
      have q21 : AC.tmps.getD 21 undef = .agg #[.int .i64 o, .int .i64 c, .int .i64 v, .int .i64 i, .int .i64 s] := ((hf.dep ⟨8, .data⟩ (by simp) rfl).2 21 rfl).trans (hf.dep ⟨8, .data⟩ (by simp) rfl).1
      have q22 : AC.tmps.getD 22 undef = .agg #[.int .i64 l, .int .i64 t, .int .i64 d] := ((hf.dep ⟨9, .data⟩ (by simp) rfl).2 22 rfl).trans (hf.dep ⟨9, .data⟩ (by simp) rfl).1
      go_simp
      refine (HLd.out WW).mono ?_
      rintro e w6 ⟨rfl, hb6⟩
      exact hK _ _ hb6 rfl
    · obtain rfl := Option.some.inj (show some _ = some oO from ho)
      rw [if_pos (by rfl)]
      have q23 : AC.tmps.getD 23 undef = .bool false := ((hf.dep ⟨10, .data⟩ (by simp) rfl).2 23 rfl).trans (hf.dep ⟨10, .data⟩ (by simp) rfl).1
      have pp23 := q23
      rw [Array.getD_eq_getD_getElem?] at pp23
      go_simp
      exact hK _ _ (Below.refl _ _) rfl
    · obtain rfl := Option.some.inj (show some _ = some oO from ho)
      rw [if_pos (by rfl)]
      have q16 : AC.tmps.getD 16 undef = .agg #[.int .i64 1, .bool true] := ((hf.dep ⟨3, .data⟩ (by simp) rfl).2 16 rfl).trans (hf.dep ⟨3, .data⟩ (by simp) rfl).1
      have q20 : AC.tmps.getD 20 undef = .agg #[.int .i64 2, .bool true] := ((hf.dep ⟨7, .data⟩ (by simp) rfl).2 20 rfl).trans (hf.dep ⟨7, .data⟩ (by simp) rfl).1
      have q24 : AC.tmps.getD 24 undef = .agg #[.int .i64 4, .bool false] := ((hf.dep ⟨11, .data⟩ (by simp) rfl).2 24 rfl).trans (hf.dep ⟨11, .data⟩ (by simp) rfl).1
      have pp16 := q16
      rw [Array.getD_eq_getD_getElem?] at pp16
      have pp20 := q20
      rw [Array.getD_eq_getD_getElem?] at pp20
      have pp24 := q24
      rw [Array.getD_eq_getD_getElem?] at pp24
      go_simp
      exact hK _ _ (Below.refl _ _) rfl
    · obtain rfl := Option.some.inj (show some _ = some oO from ho)
      rw [if_pos (by rfl)]
      go_simp
      exact hK _ _ (Below.refl _ _) rfl
    · omega
  · intro V WW hall hbw hBW
    have vv0 : V 0 = .agg #[.int .i64 o, .int .i64 c, .int .i64 v, .int .i64 i, .int .i64 s] := hall 0 (by decide)
    have vv1 : V 1 = .agg #[.int .i64 l, .int .i64 t, .int .i64 d] := hall 1 (by decide)
    have vv2 : V 2 = .bool true := hall 2 (by decide)
    have vv3 : V 3 = .agg #[.int .i64 1, .bool true] := hall 3 (by decide)
    have vv4 : V 4 = .agg #[.int .i64 o, .int .i64 c, .int .i64 v, .int .i64 i, .int .i64 s] := hall 4 (by decide)
    have vv5 : V 5 = .agg #[.int .i64 l, .int .i64 t, .int .i64 d] := hall 5 (by decide)
    have vv6 : V 6 = .bool true := hall 6 (by decide)
    have vv7 : V 7 = .agg #[.int .i64 2, .bool true] := hall 7 (by decide)
    have vv8 : V 8 = .agg #[.int .i64 o, .int .i64 c, .int .i64 v, .int .i64 i, .int .i64 s] := hall 8 (by decide)
    have vv9 : V 9 = .agg #[.int .i64 l, .int .i64 t, .int .i64 d] := hall 9 (by decide)
    have vv10 : V 10 = .bool false := hall 10 (by decide)
    have vv11 : V 11 = .agg #[.int .i64 4, .bool false] := hall 11 (by decide)
    have vv12 : V 12 = .agg #[.int .i64 1, .bool true, .int .i64 2, .bool true, .int .i64 4, .bool false] := hall 12 (by decide)
    have vv13 : V 13 = .int .i64 0 := hall 13 (by decide)
    clear hall
    simp only [pairsOf, laid, Nat.zero_add, Nat.reduceAdd, vv0, vv1, vv2, vv3, vv4, vv5, vv6, vv7, vv8, vv9, vv10, vv11, vv12, vv13, List.setIfInBounds_toArray, List.set_cons_zero, List.set_cons_succ]
    clear vv0 vv1 vv2 vv3 vv4 vv5 vv6 vv7 vv8 vv9 vv10 vv11 vv12 vv13
    have HBW := Lib.hid hBW
    clear hbw hBW
    go_wp2_with fail
    go_loopw [6, 26] (fun o i wr => ((i = .int .i64 0 ∧ o = .int .i64 7) ∨ (i = .int .i64 1 ∧ o = .int .i64 6) ∨ (i = .int .i64 2 ∧ o = .int .i64 4) ∨ (i = .int .i64 3 ∧ o = .int .i64 4)) ∧ Below w.heap.size w wr) (fun _ i _ => 3 - (intOf i).toNat)
    case atStart => exact ⟨.inl ⟨rfl, rfl⟩, HBW.out⟩
    case round =>
      obtain ⟨hrel, hb⟩ := hrel
      rcases hrel with ⟨rfl, rfl⟩ | ⟨rfl, rfl⟩ | ⟨rfl, rfl⟩ | ⟨rfl, rfl⟩
      · go_wp2
        go_roundw
        · exact ⟨.inr (.inl ⟨rfl, rfl⟩), hb.alloc hb.size _⟩
        · simp [intOf]
      · go_wp2
        go_roundw
        · exact ⟨.inr (.inr (.inl ⟨rfl, rfl⟩)), hb.alloc hb.size _⟩
        · simp [intOf]
      · go_wp2
        go_roundw
        · exact ⟨.inr (.inr (.inr ⟨rfl, rfl⟩)), hb.alloc hb.size _⟩
        · simp [intOf]
      · go_wp2
        go_ret2
        exact ⟨rfl, hb⟩
set_option maxRecDepth 8000 in
set_option maxHeartbeats 1600000 in
theorem broken_tft (o c v i s l t d : Int) (hR : rightF o c v i s l t d = true) (h1 : i64 o) (h2 : i64 c) (h3 : i64 v) (h4 : i64 i) (h5 : i64 s) (h6 : i64 l) (h7 : i64 t) (h8 : i64 d)
    (e1 : ltcB o c l = true) (e2 : ltcB o v t = false) (e3 : dscrB i s d = true) (w : World) :
    Calls Try.prog 8 #[.agg #[.int .i64 o, .int .i64 c, .int .i64 v, .int .i64 i, .int .i64 s], .agg #[.int .i64 l, .int .i64 t, .int .i64 d]] w fun e w' => e = .returned (.tuple #[.int .i64 2, .int .i64 0]) ∧ Below w.heap.size w w' := by
  have HRR := Lib.hid (fun W => cright_any o c v i s l t d true hR W)
  have HLt := Lib.hid (fun W => cltc_any o c v i s l t d h1 h2 h6 W)
  have HLv := Lib.hid (fun W => cltv_any o c v i s l t d h1 h3 h7 W)
  have HLd := Lib.hid (fun W => cdscr_any o c v i s l t d h4 h5 h8 W)
  rw [e1] at HLt; rw [e2] at HLv; rw [e3] at HLd
  have b71 : bits .andNot .i64 7 1 = 6 := by decide
  have b72 : bits .andNot .i64 7 2 = 5 := by decide
  have b62 : bits .andNot .i64 6 2 = 4 := by decide
  have b74 : bits .andNot .i64 7 4 = 3 := by decide
  have b64 : bits .andNot .i64 6 4 = 2 := by decide
  have b54 : bits .andNot .i64 5 4 = 1 := by decide
  have b44 : bits .andNot .i64 4 4 = 0 := by decide
  have ix0 : ∀ W, (Instr.index 41 (.agg #[.int .i64 1, .bool true, .int .i64 2, .bool false, .int .i64 4, .bool true]) (.int .i64 0)).run Try.prog W = .ok (.agg #[.int .i64 1, .bool true]) W := fun W => by kernel_rfl
  have ix1 : ∀ W, (Instr.index 41 (.agg #[.int .i64 1, .bool true, .int .i64 2, .bool false, .int .i64 4, .bool true]) (.int .i64 1)).run Try.prog W = .ok (.agg #[.int .i64 2, .bool false]) W := fun W => by kernel_rfl
  have ix2 : ∀ W, (Instr.index 41 (.agg #[.int .i64 1, .bool true, .int .i64 2, .bool false, .int .i64 4, .bool true]) (.int .i64 2)).run Try.prog W = .ok (.agg #[.int .i64 4, .bool true]) W := fun W => by kernel_rfl
  clear hR e1 e2 e3 h1 h2 h3 h4 h5 h6 h7 h8
  have HB := Lib.hid (below_new2 w (.cells #[.int .i64 o, .int .i64 c, .int .i64 v, .int .i64 i, .int .i64 s] 26) (.cells #[.int .i64 l, .int .i64 t, .int .i64 d] 28))
  have HA := Lib.hid ((Blk.new w 26 [.int .i64 o, .int .i64 c, .int .i64 v, .int .i64 i, .int .i64 s]).alloc (.cells #[.int .i64 l, .int .i64 t, .int .i64 d] 28))
  have HC := Lib.hid (Blk.new2 w (.cells #[.int .i64 o, .int .i64 c, .int .i64 v, .int .i64 i, .int .i64 s] 26) 28 [.int .i64 l, .int .i64 t, .int .i64 d])
  go_enter Try.func8, Try.ntmps8
  have hA := HA.out
  have hC := HC.out
  have a0 := hA.cell 0 _ rfl; have a1 := hA.cell 1 _ rfl; have a2 := hA.cell 2 _ rfl; have a3 := hA.cell 3 _ rfl; have a4 := hA.cell 4 _ rfl
  have c0 := hC.cell 0 _ rfl; have c1 := hC.cell 1 _ rfl; have c2 := hC.cell 2 _ rfl
  go_wp2_with fail
  refine (HRR.out _).mono ?_
  rintro e w1 ⟨rfl, hb1⟩
  have HA2 := Lib.hid (HA.out.keeps hb1)
  have HC2 := Lib.hid (HC.out.keeps hb1)
  have HB3 := Lib.hid (below_on HB.out HB.out.size hb1)
  clear a0 a1 a2 a3 a4 c0 c1 c2 hA hC hb1 HA HC HB
  go_wp2_with fail
  refine region_mono (by kernel_rfl) (by kernel_rfl) [some 13, some 14, some 15, some 16, some 17, some 18, some 19, some 20, some 21, some 22, some 23, some 24, some 25, some 26] (by kernel_rfl) w.heap.size w HB3.out (Nat.le_refl _) (fun iV vV WW => match iV with | 0 => vV = .agg #[.int .i64 o, .int .i64 c, .int .i64 v, .int .i64 i, .int .i64 s] | 1 => vV = .agg #[.int .i64 l, .int .i64 t, .int .i64 d] | 2 => vV = .bool true | 3 => vV = .agg #[.int .i64 1, .bool true] | 4 => vV = .agg #[.int .i64 o, .int .i64 c, .int .i64 v, .int .i64 i, .int .i64 s] | 5 => vV = .agg #[.int .i64 l, .int .i64 t, .int .i64 d] | 6 => vV = .bool false | 7 => vV = .agg #[.int .i64 2, .bool false] | 8 => vV = .agg #[.int .i64 o, .int .i64 c, .int .i64 v, .int .i64 i, .int .i64 s] | 9 => vV = .agg #[.int .i64 l, .int .i64 t, .int .i64 d] | 10 => vV = .bool true | 11 => vV = .agg #[.int .i64 4, .bool true] | 12 => vV = .agg #[.int .i64 1, .bool true, .int .i64 2, .bool false, .int .i64 4, .bool true] | 13 => vV = .int .i64 0 | _ => True) ?_ ?_ ?_
  · intro iV vV WW WX h hbx
    rcases iV with _ | _ | _ | _ | _ | _ | _ | _ | _ | _ | _ | _ | _ | _ | i
    · exact h
    · exact h
    · exact h
    · exact h
    · exact h
    · exact h
    · exact h
    · exact h
    · exact h
    · exact h
    · exact h
    · exact h
    · exact h
    · exact h
    · trivial
  · intro iI oO V AC WW ho hf hbw K hK
    have hlt : iI < 14 := (Array.getElem?_eq_some_iff.1 ho).1
    rcases iI with _ | _ | _ | _ | _ | _ | _ | _ | _ | _ | _ | _ | _ | _ | iI
    · obtain rfl := Option.some.inj (show some _ = some oO from ho)
      rw [if_pos (by rfl)]
      have q2 : AC.tmps.getD 2 undef = .pointer (some ⟨w.heap.size, 0, none⟩) := hf.rest 2 (by kernel_rfl)
      have hA := HA2.out.keeps hbw
      have a0 := hA.cell 0 _ rfl; have a1 := hA.cell 1 _ rfl; have a2 := hA.cell 2 _ rfl; have a3 := hA.cell 3 _ rfl; have a4 := hA.cell 4 _ rfl
      go_simp
      exact hK _ _ (Below.refl _ _) rfl
    · obtain rfl := Option.some.inj (show some _ = some oO from ho)
      rw [if_pos (by rfl)]
      have q3 : AC.tmps.getD 3 undef = .pointer (some ⟨w.heap.size + 1, 0, none⟩) := hf.rest 3 (by kernel_rfl)
      have hC := HC2.out.keeps hbw
      have c0 := hC.cell 0 _ rfl; have c1 := hC.cell 1 _ rfl; have c2 := hC.cell 2 _ rfl
      go_simp
      exact hK _ _ (Below.refl _ _) rfl
    · obtain rfl := Option.some.inj (show some _ = some oO from ho)
      rw [if_pos (by rfl)]
      have q13 : AC.tmps.getD 13 undef = .agg #[.int .i64 o, .int .i64 c, .int .i64 v, .int .i64 i, .int .i64 s] := ((hf.dep ⟨0, .data⟩ (by simp) rfl).2 13 rfl).trans (hf.dep ⟨0, .data⟩ (by simp) rfl).1
      have q14 : AC.tmps.getD 14 undef = .agg #[.int .i64 l, .int .i64 t, .int .i64 d] := ((hf.dep ⟨1, .data⟩ (by simp) rfl).2 14 rfl).trans (hf.dep ⟨1, .data⟩ (by simp) rfl).1
      go_simp
      refine (HLt.out WW).mono ?_
      rintro e w6 ⟨rfl, hb6⟩
      exact hK _ _ hb6 rfl
    · obtain rfl := Option.some.inj (show some _ = some oO from ho)
      rw [if_pos (by rfl)]
      have q15 : AC.tmps.getD 15 undef = .bool true := ((hf.dep ⟨2, .data⟩ (by simp) rfl).2 15 rfl).trans (hf.dep ⟨2, .data⟩ (by simp) rfl).1
      have pp15 := q15
      rw [Array.getD_eq_getD_getElem?] at pp15
      go_simp
      exact hK _ _ (Below.refl _ _) rfl
    · obtain rfl := Option.some.inj (show some _ = some oO from ho)
      rw [if_pos (by rfl)]
      have q2 : AC.tmps.getD 2 undef = .pointer (some ⟨w.heap.size, 0, none⟩) := hf.rest 2 (by kernel_rfl)
      have hA := HA2.out.keeps hbw
      have a0 := hA.cell 0 _ rfl; have a1 := hA.cell 1 _ rfl; have a2 := hA.cell 2 _ rfl; have a3 := hA.cell 3 _ rfl; have a4 := hA.cell 4 _ rfl
      go_simp
      exact hK _ _ (Below.refl _ _) rfl
    · obtain rfl := Option.some.inj (show some _ = some oO from ho)
      rw [if_pos (by rfl)]
      have q3 : AC.tmps.getD 3 undef = .pointer (some ⟨w.heap.size + 1, 0, none⟩) := hf.rest 3 (by kernel_rfl)
      have hC := HC2.out.keeps hbw
      have c0 := hC.cell 0 _ rfl; have c1 := hC.cell 1 _ rfl; have c2 := hC.cell 2 _ rfl
      go_simp
      exact hK _ _ (Below.refl _ _) rfl
    · obtain rfl := Option.some.inj (show some _ = some oO from ho)
      rw [if_pos (by rfl)]
      have q17 : AC.tmps.getD 17 undef = .agg #[.int .i64 o, .int .i64 c, .int .i64 v, .int .i64 i, .int .i64 s] := ((hf.dep ⟨4, .data⟩ (by simp) rfl).2 17 rfl).trans (hf.dep ⟨4, .data⟩ (by simp) rfl).1
      have q18 : AC.tmps.getD 18 undef = .agg #[.int .i64 l, .int .i64 t, .int .i64 d] := ((hf.dep ⟨5, .data⟩ (by simp) rfl).2 18 rfl).trans (hf.dep ⟨5, .data⟩ (by simp) rfl).1
      go_simp
      refine (HLv.out WW).mono ?_
      rintro e w6 ⟨rfl, hb6⟩
      exact hK _ _ hb6 rfl
    · obtain rfl := Option.some.inj (show some _ = some oO from ho)
      rw [if_pos (by rfl)]
      have q19 : AC.tmps.getD 19 undef = .bool false := ((hf.dep ⟨6, .data⟩ (by simp) rfl).2 19 rfl).trans (hf.dep ⟨6, .data⟩ (by simp) rfl).1
      have pp19 := q19
      rw [Array.getD_eq_getD_getElem?] at pp19
      go_simp
      exact hK _ _ (Below.refl _ _) rfl
    · obtain rfl := Option.some.inj (show some _ = some oO from ho)
      rw [if_pos (by rfl)]
      have q2 : AC.tmps.getD 2 undef = .pointer (some ⟨w.heap.size, 0, none⟩) := hf.rest 2 (by kernel_rfl)
      have hA := HA2.out.keeps hbw
      have a0 := hA.cell 0 _ rfl; have a1 := hA.cell 1 _ rfl; have a2 := hA.cell 2 _ rfl; have a3 := hA.cell 3 _ rfl; have a4 := hA.cell 4 _ rfl
      go_simp
      exact hK _ _ (Below.refl _ _) rfl
    · obtain rfl := Option.some.inj (show some _ = some oO from ho)
      rw [if_pos (by rfl)]
      have q3 : AC.tmps.getD 3 undef = .pointer (some ⟨w.heap.size + 1, 0, none⟩) := hf.rest 3 (by kernel_rfl)
      have hC := HC2.out.keeps hbw
      have c0 := hC.cell 0 _ rfl; have c1 := hC.cell 1 _ rfl; have c2 := hC.cell 2 _ rfl
      go_simp
      exact hK _ _ (Below.refl _ _) rfl
    · obtain rfl := Option.some.inj (show some _ = some oO from ho)
      rw [if_pos (by rfl)]
      have q21 : AC.tmps.getD 21 undef = .agg #[.int .i64 o, .int .i64 c, .int .i64 v, .int .i64 i, .int .i64 s] := ((hf.dep ⟨8, .data⟩ (by simp) rfl).2 21 rfl).trans (hf.dep ⟨8, .data⟩ (by simp) rfl).1
      have q22 : AC.tmps.getD 22 undef = .agg #[.int .i64 l, .int .i64 t, .int .i64 d] := ((hf.dep ⟨9, .data⟩ (by simp) rfl).2 22 rfl).trans (hf.dep ⟨9, .data⟩ (by simp) rfl).1
      go_simp
      refine (HLd.out WW).mono ?_
      rintro e w6 ⟨rfl, hb6⟩
      exact hK _ _ hb6 rfl
    · obtain rfl := Option.some.inj (show some _ = some oO from ho)
      rw [if_pos (by rfl)]
      have q23 : AC.tmps.getD 23 undef = .bool true := ((hf.dep ⟨10, .data⟩ (by simp) rfl).2 23 rfl).trans (hf.dep ⟨10, .data⟩ (by simp) rfl).1
      have pp23 := q23
      rw [Array.getD_eq_getD_getElem?] at pp23
      go_simp
      exact hK _ _ (Below.refl _ _) rfl
    · obtain rfl := Option.some.inj (show some _ = some oO from ho)
      rw [if_pos (by rfl)]
      have q16 : AC.tmps.getD 16 undef = .agg #[.int .i64 1, .bool true] := ((hf.dep ⟨3, .data⟩ (by simp) rfl).2 16 rfl).trans (hf.dep ⟨3, .data⟩ (by simp) rfl).1
      have q20 : AC.tmps.getD 20 undef = .agg #[.int .i64 2, .bool false] := ((hf.dep ⟨7, .data⟩ (by simp) rfl).2 20 rfl).trans (hf.dep ⟨7, .data⟩ (by simp) rfl).1
      have q24 : AC.tmps.getD 24 undef = .agg #[.int .i64 4, .bool true] := ((hf.dep ⟨11, .data⟩ (by simp) rfl).2 24 rfl).trans (hf.dep ⟨11, .data⟩ (by simp) rfl).1
      have pp16 := q16
      rw [Array.getD_eq_getD_getElem?] at pp16
      have pp20 := q20
      rw [Array.getD_eq_getD_getElem?] at pp20
      have pp24 := q24
      rw [Array.getD_eq_getD_getElem?] at pp24
      go_simp
      exact hK _ _ (Below.refl _ _) rfl
    · obtain rfl := Option.some.inj (show some _ = some oO from ho)
      rw [if_pos (by rfl)]
      go_simp
      exact hK _ _ (Below.refl _ _) rfl
    · omega
  · intro V WW hall hbw hBW
    have vv0 : V 0 = .agg #[.int .i64 o, .int .i64 c, .int .i64 v, .int .i64 i, .int .i64 s] := hall 0 (by decide)
    have vv1 : V 1 = .agg #[.int .i64 l, .int .i64 t, .int .i64 d] := hall 1 (by decide)
    have vv2 : V 2 = .bool true := hall 2 (by decide)
    have vv3 : V 3 = .agg #[.int .i64 1, .bool true] := hall 3 (by decide)
    have vv4 : V 4 = .agg #[.int .i64 o, .int .i64 c, .int .i64 v, .int .i64 i, .int .i64 s] := hall 4 (by decide)
    have vv5 : V 5 = .agg #[.int .i64 l, .int .i64 t, .int .i64 d] := hall 5 (by decide)
    have vv6 : V 6 = .bool false := hall 6 (by decide)
    have vv7 : V 7 = .agg #[.int .i64 2, .bool false] := hall 7 (by decide)
    have vv8 : V 8 = .agg #[.int .i64 o, .int .i64 c, .int .i64 v, .int .i64 i, .int .i64 s] := hall 8 (by decide)
    have vv9 : V 9 = .agg #[.int .i64 l, .int .i64 t, .int .i64 d] := hall 9 (by decide)
    have vv10 : V 10 = .bool true := hall 10 (by decide)
    have vv11 : V 11 = .agg #[.int .i64 4, .bool true] := hall 11 (by decide)
    have vv12 : V 12 = .agg #[.int .i64 1, .bool true, .int .i64 2, .bool false, .int .i64 4, .bool true] := hall 12 (by decide)
    have vv13 : V 13 = .int .i64 0 := hall 13 (by decide)
    clear hall
    simp only [pairsOf, laid, Nat.zero_add, Nat.reduceAdd, vv0, vv1, vv2, vv3, vv4, vv5, vv6, vv7, vv8, vv9, vv10, vv11, vv12, vv13, List.setIfInBounds_toArray, List.set_cons_zero, List.set_cons_succ]
    clear vv0 vv1 vv2 vv3 vv4 vv5 vv6 vv7 vv8 vv9 vv10 vv11 vv12 vv13
    have HBW := Lib.hid hBW
    clear hbw hBW
    go_wp2_with fail
    go_loopw [6, 26] (fun o i wr => ((i = .int .i64 0 ∧ o = .int .i64 7) ∨ (i = .int .i64 1 ∧ o = .int .i64 6) ∨ (i = .int .i64 2 ∧ o = .int .i64 6) ∨ (i = .int .i64 3 ∧ o = .int .i64 2)) ∧ Below w.heap.size w wr) (fun _ i _ => 3 - (intOf i).toNat)
    case atStart => exact ⟨.inl ⟨rfl, rfl⟩, HBW.out⟩
    case round =>
      obtain ⟨hrel, hb⟩ := hrel
      rcases hrel with ⟨rfl, rfl⟩ | ⟨rfl, rfl⟩ | ⟨rfl, rfl⟩ | ⟨rfl, rfl⟩
      · go_wp2
        go_roundw
        · exact ⟨.inr (.inl ⟨rfl, rfl⟩), hb.alloc hb.size _⟩
        · simp [intOf]
      · go_wp2
        go_roundw
        · exact ⟨.inr (.inr (.inl ⟨rfl, rfl⟩)), hb.alloc hb.size _⟩
        · simp [intOf]
      · go_wp2
        go_roundw
        · exact ⟨.inr (.inr (.inr ⟨rfl, rfl⟩)), hb.alloc hb.size _⟩
        · simp [intOf]
      · go_wp2
        go_ret2
        exact ⟨rfl, hb⟩
set_option maxRecDepth 8000 in
set_option maxHeartbeats 1600000 in
theorem broken_tff (o c v i s l t d : Int) (hR : rightF o c v i s l t d = true) (h1 : i64 o) (h2 : i64 c) (h3 : i64 v) (h4 : i64 i) (h5 : i64 s) (h6 : i64 l) (h7 : i64 t) (h8 : i64 d)
    (e1 : ltcB o c l = true) (e2 : ltcB o v t = false) (e3 : dscrB i s d = false) (w : World) :
    Calls Try.prog 8 #[.agg #[.int .i64 o, .int .i64 c, .int .i64 v, .int .i64 i, .int .i64 s], .agg #[.int .i64 l, .int .i64 t, .int .i64 d]] w fun e w' => e = .returned (.tuple #[.int .i64 6, .int .i64 0]) ∧ Below w.heap.size w w' := by
  have HRR := Lib.hid (fun W => cright_any o c v i s l t d true hR W)
  have HLt := Lib.hid (fun W => cltc_any o c v i s l t d h1 h2 h6 W)
  have HLv := Lib.hid (fun W => cltv_any o c v i s l t d h1 h3 h7 W)
  have HLd := Lib.hid (fun W => cdscr_any o c v i s l t d h4 h5 h8 W)
  rw [e1] at HLt; rw [e2] at HLv; rw [e3] at HLd
  have b71 : bits .andNot .i64 7 1 = 6 := by decide
  have b72 : bits .andNot .i64 7 2 = 5 := by decide
  have b62 : bits .andNot .i64 6 2 = 4 := by decide
  have b74 : bits .andNot .i64 7 4 = 3 := by decide
  have b64 : bits .andNot .i64 6 4 = 2 := by decide
  have b54 : bits .andNot .i64 5 4 = 1 := by decide
  have b44 : bits .andNot .i64 4 4 = 0 := by decide
  have ix0 : ∀ W, (Instr.index 41 (.agg #[.int .i64 1, .bool true, .int .i64 2, .bool false, .int .i64 4, .bool false]) (.int .i64 0)).run Try.prog W = .ok (.agg #[.int .i64 1, .bool true]) W := fun W => by kernel_rfl
  have ix1 : ∀ W, (Instr.index 41 (.agg #[.int .i64 1, .bool true, .int .i64 2, .bool false, .int .i64 4, .bool false]) (.int .i64 1)).run Try.prog W = .ok (.agg #[.int .i64 2, .bool false]) W := fun W => by kernel_rfl
  have ix2 : ∀ W, (Instr.index 41 (.agg #[.int .i64 1, .bool true, .int .i64 2, .bool false, .int .i64 4, .bool false]) (.int .i64 2)).run Try.prog W = .ok (.agg #[.int .i64 4, .bool false]) W := fun W => by kernel_rfl
  clear hR e1 e2 e3 h1 h2 h3 h4 h5 h6 h7 h8
  have HB := Lib.hid (below_new2 w (.cells #[.int .i64 o, .int .i64 c, .int .i64 v, .int .i64 i, .int .i64 s] 26) (.cells #[.int .i64 l, .int .i64 t, .int .i64 d] 28))
  have HA := Lib.hid ((Blk.new w 26 [.int .i64 o, .int .i64 c, .int .i64 v, .int .i64 i, .int .i64 s]).alloc (.cells #[.int .i64 l, .int .i64 t, .int .i64 d] 28))
  have HC := Lib.hid (Blk.new2 w (.cells #[.int .i64 o, .int .i64 c, .int .i64 v, .int .i64 i, .int .i64 s] 26) 28 [.int .i64 l, .int .i64 t, .int .i64 d])
  go_enter Try.func8, Try.ntmps8
  have hA := HA.out
  have hC := HC.out
  have a0 := hA.cell 0 _ rfl; have a1 := hA.cell 1 _ rfl; have a2 := hA.cell 2 _ rfl; have a3 := hA.cell 3 _ rfl; have a4 := hA.cell 4 _ rfl
  have c0 := hC.cell 0 _ rfl; have c1 := hC.cell 1 _ rfl; have c2 := hC.cell 2 _ rfl
  go_wp2_with fail
  refine (HRR.out _).mono ?_
  rintro e w1 ⟨rfl, hb1⟩
  have HA2 := Lib.hid (HA.out.keeps hb1)
  have HC2 := Lib.hid (HC.out.keeps hb1)
  have HB3 := Lib.hid (below_on HB.out HB.out.size hb1)
  clear a0 a1 a2 a3 a4 c0 c1 c2 hA hC hb1 HA HC HB
  go_wp2_with fail
  refine region_mono (by kernel_rfl) (by kernel_rfl) [some 13, some 14, some 15, some 16, some 17, some 18, some 19, some 20, some 21, some 22, some 23, some 24, some 25, some 26] (by kernel_rfl) w.heap.size w HB3.out (Nat.le_refl _) (fun iV vV WW => match iV with | 0 => vV = .agg #[.int .i64 o, .int .i64 c, .int .i64 v, .int .i64 i, .int .i64 s] | 1 => vV = .agg #[.int .i64 l, .int .i64 t, .int .i64 d] | 2 => vV = .bool true | 3 => vV = .agg #[.int .i64 1, .bool true] | 4 => vV = .agg #[.int .i64 o, .int .i64 c, .int .i64 v, .int .i64 i, .int .i64 s] | 5 => vV = .agg #[.int .i64 l, .int .i64 t, .int .i64 d] | 6 => vV = .bool false | 7 => vV = .agg #[.int .i64 2, .bool false] | 8 => vV = .agg #[.int .i64 o, .int .i64 c, .int .i64 v, .int .i64 i, .int .i64 s] | 9 => vV = .agg #[.int .i64 l, .int .i64 t, .int .i64 d] | 10 => vV = .bool false | 11 => vV = .agg #[.int .i64 4, .bool false] | 12 => vV = .agg #[.int .i64 1, .bool true, .int .i64 2, .bool false, .int .i64 4, .bool false] | 13 => vV = .int .i64 0 | _ => True) ?_ ?_ ?_
  · intro iV vV WW WX h hbx
    rcases iV with _ | _ | _ | _ | _ | _ | _ | _ | _ | _ | _ | _ | _ | _ | i
    · exact h
    · exact h
    · exact h
    · exact h
    · exact h
    · exact h
    · exact h
    · exact h
    · exact h
    · exact h
    · exact h
    · exact h
    · exact h
    · exact h
    · trivial
  · intro iI oO V AC WW ho hf hbw K hK
    have hlt : iI < 14 := (Array.getElem?_eq_some_iff.1 ho).1
    rcases iI with _ | _ | _ | _ | _ | _ | _ | _ | _ | _ | _ | _ | _ | _ | iI
    · obtain rfl := Option.some.inj (show some _ = some oO from ho)
      rw [if_pos (by rfl)]
      have q2 : AC.tmps.getD 2 undef = .pointer (some ⟨w.heap.size, 0, none⟩) := hf.rest 2 (by kernel_rfl)
      have hA := HA2.out.keeps hbw
      have a0 := hA.cell 0 _ rfl; have a1 := hA.cell 1 _ rfl; have a2 := hA.cell 2 _ rfl; have a3 := hA.cell 3 _ rfl; have a4 := hA.cell 4 _ rfl
      go_simp
      exact hK _ _ (Below.refl _ _) rfl
    · obtain rfl := Option.some.inj (show some _ = some oO from ho)
      rw [if_pos (by rfl)]
      have q3 : AC.tmps.getD 3 undef = .pointer (some ⟨w.heap.size + 1, 0, none⟩) := hf.rest 3 (by kernel_rfl)
      have hC := HC2.out.keeps hbw
      have c0 := hC.cell 0 _ rfl; have c1 := hC.cell 1 _ rfl; have c2 := hC.cell 2 _ rfl
      go_simp
      exact hK _ _ (Below.refl _ _) rfl
    · obtain rfl := Option.some.inj (show some _ = some oO from ho)
      rw [if_pos (by rfl)]
      have q13 : AC.tmps.getD 13 undef = .agg #[.int .i64 o, .int .i64 c, .int .i64 v, .int .i64 i, .int .i64 s] := ((hf.dep ⟨0, .data⟩ (by simp) rfl).2 13 rfl).trans (hf.dep ⟨0, .data⟩ (by simp) rfl).1
      have q14 : AC.tmps.getD 14 undef = .agg #[.int .i64 l, .int .i64 t, .int .i64 d] := ((hf.dep ⟨1, .data⟩ (by simp) rfl).2 14 rfl).trans (hf.dep ⟨1, .data⟩ (by simp) rfl).1
      go_simp
      refine (HLt.out WW).mono ?_
      rintro e w6 ⟨rfl, hb6⟩
      exact hK _ _ hb6 rfl
    · obtain rfl := Option.some.inj (show some _ = some oO from ho)
      rw [if_pos (by rfl)]
      have q15 : AC.tmps.getD 15 undef = .bool true := ((hf.dep ⟨2, .data⟩ (by simp) rfl).2 15 rfl).trans (hf.dep ⟨2, .data⟩ (by simp) rfl).1
      have pp15 := q15
      rw [Array.getD_eq_getD_getElem?] at pp15
      go_simp
      exact hK _ _ (Below.refl _ _) rfl
    · obtain rfl := Option.some.inj (show some _ = some oO from ho)
      rw [if_pos (by rfl)]
      have q2 : AC.tmps.getD 2 undef = .pointer (some ⟨w.heap.size, 0, none⟩) := hf.rest 2 (by kernel_rfl)
      have hA := HA2.out.keeps hbw
      have a0 := hA.cell 0 _ rfl; have a1 := hA.cell 1 _ rfl; have a2 := hA.cell 2 _ rfl; have a3 := hA.cell 3 _ rfl; have a4 := hA.cell 4 _ rfl
      go_simp
      exact hK _ _ (Below.refl _ _) rfl
    · obtain rfl := Option.some.inj (show some _ = some oO from ho)
      rw [if_pos (by rfl)]
      have q3 : AC.tmps.getD 3 undef = .pointer (some ⟨w.heap.size + 1, 0, none⟩) := hf.rest 3 (by kernel_rfl)
      have hC := HC2.out.keeps hbw
      have c0 := hC.cell 0 _ rfl; have c1 := hC.cell 1 _ rfl; have c2 := hC.cell 2 _ rfl
      go_simp
      exact hK _ _ (Below.refl _ _) rfl
    · obtain rfl := Option.some.inj (show some _ = some oO from ho)
      rw [if_pos (by rfl)]
      have q17 : AC.tmps.getD 17 undef = .agg #[.int .i64 o, .int .i64 c, .int .i64 v, .int .i64 i, .int .i64 s] := ((hf.dep ⟨4, .data⟩ (by simp) rfl).2 17 rfl).trans (hf.dep ⟨4, .data⟩ (by simp) rfl).1
      have q18 : AC.tmps.getD 18 undef = .agg #[.int .i64 l, .int .i64 t, .int .i64 d] := ((hf.dep ⟨5, .data⟩ (by simp) rfl).2 18 rfl).trans (hf.dep ⟨5, .data⟩ (by simp) rfl).1
      go_simp
      refine (HLv.out WW).mono ?_
      rintro e w6 ⟨rfl, hb6⟩
      exact hK _ _ hb6 rfl
    · obtain rfl := Option.some.inj (show some _ = some oO from ho)
      rw [if_pos (by rfl)]
      have q19 : AC.tmps.getD 19 undef = .bool false := ((hf.dep ⟨6, .data⟩ (by simp) rfl).2 19 rfl).trans (hf.dep ⟨6, .data⟩ (by simp) rfl).1
      have pp19 := q19
      rw [Array.getD_eq_getD_getElem?] at pp19
      go_simp
      exact hK _ _ (Below.refl _ _) rfl
    · obtain rfl := Option.some.inj (show some _ = some oO from ho)
      rw [if_pos (by rfl)]
      have q2 : AC.tmps.getD 2 undef = .pointer (some ⟨w.heap.size, 0, none⟩) := hf.rest 2 (by kernel_rfl)
      have hA := HA2.out.keeps hbw
      have a0 := hA.cell 0 _ rfl; have a1 := hA.cell 1 _ rfl; have a2 := hA.cell 2 _ rfl; have a3 := hA.cell 3 _ rfl; have a4 := hA.cell 4 _ rfl
      go_simp
      exact hK _ _ (Below.refl _ _) rfl
    · obtain rfl := Option.some.inj (show some _ = some oO from ho)
      rw [if_pos (by rfl)]
      have q3 : AC.tmps.getD 3 undef = .pointer (some ⟨w.heap.size + 1, 0, none⟩) := hf.rest 3 (by kernel_rfl)
      have hC := HC2.out.keeps hbw
      have c0 := hC.cell 0 _ rfl; have c1 := hC.cell 1 _ rfl; have c2 := hC.cell 2 _ rfl
      go_simp
      exact hK _ _ (Below.refl _ _) rfl
    · obtain rfl := Option.some.inj (show some _ = some oO from ho)
      rw [if_pos (by rfl)]
      have q21 : AC.tmps.getD 21 undef = .agg #[.int .i64 o, .int .i64 c, .int .i64 v, .int .i64 i, .int .i64 s] := ((hf.dep ⟨8, .data⟩ (by simp) rfl).2 21 rfl).trans (hf.dep ⟨8, .data⟩ (by simp) rfl).1
      have q22 : AC.tmps.getD 22 undef = .agg #[.int .i64 l, .int .i64 t, .int .i64 d] := ((hf.dep ⟨9, .data⟩ (by simp) rfl).2 22 rfl).trans (hf.dep ⟨9, .data⟩ (by simp) rfl).1
      go_simp
      refine (HLd.out WW).mono ?_
      rintro e w6 ⟨rfl, hb6⟩
      exact hK _ _ hb6 rfl
    · obtain rfl := Option.some.inj (show some _ = some oO from ho)
      rw [if_pos (by rfl)]
      have q23 : AC.tmps.getD 23 undef = .bool false := ((hf.dep ⟨10, .data⟩ (by simp) rfl).2 23 rfl).trans (hf.dep ⟨10, .data⟩ (by simp) rfl).1
      have pp23 := q23
      rw [Array.getD_eq_getD_getElem?] at pp23
      go_simp
      exact hK _ _ (Below.refl _ _) rfl
    · obtain rfl := Option.some.inj (show some _ = some oO from ho)
      rw [if_pos (by rfl)]
      have q16 : AC.tmps.getD 16 undef = .agg #[.int .i64 1, .bool true] := ((hf.dep ⟨3, .data⟩ (by simp) rfl).2 16 rfl).trans (hf.dep ⟨3, .data⟩ (by simp) rfl).1
      have q20 : AC.tmps.getD 20 undef = .agg #[.int .i64 2, .bool false] := ((hf.dep ⟨7, .data⟩ (by simp) rfl).2 20 rfl).trans (hf.dep ⟨7, .data⟩ (by simp) rfl).1
      have q24 : AC.tmps.getD 24 undef = .agg #[.int .i64 4, .bool false] := ((hf.dep ⟨11, .data⟩ (by simp) rfl).2 24 rfl).trans (hf.dep ⟨11, .data⟩ (by simp) rfl).1
      have pp16 := q16
      rw [Array.getD_eq_getD_getElem?] at pp16
      have pp20 := q20
      rw [Array.getD_eq_getD_getElem?] at pp20
      have pp24 := q24
      rw [Array.getD_eq_getD_getElem?] at pp24
      go_simp
      exact hK _ _ (Below.refl _ _) rfl
    · obtain rfl := Option.some.inj (show some _ = some oO from ho)
      rw [if_pos (by rfl)]
      go_simp
      exact hK _ _ (Below.refl _ _) rfl
    · omega
  · intro V WW hall hbw hBW
    have vv0 : V 0 = .agg #[.int .i64 o, .int .i64 c, .int .i64 v, .int .i64 i, .int .i64 s] := hall 0 (by decide)
    have vv1 : V 1 = .agg #[.int .i64 l, .int .i64 t, .int .i64 d] := hall 1 (by decide)
    have vv2 : V 2 = .bool true := hall 2 (by decide)
    have vv3 : V 3 = .agg #[.int .i64 1, .bool true] := hall 3 (by decide)
    have vv4 : V 4 = .agg #[.int .i64 o, .int .i64 c, .int .i64 v, .int .i64 i, .int .i64 s] := hall 4 (by decide)
    have vv5 : V 5 = .agg #[.int .i64 l, .int .i64 t, .int .i64 d] := hall 5 (by decide)
    have vv6 : V 6 = .bool false := hall 6 (by decide)
    have vv7 : V 7 = .agg #[.int .i64 2, .bool false] := hall 7 (by decide)
    have vv8 : V 8 = .agg #[.int .i64 o, .int .i64 c, .int .i64 v, .int .i64 i, .int .i64 s] := hall 8 (by decide)
    have vv9 : V 9 = .agg #[.int .i64 l, .int .i64 t, .int .i64 d] := hall 9 (by decide)
    have vv10 : V 10 = .bool false := hall 10 (by decide)
    have vv11 : V 11 = .agg #[.int .i64 4, .bool false] := hall 11 (by decide)
    have vv12 : V 12 = .agg #[.int .i64 1, .bool true, .int .i64 2, .bool false, .int .i64 4, .bool false] := hall 12 (by decide)
    have vv13 : V 13 = .int .i64 0 := hall 13 (by decide)
    clear hall
    simp only [pairsOf, laid, Nat.zero_add, Nat.reduceAdd, vv0, vv1, vv2, vv3, vv4, vv5, vv6, vv7, vv8, vv9, vv10, vv11, vv12, vv13, List.setIfInBounds_toArray, List.set_cons_zero, List.set_cons_succ]
    clear vv0 vv1 vv2 vv3 vv4 vv5 vv6 vv7 vv8 vv9 vv10 vv11 vv12 vv13
    have HBW := Lib.hid hBW
    clear hbw hBW
    go_wp2_with fail
    go_loopw [6, 26] (fun o i wr => ((i = .int .i64 0 ∧ o = .int .i64 7) ∨ (i = .int .i64 1 ∧ o = .int .i64 6) ∨ (i = .int .i64 2 ∧ o = .int .i64 6) ∨ (i = .int .i64 3 ∧ o = .int .i64 6)) ∧ Below w.heap.size w wr) (fun _ i _ => 3 - (intOf i).toNat)
    case atStart => exact ⟨.inl ⟨rfl, rfl⟩, HBW.out⟩
    case round =>
      obtain ⟨hrel, hb⟩ := hrel
      rcases hrel with ⟨rfl, rfl⟩ | ⟨rfl, rfl⟩ | ⟨rfl, rfl⟩ | ⟨rfl, rfl⟩
      · go_wp2
        go_roundw
        · exact ⟨.inr (.inl ⟨rfl, rfl⟩), hb.alloc hb.size _⟩
        · simp [intOf]
      · go_wp2
        go_roundw
        · exact ⟨.inr (.inr (.inl ⟨rfl, rfl⟩)), hb.alloc hb.size _⟩
        · simp [intOf]
      · go_wp2
        go_roundw
        · exact ⟨.inr (.inr (.inr ⟨rfl, rfl⟩)), hb.alloc hb.size _⟩
        · simp [intOf]
      · go_wp2
        go_ret2
        exact ⟨rfl, hb⟩
set_option maxRecDepth 8000 in
set_option maxHeartbeats 1600000 in
theorem broken_ftt (o c v i s l t d : Int) (hR : rightF o c v i s l t d = true) (h1 : i64 o) (h2 : i64 c) (h3 : i64 v) (h4 : i64 i) (h5 : i64 s) (h6 : i64 l) (h7 : i64 t) (h8 : i64 d)
    (e1 : ltcB o c l = false) (e2 : ltcB o v t = true) (e3 : dscrB i s d = true) (w : World) :
    Calls Try.prog 8 #[.agg #[.int .i64 o, .int .i64 c, .int .i64 v, .int .i64 i, .int .i64 s], .agg #[.int .i64 l, .int .i64 t, .int .i64 d]] w fun e w' => e = .returned (.tuple #[.int .i64 1, .int .i64 0]) ∧ Below w.heap.size w w' := by
  have HRR := Lib.hid (fun W => cright_any o c v i s l t d true hR W)
  have HLt := Lib.hid (fun W => cltc_any o c v i s l t d h1 h2 h6 W)
  have HLv := Lib.hid (fun W => cltv_any o c v i s l t d h1 h3 h7 W)
  have HLd := Lib.hid (fun W => cdscr_any o c v i s l t d h4 h5 h8 W)
  rw [e1] at HLt; rw [e2] at HLv; rw [e3] at HLd
  have b71 : bits .andNot .i64 7 1 = 6 := by decide
  have b72 : bits .andNot .i64 7 2 = 5 := by decide
  have b62 : bits .andNot .i64 6 2 = 4 := by decide
  have b74 : bits .andNot .i64 7 4 = 3 := by decide
  have b64 : bits .andNot .i64 6 4 = 2 := by decide
  have b54 : bits .andNot .i64 5 4 = 1 := by decide
  have b44 : bits .andNot .i64 4 4 = 0 := by decide
  have ix0 : ∀ W, (Instr.index 41 (.agg #[.int .i64 1, .bool false, .int .i64 2, .bool true, .int .i64 4, .bool true]) (.int .i64 0)).run Try.prog W = .ok (.agg #[.int .i64 1, .bool false]) W := fun W => by kernel_rfl
  have ix1 : ∀ W, (Instr.index 41 (.agg #[.int .i64 1, .bool false, .int .i64 2, .bool true, .int .i64 4, .bool true]) (.int .i64 1)).run Try.prog W = .ok (.agg #[.int .i64 2, .bool true]) W := fun W => by kernel_rfl
  have ix2 : ∀ W, (Instr.index 41 (.agg #[.int .i64 1, .bool false, .int .i64 2, .bool true, .int .i64 4, .bool true]) (.int .i64 2)).run Try.prog W = .ok (.agg #[.int .i64 4, .bool true]) W := fun W => by kernel_rfl
  clear hR e1 e2 e3 h1 h2 h3 h4 h5 h6 h7 h8
  have HB := Lib.hid (below_new2 w (.cells #[.int .i64 o, .int .i64 c, .int .i64 v, .int .i64 i, .int .i64 s] 26) (.cells #[.int .i64 l, .int .i64 t, .int .i64 d] 28))
  have HA := Lib.hid ((Blk.new w 26 [.int .i64 o, .int .i64 c, .int .i64 v, .int .i64 i, .int .i64 s]).alloc (.cells #[.int .i64 l, .int .i64 t, .int .i64 d] 28))
  have HC := Lib.hid (Blk.new2 w (.cells #[.int .i64 o, .int .i64 c, .int .i64 v, .int .i64 i, .int .i64 s] 26) 28 [.int .i64 l, .int .i64 t, .int .i64 d])
  go_enter Try.func8, Try.ntmps8
  have hA := HA.out
  have hC := HC.out
  have a0 := hA.cell 0 _ rfl; have a1 := hA.cell 1 _ rfl; have a2 := hA.cell 2 _ rfl; have a3 := hA.cell 3 _ rfl; have a4 := hA.cell 4 _ rfl
  have c0 := hC.cell 0 _ rfl; have c1 := hC.cell 1 _ rfl; have c2 := hC.cell 2 _ rfl
  go_wp2_with fail
  refine (HRR.out _).mono ?_
  rintro e w1 ⟨rfl, hb1⟩
  have HA2 := Lib.hid (HA.out.keeps hb1)
  have HC2 := Lib.hid (HC.out.keeps hb1)
  have HB3 := Lib.hid (below_on HB.out HB.out.size hb1)
  clear a0 a1 a2 a3 a4 c0 c1 c2 hA hC hb1 HA HC HB
  go_wp2_with fail
  refine region_mono (by kernel_rfl) (by kernel_rfl) [some 13, some 14, some 15, some 16, some 17, some 18, some 19, some 20, some 21, some 22, some 23, some 24, some 25, some 26] (by kernel_rfl) w.heap.size w HB3.out (Nat.le_refl _) (fun iV vV WW => match iV with | 0 => vV = .agg #[.int .i64 o, .int .i64 c, .int .i64 v, .int .i64 i, .int .i64 s] | 1 => vV = .agg #[.int .i64 l, .int .i64 t, .int .i64 d] | 2 => vV = .bool false | 3 => vV = .agg #[.int .i64 1, .bool false] | 4 => vV = .agg #[.int .i64 o, .int .i64 c, .int .i64 v, .int .i64 i, .int .i64 s] | 5 => vV = .agg #[.int .i64 l, .int .i64 t, .int .i64 d] | 6 => vV = .bool true | 7 => vV = .agg #[.int .i64 2, .bool true] | 8 => vV = .agg #[.int .i64 o, .int .i64 c, .int .i64 v, .int .i64 i, .int .i64 s] | 9 => vV = .agg #[.int .i64 l, .int .i64 t, .int .i64 d] | 10 => vV = .bool true | 11 => vV = .agg #[.int .i64 4, .bool true] | 12 => vV = .agg #[.int .i64 1, .bool false, .int .i64 2, .bool true, .int .i64 4, .bool true] | 13 => vV = .int .i64 0 | _ => True) ?_ ?_ ?_
  · intro iV vV WW WX h hbx
    rcases iV with _ | _ | _ | _ | _ | _ | _ | _ | _ | _ | _ | _ | _ | _ | i
    · exact h
    · exact h
    · exact h
    · exact h
    · exact h
    · exact h
    · exact h
    · exact h
    · exact h
    · exact h
    · exact h
    · exact h
    · exact h
    · exact h
    · trivial
  · intro iI oO V AC WW ho hf hbw K hK
    have hlt : iI < 14 := (Array.getElem?_eq_some_iff.1 ho).1
    rcases iI with _ | _ | _ | _ | _ | _ | _ | _ | _ | _ | _ | _ | _ | _ | iI
    · obtain rfl := Option.some.inj (show some _ = some oO from ho)
      rw [if_pos (by rfl)]
      have q2 : AC.tmps.getD 2 undef = .pointer (some ⟨w.heap.size, 0, none⟩) := hf.rest 2 (by kernel_rfl)
      have hA := HA2.out.keeps hbw
      have a0 := hA.cell 0 _ rfl; have a1 := hA.cell 1 _ rfl; have a2 := hA.cell 2 _ rfl; have a3 := hA.cell 3 _ rfl; have a4 := hA.cell 4 _ rfl
      go_simp
      exact hK _ _ (Below.refl _ _) rfl
    · obtain rfl := Option.some.inj (show some _ = some oO from ho)
      rw [if_pos (by rfl)]
      have q3 : AC.tmps.getD 3 undef = .pointer (some ⟨w.heap.size + 1, 0, none⟩) := hf.rest 3 (by kernel_rfl)
      have hC := HC2.out.keeps hbw
      have c0 := hC.cell 0 _ rfl; have c1 := hC.cell 1 _ rfl; have c2 := hC.cell 2 _ rfl
      go_simp
      exact hK _ _ (Below.refl _ _) rfl
    · obtain rfl := Option.some.inj (show some _ = some oO from ho)
      rw [if_pos (by rfl)]
      have q13 : AC.tmps.getD 13 undef = .agg #[.int .i64 o, .int .i64 c, .int .i64 v, .int .i64 i, .int .i64 s] := ((hf.dep ⟨0, .data⟩ (by simp) rfl).2 13 rfl).trans (hf.dep ⟨0, .data⟩ (by simp) rfl).1
      have q14 : AC.tmps.getD 14 undef = .agg #[.int .i64 l, .int .i64 t, .int .i64 d] := ((hf.dep ⟨1, .data⟩ (by simp) rfl).2 14 rfl).trans (hf.dep ⟨1, .data⟩ (by simp) rfl).1
      go_simp
      refine (HLt.out WW).mono ?_
      rintro e w6 ⟨rfl, hb6⟩
      exact hK _ _ hb6 rfl
    · obtain rfl := Option.some.inj (show some _ = some oO from ho)
      rw [if_pos (by rfl)]
      have q15 : AC.tmps.getD 15 undef = .bool false := ((hf.dep ⟨2, .data⟩ (by simp) rfl).2 15 rfl).trans (hf.dep ⟨2, .data⟩ (by simp) rfl).1
      have pp15 := q15
      rw [Array.getD_eq_getD_getElem?] at pp15
      go_simp
      exact hK _ _ (Below.refl _ _) rfl
    · obtain rfl := Option.some.inj (show some _ = some oO from ho)
      rw [if_pos (by rfl)]
      have q2 : AC.tmps.getD 2 undef = .pointer (some ⟨w.heap.size, 0, none⟩) := hf.rest 2 (by kernel_rfl)
      have hA := HA2.out.keeps hbw
      have a0 := hA.cell 0 _ rfl; have a1 := hA.cell 1 _ rfl; have a2 := hA.cell 2 _ rfl; have a3 := hA.cell 3 _ rfl; have a4 := hA.cell 4 _ rfl
      go_simp
      exact hK _ _ (Below.refl _ _) rfl
    · obtain rfl := Option.some.inj (show some _ = some oO from ho)
      rw [if_pos (by rfl)]
      have q3 : AC.tmps.getD 3 undef = .pointer (some ⟨w.heap.size + 1, 0, none⟩) := hf.rest 3 (by kernel_rfl)
      have hC := HC2.out.keeps hbw
      have c0 := hC.cell 0 _ rfl; have c1 := hC.cell 1 _ rfl; have c2 := hC.cell 2 _ rfl
      go_simp
      exact hK _ _ (Below.refl _ _) rfl
    · obtain rfl := Option.some.inj (show some _ = some oO from ho)
      rw [if_pos (by rfl)]
      have q17 : AC.tmps.getD 17 undef = .agg #[.int .i64 o, .int .i64 c, .int .i64 v, .int .i64 i, .int .i64 s] := ((hf.dep ⟨4, .data⟩ (by simp) rfl).2 17 rfl).trans (hf.dep ⟨4, .data⟩ (by simp) rfl).1
      have q18 : AC.tmps.getD 18 undef = .agg #[.int .i64 l, .int .i64 t, .int .i64 d] := ((hf.dep ⟨5, .data⟩ (by simp) rfl).2 18 rfl).trans (hf.dep ⟨5, .data⟩ (by simp) rfl).1
      go_simp
      refine (HLv.out WW).mono ?_
      rintro e w6 ⟨rfl, hb6⟩
      exact hK _ _ hb6 rfl
    · obtain rfl := Option.some.inj (show some _ = some oO from ho)
      rw [if_pos (by rfl)]
      have q19 : AC.tmps.getD 19 undef = .bool true := ((hf.dep ⟨6, .data⟩ (by simp) rfl).2 19 rfl).trans (hf.dep ⟨6, .data⟩ (by simp) rfl).1
      have pp19 := q19
      rw [Array.getD_eq_getD_getElem?] at pp19
      go_simp
      exact hK _ _ (Below.refl _ _) rfl
    · obtain rfl := Option.some.inj (show some _ = some oO from ho)
      rw [if_pos (by rfl)]
      have q2 : AC.tmps.getD 2 undef = .pointer (some ⟨w.heap.size, 0, none⟩) := hf.rest 2 (by kernel_rfl)
      have hA := HA2.out.keeps hbw
      have a0 := hA.cell 0 _ rfl; have a1 := hA.cell 1 _ rfl; have a2 := hA.cell 2 _ rfl; have a3 := hA.cell 3 _ rfl; have a4 := hA.cell 4 _ rfl
      go_simp
      exact hK _ _ (Below.refl _ _) rfl
    · obtain rfl := Option.some.inj (show some _ = some oO from ho)
      rw [if_pos (by rfl)]
      have q3 : AC.tmps.getD 3 undef = .pointer (some ⟨w.heap.size + 1, 0, none⟩) := hf.rest 3 (by kernel_rfl)
      have hC := HC2.out.keeps hbw
      have c0 := hC.cell 0 _ rfl; have c1 := hC.cell 1 _ rfl; have c2 := hC.cell 2 _ rfl
      go_simp
      exact hK _ _ (Below.refl _ _) rfl
    · obtain rfl := Option.some.inj (show some _ = some oO from ho)
      rw [if_pos (by rfl)]
      have q21 : AC.tmps.getD 21 undef = .agg #[.int .i64 o, .int .i64 c, .int .i64 v, .int .i64 i, .int .i64 s] := ((hf.dep ⟨8, .data⟩ (by simp) rfl).2 21 rfl).trans (hf.dep ⟨8, .data⟩ (by simp) rfl).1
      have q22 : AC.tmps.getD 22 undef = .agg #[.int .i64 l, .int .i64 t, .int .i64 d] := ((hf.dep ⟨9, .data⟩ (by simp) rfl).2 22 rfl).trans (hf.dep ⟨9, .data⟩ (by simp) rfl).1
      go_simp
      refine (HLd.out WW).mono ?_
      rintro e w6 ⟨rfl, hb6⟩
      exact hK _ _ hb6 rfl
    · obtain rfl := Option.some.inj (show some _ = some oO from ho)
      rw [if_pos (by rfl)]
      have q23 : AC.tmps.getD 23 undef = .bool true := ((hf.dep ⟨10, .data⟩ (by simp) rfl).2 23 rfl).trans (hf.dep ⟨10, .data⟩ (by simp) rfl).1
      have pp23 := q23
      rw [Array.getD_eq_getD_getElem?] at pp23
      go_simp
      exact hK _ _ (Below.refl _ _) rfl
    · obtain rfl := Option.some.inj (show some _ = some oO from ho)
      rw [if_pos (by rfl)]
      have q16 : AC.tmps.getD 16 undef = .agg #[.int .i64 1, .bool false] := ((hf.dep ⟨3, .data⟩ (by simp) rfl).2 16 rfl).trans (hf.dep ⟨3, .data⟩ (by simp) rfl).1
      have q20 : AC.tmps.getD 20 undef = .agg #[.int .i64 2, .bool true] := ((hf.dep ⟨7, .data⟩ (by simp) rfl).2 20 rfl).trans (hf.dep ⟨7, .data⟩ (by simp) rfl).1
      have q24 : AC.tmps.getD 24 undef = .agg #[.int .i64 4, .bool true] := ((hf.dep ⟨11, .data⟩ (by simp) rfl).2 24 rfl).trans (hf.dep ⟨11, .data⟩ (by simp) rfl).1
      have pp16 := q16
      rw [Array.getD_eq_getD_getElem?] at pp16
      have pp20 := q20
      rw [Array.getD_eq_getD_getElem?] at pp20
      have pp24 := q24
      rw [Array.getD_eq_getD_getElem?] at pp24
      go_simp
      exact hK _ _ (Below.refl _ _) rfl
    · obtain rfl := Option.some.inj (show some _ = some oO from ho)
      rw [if_pos (by rfl)]
      go_simp
      exact hK _ _ (Below.refl _ _) rfl
    · omega
  · intro V WW hall hbw hBW
    have vv0 : V 0 = .agg #[.int .i64 o, .int .i64 c, .int .i64 v, .int .i64 i, .int .i64 s] := hall 0 (by decide)
    have vv1 : V 1 = .agg #[.int .i64 l, .int .i64 t, .int .i64 d] := hall 1 (by decide)
    have vv2 : V 2 = .bool false := hall 2 (by decide)
    have vv3 : V 3 = .agg #[.int .i64 1, .bool false] := hall 3 (by decide)
    have vv4 : V 4 = .agg #[.int .i64 o, .int .i64 c, .int .i64 v, .int .i64 i, .int .i64 s] := hall 4 (by decide)
    have vv5 : V 5 = .agg #[.int .i64 l, .int .i64 t, .int .i64 d] := hall 5 (by decide)
    have vv6 : V 6 = .bool true := hall 6 (by decide)
    have vv7 : V 7 = .agg #[.int .i64 2, .bool true] := hall 7 (by decide)
    have vv8 : V 8 = .agg #[.int .i64 o, .int .i64 c, .int .i64 v, .int .i64 i, .int .i64 s] := hall 8 (by decide)
    have vv9 : V 9 = .agg #[.int .i64 l, .int .i64 t, .int .i64 d] := hall 9 (by decide)
    have vv10 : V 10 = .bool true := hall 10 (by decide)
    have vv11 : V 11 = .agg #[.int .i64 4, .bool true] := hall 11 (by decide)
    have vv12 : V 12 = .agg #[.int .i64 1, .bool false, .int .i64 2, .bool true, .int .i64 4, .bool true] := hall 12 (by decide)
    have vv13 : V 13 = .int .i64 0 := hall 13 (by decide)
    clear hall
    simp only [pairsOf, laid, Nat.zero_add, Nat.reduceAdd, vv0, vv1, vv2, vv3, vv4, vv5, vv6, vv7, vv8, vv9, vv10, vv11, vv12, vv13, List.setIfInBounds_toArray, List.set_cons_zero, List.set_cons_succ]
    clear vv0 vv1 vv2 vv3 vv4 vv5 vv6 vv7 vv8 vv9 vv10 vv11 vv12 vv13
    have HBW := Lib.hid hBW
    clear hbw hBW
    go_wp2_with fail
    go_loopw [6, 26] (fun o i wr => ((i = .int .i64 0 ∧ o = .int .i64 7) ∨ (i = .int .i64 1 ∧ o = .int .i64 7) ∨ (i = .int .i64 2 ∧ o = .int .i64 5) ∨ (i = .int .i64 3 ∧ o = .int .i64 1)) ∧ Below w.heap.size w wr) (fun _ i _ => 3 - (intOf i).toNat)
    case atStart => exact ⟨.inl ⟨rfl, rfl⟩, HBW.out⟩
    case round =>
      obtain ⟨hrel, hb⟩ := hrel
      rcases hrel with ⟨rfl, rfl⟩ | ⟨rfl, rfl⟩ | ⟨rfl, rfl⟩ | ⟨rfl, rfl⟩
      · go_wp2
        go_roundw
        · exact ⟨.inr (.inl ⟨rfl, rfl⟩), hb.alloc hb.size _⟩
        · simp [intOf]
      · go_wp2
        go_roundw
        · exact ⟨.inr (.inr (.inl ⟨rfl, rfl⟩)), hb.alloc hb.size _⟩
        · simp [intOf]
      · go_wp2
        go_roundw
        · exact ⟨.inr (.inr (.inr ⟨rfl, rfl⟩)), hb.alloc hb.size _⟩
        · simp [intOf]
      · go_wp2
        go_ret2
        exact ⟨rfl, hb⟩
set_option maxRecDepth 8000 in
set_option maxHeartbeats 1600000 in
theorem broken_ftf (o c v i s l t d : Int) (hR : rightF o c v i s l t d = true) (h1 : i64 o) (h2 : i64 c) (h3 : i64 v) (h4 : i64 i) (h5 : i64 s) (h6 : i64 l) (h7 : i64 t) (h8 : i64 d)
    (e1 : ltcB o c l = false) (e2 : ltcB o v t = true) (e3 : dscrB i s d = false) (w : World) :
    Calls Try.prog 8 #[.agg #[.int .i64 o, .int .i64 c, .int .i64 v, .int .i64 i, .int .i64 s], .agg #[.int .i64 l, .int .i64 t, .int .i64 d]] w fun e w' => e = .returned (.tuple #[.int .i64 5, .int .i64 0]) ∧ Below w.heap.size w w' := by
  have HRR := Lib.hid (fun W => cright_any o c v i s l t d true hR W)
  have HLt := Lib.hid (fun W => cltc_any o c v i s l t d h1 h2 h6 W)
  have HLv := Lib.hid (fun W => cltv_any o c v i s l t d h1 h3 h7 W)
  have HLd := Lib.hid (fun W => cdscr_any o c v i s l t d h4 h5 h8 W)
  rw [e1] at HLt; rw [e2] at HLv; rw [e3] at HLd
  have b71 : bits .andNot .i64 7 1 = 6 := by decide
  have b72 : bits .andNot .i64 7 2 = 5 := by decide
  have b62 : bits .andNot .i64 6 2 = 4 := by decide
  have b74 : bits .andNot .i64 7 4 = 3 := by decide
  have b64 : bits .andNot .i64 6 4 = 2 := by decide
  have b54 : bits .andNot .i64 5 4 = 1 := by decide
  have b44 : bits .andNot .i64 4 4 = 0 := by decide
  have ix0 : ∀ W, (Instr.index 41 (.agg #[.int .i64 1, .bool false, .int .i64 2, .bool true, .int .i64 4, .bool false]) (.int .i64 0)).run Try.prog W = .ok (.agg #[.int .i64 1, .bool false]) W := fun W => by kernel_rfl
  have ix1 : ∀ W, (Instr.index 41 (.agg #[.int .i64 1, .bool false, .int .i64 2, .bool true, .int .i64 4, .bool false]) (.int .i64 1)).run Try.prog W = .ok (.agg #[.int .i64 2, .bool true]) W := fun W => by kernel_rfl
  have ix2 : ∀ W, (Instr.index 41 (.agg #[.int .i64 1, .bool false, .int .i64 2, .bool true, .int .i64 4, .bool false]) (.int .i64 2)).run Try.prog W = .ok (.agg #[.int .i64 4, .bool false]) W := fun W => by kernel_rfl
  clear hR e1 e2 e3 h1 h2 h3 h4 h5 h6 h7 h8
  have HB := Lib.hid (below_new2 w (.cells #[.int .i64 o, .int .i64 c, .int .i64 v, .int .i64 i, .int .i64 s] 26) (.cells #[.int .i64 l, .int .i64 t, .int .i64 d] 28))
  have HA := Lib.hid ((Blk.new w 26 [.int .i64 o, .int .i64 c, .int .i64 v, .int .i64 i, .int .i64 s]).alloc (.cells #[.int .i64 l, .int .i64 t, .int .i64 d] 28))
  have HC := Lib.hid (Blk.new2 w (.cells #[.int .i64 o, .int .i64 c, .int .i64 v, .int .i64 i, .int .i64 s] 26) 28 [.int .i64 l, .int .i64 t, .int .i64 d])
  go_enter Try.func8, Try.ntmps8
  have hA := HA.out
  have hC := HC.out
  have a0 := hA.cell 0 _ rfl; have a1 := hA.cell 1 _ rfl; have a2 := hA.cell 2 _ rfl; have a3 := hA.cell 3 _ rfl; have a4 := hA.cell 4 _ rfl
  have c0 := hC.cell 0 _ rfl; have c1 := hC.cell 1 _ rfl; have c2 := hC.cell 2 _ rfl
  go_wp2_with fail
  refine (HRR.out _).mono ?_
  rintro e w1 ⟨rfl, hb1⟩
  have HA2 := Lib.hid (HA.out.keeps hb1)
  have HC2 := Lib.hid (HC.out.keeps hb1)
  have HB3 := Lib.hid (below_on HB.out HB.out.size hb1)
  clear a0 a1 a2 a3 a4 c0 c1 c2 hA hC hb1 HA HC HB
  go_wp2_with fail
  refine region_mono (by kernel_rfl) (by kernel_rfl) [some 13, some 14, some 15, some 16, some 17, some 18, some 19, some 20, some 21, some 22, some 23, some 24, some 25, some 26] (by kernel_rfl) w.heap.size w HB3.out (Nat.le_refl _) (fun iV vV WW => match iV with | 0 => vV = .agg #[.int .i64 o, .int .i64 c, .int .i64 v, .int .i64 i, .int .i64 s] | 1 => vV = .agg #[.int .i64 l, .int .i64 t, .int .i64 d] | 2 => vV = .bool false | 3 => vV = .agg #[.int .i64 1, .bool false] | 4 => vV = .agg #[.int .i64 o, .int .i64 c, .int .i64 v, .int .i64 i, .int .i64 s] | 5 => vV = .agg #[.int .i64 l, .int .i64 t, .int .i64 d] | 6 => vV = .bool true | 7 => vV = .agg #[.int .i64 2, .bool true] | 8 => vV = .agg #[.int .i64 o, .int .i64 c, .int .i64 v, .int .i64 i, .int .i64 s] | 9 => vV = .agg #[.int .i64 l, .int .i64 t, .int .i64 d] | 10 => vV = .bool false | 11 => vV = .agg #[.int .i64 4, .bool false] | 12 => vV = .agg #[.int .i64 1, .bool false, .int .i64 2, .bool true, .int .i64 4, .bool false] | 13 => vV = .int .i64 0 | _ => True) ?_ ?_ ?_
  · intro iV vV WW WX h hbx
    rcases iV with _ | _ | _ | _ | _ | _ | _ | _ | _ | _ | _ | _ | _ | _ | i
    · exact h
    · exact h
    · exact h
    · exact h
    · exact h
    · exact h
    · exact h
    · exact h
    · exact h
    · exact h
    · exact h
    · exact h
    · exact h
    · exact h
    · trivial
  · intro iI oO V AC WW ho hf hbw K hK
    have hlt : iI < 14 := (Array.getElem?_eq_some_iff.1 ho).1
    rcases iI with _ | _ | _ | _ | _ | _ | _ | _ | _ | _ | _ | _ | _ | _ | iI
    · obtain rfl := Option.some.inj (show some _ = some oO from ho)
      rw [if_pos (by rfl)]
      have q2 : AC.tmps.getD 2 undef = .pointer (some ⟨w.heap.size, 0, none⟩) := hf.rest 2 (by kernel_rfl)
      have hA := HA2.out.keeps hbw
      have a0 := hA.cell 0 _ rfl; have a1 := hA.cell 1 _ rfl; have a2 := hA.cell 2 _ rfl; have a3 := hA.cell 3 _ rfl; have a4 := hA.cell 4 _ rfl
      go_simp
      exact hK _ _ (Below.refl _ _) rfl
    · obtain rfl := Option.some.inj (show some _ = some oO from ho)
      rw [if_pos (by rfl)]
      have q3 : AC.tmps.getD 3 undef = .pointer (some ⟨w.heap.size + 1, 0, none⟩) := hf.rest 3 (by kernel_rfl)
      have hC := HC2.out.keeps hbw
      have c0 := hC.cell 0 _ rfl; have c1 := hC.cell 1 _ rfl; have c2 := hC.cell 2 _ rfl
      go_simp
      exact hK _ _ (Below.refl _ _) rfl
    · obtain rfl := Option.some.inj (show some _ = some oO from ho)
      rw [if_pos (by rfl)]
      have q13 : AC.tmps.getD 13 undef = .agg #[.int .i64 o, .int .i64 c, .int .i64 v, .int .i64 i, .int .i64 s] := ((hf.dep ⟨0, .data⟩ (by simp) rfl).2 13 rfl).trans (hf.dep ⟨0, .data⟩ (by simp) rfl).1
      have q14 : AC.tmps.getD 14 undef = .agg #[.int .i64 l, .int .i64 t, .int .i64 d] := ((hf.dep ⟨1, .data⟩ (by simp) rfl).2 14 rfl).trans (hf.dep ⟨1, .data⟩ (by simp) rfl).1
      go_simp
      refine (HLt.out WW).mono ?_
      rintro e w6 ⟨rfl, hb6⟩
      exact hK _ _ hb6 rfl
    · obtain rfl := Option.some.inj (show some _ = some oO from ho)
      rw [if_pos (by rfl)]
      have q15 : AC.tmps.getD 15 undef = .bool false := ((hf.dep ⟨2, .data⟩ (by simp) rfl).2 15 rfl).trans (hf.dep ⟨2, .data⟩ (by simp) rfl).1
      have pp15 := q15
      rw [Array.getD_eq_getD_getElem?] at pp15
      go_simp
      exact hK _ _ (Below.refl _ _) rfl
    · obtain rfl := Option.some.inj (show some _ = some oO from ho)
      rw [if_pos (by rfl)]
      have q2 : AC.tmps.getD 2 undef = .pointer (some ⟨w.heap.size, 0, none⟩) := hf.rest 2 (by kernel_rfl)
      have hA := HA2.out.keeps hbw
      have a0 := hA.cell 0 _ rfl; have a1 := hA.cell 1 _ rfl; have a2 := hA.cell 2 _ rfl; have a3 := hA.cell 3 _ rfl; have a4 := hA.cell 4 _ rfl
      go_simp
      exact hK _ _ (Below.refl _ _) rfl
    · obtain rfl := Option.some.inj (show some _ = some oO from ho)
      rw [if_pos (by rfl)]
      have q3 : AC.tmps.getD 3 undef = .pointer (some ⟨w.heap.size + 1, 0, none⟩) := hf.rest 3 (by kernel_rfl)
      have hC := HC2.out.keeps hbw
      have c0 := hC.cell 0 _ rfl; have c1 := hC.cell 1 _ rfl; have c2 := hC.cell 2 _ rfl
      go_simp
      exact hK _ _ (Below.refl _ _) rfl
    · obtain rfl := Option.some.inj (show some _ = some oO from ho)
      rw [if_pos (by rfl)]
      have q17 : AC.tmps.getD 17 undef = .agg #[.int .i64 o, .int .i64 c, .int .i64 v, .int .i64 i, .int .i64 s] := ((hf.dep ⟨4, .data⟩ (by simp) rfl).2 17 rfl).trans (hf.dep ⟨4, .data⟩ (by simp) rfl).1
      have q18 : AC.tmps.getD 18 undef = .agg #[.int .i64 l, .int .i64 t, .int .i64 d] := ((hf.dep ⟨5, .data⟩ (by simp) rfl).2 18 rfl).trans (hf.dep ⟨5, .data⟩ (by simp) rfl).1
      go_simp
      refine (HLv.out WW).mono ?_
      rintro e w6 ⟨rfl, hb6⟩
      exact hK _ _ hb6 rfl
    · obtain rfl := Option.some.inj (show some _ = some oO from ho)
      rw [if_pos (by rfl)]
      have q19 : AC.tmps.getD 19 undef = .bool true := ((hf.dep ⟨6, .data⟩ (by simp) rfl).2 19 rfl).trans (hf.dep ⟨6, .data⟩ (by simp) rfl).1
      have pp19 := q19
      rw [Array.getD_eq_getD_getElem?] at pp19
      go_simp
      exact hK _ _ (Below.refl _ _) rfl
    · obtain rfl := Option.some.inj (show some _ = some oO from ho)
      rw [if_pos (by rfl)]
      have q2 : AC.tmps.getD 2 undef = .pointer (some ⟨w.heap.size, 0, none⟩) := hf.rest 2 (by kernel_rfl)
      have hA := HA2.out.keeps hbw
      have a0 := hA.cell 0 _ rfl; have a1 := hA.cell 1 _ rfl; have a2 := hA.cell 2 _ rfl; have a3 := hA.cell 3 _ rfl; have a4 := hA.cell 4 _ rfl
      go_simp
      exact hK _ _ (Below.refl _ _) rfl
    · obtain rfl := Option.some.inj (show some _ = some oO from ho)
      rw [if_pos (by rfl)]
      have q3 : AC.tmps.getD 3 undef = .pointer (some ⟨w.heap.size + 1, 0, none⟩) := hf.rest 3 (by kernel_rfl)
      have hC := HC2.out.keeps hbw
      have c0 := hC.cell 0 _ rfl; have c1 := hC.cell 1 _ rfl; have c2 := hC.cell 2 _ rfl
      go_simp
      exact hK _ _ (Below.refl _ _) rfl
    · obtain rfl := Option.some.inj (show some _ = some oO from ho)
      rw [if_pos (by rfl)]
      have q21 : AC.tmps.getD 21 undef = .agg #[.int .i64 o, .int .i64 c, .int .i64 v, .int .i64 i, .int .i64 s] := ((hf.dep ⟨8, .data⟩ (by simp) rfl).2 21 rfl).trans (hf.dep ⟨8, .data⟩ (by simp) rfl).1
      have q22 : AC.tmps.getD 22 undef = .agg #[.int .i64 l, .int .i64 t, .int .i64 d] := ((hf.dep ⟨9, .data⟩ (by simp) rfl).2 22 rfl).trans (hf.dep ⟨9, .data⟩ (by simp) rfl).1
      go_simp
      refine (HLd.out WW).mono ?_
      rintro e w6 ⟨rfl, hb6⟩
      exact hK _ _ hb6 rfl
    · obtain rfl := Option.some.inj (show some _ = some oO from ho)
      rw [if_pos (by rfl)]
      have q23 : AC.tmps.getD 23 undef = .bool false := ((hf.dep ⟨10, .data⟩ (by simp) rfl).2 23 rfl).trans (hf.dep ⟨10, .data⟩ (by simp) rfl).1
      have pp23 := q23
      rw [Array.getD_eq_getD_getElem?] at pp23
      go_simp
      exact hK _ _ (Below.refl _ _) rfl
    · obtain rfl := Option.some.inj (show some _ = some oO from ho)
      rw [if_pos (by rfl)]
      have q16 : AC.tmps.getD 16 undef = .agg #[.int .i64 1, .bool false] := ((hf.dep ⟨3, .data⟩ (by simp) rfl).2 16 rfl).trans (hf.dep ⟨3, .data⟩ (by simp) rfl).1
      have q20 : AC.tmps.getD 20 undef = .agg #[.int .i64 2, .bool true] := ((hf.dep ⟨7, .data⟩ (by simp) rfl).2 20 rfl).trans (hf.dep ⟨7, .data⟩ (by simp) rfl).1
      have q24 : AC.tmps.getD 24 undef = .agg #[.int .i64 4, .bool false] := ((hf.dep ⟨11, .data⟩ (by simp) rfl).2 24 rfl).trans (hf.dep ⟨11, .data⟩ (by simp) rfl).1
      have pp16 := q16
      rw [Array.getD_eq_getD_getElem?] at pp16
      have pp20 := q20
      rw [Array.getD_eq_getD_getElem?] at pp20
      have pp24 := q24
      rw [Array.getD_eq_getD_getElem?] at pp24
      go_simp
      exact hK _ _ (Below.refl _ _) rfl
    · obtain rfl := Option.some.inj (show some _ = some oO from ho)
      rw [if_pos (by rfl)]
      go_simp
      exact hK _ _ (Below.refl _ _) rfl
    · omega
  · intro V WW hall hbw hBW
    have vv0 : V 0 = .agg #[.int .i64 o, .int .i64 c, .int .i64 v, .int .i64 i, .int .i64 s] := hall 0 (by decide)
    have vv1 : V 1 = .agg #[.int .i64 l, .int .i64 t, .int .i64 d] := hall 1 (by decide)
    have vv2 : V 2 = .bool false := hall 2 (by decide)
    have vv3 : V 3 = .agg #[.int .i64 1, .bool false] := hall 3 (by decide)
    have vv4 : V 4 = .agg #[.int .i64 o, .int .i64 c, .int .i64 v, .int .i64 i, .int .i64 s] := hall 4 (by decide)
    have vv5 : V 5 = .agg #[.int .i64 l, .int .i64 t, .int .i64 d] := hall 5 (by decide)
    have vv6 : V 6 = .bool true := hall 6 (by decide)
    have vv7 : V 7 = .agg #[.int .i64 2, .bool true] := hall 7 (by decide)
    have vv8 : V 8 = .agg #[.int .i64 o, .int .i64 c, .int .i64 v, .int .i64 i, .int .i64 s] := hall 8 (by decide)
    have vv9 : V 9 = .agg #[.int .i64 l, .int .i64 t, .int .i64 d] := hall 9 (by decide)
    have vv10 : V 10 = .bool false := hall 10 (by decide)
    have vv11 : V 11 = .agg #[.int .i64 4, .bool false] := hall 11 (by decide)
    have vv12 : V 12 = .agg #[.int .i64 1, .bool false, .int .i64 2, .bool true, .int .i64 4, .bool false] := hall 12 (by decide)
    have vv13 : V 13 = .int .i64 0 := hall 13 (by decide)
    clear hall
    simp only [pairsOf, laid, Nat.zero_add, Nat.reduceAdd, vv0, vv1, vv2, vv3, vv4, vv5, vv6, vv7, vv8, vv9, vv10, vv11, vv12, vv13, List.setIfInBounds_toArray, List.set_cons_zero, List.set_cons_succ]
    clear vv0 vv1 vv2 vv3 vv4 vv5 vv6 vv7 vv8 vv9 vv10 vv11 vv12 vv13
    have HBW := Lib.hid hBW
    clear hbw hBW
    go_wp2_with fail
    go_loopw [6, 26] (fun o i wr => ((i = .int .i64 0 ∧ o = .int .i64 7) ∨ (i = .int .i64 1 ∧ o = .int .i64 7) ∨ (i = .int .i64 2 ∧ o = .int .i64 5) ∨ (i = .int .i64 3 ∧ o = .int .i64 5)) ∧ Below w.heap.size w wr) (fun _ i _ => 3 - (intOf i).toNat)
    case atStart => exact ⟨.inl ⟨rfl, rfl⟩, HBW.out⟩
    case round =>
      obtain ⟨hrel, hb⟩ := hrel
      rcases hrel with ⟨rfl, rfl⟩ | ⟨rfl, rfl⟩ | ⟨rfl, rfl⟩ | ⟨rfl, rfl⟩
      · go_wp2
        go_roundw
        · exact ⟨.inr (.inl ⟨rfl, rfl⟩), hb.alloc hb.size _⟩
        · simp [intOf]
      · go_wp2
        go_roundw
        · exact ⟨.inr (.inr (.inl ⟨rfl, rfl⟩)), hb.alloc hb.size _⟩
        · simp [intOf]
      · go_wp2
        go_roundw
        · exact ⟨.inr (.inr (.inr ⟨rfl, rfl⟩)), hb.alloc hb.size _⟩
        · simp [intOf]
      · go_wp2
        go_ret2
        exact ⟨rfl, hb⟩
set_option maxRecDepth 8000 in
set_option maxHeartbeats 1600000 in
theorem broken_fft (o c v i s l t d : Int) (hR : rightF o c v i s l t d = true) (h1 : i64 o) (h2 : i64 c) (h3 : i64 v) (h4 : i64 i) (h5 : i64 s) (h6 : i64 l) (h7 : i64 t) (h8 : i64 d)
    (e1 : ltcB o c l = false) (e2 : ltcB o v t = false) (e3 : dscrB i s d = true) (w : World) :
    Calls Try.prog 8 #[.agg #[.int .i64 o, .int .i64 c, .int .i64 v, .int .i64 i, .int .i64 s], .agg #[.int .i64 l, .int .i64 t, .int .i64 d]] w fun e w' => e = .returned (.tuple #[.int .i64 3, .int .i64 0]) ∧ Below w.heap.size w w' := by
  have HRR := Lib.hid (fun W => cright_any o c v i s l t d true hR W)
  have HLt := Lib.hid (fun W => cltc_any o c v i s l t d h1 h2 h6 W)
  have HLv := Lib.hid (fun W => cltv_any o c v i s l t d h1 h3 h7 W)
  have HLd := Lib.hid (fun W => cdscr_any o c v i s l t d h4 h5 h8 W)
  rw [e1] at HLt; rw [e2] at HLv; rw [e3] at HLd
  have b71 : bits .andNot .i64 7 1 = 6 := by decide
  have b72 : bits .andNot .i64 7 2 = 5 := by decide
  have b62 : bits .andNot .i64 6 2 = 4 := by decide
  have b74 : bits .andNot .i64 7 4 = 3 := by decide
  have b64 : bits .andNot .i64 6 4 = 2 := by decide
  have b54 : bits .andNot .i64 5 4 = 1 := by decide
  have b44 : bits .andNot .i64 4 4 = 0 := by decide
  have ix0 : ∀ W, (Instr.index 41 (.agg #[.int .i64 1, .bool false, .int .i64 2, .bool false, .int .i64 4, .bool true]) (.int .i64 0)).run Try.prog W = .ok (.agg #[.int .i64 1, .bool false]) W := fun W => by kernel_rfl
  have ix1 : ∀ W, (Instr.index 41 (.agg #[.int .i64 1, .bool false, .int .i64 2, .bool false, .int .i64 4, .bool true]) (.int .i64 1)).run Try.prog W = .ok (.agg #[.int .i64 2, .bool false]) W := fun W => by kernel_rfl
  have ix2 : ∀ W, (Instr.index 41 (.agg #[.int .i64 1, .bool false, .int .i64 2, .bool false, .int .i64 4, .bool true]) (.int .i64 2)).run Try.prog W = .ok (.agg #[.int .i64 4, .bool true]) W := fun W => by kernel_rfl
  clear hR e1 e2 e3 h1 h2 h3 h4 h5 h6 h7 h8
  have HB := Lib.hid (below_new2 w (.cells #[.int .i64 o, .int .i64 c, .int .i64 v, .int .i64 i, .int .i64 s] 26) (.cells #[.int .i64 l, .int .i64 t, .int .i64 d] 28))
  have HA := Lib.hid ((Blk.new w 26 [.int .i64 o, .int .i64 c, .int .i64 v, .int .i64 i, .int .i64 s]).alloc (.cells #[.int .i64 l, .int .i64 t, .int .i64 d] 28))
  have HC := Lib.hid (Blk.new2 w (.cells #[.int .i64 o, .int .i64 c, .int .i64 v, .int .i64 i, .int .i64 s] 26) 28 [.int .i64 l, .int .i64 t, .int .i64 d])
  go_enter Try.func8, Try.ntmps8
  have hA := HA.out
  have hC := HC.out
  have a0 := hA.cell 0 _ rfl; have a1 := hA.cell 1 _ rfl; have a2 := hA.cell 2 _ rfl; have a3 := hA.cell 3 _ rfl; have a4 := hA.cell 4 _ rfl
  have c0 := hC.cell 0 _ rfl; have c1 := hC.cell 1 _ rfl; have c2 := hC.cell 2 _ rfl
  go_wp2_with fail
  refine (HRR.out _).mono ?_
  rintro e w1 ⟨rfl, hb1⟩
  have HA2 := Lib.hid (HA.out.keeps hb1)
  have HC2 := Lib.hid (HC.out.keeps hb1)
  have HB3 := Lib.hid (below_on HB.out HB.out.size hb1)
  clear a0 a1 a2 a3 a4 c0 c1 c2 hA hC hb1 HA HC HB
  go_wp2_with fail
  refine region_mono (by kernel_rfl) (by kernel_rfl) [some 13, some 14, some 15, some 16, some 17, some 18, some 19, some 20, some 21, some 22, some 23, some 24, some 25, some 26] (by kernel_rfl) w.heap.size w HB3.out (Nat.le_refl _) (fun iV vV WW => match iV with | 0 => vV = .agg #[.int .i64 o, .int .i64 c, .int .i64 v, .int .i64 i, .int .i64 s] | 1 => vV = .agg #[.int .i64 l, .int .i64 t, .int .i64 d] | 2 => vV = .bool false | 3 => vV = .agg #[.int .i64 1, .bool false] | 4 => vV = .agg #[.int .i64 o, .int .i64 c, .int .i64 v, .int .i64 i, .int .i64 s] | 5 => vV = .agg #[.int .i64 l, .int .i64 t, .int .i64 d] | 6 => vV = .bool false | 7 => vV = .agg #[.int .i64 2, .bool false] | 8 => vV = .agg #[.int .i64 o, .int .i64 c, .int .i64 v, .int .i64 i, .int .i64 s] | 9 => vV = .agg #[.int .i64 l, .int .i64 t, .int .i64 d] | 10 => vV = .bool true | 11 => vV = .agg #[.int .i64 4, .bool true] | 12 => vV = .agg #[.int .i64 1, .bool false, .int .i64 2, .bool false, .int .i64 4, .bool true] | 13 => vV = .int .i64 0 | _ => True) ?_ ?_ ?_
  · intro iV vV WW WX h hbx
    rcases iV with _ | _ | _ | _ | _ | _ | _ | _ | _ | _ | _ | _ | _ | _ | i
    · exact h
    · exact h
    · exact h
    · exact h
    · exact h
    · exact h
    · exact h
    · exact h
    · exact h
    · exact h
    · exact h
    · exact h
    · exact h
    · exact h
    · trivial
  · intro iI oO V AC WW ho hf hbw K hK
    have hlt : iI < 14 := (Array.getElem?_eq_some_iff.1 ho).1
    rcases iI with _ | _ | _ | _ | _ | _ | _ | _ | _ | _ | _ | _ | _ | _ | iI
    · obtain rfl := Option.some.inj (show some _ = some oO from ho)
      rw [if_pos (by rfl)]
      have q2 : AC.tmps.getD 2 undef = .pointer (some ⟨w.heap.size, 0, none⟩) := hf.rest 2 (by kernel_rfl)
      have hA := HA2.out.keeps hbw
      have a0 := hA.cell 0 _ rfl; have a1 := hA.cell 1 _ rfl; have a2 := hA.cell 2 _ rfl; have a3 := hA.cell 3 _ rfl; have a4 := hA.cell 4 _ rfl
      go_simp
      exact hK _ _ (Below.refl _ _) rfl
    · obtain rfl := Option.some.inj (show some _ = some oO from ho)
      rw [if_pos (by rfl)]
      have q3 : AC.tmps.getD 3 undef = .pointer (some ⟨w.heap.size + 1, 0, none⟩) := hf.rest 3 (by kernel_rfl)
      have hC := HC2.out.keeps hbw
      have c0 := hC.cell 0 _ rfl; have c1 := hC.cell 1 _ rfl; have c2 := hC.cell 2 _ rfl
      go_simp
      exact hK _ _ (Below.refl _ _) rfl
    · obtain rfl := Option.some.inj (show some _ = some oO from ho)
      rw [if_pos (by rfl)]
      have q13 : AC.tmps.getD 13 undef = .agg #[.int .i64 o, .int .i64 c, .int .i64 v, .int .i64 i, .int .i64 s] := ((hf.dep ⟨0, .data⟩ (by simp) rfl).2 13 rfl).trans (hf.dep ⟨0, .data⟩ (by simp) rfl).1
      have q14 : AC.tmps.getD 14 undef = .agg #[.int .i64 l, .int .i64 t, .int .i64 d] := ((hf.dep ⟨1, .data⟩ (by simp) rfl).2 14 rfl).trans (hf.dep ⟨1, .data⟩ (by simp) rfl).1
      go_simp
      refine (HLt.out WW).mono ?_
      rintro e w6 ⟨rfl, hb6⟩
      exact hK _ _ hb6 rfl
    · obtain rfl := Option.some.inj (show some _ = some oO from ho)
      rw [if_pos (by rfl)]
      have q15 : AC.tmps.getD 15 undef = .bool false := ((hf.dep ⟨2, .data⟩ (by simp) rfl).2 15 rfl).trans (hf.dep ⟨2, .data⟩ (by simp) rfl).1
      have pp15 := q15
      rw [Array.getD_eq_getD_getElem?] at pp15
      go_simp
      exact hK _ _ (Below.refl _ _) rfl
    · obtain rfl := Option.some.inj (show some _ = some oO from ho)
      rw [if_pos (by rfl)]
      have q2 : AC.tmps.getD 2 undef = .pointer (some ⟨w.heap.size, 0, none⟩) := hf.rest 2 (by kernel_rfl)
      have hA := HA2.out.keeps hbw
      have a0 := hA.cell 0 _ rfl; have a1 := hA.cell 1 _ rfl; have a2 := hA.cell 2 _ rfl; have a3 := hA.cell 3 _ rfl; have a4 := hA.cell 4 _ rfl
      go_simp
      exact hK _ _ (Below.refl _ _) rfl
    · obtain rfl := Option.some.inj (show some _ = some oO from ho)
      rw [if_pos (by rfl)]
      have q3 : AC.tmps.getD 3 undef = .pointer (some ⟨w.heap.size + 1, 0, none⟩) := hf.rest 3 (by kernel_rfl)
      have hC := HC2.out.keeps hbw
      have c0 := hC.cell 0 _ rfl; have c1 := hC.cell 1 _ rfl; have c2 := hC.cell 2 _ rfl
      go_simp
      exact hK _ _ (Below.refl _ _) rfl
    · obtain rfl := Option.some.inj (show some _ = some oO from ho)
      rw [if_pos (by rfl)]
      have q17 : AC.tmps.getD 17 undef = .agg #[.int .i64 o, .int .i64 c, .int .i64 v, .int .i64 i, .int .i64 s] := ((hf.dep ⟨4, .data⟩ (by simp) rfl).2 17 rfl).trans (hf.dep ⟨4, .data⟩ (by simp) rfl).1
      have q18 : AC.tmps.getD 18 undef = .agg #[.int .i64 l, .int .i64 t, .int .i64 d] := ((hf.dep ⟨5, .data⟩ (by simp) rfl).2 18 rfl).trans (hf.dep ⟨5, .data⟩ (by simp) rfl).1
      go_simp
      refine (HLv.out WW).mono ?_
      rintro e w6 ⟨rfl, hb6⟩
      exact hK _ _ hb6 rfl
    · obtain rfl := Option.some.inj (show some _ = some oO from ho)
      rw [if_pos (by rfl)]
      have q19 : AC.tmps.getD 19 undef = .bool false := ((hf.dep ⟨6, .data⟩ (by simp) rfl).2 19 rfl).trans (hf.dep ⟨6, .data⟩ (by simp) rfl).1
      have pp19 := q19
      rw [Array.getD_eq_getD_getElem?] at pp19
      go_simp
      exact hK _ _ (Below.refl _ _) rfl
    · obtain rfl := Option.some.inj (show some _ = some oO from ho)
      rw [if_pos (by rfl)]
      have q2 : AC.tmps.getD 2 undef = .pointer (some ⟨w.heap.size, 0, none⟩) := hf.rest 2 (by kernel_rfl)
      have hA := HA2.out.keeps hbw
      have a0 := hA.cell 0 _ rfl; have a1 := hA.cell 1 _ rfl; have a2 := hA.cell 2 _ rfl; have a3 := hA.cell 3 _ rfl; have a4 := hA.cell 4 _ rfl
      go_simp
      exact hK _ _ (Below.refl _ _) rfl
    · obtain rfl := Option.some.inj (show some _ = some oO from ho)
      rw [if_pos (by rfl)]
      have q3 : AC.tmps.getD 3 undef = .pointer (some ⟨w.heap.size + 1, 0, none⟩) := hf.rest 3 (by kernel_rfl)
      have hC := HC2.out.keeps hbw
      have c0 := hC.cell 0 _ rfl; have c1 := hC.cell 1 _ rfl; have c2 := hC.cell 2 _ rfl
      go_simp
      exact hK _ _ (Below.refl _ _) rfl
    · obtain rfl := Option.some.inj (show some _ = some oO from ho)
      rw [if_pos (by rfl)]
      have q21 : AC.tmps.getD 21 undef = .agg #[.int .i64 o, .int .i64 c, .int .i64 v, .int .i64 i, .int .i64 s] := ((hf.dep ⟨8, .data⟩ (by simp) rfl).2 21 rfl).trans (hf.dep ⟨8, .data⟩ (by simp) rfl).1
      have q22 : AC.tmps.getD 22 undef = .agg #[.int .i64 l, .int .i64 t, .int .i64 d] := ((hf.dep ⟨9, .data⟩ (by simp) rfl).2 22 rfl).trans (hf.dep ⟨9, .data⟩ (by simp) rfl).1
      go_simp
      refine (HLd.out WW).mono ?_
      rintro e w6 ⟨rfl, hb6⟩
      exact hK _ _ hb6 rfl
    · obtain rfl := Option.some.inj (show some _ = some oO from ho)
      rw [if_pos (by rfl)]
      have q23 : AC.tmps.getD 23 undef = .bool true := ((hf.dep ⟨10, .data⟩ (by simp) rfl).2 23 rfl).trans (hf.dep ⟨10, .data⟩ (by simp) rfl).1
      have pp23 := q23
      rw [Array.getD_eq_getD_getElem?] at pp23
      go_simp
      exact hK _ _ (Below.refl _ _) rfl
    · obtain rfl := Option.some.inj (show some _ = some oO from ho)
      rw [if_pos (by rfl)]
      have q16 : AC.tmps.getD 16 undef = .agg #[.int .i64 1, .bool false] := ((hf.dep ⟨3, .data⟩ (by simp) rfl).2 16 rfl).trans (hf.dep ⟨3, .data⟩ (by simp) rfl).1
      have q20 : AC.tmps.getD 20 undef = .agg #[.int .i64 2, .bool false] := ((hf.dep ⟨7, .data⟩ (by simp) rfl).2 20 rfl).trans (hf.dep ⟨7, .data⟩ (by simp) rfl).1
      have q24 : AC.tmps.getD 24 undef = .agg #[.int .i64 4, .bool true] := ((hf.dep ⟨11, .data⟩ (by simp) rfl).2 24 rfl).trans (hf.dep ⟨11, .data⟩ (by simp) rfl).1
      have pp16 := q16
      rw [Array.getD_eq_getD_getElem?] at pp16
      have pp20 := q20
      rw [Array.getD_eq_getD_getElem?] at pp20
      have pp24 := q24
      rw [Array.getD_eq_getD_getElem?] at pp24
      go_simp
      exact hK _ _ (Below.refl _ _) rfl
    · obtain rfl := Option.some.inj (show some _ = some oO from ho)
      rw [if_pos (by rfl)]
      go_simp
      exact hK _ _ (Below.refl _ _) rfl
    · omega
  · intro V WW hall hbw hBW
    have vv0 : V 0 = .agg #[.int .i64 o, .int .i64 c, .int .i64 v, .int .i64 i, .int .i64 s] := hall 0 (by decide)
    have vv1 : V 1 = .agg #[.int .i64 l, .int .i64 t, .int .i64 d] := hall 1 (by decide)
    have vv2 : V 2 = .bool false := hall 2 (by decide)
    have vv3 : V 3 = .agg #[.int .i64 1, .bool false] := hall 3 (by decide)
    have vv4 : V 4 = .agg #[.int .i64 o, .int .i64 c, .int .i64 v, .int .i64 i, .int .i64 s] := hall 4 (by decide)
    have vv5 : V 5 = .agg #[.int .i64 l, .int .i64 t, .int .i64 d] := hall 5 (by decide)
    have vv6 : V 6 = .bool false := hall 6 (by decide)
    have vv7 : V 7 = .agg #[.int .i64 2, .bool false] := hall 7 (by decide)
    have vv8 : V 8 = .agg #[.int .i64 o, .int .i64 c, .int .i64 v, .int .i64 i, .int .i64 s] := hall 8 (by decide)
    have vv9 : V 9 = .agg #[.int .i64 l, .int .i64 t, .int .i64 d] := hall 9 (by decide)
    have vv10 : V 10 = .bool true := hall 10 (by decide)
    have vv11 : V 11 = .agg #[.int .i64 4, .bool true] := hall 11 (by decide)
    have vv12 : V 12 = .agg #[.int .i64 1, .bool false, .int .i64 2, .bool false, .int .i64 4, .bool true] := hall 12 (by decide)
    have vv13 : V 13 = .int .i64 0 := hall 13 (by decide)
    clear hall
    simp only [pairsOf, laid, Nat.zero_add, Nat.reduceAdd, vv0, vv1, vv2, vv3, vv4, vv5, vv6, vv7, vv8, vv9, vv10, vv11, vv12, vv13, List.setIfInBounds_toArray, List.set_cons_zero, List.set_cons_succ]
    clear vv0 vv1 vv2 vv3 vv4 vv5 vv6 vv7 vv8 vv9 vv10 vv11 vv12 vv13
    have HBW := Lib.hid hBW
    clear hbw hBW
    go_wp2_with fail
    go_loopw [6, 26] (fun o i wr => ((i = .int .i64 0 ∧ o = .int .i64 7) ∨ (i = .int .i64 1 ∧ o = .int .i64 7) ∨ (i = .int .i64 2 ∧ o = .int .i64 7) ∨ (i = .int .i64 3 ∧ o = .int .i64 3)) ∧ Below w.heap.size w wr) (fun _ i _ => 3 - (intOf i).toNat)
    case atStart => exact ⟨.inl ⟨rfl, rfl⟩, HBW.out⟩
    case round =>
      obtain ⟨hrel, hb⟩ := hrel
      rcases hrel with ⟨rfl, rfl⟩ | ⟨rfl, rfl⟩ | ⟨rfl, rfl⟩ | ⟨rfl, rfl⟩
      · go_wp2
        go_roundw
        · exact ⟨.inr (.inl ⟨rfl, rfl⟩), hb.alloc hb.size _⟩
        · simp [intOf]
      · go_wp2
        go_roundw
        · exact ⟨.inr (.inr (.inl ⟨rfl, rfl⟩)), hb.alloc hb.size _⟩
        · simp [intOf]
      · go_wp2
        go_roundw
        · exact ⟨.inr (.inr (.inr ⟨rfl, rfl⟩)), hb.alloc hb.size _⟩
        · simp [intOf]
      · go_wp2
        go_ret2
        exact ⟨rfl, hb⟩
set_option maxRecDepth 8000 in
set_option maxHeartbeats 1600000 in
theorem broken_fff (o c v i s l t d : Int) (hR : rightF o c v i s l t d = true) (h1 : i64 o) (h2 : i64 c) (h3 : i64 v) (h4 : i64 i) (h5 : i64 s) (h6 : i64 l) (h7 : i64 t) (h8 : i64 d)
    (e1 : ltcB o c l = false) (e2 : ltcB o v t = false) (e3 : dscrB i s d = false) (w : World) :
    Calls Try.prog 8 #[.agg #[.int .i64 o, .int .i64 c, .int .i64 v, .int .i64 i, .int .i64 s], .agg #[.int .i64 l, .int .i64 t, .int .i64 d]] w fun e w' => e = .returned (.tuple #[.int .i64 7, .int .i64 0]) ∧ Below w.heap.size w w' := by
  have HRR := Lib.hid (fun W => cright_any o c v i s l t d true hR W)
  have HLt := Lib.hid (fun W => cltc_any o c v i s l t d h1 h2 h6 W)
  have HLv := Lib.hid (fun W => cltv_any o c v i s l t d h1 h3 h7 W)
  have HLd := Lib.hid (fun W => cdscr_any o c v i s l t d h4 h5 h8 W)
  rw [e1] at HLt; rw [e2] at HLv; rw [e3] at HLd
  have b71 : bits .andNot .i64 7 1 = 6 := by decide
  have b72 : bits .andNot .i64 7 2 = 5 := by decide
  have b62 : bits .andNot .i64 6 2 = 4 := by decide
  have b74 : bits .andNot .i64 7 4 = 3 := by decide
  have b64 : bits .andNot .i64 6 4 = 2 := by decide
  have b54 : bits .andNot .i64 5 4 = 1 := by decide
  have b44 : bits .andNot .i64 4 4 = 0 := by decide
  have ix0 : ∀ W, (Instr.index 41 (.agg #[.int .i64 1, .bool false, .int .i64 2, .bool false, .int .i64 4, .bool false]) (.int .i64 0)).run Try.prog W = .ok (.agg #[.int .i64 1, .bool false]) W := fun W => by kernel_rfl
  have ix1 : ∀ W, (Instr.index 41 (.agg #[.int .i64 1, .bool false, .int .i64 2, .bool false, .int .i64 4, .bool false]) (.int .i64 1)).run Try.prog W = .ok (.agg #[.int .i64 2, .bool false]) W := fun W => by kernel_rfl
  have ix2 : ∀ W, (Instr.index 41 (.agg #[.int .i64 1, .bool false, .int .i64 2, .bool false, .int .i64 4, .bool false]) (.int .i64 2)).run Try.prog W = .ok (.agg #[.int .i64 4, .bool false]) W := fun W => by kernel_rfl
  clear hR e1 e2 e3 h1 h2 h3 h4 h5 h6 h7 h8
  have HB := Lib.hid (below_new2 w (.cells #[.int .i64 o, .int .i64 c, .int .i64 v, .int .i64 i, .int .i64 s] 26) (.cells #[.int .i64 l, .int .i64 t, .int .i64 d] 28))
  have HA := Lib.hid ((Blk.new w 26 [.int .i64 o, .int .i64 c, .int .i64 v, .int .i64 i, .int .i64 s]).alloc (.cells #[.int .i64 l, .int .i64 t, .int .i64 d] 28))
  have HC := Lib.hid (Blk.new2 w (.cells #[.int .i64 o, .int .i64 c, .int .i64 v, .int .i64 i, .int .i64 s] 26) 28 [.int .i64 l, .int .i64 t, .int .i64 d])
  go_enter Try.func8, Try.ntmps8
  have hA := HA.out
  have hC := HC.out
  have a0 := hA.cell 0 _ rfl; have a1 := hA.cell 1 _ rfl; have a2 := hA.cell 2 _ rfl; have a3 := hA.cell 3 _ rfl; have a4 := hA.cell 4 _ rfl
  have c0 := hC.cell 0 _ rfl; have c1 := hC.cell 1 _ rfl; have c2 := hC.cell 2 _ rfl
  go_wp2_with fail
  refine (HRR.out _).mono ?_
  rintro e w1 ⟨rfl, hb1⟩
  have HA2 := Lib.hid (HA.out.keeps hb1)
  have HC2 := Lib.hid (HC.out.keeps hb1)
  have HB3 := Lib.hid (below_on HB.out HB.out.size hb1)
  clear a0 a1 a2 a3 a4 c0 c1 c2 hA hC hb1 HA HC HB
  go_wp2_with fail
  refine region_mono (by kernel_rfl) (by kernel_rfl) [some 13, some 14, some 15, some 16, some 17, some 18, some 19, some 20, some 21, some 22, some 23, some 24, some 25, some 26] (by kernel_rfl) w.heap.size w HB3.out (Nat.le_refl _) (fun iV vV WW => match iV with | 0 => vV = .agg #[.int .i64 o, .int .i64 c, .int .i64 v, .int .i64 i, .int .i64 s] | 1 => vV = .agg #[.int .i64 l, .int .i64 t, .int .i64 d] | 2 => vV = .bool false | 3 => vV = .agg #[.int .i64 1, .bool false] | 4 => vV = .agg #[.int .i64 o, .int .i64 c, .int .i64 v, .int .i64 i, .int .i64 s] | 5 => vV = .agg #[.int .i64 l, .int .i64 t, .int .i64 d] | 6 => vV = .bool false | 7 => vV = .agg #[.int .i64 2, .bool false] | 8 => vV = .agg #[.int .i64 o, .int .i64 c, .int .i64 v, .int .i64 i, .int .i64 s] | 9 => vV = .agg #[.int .i64 l, .int .i64 t, .int .i64 d] | 10 => vV = .bool false | 11 => vV = .agg #[.int .i64 4, .bool false] | 12 => vV = .agg #[.int .i64 1, .bool false, .int .i64 2, .bool false, .int .i64 4, .bool false] | 13 => vV = .int .i64 0 | _ => True) ?_ ?_ ?_
  · intro iV vV WW WX h hbx
    rcases iV with _ | _ | _ | _ | _ | _ | _ | _ | _ | _ | _ | _ | _ | _ | i
    · exact h
    · exact h
    · exact h
    · exact h
    · exact h
    · exact h
    · exact h
    · exact h
    · exact h
    · exact h
    · exact h
    · exact h
    · exact h
    · exact h
    · trivial
  · intro iI oO V AC WW ho hf hbw K hK
    have hlt : iI < 14 := (Array.getElem?_eq_some_iff.1 ho).1
    rcases iI with _ | _ | _ | _ | _ | _ | _ | _ | _ | _ | _ | _ | _ | _ | iI
    · obtain rfl := Option.some.inj (show some _ = some oO from ho)
      rw [if_pos (by rfl)]
      have q2 : AC.tmps.getD 2 undef = .pointer (some ⟨w.heap.size, 0, none⟩) := hf.rest 2 (by kernel_rfl)
      have hA := HA2.out.keeps hbw
      have a0 := hA.cell 0 _ rfl; have a1 := hA.cell 1 _ rfl; have a2 := hA.cell 2 _ rfl; have a3 := hA.cell 3 _ rfl; have a4 := hA.cell 4 _ rfl
      go_simp
      exact hK _ _ (Below.refl _ _) rfl
    · obtain rfl := Option.some.inj (show some _ = some oO from ho)
      rw [if_pos (by rfl)]
      have q3 : AC.tmps.getD 3 undef = .pointer (some ⟨w.heap.size + 1, 0, none⟩) := hf.rest 3 (by kernel_rfl)
      have hC := HC2.out.keeps hbw
      have c0 := hC.cell 0 _ rfl; have c1 := hC.cell 1 _ rfl; have c2 := hC.cell 2 _ rfl
      go_simp
      exact hK _ _ (Below.refl _ _) rfl
    · obtain rfl := Option.some.inj (show some _ = some oO from ho)
      rw [if_pos (by rfl)]
      have q13 : AC.tmps.getD 13 undef = .agg #[.int .i64 o, .int .i64 c, .int .i64 v, .int .i64 i, .int .i64 s] := ((hf.dep ⟨0, .data⟩ (by simp) rfl).2 13 rfl).trans (hf.dep ⟨0, .data⟩ (by simp) rfl).1
      have q14 : AC.tmps.getD 14 undef = .agg #[.int .i64 l, .int .i64 t, .int .i64 d] := ((hf.dep ⟨1, .data⟩ (by simp) rfl).2 14 rfl).trans (hf.dep ⟨1, .data⟩ (by simp) rfl).1
      go_simp
      refine (HLt.out WW).mono ?_
      rintro e w6 ⟨rfl, hb6⟩
      exact hK _ _ hb6 rfl
    · obtain rfl := Option.some.inj (show some _ = some oO from ho)
      rw [if_pos (by rfl)]
      have q15 : AC.tmps.getD 15 undef = .bool false := ((hf.dep ⟨2, .data⟩ (by simp) rfl).2 15 rfl).trans (hf.dep ⟨2, .data⟩ (by simp) rfl).1
      have pp15 := q15
      rw [Array.getD_eq_getD_getElem?] at pp15
      go_simp
      exact hK _ _ (Below.refl _ _) rfl
    · obtain rfl := Option.some.inj (show some _ = some oO from ho)
      rw [if_pos (by rfl)]
      have q2 : AC.tmps.getD 2 undef = .pointer (some ⟨w.heap.size, 0, none⟩) := hf.rest 2 (by kernel_rfl)
      have hA := HA2.out.keeps hbw
      have a0 := hA.cell 0 _ rfl; have a1 := hA.cell 1 _ rfl; have a2 := hA.cell 2 _ rfl; have a3 := hA.cell 3 _ rfl; have a4 := hA.cell 4 _ rfl
      go_simp
      exact hK _ _ (Below.refl _ _) rfl
    · obtain rfl := Option.some.inj (show some _ = some oO from ho)
      rw [if_pos (by rfl)]
      have q3 : AC.tmps.getD 3 undef = .pointer (some ⟨w.heap.size + 1, 0, none⟩) := hf.rest 3 (by kernel_rfl)
      have hC := HC2.out.keeps hbw
      have c0 := hC.cell 0 _ rfl; have c1 := hC.cell 1 _ rfl; have c2 := hC.cell 2 _ rfl
      go_simp
      exact hK _ _ (Below.refl _ _) rfl
    · obtain rfl := Option.some.inj (show some _ = some oO from ho)
      rw [if_pos (by rfl)]
      have q17 : AC.tmps.getD 17 undef = .agg #[.int .i64 o, .int .i64 c, .int .i64 v, .int .i64 i, .int .i64 s] := ((hf.dep ⟨4, .data⟩ (by simp) rfl).2 17 rfl).trans (hf.dep ⟨4, .data⟩ (by simp) rfl).1
      have q18 : AC.tmps.getD 18 undef = .agg #[.int .i64 l, .int .i64 t, .int .i64 d] := ((hf.dep ⟨5, .data⟩ (by simp) rfl).2 18 rfl).trans (hf.dep ⟨5, .data⟩ (by simp) rfl).1
      go_simp
      refine (HLv.out WW).mono ?_
      rintro e w6 ⟨rfl, hb6⟩
      exact hK _ _ hb6 rfl
    · obtain rfl := Option.some.inj (show some _ = some oO from ho)
      rw [if_pos (by rfl)]
      have q19 : AC.tmps.getD 19 undef = .bool false := ((hf.dep ⟨6, .data⟩ (by simp) rfl).2 19 rfl).trans (hf.dep ⟨6, .data⟩ (by simp) rfl).1
      have pp19 := q19
      rw [Array.getD_eq_getD_getElem?] at pp19
      go_simp
      exact hK _ _ (Below.refl _ _) rfl
    · obtain rfl := Option.some.inj (show some _ = some oO from ho)
      rw [if_pos (by rfl)]
      have q2 : AC.tmps.getD 2 undef = .pointer (some ⟨w.heap.size, 0, none⟩) := hf.rest 2 (by kernel_rfl)
      have hA := HA2.out.keeps hbw
      have a0 := hA.cell 0 _ rfl; have a1 := hA.cell 1 _ rfl; have a2 := hA.cell 2 _ rfl; have a3 := hA.cell 3 _ rfl; have a4 := hA.cell 4 _ rfl
      go_simp
      exact hK _ _ (Below.refl _ _) rfl
    · obtain rfl := Option.some.inj (show some _ = some oO from ho)
      rw [if_pos (by rfl)]
      have q3 : AC.tmps.getD 3 undef = .pointer (some ⟨w.heap.size + 1, 0, none⟩) := hf.rest 3 (by kernel_rfl)
      have hC := HC2.out.keeps hbw
      have c0 := hC.cell 0 _ rfl; have c1 := hC.cell 1 _ rfl; have c2 := hC.cell 2 _ rfl
      go_simp
      exact hK _ _ (Below.refl _ _) rfl
    · obtain rfl := Option.some.inj (show some _ = some oO from ho)
      rw [if_pos (by rfl)]
      have q21 : AC.tmps.getD 21 undef = .agg #[.int .i64 o, .int .i64 c, .int .i64 v, .int .i64 i, .int .i64 s] := ((hf.dep ⟨8, .data⟩ (by simp) rfl).2 21 rfl).trans (hf.dep ⟨8, .data⟩ (by simp) rfl).1
      have q22 : AC.tmps.getD 22 undef = .agg #[.int .i64 l, .int .i64 t, .int .i64 d] := ((hf.dep ⟨9, .data⟩ (by simp) rfl).2 22 rfl).trans (hf.dep ⟨9, .data⟩ (by simp) rfl).1
      go_simp
      refine (HLd.out WW).mono ?_
      rintro e w6 ⟨rfl, hb6⟩
      exact hK _ _ hb6 rfl
    · obtain rfl := Option.some.inj (show some _ = some oO from ho)
      rw [if_pos (by rfl)]
      have q23 : AC.tmps.getD 23 undef = .bool false := ((hf.dep ⟨10, .data⟩ (by simp) rfl).2 23 rfl).trans (hf.dep ⟨10, .data⟩ (by simp) rfl).1
      have pp23 := q23
      rw [Array.getD_eq_getD_getElem?] at pp23
      go_simp
      exact hK _ _ (Below.refl _ _) rfl
    · obtain rfl := Option.some.inj (show some _ = some oO from ho)
      rw [if_pos (by rfl)]
      have q16 : AC.tmps.getD 16 undef = .agg #[.int .i64 1, .bool false] := ((hf.dep ⟨3, .data⟩ (by simp) rfl).2 16 rfl).trans (hf.dep ⟨3, .data⟩ (by simp) rfl).1
      have q20 : AC.tmps.getD 20 undef = .agg #[.int .i64 2, .bool false] := ((hf.dep ⟨7, .data⟩ (by simp) rfl).2 20 rfl).trans (hf.dep ⟨7, .data⟩ (by simp) rfl).1
      have q24 : AC.tmps.getD 24 undef = .agg #[.int .i64 4, .bool false] := ((hf.dep ⟨11, .data⟩ (by simp) rfl).2 24 rfl).trans (hf.dep ⟨11, .data⟩ (by simp) rfl).1
      have pp16 := q16
      rw [Array.getD_eq_getD_getElem?] at pp16
      have pp20 := q20
      rw [Array.getD_eq_getD_getElem?] at pp20
      have pp24 := q24
      rw [Array.getD_eq_getD_getElem?] at pp24
      go_simp
      exact hK _ _ (Below.refl _ _) rfl
    · obtain rfl := Option.some.inj (show some _ = some oO from ho)
      rw [if_pos (by rfl)]
      go_simp
      exact hK _ _ (Below.refl _ _) rfl
    · omega
  · intro V WW hall hbw hBW
    have vv0 : V 0 = .agg #[.int .i64 o, .int .i64 c, .int .i64 v, .int .i64 i, .int .i64 s] := hall 0 (by decide)
    have vv1 : V 1 = .agg #[.int .i64 l, .int .i64 t, .int .i64 d] := hall 1 (by decide)
    have vv2 : V 2 = .bool false := hall 2 (by decide)
    have vv3 : V 3 = .agg #[.int .i64 1, .bool false] := hall 3 (by decide)
    have vv4 : V 4 = .agg #[.int .i64 o, .int .i64 c, .int .i64 v, .int .i64 i, .int .i64 s] := hall 4 (by decide)
    have vv5 : V 5 = .agg #[.int .i64 l, .int .i64 t, .int .i64 d] := hall 5 (by decide)
    have vv6 : V 6 = .bool false := hall 6 (by decide)
    have vv7 : V 7 = .agg #[.int .i64 2, .bool false] := hall 7 (by decide)
    have vv8 : V 8 = .agg #[.int .i64 o, .int .i64 c, .int .i64 v, .int .i64 i, .int .i64 s] := hall 8 (by decide)
    have vv9 : V 9 = .agg #[.int .i64 l, .int .i64 t, .int .i64 d] := hall 9 (by decide)
    have vv10 : V 10 = .bool false := hall 10 (by decide)
    have vv11 : V 11 = .agg #[.int .i64 4, .bool false] := hall 11 (by decide)
    have vv12 : V 12 = .agg #[.int .i64 1, .bool false, .int .i64 2, .bool false, .int .i64 4, .bool false] := hall 12 (by decide)
    have vv13 : V 13 = .int .i64 0 := hall 13 (by decide)
    clear hall
    simp only [pairsOf, laid, Nat.zero_add, Nat.reduceAdd, vv0, vv1, vv2, vv3, vv4, vv5, vv6, vv7, vv8, vv9, vv10, vv11, vv12, vv13, List.setIfInBounds_toArray, List.set_cons_zero, List.set_cons_succ]
    clear vv0 vv1 vv2 vv3 vv4 vv5 vv6 vv7 vv8 vv9 vv10 vv11 vv12 vv13
    have HBW := Lib.hid hBW
    clear hbw hBW
    go_wp2_with fail
    go_loopw [6, 26] (fun o i wr => ((i = .int .i64 0 ∧ o = .int .i64 7) ∨ (i = .int .i64 1 ∧ o = .int .i64 7) ∨ (i = .int .i64 2 ∧ o = .int .i64 7) ∨ (i = .int .i64 3 ∧ o = .int .i64 7)) ∧ Below w.heap.size w wr) (fun _ i _ => 3 - (intOf i).toNat)
    case atStart => exact ⟨.inl ⟨rfl, rfl⟩, HBW.out⟩
    case round =>
      obtain ⟨hrel, hb⟩ := hrel
      rcases hrel with ⟨rfl, rfl⟩ | ⟨rfl, rfl⟩ | ⟨rfl, rfl⟩ | ⟨rfl, rfl⟩
      · go_wp2
        go_roundw
        · exact ⟨.inr (.inl ⟨rfl, rfl⟩), hb.alloc hb.size _⟩
        · simp [intOf]
      · go_wp2
        go_roundw
        · exact ⟨.inr (.inr (.inl ⟨rfl, rfl⟩)), hb.alloc hb.size _⟩
        · simp [intOf]
      · go_wp2
        go_roundw
        · exact ⟨.inr (.inr (.inr ⟨rfl, rfl⟩)), hb.alloc hb.size _⟩
        · simp [intOf]
      · go_wp2
        go_ret2
        exact ⟨rfl, hb⟩
/-- What Broken answers; what Most answers. -/
def brS (o c v i s l t d : Int) : Int × Int := if rightF o c v i s l t d = true then (brk (ltcB o c l) (ltcB o v t) (dscrB i s d), 0) else (0, 191)
def moS (o c v i s l t d : Int) : Int × Int := if rightF o c v i s l t d = true then (min (c * l / 10000) (min (v * t / 10000) 20000000000000), 0) else (0, 191)
theorem broken_any (o c v i s l t d : Int) (h1 : i64 o) (h2 : i64 c) (h3 : i64 v) (h4 : i64 i) (h5 : i64 s) (h6 : i64 l) (h7 : i64 t) (h8 : i64 d) (w : World) :
    Calls Try.prog 8 #[.agg #[.int .i64 o, .int .i64 c, .int .i64 v, .int .i64 i, .int .i64 s], .agg #[.int .i64 l, .int .i64 t, .int .i64 d]] w fun e w' => e = .returned (.tuple #[.int .i64 (brS o c v i s l t d).1, .int .i64 (brS o c v i s l t d).2]) ∧ Below w.heap.size w w' := by
  unfold brS
  cases hR : rightF o c v i s l t d with
  | true =>
    rw [if_pos rfl]
    cases e1 : ltcB o c l
    all_goals cases e2 : ltcB o v t
    all_goals cases e3 : dscrB i s d
    · exact broken_fff o c v i s l t d hR h1 h2 h3 h4 h5 h6 h7 h8 e1 e2 e3 w
    · exact broken_fft o c v i s l t d hR h1 h2 h3 h4 h5 h6 h7 h8 e1 e2 e3 w
    · exact broken_ftf o c v i s l t d hR h1 h2 h3 h4 h5 h6 h7 h8 e1 e2 e3 w
    · exact broken_ftt o c v i s l t d hR h1 h2 h3 h4 h5 h6 h7 h8 e1 e2 e3 w
    · exact broken_tff o c v i s l t d hR h1 h2 h3 h4 h5 h6 h7 h8 e1 e2 e3 w
    · exact broken_tft o c v i s l t d hR h1 h2 h3 h4 h5 h6 h7 h8 e1 e2 e3 w
    · exact broken_ttf o c v i s l t d hR h1 h2 h3 h4 h5 h6 h7 h8 e1 e2 e3 w
    · exact broken_ttt o c v i s l t d hR h1 h2 h3 h4 h5 h6 h7 h8 e1 e2 e3 w
  | false =>
    rw [if_neg (by decide)]
    have HRR := Lib.hid (fun W => cright_any o c v i s l t d false hR W)
    clear hR h1 h2 h3 h4 h5 h6 h7 h8
    have HB := Lib.hid (below_new2 w (.cells #[.int .i64 o, .int .i64 c, .int .i64 v, .int .i64 i, .int .i64 s] 26) (.cells #[.int .i64 l, .int .i64 t, .int .i64 d] 28))
    have HA := Lib.hid ((Blk.new w 26 [.int .i64 o, .int .i64 c, .int .i64 v, .int .i64 i, .int .i64 s]).alloc (.cells #[.int .i64 l, .int .i64 t, .int .i64 d] 28))
    have HC := Lib.hid (Blk.new2 w (.cells #[.int .i64 o, .int .i64 c, .int .i64 v, .int .i64 i, .int .i64 s] 26) 28 [.int .i64 l, .int .i64 t, .int .i64 d])
    go_enter Try.func8, Try.ntmps8
    have hA := HA.out
    have hC := HC.out
    have a0 := hA.cell 0 _ rfl; have a1 := hA.cell 1 _ rfl; have a2 := hA.cell 2 _ rfl; have a3 := hA.cell 3 _ rfl; have a4 := hA.cell 4 _ rfl
    have c0 := hC.cell 0 _ rfl; have c1 := hC.cell 1 _ rfl; have c2 := hC.cell 2 _ rfl
    go_wp2_with fail
    refine (HRR.out _).mono ?_
    rintro e w1 ⟨rfl, hb1⟩
    have HB3 := Lib.hid (below_on HB.out HB.out.size hb1)
    go_wp2
    go_ret2
    exact ⟨rfl, HB3.out⟩
end Go.Proofs.Ytleeifknicilhaa
