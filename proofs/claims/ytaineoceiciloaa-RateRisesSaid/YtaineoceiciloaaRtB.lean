/-
  Resets: the walk of rate.Table.
-/
import Derived.Test.YtaineoceiciloaaRt
import Derived.Test.YtaineoceiciloaaMono
set_option linter.unusedVariables false
set_option linter.unusedSimpArgs false
namespace Go.Proofs.Ytaineoceiciloaa
open Go.RowKit

theorem info_rt : (Try.prog.info? 46).map (fun i => (i.zero, i.size, i.bytes)) = some (some (.agg #[.int .i64 0, .int .i64 0]), 2, 16) := by kernel_rfl
theorem size_rt (w : World) : (sizeOf 46).run Try.prog w = .ok 2 w := by
  obtain ⟨i, hi, _, hs, _⟩ := info_parts info_rt
  simp [sizeOf, typeInfo, hi, hs]
section
variable {ops : Array Oper} {rest : List Oper} {o : Oper} {a : Act} {w : World} {Q : Exit → Act → World → Prop} {K : Act → World → Prop}
theorem ix_rt (hw : Region.wanted o (yielded ops a.tmps) = true) (s x : Operand) (ho : o.op = .indexAddr 24 s x) (ao : Option Addr) (cap : Nat) (L : List Rt) (hc : SlR w ao cap L) (hs : a.eval s = .slice ao L.length cap) (k : Nat) (t : Rt) (ht : L[k]? = some t) (hx : a.eval x = .int .i64 k)
    (h : ∀ b off, w.cell? ⟨b, off, none⟩ = some (.int .i64 t.1) → w.cell? ⟨b, off + 1, none⟩ = some (.int .i64 t.2) → wpList Try.prog ops Q rest (a.put o.dst (.pointer (some ⟨b, off, none⟩))) w) : wpList Try.prog ops Q (o :: rest) a w := by
  refine wpList_ix_rec hw 24 46 s x ho Try.underlying24 2 (by decide) size_rt ao L.length cap hs (rc rtc L) hc k (List.getElem?_eq_some_iff.1 ht).1 hx fun b off _ hcell => ?_
  obtain ⟨h0, h1⟩ := rt_cells hcell ht
  exact h b (off + k * 2) h0 h1
theorem ix_rt_op (s x : Operand) (ho : o.op = .indexAddr 24 s x) (b off cap : Nat) (L : List Rt) (hr : L.length ≤ 1000000000) (hs : a.eval s = .slice (some ⟨b, off, none⟩) L.length cap) (k : Nat) (hk : k < L.length) (hx : a.eval x = .int .i64 k)
    (h : K (a.put o.dst (.pointer (some ⟨b, off + k * 2, none⟩))) w) : Oper.wp Try.prog o a w K Q := by
  have hrun : (Instr.indexAt 24 (.slice (some ⟨b, off, none⟩) L.length cap) (.int .i64 k)).run Try.prog w = .ok (.pointer (some ⟨b, off + k * 2, none⟩)) w := by
    have hkn : (k : Int) < L.length := by omega
    by_cases h0 : k * 2 = 0
    · simp [Instr.indexAt, asIntOf, size_rt, hkn, Addr.add, h0]
      intro h; omega
    · simp [Instr.indexAt, asIntOf, size_rt, hkn, Addr.add, h0]
      intro h; omega
  unfold Oper.wp
  simp [execOp, ho, hs, hx, hrun, Result.andThen]
  exact h
end
/-- What an address holds, in later worlds too. -/
def AtR (w : World) (b off : Nat) (L : List Rt) : Prop := ∀ j u, (rc rtc L)[j]? = some u → w.cell? ⟨b, off + j, none⟩ = some u
theorem AtR.of {w w' : World} {b off : Nat} {L : List Rt} (h : AtR w b off L) (hb : Below w.heap.size w w') : AtR w' b off L :=
  fun j u hu => (hb.cell (cell_lt (h j u hu))).trans (h j u hu)
set_option maxRecDepth 8000 in
set_option maxHeartbeats 8000000 in
theorem table_any (w : World) (ao : Option Addr) (cap : Nat) (L : List Rt) (h : SlR w ao cap L) (v : Bool) (hv : tabS L = v) (hl0 : L.length ≤ 1000000000) :
    Calls Try.prog 23 #[.slice ao L.length cap] w fun e w' => e = .returned (.bool v) ∧ Below w.heap.size w w' := by
  by_cases h64 : 64 < L.length
  · have HF : Hid (v = false) := by show _ = _; rw [← hv, tabS, decide_eq_false (by omega), Bool.false_and]
    clear hv h
    go_enter Try.func23, Try.ntmps23
    go_wp2
    go_ret
    exact ⟨by rw [HF.out]; rfl, Below.refl _ _⟩
  have h65 : L.length ≤ 64 := by omega
  have HV := Lib.hid hv
  clear hv h64
  go_enter Try.func23, Try.ntmps23
  go_wp2
  go_loopw [10] (fun i wr => ∃ k : Nat, k ≤ L.length ∧ i = .int .i64 k ∧ Hid (tabK L k = true) ∧ Below w.heap.size w wr) (fun i _ => L.length - (intOf i).toNat)
  case atStart => exact ⟨0, by omega, rfl, rfl, Below.refl _ _⟩
  case round =>
    obtain ⟨k, hk, rfl, HK, hb⟩ := hrel
    by_cases hkl : k < L.length
    · obtain ⟨⟨d, x⟩, hx⟩ : ∃ x, L[k]? = some x := ⟨_, List.getElem?_eq_getElem hkl⟩
      have HX := Lib.hid hx
      have hw := h.keeps hb
      obtain ⟨b, off, rfl, hc⟩ := hw.cells (by intro e; have := rc_at rtc_len hx 0 _ rfl; rw [e] at this; simp at this)
      have H0 : Hid (AtR wr b off L) := hc
      have H : Hid (AtR (wr.alloc (.cells #[.int .i64 d, .int .i64 x] 46)) b off L) := H0.out.of (below_new1 _ _)
      have HG := Lib.hid (Blk.new wr 46 [.int .i64 d, .int .i64 x])
      have HB0 := Lib.hid (hb.alloc hb.size (.cells #[.int .i64 d, .int .i64 x] 46))
      obtain ⟨c0, c1⟩ := rt_cells hc hx
      have gx := getD_of hx
      by_cases hi : x < -10000 ∨ (-10000 ≤ x ∧ 10000 < x)
      · have HF : Hid (v = false) := by
          show _ = _
          rw [← HV.out, tabS, tab_not hkl (by unfold okAt; rw [gx]; simp [okI]; omega), Bool.and_false]
        clear hx hc hw gx
        rcases hi with hi | ⟨hi, hi2⟩
        · go_wp2
          refine region_mono (by kernel_rfl) (by kernel_rfl) [some 15, some 16, some 17, some 18, some 19, some 20, some 21, some 22, some 23, some 24, some 25, some 26, some 27, some 28, some 29, some 30, some 31, some 32, some 33, some 34, some 35, some 36, some 37] (by kernel_rfl) w.heap.size w HB0.out (Nat.le_refl _) (fun iV vV WW => match iV with | 0 => vV = .pointer (some ⟨wr.heap.size, 1, none⟩) | 1 => vV = .int .i64 x | 2 => vV = .bool true | 3 => vV = .bool true | 4 => vV = undef | 5 => vV = undef | 6 => vV = undef | 7 => vV = .bool true | 8 => vV = .bool true | 9 => vV = undef | 10 => vV = undef | 11 => vV = undef | 12 => vV = undef | 13 => vV = undef | 14 => vV = undef | 15 => vV = undef | 16 => vV = undef | 17 => vV = undef | 18 => vV = undef | 19 => vV = undef | 20 => vV = undef | 21 => vV = undef | 22 => vV = .bool true | _ => True) ?_ ?_ ?_
          · intro iV vV WW WX h hbx
            rcases iV with _ | _ | _ | _ | _ | _ | _ | _ | _ | _ | _ | _ | _ | _ | _ | _ | _ | _ | _ | _ | _ | _ | _ | i
            · exact h
            · exact h
            · exact h
            · exact h
            · exact h
            · exact h
            · exact h
            · exact h
            · exact h
            · exact h
            · exact h
            · exact h
            · exact h
            · exact h
            · exact h
            · exact h
            · exact h
            · exact h
            · exact h
            · exact h
            · exact h
            · exact h
            · exact h
            · trivial
          · intro iI oO V AC WW ho hf hbw K hK
            have hlt : iI < 23 := (Array.getElem?_eq_some_iff.1 ho).1
            rcases iI with _ | _ | _ | _ | _ | _ | _ | _ | _ | _ | _ | _ | _ | _ | _ | _ | _ | _ | _ | _ | _ | _ | _ | iI
            · obtain rfl := Option.some.inj (show some _ = some oO from ho)
              rw [if_pos (by rfl)]
              have q4 : AC.tmps.getD 4 undef = .pointer (some ⟨wr.heap.size, 0, none⟩) := hf.rest 4 (by kernel_rfl)
              go_simp
              exact hK _ _ (Below.refl _ _) rfl
            · obtain rfl := Option.some.inj (show some _ = some oO from ho)
              rw [if_pos (by rfl)]
              have q15 : AC.tmps.getD 15 undef = .pointer (some ⟨wr.heap.size, 1, none⟩) := ((hf.dep ⟨0, .data⟩ (by simp) rfl).2 15 rfl).trans (hf.dep ⟨0, .data⟩ (by simp) rfl).1
              have hG := HG.out.keeps hbw
              have g1 := hG.cell 1 _ rfl
              go_simp
              exact hK _ _ (Below.refl _ _) rfl
            · obtain rfl := Option.some.inj (show some _ = some oO from ho)
              rw [if_pos (by rfl)]
              have q16 : AC.tmps.getD 16 undef = .int .i64 x := ((hf.dep ⟨1, .data⟩ (by simp) rfl).2 16 rfl).trans (hf.dep ⟨1, .data⟩ (by simp) rfl).1
              go_simp
              first | exact hK _ _ (Below.refl _ _) rfl | exact hK _ _ (Below.refl _ _) (congrArg Value.bool (by simp; omega))
            · obtain rfl := Option.some.inj (show some _ = some oO from ho)
              rw [if_pos (by rfl)]
              have q17 : AC.tmps.getD 17 undef = .bool true := ((hf.dep ⟨2, .data⟩ (by simp) rfl).2 17 rfl).trans (hf.dep ⟨2, .data⟩ (by simp) rfl).1
              go_simp
              exact hK _ _ (Below.refl _ _) rfl
            · obtain rfl := Option.some.inj (show some _ = some oO from ho)
              rw [if_neg (wanted_no (s := 18) rfl rfl rfl (by rw [hf.size]; simp) (((hf.dep ⟨3, .guard⟩ (by simp) rfl).2 18 rfl).trans (hf.dep ⟨3, .guard⟩ (by simp) rfl).1) rfl)]
              exact hK _ _ (Below.refl _ _) rfl
            · obtain rfl := Option.some.inj (show some _ = some oO from ho)
              rw [if_neg (wanted_no (s := 18) rfl rfl rfl (by rw [hf.size]; simp) (((hf.dep ⟨3, .guard⟩ (by simp) rfl).2 18 rfl).trans (hf.dep ⟨3, .guard⟩ (by simp) rfl).1) rfl)]
              exact hK _ _ (Below.refl _ _) rfl
            · obtain rfl := Option.some.inj (show some _ = some oO from ho)
              rw [if_neg (wanted_no (s := 18) rfl rfl rfl (by rw [hf.size]; simp) (((hf.dep ⟨3, .guard⟩ (by simp) rfl).2 18 rfl).trans (hf.dep ⟨3, .guard⟩ (by simp) rfl).1) rfl)]
              exact hK _ _ (Below.refl _ _) rfl
            · obtain rfl := Option.some.inj (show some _ = some oO from ho)
              rw [if_pos (by rfl)]
              have q18 : AC.tmps.getD 18 undef = .bool true := ((hf.dep ⟨3, .data⟩ (by simp) rfl).2 18 rfl).trans (hf.dep ⟨3, .data⟩ (by simp) rfl).1
              have q21 : AC.tmps.getD 21 undef = undef := ((hf.dep ⟨6, .data⟩ (by simp) rfl).2 21 rfl).trans (hf.dep ⟨6, .data⟩ (by simp) rfl).1
              go_simp
              first | exact hK _ _ (Below.refl _ _) rfl | exact hK _ _ (Below.refl _ _) (congrArg Value.bool (by simp; omega))
            · obtain rfl := Option.some.inj (show some _ = some oO from ho)
              rw [if_pos (by rfl)]
              have q22 : AC.tmps.getD 22 undef = .bool true := ((hf.dep ⟨7, .data⟩ (by simp) rfl).2 22 rfl).trans (hf.dep ⟨7, .data⟩ (by simp) rfl).1
              go_simp
              exact hK _ _ (Below.refl _ _) rfl
            · obtain rfl := Option.some.inj (show some _ = some oO from ho)
              rw [if_neg (wanted_no (s := 23) rfl rfl rfl (by rw [hf.size]; simp) (((hf.dep ⟨8, .guard⟩ (by simp) rfl).2 23 rfl).trans (hf.dep ⟨8, .guard⟩ (by simp) rfl).1) rfl)]
              exact hK _ _ (Below.refl _ _) rfl
            · obtain rfl := Option.some.inj (show some _ = some oO from ho)
              rw [if_neg (wanted_no (s := 23) rfl rfl rfl (by rw [hf.size]; simp) (((hf.dep ⟨8, .guard⟩ (by simp) rfl).2 23 rfl).trans (hf.dep ⟨8, .guard⟩ (by simp) rfl).1) rfl)]
              exact hK _ _ (Below.refl _ _) rfl
            · obtain rfl := Option.some.inj (show some _ = some oO from ho)
              rw [if_neg (wanted_no (s := 23) rfl rfl rfl (by rw [hf.size]; simp) (((hf.dep ⟨8, .guard⟩ (by simp) rfl).2 23 rfl).trans (hf.dep ⟨8, .guard⟩ (by simp) rfl).1) rfl)]
              exact hK _ _ (Below.refl _ _) rfl
            · obtain rfl := Option.some.inj (show some _ = some oO from ho)
              rw [if_neg (wanted_undef (s := 26) rfl rfl rfl (by rw [hf.size]; simp) (((hf.dep ⟨11, .guard⟩ (by simp) rfl).2 26 rfl).trans (hf.dep ⟨11, .guard⟩ (by simp) rfl).1))]
              exact hK _ _ (Below.refl _ _) rfl
            · obtain rfl := Option.some.inj (show some _ = some oO from ho)
              rw [if_neg (wanted_undef (s := 26) rfl rfl rfl (by rw [hf.size]; simp) (((hf.dep ⟨11, .guard⟩ (by simp) rfl).2 26 rfl).trans (hf.dep ⟨11, .guard⟩ (by simp) rfl).1))]
              exact hK _ _ (Below.refl _ _) rfl
            · obtain rfl := Option.some.inj (show some _ = some oO from ho)
              rw [if_neg (wanted_undef (s := 26) rfl rfl rfl (by rw [hf.size]; simp) (((hf.dep ⟨11, .guard⟩ (by simp) rfl).2 26 rfl).trans (hf.dep ⟨11, .guard⟩ (by simp) rfl).1))]
              exact hK _ _ (Below.refl _ _) rfl
            · obtain rfl := Option.some.inj (show some _ = some oO from ho)
              rw [if_neg (wanted_undef (s := 26) rfl rfl rfl (by rw [hf.size]; simp) (((hf.dep ⟨11, .guard⟩ (by simp) rfl).2 26 rfl).trans (hf.dep ⟨11, .guard⟩ (by simp) rfl).1))]
              exact hK _ _ (Below.refl _ _) rfl
            · obtain rfl := Option.some.inj (show some _ = some oO from ho)
              rw [if_neg (wanted_undef (s := 26) rfl rfl rfl (by rw [hf.size]; simp) (((hf.dep ⟨11, .guard⟩ (by simp) rfl).2 26 rfl).trans (hf.dep ⟨11, .guard⟩ (by simp) rfl).1))]
              exact hK _ _ (Below.refl _ _) rfl
            · obtain rfl := Option.some.inj (show some _ = some oO from ho)
              rw [if_neg (wanted_undef (s := 26) rfl rfl rfl (by rw [hf.size]; simp) (((hf.dep ⟨11, .guard⟩ (by simp) rfl).2 26 rfl).trans (hf.dep ⟨11, .guard⟩ (by simp) rfl).1))]
              exact hK _ _ (Below.refl _ _) rfl
            · obtain rfl := Option.some.inj (show some _ = some oO from ho)
              rw [if_neg (wanted_undef (s := 26) rfl rfl rfl (by rw [hf.size]; simp) (((hf.dep ⟨11, .guard⟩ (by simp) rfl).2 26 rfl).trans (hf.dep ⟨11, .guard⟩ (by simp) rfl).1))]
              exact hK _ _ (Below.refl _ _) rfl
            · obtain rfl := Option.some.inj (show some _ = some oO from ho)
              rw [if_neg (wanted_undef (s := 26) rfl rfl rfl (by rw [hf.size]; simp) (((hf.dep ⟨11, .guard⟩ (by simp) rfl).2 26 rfl).trans (hf.dep ⟨11, .guard⟩ (by simp) rfl).1))]
              exact hK _ _ (Below.refl _ _) rfl
            · obtain rfl := Option.some.inj (show some _ = some oO from ho)
              rw [if_neg (wanted_undef (s := 26) rfl rfl rfl (by rw [hf.size]; simp) (((hf.dep ⟨11, .guard⟩ (by simp) rfl).2 26 rfl).trans (hf.dep ⟨11, .guard⟩ (by simp) rfl).1))]
              exact hK _ _ (Below.refl _ _) rfl
            · obtain rfl := Option.some.inj (show some _ = some oO from ho)
              rw [if_neg (wanted_no (s := 23) rfl rfl rfl (by rw [hf.size]; simp) (((hf.dep ⟨8, .guard⟩ (by simp) rfl).2 23 rfl).trans (hf.dep ⟨8, .guard⟩ (by simp) rfl).1) rfl)]
              exact hK _ _ (Below.refl _ _) rfl
            · obtain rfl := Option.some.inj (show some _ = some oO from ho)
              rw [if_pos (by rfl)]
              have q23 : AC.tmps.getD 23 undef = .bool true := ((hf.dep ⟨8, .data⟩ (by simp) rfl).2 23 rfl).trans (hf.dep ⟨8, .data⟩ (by simp) rfl).1
              have q36 : AC.tmps.getD 36 undef = undef := ((hf.dep ⟨21, .data⟩ (by simp) rfl).2 36 rfl).trans (hf.dep ⟨21, .data⟩ (by simp) rfl).1
              go_simp
              first | exact hK _ _ (Below.refl _ _) rfl | exact hK _ _ (Below.refl _ _) (congrArg Value.bool (by simp; omega))
            · omega
          · intro V WW hall hbw hBW
            have vv0 : V 0 = .pointer (some ⟨wr.heap.size, 1, none⟩) := hall 0 (by decide)
            have vv1 : V 1 = .int .i64 x := hall 1 (by decide)
            have vv2 : V 2 = .bool true := hall 2 (by decide)
            have vv3 : V 3 = .bool true := hall 3 (by decide)
            have vv4 : V 4 = undef := hall 4 (by decide)
            have vv5 : V 5 = undef := hall 5 (by decide)
            have vv6 : V 6 = undef := hall 6 (by decide)
            have vv7 : V 7 = .bool true := hall 7 (by decide)
            have vv8 : V 8 = .bool true := hall 8 (by decide)
            have vv9 : V 9 = undef := hall 9 (by decide)
            have vv10 : V 10 = undef := hall 10 (by decide)
            have vv11 : V 11 = undef := hall 11 (by decide)
            have vv12 : V 12 = undef := hall 12 (by decide)
            have vv13 : V 13 = undef := hall 13 (by decide)
            have vv14 : V 14 = undef := hall 14 (by decide)
            have vv15 : V 15 = undef := hall 15 (by decide)
            have vv16 : V 16 = undef := hall 16 (by decide)
            have vv17 : V 17 = undef := hall 17 (by decide)
            have vv18 : V 18 = undef := hall 18 (by decide)
            have vv19 : V 19 = undef := hall 19 (by decide)
            have vv20 : V 20 = undef := hall 20 (by decide)
            have vv21 : V 21 = undef := hall 21 (by decide)
            have vv22 : V 22 = .bool true := hall 22 (by decide)
            clear hall
            simp only [pairsOf, laid, Nat.zero_add, Nat.reduceAdd, vv0, vv1, vv2, vv3, vv4, vv5, vv6, vv7, vv8, vv9, vv10, vv11, vv12, vv13, vv14, vv15, vv16, vv17, vv18, vv19, vv20, vv21, vv22, List.setIfInBounds_toArray, List.set_cons_zero, List.set_cons_succ]
            clear vv0 vv1 vv2 vv3 vv4 vv5 vv6 vv7 vv8 vv9 vv10 vv11 vv12 vv13 vv14 vv15 vv16 vv17 vv18 vv19 vv20 vv21 vv22
            go_wp2
            go_ret
            exact ⟨by rw [HF.out]; rfl, hBW⟩
        · have hi3 : ¬ x < -10000 := by omega
          go_wp2
          refine region_mono (by kernel_rfl) (by kernel_rfl) [some 15, some 16, some 17, some 18, some 19, some 20, some 21, some 22, some 23, some 24, some 25, some 26, some 27, some 28, some 29, some 30, some 31, some 32, some 33, some 34, some 35, some 36, some 37] (by kernel_rfl) w.heap.size w HB0.out (Nat.le_refl _) (fun iV vV WW => match iV with | 0 => vV = .pointer (some ⟨wr.heap.size, 1, none⟩) | 1 => vV = .int .i64 x | 2 => vV = .bool false | 3 => vV = .bool false | 4 => vV = .pointer (some ⟨wr.heap.size, 1, none⟩) | 5 => vV = .int .i64 x | 6 => vV = .bool true | 7 => vV = .bool true | 8 => vV = .bool true | 9 => vV = undef | 10 => vV = undef | 11 => vV = undef | 12 => vV = undef | 13 => vV = undef | 14 => vV = undef | 15 => vV = undef | 16 => vV = undef | 17 => vV = undef | 18 => vV = undef | 19 => vV = undef | 20 => vV = undef | 21 => vV = undef | 22 => vV = .bool true | _ => True) ?_ ?_ ?_
          · intro iV vV WW WX h hbx
            rcases iV with _ | _ | _ | _ | _ | _ | _ | _ | _ | _ | _ | _ | _ | _ | _ | _ | _ | _ | _ | _ | _ | _ | _ | i
            · exact h
            · exact h
            · exact h
            · exact h
            · exact h
            · exact h
            · exact h
            · exact h
            · exact h
            · exact h
            · exact h
            · exact h
            · exact h
            · exact h
            · exact h
            · exact h
            · exact h
            · exact h
            · exact h
            · exact h
            · exact h
            · exact h
            · exact h
            · trivial
          · intro iI oO V AC WW ho hf hbw K hK
            have hlt : iI < 23 := (Array.getElem?_eq_some_iff.1 ho).1
            rcases iI with _ | _ | _ | _ | _ | _ | _ | _ | _ | _ | _ | _ | _ | _ | _ | _ | _ | _ | _ | _ | _ | _ | _ | iI
            · obtain rfl := Option.some.inj (show some _ = some oO from ho)
              rw [if_pos (by rfl)]
              have q4 : AC.tmps.getD 4 undef = .pointer (some ⟨wr.heap.size, 0, none⟩) := hf.rest 4 (by kernel_rfl)
              go_simp
              exact hK _ _ (Below.refl _ _) rfl
            · obtain rfl := Option.some.inj (show some _ = some oO from ho)
              rw [if_pos (by rfl)]
              have q15 : AC.tmps.getD 15 undef = .pointer (some ⟨wr.heap.size, 1, none⟩) := ((hf.dep ⟨0, .data⟩ (by simp) rfl).2 15 rfl).trans (hf.dep ⟨0, .data⟩ (by simp) rfl).1
              have hG := HG.out.keeps hbw
              have g1 := hG.cell 1 _ rfl
              go_simp
              exact hK _ _ (Below.refl _ _) rfl
            · obtain rfl := Option.some.inj (show some _ = some oO from ho)
              rw [if_pos (by rfl)]
              have q16 : AC.tmps.getD 16 undef = .int .i64 x := ((hf.dep ⟨1, .data⟩ (by simp) rfl).2 16 rfl).trans (hf.dep ⟨1, .data⟩ (by simp) rfl).1
              go_simp
              first | exact hK _ _ (Below.refl _ _) rfl | exact hK _ _ (Below.refl _ _) (congrArg Value.bool (by simp; omega))
            · obtain rfl := Option.some.inj (show some _ = some oO from ho)
              rw [if_pos (by rfl)]
              have q17 : AC.tmps.getD 17 undef = .bool false := ((hf.dep ⟨2, .data⟩ (by simp) rfl).2 17 rfl).trans (hf.dep ⟨2, .data⟩ (by simp) rfl).1
              go_simp
              exact hK _ _ (Below.refl _ _) rfl
            · obtain rfl := Option.some.inj (show some _ = some oO from ho)
              rw [if_pos (wanted_yes (s := 18) rfl rfl rfl (by rw [hf.size]; simp) (((hf.dep ⟨3, .guard⟩ (by simp) rfl).2 18 rfl).trans (hf.dep ⟨3, .guard⟩ (by simp) rfl).1))]
              have q4 : AC.tmps.getD 4 undef = .pointer (some ⟨wr.heap.size, 0, none⟩) := hf.rest 4 (by kernel_rfl)
              go_simp
              exact hK _ _ (Below.refl _ _) rfl
            · obtain rfl := Option.some.inj (show some _ = some oO from ho)
              rw [if_pos (wanted_yes (s := 18) rfl rfl rfl (by rw [hf.size]; simp) (((hf.dep ⟨3, .guard⟩ (by simp) rfl).2 18 rfl).trans (hf.dep ⟨3, .guard⟩ (by simp) rfl).1))]
              have q19 : AC.tmps.getD 19 undef = .pointer (some ⟨wr.heap.size, 1, none⟩) := ((hf.dep ⟨4, .data⟩ (by simp) rfl).2 19 rfl).trans (hf.dep ⟨4, .data⟩ (by simp) rfl).1
              have hG := HG.out.keeps hbw
              have g1 := hG.cell 1 _ rfl
              go_simp
              exact hK _ _ (Below.refl _ _) rfl
            · obtain rfl := Option.some.inj (show some _ = some oO from ho)
              rw [if_pos (wanted_yes (s := 18) rfl rfl rfl (by rw [hf.size]; simp) (((hf.dep ⟨3, .guard⟩ (by simp) rfl).2 18 rfl).trans (hf.dep ⟨3, .guard⟩ (by simp) rfl).1))]
              have q20 : AC.tmps.getD 20 undef = .int .i64 x := ((hf.dep ⟨5, .data⟩ (by simp) rfl).2 20 rfl).trans (hf.dep ⟨5, .data⟩ (by simp) rfl).1
              go_simp
              first | exact hK _ _ (Below.refl _ _) rfl | exact hK _ _ (Below.refl _ _) (congrArg Value.bool (by simp; omega))
            · obtain rfl := Option.some.inj (show some _ = some oO from ho)
              rw [if_pos (by rfl)]
              have q18 : AC.tmps.getD 18 undef = .bool false := ((hf.dep ⟨3, .data⟩ (by simp) rfl).2 18 rfl).trans (hf.dep ⟨3, .data⟩ (by simp) rfl).1
              have q21 : AC.tmps.getD 21 undef = .bool true := ((hf.dep ⟨6, .data⟩ (by simp) rfl).2 21 rfl).trans (hf.dep ⟨6, .data⟩ (by simp) rfl).1
              go_simp
              first | exact hK _ _ (Below.refl _ _) rfl | exact hK _ _ (Below.refl _ _) (congrArg Value.bool (by simp; omega))
            · obtain rfl := Option.some.inj (show some _ = some oO from ho)
              rw [if_pos (by rfl)]
              have q22 : AC.tmps.getD 22 undef = .bool true := ((hf.dep ⟨7, .data⟩ (by simp) rfl).2 22 rfl).trans (hf.dep ⟨7, .data⟩ (by simp) rfl).1
              go_simp
              exact hK _ _ (Below.refl _ _) rfl
            · obtain rfl := Option.some.inj (show some _ = some oO from ho)
              rw [if_neg (wanted_no (s := 23) rfl rfl rfl (by rw [hf.size]; simp) (((hf.dep ⟨8, .guard⟩ (by simp) rfl).2 23 rfl).trans (hf.dep ⟨8, .guard⟩ (by simp) rfl).1) rfl)]
              exact hK _ _ (Below.refl _ _) rfl
            · obtain rfl := Option.some.inj (show some _ = some oO from ho)
              rw [if_neg (wanted_no (s := 23) rfl rfl rfl (by rw [hf.size]; simp) (((hf.dep ⟨8, .guard⟩ (by simp) rfl).2 23 rfl).trans (hf.dep ⟨8, .guard⟩ (by simp) rfl).1) rfl)]
              exact hK _ _ (Below.refl _ _) rfl
            · obtain rfl := Option.some.inj (show some _ = some oO from ho)
              rw [if_neg (wanted_no (s := 23) rfl rfl rfl (by rw [hf.size]; simp) (((hf.dep ⟨8, .guard⟩ (by simp) rfl).2 23 rfl).trans (hf.dep ⟨8, .guard⟩ (by simp) rfl).1) rfl)]
              exact hK _ _ (Below.refl _ _) rfl
            · obtain rfl := Option.some.inj (show some _ = some oO from ho)
              rw [if_neg (wanted_undef (s := 26) rfl rfl rfl (by rw [hf.size]; simp) (((hf.dep ⟨11, .guard⟩ (by simp) rfl).2 26 rfl).trans (hf.dep ⟨11, .guard⟩ (by simp) rfl).1))]
              exact hK _ _ (Below.refl _ _) rfl
            · obtain rfl := Option.some.inj (show some _ = some oO from ho)
              rw [if_neg (wanted_undef (s := 26) rfl rfl rfl (by rw [hf.size]; simp) (((hf.dep ⟨11, .guard⟩ (by simp) rfl).2 26 rfl).trans (hf.dep ⟨11, .guard⟩ (by simp) rfl).1))]
              exact hK _ _ (Below.refl _ _) rfl
            · obtain rfl := Option.some.inj (show some _ = some oO from ho)
              rw [if_neg (wanted_undef (s := 26) rfl rfl rfl (by rw [hf.size]; simp) (((hf.dep ⟨11, .guard⟩ (by simp) rfl).2 26 rfl).trans (hf.dep ⟨11, .guard⟩ (by simp) rfl).1))]
              exact hK _ _ (Below.refl _ _) rfl
            · obtain rfl := Option.some.inj (show some _ = some oO from ho)
              rw [if_neg (wanted_undef (s := 26) rfl rfl rfl (by rw [hf.size]; simp) (((hf.dep ⟨11, .guard⟩ (by simp) rfl).2 26 rfl).trans (hf.dep ⟨11, .guard⟩ (by simp) rfl).1))]
              exact hK _ _ (Below.refl _ _) rfl
            · obtain rfl := Option.some.inj (show some _ = some oO from ho)
              rw [if_neg (wanted_undef (s := 26) rfl rfl rfl (by rw [hf.size]; simp) (((hf.dep ⟨11, .guard⟩ (by simp) rfl).2 26 rfl).trans (hf.dep ⟨11, .guard⟩ (by simp) rfl).1))]
              exact hK _ _ (Below.refl _ _) rfl
            · obtain rfl := Option.some.inj (show some _ = some oO from ho)
              rw [if_neg (wanted_undef (s := 26) rfl rfl rfl (by rw [hf.size]; simp) (((hf.dep ⟨11, .guard⟩ (by simp) rfl).2 26 rfl).trans (hf.dep ⟨11, .guard⟩ (by simp) rfl).1))]
              exact hK _ _ (Below.refl _ _) rfl
            · obtain rfl := Option.some.inj (show some _ = some oO from ho)
              rw [if_neg (wanted_undef (s := 26) rfl rfl rfl (by rw [hf.size]; simp) (((hf.dep ⟨11, .guard⟩ (by simp) rfl).2 26 rfl).trans (hf.dep ⟨11, .guard⟩ (by simp) rfl).1))]
              exact hK _ _ (Below.refl _ _) rfl
            · obtain rfl := Option.some.inj (show some _ = some oO from ho)
              rw [if_neg (wanted_undef (s := 26) rfl rfl rfl (by rw [hf.size]; simp) (((hf.dep ⟨11, .guard⟩ (by simp) rfl).2 26 rfl).trans (hf.dep ⟨11, .guard⟩ (by simp) rfl).1))]
              exact hK _ _ (Below.refl _ _) rfl
            · obtain rfl := Option.some.inj (show some _ = some oO from ho)
              rw [if_neg (wanted_undef (s := 26) rfl rfl rfl (by rw [hf.size]; simp) (((hf.dep ⟨11, .guard⟩ (by simp) rfl).2 26 rfl).trans (hf.dep ⟨11, .guard⟩ (by simp) rfl).1))]
              exact hK _ _ (Below.refl _ _) rfl
            · obtain rfl := Option.some.inj (show some _ = some oO from ho)
              rw [if_neg (wanted_no (s := 23) rfl rfl rfl (by rw [hf.size]; simp) (((hf.dep ⟨8, .guard⟩ (by simp) rfl).2 23 rfl).trans (hf.dep ⟨8, .guard⟩ (by simp) rfl).1) rfl)]
              exact hK _ _ (Below.refl _ _) rfl
            · obtain rfl := Option.some.inj (show some _ = some oO from ho)
              rw [if_pos (by rfl)]
              have q23 : AC.tmps.getD 23 undef = .bool true := ((hf.dep ⟨8, .data⟩ (by simp) rfl).2 23 rfl).trans (hf.dep ⟨8, .data⟩ (by simp) rfl).1
              have q36 : AC.tmps.getD 36 undef = undef := ((hf.dep ⟨21, .data⟩ (by simp) rfl).2 36 rfl).trans (hf.dep ⟨21, .data⟩ (by simp) rfl).1
              go_simp
              first | exact hK _ _ (Below.refl _ _) rfl | exact hK _ _ (Below.refl _ _) (congrArg Value.bool (by simp; omega))
            · omega
          · intro V WW hall hbw hBW
            have vv0 : V 0 = .pointer (some ⟨wr.heap.size, 1, none⟩) := hall 0 (by decide)
            have vv1 : V 1 = .int .i64 x := hall 1 (by decide)
            have vv2 : V 2 = .bool false := hall 2 (by decide)
            have vv3 : V 3 = .bool false := hall 3 (by decide)
            have vv4 : V 4 = .pointer (some ⟨wr.heap.size, 1, none⟩) := hall 4 (by decide)
            have vv5 : V 5 = .int .i64 x := hall 5 (by decide)
            have vv6 : V 6 = .bool true := hall 6 (by decide)
            have vv7 : V 7 = .bool true := hall 7 (by decide)
            have vv8 : V 8 = .bool true := hall 8 (by decide)
            have vv9 : V 9 = undef := hall 9 (by decide)
            have vv10 : V 10 = undef := hall 10 (by decide)
            have vv11 : V 11 = undef := hall 11 (by decide)
            have vv12 : V 12 = undef := hall 12 (by decide)
            have vv13 : V 13 = undef := hall 13 (by decide)
            have vv14 : V 14 = undef := hall 14 (by decide)
            have vv15 : V 15 = undef := hall 15 (by decide)
            have vv16 : V 16 = undef := hall 16 (by decide)
            have vv17 : V 17 = undef := hall 17 (by decide)
            have vv18 : V 18 = undef := hall 18 (by decide)
            have vv19 : V 19 = undef := hall 19 (by decide)
            have vv20 : V 20 = undef := hall 20 (by decide)
            have vv21 : V 21 = undef := hall 21 (by decide)
            have vv22 : V 22 = .bool true := hall 22 (by decide)
            clear hall
            simp only [pairsOf, laid, Nat.zero_add, Nat.reduceAdd, vv0, vv1, vv2, vv3, vv4, vv5, vv6, vv7, vv8, vv9, vv10, vv11, vv12, vv13, vv14, vv15, vv16, vv17, vv18, vv19, vv20, vv21, vv22, List.setIfInBounds_toArray, List.set_cons_zero, List.set_cons_succ]
            clear vv0 vv1 vv2 vv3 vv4 vv5 vv6 vv7 vv8 vv9 vv10 vv11 vv12 vv13 vv14 vv15 vv16 vv17 vv18 vv19 vv20 vv21 vv22
            go_wp2
            go_ret
            exact ⟨by rw [HF.out]; rfl, hBW⟩
      · have i1 : ¬ x < -10000 := by omega
        have i2 : ¬ 10000 < x := by omega
        clear hi
        by_cases k0 : k = 0
        · have HN : Hid (tabK L (k + 1) = true) := tab_step HK.out (by unfold okAt; rw [gx]; simp [okI]; omega)
          have HKZ := Lib.hid (show ¬ (0 : Int) < k by omega)
          clear hx hc hw gx k0
          go_wp2
          refine region_mono (by kernel_rfl) (by kernel_rfl) [some 15, some 16, some 17, some 18, some 19, some 20, some 21, some 22, some 23, some 24, some 25, some 26, some 27, some 28, some 29, some 30, some 31, some 32, some 33, some 34, some 35, some 36, some 37] (by kernel_rfl) w.heap.size w HB0.out (Nat.le_refl _) (fun iV vV WW => match iV with | 0 => vV = .pointer (some ⟨wr.heap.size, 1, none⟩) | 1 => vV = .int .i64 x | 2 => vV = .bool false | 3 => vV = .bool false | 4 => vV = .pointer (some ⟨wr.heap.size, 1, none⟩) | 5 => vV = .int .i64 x | 6 => vV = .bool false | 7 => vV = .bool false | 8 => vV = .bool false | 9 => vV = .int .i64 k | 10 => vV = .bool false | 11 => vV = .bool false | 12 => vV = undef | 13 => vV = undef | 14 => vV = undef | 15 => vV = undef | 16 => vV = undef | 17 => vV = undef | 18 => vV = undef | 19 => vV = undef | 20 => vV = undef | 21 => vV = .bool false | 22 => vV = .bool false | _ => True) ?_ ?_ ?_
          · intro iV vV WW WX h hbx
            rcases iV with _ | _ | _ | _ | _ | _ | _ | _ | _ | _ | _ | _ | _ | _ | _ | _ | _ | _ | _ | _ | _ | _ | _ | i
            · exact h
            · exact h
            · exact h
            · exact h
            · exact h
            · exact h
            · exact h
            · exact h
            · exact h
            · exact h
            · exact h
            · exact h
            · exact h
            · exact h
            · exact h
            · exact h
            · exact h
            · exact h
            · exact h
            · exact h
            · exact h
            · exact h
            · exact h
            · trivial
          · intro iI oO V AC WW ho hf hbw K hK
            have hlt : iI < 23 := (Array.getElem?_eq_some_iff.1 ho).1
            rcases iI with _ | _ | _ | _ | _ | _ | _ | _ | _ | _ | _ | _ | _ | _ | _ | _ | _ | _ | _ | _ | _ | _ | _ | iI
            · obtain rfl := Option.some.inj (show some _ = some oO from ho)
              rw [if_pos (by rfl)]
              have q4 : AC.tmps.getD 4 undef = .pointer (some ⟨wr.heap.size, 0, none⟩) := hf.rest 4 (by kernel_rfl)
              go_simp
              exact hK _ _ (Below.refl _ _) rfl
            · obtain rfl := Option.some.inj (show some _ = some oO from ho)
              rw [if_pos (by rfl)]
              have q15 : AC.tmps.getD 15 undef = .pointer (some ⟨wr.heap.size, 1, none⟩) := ((hf.dep ⟨0, .data⟩ (by simp) rfl).2 15 rfl).trans (hf.dep ⟨0, .data⟩ (by simp) rfl).1
              have hG := HG.out.keeps hbw
              have g1 := hG.cell 1 _ rfl
              go_simp
              exact hK _ _ (Below.refl _ _) rfl
            · obtain rfl := Option.some.inj (show some _ = some oO from ho)
              rw [if_pos (by rfl)]
              have q16 : AC.tmps.getD 16 undef = .int .i64 x := ((hf.dep ⟨1, .data⟩ (by simp) rfl).2 16 rfl).trans (hf.dep ⟨1, .data⟩ (by simp) rfl).1
              go_simp
              first | exact hK _ _ (Below.refl _ _) rfl | exact hK _ _ (Below.refl _ _) (congrArg Value.bool (by simp; omega))
            · obtain rfl := Option.some.inj (show some _ = some oO from ho)
              rw [if_pos (by rfl)]
              have q17 : AC.tmps.getD 17 undef = .bool false := ((hf.dep ⟨2, .data⟩ (by simp) rfl).2 17 rfl).trans (hf.dep ⟨2, .data⟩ (by simp) rfl).1
              go_simp
              exact hK _ _ (Below.refl _ _) rfl
            · obtain rfl := Option.some.inj (show some _ = some oO from ho)
              rw [if_pos (wanted_yes (s := 18) rfl rfl rfl (by rw [hf.size]; simp) (((hf.dep ⟨3, .guard⟩ (by simp) rfl).2 18 rfl).trans (hf.dep ⟨3, .guard⟩ (by simp) rfl).1))]
              have q4 : AC.tmps.getD 4 undef = .pointer (some ⟨wr.heap.size, 0, none⟩) := hf.rest 4 (by kernel_rfl)
              go_simp
              exact hK _ _ (Below.refl _ _) rfl
            · obtain rfl := Option.some.inj (show some _ = some oO from ho)
              rw [if_pos (wanted_yes (s := 18) rfl rfl rfl (by rw [hf.size]; simp) (((hf.dep ⟨3, .guard⟩ (by simp) rfl).2 18 rfl).trans (hf.dep ⟨3, .guard⟩ (by simp) rfl).1))]
              have q19 : AC.tmps.getD 19 undef = .pointer (some ⟨wr.heap.size, 1, none⟩) := ((hf.dep ⟨4, .data⟩ (by simp) rfl).2 19 rfl).trans (hf.dep ⟨4, .data⟩ (by simp) rfl).1
              have hG := HG.out.keeps hbw
              have g1 := hG.cell 1 _ rfl
              go_simp
              exact hK _ _ (Below.refl _ _) rfl
            · obtain rfl := Option.some.inj (show some _ = some oO from ho)
              rw [if_pos (wanted_yes (s := 18) rfl rfl rfl (by rw [hf.size]; simp) (((hf.dep ⟨3, .guard⟩ (by simp) rfl).2 18 rfl).trans (hf.dep ⟨3, .guard⟩ (by simp) rfl).1))]
              have q20 : AC.tmps.getD 20 undef = .int .i64 x := ((hf.dep ⟨5, .data⟩ (by simp) rfl).2 20 rfl).trans (hf.dep ⟨5, .data⟩ (by simp) rfl).1
              go_simp
              first | exact hK _ _ (Below.refl _ _) rfl | exact hK _ _ (Below.refl _ _) (congrArg Value.bool (by simp; omega))
            · obtain rfl := Option.some.inj (show some _ = some oO from ho)
              rw [if_pos (by rfl)]
              have q18 : AC.tmps.getD 18 undef = .bool false := ((hf.dep ⟨3, .data⟩ (by simp) rfl).2 18 rfl).trans (hf.dep ⟨3, .data⟩ (by simp) rfl).1
              have q21 : AC.tmps.getD 21 undef = .bool false := ((hf.dep ⟨6, .data⟩ (by simp) rfl).2 21 rfl).trans (hf.dep ⟨6, .data⟩ (by simp) rfl).1
              go_simp
              first | exact hK _ _ (Below.refl _ _) rfl | exact hK _ _ (Below.refl _ _) (congrArg Value.bool (by simp; omega))
            · obtain rfl := Option.some.inj (show some _ = some oO from ho)
              rw [if_pos (by rfl)]
              have q22 : AC.tmps.getD 22 undef = .bool false := ((hf.dep ⟨7, .data⟩ (by simp) rfl).2 22 rfl).trans (hf.dep ⟨7, .data⟩ (by simp) rfl).1
              go_simp
              exact hK _ _ (Below.refl _ _) rfl
            · obtain rfl := Option.some.inj (show some _ = some oO from ho)
              rw [if_pos (wanted_yes (s := 23) rfl rfl rfl (by rw [hf.size]; simp) (((hf.dep ⟨8, .guard⟩ (by simp) rfl).2 23 rfl).trans (hf.dep ⟨8, .guard⟩ (by simp) rfl).1))]
              have q3 : AC.tmps.getD 3 undef = .int .i64 k := hf.rest 3 (by kernel_rfl)
              go_simp
              exact hK _ _ (Below.refl _ _) rfl
            · obtain rfl := Option.some.inj (show some _ = some oO from ho)
              rw [if_pos (wanted_yes (s := 23) rfl rfl rfl (by rw [hf.size]; simp) (((hf.dep ⟨8, .guard⟩ (by simp) rfl).2 23 rfl).trans (hf.dep ⟨8, .guard⟩ (by simp) rfl).1))]
              have q24 : AC.tmps.getD 24 undef = .int .i64 k := ((hf.dep ⟨9, .data⟩ (by simp) rfl).2 24 rfl).trans (hf.dep ⟨9, .data⟩ (by simp) rfl).1
              have hkz := HKZ.out
              go_simp
              first | exact hK _ _ (Below.refl _ _) rfl | exact hK _ _ (Below.refl _ _) (congrArg Value.bool (by simp; omega))
            · obtain rfl := Option.some.inj (show some _ = some oO from ho)
              rw [if_pos (wanted_yes (s := 23) rfl rfl rfl (by rw [hf.size]; simp) (((hf.dep ⟨8, .guard⟩ (by simp) rfl).2 23 rfl).trans (hf.dep ⟨8, .guard⟩ (by simp) rfl).1))]
              have q25 : AC.tmps.getD 25 undef = .bool false := ((hf.dep ⟨10, .data⟩ (by simp) rfl).2 25 rfl).trans (hf.dep ⟨10, .data⟩ (by simp) rfl).1
              go_simp
              exact hK _ _ (Below.refl _ _) rfl
            · obtain rfl := Option.some.inj (show some _ = some oO from ho)
              rw [if_neg (wanted_no (s := 26) rfl rfl rfl (by rw [hf.size]; simp) (((hf.dep ⟨11, .guard⟩ (by simp) rfl).2 26 rfl).trans (hf.dep ⟨11, .guard⟩ (by simp) rfl).1) rfl)]
              exact hK _ _ (Below.refl _ _) rfl
            · obtain rfl := Option.some.inj (show some _ = some oO from ho)
              rw [if_neg (wanted_no (s := 26) rfl rfl rfl (by rw [hf.size]; simp) (((hf.dep ⟨11, .guard⟩ (by simp) rfl).2 26 rfl).trans (hf.dep ⟨11, .guard⟩ (by simp) rfl).1) rfl)]
              exact hK _ _ (Below.refl _ _) rfl
            · obtain rfl := Option.some.inj (show some _ = some oO from ho)
              rw [if_neg (wanted_no (s := 26) rfl rfl rfl (by rw [hf.size]; simp) (((hf.dep ⟨11, .guard⟩ (by simp) rfl).2 26 rfl).trans (hf.dep ⟨11, .guard⟩ (by simp) rfl).1) rfl)]
              exact hK _ _ (Below.refl _ _) rfl
            · obtain rfl := Option.some.inj (show some _ = some oO from ho)
              rw [if_neg (wanted_no (s := 26) rfl rfl rfl (by rw [hf.size]; simp) (((hf.dep ⟨11, .guard⟩ (by simp) rfl).2 26 rfl).trans (hf.dep ⟨11, .guard⟩ (by simp) rfl).1) rfl)]
              exact hK _ _ (Below.refl _ _) rfl
            · obtain rfl := Option.some.inj (show some _ = some oO from ho)
              rw [if_neg (wanted_no (s := 26) rfl rfl rfl (by rw [hf.size]; simp) (((hf.dep ⟨11, .guard⟩ (by simp) rfl).2 26 rfl).trans (hf.dep ⟨11, .guard⟩ (by simp) rfl).1) rfl)]
              exact hK _ _ (Below.refl _ _) rfl
            · obtain rfl := Option.some.inj (show some _ = some oO from ho)
              rw [if_neg (wanted_no (s := 26) rfl rfl rfl (by rw [hf.size]; simp) (((hf.dep ⟨11, .guard⟩ (by simp) rfl).2 26 rfl).trans (hf.dep ⟨11, .guard⟩ (by simp) rfl).1) rfl)]
              exact hK _ _ (Below.refl _ _) rfl
            · obtain rfl := Option.some.inj (show some _ = some oO from ho)
              rw [if_neg (wanted_no (s := 26) rfl rfl rfl (by rw [hf.size]; simp) (((hf.dep ⟨11, .guard⟩ (by simp) rfl).2 26 rfl).trans (hf.dep ⟨11, .guard⟩ (by simp) rfl).1) rfl)]
              exact hK _ _ (Below.refl _ _) rfl
            · obtain rfl := Option.some.inj (show some _ = some oO from ho)
              rw [if_neg (wanted_no (s := 26) rfl rfl rfl (by rw [hf.size]; simp) (((hf.dep ⟨11, .guard⟩ (by simp) rfl).2 26 rfl).trans (hf.dep ⟨11, .guard⟩ (by simp) rfl).1) rfl)]
              exact hK _ _ (Below.refl _ _) rfl
            · obtain rfl := Option.some.inj (show some _ = some oO from ho)
              rw [if_neg (wanted_no (s := 26) rfl rfl rfl (by rw [hf.size]; simp) (((hf.dep ⟨11, .guard⟩ (by simp) rfl).2 26 rfl).trans (hf.dep ⟨11, .guard⟩ (by simp) rfl).1) rfl)]
              exact hK _ _ (Below.refl _ _) rfl
            · obtain rfl := Option.some.inj (show some _ = some oO from ho)
              rw [if_pos (wanted_yes (s := 23) rfl rfl rfl (by rw [hf.size]; simp) (((hf.dep ⟨8, .guard⟩ (by simp) rfl).2 23 rfl).trans (hf.dep ⟨8, .guard⟩ (by simp) rfl).1))]
              have q26 : AC.tmps.getD 26 undef = .bool false := ((hf.dep ⟨11, .data⟩ (by simp) rfl).2 26 rfl).trans (hf.dep ⟨11, .data⟩ (by simp) rfl).1
              have q35 : AC.tmps.getD 35 undef = undef := ((hf.dep ⟨20, .data⟩ (by simp) rfl).2 35 rfl).trans (hf.dep ⟨20, .data⟩ (by simp) rfl).1
              go_simp
              exact hK _ _ (Below.refl _ _) rfl
            · obtain rfl := Option.some.inj (show some _ = some oO from ho)
              rw [if_pos (by rfl)]
              have q23 : AC.tmps.getD 23 undef = .bool false := ((hf.dep ⟨8, .data⟩ (by simp) rfl).2 23 rfl).trans (hf.dep ⟨8, .data⟩ (by simp) rfl).1
              have q36 : AC.tmps.getD 36 undef = .bool false := ((hf.dep ⟨21, .data⟩ (by simp) rfl).2 36 rfl).trans (hf.dep ⟨21, .data⟩ (by simp) rfl).1
              go_simp
              first | exact hK _ _ (Below.refl _ _) rfl | exact hK _ _ (Below.refl _ _) (congrArg Value.bool (by simp; omega))
            · omega
          · intro V WW hall hbw hBW
            have vv0 : V 0 = .pointer (some ⟨wr.heap.size, 1, none⟩) := hall 0 (by decide)
            have vv1 : V 1 = .int .i64 x := hall 1 (by decide)
            have vv2 : V 2 = .bool false := hall 2 (by decide)
            have vv3 : V 3 = .bool false := hall 3 (by decide)
            have vv4 : V 4 = .pointer (some ⟨wr.heap.size, 1, none⟩) := hall 4 (by decide)
            have vv5 : V 5 = .int .i64 x := hall 5 (by decide)
            have vv6 : V 6 = .bool false := hall 6 (by decide)
            have vv7 : V 7 = .bool false := hall 7 (by decide)
            have vv8 : V 8 = .bool false := hall 8 (by decide)
            have vv9 : V 9 = .int .i64 k := hall 9 (by decide)
            have vv10 : V 10 = .bool false := hall 10 (by decide)
            have vv11 : V 11 = .bool false := hall 11 (by decide)
            have vv12 : V 12 = undef := hall 12 (by decide)
            have vv13 : V 13 = undef := hall 13 (by decide)
            have vv14 : V 14 = undef := hall 14 (by decide)
            have vv15 : V 15 = undef := hall 15 (by decide)
            have vv16 : V 16 = undef := hall 16 (by decide)
            have vv17 : V 17 = undef := hall 17 (by decide)
            have vv18 : V 18 = undef := hall 18 (by decide)
            have vv19 : V 19 = undef := hall 19 (by decide)
            have vv20 : V 20 = undef := hall 20 (by decide)
            have vv21 : V 21 = .bool false := hall 21 (by decide)
            have vv22 : V 22 = .bool false := hall 22 (by decide)
            clear hall
            simp only [pairsOf, laid, Nat.zero_add, Nat.reduceAdd, vv0, vv1, vv2, vv3, vv4, vv5, vv6, vv7, vv8, vv9, vv10, vv11, vv12, vv13, vv14, vv15, vv16, vv17, vv18, vv19, vv20, vv21, vv22, List.setIfInBounds_toArray, List.set_cons_zero, List.set_cons_succ]
            clear vv0 vv1 vv2 vv3 vv4 vv5 vv6 vv7 vv8 vv9 vv10 vv11 vv12 vv13 vv14 vv15 vv16 vv17 vv18 vv19 vv20 vv21 vv22
            go_wp2
            go_roundw
            · exact ⟨k + 1, by omega, by go_num, HN, hBW⟩
            · simp [intOf]; omega
        · obtain ⟨⟨d', x'⟩, hx'⟩ : ∃ x, L[k - 1]? = some x := ⟨_, List.getElem?_eq_getElem (by omega)⟩
          have gx' := getD_of hx'
          obtain ⟨j, hkj⟩ : ∃ j, k = j + 1 := ⟨k - 1, by omega⟩
          have hjl : j < L.length := by omega
          have HX2 : Hid (L[j]? = some (d', x')) := by show _ = _; rw [← hx', hkj]; rfl
          have hj : (k : Int) - 1 = (j : Int) := by omega
          have hk0 : (0 : Int) < k := by omega
          have HWJ : Hid (IntKind.i64.wrap (j : Int) = j) := by show _ = _; rw [IntKind.wrap_i64]; omega
          clear hkj k0
          by_cases hd : d' < d
          · have HN : Hid (tabK L (k + 1) = true) := tab_step HK.out (by unfold okAt; rw [gx, gx']; simp [okI]; omega)
            have hd2 : ¬ d ≤ d' := by omega
            clear hx hx' hc hw gx gx' hd
            go_wp2
            refine region_mono (by kernel_rfl) (by kernel_rfl) [some 15, some 16, some 17, some 18, some 19, some 20, some 21, some 22, some 23, some 24, some 25, some 26, some 27, some 28, some 29, some 30, some 31, some 32, some 33, some 34, some 35, some 36, some 37] (by kernel_rfl) w.heap.size w HB0.out (Nat.le_refl _) (fun iV vV WW => match iV with | 0 => vV = .pointer (some ⟨wr.heap.size, 1, none⟩) | 1 => vV = .int .i64 x | 2 => vV = .bool false | 3 => vV = .bool false | 4 => vV = .pointer (some ⟨wr.heap.size, 1, none⟩) | 5 => vV = .int .i64 x | 6 => vV = .bool false | 7 => vV = .bool false | 8 => vV = .bool false | 9 => vV = .int .i64 k | 10 => vV = .bool true | 11 => vV = .bool true | 12 => vV = .pointer (some ⟨wr.heap.size, 0, none⟩) | 13 => vV = .int .i64 d | 14 => vV = .slice (some ⟨b, off, none⟩) L.length cap | 15 => vV = .int .i64 k | 16 => vV = .int .i64 j | 17 => vV = .pointer (some ⟨b, off + j * 2, none⟩) | 18 => vV = .pointer (some ⟨b, off + j * 2, none⟩) | 19 => vV = .int .i64 d' | 20 => vV = .bool false | 21 => vV = .bool false | 22 => vV = .bool false | _ => True) ?_ ?_ ?_
            · intro iV vV WW WX h hbx
              rcases iV with _ | _ | _ | _ | _ | _ | _ | _ | _ | _ | _ | _ | _ | _ | _ | _ | _ | _ | _ | _ | _ | _ | _ | i
              · exact h
              · exact h
              · exact h
              · exact h
              · exact h
              · exact h
              · exact h
              · exact h
              · exact h
              · exact h
              · exact h
              · exact h
              · exact h
              · exact h
              · exact h
              · exact h
              · exact h
              · exact h
              · exact h
              · exact h
              · exact h
              · exact h
              · exact h
              · trivial
            · intro iI oO V AC WW ho hf hbw K hK
              have hlt : iI < 23 := (Array.getElem?_eq_some_iff.1 ho).1
              rcases iI with _ | _ | _ | _ | _ | _ | _ | _ | _ | _ | _ | _ | _ | _ | _ | _ | _ | _ | _ | _ | _ | _ | _ | iI
              · obtain rfl := Option.some.inj (show some _ = some oO from ho)
                rw [if_pos (by rfl)]
                have q4 : AC.tmps.getD 4 undef = .pointer (some ⟨wr.heap.size, 0, none⟩) := hf.rest 4 (by kernel_rfl)
                go_simp
                exact hK _ _ (Below.refl _ _) rfl
              · obtain rfl := Option.some.inj (show some _ = some oO from ho)
                rw [if_pos (by rfl)]
                have q15 : AC.tmps.getD 15 undef = .pointer (some ⟨wr.heap.size, 1, none⟩) := ((hf.dep ⟨0, .data⟩ (by simp) rfl).2 15 rfl).trans (hf.dep ⟨0, .data⟩ (by simp) rfl).1
                have hG := HG.out.keeps hbw
                have g1 := hG.cell 1 _ rfl
                go_simp
                exact hK _ _ (Below.refl _ _) rfl
              · obtain rfl := Option.some.inj (show some _ = some oO from ho)
                rw [if_pos (by rfl)]
                have q16 : AC.tmps.getD 16 undef = .int .i64 x := ((hf.dep ⟨1, .data⟩ (by simp) rfl).2 16 rfl).trans (hf.dep ⟨1, .data⟩ (by simp) rfl).1
                go_simp
                first | exact hK _ _ (Below.refl _ _) rfl | exact hK _ _ (Below.refl _ _) (congrArg Value.bool (by simp; omega))
              · obtain rfl := Option.some.inj (show some _ = some oO from ho)
                rw [if_pos (by rfl)]
                have q17 : AC.tmps.getD 17 undef = .bool false := ((hf.dep ⟨2, .data⟩ (by simp) rfl).2 17 rfl).trans (hf.dep ⟨2, .data⟩ (by simp) rfl).1
                go_simp
                exact hK _ _ (Below.refl _ _) rfl
              · obtain rfl := Option.some.inj (show some _ = some oO from ho)
                rw [if_pos (wanted_yes (s := 18) rfl rfl rfl (by rw [hf.size]; simp) (((hf.dep ⟨3, .guard⟩ (by simp) rfl).2 18 rfl).trans (hf.dep ⟨3, .guard⟩ (by simp) rfl).1))]
                have q4 : AC.tmps.getD 4 undef = .pointer (some ⟨wr.heap.size, 0, none⟩) := hf.rest 4 (by kernel_rfl)
                go_simp
                exact hK _ _ (Below.refl _ _) rfl
              · obtain rfl := Option.some.inj (show some _ = some oO from ho)
                rw [if_pos (wanted_yes (s := 18) rfl rfl rfl (by rw [hf.size]; simp) (((hf.dep ⟨3, .guard⟩ (by simp) rfl).2 18 rfl).trans (hf.dep ⟨3, .guard⟩ (by simp) rfl).1))]
                have q19 : AC.tmps.getD 19 undef = .pointer (some ⟨wr.heap.size, 1, none⟩) := ((hf.dep ⟨4, .data⟩ (by simp) rfl).2 19 rfl).trans (hf.dep ⟨4, .data⟩ (by simp) rfl).1
                have hG := HG.out.keeps hbw
                have g1 := hG.cell 1 _ rfl
                go_simp
                exact hK _ _ (Below.refl _ _) rfl
              · obtain rfl := Option.some.inj (show some _ = some oO from ho)
                rw [if_pos (wanted_yes (s := 18) rfl rfl rfl (by rw [hf.size]; simp) (((hf.dep ⟨3, .guard⟩ (by simp) rfl).2 18 rfl).trans (hf.dep ⟨3, .guard⟩ (by simp) rfl).1))]
                have q20 : AC.tmps.getD 20 undef = .int .i64 x := ((hf.dep ⟨5, .data⟩ (by simp) rfl).2 20 rfl).trans (hf.dep ⟨5, .data⟩ (by simp) rfl).1
                go_simp
                first | exact hK _ _ (Below.refl _ _) rfl | exact hK _ _ (Below.refl _ _) (congrArg Value.bool (by simp; omega))
              · obtain rfl := Option.some.inj (show some _ = some oO from ho)
                rw [if_pos (by rfl)]
                have q18 : AC.tmps.getD 18 undef = .bool false := ((hf.dep ⟨3, .data⟩ (by simp) rfl).2 18 rfl).trans (hf.dep ⟨3, .data⟩ (by simp) rfl).1
                have q21 : AC.tmps.getD 21 undef = .bool false := ((hf.dep ⟨6, .data⟩ (by simp) rfl).2 21 rfl).trans (hf.dep ⟨6, .data⟩ (by simp) rfl).1
                go_simp
                first | exact hK _ _ (Below.refl _ _) rfl | exact hK _ _ (Below.refl _ _) (congrArg Value.bool (by simp; omega))
              · obtain rfl := Option.some.inj (show some _ = some oO from ho)
                rw [if_pos (by rfl)]
                have q22 : AC.tmps.getD 22 undef = .bool false := ((hf.dep ⟨7, .data⟩ (by simp) rfl).2 22 rfl).trans (hf.dep ⟨7, .data⟩ (by simp) rfl).1
                go_simp
                exact hK _ _ (Below.refl _ _) rfl
              · obtain rfl := Option.some.inj (show some _ = some oO from ho)
                rw [if_pos (wanted_yes (s := 23) rfl rfl rfl (by rw [hf.size]; simp) (((hf.dep ⟨8, .guard⟩ (by simp) rfl).2 23 rfl).trans (hf.dep ⟨8, .guard⟩ (by simp) rfl).1))]
                have q3 : AC.tmps.getD 3 undef = .int .i64 k := hf.rest 3 (by kernel_rfl)
                go_simp
                exact hK _ _ (Below.refl _ _) rfl
              · obtain rfl := Option.some.inj (show some _ = some oO from ho)
                rw [if_pos (wanted_yes (s := 23) rfl rfl rfl (by rw [hf.size]; simp) (((hf.dep ⟨8, .guard⟩ (by simp) rfl).2 23 rfl).trans (hf.dep ⟨8, .guard⟩ (by simp) rfl).1))]
                have q24 : AC.tmps.getD 24 undef = .int .i64 k := ((hf.dep ⟨9, .data⟩ (by simp) rfl).2 24 rfl).trans (hf.dep ⟨9, .data⟩ (by simp) rfl).1
                go_simp
                first | exact hK _ _ (Below.refl _ _) rfl | exact hK _ _ (Below.refl _ _) (congrArg Value.bool (by simp; omega))
              · obtain rfl := Option.some.inj (show some _ = some oO from ho)
                rw [if_pos (wanted_yes (s := 23) rfl rfl rfl (by rw [hf.size]; simp) (((hf.dep ⟨8, .guard⟩ (by simp) rfl).2 23 rfl).trans (hf.dep ⟨8, .guard⟩ (by simp) rfl).1))]
                have q25 : AC.tmps.getD 25 undef = .bool true := ((hf.dep ⟨10, .data⟩ (by simp) rfl).2 25 rfl).trans (hf.dep ⟨10, .data⟩ (by simp) rfl).1
                go_simp
                exact hK _ _ (Below.refl _ _) rfl
              · obtain rfl := Option.some.inj (show some _ = some oO from ho)
                rw [if_pos (wanted_yes (s := 26) rfl rfl rfl (by rw [hf.size]; simp) (((hf.dep ⟨11, .guard⟩ (by simp) rfl).2 26 rfl).trans (hf.dep ⟨11, .guard⟩ (by simp) rfl).1))]
                have q4 : AC.tmps.getD 4 undef = .pointer (some ⟨wr.heap.size, 0, none⟩) := hf.rest 4 (by kernel_rfl)
                go_simp
                exact hK _ _ (Below.refl _ _) rfl
              · obtain rfl := Option.some.inj (show some _ = some oO from ho)
                rw [if_pos (wanted_yes (s := 26) rfl rfl rfl (by rw [hf.size]; simp) (((hf.dep ⟨11, .guard⟩ (by simp) rfl).2 26 rfl).trans (hf.dep ⟨11, .guard⟩ (by simp) rfl).1))]
                have q27 : AC.tmps.getD 27 undef = .pointer (some ⟨wr.heap.size, 0, none⟩) := ((hf.dep ⟨12, .data⟩ (by simp) rfl).2 27 rfl).trans (hf.dep ⟨12, .data⟩ (by simp) rfl).1
                have hG := HG.out.keeps hbw
                have g0 := hG.cell 0 _ rfl
                go_simp
                exact hK _ _ (Below.refl _ _) rfl
              · obtain rfl := Option.some.inj (show some _ = some oO from ho)
                rw [if_pos (wanted_yes (s := 26) rfl rfl rfl (by rw [hf.size]; simp) (((hf.dep ⟨11, .guard⟩ (by simp) rfl).2 26 rfl).trans (hf.dep ⟨11, .guard⟩ (by simp) rfl).1))]
                have q0 : AC.tmps.getD 0 undef = .slice (some ⟨b, off, none⟩) L.length cap := hf.rest 0 (by kernel_rfl)
                go_simp
                exact hK _ _ (Below.refl _ _) rfl
              · obtain rfl := Option.some.inj (show some _ = some oO from ho)
                rw [if_pos (wanted_yes (s := 26) rfl rfl rfl (by rw [hf.size]; simp) (((hf.dep ⟨11, .guard⟩ (by simp) rfl).2 26 rfl).trans (hf.dep ⟨11, .guard⟩ (by simp) rfl).1))]
                have q3 : AC.tmps.getD 3 undef = .int .i64 k := hf.rest 3 (by kernel_rfl)
                go_simp
                exact hK _ _ (Below.refl _ _) rfl
              · obtain rfl := Option.some.inj (show some _ = some oO from ho)
                rw [if_pos (wanted_yes (s := 26) rfl rfl rfl (by rw [hf.size]; simp) (((hf.dep ⟨11, .guard⟩ (by simp) rfl).2 26 rfl).trans (hf.dep ⟨11, .guard⟩ (by simp) rfl).1))]
                have q30 : AC.tmps.getD 30 undef = .int .i64 k := ((hf.dep ⟨15, .data⟩ (by simp) rfl).2 30 rfl).trans (hf.dep ⟨15, .data⟩ (by simp) rfl).1
                go_simp
                exact hK _ _ (Below.refl _ _) (congrArg (Value.int .i64) HWJ.out)
              · obtain rfl := Option.some.inj (show some _ = some oO from ho)
                rw [if_pos (wanted_yes (s := 26) rfl rfl rfl (by rw [hf.size]; simp) (((hf.dep ⟨11, .guard⟩ (by simp) rfl).2 26 rfl).trans (hf.dep ⟨11, .guard⟩ (by simp) rfl).1))]
                have q29 : AC.tmps.getD 29 undef = .slice (some ⟨b, off, none⟩) L.length cap := ((hf.dep ⟨14, .data⟩ (by simp) rfl).2 29 rfl).trans (hf.dep ⟨14, .data⟩ (by simp) rfl).1
                have q31 : AC.tmps.getD 31 undef = .int .i64 j := ((hf.dep ⟨16, .data⟩ (by simp) rfl).2 31 rfl).trans (hf.dep ⟨16, .data⟩ (by simp) rfl).1
                exact ix_rt_op _ _ rfl b off cap L (by omega) q29 j hjl q31 (hK _ _ (Below.refl _ _) rfl)
              · obtain rfl := Option.some.inj (show some _ = some oO from ho)
                rw [if_pos (wanted_yes (s := 26) rfl rfl rfl (by rw [hf.size]; simp) (((hf.dep ⟨11, .guard⟩ (by simp) rfl).2 26 rfl).trans (hf.dep ⟨11, .guard⟩ (by simp) rfl).1))]
                have q32 : AC.tmps.getD 32 undef = .pointer (some ⟨b, off + j * 2, none⟩) := ((hf.dep ⟨17, .data⟩ (by simp) rfl).2 32 rfl).trans (hf.dep ⟨17, .data⟩ (by simp) rfl).1
                go_simp
                exact hK _ _ (Below.refl _ _) rfl
              · obtain rfl := Option.some.inj (show some _ = some oO from ho)
                rw [if_pos (wanted_yes (s := 26) rfl rfl rfl (by rw [hf.size]; simp) (((hf.dep ⟨11, .guard⟩ (by simp) rfl).2 26 rfl).trans (hf.dep ⟨11, .guard⟩ (by simp) rfl).1))]
                have q33 : AC.tmps.getD 33 undef = .pointer (some ⟨b, off + j * 2, none⟩) := ((hf.dep ⟨18, .data⟩ (by simp) rfl).2 33 rfl).trans (hf.dep ⟨18, .data⟩ (by simp) rfl).1
                have f0 := (rt_cells (H.out.of hbw) HX2.out).1
                go_simp
                exact hK _ _ (Below.refl _ _) rfl
              · obtain rfl := Option.some.inj (show some _ = some oO from ho)
                rw [if_pos (wanted_yes (s := 26) rfl rfl rfl (by rw [hf.size]; simp) (((hf.dep ⟨11, .guard⟩ (by simp) rfl).2 26 rfl).trans (hf.dep ⟨11, .guard⟩ (by simp) rfl).1))]
                have q28 : AC.tmps.getD 28 undef = .int .i64 d := ((hf.dep ⟨13, .data⟩ (by simp) rfl).2 28 rfl).trans (hf.dep ⟨13, .data⟩ (by simp) rfl).1
                have q34 : AC.tmps.getD 34 undef = .int .i64 d' := ((hf.dep ⟨19, .data⟩ (by simp) rfl).2 34 rfl).trans (hf.dep ⟨19, .data⟩ (by simp) rfl).1
                go_simp
                first | exact hK _ _ (Below.refl _ _) rfl | exact hK _ _ (Below.refl _ _) (congrArg Value.bool (by simp; omega))
              · obtain rfl := Option.some.inj (show some _ = some oO from ho)
                rw [if_pos (wanted_yes (s := 23) rfl rfl rfl (by rw [hf.size]; simp) (((hf.dep ⟨8, .guard⟩ (by simp) rfl).2 23 rfl).trans (hf.dep ⟨8, .guard⟩ (by simp) rfl).1))]
                have q26 : AC.tmps.getD 26 undef = .bool true := ((hf.dep ⟨11, .data⟩ (by simp) rfl).2 26 rfl).trans (hf.dep ⟨11, .data⟩ (by simp) rfl).1
                have q35 : AC.tmps.getD 35 undef = .bool false := ((hf.dep ⟨20, .data⟩ (by simp) rfl).2 35 rfl).trans (hf.dep ⟨20, .data⟩ (by simp) rfl).1
                go_simp
                exact hK _ _ (Below.refl _ _) rfl
              · obtain rfl := Option.some.inj (show some _ = some oO from ho)
                rw [if_pos (by rfl)]
                have q23 : AC.tmps.getD 23 undef = .bool false := ((hf.dep ⟨8, .data⟩ (by simp) rfl).2 23 rfl).trans (hf.dep ⟨8, .data⟩ (by simp) rfl).1
                have q36 : AC.tmps.getD 36 undef = .bool false := ((hf.dep ⟨21, .data⟩ (by simp) rfl).2 36 rfl).trans (hf.dep ⟨21, .data⟩ (by simp) rfl).1
                go_simp
                first | exact hK _ _ (Below.refl _ _) rfl | exact hK _ _ (Below.refl _ _) (congrArg Value.bool (by simp; omega))
              · omega
            · intro V WW hall hbw hBW
              have vv0 : V 0 = .pointer (some ⟨wr.heap.size, 1, none⟩) := hall 0 (by decide)
              have vv1 : V 1 = .int .i64 x := hall 1 (by decide)
              have vv2 : V 2 = .bool false := hall 2 (by decide)
              have vv3 : V 3 = .bool false := hall 3 (by decide)
              have vv4 : V 4 = .pointer (some ⟨wr.heap.size, 1, none⟩) := hall 4 (by decide)
              have vv5 : V 5 = .int .i64 x := hall 5 (by decide)
              have vv6 : V 6 = .bool false := hall 6 (by decide)
              have vv7 : V 7 = .bool false := hall 7 (by decide)
              have vv8 : V 8 = .bool false := hall 8 (by decide)
              have vv9 : V 9 = .int .i64 k := hall 9 (by decide)
              have vv10 : V 10 = .bool true := hall 10 (by decide)
              have vv11 : V 11 = .bool true := hall 11 (by decide)
              have vv12 : V 12 = .pointer (some ⟨wr.heap.size, 0, none⟩) := hall 12 (by decide)
              have vv13 : V 13 = .int .i64 d := hall 13 (by decide)
              have vv14 : V 14 = .slice (some ⟨b, off, none⟩) L.length cap := hall 14 (by decide)
              have vv15 : V 15 = .int .i64 k := hall 15 (by decide)
              have vv16 : V 16 = .int .i64 j := hall 16 (by decide)
              have vv17 : V 17 = .pointer (some ⟨b, off + j * 2, none⟩) := hall 17 (by decide)
              have vv18 : V 18 = .pointer (some ⟨b, off + j * 2, none⟩) := hall 18 (by decide)
              have vv19 : V 19 = .int .i64 d' := hall 19 (by decide)
              have vv20 : V 20 = .bool false := hall 20 (by decide)
              have vv21 : V 21 = .bool false := hall 21 (by decide)
              have vv22 : V 22 = .bool false := hall 22 (by decide)
              clear hall
              simp only [pairsOf, laid, Nat.zero_add, Nat.reduceAdd, vv0, vv1, vv2, vv3, vv4, vv5, vv6, vv7, vv8, vv9, vv10, vv11, vv12, vv13, vv14, vv15, vv16, vv17, vv18, vv19, vv20, vv21, vv22, List.setIfInBounds_toArray, List.set_cons_zero, List.set_cons_succ]
              clear vv0 vv1 vv2 vv3 vv4 vv5 vv6 vv7 vv8 vv9 vv10 vv11 vv12 vv13 vv14 vv15 vv16 vv17 vv18 vv19 vv20 vv21 vv22
              go_wp2
              go_roundw
              · exact ⟨k + 1, by omega, by go_num, HN, hBW⟩
              · simp [intOf]; omega
          · have HF : Hid (v = false) := by
              show _ = _
              rw [← HV.out, tabS, tab_not hkl (by unfold okAt; rw [gx, gx']; simp [okI]; omega), Bool.and_false]
            have hd2 : d ≤ d' := by omega
            clear hx hx' hc hw gx gx' hd
            go_wp2
            refine region_mono (by kernel_rfl) (by kernel_rfl) [some 15, some 16, some 17, some 18, some 19, some 20, some 21, some 22, some 23, some 24, some 25, some 26, some 27, some 28, some 29, some 30, some 31, some 32, some 33, some 34, some 35, some 36, some 37] (by kernel_rfl) w.heap.size w HB0.out (Nat.le_refl _) (fun iV vV WW => match iV with | 0 => vV = .pointer (some ⟨wr.heap.size, 1, none⟩) | 1 => vV = .int .i64 x | 2 => vV = .bool false | 3 => vV = .bool false | 4 => vV = .pointer (some ⟨wr.heap.size, 1, none⟩) | 5 => vV = .int .i64 x | 6 => vV = .bool false | 7 => vV = .bool false | 8 => vV = .bool false | 9 => vV = .int .i64 k | 10 => vV = .bool true | 11 => vV = .bool true | 12 => vV = .pointer (some ⟨wr.heap.size, 0, none⟩) | 13 => vV = .int .i64 d | 14 => vV = .slice (some ⟨b, off, none⟩) L.length cap | 15 => vV = .int .i64 k | 16 => vV = .int .i64 j | 17 => vV = .pointer (some ⟨b, off + j * 2, none⟩) | 18 => vV = .pointer (some ⟨b, off + j * 2, none⟩) | 19 => vV = .int .i64 d' | 20 => vV = .bool true | 21 => vV = .bool true | 22 => vV = .bool true | _ => True) ?_ ?_ ?_
            · intro iV vV WW WX h hbx
              rcases iV with _ | _ | _ | _ | _ | _ | _ | _ | _ | _ | _ | _ | _ | _ | _ | _ | _ | _ | _ | _ | _ | _ | _ | i
              · exact h
              · exact h
              · exact h
              · exact h
              · exact h
              · exact h
              · exact h
              · exact h
              · exact h
              · exact h
              · exact h
              · exact h
              · exact h
              · exact h
              · exact h
              · exact h
              · exact h
              · exact h
              · exact h
              · exact h
              · exact h
              · exact h
              · exact h
              · trivial
            · intro iI oO V AC WW ho hf hbw K hK
              have hlt : iI < 23 := (Array.getElem?_eq_some_iff.1 ho).1
              rcases iI with _ | _ | _ | _ | _ | _ | _ | _ | _ | _ | _ | _ | _ | _ | _ | _ | _ | _ | _ | _ | _ | _ | _ | iI
              · obtain rfl := Option.some.inj (show some _ = some oO from ho)
                rw [if_pos (by rfl)]
                have q4 : AC.tmps.getD 4 undef = .pointer (some ⟨wr.heap.size, 0, none⟩) := hf.rest 4 (by kernel_rfl)
                go_simp
                exact hK _ _ (Below.refl _ _) rfl
              · obtain rfl := Option.some.inj (show some _ = some oO from ho)
                rw [if_pos (by rfl)]
                have q15 : AC.tmps.getD 15 undef = .pointer (some ⟨wr.heap.size, 1, none⟩) := ((hf.dep ⟨0, .data⟩ (by simp) rfl).2 15 rfl).trans (hf.dep ⟨0, .data⟩ (by simp) rfl).1
                have hG := HG.out.keeps hbw
                have g1 := hG.cell 1 _ rfl
                go_simp
                exact hK _ _ (Below.refl _ _) rfl
              · obtain rfl := Option.some.inj (show some _ = some oO from ho)
                rw [if_pos (by rfl)]
                have q16 : AC.tmps.getD 16 undef = .int .i64 x := ((hf.dep ⟨1, .data⟩ (by simp) rfl).2 16 rfl).trans (hf.dep ⟨1, .data⟩ (by simp) rfl).1
                go_simp
                first | exact hK _ _ (Below.refl _ _) rfl | exact hK _ _ (Below.refl _ _) (congrArg Value.bool (by simp; omega))
              · obtain rfl := Option.some.inj (show some _ = some oO from ho)
                rw [if_pos (by rfl)]
                have q17 : AC.tmps.getD 17 undef = .bool false := ((hf.dep ⟨2, .data⟩ (by simp) rfl).2 17 rfl).trans (hf.dep ⟨2, .data⟩ (by simp) rfl).1
                go_simp
                exact hK _ _ (Below.refl _ _) rfl
              · obtain rfl := Option.some.inj (show some _ = some oO from ho)
                rw [if_pos (wanted_yes (s := 18) rfl rfl rfl (by rw [hf.size]; simp) (((hf.dep ⟨3, .guard⟩ (by simp) rfl).2 18 rfl).trans (hf.dep ⟨3, .guard⟩ (by simp) rfl).1))]
                have q4 : AC.tmps.getD 4 undef = .pointer (some ⟨wr.heap.size, 0, none⟩) := hf.rest 4 (by kernel_rfl)
                go_simp
                exact hK _ _ (Below.refl _ _) rfl
              · obtain rfl := Option.some.inj (show some _ = some oO from ho)
                rw [if_pos (wanted_yes (s := 18) rfl rfl rfl (by rw [hf.size]; simp) (((hf.dep ⟨3, .guard⟩ (by simp) rfl).2 18 rfl).trans (hf.dep ⟨3, .guard⟩ (by simp) rfl).1))]
                have q19 : AC.tmps.getD 19 undef = .pointer (some ⟨wr.heap.size, 1, none⟩) := ((hf.dep ⟨4, .data⟩ (by simp) rfl).2 19 rfl).trans (hf.dep ⟨4, .data⟩ (by simp) rfl).1
                have hG := HG.out.keeps hbw
                have g1 := hG.cell 1 _ rfl
                go_simp
                exact hK _ _ (Below.refl _ _) rfl
              · obtain rfl := Option.some.inj (show some _ = some oO from ho)
                rw [if_pos (wanted_yes (s := 18) rfl rfl rfl (by rw [hf.size]; simp) (((hf.dep ⟨3, .guard⟩ (by simp) rfl).2 18 rfl).trans (hf.dep ⟨3, .guard⟩ (by simp) rfl).1))]
                have q20 : AC.tmps.getD 20 undef = .int .i64 x := ((hf.dep ⟨5, .data⟩ (by simp) rfl).2 20 rfl).trans (hf.dep ⟨5, .data⟩ (by simp) rfl).1
                go_simp
                first | exact hK _ _ (Below.refl _ _) rfl | exact hK _ _ (Below.refl _ _) (congrArg Value.bool (by simp; omega))
              · obtain rfl := Option.some.inj (show some _ = some oO from ho)
                rw [if_pos (by rfl)]
                have q18 : AC.tmps.getD 18 undef = .bool false := ((hf.dep ⟨3, .data⟩ (by simp) rfl).2 18 rfl).trans (hf.dep ⟨3, .data⟩ (by simp) rfl).1
                have q21 : AC.tmps.getD 21 undef = .bool false := ((hf.dep ⟨6, .data⟩ (by simp) rfl).2 21 rfl).trans (hf.dep ⟨6, .data⟩ (by simp) rfl).1
                go_simp
                first | exact hK _ _ (Below.refl _ _) rfl | exact hK _ _ (Below.refl _ _) (congrArg Value.bool (by simp; omega))
              · obtain rfl := Option.some.inj (show some _ = some oO from ho)
                rw [if_pos (by rfl)]
                have q22 : AC.tmps.getD 22 undef = .bool false := ((hf.dep ⟨7, .data⟩ (by simp) rfl).2 22 rfl).trans (hf.dep ⟨7, .data⟩ (by simp) rfl).1
                go_simp
                exact hK _ _ (Below.refl _ _) rfl
              · obtain rfl := Option.some.inj (show some _ = some oO from ho)
                rw [if_pos (wanted_yes (s := 23) rfl rfl rfl (by rw [hf.size]; simp) (((hf.dep ⟨8, .guard⟩ (by simp) rfl).2 23 rfl).trans (hf.dep ⟨8, .guard⟩ (by simp) rfl).1))]
                have q3 : AC.tmps.getD 3 undef = .int .i64 k := hf.rest 3 (by kernel_rfl)
                go_simp
                exact hK _ _ (Below.refl _ _) rfl
              · obtain rfl := Option.some.inj (show some _ = some oO from ho)
                rw [if_pos (wanted_yes (s := 23) rfl rfl rfl (by rw [hf.size]; simp) (((hf.dep ⟨8, .guard⟩ (by simp) rfl).2 23 rfl).trans (hf.dep ⟨8, .guard⟩ (by simp) rfl).1))]
                have q24 : AC.tmps.getD 24 undef = .int .i64 k := ((hf.dep ⟨9, .data⟩ (by simp) rfl).2 24 rfl).trans (hf.dep ⟨9, .data⟩ (by simp) rfl).1
                go_simp
                first | exact hK _ _ (Below.refl _ _) rfl | exact hK _ _ (Below.refl _ _) (congrArg Value.bool (by simp; omega))
              · obtain rfl := Option.some.inj (show some _ = some oO from ho)
                rw [if_pos (wanted_yes (s := 23) rfl rfl rfl (by rw [hf.size]; simp) (((hf.dep ⟨8, .guard⟩ (by simp) rfl).2 23 rfl).trans (hf.dep ⟨8, .guard⟩ (by simp) rfl).1))]
                have q25 : AC.tmps.getD 25 undef = .bool true := ((hf.dep ⟨10, .data⟩ (by simp) rfl).2 25 rfl).trans (hf.dep ⟨10, .data⟩ (by simp) rfl).1
                go_simp
                exact hK _ _ (Below.refl _ _) rfl
              · obtain rfl := Option.some.inj (show some _ = some oO from ho)
                rw [if_pos (wanted_yes (s := 26) rfl rfl rfl (by rw [hf.size]; simp) (((hf.dep ⟨11, .guard⟩ (by simp) rfl).2 26 rfl).trans (hf.dep ⟨11, .guard⟩ (by simp) rfl).1))]
                have q4 : AC.tmps.getD 4 undef = .pointer (some ⟨wr.heap.size, 0, none⟩) := hf.rest 4 (by kernel_rfl)
                go_simp
                exact hK _ _ (Below.refl _ _) rfl
              · obtain rfl := Option.some.inj (show some _ = some oO from ho)
                rw [if_pos (wanted_yes (s := 26) rfl rfl rfl (by rw [hf.size]; simp) (((hf.dep ⟨11, .guard⟩ (by simp) rfl).2 26 rfl).trans (hf.dep ⟨11, .guard⟩ (by simp) rfl).1))]
                have q27 : AC.tmps.getD 27 undef = .pointer (some ⟨wr.heap.size, 0, none⟩) := ((hf.dep ⟨12, .data⟩ (by simp) rfl).2 27 rfl).trans (hf.dep ⟨12, .data⟩ (by simp) rfl).1
                have hG := HG.out.keeps hbw
                have g0 := hG.cell 0 _ rfl
                go_simp
                exact hK _ _ (Below.refl _ _) rfl
              · obtain rfl := Option.some.inj (show some _ = some oO from ho)
                rw [if_pos (wanted_yes (s := 26) rfl rfl rfl (by rw [hf.size]; simp) (((hf.dep ⟨11, .guard⟩ (by simp) rfl).2 26 rfl).trans (hf.dep ⟨11, .guard⟩ (by simp) rfl).1))]
                have q0 : AC.tmps.getD 0 undef = .slice (some ⟨b, off, none⟩) L.length cap := hf.rest 0 (by kernel_rfl)
                go_simp
                exact hK _ _ (Below.refl _ _) rfl
              · obtain rfl := Option.some.inj (show some _ = some oO from ho)
                rw [if_pos (wanted_yes (s := 26) rfl rfl rfl (by rw [hf.size]; simp) (((hf.dep ⟨11, .guard⟩ (by simp) rfl).2 26 rfl).trans (hf.dep ⟨11, .guard⟩ (by simp) rfl).1))]
                have q3 : AC.tmps.getD 3 undef = .int .i64 k := hf.rest 3 (by kernel_rfl)
                go_simp
                exact hK _ _ (Below.refl _ _) rfl
              · obtain rfl := Option.some.inj (show some _ = some oO from ho)
                rw [if_pos (wanted_yes (s := 26) rfl rfl rfl (by rw [hf.size]; simp) (((hf.dep ⟨11, .guard⟩ (by simp) rfl).2 26 rfl).trans (hf.dep ⟨11, .guard⟩ (by simp) rfl).1))]
                have q30 : AC.tmps.getD 30 undef = .int .i64 k := ((hf.dep ⟨15, .data⟩ (by simp) rfl).2 30 rfl).trans (hf.dep ⟨15, .data⟩ (by simp) rfl).1
                go_simp
                exact hK _ _ (Below.refl _ _) (congrArg (Value.int .i64) HWJ.out)
              · obtain rfl := Option.some.inj (show some _ = some oO from ho)
                rw [if_pos (wanted_yes (s := 26) rfl rfl rfl (by rw [hf.size]; simp) (((hf.dep ⟨11, .guard⟩ (by simp) rfl).2 26 rfl).trans (hf.dep ⟨11, .guard⟩ (by simp) rfl).1))]
                have q29 : AC.tmps.getD 29 undef = .slice (some ⟨b, off, none⟩) L.length cap := ((hf.dep ⟨14, .data⟩ (by simp) rfl).2 29 rfl).trans (hf.dep ⟨14, .data⟩ (by simp) rfl).1
                have q31 : AC.tmps.getD 31 undef = .int .i64 j := ((hf.dep ⟨16, .data⟩ (by simp) rfl).2 31 rfl).trans (hf.dep ⟨16, .data⟩ (by simp) rfl).1
                exact ix_rt_op _ _ rfl b off cap L (by omega) q29 j hjl q31 (hK _ _ (Below.refl _ _) rfl)
              · obtain rfl := Option.some.inj (show some _ = some oO from ho)
                rw [if_pos (wanted_yes (s := 26) rfl rfl rfl (by rw [hf.size]; simp) (((hf.dep ⟨11, .guard⟩ (by simp) rfl).2 26 rfl).trans (hf.dep ⟨11, .guard⟩ (by simp) rfl).1))]
                have q32 : AC.tmps.getD 32 undef = .pointer (some ⟨b, off + j * 2, none⟩) := ((hf.dep ⟨17, .data⟩ (by simp) rfl).2 32 rfl).trans (hf.dep ⟨17, .data⟩ (by simp) rfl).1
                go_simp
                exact hK _ _ (Below.refl _ _) rfl
              · obtain rfl := Option.some.inj (show some _ = some oO from ho)
                rw [if_pos (wanted_yes (s := 26) rfl rfl rfl (by rw [hf.size]; simp) (((hf.dep ⟨11, .guard⟩ (by simp) rfl).2 26 rfl).trans (hf.dep ⟨11, .guard⟩ (by simp) rfl).1))]
                have q33 : AC.tmps.getD 33 undef = .pointer (some ⟨b, off + j * 2, none⟩) := ((hf.dep ⟨18, .data⟩ (by simp) rfl).2 33 rfl).trans (hf.dep ⟨18, .data⟩ (by simp) rfl).1
                have f0 := (rt_cells (H.out.of hbw) HX2.out).1
                go_simp
                exact hK _ _ (Below.refl _ _) rfl
              · obtain rfl := Option.some.inj (show some _ = some oO from ho)
                rw [if_pos (wanted_yes (s := 26) rfl rfl rfl (by rw [hf.size]; simp) (((hf.dep ⟨11, .guard⟩ (by simp) rfl).2 26 rfl).trans (hf.dep ⟨11, .guard⟩ (by simp) rfl).1))]
                have q28 : AC.tmps.getD 28 undef = .int .i64 d := ((hf.dep ⟨13, .data⟩ (by simp) rfl).2 28 rfl).trans (hf.dep ⟨13, .data⟩ (by simp) rfl).1
                have q34 : AC.tmps.getD 34 undef = .int .i64 d' := ((hf.dep ⟨19, .data⟩ (by simp) rfl).2 34 rfl).trans (hf.dep ⟨19, .data⟩ (by simp) rfl).1
                go_simp
                first | exact hK _ _ (Below.refl _ _) rfl | exact hK _ _ (Below.refl _ _) (congrArg Value.bool (by simp; omega))
              · obtain rfl := Option.some.inj (show some _ = some oO from ho)
                rw [if_pos (wanted_yes (s := 23) rfl rfl rfl (by rw [hf.size]; simp) (((hf.dep ⟨8, .guard⟩ (by simp) rfl).2 23 rfl).trans (hf.dep ⟨8, .guard⟩ (by simp) rfl).1))]
                have q26 : AC.tmps.getD 26 undef = .bool true := ((hf.dep ⟨11, .data⟩ (by simp) rfl).2 26 rfl).trans (hf.dep ⟨11, .data⟩ (by simp) rfl).1
                have q35 : AC.tmps.getD 35 undef = .bool true := ((hf.dep ⟨20, .data⟩ (by simp) rfl).2 35 rfl).trans (hf.dep ⟨20, .data⟩ (by simp) rfl).1
                go_simp
                exact hK _ _ (Below.refl _ _) rfl
              · obtain rfl := Option.some.inj (show some _ = some oO from ho)
                rw [if_pos (by rfl)]
                have q23 : AC.tmps.getD 23 undef = .bool false := ((hf.dep ⟨8, .data⟩ (by simp) rfl).2 23 rfl).trans (hf.dep ⟨8, .data⟩ (by simp) rfl).1
                have q36 : AC.tmps.getD 36 undef = .bool true := ((hf.dep ⟨21, .data⟩ (by simp) rfl).2 36 rfl).trans (hf.dep ⟨21, .data⟩ (by simp) rfl).1
                go_simp
                first | exact hK _ _ (Below.refl _ _) rfl | exact hK _ _ (Below.refl _ _) (congrArg Value.bool (by simp; omega))
              · omega
            · intro V WW hall hbw hBW
              have vv0 : V 0 = .pointer (some ⟨wr.heap.size, 1, none⟩) := hall 0 (by decide)
              have vv1 : V 1 = .int .i64 x := hall 1 (by decide)
              have vv2 : V 2 = .bool false := hall 2 (by decide)
              have vv3 : V 3 = .bool false := hall 3 (by decide)
              have vv4 : V 4 = .pointer (some ⟨wr.heap.size, 1, none⟩) := hall 4 (by decide)
              have vv5 : V 5 = .int .i64 x := hall 5 (by decide)
              have vv6 : V 6 = .bool false := hall 6 (by decide)
              have vv7 : V 7 = .bool false := hall 7 (by decide)
              have vv8 : V 8 = .bool false := hall 8 (by decide)
              have vv9 : V 9 = .int .i64 k := hall 9 (by decide)
              have vv10 : V 10 = .bool true := hall 10 (by decide)
              have vv11 : V 11 = .bool true := hall 11 (by decide)
              have vv12 : V 12 = .pointer (some ⟨wr.heap.size, 0, none⟩) := hall 12 (by decide)
              have vv13 : V 13 = .int .i64 d := hall 13 (by decide)
              have vv14 : V 14 = .slice (some ⟨b, off, none⟩) L.length cap := hall 14 (by decide)
              have vv15 : V 15 = .int .i64 k := hall 15 (by decide)
              have vv16 : V 16 = .int .i64 j := hall 16 (by decide)
              have vv17 : V 17 = .pointer (some ⟨b, off + j * 2, none⟩) := hall 17 (by decide)
              have vv18 : V 18 = .pointer (some ⟨b, off + j * 2, none⟩) := hall 18 (by decide)
              have vv19 : V 19 = .int .i64 d' := hall 19 (by decide)
              have vv20 : V 20 = .bool true := hall 20 (by decide)
              have vv21 : V 21 = .bool true := hall 21 (by decide)
              have vv22 : V 22 = .bool true := hall 22 (by decide)
              clear hall
              simp only [pairsOf, laid, Nat.zero_add, Nat.reduceAdd, vv0, vv1, vv2, vv3, vv4, vv5, vv6, vv7, vv8, vv9, vv10, vv11, vv12, vv13, vv14, vv15, vv16, vv17, vv18, vv19, vv20, vv21, vv22, List.setIfInBounds_toArray, List.set_cons_zero, List.set_cons_succ]
              clear vv0 vv1 vv2 vv3 vv4 vv5 vv6 vv7 vv8 vv9 vv10 vv11 vv12 vv13 vv14 vv15 vv16 vv17 vv18 vv19 vv20 vv21 vv22
              go_wp2
              go_ret
              exact ⟨by rw [HF.out]; rfl, hBW⟩
    · obtain rfl : k = L.length := by omega
      have HT : Hid (v = true) := by show _ = _; rw [← HV.out, tabS, HK.out, Bool.and_true, decide_eq_true h65]
      clear HV HK
      go_wp2
      go_ret
      exact ⟨by rw [HT.out]; rfl, hb⟩
end Go.Proofs.Ytaineoceiciloaa
