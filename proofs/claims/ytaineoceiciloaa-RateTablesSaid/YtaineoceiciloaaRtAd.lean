/-
  The walk of rate.Add.
-/
import Derived.Test.YtaineoceiciloaaRtH
import Derived.Test.YtaineoceiciloaaFull
set_option linter.unusedVariables false
set_option linter.unusedSimpArgs false
namespace Go.Proofs.Ytaineoceiciloaa
open Go.RowKit

theorem rtc_one (t : Rt) : ∀ u ∈ rtc t, u.oneCell' = true := by
  intro u hu
  simp only [rtc, List.mem_cons, List.not_mem_nil, or_false] at hu
  rcases hu with rfl | rfl <;> rfl
theorem add_zeroA (ao : Option Addr) : ao.map (·.add 0) = ao := by
  cases ao with
  | none => rfl
  | some a => simp [Addr.add]
theorem run_full (w : World) (ao : Option Addr) (cap n : Nat) (hr : n ≤ cap) : (Instr.slice 24 (.slice ao n cap) none (some (.int .i64 n)) (some (.int .i64 n))).run Try.prog w = .ok (.slice ao n n) w := by
  rw [run_slice_hm w 24 ao n cap (by simp [Program.elem]) .i64 .i64 n n (by omega) (by omega) (by omega), show Try.prog.elem 24 = 46 from by simp [Program.elem], size_rt]
  simp [Result.andThen, sliced, add_zeroA]
section
variable {ops : Array Oper} {rest : List Oper} {o : Oper} {a : Act} {w : World} {Q : Exit → Act → World → Prop} {K : Act → World → Prop}
theorem full_op (s x y : Operand) (ho : o.op = .slice 24 s none (some x) (some y)) (ao : Option Addr) (cap n : Nat) (hr : n ≤ cap) (hn : n ≤ 1000000000) (hs : a.eval s = .slice ao n cap) (hx : a.eval x = .int .i64 n) (hy : a.eval y = .int .i64 n)
    (h : K (a.put o.dst (.slice ao n n)) w) : Oper.wp Try.prog o a w K Q := by
  have hrun := run_full w ao cap n hr
  unfold Oper.wp
  simp [execOp, ho, run_sliceAt_slice, hs, hx, hy, hrun, Result.andThen, Program.elem]
  exact h
end
theorem Rk.cut {w : World} {S n cap : Nat} {ao : Option Addr} {C : List Value} (h : Rk w S ao n cap C) : Rk w S ao n n C := ⟨h.len, Nat.le_refl _, fun e => by have := h.nil e; have := h.room; omega, h.cells⟩
/-- What Add answers. -/
def raddS (L : List Rt) (r : Rt) : List Rt × Int := if tabS L = true ∧ tabS (L ++ [r]) = true then (L ++ [r], 0) else ([], 52)
set_option maxRecDepth 8000 in
set_option maxHeartbeats 3200000 in
theorem radd_any (w : World) (ao : Option Addr) (cap : Nat) (L : List Rt) (d x : Int) (h : SlR w ao cap L) (s : List Rt × Int) (hs : raddS L (d, x) = s) (hl : L.length ≤ 1000000) :
    Calls Try.prog 20 #[.slice ao L.length cap, .agg #[.int .i64 d, .int .i64 x]] w fun e w' => (∃ a c, e = .returned (.tuple #[.slice a s.1.length c, .int .i64 s.2]) ∧ SlR w' a c s.1) ∧ Below w.heap.size w w' := by
  obtain ⟨M, hM⟩ : ∃ M, L ++ [(d, x)] = M := ⟨_, rfl⟩
  have HB0 := Lib.hid (below_new1 w (.cells #[.int .i64 d, .int .i64 x] 46))
  have HG := Lib.hid (Blk.new w 46 [.int .i64 d, .int .i64 x])
  have HL0 := Lib.hid (h.alloc (.cells #[.int .i64 d, .int .i64 x] 46))
  have HL := Lib.hid HL0.out.cut
  have HRm := Lib.hid h.room
  have HN := Lib.hid (show L.length ≤ 1000000000 by omega)
  have HMl := Lib.hid (show L.length + 1 = M.length by rw [← hM, List.length_append]; rfl)
  have HM := Lib.hid hM
  obtain ⟨t1, ht1⟩ : ∃ t, tabS L = t := ⟨_, rfl⟩
  obtain ⟨t2, ht2⟩ : ∃ t, tabS M = t := ⟨_, rfl⟩
  have HE : Hid (s = if t1 = true ∧ t2 = true then (M, 0) else ([], 52)) := by show _ = _; rw [← hs, raddS, hM, ht1, ht2]
  have K1 := Lib.hid (fun U (hu : Below (w.heap.size) w U) => table_any U ao cap L (h.keeps hu) t1 ht1 (by omega))
  have K2 := Lib.hid (fun U a c (hu : SlR U a c M) => table_any U a c M hu t2 ht2 (by have := HMl.out; omega))
  clear hs h hM ht1 ht2
  go_enter Try.func20, Try.ntmps20
  go_wp2
  refine region_mono (by kernel_rfl) (by kernel_rfl) [some 7, some 8, some 9, some 10, some 11, some 12, some 13, some 14, some 15, some 6] (by kernel_rfl) w.heap.size w HB0.out (Nat.le_refl _) (fun i v WW => match i with | 0 => v = .slice ao L.length cap | 1 => v = .slice ao L.length cap | 2 => v = .int .i64 L.length | 3 => v = .slice ao L.length cap | 4 => v = .int .i64 L.length | 5 => v = .slice ao L.length L.length | 6 => v = .agg #[.int .i64 d, .int .i64 x] | 7 => ∃ g, v = .slice (some ⟨g, 0, none⟩) 1 1 ∧ Blk WW g 46 [.int .i64 d, .int .i64 x] | 8 => ∃ a c, v = .slice a M.length c ∧ Rk WW 2 a M.length c (rc rtc M) | 9 => ∃ a c, v = .slice a M.length c ∧ Rk WW 2 a M.length c (rc rtc M) | _ => True) ?_ ?_ ?_
  · intro i v WW WX h hbx
    rcases i with _ | _ | _ | _ | _ | _ | _ | _ | _ | _ | i
    · exact h
    · exact h
    · exact h
    · exact h
    · exact h
    · exact h
    · exact h
    · obtain ⟨g, e, hs⟩ := h; exact ⟨g, e, hs.keeps hbx⟩
    · obtain ⟨a, c, e, hs⟩ := h; exact ⟨a, c, e, hs.keeps hbx⟩
    · first | exact SlB.keeps h hbx | (obtain ⟨a, c, e, hs⟩ := h; exact ⟨a, c, e, hs.keeps hbx⟩)
    · trivial
  · intro iI oO V AC WW ho hf hbw K hK
    have hlt : iI < 10 := (Array.getElem?_eq_some_iff.1 ho).1
    rcases iI with _ | _ | _ | _ | _ | _ | _ | _ | _ | _ | iI
    · obtain rfl := Option.some.inj (show some _ = some oO from ho)
      rw [if_pos (by rfl)]
      have q0 : AC.tmps.getD 0 undef = .slice ao L.length cap := hf.rest 0 (by kernel_rfl)
      go_simp
      exact hK _ _ (Below.refl _ _) rfl
    · obtain rfl := Option.some.inj (show some _ = some oO from ho)
      rw [if_pos (by rfl)]
      have q0 : AC.tmps.getD 0 undef = .slice ao L.length cap := hf.rest 0 (by kernel_rfl)
      go_simp
      exact hK _ _ (Below.refl _ _) rfl
    · obtain rfl := Option.some.inj (show some _ = some oO from ho)
      rw [if_pos (by rfl)]
      have q8 : AC.tmps.getD 8 undef = .slice ao L.length cap := ((hf.dep ⟨1, .data⟩ (by simp) rfl).2 8 rfl).trans (hf.dep ⟨1, .data⟩ (by simp) rfl).1
      go_simp
      exact hK _ _ (Below.refl _ _) rfl
    · obtain rfl := Option.some.inj (show some _ = some oO from ho)
      rw [if_pos (by rfl)]
      have q0 : AC.tmps.getD 0 undef = .slice ao L.length cap := hf.rest 0 (by kernel_rfl)
      go_simp
      exact hK _ _ (Below.refl _ _) rfl
    · obtain rfl := Option.some.inj (show some _ = some oO from ho)
      rw [if_pos (by rfl)]
      have q10 : AC.tmps.getD 10 undef = .slice ao L.length cap := ((hf.dep ⟨3, .data⟩ (by simp) rfl).2 10 rfl).trans (hf.dep ⟨3, .data⟩ (by simp) rfl).1
      go_simp
      exact hK _ _ (Below.refl _ _) rfl
    · obtain rfl := Option.some.inj (show some _ = some oO from ho)
      rw [if_pos (by rfl)]
      have q7 : AC.tmps.getD 7 undef = .slice ao L.length cap := ((hf.dep ⟨0, .data⟩ (by simp) rfl).2 7 rfl).trans (hf.dep ⟨0, .data⟩ (by simp) rfl).1
      have q9 : AC.tmps.getD 9 undef = .int .i64 L.length := ((hf.dep ⟨2, .data⟩ (by simp) rfl).2 9 rfl).trans (hf.dep ⟨2, .data⟩ (by simp) rfl).1
      have q11 : AC.tmps.getD 11 undef = .int .i64 L.length := ((hf.dep ⟨4, .data⟩ (by simp) rfl).2 11 rfl).trans (hf.dep ⟨4, .data⟩ (by simp) rfl).1
      exact full_op _ _ _ rfl ao cap L.length HRm.out HN.out q7 q9 q11 (hK _ _ (Below.refl _ _) rfl)
    · obtain rfl := Option.some.inj (show some _ = some oO from ho)
      rw [if_pos (by rfl)]
      have q3 : AC.tmps.getD 3 undef = .pointer (some ⟨w.heap.size, 0, none⟩) := hf.rest 3 (by kernel_rfl)
      have hG := HG.out.keeps hbw
      have g0 := hG.cell 0 _ rfl; have g1 := hG.cell 1 _ rfl
      go_simp
      exact hK _ _ (Below.refl _ _) rfl
    · obtain rfl := Option.some.inj (show some _ = some oO from ho)
      rw [if_pos (by rfl)]
      have q13 : AC.tmps.getD 13 undef = .agg #[.int .i64 d, .int .i64 x] := ((hf.dep ⟨6, .data⟩ (by simp) rfl).2 13 rfl).trans (hf.dep ⟨6, .data⟩ (by simp) rfl).1
      have pp := q13
      rw [Array.getD_eq_getD_getElem?] at pp
      go_simp
      exact hK _ _ (below_new1 _ _) ⟨_, rfl, Blk.new _ _ _⟩
    · obtain rfl := Option.some.inj (show some _ = some oO from ho)
      rw [if_pos (by rfl)]
      have q12 : AC.tmps.getD 12 undef = .slice ao L.length L.length := ((hf.dep ⟨5, .data⟩ (by simp) rfl).2 12 rfl).trans (hf.dep ⟨5, .data⟩ (by simp) rfl).1
      have q14 : AC.tmps.getD 14 undef = V 7 := (hf.dep ⟨7, .data⟩ (by simp) rfl).2 14 rfl
      have t7 := (hf.dep ⟨7, .data⟩ (by simp) rfl).1
      obtain ⟨g, e, hs⟩ := t7
      rw [e] at q14
      have hL := HL.out.keeps hbw
      have h1 : SlR WW (some ⟨g, 0, none⟩) 1 [(d, x)] := ⟨rfl, Nat.le_refl _, by simp, fun _ => ⟨_, _, rfl, fun j u hu => by rw [Nat.zero_add]; exact hs.cell j u (by simpa [rc, rtc] using hu)⟩⟩
      refine wp_append_full _ _ 24 24 rfl 46 _ 16 2 (by decide) Try.underlying24 info_rt rfl ao L.length q12 (rc rtc L) hL _ q14 1 (rc rtc [(d, x)]) (Rk.src Try.underlying24 (by decide) h1 (rc_cell rtc_one [(d, x)])) (by decide) (by have := HN.out; omega) M.length HMl.out ?_
      intro a9 c9 w9 k1 k2 k3
      rw [← rc_app, HM.out] at k1
      exact hK _ _ k2 ⟨a9, c9, rfl, k1⟩
    · obtain rfl := Option.some.inj (show some _ = some oO from ho)
      rw [if_pos (by rfl)]
      have q15 : AC.tmps.getD 15 undef = V 8 := (hf.dep ⟨8, .data⟩ (by simp) rfl).2 15 rfl
      have t8 := (hf.dep ⟨8, .data⟩ (by simp) rfl).1
      obtain ⟨a, c, e, hs⟩ := t8
      rw [e] at q15
      go_simp
      exact hK _ _ (Below.refl _ _) ⟨a, c, rfl, hs⟩
    · omega
  · intro V WW hall hbw hBW
    have vv0 : V 0 = .slice ao L.length cap := hall 0 (by decide)
    have vv1 : V 1 = .slice ao L.length cap := hall 1 (by decide)
    have vv2 : V 2 = .int .i64 L.length := hall 2 (by decide)
    have vv3 : V 3 = .slice ao L.length cap := hall 3 (by decide)
    have vv4 : V 4 = .int .i64 L.length := hall 4 (by decide)
    have vv5 : V 5 = .slice ao L.length L.length := hall 5 (by decide)
    have vv6 : V 6 = .agg #[.int .i64 d, .int .i64 x] := hall 6 (by decide)
    have vv7 : ∃ g, V 7 = .slice (some ⟨g, 0, none⟩) 1 1 ∧ Blk WW g 46 [.int .i64 d, .int .i64 x] := hall 7 (by decide)
    have vv8 : ∃ a c, V 8 = .slice a M.length c ∧ Rk WW 2 a M.length c (rc rtc M) := hall 8 (by decide)
    have vv9 : ∃ a c, V 9 = .slice a M.length c ∧ Rk WW 2 a M.length c (rc rtc M) := hall 9 (by decide)
    clear hall
    simp only [pairsOf, laid, Nat.zero_add, Nat.reduceAdd, vv0, vv1, vv2, vv3, vv4, vv5, vv6, List.setIfInBounds_toArray, List.set_cons_zero, List.set_cons_succ]
    clear vv0 vv1 vv2 vv3 vv4 vv5 vv6
    obtain ⟨a9, c9, e9, hs9⟩ := vv9
    rw [e9]
    have HS9 := Lib.hid hs9
    have HB9 := Lib.hid hBW
    clear hs9 vv7 vv8 e9
    go_wp2_with fail
    refine (K1.out _ HB9.out).mono ?_
    rintro e w2 ⟨rfl, hb2⟩
    have HB2 := Lib.hid (below_on HB9.out HB9.out.size hb2)
    have HS2 := Lib.hid (HS9.out.keeps hb2)
    clear hb2 hbw hBW
    cases t1 with
    | false =>
      go_wp2
      exact bodyPost_ret (v := .tuple #[.slice none 0 0, .int .i64 52]) (by simp [results, Try.results20, go_sem]) rfl ⟨⟨none, 0, by rw [HE.out]; rfl, by rw [HE.out]; exact Rk.of_nil _ 2⟩, HB2.out⟩
    | true =>
      go_wp2_with fail
      refine (K2.out _ _ _ HS2.out).mono ?_
      rintro e w3 ⟨rfl, hb3⟩
      have HB3 := Lib.hid (below_on HB2.out HB2.out.size hb3)
      have HS3 := Lib.hid (HS2.out.keeps hb3)
      clear hb3
      cases t2 with
      | false =>
        go_wp2
        exact bodyPost_ret (v := .tuple #[.slice none 0 0, .int .i64 52]) (by simp [results, Try.results20, go_sem]) rfl ⟨⟨none, 0, by rw [HE.out]; rfl, by rw [HE.out]; exact Rk.of_nil _ 2⟩, HB3.out⟩
      | true =>
        go_wp2
        exact bodyPost_ret (v := .tuple #[.slice a9 M.length c9, .int .i64 0]) (by simp [results, Try.results20, go_sem]) rfl ⟨⟨a9, c9, by rw [HE.out]; rfl, by rw [HE.out]; exact HS3.out⟩, HB3.out⟩
end Go.Proofs.Ytaineoceiciloaa
