/-
  Covenants: the reference's Right.
-/
import Derived.Test.YtleeifknicilhaaCovLawA
set_option linter.unusedVariables false
set_option linter.unusedSimpArgs false
namespace Go.Proofs.Ytleeifknicilhaa
open Go.RowKit Dg

theorem ix5_0 (o c v i s : Int) (W : World) : (Instr.index 44 (.agg #[.int .i64 o, .int .i64 c, .int .i64 v, .int .i64 i, .int .i64 s]) (.int .i64 0)).run Try.prog W = .ok (.int .i64 o) W := by kernel_rfl
theorem ix5_1 (o c v i s : Int) (W : World) : (Instr.index 44 (.agg #[.int .i64 o, .int .i64 c, .int .i64 v, .int .i64 i, .int .i64 s]) (.int .i64 1)).run Try.prog W = .ok (.int .i64 c) W := by kernel_rfl
theorem ix5_2 (o c v i s : Int) (W : World) : (Instr.index 44 (.agg #[.int .i64 o, .int .i64 c, .int .i64 v, .int .i64 i, .int .i64 s]) (.int .i64 2)).run Try.prog W = .ok (.int .i64 v) W := by kernel_rfl
theorem ix5_3 (o c v i s : Int) (W : World) : (Instr.index 44 (.agg #[.int .i64 o, .int .i64 c, .int .i64 v, .int .i64 i, .int .i64 s]) (.int .i64 3)).run Try.prog W = .ok (.int .i64 i) W := by kernel_rfl
theorem ix5_4 (o c v i s : Int) (W : World) : (Instr.index 44 (.agg #[.int .i64 o, .int .i64 c, .int .i64 v, .int .i64 i, .int .i64 s]) (.int .i64 4)).run Try.prog W = .ok (.int .i64 s) W := by kernel_rfl
set_option maxRecDepth 8000 in
set_option maxHeartbeats 1600000 in
theorem rright_any (o c v i s l t d : Int) (r : Bool) (hr : rightF o c v i s l t d = r) (w : World) :
    Calls Try.prog 14 #[.agg #[.int .i64 o, .int .i64 c, .int .i64 v, .int .i64 i, .int .i64 s], .agg #[.int .i64 l, .int .i64 t, .int .i64 d]] w fun e w' => e = .returned (.bool r) ∧ Below w.heap.size w w' := by
  have HR := Lib.hid hr
  clear hr
  have i0 := ix5_0 o c v i s
  have i1 := ix5_1 o c v i s
  have i2 := ix5_2 o c v i s
  have i3 := ix5_3 o c v i s
  have i4 := ix5_4 o c v i s
  have HB := Lib.hid (below_new2 w (.cells #[.int .i64 o, .int .i64 c, .int .i64 v, .int .i64 i, .int .i64 s] 26) (.cells #[.int .i64 l, .int .i64 t, .int .i64 d] 28))
  have HA := Lib.hid ((Blk.new w 26 [.int .i64 o, .int .i64 c, .int .i64 v, .int .i64 i, .int .i64 s]).alloc (.cells #[.int .i64 l, .int .i64 t, .int .i64 d] 28))
  have HC := Lib.hid (Blk.new2 w (.cells #[.int .i64 o, .int .i64 c, .int .i64 v, .int .i64 i, .int .i64 s] 26) 28 [.int .i64 l, .int .i64 t, .int .i64 d])
  go_enter Try.func14, Try.ntmps14
  have hA := HA.out; have hC := HC.out
  have a0 := hA.cell 0 _ rfl; have a1 := hA.cell 1 _ rfl; have a2 := hA.cell 2 _ rfl; have a3 := hA.cell 3 _ rfl; have a4 := hA.cell 4 _ rfl; have c0 := hC.cell 0 _ rfl; have c1 := hC.cell 1 _ rfl; have c2 := hC.cell 2 _ rfl
  go_wp2
  go_loop [18] (fun j => (j = .int .i64 0) ∨ (j = .int .i64 1 ∧ 0 ≤ o ∧ o ≤ 20000000000000) ∨ (j = .int .i64 2 ∧ 0 ≤ o ∧ o ≤ 20000000000000 ∧ 0 ≤ c ∧ c ≤ 20000000000000) ∨ (j = .int .i64 3 ∧ 0 ≤ o ∧ o ≤ 20000000000000 ∧ 0 ≤ c ∧ c ≤ 20000000000000 ∧ 0 ≤ v ∧ v ≤ 20000000000000) ∨ (j = .int .i64 4 ∧ 0 ≤ o ∧ o ≤ 20000000000000 ∧ 0 ≤ c ∧ c ≤ 20000000000000 ∧ 0 ≤ v ∧ v ≤ 20000000000000 ∧ 0 ≤ i ∧ i ≤ 20000000000000) ∨ (j = .int .i64 5 ∧ 0 ≤ o ∧ o ≤ 20000000000000 ∧ 0 ≤ c ∧ c ≤ 20000000000000 ∧ 0 ≤ v ∧ v ≤ 20000000000000 ∧ 0 ≤ i ∧ i ≤ 20000000000000 ∧ 0 ≤ s ∧ s ≤ 20000000000000)) (fun j => 5 - (intOf j).toNat)
  case atStart => exact .inl rfl
  case round =>
    rcases hrel with rfl | ⟨rfl, h0, g0⟩ | ⟨rfl, h0, g0, h1, g1⟩ | ⟨rfl, h0, g0, h1, g1, h2, g2⟩ | ⟨rfl, h0, g0, h1, g1, h2, g2, h3, g3⟩ | ⟨rfl, h0, g0, h1, g1, h2, g2, h3, g3, h4, g4⟩
    · have hc : o < 0 ∨ (0 ≤ o ∧ 20000000000000 < o) ∨ (0 ≤ o ∧ o ≤ 20000000000000) := by omega
      rcases hc with hc | ⟨hc, hd⟩ | ⟨hc, hd⟩
      · have HN : Hid (r = false) := by
          show _ = _
          rw [← HR.out]; exact Bool.eq_false_iff.2 (fun h => by have := (rightF_iff o c v i s l t d).1 h; omega)
        go_wp2
        go_ret
        exact ⟨by rw [HN.out]; rfl, HB.out⟩
      · have HN : Hid (r = false) := by
          show _ = _
          rw [← HR.out]; exact Bool.eq_false_iff.2 (fun h => by have := (rightF_iff o c v i s l t d).1 h; omega)
        go_wp2
        go_ret
        exact ⟨by rw [HN.out]; rfl, HB.out⟩
      · go_wp2
        exact ⟨.inr (.inl ⟨rfl, hc, hd⟩), by simp [intOf]⟩
    · have hc : c < 0 ∨ (0 ≤ c ∧ 20000000000000 < c) ∨ (0 ≤ c ∧ c ≤ 20000000000000) := by omega
      rcases hc with hc | ⟨hc, hd⟩ | ⟨hc, hd⟩
      · have HN : Hid (r = false) := by
          show _ = _
          rw [← HR.out]; exact Bool.eq_false_iff.2 (fun h => by have := (rightF_iff o c v i s l t d).1 h; omega)
        go_wp2
        go_ret
        exact ⟨by rw [HN.out]; rfl, HB.out⟩
      · have HN : Hid (r = false) := by
          show _ = _
          rw [← HR.out]; exact Bool.eq_false_iff.2 (fun h => by have := (rightF_iff o c v i s l t d).1 h; omega)
        go_wp2
        go_ret
        exact ⟨by rw [HN.out]; rfl, HB.out⟩
      · go_wp2
        exact ⟨.inr (.inr (.inl ⟨rfl, h0, g0, hc, hd⟩)), by simp [intOf]⟩
    · have hc : v < 0 ∨ (0 ≤ v ∧ 20000000000000 < v) ∨ (0 ≤ v ∧ v ≤ 20000000000000) := by omega
      rcases hc with hc | ⟨hc, hd⟩ | ⟨hc, hd⟩
      · have HN : Hid (r = false) := by
          show _ = _
          rw [← HR.out]; exact Bool.eq_false_iff.2 (fun h => by have := (rightF_iff o c v i s l t d).1 h; omega)
        go_wp2
        go_ret
        exact ⟨by rw [HN.out]; rfl, HB.out⟩
      · have HN : Hid (r = false) := by
          show _ = _
          rw [← HR.out]; exact Bool.eq_false_iff.2 (fun h => by have := (rightF_iff o c v i s l t d).1 h; omega)
        go_wp2
        go_ret
        exact ⟨by rw [HN.out]; rfl, HB.out⟩
      · go_wp2
        exact ⟨.inr (.inr (.inr (.inl ⟨rfl, h0, g0, h1, g1, hc, hd⟩))), by simp [intOf]⟩
    · have hc : i < 0 ∨ (0 ≤ i ∧ 20000000000000 < i) ∨ (0 ≤ i ∧ i ≤ 20000000000000) := by omega
      rcases hc with hc | ⟨hc, hd⟩ | ⟨hc, hd⟩
      · have HN : Hid (r = false) := by
          show _ = _
          rw [← HR.out]; exact Bool.eq_false_iff.2 (fun h => by have := (rightF_iff o c v i s l t d).1 h; omega)
        go_wp2
        go_ret
        exact ⟨by rw [HN.out]; rfl, HB.out⟩
      · have HN : Hid (r = false) := by
          show _ = _
          rw [← HR.out]; exact Bool.eq_false_iff.2 (fun h => by have := (rightF_iff o c v i s l t d).1 h; omega)
        go_wp2
        go_ret
        exact ⟨by rw [HN.out]; rfl, HB.out⟩
      · go_wp2
        exact ⟨.inr (.inr (.inr (.inr (.inl ⟨rfl, h0, g0, h1, g1, h2, g2, hc, hd⟩)))), by simp [intOf]⟩
    · have hc : s < 0 ∨ (0 ≤ s ∧ 20000000000000 < s) ∨ (0 ≤ s ∧ s ≤ 20000000000000) := by omega
      rcases hc with hc | ⟨hc, hd⟩ | ⟨hc, hd⟩
      · have HN : Hid (r = false) := by
          show _ = _
          rw [← HR.out]; exact Bool.eq_false_iff.2 (fun h => by have := (rightF_iff o c v i s l t d).1 h; omega)
        go_wp2
        go_ret
        exact ⟨by rw [HN.out]; rfl, HB.out⟩
      · have HN : Hid (r = false) := by
          show _ = _
          rw [← HR.out]; exact Bool.eq_false_iff.2 (fun h => by have := (rightF_iff o c v i s l t d).1 h; omega)
        go_wp2
        go_ret
        exact ⟨by rw [HN.out]; rfl, HB.out⟩
      · go_wp2
        exact ⟨.inr (.inr (.inr (.inr (.inr (⟨rfl, h0, g0, h1, g1, h2, g2, h3, g3, hc, hd⟩))))), by simp [intOf]⟩
    · have HN : Hid (∀ b, (b = true ↔ (0 ≤ l ∧ l ≤ 10000) ∧ (0 ≤ t ∧ t ≤ 10000) ∧ (0 ≤ d ∧ d ≤ 100000)) → b = r) := by
        show ∀ b, _ → _
        intro b hb
        rw [← HR.out, Bool.eq_iff_iff, hb, rightF_iff]
        omega
      go_wp2
      all_goals
        go_ret
        exact ⟨ret_bool (HN.out _ (by simp; try omega)), HB.out⟩
end Go.Proofs.Ytleeifknicilhaa
