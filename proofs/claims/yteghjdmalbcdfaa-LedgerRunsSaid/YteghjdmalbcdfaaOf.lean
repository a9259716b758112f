/-
  The walks of the reference's Of and Neg: they are those of whole numbers.
-/
import Derived.Test.YteghjdmalbcdfaaEq
set_option linter.unusedVariables false
set_option linter.unusedSimpArgs false
namespace Go.Proofs.Yteghjdmalbcdfaa
open Go.RowKit Dg

/-- A whole number as the reference has it. -/
def N (z : Int) : Array Value := ns (decide (z < 0)) (dg 10 (absI z))

set_option maxHeartbeats 400000 in
theorem of_neg (a : Int) (hn : a < 0) (hr : -9223372036854775808 ≤ a) (w : World) :
    Calls Try.prog 30 #[.int .i64 a] w fun e w' => e = .returned (.agg (N a)) ∧ Below w.heap.size w w' := by
  have hd : decide (a < 0) = true := decide_eq_true hn
  have HN : Hid (N a = ns true (dg 10 (-a))) := by show N a = _; unfold N; rw [hd, absI_neg hn]
  obtain ⟨n, rfl⟩ : ∃ n, a = -n := ⟨-a, by omega⟩
  rw [show - -n = n from by omega] at HN
  have h1 : n ≤ 9223372036854775808 := by omega
  have h2 : 0 < n := by omega
  have HS := Lib.hid (OfSt.start (n := n) (by omega))
  clear hr hn
  go_enter Try.func30, Try.ntmps30
  go_wp2
  go_loopw [0, 4] (fun x i wr => ∃ (k : Nat) (y : Int) (M : List Int), k ≤ 4 ∧ i = .int .i64 k ∧ x = .int .i64 (-y) ∧ Hid (OfSt n k y M) ∧ Blk wr (w.heap.size + 1) 69 (nu true M) ∧ Below w.heap.size w wr ∧ Blk wr w.heap.size 69 (nu false z10)) (fun _ i _ => 4 - (intOf i).toNat)
  case atStart => exact ⟨0, n, z10, by omega, rfl, rfl, HS, Blk.new2 _ _ _ _, below_new2 _ _ _, (Blk.new _ _ _).alloc _⟩
  case round =>
    obtain ⟨k, y, M, hk, rfl, rfl, HM, hA, hB, hR⟩ := hrel
    have hlen := HM.out.len
    by_cases hlt : k < 4
    · have hy0 := HM.out.left
      have hy1 := HM.out.le
      have hy2 : y ≤ 9223372036854775808 := by omega
      have HT := Lib.hid (HM.out.step (by omega))
      have c1 := hA.cell (1 + k) _ (nu_at' true M k (by omega))
      have f1 := hA.frozen (1 + k)
      have e1 := tmod_neg y
      rw [tmod_pos y hy0] at e1
      have e2 := tdiv_neg y
      rw [tdiv_pos y hy0] at e2
      clear hd
      by_cases hz : 0 < y % 65536
      · have hd2 : decide (-(y % 65536) < 0) = true := decide_eq_true (by omega)
        go_wp2
        exact ⟨⟨k + 1, _, _, by omega, by go_num, rfl, HT, hA.nu_set' k _, hB.setCell (by simp) _, hR.other _ _ (by simp)⟩, by simp only [intOf]; omega⟩
      · have hz0 : y % 65536 = 0 := by omega
        rw [hz0] at HT e1
        have e3 : (-y).tmod 65536 = 0 := e1
        clear hz0 e1
        go_wp2
        exact ⟨⟨k + 1, _, _, by omega, by go_num, rfl, HT, hA.nu_set' k _, hB.setCell (by simp) _, hR.other _ _ (by simp)⟩, by simp only [intOf]; omega⟩
    · obtain rfl : k = 4 := by omega
      have hM : M = dg 10 n := HM.out.done (by omega)
      subst hM
      have HT := Lib.hid (hR.thereMid 0 11 (by decide))
      have HE := Lib.hid (hR.setAll (nu true (dg 10 n)) (by rw [nu_len, hlen]; rfl))
      have HL := Lib.hid hlen
      clear HM HS hlen hd
      go_wp2_with (first | (refine ld_num rfl _ rfl (w.heap.size + 1) 0 rfl _ _ HL.out hA.range ?_) | (refine st_num rfl _ _ rfl w.heap.size 0 rfl _ _ rfl HL.out HT.out ?_))
      exact bodyPost_ret (res_num rfl _ _ w.heap.size _ _ HL.out rfl HE.out) rfl ⟨by rw [HN.out], below_setCells _ _ hB (Nat.le_refl _)⟩

set_option maxHeartbeats 400000 in
theorem of_pos (a : Int) (hn : 0 ≤ a) (hr : a ≤ 9223372036854775807) (w : World) :
    Calls Try.prog 30 #[.int .i64 a] w fun e w' => e = .returned (.agg (N a)) ∧ Below w.heap.size w w' := by
  have hd : decide (a < 0) = false := decide_eq_false (by omega)
  have HN : Hid (N a = ns false (dg 10 a)) := by show N a = _; unfold N; rw [hd, absI_pos hn]
  obtain ⟨n, rfl⟩ : ∃ n, n = a := ⟨a, rfl⟩
  have h1 : n ≤ 9223372036854775807 := hr
  have h2 : 0 ≤ n := hn
  have HS := Lib.hid (OfSt.start (n := n) hn)
  clear hr hn
  go_enter Try.func30, Try.ntmps30
  go_wp2
  go_loopw [0, 4] (fun x i wr => ∃ (k : Nat) (y : Int) (M : List Int), k ≤ 4 ∧ i = .int .i64 k ∧ x = .int .i64 (y) ∧ Hid (OfSt n k y M) ∧ Blk wr (w.heap.size + 1) 69 (nu false M) ∧ Below w.heap.size w wr ∧ Blk wr w.heap.size 69 (nu false z10)) (fun _ i _ => 4 - (intOf i).toNat)
  case atStart => exact ⟨0, n, z10, by omega, rfl, rfl, HS, Blk.new2 _ _ _ _, below_new2 _ _ _, (Blk.new _ _ _).alloc _⟩
  case round =>
    obtain ⟨k, y, M, hk, rfl, rfl, HM, hA, hB, hR⟩ := hrel
    have hlen := HM.out.len
    by_cases hlt : k < 4
    · have hy0 := HM.out.left
      have hy1 := HM.out.le
      have hy2 : y ≤ 9223372036854775808 := by omega
      have HT := Lib.hid (HM.out.step (by omega))
      have c1 := hA.cell (1 + k) _ (nu_at' false M k (by omega))
      have f1 := hA.frozen (1 + k)
      clear hd
      go_wp2
      exact ⟨⟨k + 1, _, _, by omega, by go_num, rfl, HT, hA.nu_set' k _, hB.setCell (by simp) _, hR.other _ _ (by simp)⟩, by simp only [intOf]; omega⟩
    · obtain rfl : k = 4 := by omega
      have hM : M = dg 10 n := HM.out.done (by omega)
      subst hM
      have HT := Lib.hid (hR.thereMid 0 11 (by decide))
      have HE := Lib.hid (hR.setAll (nu false (dg 10 n)) (by rw [nu_len, hlen]; rfl))
      have HL := Lib.hid hlen
      clear HM HS hlen hd
      go_wp2_with (first | (refine ld_num rfl _ rfl (w.heap.size + 1) 0 rfl _ _ HL.out hA.range ?_) | (refine st_num rfl _ _ rfl w.heap.size 0 rfl _ _ rfl HL.out HT.out ?_))
      exact bodyPost_ret (res_num rfl _ _ w.heap.size _ _ HL.out rfl HE.out) rfl ⟨by rw [HN.out], below_setCells _ _ hB (Nat.le_refl _)⟩

/-- Numbers of 64 bits. -/
theorem of_any (a : Int) (hr : -9223372036854775808 ≤ a) (hr2 : a ≤ 9223372036854775807) (w : World) :
    Calls Try.prog 30 #[.int .i64 a] w fun e w' => e = .returned (.agg (N a)) ∧ Below w.heap.size w w' := by
  by_cases h : a < 0
  · exact of_neg a h hr w
  · exact of_pos a (by omega) hr2 w

/-! ### Neg -/
theorem N_neg {z : Int} (h : z < 0) : N z = ns true (dg 10 (-z)) := by unfold N; rw [decide_eq_true h, absI_neg h]
theorem N_pos {z : Int} (h : 0 ≤ z) : N z = ns false (dg 10 z) := by unfold N; rw [decide_eq_false (by omega), absI_pos h]
set_option maxHeartbeats 400000 in
theorem neg_lit (m : Bool) (x0 x1 x2 x3 x4 x5 x6 x7 x8 x9 : Int) (w : World) :
    Calls Try.prog 39 #[.agg #[.bool m, .int .u64 x0, .int .u64 x1, .int .u64 x2, .int .u64 x3, .int .u64 x4, .int .u64 x5, .int .u64 x6, .int .u64 x7, .int .u64 x8, .int .u64 x9]] w fun e w' => e = .returned (.agg (ns (!m && !decide ([x0, x1, x2, x3, x4, x5, x6, x7, x8, x9] = z10)) [x0, x1, x2, x3, x4, x5, x6, x7, x8, x9])) ∧ Below w.heap.size w w' := by
  have HQ := fun w => eq_lit x0 x1 x2 x3 x4 x5 x6 x7 x8 x9 w
  generalize decide ([x0, x1, x2, x3, x4, x5, x6, x7, x8, x9] = z10) = q at *
  cases m <;> cases q
  all_goals
    go_enter Try.func39, Try.ntmps39
    go_wp2
    first
    | exact bodyPost_ret (v := .agg (ns false [x0, x1, x2, x3, x4, x5, x6, x7, x8, x9])) (by simp [results, Try.results39, go_sem, ns, nu, du]) rfl ⟨rfl, by first | exact below_new2 _ _ _ | trace_state⟩
    | exact bodyPost_ret (v := .agg (ns true [x0, x1, x2, x3, x4, x5, x6, x7, x8, x9])) (by simp [results, Try.results39, go_sem, ns, nu, du]) rfl ⟨rfl, by first | exact below_new2 _ _ _ | trace_state⟩
/-- The number with the other sign. -/
theorem neg_any (z : Int) (hz : absI z < TOP) (w : World) :
    Calls Try.prog 39 #[.agg (N z)] w fun e w' => e = .returned (.agg (N (-z))) ∧ Below w.heap.size w w' := by
  obtain ⟨x0, x1, x2, x3, x4, x5, x6, x7, x8, x9, hL⟩ := ten (dg 10 (absI z)) (len10 _)
  have hq := dg_zero_iff (absI z) (absI_nonneg z) hz
  have h := neg_lit (decide (z < 0)) x0 x1 x2 x3 x4 x5 x6 x7 x8 x9 w
  rw [← hL] at h
  have e1 : N z = ns (decide (z < 0)) (dg 10 (absI z)) := rfl
  have e2 : N (-z) = ns (!decide (z < 0) && !decide (dg 10 (absI z) = z10)) (dg 10 (absI z)) := by
    rw [show decide (dg 10 (absI z) = z10) = decide (absI z = 0) from decide_eq_decide.2 hq]
    rcases Int.lt_trichotomy z 0 with h | h | h
    · rw [N_pos (by omega), absI_neg h, decide_eq_true h]; rfl
    · subst h; rfl
    · rw [N_neg (by omega), absI_pos (by omega), decide_eq_false (show ¬ z < 0 by omega), decide_eq_false (show ¬ z = 0 by omega), show - -z = z from by omega]; rfl
  rw [e1, e2, hL]
  rw [hL] at h
  exact h
end Go.Proofs.Yteghjdmalbcdfaa
