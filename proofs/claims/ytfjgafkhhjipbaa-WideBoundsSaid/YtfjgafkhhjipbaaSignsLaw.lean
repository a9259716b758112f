/-
  The walks of the laws WideNames, WideSigns, WideBounds.
-/
import Derived.Test.YtfjgafkhhjipbaaWideA
import Derived.Test.YtfjgafkhhjipbaaSum
import Derived.Test.YtfjgafkhhjipbaaCross
set_option linter.unusedVariables false
set_option linter.unusedSimpArgs false
namespace Go.Proofs.Ytfjgafkhhjipbaa
open Go.RowKit Dg Go.Shelf

theorem sl_new (w : World) (L : List Int) : Sl (w.alloc (.cells (ic L).toArray 2)) (some ⟨w.heap.size, 0, none⟩) L.length L.length (ic L) :=
  ⟨ic_len L, Nat.le_refl _, by simp, fun _ => ⟨_, _, rfl, fun j u hu => by
    rw [Nat.zero_add]
    exact (Blk.new w 2 (ic L)).cell j u hu⟩⟩
set_option maxRecDepth 8000 in
set_option maxHeartbeats 800000 in
theorem wnames_law (w : World) : Calls Try.prog 9 #[] w fun e w' => e = .returned (.bool true) ∧ Below w.heap.size w w' := by
  have HV := Lib.hid (fun W => walive_any W)
  have H1 := fun W => add_any 9223372036854775807 1 (by decide) (by decide) (by decide) (by decide) W
  have H2 := fun W => wfloor_S 1 1 0 (by decide) (by decide) (by decide) W
  have H3 := fun W => sum_any (W.alloc (.cells #[.int .i64 9223372036854775807, .int .i64 9223372036854775807, .int .i64 (-9223372036854775807)] 2)) _ _ [9223372036854775807, 9223372036854775807, -9223372036854775807] (sl_new W [9223372036854775807, 9223372036854775807, -9223372036854775807]) (by decide) (by decide)
  have H4 := fun W => mul_any (-9223372036854775808) (-1) (by decide) (by decide) (by decide) (by decide) W
  rw [show cutI (9223372036854775807 + 1) = (0, 11) from by decide] at H1
  rw [show floorS 1 1 0 = (0, 12) from by decide] at H2
  rw [show cutI (sumI [9223372036854775807, 9223372036854775807, -9223372036854775807]) = (9223372036854775807, 0) from by decide] at H3
  rw [show cutI (-9223372036854775808 * -1) = (0, 11) from by decide] at H4
  have K1 := Lib.hid H1; have K2 := Lib.hid H2; have K3 := Lib.hid H3; have K4 := Lib.hid H4
  clear H1 H2 H3 H4
  go_enter Try.func9, Try.ntmps9
  go_wp2_with fail
  refine (K1.out _).mono ?_
  rintro e w1 ⟨rfl, rfl⟩
  go_wp2_with fail
  refine (K2.out _).mono ?_
  rintro e w2 ⟨rfl, k2⟩
  have B2 := Lib.hid k2
  clear k2
  go_wp2_with fail
  refine (K3.out _).mono ?_
  rintro e w3 ⟨rfl, rfl⟩
  have B3 := Lib.hid (B2.out.alloc B2.out.size (.cells #[.int .i64 9223372036854775807, .int .i64 9223372036854775807, .int .i64 (-9223372036854775807)] 2))
  go_wp2_with fail
  refine (K4.out _).mono ?_
  rintro e w4 ⟨rfl, k4⟩
  have B4 := Lib.hid (below_on B3.out B3.out.size k4)
  clear k4
  go_wp2_with fail
  refine (HV.out _).mono ?_
  rintro e w5 ⟨rfl, k5⟩
  have B5 := Lib.hid (below_on B4.out B4.out.size k5)
  clear k5
  go_wp2
  go_ret
  exact ⟨rfl, B5.out⟩
theorem evQ_zero {c : Nat} (hc : 0 < c) : evQ 0 c = 0 := by
  unfold evQ
  rw [Nat.zero_mod, Nat.zero_div, if_neg (by omega)]
theorem evI_neg {z : Int} {c : Nat} (hc : 0 < c) : evI (-z) c = -evI z c := by
  unfold evI
  rw [Int.natAbs_neg]
  by_cases h : z = 0
  · subst h; simp [evQ_zero hc]
  · by_cases h1 : z < 0
    · rw [if_neg (by omega), if_pos h1]; omega
    · rw [if_pos (by omega), if_neg h1]
theorem cutI_cases (z : Int) : (cutI z = (z, 0) ∧ -9223372036854775808 ≤ z ∧ z ≤ 9223372036854775807) ∨ cutI z = (0, 11) := by
  unfold cutI
  split
  · rename_i h; exact .inl ⟨rfl, h⟩
  · exact .inr rfl
theorem ev_floor (z : Int) {c : Nat} (hc : 0 < c) : evI z c = z / c ∨ evI z c = z / c + 1 := by
  have hf := floor_neg z.natAbs c hc
  unfold evI evQ
  by_cases h : z < 0
  · have hz : z = -(z.natAbs : Int) := by omega
    have hr := Nat.mod_lt z.natAbs hc
    rw [if_pos h]
    rw [show z / (c : Int) = -(z.natAbs : Int) / (c : Int) from by rw [← hz], hf]
    generalize z.natAbs / c = q at *
    generalize z.natAbs % c = r at *
    split <;> split <;> omega
  · have hz : z = (z.natAbs : Int) := by omega
    rw [if_neg h]
    rw [show z / (c : Int) = ((z.natAbs / c : Nat) : Int) from by rw [Int.natCast_ediv, ← hz]]
    generalize z.natAbs / c = q at *
    generalize z.natAbs % c = r at *
    split <;> omega
set_option maxRecDepth 8000 in
set_option maxHeartbeats 1600000 in
theorem signs_law (a : Int) (wa : (Lit.int .i64 a).wf = true) (b : Int) (wb : (Lit.int .i64 b).wf = true) (c : Int) (wc : (Lit.int .i64 c).wf = true) (w : World) :
    Calls Try.prog 8 #[.int .i64 a, .int .i64 b, .int .i64 c] w fun e w' => e = .returned (.bool true) ∧ Below w.heap.size w w' := by
  obtain ⟨a0, a1⟩ := i64_wf wa
  obtain ⟨b0, b1⟩ := i64_wf wb
  obtain ⟨c0, c1⟩ := i64_wf wc
  have HV := Lib.hid (fun W => walive_any W)
  by_cases hmin : a = -9223372036854775808 ∨ b = -9223372036854775808
  · have h2 : (a == -9223372036854775808) = true ∨ ((a == -9223372036854775808) = false ∧ (b == -9223372036854775808) = true) := by
      by_cases h : a = -9223372036854775808
      · exact .inl (by simpa using h)
      · exact .inr ⟨by simpa using h, by simpa using hmin.resolve_left h⟩
    clear hmin wa wb wc
    rcases h2 with h2 | ⟨h2, h3⟩
    all_goals
      go_enter Try.func8, Try.ntmps8
      go_wp2_with fail
      refine (HV.out _).mono ?_
      rintro e w1 ⟨rfl, k1⟩
      go_wp2
      go_ret
      exact ⟨rfl, k1⟩
  · have ha : (a == -9223372036854775808) = false := by simp; omega
    have hb : (b == -9223372036854775808) = false := by simp; omega
    have a0' : -9223372036854775807 ≤ a := by omega
    have b0' : -9223372036854775807 ≤ b := by omega
    have H1 := Lib.hid (fun W => wfloor_S a b c ⟨a0, a1⟩ ⟨b0, b1⟩ c1 W)
    have H2 := fun W => wfloor_S (-a) (-b) c (by omega) (by omega) c1 W
    have hfl : floorS (-a) (-b) c = floorS a b c := by unfold floorS; rw [Int.neg_mul_neg]
    rw [hfl] at H2
    have H2 := Lib.hid H2
    have H3 := Lib.hid (fun W => weven_S a b c ⟨a0, a1⟩ ⟨b0, b1⟩ c1 W)
    have H4 := Lib.hid (fun W => weven_S (-a) b c (by omega) ⟨b0, b1⟩ c1 W)
    have HC := fun W => cross_any a b (-a) (-b) a0 a1 b0 b1 (by omega) (by omega) (by omega) (by omega) W
    rw [Int.neg_mul_neg, cmpI_eq rfl] at HC
    have HC := Lib.hid HC
    have h4 : (¬ (evenS a b c).2 = 0) ∨ ((evenS a b c).2 = 0 ∧ ¬ (evenS (-a) b c).2 = 0) ∨ (∃ P, evenS a b c = (P, 0) ∧ evenS (-a) b c = (-P, 0) ∧ -9223372036854775807 ≤ P ∧ P ≤ 9223372036854775807) := by
      unfold evenS
      by_cases hc : c ≤ 0
      · rw [if_pos hc]; exact .inl (by decide)
      · rw [if_neg hc, if_neg hc, Int.neg_mul, evI_neg (by omega)]
        rcases cutI_cases (evI (a * b) c.toNat) with ⟨h, h5, h6⟩ | h
        · rcases cutI_cases (-evI (a * b) c.toNat) with ⟨k, k5, k6⟩ | k
          · exact .inr (.inr ⟨_, h, k, by omega, h6⟩)
          · exact .inr (.inl ⟨by rw [h], by rw [k]; decide⟩)
        · exact .inl (by rw [h]; decide)
    obtain ⟨x, ex⟩ : ∃ X, floorS a b c = X := ⟨_, rfl⟩
    obtain ⟨p, ep⟩ : ∃ X, evenS a b c = X := ⟨_, rfl⟩
    obtain ⟨q, eq⟩ : ∃ X, evenS (-a) b c = X := ⟨_, rfl⟩
    rw [ex] at H1 H2; rw [ep] at H3 h4; rw [eq] at H4 h4
    clear hmin wa wb wc hfl ex ep eq
    rcases h4 with h5 | ⟨h5, h6⟩ | ⟨P, rfl, rfl, p0, p1⟩
    all_goals
      go_enter Try.func8, Try.ntmps8
      go_wp2_with fail
      refine (HV.out _).mono ?_
      rintro e w1 ⟨rfl, k1⟩
      go_wp2_with fail
      refine (H1.out _).mono ?_
      rintro e w2 ⟨rfl, k2⟩
      have B2 := Lib.hid (below_on k1 k1.size k2)
      clear k1 k2
      go_wp2_with fail
      refine (H2.out _).mono ?_
      rintro e w3 ⟨rfl, k3⟩
      have B3 := Lib.hid (below_on B2.out B2.out.size k3)
      clear k3
      go_wp2_with fail
      refine (H3.out _).mono ?_
      rintro e w4 ⟨rfl, k4⟩
      have B4 := Lib.hid (below_on B3.out B3.out.size k4)
      clear k4
      go_wp2_with fail
      refine (H4.out _).mono ?_
      rintro e w5 ⟨rfl, k5⟩
      have B5 := Lib.hid (below_on B4.out B4.out.size k5)
      clear k5
      go_wp2_with fail
      refine (HC.out _).mono ?_
      rintro e w6 ⟨rfl, k6⟩
      have B6 := Lib.hid (below_on B5.out B5.out.size k6)
      clear k6
      go_wp2
      go_ret
      exact ⟨rfl, B6.out⟩
set_option maxRecDepth 8000 in
set_option maxHeartbeats 1600000 in
theorem bounds_law (a : Int) (wa : (Lit.int .i64 a).wf = true) (b : Int) (wb : (Lit.int .i64 b).wf = true) (c : Int) (wc : (Lit.int .i64 c).wf = true) (w : World) :
    Calls Try.prog 7 #[.int .i64 a, .int .i64 b, .int .i64 c] w fun e w' => e = .returned (.bool true) ∧ Below w.heap.size w w' := by
  obtain ⟨a0, a1⟩ := i64_wf wa
  obtain ⟨b0, b1⟩ := i64_wf wb
  obtain ⟨c0, c1⟩ := i64_wf wc
  have HV := Lib.hid (fun W => walive_any W)
  by_cases hc : c ≤ 0
  · clear wa wb wc
    go_enter Try.func7, Try.ntmps7
    go_wp2_with fail
    refine (HV.out _).mono ?_
    rintro e w1 ⟨rfl, k1⟩
    go_wp2
    go_ret
    exact ⟨rfl, k1⟩
  · have H1 := fun W => wfloor_S a b c ⟨a0, a1⟩ ⟨b0, b1⟩ c1 W
    have H2 := fun W => weven_S a b c ⟨a0, a1⟩ ⟨b0, b1⟩ c1 W
    unfold floorS at H1; unfold evenS at H2
    simp only [if_neg hc] at H1 H2
    have hev := ev_floor (a * b) (c := c.toNat) (by omega)
    rw [Int.toNat_of_nonneg (by omega)] at hev
    have e1 : (a * b / c) * c ≤ a * b := Int.ediv_mul_le _ (by omega)
    have e2 : a * b < (a * b / c + 1) * c := Int.lt_ediv_add_one_mul_self _ (by omega)
    have HX := fun W (x0 : -9223372036854775808 ≤ a * b / c) (x1 : a * b / c ≤ 9223372036854775807) => cross_any (a * b / c) c a b x0 x1 c0 c1 a0 a1 b0 b1 W
    have HY := fun W (x0 : -9223372036854775808 ≤ a * b / c + 1) (x1 : a * b / c + 1 ≤ 9223372036854775807) => cross_any (a * b / c + 1) c a b x0 x1 c0 c1 a0 a1 b0 b1 W
    have g1 : cmpI (a * b / c * c) (a * b) ≤ 0 := by unfold cmpI; split <;> (try split) <;> omega
    have g1' : -1 ≤ cmpI (a * b / c * c) (a * b) := (cmpI_range _ _).1
    rw [cmpI_gt e2] at HY
    obtain ⟨o, ho⟩ : ∃ o, cmpI (a * b / c * c) (a * b) = o := ⟨_, rfl⟩
    rw [ho] at HX g1 g1'
    obtain ⟨x, hx⟩ : ∃ x, a * b / c = x := ⟨_, rfl⟩
    obtain ⟨y, hy⟩ : ∃ x, evI (a * b) c.toNat = x := ⟨_, rfl⟩
    rw [hx] at H1 HX HY hev
    rw [hy] at H2 hev
    clear hx hy ho e1 e2 wa wb wc
    have K1 := Lib.hid H1; have K2 := Lib.hid H2; have KX := Lib.hid HX; have KY := Lib.hid HY
    clear H1 H2 HX HY
    rcases cutI_cases x with ⟨hx, x0, x1⟩ | hx
    · rcases cutI_cases y with ⟨hy, y0, y1⟩ | hy
      · rw [hx] at K1; rw [hy] at K2
        clear hx hy
        have h5 : (y = x ∧ 9223372036854775807 ≤ x) ∨ (y = x ∧ x < 9223372036854775807) ∨ (y = x + 1 ∧ x < 9223372036854775807) := by omega
        clear hev
        rcases h5 with ⟨rfl, h6⟩ | ⟨rfl, h6⟩ | ⟨rfl, h6⟩
        · go_enter Try.func7, Try.ntmps7
          go_wp2_with fail
          refine (HV.out _).mono ?_
          rintro e w1 ⟨rfl, k1⟩
          go_wp2_with fail
          refine (K1.out _).mono ?_
          rintro e w2 ⟨rfl, k2⟩
          have B2 := Lib.hid (below_on k1 k1.size k2)
          clear k1 k2
          go_wp2_with fail
          refine (K2.out _).mono ?_
          rintro e w3 ⟨rfl, k3⟩
          have B3 := Lib.hid (below_on B2.out B2.out.size k3)
          clear k3
          go_wp2_with fail
          refine (KX.out _ x0 x1).mono ?_
          rintro e w4 ⟨rfl, k4⟩
          have B4 := Lib.hid (below_on B3.out B3.out.size k4)
          clear k4
          go_wp2
          go_ret
          exact ⟨rfl, B4.out⟩
        all_goals
          go_enter Try.func7, Try.ntmps7
          go_wp2_with fail
          refine (HV.out _).mono ?_
          rintro e w1 ⟨rfl, k1⟩
          go_wp2_with fail
          refine (K1.out _).mono ?_
          rintro e w2 ⟨rfl, k2⟩
          have B2 := Lib.hid (below_on k1 k1.size k2)
          clear k1 k2
          go_wp2_with fail
          refine (K2.out _).mono ?_
          rintro e w3 ⟨rfl, k3⟩
          have B3 := Lib.hid (below_on B2.out B2.out.size k3)
          clear k3
          go_wp2_with fail
          refine (KX.out _ x0 x1).mono ?_
          rintro e w4 ⟨rfl, k4⟩
          have B4 := Lib.hid (below_on B3.out B3.out.size k4)
          clear k4
          go_wp2_with fail
          refine (KY.out _ (by omega) (by omega)).mono ?_
          rintro e w5 ⟨rfl, k5⟩
          have B5 := Lib.hid (below_on B4.out B4.out.size k5)
          clear k5
          go_wp2
          go_ret
          exact ⟨rfl, B5.out⟩
      · rw [hx] at K1; rw [hy] at K2
        clear hx hy hev
        go_enter Try.func7, Try.ntmps7
        go_wp2_with fail
        refine (HV.out _).mono ?_
        rintro e w1 ⟨rfl, k1⟩
        go_wp2_with fail
        refine (K1.out _).mono ?_
        rintro e w2 ⟨rfl, k2⟩
        have B2 := Lib.hid (below_on k1 k1.size k2)
        clear k1 k2
        go_wp2_with fail
        refine (K2.out _).mono ?_
        rintro e w3 ⟨rfl, k3⟩
        have B3 := Lib.hid (below_on B2.out B2.out.size k3)
        clear k3
        go_wp2
        go_ret
        exact ⟨rfl, B3.out⟩
    · rw [hx] at K1
      obtain ⟨v, hv⟩ : ∃ v, cutI y = v := ⟨_, rfl⟩
      rw [hv] at K2
      clear hx hev hv
      go_enter Try.func7, Try.ntmps7
      go_wp2_with fail
      refine (HV.out _).mono ?_
      rintro e w1 ⟨rfl, k1⟩
      go_wp2_with fail
      refine (K1.out _).mono ?_
      rintro e w2 ⟨rfl, k2⟩
      have B2 := Lib.hid (below_on k1 k1.size k2)
      clear k1 k2
      go_wp2_with fail
      refine (K2.out _).mono ?_
      rintro e w3 ⟨rfl, k3⟩
      have B3 := Lib.hid (below_on B2.out B2.out.size k3)
      clear k3
      go_wp2
      go_ret
      exact ⟨rfl, B3.out⟩
end Go.Proofs.Ytfjgafkhhjipbaa
