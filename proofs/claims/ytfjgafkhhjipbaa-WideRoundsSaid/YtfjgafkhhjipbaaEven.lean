/-
  The walk of wide.Even, at any numbers.
-/
import Derived.Test.YtfjgafkhhjipbaaFloor
set_option linter.unusedVariables false
set_option linter.unusedSimpArgs false
namespace Go.Proofs.Ytfjgafkhhjipbaa
open Go.RowKit Dg Go.Shelf

theorem weven_zero (a b c : Int) (hc : c ≤ 0) (w : World) : Calls Try.prog 14 #[.int .i64 a, .int .i64 b, .int .i64 c] w fun e w' => e = .returned (.tuple #[.int .i64 0, .int .i64 12]) ∧ w' = w := by
  go_enter Try.func14, Try.ntmps14
  go_wp2
  go_ret2
  exact ⟨rfl, rfl⟩
set_option maxRecDepth 8000 in
set_option maxHeartbeats 3200000 in
theorem even_core (a b : Int) (c : Nat) (hc : c ≤ 9223372036854775807) (hc0 : 0 < c) (m u m2 : Bool) (p q r q2 : Nat) (hrc : r < c) (hq2 : q2 < 18446744073709551616 * 18446744073709551616) (x : Int × Int) (hu : decide (c - r < r ∨ (r = c - r ∧ q % 2 = 1)) = u) (hm2 : (m && decide (¬ q2 = 0)) = m2)
    (hP : ∀ W, Calls Try.prog 29 #[.int .i64 a, .int .i64 b] W fun e w' => e = .returned (.agg (wc m p)) ∧ Below W.heap.size W w')
    (hD : ∀ W, Calls Try.prog 28 #[.agg (wc m p), .int .u64 c] W fun e w' => e = .returned (.tuple #[.agg (wc m q), .int .u64 r]) ∧ Below W.heap.size W w')
    (hU : ∀ W, Calls Try.prog 30 #[.agg (wc m q), .bool u] W fun e w' => e = .returned (.agg (wc m q2)) ∧ Below W.heap.size W w')
    (hN : ∀ W, Calls Try.prog 31 #[.bool m2, .int .u64 ((q2 / 18446744073709551616 : Nat) : Int), .int .u64 ((q2 % 18446744073709551616 : Nat) : Int)] W fun e w' => e = .returned (.tuple #[.int .i64 x.1, .int .i64 x.2]) ∧ w' = W) (w : World) :
    Calls Try.prog 14 #[.int .i64 a, .int .i64 b, .int .i64 c] w fun e w' => e = .returned (.tuple #[.int .i64 x.1, .int .i64 x.2]) ∧ Below w.heap.size w w' := by
  have HP := Lib.hid hP
  have HD := Lib.hid hD
  have HU := Lib.hid hU
  have HN := Lib.hid hN
  have HC := Lib.hid (fun W => compare_u64 (r : Int) ((c : Int) - r) W)
  obtain ⟨o, ho, hoz⟩ := or_zero q2 hq2
  unfold wc at HP HD HU
  have h3 : ∃ hf : Int, cmpI (r : Int) ((c : Int) - r) = hf ∧ ((hf = 1 ∧ u = true) ∨ (hf = 0 ∧ q % 18446744073709551616 % 2 = 1 ∧ u = true) ∨ (hf = 0 ∧ q % 18446744073709551616 % 2 = 0 ∧ u = false) ∨ (hf = -1 ∧ u = false)) := by
    refine ⟨_, rfl, ?_⟩
    by_cases h1 : c - r < r
    · exact .inl ⟨cmpI_gt (by omega), by rw [← hu]; simp; omega⟩
    · by_cases h2 : r = c - r
      · have he : cmpI (r : Int) ((c : Int) - r) = 0 := cmpI_eq (by omega)
        by_cases h4 : q % 2 = 1
        · exact .inr (.inl ⟨he, by omega, by rw [← hu]; simp; omega⟩)
        · exact .inr (.inr (.inl ⟨he, by omega, by rw [← hu]; simp; omega⟩))
      · exact .inr (.inr (.inr ⟨cmpI_lt (by omega), by rw [← hu]; simp; omega⟩))
  obtain ⟨hf, hhf, h3⟩ := h3
  rw [hhf] at HC
  obtain ⟨ph, hph⟩ : ∃ n, p / 18446744073709551616 = n := ⟨_, rfl⟩
  obtain ⟨pl, hpl⟩ : ∃ n, p % 18446744073709551616 = n := ⟨_, rfl⟩
  obtain ⟨qh, hqh⟩ : ∃ n, q / 18446744073709551616 = n := ⟨_, rfl⟩
  obtain ⟨ql, hql⟩ : ∃ n, q % 18446744073709551616 = n := ⟨_, rfl⟩
  obtain ⟨sh, hsh⟩ : ∃ n, q2 / 18446744073709551616 = n := ⟨_, rfl⟩
  obtain ⟨sl, hsl⟩ : ∃ n, q2 % 18446744073709551616 = n := ⟨_, rfl⟩
  rw [hph, hpl] at HP HD
  rw [hqh, hql] at HD HU
  rw [hsh, hsl] at HU HN ho
  rw [hql] at h3
  have hm : (m = false ∧ m2 = false) ∨ (m = true ∧ o = 0 ∧ m2 = false) ∨ (m = true ∧ ((o : Int) != 0) = true ∧ m2 = true) := by
    cases m
    · exact .inl ⟨rfl, by rw [← hm2]; rfl⟩
    · by_cases h : q2 = 0
      · exact .inr (.inl ⟨rfl, hoz.2 h, by rw [← hm2]; simp [h]⟩)
      · exact .inr (.inr ⟨rfl, by have := mt hoz.1 h; simp; omega, by rw [← hm2]; simp [h]⟩)
  clear hph hpl hqh hql hsh hsl hP hD hU hN hhf hu hm2 hoz hq2
  rcases h3 with ⟨rfl, rfl⟩ | ⟨rfl, hpar, rfl⟩ | ⟨rfl, hpar, rfl⟩ | ⟨rfl, rfl⟩
  all_goals rcases hm with ⟨rfl, rfl⟩ | ⟨rfl, rfl, rfl⟩ | ⟨rfl, ho0, rfl⟩
  all_goals
    try have hpar2 : (ql : Int) % 2 = _ := (Int.natCast_emod ql 2).symm.trans (congrArg Int.ofNat hpar)
    go_enter Try.func14, Try.ntmps14
    go_wp2_with fail
    refine (HP.out _).mono ?_
    rintro e w1 ⟨rfl, hb1⟩
    have B1 := Lib.hid hb1
    clear hb1
    go_wp2_with fail
    refine (HD.out _).mono ?_
    rintro e w2 ⟨rfl, hb2⟩
    have B2 := Lib.hid (below_on B1.out B1.out.size hb2)
    clear hb2
    have HA := Lib.hid (fun mm => Blk.new w2 49 [.bool mm, .int .u64 qh, .int .u64 ql])
    have B3 := Lib.hid (fun o => B2.out.alloc B2.out.size o)
    go_wp2_with fail
    refine (HC.out _).mono ?_
    rintro e w9 ⟨rfl, rfl⟩
    go_wp2_with fail
    refine (HU.out _).mono ?_
    rintro e w3 ⟨rfl, hb3⟩
    have hA := (HA.out _).keeps hb3
    have A0 := hA.cell 0 _ rfl; have A1 := hA.cell 1 _ rfl; have A2 := hA.cell 2 _ rfl; have Af := hA.frozen; have An := hA.lt
    have hA4 := fun mm => ((hA.set 0 (.bool mm)).set 1 (.int .u64 sh)).set 2 (.int .u64 sl)
    have D0 := fun mm => (hA4 mm).cell 0 _ rfl; have D1 := fun mm => (hA4 mm).cell 1 _ rfl; have D2 := fun mm => (hA4 mm).cell 2 _ rfl
    have B4 := Lib.hid (below_on (B3.out _) (B3.out _).size hb3)
    have HB := Lib.hid B2.out.size
    clear hb3 hA hA4
    go_wp2_with fail
    refine (HN.out _).mono ?_
    rintro e w5 ⟨rfl, rfl⟩
    go_wp2
    refine bodyPost_ret (v := .tuple #[.int .i64 x.1, .int .i64 x.2]) (by simp [results, Try.results14, go_sem]) rfl ⟨rfl, ?_⟩
    have := HB.out
    exact ((B4.out.setCell (p := ⟨w2.heap.size, 0, none⟩) this _).setCell (p := ⟨w2.heap.size, 1, none⟩) this _).setCell (p := ⟨w2.heap.size, 2, none⟩) this _
theorem weven_any (a b : Int) (c : Nat) (ha0 : -9223372036854775808 ≤ a) (ha1 : a ≤ 9223372036854775807) (hb0 : -9223372036854775808 ≤ b) (hb1 : b ≤ 9223372036854775807) (hc0 : 0 < c) (hc : c ≤ 9223372036854775807)
    (hD : DivOk ((a * b).natAbs / 18446744073709551616 % c) ((a * b).natAbs % 18446744073709551616) c) (w : World) :
    Calls Try.prog 14 #[.int .i64 a, .int .i64 b, .int .i64 c] w fun e w' => e = .returned (.tuple #[.int .i64 (cutI (evI (a * b) c)).1, .int .i64 (cutI (evI (a * b) c)).2]) ∧ Below w.heap.size w w' := by
  have hp := prod_lt ha0 ha1 hb0 hb1
  have hP := prod_wc a b ha0 ha1 hb0 hb1
  generalize a * b = z at *
  have hq := div_small (c := c) hp
  have hdiv := fun W => div_wc (decide (z < 0)) z.natAbs c hp hc hc0 hD W
  have hr := Nat.mod_lt z.natAbs hc0
  have hQ : evQ z.natAbs c = if decide (c - z.natAbs % c < z.natAbs % c ∨ (z.natAbs % c = c - z.natAbs % c ∧ z.natAbs / c % 2 = 1)) = true then z.natAbs / c + 1 else z.natAbs / c := by
    unfold evQ
    simp only [decide_eq_true_eq]
  unfold evI
  generalize z.natAbs / c = q at *
  generalize z.natAbs % c = r at *
  obtain ⟨u, hu⟩ : ∃ u, decide (c - r < r ∨ (r = c - r ∧ q % 2 = 1)) = u := ⟨_, rfl⟩
  rw [hu] at hQ
  have hq2 : evQ z.natAbs c < 340282366920938463463374607431768211456 := by
    rw [hQ]; split <;> omega
  refine even_core a b c hc hc0 (decide (z < 0)) u (decide (z < 0) && decide (¬ evQ z.natAbs c = 0)) z.natAbs q r (evQ z.natAbs c) hr (by omega) (cutI _) hu rfl hP hdiv (fun W => ?_) (fun W => ?_) w
  · cases u with
    | true => rw [hQ, if_pos rfl]; exact up_one (by omega) W
    | false => rw [hQ, if_neg (by decide)]; exact up_no _ _ _ W
  · refine number_nat ?_ ?_ W
    · split <;> omega
    · have key : ∀ e : Nat, decide (-(e : Int) < 0) = (true && decide (¬ e = 0)) := by intro e; rw [Bool.eq_iff_iff]; simp; omega
      by_cases hz : z < 0
      · rw [if_pos hz, decide_eq_true hz]; exact key _
      · rw [if_neg hz, decide_eq_false hz]
        rw [Bool.false_and, decide_eq_false_iff_not]; omega
end Go.Proofs.Ytfjgafkhhjipbaa
