/-
  What the reference's Floor and Even answer, at any numbers of 64 bits; the law WideRounds.
-/
import Derived.Test.YtfjgafkhhjipbaaRndB
import Derived.Test.YtfjgafkhhjipbaaRndC
import Derived.Test.YtfjgafkhhjipbaaWideA
set_option linter.unusedVariables false
set_option linter.unusedSimpArgs false
namespace Go.Proofs.Ytfjgafkhhjipbaa
open Go.RowKit Dg Go.Shelf

theorem N_mk {z : Int} {m : Bool} {n : Int} (hm : decide (z < 0) = m) (hn : absI z = n) : N z = ns m (dg 10 n) := by unfold N; rw [hm, hn]
theorem dg_head (n : Int) : (du (dg 10 n))[0]? = some (.int .u64 (n % 65536)) := by
  have := dg_at 10 0 n (by decide)
  rw [Int.pow_zero, Int.ediv_one] at this
  rw [← this]
  rfl
section
variable (a b : Int) (C : Nat) (ha0 : -9223372036854775808 ≤ a) (ha1 : a ≤ 9223372036854775807) (hb0 : -9223372036854775808 ≤ b) (hb1 : b ≤ 9223372036854775807) (hC0 : 0 < C) (hC : C ≤ 9223372036854775807)
include ha0 ha1 hb0 hb1 hC0 hC
theorem rround0_any (w : World) :
    Calls Try.prog 32 #[.int .i64 a, .int .i64 b, .int .i64 C, .int .i64 0] w fun e w' => e = .returned (.tuple #[.int .i64 (cutI (a * b / C)).1, .int .i64 (cutI (a * b / C)).2]) ∧ Below w.heap.size w w' := by
  have hT := fun W => times_any a b ha0 ha1 hb0 hb1 W
  have hpl := prod_lt ha0 ha1 hb0 hb1
  have hab := absI_nat (a * b)
  obtain ⟨P, hP⟩ : ∃ P, a * b = P := ⟨_, rfl⟩
  rw [hP] at hT hpl hab ⊢
  clear hP
  obtain ⟨p, hp⟩ : ∃ p, P.natAbs = p := ⟨_, rfl⟩
  rw [hp] at hpl hab
  have hO := fun W => of_any (C : Int) (by omega) (by omega) W
  rw [N_pos (show (0 : Int) ≤ (C : Int) by omega)] at hO
  have hO1 := fun W => of_any (1 : Int) (by decide) (by decide) W
  rw [N_pos (show (0 : Int) ≤ 1 by decide)] at hO1
  have hD := fun W => divide_any (p : Int) (C : Int) (by omega) (by omega) (by omega) (by omega) W
  have hqp : p / C ≤ p := Nat.div_le_self _ _
  have hrc : p % C < C := Nat.mod_lt _ hC0
  have fn := floor_neg p C hC0
  rw [← Int.natCast_ediv, ← Int.natCast_emod] at hD
  have fp := (Int.natCast_ediv p C).symm
  generalize p / C = q at *
  generalize p % C = r at *
  have hPl := fun m W => plus_same m (dg 10 (q : Int)) (dg 10 1) (norm10 _) (norm10 _) (len10 _) (len10 _) (by rw [val10 (by omega) (by unfold TOP; omega), val10 (by decide) (by unfold TOP; decide)]; omega) W
  rw [val10 (show (0 : Int) ≤ (q : Int) by omega) (by unfold TOP; omega), val10 (by decide) (by unfold TOP; decide)] at hPl
  by_cases h : P < 0
  · have hPe : P = -(p : Int) := by omega
    rw [N_mk (decide_eq_true h) hab] at hT
    rw [hPe, fn]
    refine rnd_0t a b C (by omega) (decide (q ≠ 0)) (decide (r = 0)) (!decide (r = 0)) (dg 10 p) (dg 10 C) (dg 10 q) (dg 10 r) (dg 10 1) (dg 10 ((q : Int) + 1)) (len10 _) (len10 _) (len10 _) (len10 _) (len10 _) (len10 _) (eqz _ (by omega) (by unfold TOP; omega) _ (by simp)) (eqz _ (by omega) (by unfold TOP; omega) _ (decide_eq_decide.2 (by omega))) hT hO hD hO1 _ (fun hu W => ?_) (fun _ W => hPl true W) (fun hu W => ?_) rfl w
    · have hr0 : r = 0 := by simpa using hu
      rw [if_neg (by omega)]
      have := cut_any (-(q : Int)) (by rw [absI_nat]; omega) W
      rwa [N_mk (m := decide (q ≠ 0)) (n := (q : Int)) (decide_eq_decide.2 (by omega)) (by rw [absI_nat]; omega)] at this
    · have hr0 : ¬ r = 0 := by simpa using hu
      rw [if_pos (by omega)]
      have := cut_any (-((q + 1 : Nat) : Int)) (by rw [absI_nat]; omega) W
      rwa [N_mk (m := true) (n := (q : Int) + 1) (decide_eq_true (by omega)) (by rw [absI_nat]; omega)] at this
  · have hPe : P = (p : Int) := by omega
    rw [N_mk (decide_eq_false h) hab] at hT
    rw [hPe, fp]
    refine rnd_0f a b C (by omega) (decide (q ≠ 0)) (decide (r = 0)) false (dg 10 p) (dg 10 C) (dg 10 q) (dg 10 r) (dg 10 1) (dg 10 ((q : Int) + 1)) (len10 _) (len10 _) (len10 _) (len10 _) (len10 _) (len10 _) (eqz _ (by omega) (by unfold TOP; omega) _ (by simp)) (eqz _ (by omega) (by unfold TOP; omega) _ (decide_eq_decide.2 (by omega))) hT hO hD hO1 _ (fun _ W => ?_) (fun _ W => hPl false W) (fun hu W => ?_) rfl w
    · have := cut_any (q : Int) (by rw [absI_nat]; omega) W
      rwa [N_pos (by omega)] at this
    · cases hu
theorem rround1_any (w : World) :
    Calls Try.prog 32 #[.int .i64 a, .int .i64 b, .int .i64 C, .int .i64 1] w fun e w' => e = .returned (.tuple #[.int .i64 (cutI (evI (a * b) C)).1, .int .i64 (cutI (evI (a * b) C)).2]) ∧ Below w.heap.size w w' := by
  have hT := fun W => times_any a b ha0 ha1 hb0 hb1 W
  have hpl := prod_lt ha0 ha1 hb0 hb1
  have hab := absI_nat (a * b)
  obtain ⟨P, hP⟩ : ∃ P, a * b = P := ⟨_, rfl⟩
  rw [hP] at hT hpl hab ⊢
  clear hP
  obtain ⟨p, hp⟩ : ∃ p, P.natAbs = p := ⟨_, rfl⟩
  have he : evI P C = if P < 0 then -(evQ p C : Int) else evQ p C := by unfold evI; rw [hp]
  rw [hp] at hpl hab
  have hO := fun W => of_any (C : Int) (by omega) (by omega) W
  rw [N_pos (show (0 : Int) ≤ (C : Int) by omega)] at hO
  have hO1 := fun W => of_any (1 : Int) (by decide) (by decide) W
  rw [N_pos (show (0 : Int) ≤ 1 by decide)] at hO1
  have hD := fun W => divide_any (p : Int) (C : Int) (by omega) (by omega) (by omega) (by omega) W
  have hqp : p / C ≤ p := Nat.div_le_self _ _
  have hrc : p % C < C := Nat.mod_lt _ hC0
  rw [← Int.natCast_ediv, ← Int.natCast_emod] at hD
  unfold evQ at he
  generalize p / C = q at *
  generalize p % C = r at *
  have hPl := fun m W => plus_same m (dg 10 (q : Int)) (dg 10 1) (norm10 _) (norm10 _) (len10 _) (len10 _) (by rw [val10 (by omega) (by unfold TOP; omega), val10 (by decide) (by unfold TOP; decide)]; omega) W
  rw [val10 (show (0 : Int) ≤ (q : Int) by omega) (by unfold TOP; omega), val10 (by decide) (by unfold TOP; decide)] at hPl
  have hS := fun W => shifted_num (r : Int) (by omega) (by unfold TOP; omega) W
  have hL := fun W => less_num ((r : Int) + r) (C : Int) (by omega) (by unfold TOP; omega) (by omega) (by unfold TOP; omega) W
  obtain ⟨u, hu⟩ : ∃ u, decide (C - r < r ∨ (r = C - r ∧ q % 2 = 1)) = u := ⟨_, rfl⟩
  have hU : (cmpI ((r : Int) + r) C = 1 ∧ u = true) ∨ (cmpI ((r : Int) + r) C = -1 ∧ u = false) ∨ (cmpI ((r : Int) + r) C = 0 ∧ ((q : Int) % 65536) % 2 = 1 ∧ u = true) ∨ (cmpI ((r : Int) + r) C = 0 ∧ ((q : Int) % 65536) % 2 = 0 ∧ u = false) := by
    rw [← hu]
    unfold cmpI
    by_cases h1 : (r : Int) + r < C
    · rw [if_pos h1]
      exact .inr (.inl ⟨rfl, decide_eq_false (by omega)⟩)
    · rw [if_neg h1]
      by_cases h2 : (C : Int) < r + r
      · rw [if_pos h2]
        exact .inl ⟨rfl, decide_eq_true (by omega)⟩
      · rw [if_neg h2]
        by_cases h3 : q % 2 = 1
        · exact .inr (.inr (.inl ⟨rfl, by omega, decide_eq_true (by omega)⟩))
        · exact .inr (.inr (.inr ⟨rfl, by omega, decide_eq_false (by omega)⟩))
  have he2 : evI P C = if P < 0 then -((if u = true then q + 1 else q : Nat) : Int) else ((if u = true then q + 1 else q : Nat) : Int) := by
    rw [he, ← hu]
    simp only [decide_eq_true_eq]
  rw [he2]
  clear he he2
  by_cases h : P < 0
  · rw [N_mk (decide_eq_true h) hab] at hT
    rw [if_pos h]
    refine rnd_1t a b C (by omega) (decide (q ≠ 0)) (decide (r = 0)) u (dg 10 p) (dg 10 C) (dg 10 q) (dg 10 r) (dg 10 1) (dg 10 ((q : Int) + 1)) (len10 _) (len10 _) (len10 _) (len10 _) (len10 _) (len10 _) (eqz _ (by omega) (by unfold TOP; omega) _ (by simp)) (eqz _ (by omega) (by unfold TOP; omega) _ (decide_eq_decide.2 (by omega))) hT hO hD hO1 _ (fun hu W => ?_) (fun _ W => hPl true W) (fun hu W => ?_) (dg 10 ((r : Int) + r)) _ _ hS hL (dg_head _) (by omega) (by omega) hU w
    · subst hu
      rw [if_neg (by decide)]
      have := cut_any (-(q : Int)) (by rw [absI_nat]; omega) W
      rwa [N_mk (m := decide (q ≠ 0)) (n := (q : Int)) (decide_eq_decide.2 (by omega)) (by rw [absI_nat]; omega)] at this
    · subst hu
      rw [if_pos rfl]
      have := cut_any (-((q + 1 : Nat) : Int)) (by rw [absI_nat]; omega) W
      rwa [N_mk (m := true) (n := (q : Int) + 1) (decide_eq_true (by omega)) (by rw [absI_nat]; omega)] at this
  · rw [N_mk (decide_eq_false h) hab] at hT
    rw [if_neg h]
    refine rnd_1f a b C (by omega) (decide (q ≠ 0)) (decide (r = 0)) u (dg 10 p) (dg 10 C) (dg 10 q) (dg 10 r) (dg 10 1) (dg 10 ((q : Int) + 1)) (len10 _) (len10 _) (len10 _) (len10 _) (len10 _) (len10 _) (eqz _ (by omega) (by unfold TOP; omega) _ (by simp)) (eqz _ (by omega) (by unfold TOP; omega) _ (decide_eq_decide.2 (by omega))) hT hO hD hO1 _ (fun hu W => ?_) (fun _ W => hPl false W) (fun hu W => ?_) (dg 10 ((r : Int) + r)) _ _ hS hL (dg_head _) (by omega) (by omega) hU w
    · subst hu
      rw [if_neg (by decide)]
      have := cut_any (q : Int) (by rw [absI_nat]; omega) W
      rwa [N_pos (by omega)] at this
    · subst hu
      rw [if_pos rfl]
      have := cut_any ((q + 1 : Nat) : Int) (by rw [absI_nat]; omega) W
      rwa [N_pos (by omega)] at this
end
theorem rround_zero (a b c k : Int) (hc : c ≤ 0) (w : World) :
    Calls Try.prog 32 #[.int .i64 a, .int .i64 b, .int .i64 c, .int .i64 k] w fun e w' => e = .returned (.tuple #[.int .i64 0, .int .i64 12]) ∧ Below w.heap.size w w' := by
  go_enter Try.func32, Try.ntmps32
  go_wp2
  go_ret2
  exact ⟨rfl, Below.refl _ _⟩
theorem rfloor_S (a b c : Int) (ha : -9223372036854775808 ≤ a ∧ a ≤ 9223372036854775807) (hb : -9223372036854775808 ≤ b ∧ b ≤ 9223372036854775807) (hc : c ≤ 9223372036854775807) (w : World) :
    Calls Try.prog 13 #[.int .i64 a, .int .i64 b, .int .i64 c] w fun e w' => e = .returned (.tuple #[.int .i64 (floorS a b c).1, .int .i64 (floorS a b c).2]) ∧ Below w.heap.size w w' := by
  have H : Hid (∀ W, Calls Try.prog 32 #[.int .i64 a, .int .i64 b, .int .i64 c, .int .i64 0] W fun e w' => e = .returned (.tuple #[.int .i64 (floorS a b c).1, .int .i64 (floorS a b c).2]) ∧ Below W.heap.size W w') := by
    show ∀ W, _
    intro W
    unfold floorS
    by_cases h : c ≤ 0
    · rw [if_pos h]; exact rround_zero a b c 0 h W
    · rw [if_neg h]
      obtain ⟨C, rfl⟩ := Int.eq_ofNat_of_zero_le (show 0 ≤ c by omega)
      exact rround0_any a b C ha.1 ha.2 hb.1 hb.2 (by omega) (by omega) W
  obtain ⟨q, hq'⟩ : ∃ q, floorS a b c = q := ⟨_, rfl⟩
  rw [hq'] at H ⊢
  clear hq' ha hb hc
  go_enter Try.func13, Try.ntmps13
  go_wp2_with fail
  refine (H.out _).mono ?_
  rintro e w1 ⟨rfl, hb⟩
  go_wp2
  go_ret2
  exact ⟨rfl, hb⟩
theorem reven_S (a b c : Int) (ha : -9223372036854775808 ≤ a ∧ a ≤ 9223372036854775807) (hb : -9223372036854775808 ≤ b ∧ b ≤ 9223372036854775807) (hc : c ≤ 9223372036854775807) (w : World) :
    Calls Try.prog 15 #[.int .i64 a, .int .i64 b, .int .i64 c] w fun e w' => e = .returned (.tuple #[.int .i64 (evenS a b c).1, .int .i64 (evenS a b c).2]) ∧ Below w.heap.size w w' := by
  have H : Hid (∀ W, Calls Try.prog 32 #[.int .i64 a, .int .i64 b, .int .i64 c, .int .i64 1] W fun e w' => e = .returned (.tuple #[.int .i64 (evenS a b c).1, .int .i64 (evenS a b c).2]) ∧ Below W.heap.size W w') := by
    show ∀ W, _
    intro W
    unfold evenS
    by_cases h : c ≤ 0
    · rw [if_pos h]; exact rround_zero a b c 1 h W
    · rw [if_neg h]
      obtain ⟨C, rfl⟩ := Int.eq_ofNat_of_zero_le (show 0 ≤ c by omega)
      rw [Int.toNat_natCast]
      exact rround1_any a b C ha.1 ha.2 hb.1 hb.2 (by omega) (by omega) W
  obtain ⟨q, hq'⟩ : ∃ q, evenS a b c = q := ⟨_, rfl⟩
  rw [hq'] at H ⊢
  clear hq' ha hb hc
  go_enter Try.func15, Try.ntmps15
  go_wp2_with fail
  refine (H.out _).mono ?_
  rintro e w1 ⟨rfl, hb⟩
  go_wp2
  go_ret2
  exact ⟨rfl, hb⟩
theorem rounds_law (a : Int) (wa : (Lit.int .i64 a).wf = true) (b : Int) (wb : (Lit.int .i64 b).wf = true) (c : Int) (wc : (Lit.int .i64 c).wf = true) (w : World) :
    Calls Try.prog 3 #[.int .i64 a, .int .i64 b, .int .i64 c] w fun e w' => e = .returned (.bool true) ∧ Below w.heap.size w w' := by
  have K0 := Lib.hid (fun W => walive_any W)
  have H1 := fun W => wfloor_S a b c (i64_wf wa) (i64_wf wb) (i64_wf wc).2 W
  have H2 := fun W => rfloor_S a b c (i64_wf wa) (i64_wf wb) (i64_wf wc).2 W
  have H3 := fun W => weven_S a b c (i64_wf wa) (i64_wf wb) (i64_wf wc).2 W
  have H4 := fun W => reven_S a b c (i64_wf wa) (i64_wf wb) (i64_wf wc).2 W
  obtain ⟨x, hx⟩ : ∃ q, (floorS a b c).1 = q := ⟨_, rfl⟩
  obtain ⟨e, he⟩ : ∃ q, (floorS a b c).2 = q := ⟨_, rfl⟩
  obtain ⟨y, hy⟩ : ∃ q, (evenS a b c).1 = q := ⟨_, rfl⟩
  obtain ⟨g, hg⟩ : ∃ q, (evenS a b c).2 = q := ⟨_, rfl⟩
  rw [hx, he] at H1 H2; rw [hy, hg] at H3 H4
  have K1 := Lib.hid H1; have K2 := Lib.hid H2; have K3 := Lib.hid H3; have K4 := Lib.hid H4
  clear H1 H2 H3 H4 hx he hy hg wa wb wc
  go_enter Try.func3, Try.ntmps3
  go_wp2_with fail
  refine (K0.out _).mono ?_
  rintro e w1 ⟨rfl, hb⟩
  have B1 := Lib.hid hb
  clear hb
  go_wp2_with fail
  refine (K1.out _).mono ?_
  rintro e w2 ⟨rfl, hb⟩
  have B2 := Lib.hid (below_on B1.out B1.out.size hb)
  clear hb
  go_wp2_with fail
  refine (K2.out _).mono ?_
  rintro e w3 ⟨rfl, hb⟩
  have B3 := Lib.hid (below_on B2.out B2.out.size hb)
  clear hb
  go_wp2_with fail
  refine (K3.out _).mono ?_
  rintro e w4 ⟨rfl, hb⟩
  have B4 := Lib.hid (below_on B3.out B3.out.size hb)
  clear hb
  go_wp2_with fail
  refine (K4.out _).mono ?_
  rintro e w5 ⟨rfl, hb⟩
  have B5 := Lib.hid (below_on B4.out B4.out.size hb)
  clear hb
  go_wp2
  go_ret
  exact ⟨rfl, B5.out⟩
end Go.Proofs.Ytfjgafkhhjipbaa
