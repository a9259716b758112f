/-
  What the reference's round answers, rounded down.
-/
import Derived.Test.YtikfclioplploaaRndB
import Derived.Test.YtikfclioplploaaFloor
import Derived.Test.YtikfclioplploaaCut
set_option linter.unusedVariables false
set_option linter.unusedSimpArgs false
set_option maxRecDepth 20000
namespace Go.Proofs.Ytikfclioplploaa
open Go.RowKit Dg

theorem N_mk {z : Int} {m : Bool} {n : Int} (hm : decide (z < 0) = m) (hn : absI z = n) : N z = ns m (dg 10 n) := by unfold N; rw [hm, hn]
theorem dg_head (n : Int) : (du (dg 10 n))[0]? = some (.int .u64 (n % 65536)) := by
  have := dg_at 10 0 n (by decide)
  rw [Int.pow_zero, Int.ediv_one] at this
  rw [← this]
  rfl
section
variable (a b : Int) (C : Nat) (ha0 : -9223372036854775808 ≤ a) (ha1 : a ≤ 9223372036854775807) (hb0 : -9223372036854775808 ≤ b) (hb1 : b ≤ 9223372036854775807) (hC0 : 0 < C) (hC : C ≤ 9223372036854775807)
include ha0 ha1 hb0 hb1 hC0 hC
theorem rround0_any (w : World) :
    Calls Try.prog 56 #[.int .i64 a, .int .i64 b, .int .i64 C, .int .i64 0] w fun e w' => e = .returned (.tuple #[.int .i64 (cutI (a * b / C)).1, .int .i64 (cutI (a * b / C)).2]) ∧ Below w.heap.size w w' := by
  have hT := fun W => times_any a b ha0 ha1 hb0 hb1 W
  have hpl := prod_lt ha0 ha1 hb0 hb1
  have hab := absI_nat (a * b)
  obtain ⟨P, hP⟩ : ∃ P, a * b = P := ⟨_, rfl⟩
  rw [hP] at hT hpl hab ⊢
  clear hP
  obtain ⟨p, hp⟩ : ∃ p, P.natAbs = p := ⟨_, rfl⟩
  rw [hp] at hpl hab
  have hO := fun W => of_any (C : Int) (by omega) (by omega) W
  rw [N_pos (show (0 : Int) ≤ (C : Int) by omega)] at hO
  have hO1 := fun W => of_any (1 : Int) (by decide) (by decide) W
  rw [N_pos (show (0 : Int) ≤ 1 by decide)] at hO1
  have hD := fun W => divide_any (p : Int) (C : Int) (by omega) (by omega) (by omega) (by omega) W
  have hqp : p / C ≤ p := Nat.div_le_self _ _
  have hrc : p % C < C := Nat.mod_lt _ hC0
  have fn := floor_neg p C hC0
  rw [← Int.natCast_ediv, ← Int.natCast_emod] at hD
  have fp := (Int.natCast_ediv p C).symm
  generalize p / C = q at *
  generalize p % C = r at *
  have hPl := fun m W => plus_same m (dg 10 (q : Int)) (dg 10 1) (norm10 _) (norm10 _) (len10 _) (len10 _) (by rw [val10 (by omega) (by unfold TOP; omega), val10 (by decide) (by unfold TOP; decide)]; omega) W
  rw [val10 (show (0 : Int) ≤ (q : Int) by omega) (by unfold TOP; omega), val10 (by decide) (by unfold TOP; decide)] at hPl
  by_cases h : P < 0
  · have hPe : P = -(p : Int) := by omega
    rw [N_mk (decide_eq_true h) hab] at hT
    rw [hPe, fn]
    refine rnd_0t a b C (by omega) (decide (q ≠ 0)) (decide (r = 0)) (!decide (r = 0)) (dg 10 p) (dg 10 C) (dg 10 q) (dg 10 r) (dg 10 1) (dg 10 ((q : Int) + 1)) (len10 _) (len10 _) (len10 _) (len10 _) (len10 _) (len10 _) (eqz _ (by omega) (by unfold TOP; omega) _ (by simp)) (eqz _ (by omega) (by unfold TOP; omega) _ (decide_eq_decide.2 (by omega))) hT hO hD hO1 _ (fun hu W => ?_) (fun _ W => hPl true W) (fun hu W => ?_) rfl w
    · have hr0 : r = 0 := by simpa using hu
      rw [if_neg (by omega)]
      have := cut_any (-(q : Int)) (by rw [absI_nat]; omega) W
      rwa [N_mk (m := decide (q ≠ 0)) (n := (q : Int)) (decide_eq_decide.2 (by omega)) (by rw [absI_nat]; omega)] at this
    · have hr0 : ¬ r = 0 := by simpa using hu
      rw [if_pos (by omega)]
      have := cut_any (-((q + 1 : Nat) : Int)) (by rw [absI_nat]; omega) W
      rwa [N_mk (m := true) (n := (q : Int) + 1) (decide_eq_true (by omega)) (by rw [absI_nat]; omega)] at this
  · have hPe : P = (p : Int) := by omega
    rw [N_mk (decide_eq_false h) hab] at hT
    rw [hPe, fp]
    refine rnd_0f a b C (by omega) (decide (q ≠ 0)) (decide (r = 0)) false (dg 10 p) (dg 10 C) (dg 10 q) (dg 10 r) (dg 10 1) (dg 10 ((q : Int) + 1)) (len10 _) (len10 _) (len10 _) (len10 _) (len10 _) (len10 _) (eqz _ (by omega) (by unfold TOP; omega) _ (by simp)) (eqz _ (by omega) (by unfold TOP; omega) _ (decide_eq_decide.2 (by omega))) hT hO hD hO1 _ (fun _ W => ?_) (fun _ W => hPl false W) (fun hu W => ?_) rfl w
    · have := cut_any (q : Int) (by rw [absI_nat]; omega) W
      rwa [N_pos (by omega)] at this
    · cases hu
end
end Go.Proofs.Ytikfclioplploaa
