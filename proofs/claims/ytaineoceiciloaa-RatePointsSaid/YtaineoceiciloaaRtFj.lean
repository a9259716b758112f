/-
  The law RatePoints.
-/
import Derived.Test.YtaineoceiciloaaRtA
import Derived.Test.YtaineoceiciloaaRtFi
set_option linter.unusedVariables false
set_option linter.unusedSimpArgs false
namespace Go.Proofs.Ytaineoceiciloaa
open Go.RowKit Ieee

set_option maxRecDepth 20000 in
set_option maxHeartbeats 3200000 in
theorem ratePoints_core (b : Nat) (hb : b < 18446744073709551616) (n : Int) (w : World) :
    Calls Try.prog 5 #[.int .u64 b, .int .i64 n] w fun e w' => e = .returned (.bool true) ∧ Below w.heap.size w w' := by
  obtain ⟨⟨s1, s2⟩, hs⟩ : ∃ s, pS b = s := ⟨_, rfl⟩
  have HAl := Lib.hid (fun W => ralive_any W)
  have HF := fun w => frombits_runI (b : Int) b rfl w
  have HP := Lib.hid (fun W => points_any W b hb _ hs)
  have HR := Lib.hid (fun W => rpoints_any W b hb _ hs)
  by_cases hn : n < 0 ∨ 10000 < n
  · have HC := Lib.hid (fun W => percent_bad W n hn)
    have o0 : FloatKind.f64.format.order 0 0 = some Ordering.eq := by decide +kernel
    go_enter Try.func5, Try.ntmps5
    go_wp2_with fail
    refine (HAl.out _).mono ?_
    rintro e w1 ⟨rfl, hb1⟩
    have HB1 := Lib.hid hb1
    clear hb1
    go_wp2_with fail
    refine (HP.out _).mono ?_
    rintro e w2 ⟨rfl, rfl⟩
    go_wp2_with fail
    refine (HR.out _).mono ?_
    rintro e w3 ⟨rfl, hb3⟩
    have HB3 := Lib.hid (below_on HB1.out HB1.out.size hb3)
    clear hb3
    go_wp2_with fail
    refine (HC.out _).mono ?_
    rintro e w4 ⟨rfl, rfl⟩
    rcases hn with hn | hn
    · go_wp2
      go_ret
      exact ⟨rfl, HB3.out⟩
    · by_cases hn0 : n < 0
      · omega
      · go_wp2
        go_ret
        exact ⟨rfl, HB3.out⟩
  · obtain ⟨k, rfl⟩ : ∃ k : Nat, n = k := ⟨n.toNat, by omega⟩
    have hk : k ≤ 10000 := by omega
    obtain ⟨p1, p2, p3⟩ := pct_all k hk
    obtain ⟨q, hq⟩ : ∃ q, pct k = q := ⟨_, rfl⟩
    rw [hq] at p1 p2 p3
    have HC := Lib.hid (fun W => percent_ok W k (by omega) q (by rw [near_write]; exact p1))
    have HQ := Lib.hid (fun W => points_any W q p2 _ p3)
    have hn0 : ¬ (k : Int) < 0 := by omega
    have hn1 : ¬ (10000 : Int) < k := by omega
    clear p1 p2 p3 hq hn
    go_enter Try.func5, Try.ntmps5
    go_wp2_with fail
    refine (HAl.out _).mono ?_
    rintro e w1 ⟨rfl, hb1⟩
    have HB1 := Lib.hid hb1
    clear hb1
    go_wp2_with fail
    refine (HP.out _).mono ?_
    rintro e w2 ⟨rfl, rfl⟩
    go_wp2_with fail
    refine (HR.out _).mono ?_
    rintro e w3 ⟨rfl, hb3⟩
    have HB3 := Lib.hid (below_on HB1.out HB1.out.size hb3)
    clear hb3
    go_wp2_with fail
    refine (HC.out _).mono ?_
    rintro e w4 ⟨rfl, rfl⟩
    go_wp2_with fail
    refine (HQ.out _).mono ?_
    rintro e w5 ⟨rfl, rfl⟩
    go_wp2
    go_ret
    exact ⟨rfl, HB3.out⟩
theorem ratePoints_law (m : Int) (hm : (Lit.int .u64 m).wf = true) (n : Int) (w : World) :
    Calls Try.prog 5 #[.int .u64 m, .int .i64 n] w fun e w' => e = .returned (.bool true) ∧ Below w.heap.size w w' := by
  obtain ⟨b, rfl, hb⟩ : ∃ b : Nat, m = (b : Int) ∧ b < 18446744073709551616 := by
    simp [Lit.wf, IntKind.min, IntKind.max, IntKind.signed, IntKind.bits] at hm
    exact ⟨m.toNat, by omega, by omega⟩
  exact ratePoints_core b hb n w
end Go.Proofs.Ytaineoceiciloaa
