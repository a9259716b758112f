/-
  The walks of the laws WideAdds, WideSums.
-/
import Derived.Test.YtfjgafkhhjipbaaWideA
import Derived.Test.YtfjgafkhhjipbaaSum
import Derived.Test.YtfjgafkhhjipbaaTimes
set_option linter.unusedVariables false
set_option linter.unusedSimpArgs false
namespace Go.Proofs.Ytfjgafkhhjipbaa
open Go.RowKit Dg Go.Shelf

set_option maxRecDepth 8000 in
set_option maxHeartbeats 1600000 in
theorem adds_law (a : Int) (wa : (Lit.int .i64 a).wf = true) (b : Int) (wb : (Lit.int .i64 b).wf = true) (w : World) :
    Calls Try.prog 5 #[.int .i64 a, .int .i64 b] w fun e w' => e = .returned (.bool true) ∧ Below w.heap.size w w' := by
  obtain ⟨a0, a1⟩ := i64_wf wa
  obtain ⟨b0, b1⟩ := i64_wf wb
  have HV := Lib.hid (fun W => walive_any W)
  have H1 := Lib.hid (fun W => add_any a b a0 a1 b0 b1 W)
  have H2 := Lib.hid (fun W => sub_any a b a0 a1 b0 b1 W)
  have H3 := Lib.hid (fun W => mul_any a b a0 a1 b0 b1 W)
  have HA := Lib.hid (fun W => of_any a a0 a1 W)
  have HB := Lib.hid (fun W => of_any b b0 b1 W)
  have HN := Lib.hid (fun W => neg_any b (by unfold absI TOP; split <;> omega) W)
  have HP := Lib.hid (fun W => plus_any a b (by unfold absI TOP; split <;> split <;> omega) W)
  have HM := Lib.hid (fun W => plus_any a (-b) (by unfold absI TOP; split <;> split <;> omega) W)
  have HT := Lib.hid (fun W => times_any a b a0 a1 b0 b1 W)
  have hlt := prod_lt a0 a1 b0 b1
  have HC1 := Lib.hid (fun W => cut_any (a + b) (by unfold absI; split <;> omega) W)
  have HC2 := Lib.hid (fun W => cut_any (a + -b) (by unfold absI; split <;> omega) W)
  have HC3 := Lib.hid (fun W => cut_any (a * b) (by rw [absI_nat]; omega) W)
  rw [show a + -b = a - b from by omega] at HM HC2
  obtain ⟨A, eA⟩ : ∃ X, N a = X := ⟨_, rfl⟩
  obtain ⟨B, eB⟩ : ∃ X, N b = X := ⟨_, rfl⟩
  obtain ⟨B', eB'⟩ : ∃ X, N (-b) = X := ⟨_, rfl⟩
  obtain ⟨S, eS⟩ : ∃ X, N (a + b) = X := ⟨_, rfl⟩
  obtain ⟨D, eD⟩ : ∃ X, N (a - b) = X := ⟨_, rfl⟩
  obtain ⟨T, eT⟩ : ∃ X, N (a * b) = X := ⟨_, rfl⟩
  rw [eA] at HA HP HM; rw [eB] at HB HN HP; rw [eB'] at HN HM; rw [eS] at HP HC1; rw [eD] at HM HC2; rw [eT] at HT HC3
  obtain ⟨x, ex⟩ : ∃ X, cutI (a + b) = X := ⟨_, rfl⟩
  obtain ⟨y, ey⟩ : ∃ X, cutI (a - b) = X := ⟨_, rfl⟩
  obtain ⟨z, ez⟩ : ∃ X, cutI (a * b) = X := ⟨_, rfl⟩
  rw [ex] at H1 HC1; rw [ey] at H2 HC2; rw [ez] at H3 HC3
  clear hlt eA eB eB' eS eD eT ex ey ez wa wb
  go_enter Try.func5, Try.ntmps5
  go_wp2_with fail
  refine (HV.out _).mono ?_
  rintro e w1 ⟨rfl, k1⟩
  have B1 := Lib.hid k1
  clear k1
  go_wp2_with fail
  refine (H1.out _).mono ?_
  rintro e w2 ⟨rfl, rfl⟩
  go_wp2_with fail
  refine (H2.out _).mono ?_
  rintro e w3 ⟨rfl, rfl⟩
  go_wp2_with fail
  refine (H3.out _).mono ?_
  rintro e w4 ⟨rfl, k4⟩
  have B2 := Lib.hid (below_on B1.out B1.out.size k4)
  clear k4 B1
  go_wp2_with fail
  refine (HA.out _).mono ?_
  rintro e w5 ⟨rfl, k5⟩
  have B3 := Lib.hid (below_on B2.out B2.out.size k5)
  clear k5 B2
  go_wp2_with fail
  refine (HB.out _).mono ?_
  rintro e w6 ⟨rfl, k6⟩
  have B4 := Lib.hid (below_on B3.out B3.out.size k6)
  clear k6 B3
  go_wp2_with fail
  refine (HP.out _).mono ?_
  rintro e w7 ⟨rfl, k7⟩
  have B5 := Lib.hid (below_on B4.out B4.out.size k7)
  clear k7 B4
  go_wp2_with fail
  refine (HC1.out _).mono ?_
  rintro e w8 ⟨rfl, k8⟩
  have B6 := Lib.hid (below_on B5.out B5.out.size k8)
  clear k8 B5
  go_wp2_with fail
  refine (HA.out _).mono ?_
  rintro e w9 ⟨rfl, k9⟩
  have B7 := Lib.hid (below_on B6.out B6.out.size k9)
  clear k9 B6
  go_wp2_with fail
  refine (HB.out _).mono ?_
  rintro e v1 ⟨rfl, k1⟩
  have B8 := Lib.hid (below_on B7.out B7.out.size k1)
  clear k1 B7
  go_wp2_with fail
  refine (HN.out _).mono ?_
  rintro e v2 ⟨rfl, k2⟩
  have B9 := Lib.hid (below_on B8.out B8.out.size k2)
  clear k2 B8
  go_wp2_with fail
  refine (HM.out _).mono ?_
  rintro e v3 ⟨rfl, k3⟩
  have C1 := Lib.hid (below_on B9.out B9.out.size k3)
  clear k3 B9
  go_wp2_with fail
  refine (HC2.out _).mono ?_
  rintro e v4 ⟨rfl, k4⟩
  have C2 := Lib.hid (below_on C1.out C1.out.size k4)
  clear k4 C1
  go_wp2_with fail
  refine (HT.out _).mono ?_
  rintro e v5 ⟨rfl, k5⟩
  have C3 := Lib.hid (below_on C2.out C2.out.size k5)
  clear k5 C2
  go_wp2_with fail
  refine (HC3.out _).mono ?_
  rintro e v6 ⟨rfl, k6⟩
  have C4 := Lib.hid (below_on C3.out C3.out.size k6)
  clear k6 C3
  go_wp2
  go_ret
  exact ⟨rfl, C4.out⟩
set_option maxRecDepth 8000 in
set_option maxHeartbeats 1600000 in
theorem sums_law (ao : Option Addr) (cap : Nat) (L : List Int) (wL : ∀ x ∈ L, (Lit.int .i64 x).wf = true) (w : World) (h : Sl w ao L.length cap (ic L)) :
    Calls Try.prog 4 #[.slice ao L.length cap] w fun e w' => e = .returned (.bool true) ∧ Below w.heap.size w w' := by
  have HV := Lib.hid (fun W => walive_any W)
  by_cases hl : L.length ≤ 100
  · have H1 := Lib.hid (fun W (hb : Below w.heap.size w W) => sum_any W ao cap L (h.keeps hb) (by omega) (fun x hx => i64_wf (wL x hx)))
    have H2 := Lib.hid (fun W (hb : Below w.heap.size w W) => rsum_any W ao cap L (h.keeps hb) (by omega) (fun x hx => i64_wf (wL x hx)))
    obtain ⟨x, ex⟩ : ∃ X, cutI (sumI L) = X := ⟨_, rfl⟩
    rw [ex] at H1 H2
    clear ex h wL
    go_enter Try.func4, Try.ntmps4
    go_wp2_with fail
    refine (HV.out _).mono ?_
    rintro e w1 ⟨rfl, k1⟩
    go_wp2_with fail
    refine (H1.out _ k1).mono ?_
    rintro e w2 ⟨rfl, rfl⟩
    go_wp2_with fail
    refine (H2.out _ k1).mono ?_
    rintro e w3 ⟨rfl, k3⟩
    have B3 := Lib.hid (below_on k1 k1.size k3)
    clear k1 k3
    go_wp2
    go_ret
    exact ⟨rfl, B3.out⟩
  · have hr := h.room
    have h100 : 100 < L.length := by omega
    clear h hl wL
    go_enter Try.func4, Try.ntmps4
    go_wp2_with fail
    refine (HV.out _).mono ?_
    rintro e w1 ⟨rfl, k1⟩
    go_wp2
    go_ret
    exact ⟨rfl, k1⟩
end Go.Proofs.Ytfjgafkhhjipbaa
