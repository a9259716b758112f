/-
  Lines of a budget: the walks of budget.line, Right.
-/
import Derived.Test.YtikfclioplploaaBg
set_option linter.unusedVariables false
set_option linter.unusedSimpArgs false
namespace Go.Proofs.Ytikfclioplploaa
open Go.RowKit Dg

/-- Can a line be? Can lines be? -/
def okLn (t : Ln) : Bool := okM t.1 && decide (0 ≤ t.2.1) && decide (t.2.1 ≤ 10000) && okM t.2.2.1 && okM t.2.2.2 && decide (t.2.2.1 + t.2.2.2 ≤ capS t.1 t.2.1)
def rightL (L : List Ln) : Bool := decide (1 ≤ L.length) && decide (L.length ≤ 16) && L.all okLn
set_option maxRecDepth 8000 in
set_option maxHeartbeats 3200000 in
theorem line_any (b p x y : Int) (v : Bool) (hv : okLn (b, p, x, y) = v) (w : World) : Calls Try.prog 54 #[.agg #[.int .i64 b, .int .i64 p, .int .i64 x, .int .i64 y]] w fun e w' => e = .returned (.bool v) ∧ Below w.heap.size w w' := by
  have hv2 : (okM b && decide (0 ≤ p) && decide (p ≤ 10000) && okM x && okM y && decide (x + y ≤ capS b p)) = v := hv
  have HB := Lib.hid (below_new1 w (.cells #[.int .i64 b, .int .i64 p, .int .i64 x, .int .i64 y] 23))
  have HG := Lib.hid (Blk.new w 23 [.int .i64 b, .int .i64 p, .int .i64 x, .int .i64 y])
  have M1 := Lib.hid (fun W => money_any b W); have M2 := Lib.hid (fun W => money_any x W); have M3 := Lib.hid (fun W => money_any y W)
  have hG := HG.out
  have c0 := hG.cell 0 _ rfl; have c1 := hG.cell 1 _ rfl; have c2 := hG.cell 2 _ rfl; have c3 := hG.cell 3 _ rfl
  have hu := fun h1 h2 W => used_any b p x y h1 h2 W
  have hc := fun h1 h2 h3 W => cap_any b p x y h1 h2 h3 W
  obtain ⟨q, hq⟩ : ∃ q, capS b p = q := ⟨_, rfl⟩
  obtain ⟨m1, h1⟩ : ∃ m, okM b = m := ⟨_, rfl⟩
  obtain ⟨m2, h2⟩ : ∃ m, okM x = m := ⟨_, rfl⟩
  obtain ⟨m3, h3⟩ : ∃ m, okM y = m := ⟨_, rfl⟩
  rw [hq] at hv2 hc; rw [h1] at hv2 M1 hc; rw [h2] at hv2 M2 hu; rw [h3] at hv2 M3 hu
  have HV := Lib.hid hv2
  have HU' := Lib.hid hu; have HC' := Lib.hid hc
  clear hv hv2 hG hq h1 h2 h3 hu hc
  go_enter Try.func54, Try.ntmps54
  go_wp2_with fail
  refine (M1.out _).mono ?_
  rintro e w1 ⟨rfl, rfl⟩
  cases m1 with
  | false =>
    have HF : Hid (v = false) := by show _ = _; rw [← HV.out]; simp
    clear HV HU' HC'
    go_wp2
    refine region_mono (by kernel_rfl) (by kernel_rfl) [some 27, some 28, some 29, some 30, some 31, some 32, some 33, some 34, some 2] (by kernel_rfl) w.heap.size w HB.out (Nat.le_refl _) (fun i v WW => match i with | 0 => v = .bool false | 1 => v = .bool false | 2 => v = undef | 3 => v = undef | 4 => v = undef | 5 => v = undef | 6 => v = undef | 7 => v = .bool false | 8 => v = .bool false | _ => True) ?_ ?_ ?_
    · intro i v WW WX h hbx
      rcases i with _ | _ | _ | _ | _ | _ | _ | _ | _ | i
      · exact h
      · exact h
      · exact h
      · exact h
      · exact h
      · exact h
      · exact h
      · exact h
      · exact h
      · trivial
    · intro iI oO V AC WW ho hf hbw K hK
      have hlt : iI < 9 := (Array.getElem?_eq_some_iff.1 ho).1
      rcases iI with _ | _ | _ | _ | _ | _ | _ | _ | _ | iI
      · obtain rfl := Option.some.inj (show some _ = some oO from ho)
        rw [if_pos (by rfl)]
        have q3 : AC.tmps.getD 3 undef = .bool false := hf.rest 3 (by kernel_rfl)
        go_simp
        exact hK _ _ (Below.refl _ _) rfl
      · obtain rfl := Option.some.inj (show some _ = some oO from ho)
        rw [if_pos (by rfl)]
        have q27 : AC.tmps.getD 27 undef = .bool false := ((hf.dep ⟨0, .data⟩ (by simp) rfl).2 27 rfl).trans (hf.dep ⟨0, .data⟩ (by simp) rfl).1
        go_simp
        exact hK _ _ (Below.refl _ _) rfl
      · obtain rfl := Option.some.inj (show some _ = some oO from ho)
        rw [if_neg (wanted_no (s := 28) rfl rfl rfl (by rw [hf.size]; simp) (((hf.dep ⟨1, .guard⟩ (by simp) rfl).2 28 rfl).trans (hf.dep ⟨1, .guard⟩ (by simp) rfl).1) rfl)]
        exact hK _ _ (Below.refl _ _) rfl
      · obtain rfl := Option.some.inj (show some _ = some oO from ho)
        rw [if_neg (wanted_no (s := 28) rfl rfl rfl (by rw [hf.size]; simp) (((hf.dep ⟨1, .guard⟩ (by simp) rfl).2 28 rfl).trans (hf.dep ⟨1, .guard⟩ (by simp) rfl).1) rfl)]
        exact hK _ _ (Below.refl _ _) rfl
      · obtain rfl := Option.some.inj (show some _ = some oO from ho)
        rw [if_neg (wanted_no (s := 28) rfl rfl rfl (by rw [hf.size]; simp) (((hf.dep ⟨1, .guard⟩ (by simp) rfl).2 28 rfl).trans (hf.dep ⟨1, .guard⟩ (by simp) rfl).1) rfl)]
        exact hK _ _ (Below.refl _ _) rfl
      · obtain rfl := Option.some.inj (show some _ = some oO from ho)
        rw [if_neg (wanted_no (s := 28) rfl rfl rfl (by rw [hf.size]; simp) (((hf.dep ⟨1, .guard⟩ (by simp) rfl).2 28 rfl).trans (hf.dep ⟨1, .guard⟩ (by simp) rfl).1) rfl)]
        exact hK _ _ (Below.refl _ _) rfl
      · obtain rfl := Option.some.inj (show some _ = some oO from ho)
        rw [if_neg (wanted_no (s := 28) rfl rfl rfl (by rw [hf.size]; simp) (((hf.dep ⟨1, .guard⟩ (by simp) rfl).2 28 rfl).trans (hf.dep ⟨1, .guard⟩ (by simp) rfl).1) rfl)]
        exact hK _ _ (Below.refl _ _) rfl
      · obtain rfl := Option.some.inj (show some _ = some oO from ho)
        rw [if_pos (by rfl)]
        have q28 : AC.tmps.getD 28 undef = .bool false := ((hf.dep ⟨1, .data⟩ (by simp) rfl).2 28 rfl).trans (hf.dep ⟨1, .data⟩ (by simp) rfl).1
        have q33 : AC.tmps.getD 33 undef = undef := ((hf.dep ⟨6, .data⟩ (by simp) rfl).2 33 rfl).trans (hf.dep ⟨6, .data⟩ (by simp) rfl).1
        go_simp
        exact hK _ _ (Below.refl _ _) rfl
      · obtain rfl := Option.some.inj (show some _ = some oO from ho)
        rw [if_pos (by rfl)]
        have q34 : AC.tmps.getD 34 undef = .bool false := ((hf.dep ⟨7, .data⟩ (by simp) rfl).2 34 rfl).trans (hf.dep ⟨7, .data⟩ (by simp) rfl).1
        go_simp
        exact hK _ _ (Below.refl _ _) rfl
      · omega
    · intro V WW hall hbw hBW
      have vv0 : V 0 = .bool false := hall 0 (by decide)
      have vv1 : V 1 = .bool false := hall 1 (by decide)
      have vv2 : V 2 = undef := hall 2 (by decide)
      have vv3 : V 3 = undef := hall 3 (by decide)
      have vv4 : V 4 = undef := hall 4 (by decide)
      have vv5 : V 5 = undef := hall 5 (by decide)
      have vv6 : V 6 = undef := hall 6 (by decide)
      have vv7 : V 7 = .bool false := hall 7 (by decide)
      have vv8 : V 8 = .bool false := hall 8 (by decide)
      clear hall
      simp only [pairsOf, laid, Nat.zero_add, Nat.reduceAdd, vv0, vv1, vv2, vv3, vv4, vv5, vv6, vv7, vv8, List.setIfInBounds_toArray, List.set_cons_zero, List.set_cons_succ]
      clear vv0 vv1 vv2 vv3 vv4 vv5 vv6 vv7 vv8
      go_wp2
      go_ret
      exact ⟨by rw [HF.out]; rfl, hBW⟩
  | true =>
    by_cases p0 : 0 ≤ p
    · by_cases p1 : p ≤ 10000
      · go_wp2_with fail
        refine (M2.out _).mono ?_
        rintro e w2 ⟨rfl, rfl⟩
        cases m2 with
        | false =>
          have HF : Hid (v = false) := by show _ = _; rw [← HV.out]; simp
          clear HV HU' HC'
          go_wp2
          refine region_mono (by kernel_rfl) (by kernel_rfl) [some 27, some 28, some 29, some 30, some 31, some 32, some 33, some 34, some 2] (by kernel_rfl) w.heap.size w HB.out (Nat.le_refl _) (fun i v WW => match i with | 0 => v = .bool false | 1 => v = .bool false | 2 => v = undef | 3 => v = undef | 4 => v = undef | 5 => v = undef | 6 => v = undef | 7 => v = .bool false | 8 => v = .bool false | _ => True) ?_ ?_ ?_
          · intro i v WW WX h hbx
            rcases i with _ | _ | _ | _ | _ | _ | _ | _ | _ | i
            · exact h
            · exact h
            · exact h
            · exact h
            · exact h
            · exact h
            · exact h
            · exact h
            · exact h
            · trivial
          · intro iI oO V AC WW ho hf hbw K hK
            have hlt : iI < 9 := (Array.getElem?_eq_some_iff.1 ho).1
            rcases iI with _ | _ | _ | _ | _ | _ | _ | _ | _ | iI
            · obtain rfl := Option.some.inj (show some _ = some oO from ho)
              rw [if_pos (by rfl)]
              have q3 : AC.tmps.getD 3 undef = .bool false := hf.rest 3 (by kernel_rfl)
              go_simp
              exact hK _ _ (Below.refl _ _) rfl
            · obtain rfl := Option.some.inj (show some _ = some oO from ho)
              rw [if_pos (by rfl)]
              have q27 : AC.tmps.getD 27 undef = .bool false := ((hf.dep ⟨0, .data⟩ (by simp) rfl).2 27 rfl).trans (hf.dep ⟨0, .data⟩ (by simp) rfl).1
              go_simp
              exact hK _ _ (Below.refl _ _) rfl
            · obtain rfl := Option.some.inj (show some _ = some oO from ho)
              rw [if_neg (wanted_no (s := 28) rfl rfl rfl (by rw [hf.size]; simp) (((hf.dep ⟨1, .guard⟩ (by simp) rfl).2 28 rfl).trans (hf.dep ⟨1, .guard⟩ (by simp) rfl).1) rfl)]
              exact hK _ _ (Below.refl _ _) rfl
            · obtain rfl := Option.some.inj (show some _ = some oO from ho)
              rw [if_neg (wanted_no (s := 28) rfl rfl rfl (by rw [hf.size]; simp) (((hf.dep ⟨1, .guard⟩ (by simp) rfl).2 28 rfl).trans (hf.dep ⟨1, .guard⟩ (by simp) rfl).1) rfl)]
              exact hK _ _ (Below.refl _ _) rfl
            · obtain rfl := Option.some.inj (show some _ = some oO from ho)
              rw [if_neg (wanted_no (s := 28) rfl rfl rfl (by rw [hf.size]; simp) (((hf.dep ⟨1, .guard⟩ (by simp) rfl).2 28 rfl).trans (hf.dep ⟨1, .guard⟩ (by simp) rfl).1) rfl)]
              exact hK _ _ (Below.refl _ _) rfl
            · obtain rfl := Option.some.inj (show some _ = some oO from ho)
              rw [if_neg (wanted_no (s := 28) rfl rfl rfl (by rw [hf.size]; simp) (((hf.dep ⟨1, .guard⟩ (by simp) rfl).2 28 rfl).trans (hf.dep ⟨1, .guard⟩ (by simp) rfl).1) rfl)]
              exact hK _ _ (Below.refl _ _) rfl
            · obtain rfl := Option.some.inj (show some _ = some oO from ho)
              rw [if_neg (wanted_no (s := 28) rfl rfl rfl (by rw [hf.size]; simp) (((hf.dep ⟨1, .guard⟩ (by simp) rfl).2 28 rfl).trans (hf.dep ⟨1, .guard⟩ (by simp) rfl).1) rfl)]
              exact hK _ _ (Below.refl _ _) rfl
            · obtain rfl := Option.some.inj (show some _ = some oO from ho)
              rw [if_pos (by rfl)]
              have q28 : AC.tmps.getD 28 undef = .bool false := ((hf.dep ⟨1, .data⟩ (by simp) rfl).2 28 rfl).trans (hf.dep ⟨1, .data⟩ (by simp) rfl).1
              have q33 : AC.tmps.getD 33 undef = undef := ((hf.dep ⟨6, .data⟩ (by simp) rfl).2 33 rfl).trans (hf.dep ⟨6, .data⟩ (by simp) rfl).1
              go_simp
              exact hK _ _ (Below.refl _ _) rfl
            · obtain rfl := Option.some.inj (show some _ = some oO from ho)
              rw [if_pos (by rfl)]
              have q34 : AC.tmps.getD 34 undef = .bool false := ((hf.dep ⟨7, .data⟩ (by simp) rfl).2 34 rfl).trans (hf.dep ⟨7, .data⟩ (by simp) rfl).1
              go_simp
              exact hK _ _ (Below.refl _ _) rfl
            · omega
          · intro V WW hall hbw hBW
            have vv0 : V 0 = .bool false := hall 0 (by decide)
            have vv1 : V 1 = .bool false := hall 1 (by decide)
            have vv2 : V 2 = undef := hall 2 (by decide)
            have vv3 : V 3 = undef := hall 3 (by decide)
            have vv4 : V 4 = undef := hall 4 (by decide)
            have vv5 : V 5 = undef := hall 5 (by decide)
            have vv6 : V 6 = undef := hall 6 (by decide)
            have vv7 : V 7 = .bool false := hall 7 (by decide)
            have vv8 : V 8 = .bool false := hall 8 (by decide)
            clear hall
            simp only [pairsOf, laid, Nat.zero_add, Nat.reduceAdd, vv0, vv1, vv2, vv3, vv4, vv5, vv6, vv7, vv8, List.setIfInBounds_toArray, List.set_cons_zero, List.set_cons_succ]
            clear vv0 vv1 vv2 vv3 vv4 vv5 vv6 vv7 vv8
            go_wp2
            go_ret
            exact ⟨by rw [HF.out]; rfl, hBW⟩
        | true =>
          go_wp2_with fail
          refine (M3.out _).mono ?_
          rintro e w3 ⟨rfl, rfl⟩
          cases m3 with
          | false =>
            have HF : Hid (v = false) := by show _ = _; rw [← HV.out]; simp
            clear HV HU' HC'
            go_wp2
            refine region_mono (by kernel_rfl) (by kernel_rfl) [some 27, some 28, some 29, some 30, some 31, some 32, some 33, some 34, some 2] (by kernel_rfl) w.heap.size w HB.out (Nat.le_refl _) (fun i v WW => match i with | 0 => v = .bool false | 1 => v = .bool false | 2 => v = undef | 3 => v = undef | 4 => v = undef | 5 => v = undef | 6 => v = undef | 7 => v = .bool false | 8 => v = .bool false | _ => True) ?_ ?_ ?_
            · intro i v WW WX h hbx
              rcases i with _ | _ | _ | _ | _ | _ | _ | _ | _ | i
              · exact h
              · exact h
              · exact h
              · exact h
              · exact h
              · exact h
              · exact h
              · exact h
              · exact h
              · trivial
            · intro iI oO V AC WW ho hf hbw K hK
              have hlt : iI < 9 := (Array.getElem?_eq_some_iff.1 ho).1
              rcases iI with _ | _ | _ | _ | _ | _ | _ | _ | _ | iI
              · obtain rfl := Option.some.inj (show some _ = some oO from ho)
                rw [if_pos (by rfl)]
                have q3 : AC.tmps.getD 3 undef = .bool false := hf.rest 3 (by kernel_rfl)
                go_simp
                exact hK _ _ (Below.refl _ _) rfl
              · obtain rfl := Option.some.inj (show some _ = some oO from ho)
                rw [if_pos (by rfl)]
                have q27 : AC.tmps.getD 27 undef = .bool false := ((hf.dep ⟨0, .data⟩ (by simp) rfl).2 27 rfl).trans (hf.dep ⟨0, .data⟩ (by simp) rfl).1
                go_simp
                exact hK _ _ (Below.refl _ _) rfl
              · obtain rfl := Option.some.inj (show some _ = some oO from ho)
                rw [if_neg (wanted_no (s := 28) rfl rfl rfl (by rw [hf.size]; simp) (((hf.dep ⟨1, .guard⟩ (by simp) rfl).2 28 rfl).trans (hf.dep ⟨1, .guard⟩ (by simp) rfl).1) rfl)]
                exact hK _ _ (Below.refl _ _) rfl
              · obtain rfl := Option.some.inj (show some _ = some oO from ho)
                rw [if_neg (wanted_no (s := 28) rfl rfl rfl (by rw [hf.size]; simp) (((hf.dep ⟨1, .guard⟩ (by simp) rfl).2 28 rfl).trans (hf.dep ⟨1, .guard⟩ (by simp) rfl).1) rfl)]
                exact hK _ _ (Below.refl _ _) rfl
              · obtain rfl := Option.some.inj (show some _ = some oO from ho)
                rw [if_neg (wanted_no (s := 28) rfl rfl rfl (by rw [hf.size]; simp) (((hf.dep ⟨1, .guard⟩ (by simp) rfl).2 28 rfl).trans (hf.dep ⟨1, .guard⟩ (by simp) rfl).1) rfl)]
                exact hK _ _ (Below.refl _ _) rfl
              · obtain rfl := Option.some.inj (show some _ = some oO from ho)
                rw [if_neg (wanted_no (s := 28) rfl rfl rfl (by rw [hf.size]; simp) (((hf.dep ⟨1, .guard⟩ (by simp) rfl).2 28 rfl).trans (hf.dep ⟨1, .guard⟩ (by simp) rfl).1) rfl)]
                exact hK _ _ (Below.refl _ _) rfl
              · obtain rfl := Option.some.inj (show some _ = some oO from ho)
                rw [if_neg (wanted_no (s := 28) rfl rfl rfl (by rw [hf.size]; simp) (((hf.dep ⟨1, .guard⟩ (by simp) rfl).2 28 rfl).trans (hf.dep ⟨1, .guard⟩ (by simp) rfl).1) rfl)]
                exact hK _ _ (Below.refl _ _) rfl
              · obtain rfl := Option.some.inj (show some _ = some oO from ho)
                rw [if_pos (by rfl)]
                have q28 : AC.tmps.getD 28 undef = .bool false := ((hf.dep ⟨1, .data⟩ (by simp) rfl).2 28 rfl).trans (hf.dep ⟨1, .data⟩ (by simp) rfl).1
                have q33 : AC.tmps.getD 33 undef = undef := ((hf.dep ⟨6, .data⟩ (by simp) rfl).2 33 rfl).trans (hf.dep ⟨6, .data⟩ (by simp) rfl).1
                go_simp
                exact hK _ _ (Below.refl _ _) rfl
              · obtain rfl := Option.some.inj (show some _ = some oO from ho)
                rw [if_pos (by rfl)]
                have q34 : AC.tmps.getD 34 undef = .bool false := ((hf.dep ⟨7, .data⟩ (by simp) rfl).2 34 rfl).trans (hf.dep ⟨7, .data⟩ (by simp) rfl).1
                go_simp
                exact hK _ _ (Below.refl _ _) rfl
              · omega
            · intro V WW hall hbw hBW
              have vv0 : V 0 = .bool false := hall 0 (by decide)
              have vv1 : V 1 = .bool false := hall 1 (by decide)
              have vv2 : V 2 = undef := hall 2 (by decide)
              have vv3 : V 3 = undef := hall 3 (by decide)
              have vv4 : V 4 = undef := hall 4 (by decide)
              have vv5 : V 5 = undef := hall 5 (by decide)
              have vv6 : V 6 = undef := hall 6 (by decide)
              have vv7 : V 7 = .bool false := hall 7 (by decide)
              have vv8 : V 8 = .bool false := hall 8 (by decide)
              clear hall
              simp only [pairsOf, laid, Nat.zero_add, Nat.reduceAdd, vv0, vv1, vv2, vv3, vv4, vv5, vv6, vv7, vv8, List.setIfInBounds_toArray, List.set_cons_zero, List.set_cons_succ]
              clear vv0 vv1 vv2 vv3 vv4 vv5 vv6 vv7 vv8
              go_wp2
              go_ret
              exact ⟨by rw [HF.out]; rfl, hBW⟩
          | true =>
            have HT : Hid (v = decide (x + y ≤ q)) := by show _ = _; rw [← HV.out]; simp [p0, p1]
            have HU := Lib.hid (fun W => HU'.out (by trivial) (by trivial) W); have HC := Lib.hid (fun W => HC'.out (by trivial) p0 p1 W)
            clear HV HU' HC'
            go_wp2
            refine region_mono (by kernel_rfl) (by kernel_rfl) [some 27, some 28, some 29, some 30, some 31, some 32, some 33, some 34, some 2] (by kernel_rfl) w.heap.size w HB.out (Nat.le_refl _) (fun i v WW => match i with | 0 => v = .bool true | 1 => v = .bool true | 2 => v = .agg #[.int .i64 b, .int .i64 p, .int .i64 x, .int .i64 y] | 3 => v = .int .i64 (x + y) | 4 => v = .agg #[.int .i64 b, .int .i64 p, .int .i64 x, .int .i64 y] | 5 => v = .int .i64 q | 6 => v = .bool (decide (x + y ≤ q)) | 7 => v = .bool (decide (x + y ≤ q)) | 8 => v = .bool (decide (x + y ≤ q)) | _ => True) ?_ ?_ ?_
            · intro i v WW WX h hbx
              rcases i with _ | _ | _ | _ | _ | _ | _ | _ | _ | i
              · exact h
              · exact h
              · exact h
              · exact h
              · exact h
              · exact h
              · exact h
              · exact h
              · exact h
              · trivial
            · intro iI oO V AC WW ho hf hbw K hK
              have hlt : iI < 9 := (Array.getElem?_eq_some_iff.1 ho).1
              rcases iI with _ | _ | _ | _ | _ | _ | _ | _ | _ | iI
              · obtain rfl := Option.some.inj (show some _ = some oO from ho)
                rw [if_pos (by rfl)]
                have q3 : AC.tmps.getD 3 undef = .bool true := hf.rest 3 (by kernel_rfl)
                go_simp
                exact hK _ _ (Below.refl _ _) rfl
              · obtain rfl := Option.some.inj (show some _ = some oO from ho)
                rw [if_pos (by rfl)]
                have q27 : AC.tmps.getD 27 undef = .bool true := ((hf.dep ⟨0, .data⟩ (by simp) rfl).2 27 rfl).trans (hf.dep ⟨0, .data⟩ (by simp) rfl).1
                go_simp
                exact hK _ _ (Below.refl _ _) rfl
              · obtain rfl := Option.some.inj (show some _ = some oO from ho)
                rw [if_pos (wanted_yes (s := 28) rfl rfl rfl (by rw [hf.size]; simp) (((hf.dep ⟨1, .guard⟩ (by simp) rfl).2 28 rfl).trans (hf.dep ⟨1, .guard⟩ (by simp) rfl).1))]
                have q1 : AC.tmps.getD 1 undef = .pointer (some ⟨w.heap.size, 0, none⟩) := hf.rest 1 (by kernel_rfl)
                have hG := HG.out.keeps hbw
                have g0 := hG.cell 0 _ rfl; have g1 := hG.cell 1 _ rfl; have g2 := hG.cell 2 _ rfl; have g3 := hG.cell 3 _ rfl
                go_simp
                exact hK _ _ (Below.refl _ _) rfl
              · obtain rfl := Option.some.inj (show some _ = some oO from ho)
                rw [if_pos (wanted_yes (s := 28) rfl rfl rfl (by rw [hf.size]; simp) (((hf.dep ⟨1, .guard⟩ (by simp) rfl).2 28 rfl).trans (hf.dep ⟨1, .guard⟩ (by simp) rfl).1))]
                have q29 : AC.tmps.getD 29 undef = .agg #[.int .i64 b, .int .i64 p, .int .i64 x, .int .i64 y] := ((hf.dep ⟨2, .data⟩ (by simp) rfl).2 29 rfl).trans (hf.dep ⟨2, .data⟩ (by simp) rfl).1
                go_simp
                refine (HU.out WW).mono ?_
                rintro e w9 ⟨rfl, hb9⟩
                exact hK _ _ hb9 rfl
              · obtain rfl := Option.some.inj (show some _ = some oO from ho)
                rw [if_pos (wanted_yes (s := 28) rfl rfl rfl (by rw [hf.size]; simp) (((hf.dep ⟨1, .guard⟩ (by simp) rfl).2 28 rfl).trans (hf.dep ⟨1, .guard⟩ (by simp) rfl).1))]
                have q1 : AC.tmps.getD 1 undef = .pointer (some ⟨w.heap.size, 0, none⟩) := hf.rest 1 (by kernel_rfl)
                have hG := HG.out.keeps hbw
                have g0 := hG.cell 0 _ rfl; have g1 := hG.cell 1 _ rfl; have g2 := hG.cell 2 _ rfl; have g3 := hG.cell 3 _ rfl
                go_simp
                exact hK _ _ (Below.refl _ _) rfl
              · obtain rfl := Option.some.inj (show some _ = some oO from ho)
                rw [if_pos (wanted_yes (s := 28) rfl rfl rfl (by rw [hf.size]; simp) (((hf.dep ⟨1, .guard⟩ (by simp) rfl).2 28 rfl).trans (hf.dep ⟨1, .guard⟩ (by simp) rfl).1))]
                have q31 : AC.tmps.getD 31 undef = .agg #[.int .i64 b, .int .i64 p, .int .i64 x, .int .i64 y] := ((hf.dep ⟨4, .data⟩ (by simp) rfl).2 31 rfl).trans (hf.dep ⟨4, .data⟩ (by simp) rfl).1
                go_simp
                refine (HC.out WW).mono ?_
                rintro e w9 ⟨rfl, hb9⟩
                exact hK _ _ hb9 rfl
              · obtain rfl := Option.some.inj (show some _ = some oO from ho)
                rw [if_pos (wanted_yes (s := 28) rfl rfl rfl (by rw [hf.size]; simp) (((hf.dep ⟨1, .guard⟩ (by simp) rfl).2 28 rfl).trans (hf.dep ⟨1, .guard⟩ (by simp) rfl).1))]
                have q30 : AC.tmps.getD 30 undef = .int .i64 (x + y) := ((hf.dep ⟨3, .data⟩ (by simp) rfl).2 30 rfl).trans (hf.dep ⟨3, .data⟩ (by simp) rfl).1
                have q32 : AC.tmps.getD 32 undef = .int .i64 q := ((hf.dep ⟨5, .data⟩ (by simp) rfl).2 32 rfl).trans (hf.dep ⟨5, .data⟩ (by simp) rfl).1
                go_simp
                exact hK _ _ (Below.refl _ _) rfl
              · obtain rfl := Option.some.inj (show some _ = some oO from ho)
                rw [if_pos (by rfl)]
                have q28 : AC.tmps.getD 28 undef = .bool true := ((hf.dep ⟨1, .data⟩ (by simp) rfl).2 28 rfl).trans (hf.dep ⟨1, .data⟩ (by simp) rfl).1
                have q33 : AC.tmps.getD 33 undef = .bool (decide (x + y ≤ q)) := ((hf.dep ⟨6, .data⟩ (by simp) rfl).2 33 rfl).trans (hf.dep ⟨6, .data⟩ (by simp) rfl).1
                go_simp
                exact hK _ _ (Below.refl _ _) rfl
              · obtain rfl := Option.some.inj (show some _ = some oO from ho)
                rw [if_pos (by rfl)]
                have q34 : AC.tmps.getD 34 undef = .bool (decide (x + y ≤ q)) := ((hf.dep ⟨7, .data⟩ (by simp) rfl).2 34 rfl).trans (hf.dep ⟨7, .data⟩ (by simp) rfl).1
                go_simp
                exact hK _ _ (Below.refl _ _) rfl
              · omega
            · intro V WW hall hbw hBW
              have vv0 : V 0 = .bool true := hall 0 (by decide)
              have vv1 : V 1 = .bool true := hall 1 (by decide)
              have vv2 : V 2 = .agg #[.int .i64 b, .int .i64 p, .int .i64 x, .int .i64 y] := hall 2 (by decide)
              have vv3 : V 3 = .int .i64 (x + y) := hall 3 (by decide)
              have vv4 : V 4 = .agg #[.int .i64 b, .int .i64 p, .int .i64 x, .int .i64 y] := hall 4 (by decide)
              have vv5 : V 5 = .int .i64 q := hall 5 (by decide)
              have vv6 : V 6 = .bool (decide (x + y ≤ q)) := hall 6 (by decide)
              have vv7 : V 7 = .bool (decide (x + y ≤ q)) := hall 7 (by decide)
              have vv8 : V 8 = .bool (decide (x + y ≤ q)) := hall 8 (by decide)
              clear hall
              simp only [pairsOf, laid, Nat.zero_add, Nat.reduceAdd, vv0, vv1, vv2, vv3, vv4, vv5, vv6, vv7, vv8, List.setIfInBounds_toArray, List.set_cons_zero, List.set_cons_succ]
              clear vv0 vv1 vv2 vv3 vv4 vv5 vv6 vv7 vv8
              go_wp2
              go_ret
              exact ⟨by rw [HT.out]; rfl, hBW⟩
      · have HF : Hid (v = false) := by show _ = _; rw [← HV.out]; simp [p1]
        clear HV HU' HC'
        go_wp2
        refine region_mono (by kernel_rfl) (by kernel_rfl) [some 27, some 28, some 29, some 30, some 31, some 32, some 33, some 34, some 2] (by kernel_rfl) w.heap.size w HB.out (Nat.le_refl _) (fun i v WW => match i with | 0 => v = .bool false | 1 => v = .bool false | 2 => v = undef | 3 => v = undef | 4 => v = undef | 5 => v = undef | 6 => v = undef | 7 => v = .bool false | 8 => v = .bool false | _ => True) ?_ ?_ ?_
        · intro i v WW WX h hbx
          rcases i with _ | _ | _ | _ | _ | _ | _ | _ | _ | i
          · exact h
          · exact h
          · exact h
          · exact h
          · exact h
          · exact h
          · exact h
          · exact h
          · exact h
          · trivial
        · intro iI oO V AC WW ho hf hbw K hK
          have hlt : iI < 9 := (Array.getElem?_eq_some_iff.1 ho).1
          rcases iI with _ | _ | _ | _ | _ | _ | _ | _ | _ | iI
          · obtain rfl := Option.some.inj (show some _ = some oO from ho)
            rw [if_pos (by rfl)]
            have q3 : AC.tmps.getD 3 undef = .bool false := hf.rest 3 (by kernel_rfl)
            go_simp
            exact hK _ _ (Below.refl _ _) rfl
          · obtain rfl := Option.some.inj (show some _ = some oO from ho)
            rw [if_pos (by rfl)]
            have q27 : AC.tmps.getD 27 undef = .bool false := ((hf.dep ⟨0, .data⟩ (by simp) rfl).2 27 rfl).trans (hf.dep ⟨0, .data⟩ (by simp) rfl).1
            go_simp
            exact hK _ _ (Below.refl _ _) rfl
          · obtain rfl := Option.some.inj (show some _ = some oO from ho)
            rw [if_neg (wanted_no (s := 28) rfl rfl rfl (by rw [hf.size]; simp) (((hf.dep ⟨1, .guard⟩ (by simp) rfl).2 28 rfl).trans (hf.dep ⟨1, .guard⟩ (by simp) rfl).1) rfl)]
            exact hK _ _ (Below.refl _ _) rfl
          · obtain rfl := Option.some.inj (show some _ = some oO from ho)
            rw [if_neg (wanted_no (s := 28) rfl rfl rfl (by rw [hf.size]; simp) (((hf.dep ⟨1, .guard⟩ (by simp) rfl).2 28 rfl).trans (hf.dep ⟨1, .guard⟩ (by simp) rfl).1) rfl)]
            exact hK _ _ (Below.refl _ _) rfl
          · obtain rfl := Option.some.inj (show some _ = some oO from ho)
            rw [if_neg (wanted_no (s := 28) rfl rfl rfl (by rw [hf.size]; simp) (((hf.dep ⟨1, .guard⟩ (by simp) rfl).2 28 rfl).trans (hf.dep ⟨1, .guard⟩ (by simp) rfl).1) rfl)]
            exact hK _ _ (Below.refl _ _) rfl
          · obtain rfl := Option.some.inj (show some _ = some oO from ho)
            rw [if_neg (wanted_no (s := 28) rfl rfl rfl (by rw [hf.size]; simp) (((hf.dep ⟨1, .guard⟩ (by simp) rfl).2 28 rfl).trans (hf.dep ⟨1, .guard⟩ (by simp) rfl).1) rfl)]
            exact hK _ _ (Below.refl _ _) rfl
          · obtain rfl := Option.some.inj (show some _ = some oO from ho)
            rw [if_neg (wanted_no (s := 28) rfl rfl rfl (by rw [hf.size]; simp) (((hf.dep ⟨1, .guard⟩ (by simp) rfl).2 28 rfl).trans (hf.dep ⟨1, .guard⟩ (by simp) rfl).1) rfl)]
            exact hK _ _ (Below.refl _ _) rfl
          · obtain rfl := Option.some.inj (show some _ = some oO from ho)
            rw [if_pos (by rfl)]
            have q28 : AC.tmps.getD 28 undef = .bool false := ((hf.dep ⟨1, .data⟩ (by simp) rfl).2 28 rfl).trans (hf.dep ⟨1, .data⟩ (by simp) rfl).1
            have q33 : AC.tmps.getD 33 undef = undef := ((hf.dep ⟨6, .data⟩ (by simp) rfl).2 33 rfl).trans (hf.dep ⟨6, .data⟩ (by simp) rfl).1
            go_simp
            exact hK _ _ (Below.refl _ _) rfl
          · obtain rfl := Option.some.inj (show some _ = some oO from ho)
            rw [if_pos (by rfl)]
            have q34 : AC.tmps.getD 34 undef = .bool false := ((hf.dep ⟨7, .data⟩ (by simp) rfl).2 34 rfl).trans (hf.dep ⟨7, .data⟩ (by simp) rfl).1
            go_simp
            exact hK _ _ (Below.refl _ _) rfl
          · omega
        · intro V WW hall hbw hBW
          have vv0 : V 0 = .bool false := hall 0 (by decide)
          have vv1 : V 1 = .bool false := hall 1 (by decide)
          have vv2 : V 2 = undef := hall 2 (by decide)
          have vv3 : V 3 = undef := hall 3 (by decide)
          have vv4 : V 4 = undef := hall 4 (by decide)
          have vv5 : V 5 = undef := hall 5 (by decide)
          have vv6 : V 6 = undef := hall 6 (by decide)
          have vv7 : V 7 = .bool false := hall 7 (by decide)
          have vv8 : V 8 = .bool false := hall 8 (by decide)
          clear hall
          simp only [pairsOf, laid, Nat.zero_add, Nat.reduceAdd, vv0, vv1, vv2, vv3, vv4, vv5, vv6, vv7, vv8, List.setIfInBounds_toArray, List.set_cons_zero, List.set_cons_succ]
          clear vv0 vv1 vv2 vv3 vv4 vv5 vv6 vv7 vv8
          go_wp2
          go_ret
          exact ⟨by rw [HF.out]; rfl, hBW⟩
    · have HF : Hid (v = false) := by show _ = _; rw [← HV.out]; simp [p0]
      clear HV HU' HC'
      go_wp2
      refine region_mono (by kernel_rfl) (by kernel_rfl) [some 27, some 28, some 29, some 30, some 31, some 32, some 33, some 34, some 2] (by kernel_rfl) w.heap.size w HB.out (Nat.le_refl _) (fun i v WW => match i with | 0 => v = .bool false | 1 => v = .bool false | 2 => v = undef | 3 => v = undef | 4 => v = undef | 5 => v = undef | 6 => v = undef | 7 => v = .bool false | 8 => v = .bool false | _ => True) ?_ ?_ ?_
      · intro i v WW WX h hbx
        rcases i with _ | _ | _ | _ | _ | _ | _ | _ | _ | i
        · exact h
        · exact h
        · exact h
        · exact h
        · exact h
        · exact h
        · exact h
        · exact h
        · exact h
        · trivial
      · intro iI oO V AC WW ho hf hbw K hK
        have hlt : iI < 9 := (Array.getElem?_eq_some_iff.1 ho).1
        rcases iI with _ | _ | _ | _ | _ | _ | _ | _ | _ | iI
        · obtain rfl := Option.some.inj (show some _ = some oO from ho)
          rw [if_pos (by rfl)]
          have q3 : AC.tmps.getD 3 undef = .bool false := hf.rest 3 (by kernel_rfl)
          go_simp
          exact hK _ _ (Below.refl _ _) rfl
        · obtain rfl := Option.some.inj (show some _ = some oO from ho)
          rw [if_pos (by rfl)]
          have q27 : AC.tmps.getD 27 undef = .bool false := ((hf.dep ⟨0, .data⟩ (by simp) rfl).2 27 rfl).trans (hf.dep ⟨0, .data⟩ (by simp) rfl).1
          go_simp
          exact hK _ _ (Below.refl _ _) rfl
        · obtain rfl := Option.some.inj (show some _ = some oO from ho)
          rw [if_neg (wanted_no (s := 28) rfl rfl rfl (by rw [hf.size]; simp) (((hf.dep ⟨1, .guard⟩ (by simp) rfl).2 28 rfl).trans (hf.dep ⟨1, .guard⟩ (by simp) rfl).1) rfl)]
          exact hK _ _ (Below.refl _ _) rfl
        · obtain rfl := Option.some.inj (show some _ = some oO from ho)
          rw [if_neg (wanted_no (s := 28) rfl rfl rfl (by rw [hf.size]; simp) (((hf.dep ⟨1, .guard⟩ (by simp) rfl).2 28 rfl).trans (hf.dep ⟨1, .guard⟩ (by simp) rfl).1) rfl)]
          exact hK _ _ (Below.refl _ _) rfl
        · obtain rfl := Option.some.inj (show some _ = some oO from ho)
          rw [if_neg (wanted_no (s := 28) rfl rfl rfl (by rw [hf.size]; simp) (((hf.dep ⟨1, .guard⟩ (by simp) rfl).2 28 rfl).trans (hf.dep ⟨1, .guard⟩ (by simp) rfl).1) rfl)]
          exact hK _ _ (Below.refl _ _) rfl
        · obtain rfl := Option.some.inj (show some _ = some oO from ho)
          rw [if_neg (wanted_no (s := 28) rfl rfl rfl (by rw [hf.size]; simp) (((hf.dep ⟨1, .guard⟩ (by simp) rfl).2 28 rfl).trans (hf.dep ⟨1, .guard⟩ (by simp) rfl).1) rfl)]
          exact hK _ _ (Below.refl _ _) rfl
        · obtain rfl := Option.some.inj (show some _ = some oO from ho)
          rw [if_neg (wanted_no (s := 28) rfl rfl rfl (by rw [hf.size]; simp) (((hf.dep ⟨1, .guard⟩ (by simp) rfl).2 28 rfl).trans (hf.dep ⟨1, .guard⟩ (by simp) rfl).1) rfl)]
          exact hK _ _ (Below.refl _ _) rfl
        · obtain rfl := Option.some.inj (show some _ = some oO from ho)
          rw [if_pos (by rfl)]
          have q28 : AC.tmps.getD 28 undef = .bool false := ((hf.dep ⟨1, .data⟩ (by simp) rfl).2 28 rfl).trans (hf.dep ⟨1, .data⟩ (by simp) rfl).1
          have q33 : AC.tmps.getD 33 undef = undef := ((hf.dep ⟨6, .data⟩ (by simp) rfl).2 33 rfl).trans (hf.dep ⟨6, .data⟩ (by simp) rfl).1
          go_simp
          exact hK _ _ (Below.refl _ _) rfl
        · obtain rfl := Option.some.inj (show some _ = some oO from ho)
          rw [if_pos (by rfl)]
          have q34 : AC.tmps.getD 34 undef = .bool false := ((hf.dep ⟨7, .data⟩ (by simp) rfl).2 34 rfl).trans (hf.dep ⟨7, .data⟩ (by simp) rfl).1
          go_simp
          exact hK _ _ (Below.refl _ _) rfl
        · omega
      · intro V WW hall hbw hBW
        have vv0 : V 0 = .bool false := hall 0 (by decide)
        have vv1 : V 1 = .bool false := hall 1 (by decide)
        have vv2 : V 2 = undef := hall 2 (by decide)
        have vv3 : V 3 = undef := hall 3 (by decide)
        have vv4 : V 4 = undef := hall 4 (by decide)
        have vv5 : V 5 = undef := hall 5 (by decide)
        have vv6 : V 6 = undef := hall 6 (by decide)
        have vv7 : V 7 = .bool false := hall 7 (by decide)
        have vv8 : V 8 = .bool false := hall 8 (by decide)
        clear hall
        simp only [pairsOf, laid, Nat.zero_add, Nat.reduceAdd, vv0, vv1, vv2, vv3, vv4, vv5, vv6, vv7, vv8, List.setIfInBounds_toArray, List.set_cons_zero, List.set_cons_succ]
        clear vv0 vv1 vv2 vv3 vv4 vv5 vv6 vv7 vv8
        go_wp2
        go_ret
        exact ⟨by rw [HF.out]; rfl, hBW⟩
theorem right1_any (t : Ln) (w : World) :
    Calls Try.prog 53 #[.agg #[.int .i64 t.1, .int .i64 t.2.1, .int .i64 t.2.2.1, .int .i64 t.2.2.2]] w fun e w' => e = .returned (.bool (!okLn t)) ∧ Below w.heap.size w w' := by
  obtain ⟨b, p, x, y⟩ := t
  have H := Lib.hid (fun W => line_any b p x y _ rfl W)
  obtain ⟨v, hv⟩ : ∃ v, okLn (b, p, x, y) = v := ⟨_, rfl⟩
  rw [hv] at H ⊢
  have HG := Lib.hid (Blk.new w 23 [.int .i64 b, .int .i64 p, .int .i64 x, .int .i64 y])
  have HB := Lib.hid (below_new1 w (.cells #[.int .i64 b, .int .i64 p, .int .i64 x, .int .i64 y] 23))
  clear hv
  go_enter Try.func53, Try.ntmps53
  go_wp2_with fail
  refine (H.out _).mono ?_
  rintro e w1 ⟨rfl, hb⟩
  have HB1 := Lib.hid (below_on HB.out HB.out.size hb)
  cases v
  all_goals
    go_wp2
    go_ret
    exact ⟨rfl, HB1.out⟩
theorem all_takeL {L : List Ln} {k : Nat} {t : Ln} (h : L[k]? = some t) : (L.take (k + 1)).all okLn = ((L.take k).all okLn && okLn t) := by
  obtain ⟨hk, rfl⟩ := List.getElem?_eq_some_iff.1 h
  rw [List.take_succ_eq_append_getElem hk, List.all_append]; simp
set_option maxRecDepth 8000 in
set_option maxHeartbeats 1600000 in
theorem index_any (w : World) (ao : Option Addr) (cap : Nat) (L : List Ln) (h : SlL w ao cap L) (hl : L.length ≤ 100000) :
    Calls Try.prog 64 #[.slice ao L.length cap, .func (.func 53) #[] #[]] w fun e w' => (∃ i : Int, e = .returned (.int .i64 i) ∧ decide (0 ≤ i) = !L.all okLn) ∧ Below w.heap.size w w' := by
  go_enter Try.func64, Try.ntmps64
  go_wp2
  go_loopw [8] (fun i wr => ∃ k : Nat, k ≤ L.length ∧ i = .int .i64 k ∧ Hid ((L.take k).all okLn = true) ∧ Below w.heap.size w wr) (fun i _ => L.length - (intOf i).toNat)
  case atStart => exact ⟨0, by omega, rfl, by show _ = _; simp, Below.refl _ _⟩
  case round =>
    obtain ⟨k, hk, rfl, HK, hb⟩ := hrel
    by_cases hkl : k < L.length
    · obtain ⟨t, ht⟩ : ∃ t, L[k]? = some t := ⟨_, List.getElem?_eq_getElem hkl⟩
      have HT := Lib.hid ht
      clear ht
      have hw := h.keeps hb
      have HR := Lib.hid (right1_any t wr)
      go_wp2_with (refine ix_ln rfl _ _ rfl ao cap L hw rfl k t HT.out rfl ?_; intro b off c0 c1 c2 c3)
      refine HR.out.mono ?_
      rintro e w1 ⟨rfl, hb1⟩
      have HB := Lib.hid (below_on hb hb.size hb1)
      clear hb hb1 HR
      cases hv : okLn t with
      | true =>
        have HN : Hid ((L.take (k + 1)).all okLn = true) := by show _ = _; rw [all_takeL HT.out, HK.out]; exact hv
        clear hv
        go_wp2
        go_roundw
        · exact ⟨k + 1, by omega, by go_num, HN, HB.out⟩
        · simp [intOf]; omega
      | false =>
        have HN : Hid (L.all okLn = false) := by
          show _ = _
          rw [List.all_eq_false]
          exact ⟨t, List.mem_of_getElem? HT.out, by rw [hv]; decide⟩
        clear hv
        go_wp2
        go_ret
        exact ⟨⟨k, rfl, by rw [HN.out]; simp⟩, HB.out⟩
    · have HN : Hid (L.all okLn = true) := by
        have := HK.out
        rw [List.take_of_length_le (by omega)] at this
        exact this
      go_wp2
      go_ret
      exact ⟨⟨-1, rfl, by rw [HN.out]; decide⟩, hb⟩
theorem contains_any (w : World) (ao : Option Addr) (cap : Nat) (L : List Ln) (h : SlL w ao cap L) (hl : L.length ≤ 100000) :
    Calls Try.prog 52 #[.slice ao L.length cap, .func (.func 53) #[] #[]] w fun e w' => e = .returned (.bool (!L.all okLn)) ∧ Below w.heap.size w w' := by
  have H := Lib.hid (index_any w ao cap L h hl)
  obtain ⟨v, hv⟩ : ∃ v, L.all okLn = v := ⟨_, rfl⟩
  rw [hv] at H ⊢
  clear hv
  go_enter Try.func52, Try.ntmps52
  go_wp2_with fail
  refine H.out.mono ?_
  rintro e w1 ⟨⟨i, rfl, hi⟩, hb⟩
  have HI := Lib.hid hi
  clear hi
  go_wp2
  all_goals
    go_ret
    exact ⟨by rw [← HI.out]; simp; try omega, hb⟩
set_option maxRecDepth 8000 in
theorem bright_any (w : World) (ao : Option Addr) (cap : Nat) (L : List Ln) (h : SlL w ao cap L) (v : Bool) (hv : rightL L = v) :
    Calls Try.prog 44 #[.slice ao L.length cap] w fun e w' => e = .returned (.bool v) ∧ Below w.heap.size w w' := by
  by_cases h1 : 1 ≤ L.length
  · by_cases h16 : L.length ≤ 16
    · have H := Lib.hid (contains_any w ao cap L h (by omega))
      have HE : Hid (v = L.all okLn) := by show _ = _; rw [← hv, rightL]; simp [h1, h16]
      obtain ⟨q, hq⟩ : ∃ v, L.all okLn = v := ⟨_, rfl⟩
      rw [hq] at H HE
      have i1 : (1 : Int) ≤ L.length := by omega
      have i16 : (L.length : Int) ≤ 16 := by omega
      clear hq hv h
      go_enter Try.func44, Try.ntmps44
      go_wp2_with fail
      refine H.out.mono ?_
      rintro e w1 ⟨rfl, hb⟩
      cases q
      all_goals
        go_wp2
        go_ret
        exact ⟨by rw [HE.out]; rfl, hb⟩
    · have HF : Hid (v = false) := by show _ = _; rw [← hv, rightL]; simp [h16]
      have i16 : ¬ (L.length : Int) ≤ 16 := by omega
      have i1 : (1 : Int) ≤ L.length := by omega
      have hr := h.room
      clear hv h
      go_enter Try.func44, Try.ntmps44
      go_wp2
      go_ret
      exact ⟨by rw [HF.out]; rfl, Below.refl _ _⟩
  · have HF : Hid (v = false) := by show _ = _; rw [← hv, rightL]; simp [h1]
    have i1 : ¬ (1 : Int) ≤ L.length := by omega
    clear hv h
    go_enter Try.func44, Try.ntmps44
    go_wp2
    go_ret
    exact ⟨by rw [HF.out]; rfl, Below.refl _ _⟩
end Go.Proofs.Ytikfclioplploaa
