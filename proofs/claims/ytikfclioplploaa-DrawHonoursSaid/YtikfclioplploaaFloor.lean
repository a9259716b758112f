/-
  The walks of wide.Floor and wide.Even, at any numbers.
-/
import Derived.Test.YtikfclioplploaaWideQ
set_option linter.unusedVariables false
set_option linter.unusedSimpArgs false
set_option maxRecDepth 20000
namespace Go.Proofs.Ytikfclioplploaa
open Go.RowKit Dg Go.Shelf

/-- A number of 128 bits and its sign as cells. -/
abbrev wc (m : Bool) (n : Nat) : Array Value := #[.bool m, .int .u64 ((n / 18446744073709551616 : Nat) : Int), .int .u64 ((n % 18446744073709551616 : Nat) : Int)]
theorem number_nat {z : Int} {q : Nat} {m : Bool} (hq : z.natAbs = q) (hm : decide (z < 0) = m) (w : World) :
    Calls Try.prog 60 #[.bool m, .int .u64 ((q / 18446744073709551616 : Nat) : Int), .int .u64 ((q % 18446744073709551616 : Nat) : Int)] w fun e w' => e = .returned (.tuple #[.int .i64 (cutI z).1, .int .i64 (cutI z).2]) ∧ w' = w := by
  have := number_any z w
  rw [absI_nat, hq, hm] at this
  exact this
theorem up_one {m : Bool} {q : Nat} (hq : q < 340282366920938463463374607431768211455 - 18446744073709551616) (w : World) :
    Calls Try.prog 59 #[.agg (wc m q), .bool true] w fun e w' => e = .returned (.agg (wc m (q + 1))) ∧ Below w.heap.size w w' := by
  have h := up_yes m (q / 18446744073709551616) (q % 18446744073709551616) (by omega) (by omega) w
  rw [Nat.div_add_mod'] at h
  exact h
set_option maxRecDepth 8000 in
set_option maxHeartbeats 800000 in
theorem floor_core (a b : Int) (c : Nat) (hc : c ≤ 9223372036854775807) (hc0 : 0 < c) (m u : Bool) (p q r q2 : Nat) (x : Int × Int) (hu : (m && decide (0 < r)) = u)
    (hP : ∀ W, Calls Try.prog 58 #[.int .i64 a, .int .i64 b] W fun e w' => e = .returned (.agg (wc m p)) ∧ Below W.heap.size W w')
    (hD : ∀ W, Calls Try.prog 57 #[.agg (wc m p), .int .u64 c] W fun e w' => e = .returned (.tuple #[.agg (wc m q), .int .u64 r]) ∧ Below W.heap.size W w')
    (hU : ∀ W, Calls Try.prog 59 #[.agg (wc m q), .bool u] W fun e w' => e = .returned (.agg (wc m q2)) ∧ Below W.heap.size W w')
    (hN : ∀ W, Calls Try.prog 60 #[.bool m, .int .u64 ((q2 / 18446744073709551616 : Nat) : Int), .int .u64 ((q2 % 18446744073709551616 : Nat) : Int)] W fun e w' => e = .returned (.tuple #[.int .i64 x.1, .int .i64 x.2]) ∧ w' = W) (w : World) :
    Calls Try.prog 48 #[.int .i64 a, .int .i64 b, .int .i64 c] w fun e w' => e = .returned (.tuple #[.int .i64 x.1, .int .i64 x.2]) ∧ Below w.heap.size w w' := by
  have HP := Lib.hid hP
  have HD := Lib.hid hD
  have HU := Lib.hid hU
  have HN := Lib.hid hN
  unfold wc at HP HD HU
  obtain ⟨ph, hph⟩ : ∃ n, p / 18446744073709551616 = n := ⟨_, rfl⟩
  obtain ⟨pl, hpl⟩ : ∃ n, p % 18446744073709551616 = n := ⟨_, rfl⟩
  obtain ⟨qh, hqh⟩ : ∃ n, q / 18446744073709551616 = n := ⟨_, rfl⟩
  obtain ⟨ql, hql⟩ : ∃ n, q % 18446744073709551616 = n := ⟨_, rfl⟩
  obtain ⟨sh, hsh⟩ : ∃ n, q2 / 18446744073709551616 = n := ⟨_, rfl⟩
  obtain ⟨sl, hsl⟩ : ∃ n, q2 % 18446744073709551616 = n := ⟨_, rfl⟩
  rw [hph, hpl] at HP HD
  rw [hqh, hql] at HD HU
  rw [hsh, hsl] at HU HN
  clear hph hpl hqh hql hsh hsl hP hD hU hN
  have h3 : (m = false ∧ u = false) ∨ (m = true ∧ 0 < r ∧ u = true) ∨ (m = true ∧ r = 0 ∧ u = false) := by
    cases m
    · exact .inl ⟨rfl, by rw [← hu]; rfl⟩
    · by_cases h : 0 < r
      · exact .inr (.inl ⟨rfl, h, by rw [← hu, decide_eq_true h]; rfl⟩)
      · exact .inr (.inr ⟨rfl, by omega, by rw [← hu, decide_eq_false h]; rfl⟩)
  clear hu
  rcases h3 with ⟨rfl, rfl⟩ | ⟨rfl, hr, rfl⟩ | ⟨rfl, rfl, rfl⟩
  all_goals
    go_enter Try.func48, Try.ntmps48
    go_wp2_with fail
    refine (HP.out _).mono ?_
    rintro e w1 ⟨rfl, hb1⟩
    have B1 := Lib.hid hb1
    clear hb1
    go_wp2_with fail
    refine (HD.out _).mono ?_
    rintro e w2 ⟨rfl, hb2⟩
    have B2 := Lib.hid (below_on B1.out B1.out.size hb2)
    clear hb2
    have HA := Lib.hid (fun mm => Blk.new w2 93 [.bool mm, .int .u64 qh, .int .u64 ql])
    have B3 := Lib.hid (fun o => B2.out.alloc B2.out.size o)
    go_wp2_with fail
    refine (HU.out _).mono ?_
    rintro e w3 ⟨rfl, hb3⟩
    have hA := (HA.out _).keeps hb3
    have A0 := hA.cell 0 _ rfl; have A1 := hA.cell 1 _ rfl; have A2 := hA.cell 2 _ rfl; have Af := hA.frozen; have An := hA.lt
    have hA4 := fun mm => ((hA.set 0 (.bool mm)).set 1 (.int .u64 sh)).set 2 (.int .u64 sl)
    have D0 := fun mm => (hA4 mm).cell 0 _ rfl; have D1 := fun mm => (hA4 mm).cell 1 _ rfl; have D2 := fun mm => (hA4 mm).cell 2 _ rfl
    have B4 := Lib.hid (below_on (B3.out _) (B3.out _).size hb3)
    have HB := Lib.hid B2.out.size
    clear hb3 hA hA4
    go_wp2_with fail
    refine (HN.out _).mono ?_
    rintro e w5 ⟨rfl, rfl⟩
    go_wp2
    refine bodyPost_ret (v := .tuple #[.int .i64 x.1, .int .i64 x.2]) (by simp [results, Try.results48, go_sem]) rfl ⟨rfl, ?_⟩
    have := HB.out
    exact ((B4.out.setCell (p := ⟨w2.heap.size, 0, none⟩) this _).setCell (p := ⟨w2.heap.size, 1, none⟩) this _).setCell (p := ⟨w2.heap.size, 2, none⟩) this _
/-- The nearest whole number. -/
def evQ (p c : Nat) : Nat := if c - p % c < p % c ∨ (p % c = c - p % c ∧ p / c % 2 = 1) then p / c + 1 else p / c
def evI (z : Int) (c : Nat) : Int := if z < 0 then -(evQ z.natAbs c : Int) else evQ z.natAbs c
theorem floor_neg (p c : Nat) (hc : 0 < c) : (-(p : Int)) / (c : Int) = -(((if 0 < p % c then p / c + 1 else p / c : Nat)) : Int) := by
  have e := Nat.div_add_mod p c
  have hr := Nat.mod_lt p hc
  generalize p / c = q at *
  generalize p % c = r at *
  have e' : (c : Int) * q + r = p := by exact_mod_cast e
  by_cases h : 0 < r
  · rw [if_pos h]
    refine ((Int.ediv_emod_unique (r := (c : Int) - r) (q := -((q + 1 : Nat) : Int)) (by omega)).2 ⟨?_, by omega, by omega⟩).1
    rw [← e', Int.natCast_add, Int.mul_neg, Int.mul_add]; omega
  · rw [if_neg h]
    have h0 : r = 0 := by omega
    subst h0
    refine ((Int.ediv_emod_unique (r := 0) (q := -(q : Int)) (by omega)).2 ⟨?_, by omega, by omega⟩).1
    rw [← e', Int.mul_neg]; omega
theorem prod_wc (a b : Int) (ha0 : -9223372036854775808 ≤ a) (ha1 : a ≤ 9223372036854775807) (hb0 : -9223372036854775808 ≤ b) (hb1 : b ≤ 9223372036854775807) (w : World) :
    Calls Try.prog 58 #[.int .i64 a, .int .i64 b] w fun e w' => e = .returned (.agg (wc (decide (a * b < 0)) (a * b).natAbs)) ∧ Below w.heap.size w w' := by
  have h := product_any a b ha0 ha1 hb0 hb1 w
  rw [← wh_of (absI_nat (a * b)) rfl] at h
  exact h
theorem prod_lt {a b : Int} (ha0 : -9223372036854775808 ≤ a) (ha1 : a ≤ 9223372036854775807) (hb0 : -9223372036854775808 ≤ b) (hb1 : b ≤ 9223372036854775807) : (a * b).natAbs ≤ 85070591730234615865843651857942052864 := by
  rw [Int.natAbs_mul]
  have : a.natAbs * b.natAbs ≤ 9223372036854775808 * 9223372036854775808 := Nat.mul_le_mul (by omega) (by omega)
  omega
theorem div_wc (m : Bool) (p c : Nat) (hp : p ≤ 85070591730234615865843651857942052864) (hc : c ≤ 9223372036854775807) (hc0 : 0 < c) (hD : DivOk (p / 18446744073709551616 % c) (p % 18446744073709551616) c) (w : World) :
    Calls Try.prog 57 #[.agg (wc m p), .int .u64 c] w fun e w' => e = .returned (.tuple #[.agg (wc m (p / c)), .int .u64 ((p % c : Nat) : Int)]) ∧ Below w.heap.size w w' := by
  have h := wdivide_any m (p / 18446744073709551616) (p % 18446744073709551616) c (by omega) (by omega) (by omega) hc0 hD w
  rw [Nat.div_add_mod'] at h
  exact h
theorem div_small {p c : Nat} (hp : p ≤ 85070591730234615865843651857942052864) : p / c ≤ 85070591730234615865843651857942052864 := Nat.le_trans (Nat.div_le_self _ _) hp
theorem wfloor_any (a b : Int) (c : Nat) (ha0 : -9223372036854775808 ≤ a) (ha1 : a ≤ 9223372036854775807) (hb0 : -9223372036854775808 ≤ b) (hb1 : b ≤ 9223372036854775807) (hc0 : 0 < c) (hc : c ≤ 9223372036854775807)
    (hD : DivOk ((a * b).natAbs / 18446744073709551616 % c) ((a * b).natAbs % 18446744073709551616) c) (w : World) :
    Calls Try.prog 48 #[.int .i64 a, .int .i64 b, .int .i64 c] w fun e w' => e = .returned (.tuple #[.int .i64 (cutI (a * b / (c : Int))).1, .int .i64 (cutI (a * b / (c : Int))).2]) ∧ Below w.heap.size w w' := by
  have hp := prod_lt ha0 ha1 hb0 hb1
  have hP := prod_wc a b ha0 ha1 hb0 hb1
  generalize a * b = z at *
  have hq := div_small (c := c) hp
  have hdiv := fun W => div_wc (decide (z < 0)) z.natAbs c hp hc hc0 hD W
  have hzz : z / (c : Int) = if z < 0 then -(((if 0 < z.natAbs % c then z.natAbs / c + 1 else z.natAbs / c : Nat)) : Int) else ((z.natAbs / c : Nat) : Int) := by
    split
    · rw [← floor_neg _ _ hc0]; congr 1; omega
    · rw [Int.natCast_ediv]; congr 1; omega
  have hzn : z < 0 → 0 < z.natAbs % c ∨ 0 < z.natAbs / c := by
    intro h
    have := Nat.div_add_mod z.natAbs c
    rcases Nat.eq_zero_or_pos (z.natAbs % c) with h1 | h1
    · right
      apply Nat.pos_of_ne_zero
      intro h2
      rw [h1, h2] at this; omega
    · exact .inl h1
  generalize z.natAbs / c = q at *
  generalize z.natAbs % c = r at *
  refine floor_core a b c hc hc0 (decide (z < 0)) _ z.natAbs q r (if (decide (z < 0) && decide (0 < r)) = true then q + 1 else q) (cutI (z / (c : Int))) rfl hP hdiv (fun W => ?_) (fun W => ?_) w
  · cases hu : (decide (z < 0) && decide (0 < r)) with
    | true => rw [if_pos rfl]; exact up_one (by omega) W
    | false => rw [if_neg (by decide)]; exact up_no _ _ _ W
  · refine number_nat ?_ ?_ W
    · rw [hzz]
      by_cases hz : z < 0
      · rw [if_pos hz]
        by_cases h : 0 < r <;> simp [hz, h] <;> omega
      · rw [if_neg hz]; simp [hz]
    · rw [hzz]
      by_cases hz : z < 0
      · rw [if_pos hz]
        rcases hzn hz with h | h
        · simp [hz, h] <;> omega
        · by_cases h2 : 0 < r <;> simp [hz, h2] <;> omega
      · rw [if_neg hz]; simp [hz]
theorem wfloor_zero (a b c : Int) (hc : c ≤ 0) (w : World) : Calls Try.prog 48 #[.int .i64 a, .int .i64 b, .int .i64 c] w fun e w' => e = .returned (.tuple #[.int .i64 0, .int .i64 12]) ∧ w' = w := by
  go_enter Try.func48, Try.ntmps48
  go_wp2
  go_ret2
  exact ⟨rfl, rfl⟩
end Go.Proofs.Ytikfclioplploaa
