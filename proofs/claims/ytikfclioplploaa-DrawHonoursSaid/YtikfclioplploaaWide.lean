/-
  The walks of wide: size, product, number, Add, Sub, Mul, at any numbers.
-/
import Derived.Test.YtikfclioplploaaCompare
import Derived.Test.YtikfclioplploaaCutI
import Derived.Shelf.Bits.Mul64
import Derived.Laws.BitsAllLaws
import Derived.Laws.Externs
set_option linter.unusedVariables false
set_option linter.unusedSimpArgs false
set_option maxRecDepth 20000
namespace Go.Proofs.Ytikfclioplploaa
open Go.RowKit Dg Go.Shelf

def renM : Go.Shelf.Ren := { f := fun k => if k = 264 then 73 else 0, t := fun k => if k = 46 then 123 else 78, g := fun k => k }
theorem layM : Lays.n264 Try.prog renM where
  mixed := by kernel_rfl
  f264 := by kernel_rfl
  t46 := by kernel_rfl
  a46 := fun w => by rfl
  z46 := fun w => by rfl
  v46 := fun w => by rfl
  t53 := by kernel_rfl
  a53 := fun w => by rfl
  z53 := fun w => by rfl
  v53 := fun w => by rfl
theorem mul64_any (x y : Nat) (hx : x < 18446744073709551616) (hy : y < 18446744073709551616) (w : World) :
    Calls Try.prog 73 #[.int .u64 x, .int .u64 y] w fun e w' => e = .returned (.tuple #[.int .u64 ((x * y / 18446744073709551616 : Nat) : Int), .int .u64 ((x * y % 18446744073709551616 : Nat) : Int)]) ∧ w' = w :=
  Any.bits_Mul64 layM x y hx hy w
theorem ret_u64 {a b : Int} (h : a = b) : Ending.returned (.int .u64 a) = .returned (.int .u64 b) := by rw [h]
theorem size_any (a : Int) (h0 : -9223372036854775808 ≤ a) (h1 : a ≤ 9223372036854775807) (w : World) : Calls Try.prog 74 #[.int .i64 a] w fun e w' => e = .returned (.int .u64 (a.natAbs : Int)) ∧ w' = w := by
  by_cases h : a < 0
  · go_enter Try.func74, Try.ntmps74
    go_wp2
    go_ret
    exact ⟨ret_u64 (by simp only [IntKind.wrap_u64]; omega), rfl⟩
  · go_enter Try.func74, Try.ntmps74
    go_wp2
    go_ret
    exact ⟨ret_u64 (by omega), rfl⟩
/-- A product, as the program has it: its sign, and its size in two parts. -/
def wh (z : Int) : Array Value := #[.bool (decide (z < 0)), .int .u64 (absI z / 18446744073709551616), .int .u64 (absI z % 18446744073709551616)]
theorem wh_of {z : Int} {p : Nat} {m : Bool} (hp : absI z = p) (hm : decide (z < 0) = m) : (#[.bool m, .int .u64 ((p / 18446744073709551616 : Nat) : Int), .int .u64 ((p % 18446744073709551616 : Nat) : Int)] : Array Value) = wh z := by
  unfold wh; rw [hp, hm]; simp
theorem absI_nat (z : Int) : absI z = (z.natAbs : Int) := by unfold absI; split <;> omega
theorem or_zero (p : Nat) (hp : p < 18446744073709551616 * 18446744073709551616) : ∃ o : Nat, bits .or .u64 ((p / 18446744073709551616 : Nat) : Int) ((p % 18446744073709551616 : Nat) : Int) = (o : Int) ∧ (o = 0 ↔ p = 0) := by
  refine ⟨_, u64_or_nat _ _ (Nat.div_lt_of_lt_mul hp) (Nat.mod_lt _ (by decide)), ?_⟩
  rw [Nat.or_eq_zero_iff]; omega
set_option maxRecDepth 8000 in
set_option maxHeartbeats 800000 in
theorem product_any (a b : Int) (ha0 : -9223372036854775808 ≤ a) (ha1 : a ≤ 9223372036854775807) (hb0 : -9223372036854775808 ≤ b) (hb1 : b ≤ 9223372036854775807) (w : World) :
    Calls Try.prog 58 #[.int .i64 a, .int .i64 b] w fun e w' => e = .returned (.agg (wh (a * b))) ∧ Below w.heap.size w w' := by
  have H1 := Lib.hid (fun W => size_any a ha0 ha1 W)
  have H2 := Lib.hid (fun W => size_any b hb0 hb1 W)
  have hm := fun W => mul64_any a.natAbs b.natAbs (by omega) (by omega) W
  have habs : absI (a * b) = ((a.natAbs * b.natAbs : Nat) : Int) := by rw [absI_nat, Int.natAbs_mul]
  have hlt : a.natAbs * b.natAbs < 18446744073709551616 * 18446744073709551616 := Nat.mul_lt_mul'' (by omega) (by omega)
  have hz : a.natAbs * b.natAbs = 0 ↔ a = 0 ∨ b = 0 := by rw [Nat.mul_eq_zero]; omega
  obtain ⟨p, hp⟩ : ∃ n, a.natAbs * b.natAbs = n := ⟨_, rfl⟩
  rw [hp] at hm habs hlt hz
  obtain ⟨o, ho, hoz⟩ := or_zero p hlt
  have hW := fun m => wh_of (m := m) habs
  obtain ⟨hi, hhi⟩ : ∃ n, p / 18446744073709551616 = n := ⟨_, rfl⟩
  obtain ⟨lo, hlo⟩ : ∃ n, p % 18446744073709551616 = n := ⟨_, rfl⟩
  have hsg : decide (a * b < 0) = ((decide (a < 0) != decide (b < 0)) && decide (¬ p = 0)) := by
    have h1 : (a * b < 0) ↔ (a < 0 ∧ 0 < b) ∨ (0 < a ∧ b < 0) := by
      constructor
      · intro h
        rcases Int.lt_trichotomy a 0 with ha | ha | ha
        · refine .inl ⟨ha, ?_⟩
          apply Int.lt_of_not_ge; intro hb
          have := Int.mul_nonneg_of_nonpos_of_nonpos (by omega : a ≤ 0) hb; omega
        · subst ha; simp at h
        · refine .inr ⟨ha, ?_⟩
          apply Int.lt_of_not_ge; intro hb
          have := Int.mul_nonneg (by omega : 0 ≤ a) hb; omega
      · rintro (⟨h1, h2⟩ | ⟨h1, h2⟩)
        · exact Int.mul_neg_of_neg_of_pos h1 h2
        · exact Int.mul_neg_of_pos_of_neg h1 h2
    rw [Bool.eq_iff_iff]
    simp [h1, hz]
    omega
  rw [hhi, hlo] at hm ho hW
  have HM := Lib.hid hm
  have HW := Lib.hid hW
  clear hm hp habs hhi hlo hlt hz hW
  have hZ := Blk.new w 93 [.bool false, .int .u64 0, .int .u64 0]
  have Zf := hZ.frozen; have Zn := hZ.lt
  have Z0 := hZ.cell 0 _ rfl; have Z1 := hZ.cell 1 _ rfl; have Z2 := hZ.cell 2 _ rfl
  have HSG := Lib.hid hsg
  have HO := Lib.hid ho
  have HOZ := Lib.hid hoz
  clear hsg ho hoz hZ
  have arms : ∀ (m : Bool), decide (a * b < 0) = m → (Ending.returned (.agg #[.bool m, .int .u64 hi, .int .u64 lo]) = Ending.returned (.agg (wh (a * b)))) := fun m hm => by rw [HW.out m hm]
  have hend : ∀ (m : Bool), decide (a * b < 0) = m → (Ending.returned (.agg #[.bool m, .int .u64 hi, .int .u64 lo]) = Ending.returned (.agg (wh (a * b)))) ∧ Below w.heap.size w (w.alloc (.cells #[.bool m, .int .u64 hi, .int .u64 lo] 93)) := fun m hm => ⟨arms m hm, below_new1 w _⟩
  have HE := Lib.hid hend
  clear arms hend
  cases sa : decide (a < 0)
  all_goals cases sb : decide (b < 0)
  all_goals (have HS := HSG.out; rw [sa, sb] at HS)
  · have HS2 := Lib.hid (HS.trans (show (false != false && decide ¬ p = 0) = false from rfl))
    clear HS
    go_enter Try.func58, Try.ntmps58
    go_wp2_with fail
    refine (H1.out _).mono ?_
    rintro e w1 ⟨rfl, rfl⟩
    go_wp2_with fail
    refine (H2.out _).mono ?_
    rintro e w1 ⟨rfl, rfl⟩
    go_wp2_with fail
    refine (HM.out _).mono ?_
    rintro e w1 ⟨rfl, rfl⟩
    go_wp2
    have hY := Blk.new w 93 [.bool false, .int .u64 hi, .int .u64 lo]
    have Y0 := hY.cell 0 _ rfl; have Y1 := hY.cell 1 _ rfl; have Y2 := hY.cell 2 _ rfl
    exact bodyPost_ret (v := .agg #[.bool false, .int .u64 hi, .int .u64 lo]) (by simp [results, Try.results58, go_sem, Y0, Y1, Y2]) rfl (HE.out false HS2.out)
  · by_cases hp0 : p = 0
    · have HS2 := Lib.hid (HS.trans (show (false != true && decide ¬ p = 0) = false by rw [decide_eq_false (by simpa using hp0)]; rfl))
      have ho := HO.out
      rw [HOZ.out.2 hp0] at ho
      clear HS hp0
      go_enter Try.func58, Try.ntmps58
      go_wp2_with fail
      refine (H1.out _).mono ?_
      rintro e w1 ⟨rfl, rfl⟩
      go_wp2_with fail
      refine (H2.out _).mono ?_
      rintro e w1 ⟨rfl, rfl⟩
      go_wp2_with fail
      refine (HM.out _).mono ?_
      rintro e w1 ⟨rfl, rfl⟩
      go_wp2
      have hY := Blk.new w 93 [.bool false, .int .u64 hi, .int .u64 lo]
      have Y0 := hY.cell 0 _ rfl; have Y1 := hY.cell 1 _ rfl; have Y2 := hY.cell 2 _ rfl
      exact bodyPost_ret (v := .agg #[.bool false, .int .u64 hi, .int .u64 lo]) (by simp [results, Try.results58, go_sem, Y0, Y1, Y2]) rfl (HE.out false HS2.out)
    · have HS2 := Lib.hid (HS.trans (show (false != true && decide ¬ p = 0) = true by rw [decide_eq_true hp0]; rfl))
      have ho := HO.out
      have ho0 : ((o : Int) != 0) = true := by have := mt HOZ.out.1 hp0; simp; omega
      clear HS hp0
      go_enter Try.func58, Try.ntmps58
      go_wp2_with fail
      refine (H1.out _).mono ?_
      rintro e w1 ⟨rfl, rfl⟩
      go_wp2_with fail
      refine (H2.out _).mono ?_
      rintro e w1 ⟨rfl, rfl⟩
      go_wp2_with fail
      refine (HM.out _).mono ?_
      rintro e w1 ⟨rfl, rfl⟩
      go_wp2
      have hY := Blk.new w 93 [.bool true, .int .u64 hi, .int .u64 lo]
      have Y0 := hY.cell 0 _ rfl; have Y1 := hY.cell 1 _ rfl; have Y2 := hY.cell 2 _ rfl
      exact bodyPost_ret (v := .agg #[.bool true, .int .u64 hi, .int .u64 lo]) (by simp [results, Try.results58, go_sem, Y0, Y1, Y2]) rfl (HE.out true HS2.out)
  · by_cases hp0 : p = 0
    · have HS2 := Lib.hid (HS.trans (show (true != false && decide ¬ p = 0) = false by rw [decide_eq_false (by simpa using hp0)]; rfl))
      have ho := HO.out
      rw [HOZ.out.2 hp0] at ho
      clear HS hp0
      go_enter Try.func58, Try.ntmps58
      go_wp2_with fail
      refine (H1.out _).mono ?_
      rintro e w1 ⟨rfl, rfl⟩
      go_wp2_with fail
      refine (H2.out _).mono ?_
      rintro e w1 ⟨rfl, rfl⟩
      go_wp2_with fail
      refine (HM.out _).mono ?_
      rintro e w1 ⟨rfl, rfl⟩
      go_wp2
      have hY := Blk.new w 93 [.bool false, .int .u64 hi, .int .u64 lo]
      have Y0 := hY.cell 0 _ rfl; have Y1 := hY.cell 1 _ rfl; have Y2 := hY.cell 2 _ rfl
      exact bodyPost_ret (v := .agg #[.bool false, .int .u64 hi, .int .u64 lo]) (by simp [results, Try.results58, go_sem, Y0, Y1, Y2]) rfl (HE.out false HS2.out)
    · have HS2 := Lib.hid (HS.trans (show (true != false && decide ¬ p = 0) = true by rw [decide_eq_true hp0]; rfl))
      have ho := HO.out
      have ho0 : ((o : Int) != 0) = true := by have := mt HOZ.out.1 hp0; simp; omega
      clear HS hp0
      go_enter Try.func58, Try.ntmps58
      go_wp2_with fail
      refine (H1.out _).mono ?_
      rintro e w1 ⟨rfl, rfl⟩
      go_wp2_with fail
      refine (H2.out _).mono ?_
      rintro e w1 ⟨rfl, rfl⟩
      go_wp2_with fail
      refine (HM.out _).mono ?_
      rintro e w1 ⟨rfl, rfl⟩
      go_wp2
      have hY := Blk.new w 93 [.bool true, .int .u64 hi, .int .u64 lo]
      have Y0 := hY.cell 0 _ rfl; have Y1 := hY.cell 1 _ rfl; have Y2 := hY.cell 2 _ rfl
      exact bodyPost_ret (v := .agg #[.bool true, .int .u64 hi, .int .u64 lo]) (by simp [results, Try.results58, go_sem, Y0, Y1, Y2]) rfl (HE.out true HS2.out)
  · have HS2 := Lib.hid (HS.trans (show (true != true && decide ¬ p = 0) = false from rfl))
    clear HS
    go_enter Try.func58, Try.ntmps58
    go_wp2_with fail
    refine (H1.out _).mono ?_
    rintro e w1 ⟨rfl, rfl⟩
    go_wp2_with fail
    refine (H2.out _).mono ?_
    rintro e w1 ⟨rfl, rfl⟩
    go_wp2_with fail
    refine (HM.out _).mono ?_
    rintro e w1 ⟨rfl, rfl⟩
    go_wp2
    have hY := Blk.new w 93 [.bool false, .int .u64 hi, .int .u64 lo]
    have Y0 := hY.cell 0 _ rfl; have Y1 := hY.cell 1 _ rfl; have Y2 := hY.cell 2 _ rfl
    exact bodyPost_ret (v := .agg #[.bool false, .int .u64 hi, .int .u64 lo]) (by simp [results, Try.results58, go_sem, Y0, Y1, Y2]) rfl (HE.out false HS2.out)
set_option maxRecDepth 8000 in
theorem number_any (z : Int) (w : World) :
    Calls Try.prog 60 #[.bool (decide (z < 0)), .int .u64 (absI z / 18446744073709551616), .int .u64 (absI z % 18446744073709551616)] w fun e w' => e = .returned (.tuple #[.int .i64 (cutI z).1, .int .i64 (cutI z).2]) ∧ w' = w := by
  have hz := absI_nat z
  obtain ⟨hi, hhi⟩ : ∃ n, absI z / 18446744073709551616 = n := ⟨_, rfl⟩
  obtain ⟨lo, hlo⟩ : ∃ n, absI z % 18446744073709551616 = n := ⟨_, rfl⟩
  have h0 : 0 ≤ hi := by omega
  have l0 : 0 ≤ lo := by omega
  have l1 : lo < 18446744073709551616 := by omega
  have HZ : Hid (hi * 18446744073709551616 + lo = z.natAbs) := by show _ = _; omega
  rw [hhi, hlo]
  clear hhi hlo hz
  by_cases hn : z < 0
  · have HN := Lib.hid hn
    rw [decide_eq_true hn]
    clear hn
    by_cases hh : hi = 0
    · subst hh
      by_cases hl : 9223372036854775808 < lo
      · have HC := Lib.hid (cutI_out (z := z) (by have := HZ.out; have := HN.out; omega))
        go_enter Try.func60, Try.ntmps60
        go_wp2
        go_ret2
        exact ⟨ret_two (by rw [HC.out]) (by rw [HC.out]), rfl⟩
      · have HC := Lib.hid (cutI_in (z := z) (by have := HZ.out; have := HN.out; omega) (by have := HN.out; omega))
        have HX : Hid (wrap64 (IntKind.u64.wrap (-lo)) = z) := by
          have := HZ.out; have := HN.out
          show _ = _
          simp only [IntKind.wrap_u64, wrap64]; omega
        go_enter Try.func60, Try.ntmps60
        go_wp2
        go_ret2
        exact ⟨ret_two (by rw [HC.out]; exact HX.out) (by rw [HC.out]), rfl⟩
    · have HC := Lib.hid (cutI_out (z := z) (by have := HZ.out; have := HN.out; omega))
      go_enter Try.func60, Try.ntmps60
      go_wp2
      go_ret2
      exact ⟨ret_two (by rw [HC.out]) (by rw [HC.out]), rfl⟩
  · have HN := Lib.hid hn
    rw [decide_eq_false hn]
    clear hn
    by_cases hh : hi = 0
    · subst hh
      by_cases hl : 9223372036854775807 < lo
      · have HC := Lib.hid (cutI_out (z := z) (by have := HZ.out; have := HN.out; omega))
        go_enter Try.func60, Try.ntmps60
        go_wp2
        go_ret2
        exact ⟨ret_two (by rw [HC.out]) (by rw [HC.out]), rfl⟩
      · have HC := Lib.hid (cutI_in (z := z) (by have := HN.out; omega) (by have := HZ.out; have := HN.out; omega))
        have HX : Hid (lo = z) := by
          have := HZ.out; have := HN.out
          show _ = _
          omega
        go_enter Try.func60, Try.ntmps60
        go_wp2
        go_ret2
        exact ⟨ret_two (by rw [HC.out]; exact HX.out) (by rw [HC.out]), rfl⟩
    · have HC := Lib.hid (cutI_out (z := z) (by have := HZ.out; have := HN.out; omega))
      go_enter Try.func60, Try.ntmps60
      go_wp2
      go_ret2
      exact ⟨ret_two (by rw [HC.out]) (by rw [HC.out]), rfl⟩
end Go.Proofs.Ytikfclioplploaa
