/-
  rate.Points at a float above nought and at most a hundred.
-/
import Derived.Test.YtaineoceiciloaaRtFb
import Derived.Laws.Bits64b
set_option linter.unusedVariables false
set_option linter.unusedSimpArgs false
namespace Go.Proofs.Ytaineoceiciloaa
open Go.RowKit

theorem low_eq (e f : Nat) (hf : f < 4503599627370496) : (4503599627370496 * e + f) % 4503599627370496 = f := by omega
theorem low_div (x e f : Nat) (hx : x = 4503599627370496 * e + f) (hf : f < 4503599627370496) : (x : Int) / 4503599627370496 = (e : Int) := by omega
theorem low_lt (e f : Nat) (hf : f < 4503599627370496) (he : e ≤ 1075) : 4503599627370496 * e + f < 18446744073709551616 := by omega
theorem hun_lt (f : Nat) (hf : f < 4503599627370496) : 100 * (4503599627370496 + f) < 18446744073709551616 := by omega
theorem and_low (x : Nat) (h : x < 18446744073709551616) : bits BinOp.and IntKind.u64 (x : Int) 4503599627370495 = ((x % 4503599627370496 : Nat) : Int) := by
  have h1 := bits_and_u64_nat x 4503599627370495 h (by decide)
  have h2 : x &&& 4503599627370495 = x % 4503599627370496 := Nat.and_two_pow_sub_one_eq_mod x 52
  rw [h2] at h1
  exact h1
theorem or_top (f : Nat) (h : f < 4503599627370496) : bits BinOp.or IntKind.u64 (f : Int) 4503599627370496 = ((4503599627370496 + f : Nat) : Int) := by
  have h1 := bits_or_u64_nat f 4503599627370496 (by omega) (by decide)
  have h2 : f ||| 4503599627370496 = 4503599627370496 + f := by
    have := Nat.two_pow_add_eq_or_of_lt (i := 52) (b := f) h 1
    rw [Nat.or_comm]
    simpa using this.symm
  rw [h2] at h1
  exact h1
theorem wrapU (n : Nat) (h : n < 18446744073709551616) : IntKind.u64.wrap (n : Int) = n := by
  rw [IntKind.wrap_u64]; omega
theorem wrapU100 (m : Nat) (h : 100 * m < 18446744073709551616) : IntKind.u64.wrap ((m : Int) * 100) = ((100 * m : Nat) : Int) := by
  rw [IntKind.wrap_u64]; omega
theorem wrapS (n : Nat) (h : n ≤ 100000) : wrap64 (n : Int) = n := by unfold wrap64; omega
theorem wrapSd (e d : Nat) (h : e + d = 1075) : wrap64 ((e : Int) - 1075) = -(d : Int) := by unfold wrap64; omega
/-- The shifts' numbers. -/
theorem sh1 (d : Nat) (h : d ≤ 60) : min d 64 = d := by omega
theorem two_lt (d : Nat) (h : d ≤ 60) : 2 ^ d < 18446744073709551616 := Nat.lt_of_le_of_lt (Nat.pow_le_pow_right (by decide) h) (by decide)
theorem powI (d : Nat) : (2 : Int) ^ d = ((2 ^ d : Nat) : Int) := by simp
theorem wrap2 (d : Nat) (h : d ≤ 60) : IntKind.u64.wrap ((2 : Int) ^ d) = ((2 ^ d : Nat) : Int) := by rw [powI]; exact wrapU _ (two_lt d h)
theorem wrap21 (d : Nat) (h : d ≤ 60) : IntKind.u64.wrap (((2 ^ d : Nat) : Int) - 1) = ((2 ^ d - 1 : Nat) : Int) := by
  have h1 := two_lt d h
  have h2 := Nat.two_pow_pos d
  have h3 : (((2 ^ d : Nat) : Int) - 1) = ((2 ^ d - 1 : Nat) : Int) := by omega
  rw [h3]; exact wrapU _ (by omega)
theorem wrapd1 (d : Nat) (h1 : 1 ≤ d) (h : d ≤ 60) : IntKind.u64.wrap ((d : Int) - 1) = ((d - 1 : Nat) : Int) := by
  rw [show (d : Int) - 1 = ((d - 1 : Nat) : Int) by omega]; exact wrapU _ (by omega)
theorem and_pow (n d : Nat) (hn : n < 18446744073709551616) (h : d ≤ 60) : bits BinOp.and IntKind.u64 (n : Int) ((2 ^ d - 1 : Nat) : Int) = ((n % 2 ^ d : Nat) : Int) := by
  have h1 := bits_and_u64_nat n (2 ^ d - 1) hn (by have := two_lt d h; omega)
  rw [Nat.and_two_pow_sub_one_eq_mod] at h1
  exact h1
theorem divI (n d : Nat) : (n : Int) / (2 : Int) ^ d = ((n / 2 ^ d : Nat) : Int) := by rw [powI]; omega
theorem not_ltI {a b : Nat} (h : b ≤ a) : ¬ (a : Int) < (b : Int) := by omega
theorem ltI {a b : Nat} (h : a < b) : (a : Int) < (b : Int) := by omega
theorem ne0I {e : Nat} (h : 1 ≤ e) : ((e : Int) == 0) = false := by simp; omega
theorem odd1 {o : Nat} (h : o % 2 = 1) : (o : Int) % 2 = 1 := by omega
theorem odd0 {o : Nat} (h : ¬ o % 2 = 1) : ((o : Int) % 2 == 1) = false := by simp; omega
theorem odd00 {o : Nat} (h : ¬ o % 2 = 1) : (o : Int) % 2 = 0 := by omega
theorem neI {r h : Nat} (hh : ¬ r = h) : ((r : Int) == (h : Int)) = false := by simp; omega
/-- A whole number of `2 ^ d`, to the nearest, ties to even. -/
def rhe (n d : Nat) : Nat := if 2 ^ (d - 1) < n % 2 ^ d ∨ (n % 2 ^ d = 2 ^ (d - 1) ∧ n / 2 ^ d % 2 = 1) then n / 2 ^ d + 1 else n / 2 ^ d
/-- Half of a whole number: what is left. -/
theorem rem_u2 {ops : Array Oper} {rest : List Oper} {op : Oper} {a : Act} {w : World} {Q : Exit → Act → World → Prop} (hw : Region.wanted op (yielded ops a.tmps) = true) (x : Operand) (ho : op.op = .binOp .rem 39 x (.const (.int .u64 2)) 39) (o : Nat) (hx : a.eval x = .int .u64 o) (b : Int) (hb : (o : Int) % 2 = b)
    (h : wpList Try.prog ops Q rest (a.put op.dst (.int .u64 b)) w) : wpList Try.prog ops Q (op :: rest) a w :=
  wpList_step fun _ hK => by
    rw [if_pos hw]
    have ht : (o : Int).tmod 2 = b := by rw [Int.tmod_eq_emod_of_nonneg (Int.natCast_nonneg o)]; exact hb
    have hy : a.eval (.const (.int .u64 2)) = .int .u64 2 := rfl
    unfold Oper.wp
    simp [execOp, ho, hx, hy, binOp_rem, Op.intDiv, ht, Result.andThen]
    exact hK _ _ h
set_option maxRecDepth 20000 in
set_option maxHeartbeats 1600000 in
/-- The walk, the numbers given. -/
theorem points_gt (w : World) (x e f d m n L : Nat) (o1 : FloatKind.f64.format.order x x = some .eq) (o2 : FloatKind.f64.format.order x 0 = some .gt) (o3 : FloatKind.f64.format.order x 4636737291354636288 ≠ some .gt)
    (hx64 : x < 18446744073709551616) (fe : (x : Int) / 4503599627370496 = (e : Int)) (ge0 : ((e : Int) == 0) = false) (w1 : wrap64 (e : Int) = e) (w2 : wrap64 ((e : Int) - 1075) = -(d : Int)) (w3 : wrap64 (d : Int) = d) (w4 : IntKind.u64.wrap (d : Int) = d)
    (b1 : bits BinOp.and IntKind.u64 (x : Int) 4503599627370495 = (f : Int)) (b2 : bits BinOp.or IntKind.u64 (f : Int) 4503599627370496 = (m : Int)) (b3 : IntKind.u64.wrap ((m : Int) * 100) = (n : Int)) (hn64 : n < 18446744073709551616) (hL : Lib.bitLen n = L) (w5 : IntKind.u64.wrap (L : Int) = L) (v : Int)
    (p p1 dm r o h : Nat) (hd60 : d ≤ 60 → min d 64 = d ∧ IntKind.u64.wrap ((2 : Int) ^ d) = (p : Int) ∧ IntKind.u64.wrap ((p : Int) - 1) = (p1 : Int) ∧ bits BinOp.and IntKind.u64 (n : Int) (p1 : Int) = (r : Int) ∧ (n : Int) / (2 : Int) ^ d = (o : Int) ∧ IntKind.u64.wrap ((d : Int) - 1) = (dm : Int) ∧ min dm 64 = dm ∧ IntKind.u64.wrap ((2 : Int) ^ dm) = (h : Int) ∧ o ≤ 99999) (hL60 : L ≤ 60)
    (hv : v = if L < d then 0 else if h < r ∨ (r = h ∧ o % 2 = 1) then (o : Int) + 1 else o) :
    Calls Try.prog 15 #[.float .f64 x] w fun e w' => e = .returned (.tuple #[.int .i64 v, .int .i64 0]) ∧ w' = w := by
  have HN := Lib.hid (isnan_x x _ o1 w)
  have hb := fun w => bits_runI x x rfl w
  have HLn := Lib.hid (fun W => len64_any n hn64 W)
  have q3 : (FloatKind.f64.format.order x 4636737291354636288 == some Ordering.gt) = false := by simpa using o3
  rw [hL] at HLn
  have HV := Lib.hid hv
  by_cases hdL : L < d
  · have hv0 : v = 0 := by rw [hv, if_pos hdL]
    subst hv0
    have hdI : (L : Int) < (d : Int) := ltI hdL
    clear hv HV o1 o3 hx64 hn64 hL hd60 hL60 hdL
    go_enter Try.func15, Try.ntmps15
    go_wp2_with fail
    refine HN.out.mono ?_
    rintro e w1 ⟨rfl, rfl⟩
    go_wp2_with fail
    refine (HLn.out _).mono ?_
    rintro e w2 ⟨rfl, rfl⟩
    go_wp2
    go_ret2
    exact ⟨rfl, rfl⟩
  · have hdLe := Nat.not_lt.1 hdL
    obtain ⟨s1, s2, s3, s4, s5, s6, s7, s8, s9⟩ := hd60 (Nat.le_trans hdLe hL60)
    have hdI : ¬ (L : Int) < (d : Int) := not_ltI hdLe
    have hv1 : v = if h < r ∨ (r = h ∧ o % 2 = 1) then (o : Int) + 1 else o := by rw [hv, if_neg hdL]
    have t1 : wrap64 (o : Int) = o := wrapS o (Nat.le_trans s9 (by decide))
    have t2 : IntKind.u64.wrap ((o : Int) + 1) = (o : Int) + 1 := by
      have := wrapU (o + 1) (Nat.lt_of_le_of_lt (Nat.succ_le_succ s9) (by decide))
      rwa [show ((o + 1 : Nat) : Int) = (o : Int) + 1 from rfl] at this
    have t3 : wrap64 ((o : Int) + 1) = (o : Int) + 1 := by
      have := wrapS (o + 1) (Nat.succ_le_succ s9)
      rwa [show ((o + 1 : Nat) : Int) = (o : Int) + 1 from rfl] at this
    have HV1 := Lib.hid hv1
    clear hv HV hv1 o1 o3 hx64 hn64 hL hd60 hL60 hdL hdLe s9
    have HT1 := Lib.hid t1
    have HT3 := Lib.hid t3
    by_cases c1 : h < r
    · have c1I : (h : Int) < (r : Int) := ltI c1
      have hv2 : v = (o : Int) + 1 := by rw [HV1.out, if_pos (.inl c1)]
      subst hv2
      clear HV1 c1
      go_enter Try.func15, Try.ntmps15
      go_wp2_with fail
      refine HN.out.mono ?_
      rintro e w1 ⟨rfl, rfl⟩
      go_wp2_with fail
      refine (HLn.out _).mono ?_
      rintro e w2 ⟨rfl, rfl⟩
      go_wp2
      go_ret2
      exact ⟨by show Ending.returned (.tuple #[.int .i64 (wrap64 ((o : Int) + 1)), .int .i64 0]) = _; rw [HT3.out], rfl⟩
    · have c1I : ¬ (h : Int) < (r : Int) := not_ltI (Nat.not_lt.1 c1)
      by_cases c2 : r = h
      · subst c2
        by_cases c3 : o % 2 = 1
        · have c3I : (o : Int) % 2 = 1 := odd1 c3
          have hv2 : v = (o : Int) + 1 := by rw [HV1.out, if_pos (.inr ⟨rfl, c3⟩)]
          subst hv2
          clear HV1 c1 c3
          go_enter Try.func15, Try.ntmps15
          go_wp2_with fail
          refine HN.out.mono ?_
          rintro e w1 ⟨rfl, rfl⟩
          go_wp2_with fail
          refine (HLn.out _).mono ?_
          rintro e w2 ⟨rfl, rfl⟩
          go_wp2_with (first | (refine rem_u2 (by rfl) _ rfl o rfl 1 c3I ?_) | fail)
          go_ret2
          exact ⟨by show Ending.returned (.tuple #[.int .i64 (wrap64 ((o : Int) + 1)), .int .i64 0]) = _; rw [HT3.out], rfl⟩
        · have c3I : (o : Int) % 2 = 0 := odd00 c3
          have hv2 : v = (o : Int) := by rw [HV1.out, if_neg (fun hh => hh.elim c1 (fun hh => c3 hh.2))]
          subst hv2
          clear HV1 c1 c3
          go_enter Try.func15, Try.ntmps15
          go_wp2_with fail
          refine HN.out.mono ?_
          rintro e w1 ⟨rfl, rfl⟩
          go_wp2_with fail
          refine (HLn.out _).mono ?_
          rintro e w2 ⟨rfl, rfl⟩
          go_wp2_with (first | (refine rem_u2 (by rfl) _ rfl o rfl 0 c3I ?_) | fail)
          go_ret2
          exact ⟨by show Ending.returned (.tuple #[.int .i64 (wrap64 (o : Int)), .int .i64 0]) = _; rw [HT1.out], rfl⟩
      · have c2I : ((r : Int) == (h : Int)) = false := neI c2
        have hv2 : v = (o : Int) := by rw [HV1.out, if_neg (fun hh => hh.elim c1 (fun hh => c2 hh.1))]
        subst hv2
        clear HV1 c1 c2
        go_enter Try.func15, Try.ntmps15
        go_wp2_with fail
        refine HN.out.mono ?_
        rintro e w1 ⟨rfl, rfl⟩
        go_wp2_with fail
        refine (HLn.out _).mono ?_
        rintro e w2 ⟨rfl, rfl⟩
        go_wp2
        go_ret2
        exact ⟨by show Ending.returned (.tuple #[.int .i64 (wrap64 (o : Int)), .int .i64 0]) = _; rw [HT1.out], rfl⟩
end Go.Proofs.Ytaineoceiciloaa
