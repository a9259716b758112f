/-
  The reference's Points at any float: as rate.Points.
-/
import Derived.Test.YtaineoceiciloaaRtFd
import Derived.Test.YtaineoceiciloaaRtFf
import Derived.Test.YtaineoceiciloaaRtFh
import Derived.Lib.ItoaNum
set_option linter.unusedVariables false
set_option linter.unusedSimpArgs false
namespace Go.Proofs.Ytaineoceiciloaa
open Go.RowKit Ieee

theorem rhe_small {n d : Nat} (h : n < 2 ^ (d - 1)) (hd : 1 ≤ d) : rhe n d = 0 := by
  have h2 : (2 : Nat) ^ d = 2 * 2 ^ (d - 1) := by
    rw [Nat.mul_comm, ← Nat.pow_succ, Nat.succ_eq_add_one, Nat.sub_add_cancel hd]
  unfold rhe
  rw [h2]
  generalize (2 : Nat) ^ (d - 1) = S at *
  have h3 : n % (2 * S) = n := Nat.mod_eq_of_lt (by omega)
  have h4 : n / (2 * S) = 0 := Nat.div_eq_of_lt (by omega)
  rw [h3, h4, if_neg (by omega)]
theorem rhe_shift (n d k : Nat) (hd : 1 ≤ d) : rhe (n * 2 ^ k) (d + k) = rhe n d := by
  unfold rhe
  have h1 : d + k - 1 = d - 1 + k := by omega
  rw [h1, Nat.pow_add, Nat.pow_add]
  have hk := Nat.two_pow_pos k
  generalize (2 : Nat) ^ k = K at *
  generalize (2 : Nat) ^ d = D at *
  generalize (2 : Nat) ^ (d - 1) = H at *
  rw [Nat.mul_mod_mul_right, Nat.mul_div_mul_right _ _ hk]
  have e1 : (H * K < n % D * K) = (H < n % D) := propext (cmp_mul hk)
  have e2 : (n % D * K = H * K) = (n % D = H) := propext ⟨fun h => Nat.eq_of_mul_eq_mul_right hk h, fun h => by rw [h]⟩
  simp only [e1, e2]
theorem bitLen_lt (n : Nat) (h : n < 2 ^ 64) : n < 2 ^ Lib.bitLen n := by
  by_cases h0 : n = 0
  · subst h0; exact Nat.two_pow_pos _
  · exact (Lib.bitLenAux_bounds 64 n h h0).2.2
/-- What Points answers, of the value. -/
theorem pS_rhe {x : Nat} (hx : x < 18446744073709551616) (h1 : double.order x x = some .eq) (h2 : double.order x 0 = some .gt) (h3 : double.order x 4636737291354636288 ≠ some .gt) : pS x = (((rhe (100 * rv x) T74 : Nat) : Int), 0) := by
  have hle := top_exp (top_le hx h1 h2 h3)
  rw [pS_gt h1 h2 h3]
  have hxe := parts_eq x
  have hf : x % 4503599627370496 < 4503599627370496 := Nat.mod_lt _ (by decide)
  obtain ⟨e, he⟩ : ∃ e, x / 4503599627370496 = e := ⟨_, rfl⟩
  obtain ⟨f, hff⟩ : ∃ f, x % 4503599627370496 = f := ⟨_, rfl⟩
  unfold rv
  rw [he, hff] at hxe ⊢
  rw [he] at hle
  rw [hff] at hf
  by_cases h0 : e = 0
  · have hx52 : x < 4503599627370496 := by omega
    rw [if_pos h0, if_pos hx52]
    have hs : 100 * x < 2 ^ (T74 - 1) := by
      have h5 : 100 * x < 2 ^ 60 := by omega
      exact Nat.lt_of_lt_of_le h5 (Nat.pow_le_pow_right (by decide) (by rw [t74]; decide))
    rw [rhe_small hs (by rw [t74]; decide)]; rfl
  · have hx52 : ¬ x < 4503599627370496 := by omega
    rw [if_neg h0, if_neg hx52]
    have e1 : 100 * ((4503599627370496 + f) * 2 ^ (e - 1)) = 100 * (4503599627370496 + f) * 2 ^ (e - 1) := (Nat.mul_assoc _ _ _).symm
    have e2 : T74 = 1075 - e + (e - 1) := by rw [t74]; omega
    rw [e1, e2, rhe_shift _ _ _ (by omega)]
    split
    · rename_i hb
      have hn : 100 * (4503599627370496 + f) < 2 ^ 64 := by omega
      rw [rhe_small (Nat.lt_of_lt_of_le (bitLen_lt _ hn) (Nat.pow_le_pow_right (by decide) (by omega))) (by omega)]; rfl
    · rfl
set_option maxRecDepth 20000 in
theorem rpoints_bad (w : World) (x : Nat) (bg be lg le : Bool) (g1 : (FloatKind.f64.format.order x 0 == some .gt) = bg) (g2 : (FloatKind.f64.format.order x 0 == some .eq) = be)
    (l1 : (FloatKind.f64.format.order x 4636737291354636288 == some .lt) = lg) (l2 : (FloatKind.f64.format.order x 4636737291354636288 == some .eq) = le)
    (hb : (bg || be) = false ∨ (lg || le) = false) :
    Calls Try.prog 18 #[.float .f64 x] w fun e w' => e = .returned (.tuple #[.int .i64 0, .int .i64 51]) ∧ w' = w := by
  by_cases hg : (bg || be) = true
  · have hl : (lg || le) = false := by
      rcases hb with h | h
      · rw [hg] at h; cases h
      · exact h
    clear hb
    go_enter Try.func18, Try.ntmps18
    go_wp2
    go_ret2
    exact ⟨rfl, rfl⟩
  · have hg' : (bg || be) = false := by simpa using hg
    clear hb hg
    go_enter Try.func18, Try.ntmps18
    go_wp2
    go_ret2
    exact ⟨rfl, rfl⟩
theorem rv_hun : rv 4636737291354636288 = 100 * 2 ^ T74 := by unfold rv; decide +kernel
theorem ord_zero {s : Bool} {m : Nat} {i : Int} (h : Datum.order (.number s m i) (.number false 0 (-1074)) = some .eq) : m = 0 := by
  unfold Datum.order at h
  have hp := fun k => Nat.two_pow_pos k
  have hz : ∀ k, m * 2 ^ k = 0 → m = 0 := fun k h => by
    rcases Nat.mul_eq_zero.1 h with h | h
    · exact h
    · have := hp k; omega
  cases s with
  | false =>
    simp only [signed_pos, Nat.zero_mul, Option.some.injEq, Int.compare_eq_eq] at h
    generalize (i - min i (-1074)).toNat = k at h
    exact hz k (by omega)
  | true =>
    simp only [signed_pos, signed_neg, Nat.zero_mul, Option.some.injEq, Int.compare_eq_eq] at h
    generalize (i - min i (-1074)).toNat = k at h
    exact hz k (by omega)
/-- Nought, of either sign. -/
theorem zero_word {x : Nat} (hx : x < 18446744073709551616) (h : double.order x 0 = some .eq) : x = 0 ∨ x = 9223372036854775808 := by
  have hbn : double.binade = 4503599627370496 := by decide
  have hinf : double.infRung = 9218868437227405312 := by decide
  have hsw : double.signWeight = 9223372036854775808 := by decide
  have hlp : double.leastPlace = -1074 := by decide
  have r0 : double.read 0 = .number false 0 (-1074) := by decide +kernel
  unfold Format.order at h
  rw [r0] at h
  have key : x % 9223372036854775808 = 0 := by
    unfold Format.read at h
    simp only [hbn, hinf, hsw, hlp] at h
    by_cases h1 : x % 9223372036854775808 < 4503599627370496
    · rw [if_pos h1] at h
      exact ord_zero h
    · rw [if_neg h1] at h
      exfalso
      by_cases h2 : x % 9223372036854775808 < 9218868437227405312
      · rw [if_pos h2] at h
        have := ord_zero h
        omega
      · rw [if_neg h2] at h
        by_cases h3 : x % 9223372036854775808 = 9218868437227405312
        · rw [if_pos h3] at h
          unfold Datum.order at h
          simp at h
          split at h <;> cases h
        · rw [if_neg h3] at h
          unfold Datum.order at h
          cases h
  omega
/-- What the reference answers of V units. -/
theorem rpoints_val (w : World) (x W P0 c0 y0 V : Nat) (bg be lg le : Bool) (g1 : (FloatKind.f64.format.order x 0 == some .gt) = bg) (g2 : (FloatKind.f64.format.order x 0 == some .eq) = be)
    (l1 : (FloatKind.f64.format.order x 4636737291354636288 == some .lt) = lg) (l2 : (FloatKind.f64.format.order x 4636737291354636288 == some .eq) = le)
    (hg : (bg || be) = true) (hl : (lg || le) = true)
    (hw : floatToIntVal .f64 x .i64 = some (W : Int)) (hW : W ≤ 100) (hf : floatOfInt FloatKind.f64 (W : Int) = c0) (hs : FloatKind.f64.format.sub x c0 = some y0) (hp : Pt y0 P0) (hP0 : P0 < 2 ^ T74) (hr : Rep P0) (hV : V = W * 2 ^ T74 + P0) (s : Int) (hss : ((rhe (100 * V) T74 : Nat) : Int) = s) :
    Calls Try.prog 18 #[.float .f64 x] w fun e w' => e = .returned (.tuple #[.int .i64 s, .int .i64 0]) ∧ Below w.heap.size w w' := by
  refine (rpoints_walk w x W P0 c0 y0 bg be lg le g1 g2 l1 l2 hg hl hw hW hf hs hp hP0 hr).mono ?_
  rintro e w' ⟨L, O, c, rfl, hb, hd, hc⟩
  refine ⟨?_, hb⟩
  have h1 := hd.2.1
  rw [show ((0 : Nat) : Int) = 0 from rfl, Int.add_zero] at h1
  have h2 := hc.2.2.2.2
  rw [Nat.sub_self, List.drop_zero] at h2
  rw [refP_rhe hV h1 h2 hc.2.2.1 hc.1 hc.2.1, hss]
theorem ord_some_h {x : Nat} (o1 : double.order x x = some .eq) : double.order x 4636737291354636288 ≠ none := by
  have r0 : double.read 4636737291354636288 = .number false 7036874417766400 (-46) := by decide +kernel
  unfold Format.order at o1 ⊢
  rw [r0]
  cases e : double.read x with
  | number s m i => unfold Datum.order; simp
  | infinity s => unfold Datum.order; simp
  | nan s f => rw [e] at o1; unfold Datum.order at o1; simp at o1
theorem ord_self {x : Nat} (o : double.order x 0 = some .gt) : double.order x x = some .eq := by
  have r0 : double.read 0 = .number false 0 (-1074) := by decide +kernel
  unfold Format.order at o ⊢
  rw [r0] at o
  cases e : double.read x with
  | number s m i => unfold Datum.order; simp
  | infinity s => unfold Datum.order; simp
  | nan s f => rw [e] at o; unfold Datum.order at o; simp at o
theorem rpoints_any (w : World) (x : Nat) (hx : x < 18446744073709551616) (s : Int × Int) (hs : pS x = s) :
    Calls Try.prog 18 #[.float .f64 x] w fun e w' => e = .returned (.tuple #[.int .i64 s.1, .int .i64 s.2]) ∧ Below w.heap.size w w' := by
  by_cases hbad : ((double.order x 0 == some .gt) || (double.order x 0 == some .eq)) = false ∨ ((double.order x 4636737291354636288 == some .lt) || (double.order x 4636737291354636288 == some .eq)) = false
  · have e : s = (0, 51) := by
      rw [← hs]
      by_cases h1 : double.order x x = some .eq
      · rcases hbad with h | h
        · cases e : double.order x 0 with
          | none => exact absurd e (ord_some h1)
          | some o => cases o with
            | lt => exact pS_bad2 e
            | eq => rw [e] at h; cases h
            | gt => rw [e] at h; cases h
        · cases e : double.order x 4636737291354636288 with
          | none => exact absurd e (ord_some_h h1)
          | some o => cases o with
            | gt => exact pS_bad3 e
            | eq => rw [e] at h; cases h
            | lt => rw [e] at h; cases h
      · exact pS_bad1 h1
    subst e
    refine (rpoints_bad w x _ _ _ _ rfl rfl rfl rfl hbad).mono ?_
    rintro e w' ⟨h1, h2⟩
    rw [h2]
    exact ⟨h1, Below.refl _ _⟩
  · have hg : ((double.order x 0 == some .gt) || (double.order x 0 == some .eq)) = true := by
      cases h : ((double.order x 0 == some .gt) || (double.order x 0 == some .eq)) with
      | true => rfl
      | false => exact absurd (.inl h) hbad
    have hl : ((double.order x 4636737291354636288 == some .lt) || (double.order x 4636737291354636288 == some .eq)) = true := by
      cases h : ((double.order x 4636737291354636288 == some .lt) || (double.order x 4636737291354636288 == some .eq)) with
      | true => rfl
      | false => exact absurd (.inr h) hbad
    clear hbad
    have h3 : double.order x 4636737291354636288 ≠ some .gt := by
      intro h; rw [h] at hl; cases hl
    by_cases hz : double.order x 0 = some .eq
    · have hzz : s = (0, 0) := by
        rw [← hs]
        rcases zero_word hx hz with rfl | rfl
        · decide +kernel
        · decide +kernel
      subst hzz
      have hr0 : ((rhe (100 * 0) T74 : Nat) : Int) = 0 := by
        rw [rhe_small (Nat.two_pow_pos _) (by rw [t74]; decide)]; rfl
      rcases zero_word hx hz with rfl | rfl
      · exact rpoints_val w 0 0 0 0 0 0 _ _ _ _ rfl rfl rfl rfl hg hl (by decide +kernel) (by decide) (by decide +kernel) (by decide +kernel) (pt_of (by decide) rfl) (Nat.two_pow_pos _) ⟨0, 0, by decide, by decide⟩ (by omega) 0 hr0
      · exact rpoints_val w 9223372036854775808 0 0 0 9223372036854775808 0 _ _ _ _ rfl rfl rfl rfl hg hl (by decide +kernel) (by decide) (by decide +kernel) (by decide +kernel) ⟨by decide +kernel, fun h => absurd rfl h⟩ (Nat.two_pow_pos _) ⟨0, 0, by decide, by decide⟩ (by omega) 0 hr0
    · have h2 : double.order x 0 = some .gt := by
        rw [beq_eq_false_iff_ne.2 hz, Bool.or_false] at hg
        exact eq_of_beq hg
      have h1 := ord_self h2
      have hle := top_le hx h1 h2 h3
      have hinf : x < 9218868437227405312 := Nat.lt_of_le_of_lt hle (by decide)
      have hv : rv x ≤ 100 * 2 ^ T74 := by
        have := rv_mono hle
        rw [rv_hun] at this; exact this
      rw [pS_rhe hx h1 h2 h3] at hs
      subst hs
      obtain ⟨W, hW⟩ : ∃ W, rv x / 2 ^ T74 = W := ⟨_, rfl⟩
      have hTp := Nat.two_pow_pos T74
      have hW100 : W ≤ 100 := by
        rw [← hW]
        have := Nat.div_le_div_right (c := 2 ^ T74) hv
        rw [Nat.mul_div_cancel _ hTp] at this
        exact this
      have hsum : rv x = W * 2 ^ T74 + rv x % 2 ^ T74 := by
        rw [← hW, Nat.mul_comm]; exact (Nat.div_add_mod _ _).symm
      obtain ⟨c0, hc0, hcl, hcv⟩ := ofNat_rv W (by omega)
      have hlg : (rv x).log2 < 2000 := by
        refine Nat.lt_trans (log_T (k := T74 + 7) ?_ (by rw [t74]; decide)) (by decide)
        rw [Nat.pow_add, Nat.mul_comm]
        exact Nat.lt_of_le_of_lt hv (by rw [Nat.mul_comm 100]; rw [Nat.mul_comm (2 ^ 7)]; exact Nat.mul_lt_mul_of_pos_left (by decide) hTp)
      have hdiff : rv x - rv c0 = rv x % 2 ^ T74 := by rw [hcv]; omega
      obtain ⟨y0, hy0, hyl, hyv⟩ := sub_rv hinf (Nat.lt_trans hcl (by decide)) (by rw [hcv]; omega) (by rw [hdiff]; exact rep_mod (rep_rv hinf) _) hlg
      rw [hdiff] at hyv
      refine rpoints_val w x W (rv x % 2 ^ T74) c0 y0 (rv x) _ _ _ _ rfl rfl rfl rfl hg hl ?_ hW100 ?_ hy0 (pt_of (Nat.lt_trans hyl (by decide)) hyv) (Nat.mod_lt _ hTp) (rep_mod (rep_rv hinf) _) hsum _ rfl
      · unfold floatToIntVal
        rw [show FloatKind.f64.decode x = double.read x from rfl, whole_rv hinf, hW]
        simp only
        rw [if_pos]
        have e1 : IntKind.i64.min = -9223372036854775808 := by decide
        have e2 : IntKind.i64.max = 9223372036854775807 := by decide
        rw [e1, e2]
        omega
      · rw [near_write, hc0]
end Go.Proofs.Ytaineoceiciloaa
