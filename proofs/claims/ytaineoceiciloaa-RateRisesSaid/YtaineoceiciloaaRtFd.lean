/-
  rate.Points at any float: what it answers.
-/
import Derived.Test.YtaineoceiciloaaRtFc
set_option linter.unusedVariables false
set_option linter.unusedSimpArgs false
namespace Go.Proofs.Ytaineoceiciloaa
open Go.RowKit Ieee

theorem rv_step (r : Nat) : rv r ≤ rv (r + 1) := by
  unfold rv
  by_cases h1 : r + 1 < 4503599627370496
  · rw [if_pos (Nat.lt_of_succ_lt h1), if_pos h1]; exact Nat.le_succ r
  · rw [if_neg h1]
    by_cases h2 : r < 4503599627370496
    · rw [if_pos h2]
      have hp := Nat.two_pow_pos ((r + 1) / 4503599627370496 - 1)
      have h3 : r ≤ 4503599627370496 + (r + 1) % 4503599627370496 := by omega
      exact Nat.le_trans h3 (Nat.le_mul_of_pos_right _ hp)
    · rw [if_neg h2]
      by_cases h3 : (r + 1) % 4503599627370496 = 0
      · have e1 : (r + 1) / 4503599627370496 - 1 = r / 4503599627370496 - 1 + 1 := by omega
        have e2 : r % 4503599627370496 ≤ 4503599627370495 := by omega
        rw [h3, e1, Nat.pow_succ]
        obtain ⟨p, hp⟩ : ∃ p, 2 ^ (r / 4503599627370496 - 1) = p := ⟨_, rfl⟩
        rw [hp]
        have h4 : 4503599627370496 + r % 4503599627370496 ≤ 9007199254740992 := by omega
        calc (4503599627370496 + r % 4503599627370496) * p ≤ 9007199254740992 * p := Nat.mul_le_mul_right p h4
          _ = (4503599627370496 + 0) * (p * 2) := by rw [Nat.mul_comm p 2, ← Nat.mul_assoc]
      · have e1 : (r + 1) / 4503599627370496 = r / 4503599627370496 := by omega
        have e2 : (r + 1) % 4503599627370496 = r % 4503599627370496 + 1 := by omega
        rw [e1, e2]
        exact Nat.mul_le_mul_right _ (by omega)
theorem rv_mono {r s : Nat} (h : r ≤ s) : rv r ≤ rv s := by
  obtain ⟨k, rfl⟩ := Nat.le.dest h
  clear h
  induction k with
  | zero => exact Nat.le_refl _
  | succ k ih => exact Nat.le_trans ih (rv_step (r + k))
theorem rv_H : rv 4636737291354636288 < rv (4636737291354636288 + 1) := by decide +kernel
theorem cmp_neg (A B : Nat) : compare (-(A : Int)) (B : Int) ≠ .gt := by
  rw [Int.compare_eq_ite_lt]
  by_cases h1 : -(A : Int) < (B : Int)
  · rw [if_pos h1]; decide
  · rw [if_neg h1, if_neg (by omega)]; decide
theorem ord_neg (m : Nat) (i : Int) (n : Nat) (j : Int) : Datum.order (.number true m i) (.number false n j) ≠ some .gt := by
  unfold Datum.order
  simp only [signed_neg, signed_pos]
  intro h
  exact cmp_neg _ _ (Option.some.inj h)
/-- A float above nought, at most a hundred. -/
theorem top_le {x : Nat} (hx : x < 18446744073709551616) (o1 : double.order x x = some .eq) (o2 : double.order x 0 = some .gt) (o3 : double.order x 4636737291354636288 ≠ some .gt) : x ≤ 4636737291354636288 := by
  have hbn : double.binade = 4503599627370496 := by decide
  have hinf : double.infRung = 9218868437227405312 := by decide
  have hsw : double.signWeight = 9223372036854775808 := by decide
  have r0 : double.read 0 = .number false 0 (-1074) := by decide +kernel
  have rH : double.read 4636737291354636288 = .number false 7036874417766400 (-46) := by decide +kernel
  by_cases hneg : x < 9223372036854775808
  · by_cases hfin : x < 9218868437227405312
    · have hc := ord_rv hfin (show 4636737291354636288 < 9218868437227405312 by decide)
      rw [hc] at o3
      apply Nat.le_of_not_lt
      intro hlt
      have h1 := rv_mono (show 4636737291354636288 + 1 ≤ x from hlt)
      have h2 := Nat.lt_of_lt_of_le rv_H h1
      apply o3
      rw [Nat.compare_eq_ite_lt, if_neg (by omega), if_pos h2]
    · exfalso
      have e1 : x / 9223372036854775808 = 0 := Nat.div_eq_of_lt hneg
      have e2 : x % 9223372036854775808 = x := Nat.mod_eq_of_lt hneg
      by_cases hi : x = 9218868437227405312
      · subst hi
        exact o3 (by decide +kernel)
      · have hr : double.read x = .nan false (x - 9218868437227405312) := by
          unfold Format.read
          simp only [hbn, hinf, hsw, e1, e2]
          rw [if_neg (by omega), if_neg (by omega), if_neg hi]
          rfl
        unfold Format.order at o1
        rw [hr] at o1
        simp [Datum.order] at o1
  · exfalso
    have e1 : x / 9223372036854775808 = 1 := by omega
    have hneg' : (1 % 2 == 1) = true := by decide
    unfold Format.order at o2
    rw [r0] at o2
    unfold Format.read at o2
    simp only [hbn, hinf, hsw, e1, hneg'] at o2
    split at o2
    · exact ord_neg _ _ _ _ o2
    · split at o2
      · exact ord_neg _ _ _ _ o2
      · split at o2
        · unfold Datum.order at o2
          simp at o2
        · unfold Datum.order at o2
          simp at o2
/-- What Points answers. -/
def pS (x : Nat) : Int × Int :=
  if double.order x x ≠ some .eq ∨ double.order x 0 = some .lt ∨ double.order x 4636737291354636288 = some .gt then (0, 51)
  else if double.order x 0 = some .eq then (0, 0)
  else if x / 4503599627370496 = 0 then (0, 0)
  else if Lib.bitLen (100 * (4503599627370496 + x % 4503599627370496)) < 1075 - x / 4503599627370496 then (0, 0)
  else ((rhe (100 * (4503599627370496 + x % 4503599627370496)) (1075 - x / 4503599627370496) : Nat), 0)
theorem top_exp {x : Nat} (h : x ≤ 4636737291354636288) : x / 4503599627370496 ≤ 1029 := by omega
theorem parts_eq (x : Nat) : x = 4503599627370496 * (x / 4503599627370496) + x % 4503599627370496 := (Nat.div_add_mod x 4503599627370496).symm
theorem bitLen60 (n : Nat) (h : n < 1152921504606846976) : Lib.bitLen n ≤ 60 := Lib.bitLen_le n 60 (by decide) h
theorem hun60 (f : Nat) (hf : f < 4503599627370496) : 100 * (4503599627370496 + f) < 1152921504606846976 := by omega
theorem o_le (n d : Nat) (h : n < 1152921504606846976) (hd : 46 ≤ d) : n / 2 ^ d ≤ 99999 := by
  have h1 : (2 : Nat) ^ 46 ≤ 2 ^ d := Nat.pow_le_pow_right (by decide) hd
  have h2 : n / 2 ^ d ≤ n / 2 ^ 46 := Nat.div_le_div_left h1 (by decide)
  have h3 : n / 2 ^ 46 < 16384 := Nat.div_lt_of_lt_mul (Nat.lt_of_lt_of_le h (by decide))
  exact Nat.le_trans h2 (Nat.le_trans (Nat.le_of_lt h3) (by decide))
set_option maxRecDepth 20000 in
set_option maxHeartbeats 800000 in
theorem points_bad (w : World) (x : Nat) (c : Option Ordering) (o1 : FloatKind.f64.format.order x x = c) (h : (c != some .eq) = true ∨ ((c != some .eq) = false ∧ FloatKind.f64.format.order x 0 = some .lt)) :
    Calls Try.prog 15 #[.float .f64 x] w fun e w' => e = .returned (.tuple #[.int .i64 0, .int .i64 51]) ∧ w' = w := by
  have HN := Lib.hid (isnan_x x _ o1 w)
  clear o1
  rcases h with h | ⟨h, o2⟩
  · go_enter Try.func15, Try.ntmps15
    go_wp2_with fail
    refine HN.out.mono ?_
    rintro e w1 ⟨rfl, rfl⟩
    rw [h]
    go_wp2
    go_ret2
    exact ⟨rfl, rfl⟩
  · go_enter Try.func15, Try.ntmps15
    go_wp2_with fail
    refine HN.out.mono ?_
    rintro e w1 ⟨rfl, rfl⟩
    rw [h]
    go_wp2
    go_ret2
    exact ⟨rfl, rfl⟩
set_option maxRecDepth 20000 in
set_option maxHeartbeats 800000 in
theorem points_top (w : World) (x : Nat) (o1 : FloatKind.f64.format.order x x = some .eq) (q2 : (FloatKind.f64.format.order x 0 == some Ordering.lt) = false) (o3 : FloatKind.f64.format.order x 4636737291354636288 = some .gt) :
    Calls Try.prog 15 #[.float .f64 x] w fun e w' => e = .returned (.tuple #[.int .i64 0, .int .i64 51]) ∧ w' = w := by
  have HN := Lib.hid (isnan_x x _ o1 w)
  clear o1
  go_enter Try.func15, Try.ntmps15
  go_wp2_with fail
  refine HN.out.mono ?_
  rintro e w1 ⟨rfl, rfl⟩
  go_wp2
  go_ret2
  exact ⟨rfl, rfl⟩
set_option maxRecDepth 20000 in
set_option maxHeartbeats 800000 in
theorem points_zero (w : World) (x : Nat) (o1 : FloatKind.f64.format.order x x = some .eq) (o2 : FloatKind.f64.format.order x 0 = some .eq) (q3 : (FloatKind.f64.format.order x 4636737291354636288 == some Ordering.gt) = false) :
    Calls Try.prog 15 #[.float .f64 x] w fun e w' => e = .returned (.tuple #[.int .i64 0, .int .i64 0]) ∧ w' = w := by
  have HN := Lib.hid (isnan_x x _ o1 w)
  clear o1
  go_enter Try.func15, Try.ntmps15
  go_wp2_with fail
  refine HN.out.mono ?_
  rintro e w1 ⟨rfl, rfl⟩
  go_wp2
  go_ret2
  exact ⟨rfl, rfl⟩
set_option maxRecDepth 20000 in
set_option maxHeartbeats 800000 in
theorem points_sub (w : World) (x : Nat) (o1 : FloatKind.f64.format.order x x = some .eq) (o2 : FloatKind.f64.format.order x 0 = some .gt) (q3 : (FloatKind.f64.format.order x 4636737291354636288 == some Ordering.gt) = false) (f : Int)
    (fe : (x : Int) / 4503599627370496 = 0) :
    Calls Try.prog 15 #[.float .f64 x] w fun e w' => e = .returned (.tuple #[.int .i64 0, .int .i64 0]) ∧ w' = w := by
  have HN := Lib.hid (isnan_x x _ o1 w)
  have hb := fun w => bits_runI x x rfl w
  clear o1
  go_enter Try.func15, Try.ntmps15
  go_wp2_with fail
  refine HN.out.mono ?_
  rintro e w1 ⟨rfl, rfl⟩
  go_wp2
  go_ret2
  exact ⟨rfl, rfl⟩
theorem ord_some {x : Nat} (o1 : double.order x x = some .eq) : double.order x 0 ≠ none := by
  have r0 : double.read 0 = .number false 0 (-1074) := by decide +kernel
  unfold Format.order at o1 ⊢
  rw [r0]
  cases e : double.read x with
  | number s m i => unfold Datum.order; simp
  | infinity s => unfold Datum.order; simp
  | nan s f => rw [e] at o1; unfold Datum.order at o1; simp at o1
theorem pS_bad1 {x : Nat} (h : double.order x x ≠ some .eq) : pS x = (0, 51) := by unfold pS; rw [if_pos (.inl h)]
theorem pS_bad2 {x : Nat} (h : double.order x 0 = some .lt) : pS x = (0, 51) := by unfold pS; rw [if_pos (.inr (.inl h))]
theorem pS_bad3 {x : Nat} (h : double.order x 4636737291354636288 = some .gt) : pS x = (0, 51) := by unfold pS; rw [if_pos (.inr (.inr h))]
theorem pS_zero {x : Nat} (h1 : double.order x x = some .eq) (h2 : double.order x 0 ≠ some .lt) (h3 : double.order x 4636737291354636288 ≠ some .gt) (h : double.order x 0 = some .eq) : pS x = (0, 0) := by
  unfold pS
  rw [if_neg (fun hh => hh.elim (fun a => a h1) (fun a => a.elim h2 h3)), if_pos h]
theorem pS_gt {x : Nat} (h1 : double.order x x = some .eq) (h2 : double.order x 0 = some .gt) (h3 : double.order x 4636737291354636288 ≠ some .gt) : pS x = if x / 4503599627370496 = 0 then ((0 : Int), (0 : Int))
  else if Lib.bitLen (100 * (4503599627370496 + x % 4503599627370496)) < 1075 - x / 4503599627370496 then (0, 0)
  else ((rhe (100 * (4503599627370496 + x % 4503599627370496)) (1075 - x / 4503599627370496) : Nat), 0) := by
  unfold pS
  have h4 : double.order x 0 ≠ some .lt := by rw [h2]; decide
  have h5 : ¬ double.order x 0 = some .eq := by rw [h2]; decide
  rw [if_neg (fun hh => hh.elim (fun a => a h1) (fun a => a.elim h4 h3)), if_neg h5]
theorem rhe_int (n d : Nat) : ((rhe n d : Nat) : Int) = if 2 ^ (d - 1) < n % 2 ^ d ∨ (n % 2 ^ d = 2 ^ (d - 1) ∧ n / 2 ^ d % 2 = 1) then ((n / 2 ^ d : Nat) : Int) + 1 else ((n / 2 ^ d : Nat) : Int) := by
  unfold rhe
  split
  · rw [Int.natCast_add]; rfl
  · rfl
theorem points_any (w : World) (x : Nat) (hx : x < 18446744073709551616) (s : Int × Int) (hs : pS x = s) :
    Calls Try.prog 15 #[.float .f64 x] w fun e w' => e = .returned (.tuple #[.int .i64 s.1, .int .i64 s.2]) ∧ w' = w := by
  by_cases h1 : double.order x x = some .eq
  · by_cases h2 : double.order x 0 = some .lt
    · rw [pS_bad2 h2] at hs
      subst hs
      exact points_bad w x _ h1 (.inr ⟨by decide, h2⟩)
    · have q2 : (FloatKind.f64.format.order x 0 == some Ordering.lt) = false := beq_eq_false_iff_ne.2 h2
      by_cases h3 : double.order x 4636737291354636288 = some .gt
      · rw [pS_bad3 h3] at hs
        subst hs
        exact points_top w x h1 q2 h3
      · have q3 : (FloatKind.f64.format.order x 4636737291354636288 == some Ordering.gt) = false := beq_eq_false_iff_ne.2 h3
        by_cases h4 : double.order x 0 = some .eq
        · rw [pS_zero h1 h2 h3 h4] at hs
          subst hs
          exact points_zero w x h1 h4 q3
        · have h5 : double.order x 0 = some .gt := by
            cases e : double.order x 0 with
            | none => exact absurd e (ord_some h1)
            | some o => cases o with
              | lt => exact absurd e h2
              | eq => exact absurd e h4
              | gt => rfl
          rw [pS_gt h1 h5 h3] at hs
          have hle := top_exp (top_le hx h1 h5 h3)
          have hf : x % 4503599627370496 < 4503599627370496 := Nat.mod_lt _ (by decide)
          have hxe := parts_eq x
          obtain ⟨e, he⟩ : ∃ e, x / 4503599627370496 = e := ⟨_, rfl⟩
          obtain ⟨f, hff⟩ : ∃ f, x % 4503599627370496 = f := ⟨_, rfl⟩
          rw [he, hff] at hxe hs
          rw [he] at hle
          rw [hff] at hf
          have fe := low_div x e f hxe hf
          by_cases he0 : e = 0
          · rw [if_pos he0] at hs
            subst hs
            exact points_sub w x h1 h5 q3 0 (by rw [fe, he0]; rfl)
          · rw [if_neg he0] at hs
            have he1 : 1 ≤ e := Nat.one_le_iff_ne_zero.2 he0
            obtain ⟨d, hd⟩ : ∃ d, 1075 - e = d := ⟨_, rfl⟩
            have hed : e + d = 1075 := by clear hs fe hxe he hff; omega
            have hd46 : 46 ≤ d := by clear hs fe hxe he hff; omega
            obtain ⟨n, hn⟩ : ∃ n, 100 * (4503599627370496 + f) = n := ⟨_, rfl⟩
            have hn60 : n < 1152921504606846976 := by rw [← hn]; exact hun60 f hf
            have hn64 : n < 18446744073709551616 := by rw [← hn]; exact hun_lt f hf
            have hL60 := bitLen60 n hn60
            rw [hn, hd] at hs
            have b1 : bits BinOp.and IntKind.u64 (x : Int) 4503599627370495 = (f : Int) := by rw [and_low x hx, hff]
            refine (points_gt w x e f d (4503599627370496 + f) n (Lib.bitLen n) h1 h5 h3 hx fe (ne0I he1) (wrapS e (Nat.le_trans hle (by decide))) (wrapSd e d hed) (wrapS d (by clear hs fe hxe he hff hn hn60 hn64 b1; omega)) (wrapU d (by clear hs fe hxe he hff hn hn60 hn64 b1; omega)) b1 (or_top f hf) (by rw [wrapU100 _ (by rw [hn]; exact hn64), hn]) hn64 rfl (wrapU _ (Nat.lt_of_le_of_lt hL60 (by decide)))
              s.1 (2 ^ d) (2 ^ d - 1) (d - 1) (n % 2 ^ d) (n / 2 ^ d) (2 ^ (d - 1)) (fun h60 => ⟨sh1 d h60, wrap2 d h60, wrap21 d h60, and_pow n d hn64 h60, divI n d, wrapd1 d (Nat.le_trans (by decide) hd46) h60, sh1 (d - 1) (Nat.le_trans (Nat.sub_le _ _) h60), wrap2 (d - 1) (Nat.le_trans (Nat.sub_le _ _) h60), o_le n d hn60 hd46⟩) hL60 ?_).mono ?_
            · rw [← hs]
              split
              · rfl
              · exact rhe_int n d
            · rintro e' w' ⟨h6, h7⟩
              refine ⟨?_, h7⟩
              rw [h6]
              have : s.2 = 0 := by rw [← hs]; split <;> rfl
              rw [this]
  · rw [pS_bad1 h1] at hs
    subst hs
    exact points_bad w x _ rfl (.inl (bne_iff_ne.2 h1))
end Go.Proofs.Ytaineoceiciloaa
