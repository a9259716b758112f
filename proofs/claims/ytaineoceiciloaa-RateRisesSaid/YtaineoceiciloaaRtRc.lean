/-
  The law RateRises.
-/
import Derived.Test.YtaineoceiciloaaRtA
import Derived.Test.YtaineoceiciloaaRtRb
set_option linter.unusedVariables false
set_option linter.unusedSimpArgs false
namespace Go.Proofs.Ytaineoceiciloaa
open Go.RowKit Ieee

/-- The word, a nought below nought as nought. -/
def nrm (a : Nat) : Nat := if a = 9223372036854775808 then 0 else a
/-- What stands of a rate. -/
def GoodF (a : Nat) : Prop := ((double.order a 0 == some .gt) || (double.order a 0 == some .eq)) = true ∧ ((double.order a 4636737291354636288 == some .lt) || (double.order a 4636737291354636288 == some .eq)) = true ∧ nrm a < 9218868437227405312 ∧ pS a = (((rhe (100 * rv (nrm a)) T74 : Nat) : Int), 0) ∧ Near a (rhe (100 * rv (nrm a)) T74)
theorem bad_pS {x : Nat} (hbad : ((double.order x 0 == some .gt) || (double.order x 0 == some .eq)) = false ∨ ((double.order x 4636737291354636288 == some .lt) || (double.order x 4636737291354636288 == some .eq)) = false) : pS x = (0, 51) := by
  by_cases h1 : double.order x x = some .eq
  · rcases hbad with h | h
    · cases e : double.order x 0 with
      | none => exact absurd e (ord_some h1)
      | some o => cases o with
        | lt => exact pS_bad2 e
        | eq => rw [e] at h; cases h
        | gt => rw [e] at h; cases h
    · cases e : double.order x 4636737291354636288 with
      | none => exact absurd e (ord_some_h h1)
      | some o => cases o with
        | gt => exact pS_bad3 e
        | eq => rw [e] at h; cases h
        | lt => rw [e] at h; cases h
  · exact pS_bad1 h1
theorem rhe_zero : rhe (100 * 0) T74 = 0 := rhe_small (Nat.two_pow_pos _) (by rw [t74]; decide)
theorem good_or {x : Nat} (hx : x < 18446744073709551616) : GoodF x ∨ ((((double.order x 0 == some .gt) || (double.order x 0 == some .eq)) = false ∨ ((double.order x 4636737291354636288 == some .lt) || (double.order x 4636737291354636288 == some .eq)) = false) ∧ pS x = (0, 51)) := by
  by_cases hbad : ((double.order x 0 == some .gt) || (double.order x 0 == some .eq)) = false ∨ ((double.order x 4636737291354636288 == some .lt) || (double.order x 4636737291354636288 == some .eq)) = false
  · exact .inr ⟨hbad, bad_pS hbad⟩
  · left
    have hg : ((double.order x 0 == some .gt) || (double.order x 0 == some .eq)) = true := by
      cases h : ((double.order x 0 == some .gt) || (double.order x 0 == some .eq)) with
      | true => rfl
      | false => exact absurd (.inl h) hbad
    have hl : ((double.order x 4636737291354636288 == some .lt) || (double.order x 4636737291354636288 == some .eq)) = true := by
      cases h : ((double.order x 4636737291354636288 == some .lt) || (double.order x 4636737291354636288 == some .eq)) with
      | true => rfl
      | false => exact absurd (.inr h) hbad
    clear hbad
    refine ⟨hg, hl, ?_⟩
    have h3 : double.order x 4636737291354636288 ≠ some .gt := by
      intro h; rw [h] at hl; cases hl
    by_cases hz : double.order x 0 = some .eq
    · rcases zero_word hx hz with rfl | rfl
      · refine ⟨by decide, ?_, ?_⟩
        · rw [show nrm 0 = 0 from rfl, zero_rv, rhe_zero]; decide +kernel
        · rw [show nrm 0 = 0 from rfl, zero_rv, rhe_zero]; exact near_zero
      · refine ⟨by decide, ?_, ?_⟩
        · rw [show nrm 9223372036854775808 = 0 from rfl, zero_rv, rhe_zero]; decide +kernel
        · rw [show nrm 9223372036854775808 = 0 from rfl, zero_rv, rhe_zero]; exact near_nzero
    · have h2 : double.order x 0 = some .gt := by
        rw [beq_eq_false_iff_ne.2 hz, Bool.or_false] at hg
        exact eq_of_beq hg
      have h1 := ord_self h2
      have hle := top_le hx h1 h2 h3
      have hinf : x < 9218868437227405312 := Nat.lt_of_le_of_lt hle (by decide)
      have hn : nrm x = x := by unfold nrm; rw [if_neg (by omega)]
      rw [hn]
      have hv : rv x ≤ 100 * 2 ^ T74 := by
        have := rv_mono hle
        rw [rv_hun] at this; exact this
      have h0 : rv x ≠ 0 := by
        intro h0
        have := ord_rv hinf (show 0 < 9218868437227405312 by decide)
        rw [h0, zero_rv] at this
        exact hz this
      exact ⟨hinf, pS_rhe hx h1 h2 h3, near_of hinf h0 hv⟩
theorem ord_nz (y : Nat) : double.order 9223372036854775808 y = double.order 0 y ∧ double.order y 9223372036854775808 = double.order y 0 := by
  have r0 : double.read 0 = .number false 0 (-1074) := by decide +kernel
  have r1 : double.read 9223372036854775808 = .number true 0 (-1074) := by decide +kernel
  unfold Format.order
  rw [r0, r1]
  cases double.read y with
  | number s m i =>
    unfold Datum.order
    simp only [signed_pos, signed_neg, Nat.zero_mul]
    exact ⟨rfl, rfl⟩
  | infinity s => unfold Datum.order; exact ⟨rfl, rfl⟩
  | nan s f => unfold Datum.order; exact ⟨rfl, rfl⟩
theorem ord_nrm (a b : Nat) : double.order a b = double.order (nrm a) (nrm b) := by
  unfold nrm
  by_cases ha : a = 9223372036854775808
  · subst ha
    rw [if_pos rfl]
    by_cases hb : b = 9223372036854775808
    · subst hb; rw [if_pos rfl, (ord_nz _).1, (ord_nz _).2]
    · rw [if_neg hb, (ord_nz _).1]
  · rw [if_neg ha]
    by_cases hb : b = 9223372036854775808
    · subst hb; rw [if_pos rfl, (ord_nz _).2]
    · rw [if_neg hb]
/-- Of greater floats no fewer points. -/
theorem good_ord {a b : Nat} (ha : GoodF a) (hb : GoodF b) : ∃ o, FloatKind.f64.format.order a b = some o ∧ (o = .lt → rhe (100 * rv (nrm a)) T74 ≤ rhe (100 * rv (nrm b)) T74) ∧ (o = .gt → rhe (100 * rv (nrm b)) T74 ≤ rhe (100 * rv (nrm a)) T74) ∧ (o = .eq → rhe (100 * rv (nrm a)) T74 = rhe (100 * rv (nrm b)) T74) := by
  refine ⟨compare (rv (nrm a)) (rv (nrm b)), ?_, fun h => ?_, fun h => ?_, fun h => ?_⟩
  · rw [show FloatKind.f64.format = double from rfl, ord_nrm, ord_rv ha.2.2.1 hb.2.2.1]
  · have := Nat.compare_eq_lt.1 h
    exact rhe_mono (by omega) _
  · have := Nat.compare_eq_gt.1 h
    exact rhe_mono (by omega) _
  · rw [Nat.compare_eq_eq.1 h]
set_option maxRecDepth 20000 in
set_option maxHeartbeats 1600000 in
theorem rises_bad1 (a b : Nat) (w : World) (s1 s2 t : Int) (ha : a < 18446744073709551616) (hb : b < 18446744073709551616) (hsa : pS a = (s1, 51)) (hsb : pS b = (s2, t))
    (ga1 ga2 gb1 gb2 la1 la2 lb1 lb2 : Bool) (q1 : (FloatKind.f64.format.order a 0 == some .gt) = ga1) (q2 : (FloatKind.f64.format.order a 0 == some .eq) = ga2) (q3 : (FloatKind.f64.format.order a 4636737291354636288 == some .lt) = la1) (q4 : (FloatKind.f64.format.order a 4636737291354636288 == some .eq) = la2)
    (p1 : (FloatKind.f64.format.order b 0 == some .gt) = gb1) (p2 : (FloatKind.f64.format.order b 0 == some .eq) = gb2) (p3 : (FloatKind.f64.format.order b 4636737291354636288 == some .lt) = lb1) (p4 : (FloatKind.f64.format.order b 4636737291354636288 == some .eq) = lb2)
    (h : (ga1 || ga2) = false) :
    Calls Try.prog 4 #[.float .f64 a, .float .f64 b] w fun e w' => e = .returned (.bool true) ∧ Below w.heap.size w w' := by
  have HAl := Lib.hid (fun W => ralive_any W)
  have HP := Lib.hid (fun W => points_any W a ha _ hsa)
  have HQ := Lib.hid (fun W => points_any W b hb _ hsb)
  clear hsa hsb ha hb
  go_enter Try.func4, Try.ntmps4
  go_wp2_with fail
  refine (HAl.out _).mono ?_
  rintro e w1 ⟨rfl, hb1⟩
  have HB1 := Lib.hid hb1
  clear hb1
  go_wp2_with fail
  refine (HP.out _).mono ?_
  rintro e w2 ⟨rfl, rfl⟩
  go_wp2_with fail
  refine (HQ.out _).mono ?_
  rintro e w3 ⟨rfl, rfl⟩
  go_wp2
  go_ret
  exact ⟨rfl, HB1.out⟩
set_option maxRecDepth 20000 in
set_option maxHeartbeats 1600000 in
theorem rises_bad2 (a b : Nat) (w : World) (s1 s2 t : Int) (ha : a < 18446744073709551616) (hb : b < 18446744073709551616) (hsa : pS a = (s1, 51)) (hsb : pS b = (s2, t))
    (ga1 ga2 gb1 gb2 la1 la2 lb1 lb2 : Bool) (q1 : (FloatKind.f64.format.order a 0 == some .gt) = ga1) (q2 : (FloatKind.f64.format.order a 0 == some .eq) = ga2) (q3 : (FloatKind.f64.format.order a 4636737291354636288 == some .lt) = la1) (q4 : (FloatKind.f64.format.order a 4636737291354636288 == some .eq) = la2)
    (p1 : (FloatKind.f64.format.order b 0 == some .gt) = gb1) (p2 : (FloatKind.f64.format.order b 0 == some .eq) = gb2) (p3 : (FloatKind.f64.format.order b 4636737291354636288 == some .lt) = lb1) (p4 : (FloatKind.f64.format.order b 4636737291354636288 == some .eq) = lb2)
    (hg : (ga1 || ga2) = true) (h : (la1 || la2) = false) :
    Calls Try.prog 4 #[.float .f64 a, .float .f64 b] w fun e w' => e = .returned (.bool true) ∧ Below w.heap.size w w' := by
  have HAl := Lib.hid (fun W => ralive_any W)
  have HP := Lib.hid (fun W => points_any W a ha _ hsa)
  have HQ := Lib.hid (fun W => points_any W b hb _ hsb)
  clear hsa hsb ha hb
  go_enter Try.func4, Try.ntmps4
  go_wp2_with fail
  refine (HAl.out _).mono ?_
  rintro e w1 ⟨rfl, hb1⟩
  have HB1 := Lib.hid hb1
  clear hb1
  go_wp2_with fail
  refine (HP.out _).mono ?_
  rintro e w2 ⟨rfl, rfl⟩
  go_wp2_with fail
  refine (HQ.out _).mono ?_
  rintro e w3 ⟨rfl, rfl⟩
  go_wp2
  go_ret
  exact ⟨rfl, HB1.out⟩
set_option maxRecDepth 20000 in
set_option maxHeartbeats 1600000 in
theorem rises_bad3 (a b : Nat) (w : World) (s1 s2 t : Int) (ha : a < 18446744073709551616) (hb : b < 18446744073709551616) (hsa : pS a = (s1, 0)) (hsb : pS b = (s2, 51))
    (ga1 ga2 gb1 gb2 la1 la2 lb1 lb2 : Bool) (q1 : (FloatKind.f64.format.order a 0 == some .gt) = ga1) (q2 : (FloatKind.f64.format.order a 0 == some .eq) = ga2) (q3 : (FloatKind.f64.format.order a 4636737291354636288 == some .lt) = la1) (q4 : (FloatKind.f64.format.order a 4636737291354636288 == some .eq) = la2)
    (p1 : (FloatKind.f64.format.order b 0 == some .gt) = gb1) (p2 : (FloatKind.f64.format.order b 0 == some .eq) = gb2) (p3 : (FloatKind.f64.format.order b 4636737291354636288 == some .lt) = lb1) (p4 : (FloatKind.f64.format.order b 4636737291354636288 == some .eq) = lb2)
    (hga : (ga1 || ga2) = true) (hla : (la1 || la2) = true) (h : (gb1 || gb2) = false) :
    Calls Try.prog 4 #[.float .f64 a, .float .f64 b] w fun e w' => e = .returned (.bool true) ∧ Below w.heap.size w w' := by
  have HAl := Lib.hid (fun W => ralive_any W)
  have HP := Lib.hid (fun W => points_any W a ha _ hsa)
  have HQ := Lib.hid (fun W => points_any W b hb _ hsb)
  clear hsa hsb ha hb
  go_enter Try.func4, Try.ntmps4
  go_wp2_with fail
  refine (HAl.out _).mono ?_
  rintro e w1 ⟨rfl, hb1⟩
  have HB1 := Lib.hid hb1
  clear hb1
  go_wp2_with fail
  refine (HP.out _).mono ?_
  rintro e w2 ⟨rfl, rfl⟩
  go_wp2_with fail
  refine (HQ.out _).mono ?_
  rintro e w3 ⟨rfl, rfl⟩
  go_wp2
  go_ret
  exact ⟨rfl, HB1.out⟩
set_option maxRecDepth 20000 in
set_option maxHeartbeats 1600000 in
theorem rises_bad4 (a b : Nat) (w : World) (s1 s2 t : Int) (ha : a < 18446744073709551616) (hb : b < 18446744073709551616) (hsa : pS a = (s1, 0)) (hsb : pS b = (s2, 51))
    (ga1 ga2 gb1 gb2 la1 la2 lb1 lb2 : Bool) (q1 : (FloatKind.f64.format.order a 0 == some .gt) = ga1) (q2 : (FloatKind.f64.format.order a 0 == some .eq) = ga2) (q3 : (FloatKind.f64.format.order a 4636737291354636288 == some .lt) = la1) (q4 : (FloatKind.f64.format.order a 4636737291354636288 == some .eq) = la2)
    (p1 : (FloatKind.f64.format.order b 0 == some .gt) = gb1) (p2 : (FloatKind.f64.format.order b 0 == some .eq) = gb2) (p3 : (FloatKind.f64.format.order b 4636737291354636288 == some .lt) = lb1) (p4 : (FloatKind.f64.format.order b 4636737291354636288 == some .eq) = lb2)
    (hga : (ga1 || ga2) = true) (hla : (la1 || la2) = true) (hg : (gb1 || gb2) = true) (h : (lb1 || lb2) = false) :
    Calls Try.prog 4 #[.float .f64 a, .float .f64 b] w fun e w' => e = .returned (.bool true) ∧ Below w.heap.size w w' := by
  have HAl := Lib.hid (fun W => ralive_any W)
  have HP := Lib.hid (fun W => points_any W a ha _ hsa)
  have HQ := Lib.hid (fun W => points_any W b hb _ hsb)
  clear hsa hsb ha hb
  go_enter Try.func4, Try.ntmps4
  go_wp2_with fail
  refine (HAl.out _).mono ?_
  rintro e w1 ⟨rfl, hb1⟩
  have HB1 := Lib.hid hb1
  clear hb1
  go_wp2_with fail
  refine (HP.out _).mono ?_
  rintro e w2 ⟨rfl, rfl⟩
  go_wp2_with fail
  refine (HQ.out _).mono ?_
  rintro e w3 ⟨rfl, rfl⟩
  go_wp2
  go_ret
  exact ⟨rfl, HB1.out⟩
theorem pS_two (x : Nat) (hx : x < 18446744073709551616) : (pS x).2 = 0 ∨ (pS x).2 = 51 := by
  rcases good_or hx with h | h
  · rw [h.2.2.2.1]; exact .inl rfl
  · rw [h.2]; exact .inr rfl
theorem rises_bad (a b : Nat) (w : World) (ha : a < 18446744073709551616) (hb : b < 18446744073709551616)
    (h : ¬ (GoodF a ∧ GoodF b)) :
    Calls Try.prog 4 #[.float .f64 a, .float .f64 b] w fun e w' => e = .returned (.bool true) ∧ Below w.heap.size w w' := by
  by_cases hga : GoodF a
  · rcases good_or hb with hgb | ⟨hbb, hpb⟩
    · exact absurd ⟨hga, hgb⟩ h
    · obtain ⟨g1, g2, _, g4, _⟩ := hga
      by_cases hg : ((double.order b 0 == some .gt) || (double.order b 0 == some .eq)) = true
      · rcases hbb with hbb | hbb
        · rw [hg] at hbb; cases hbb
        · exact rises_bad4 a b w _ _ 0 ha hb g4 hpb _ _ _ _ _ _ _ _ rfl rfl rfl rfl rfl rfl rfl rfl g1 g2 hg hbb
      · exact rises_bad3 a b w _ _ 0 ha hb g4 hpb _ _ _ _ _ _ _ _ rfl rfl rfl rfl rfl rfl rfl rfl g1 g2 (Bool.eq_false_iff.2 hg)
  · rcases good_or ha with hgb | ⟨hbb, hpb⟩
    · exact absurd hgb hga
    · by_cases hg : ((double.order a 0 == some .gt) || (double.order a 0 == some .eq)) = true
      · rcases hbb with hbb | hbb
        · rw [hg] at hbb; cases hbb
        · exact rises_bad2 a b w _ _ (pS b).2 ha hb hpb rfl _ _ _ _ _ _ _ _ rfl rfl rfl rfl rfl rfl rfl rfl hg hbb
      · exact rises_bad1 a b w _ _ (pS b).2 ha hb hpb rfl _ _ _ _ _ _ _ _ rfl rfl rfl rfl rfl rfl rfl rfl (Bool.eq_false_iff.2 hg)
end Go.Proofs.Ytaineoceiciloaa
