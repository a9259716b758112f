/-
  Covenants: which figures and limits can be, which covenants hold; the walks.
-/
import Derived.Test.YtleeifknicilhaaCross
import Derived.Test.YtleeifknicilhaaFloor
import Derived.Test.YtleeifknicilhaaIc
set_option linter.unusedVariables false
set_option linter.unusedSimpArgs false
namespace Go.Proofs.Ytleeifknicilhaa
open Go.RowKit Dg

def withinB (m : Int) (L : List Int) : Bool := L.all fun x => decide (0 ≤ x) && decide (x ≤ m)
theorem within_take {m : Int} {L : List Int} {k : Nat} {x : Int} (h : L[k]? = some x) (hk : withinB m (L.take k) = true) (h0 : 0 ≤ x) (h1 : x ≤ m) : withinB m (L.take (k + 1)) = true := by
  obtain ⟨hk', rfl⟩ := List.getElem?_eq_some_iff.1 h
  unfold withinB at *
  rw [List.take_succ_eq_append_getElem hk', List.all_append, hk]
  simp [h0, h1]
theorem within_not {m : Int} {L : List Int} {k : Nat} {x : Int} (h : L[k]? = some x) (hx : x < 0 ∨ m < x) : withinB m L = false := by
  unfold withinB
  rw [List.all_eq_false]
  exact ⟨x, List.mem_of_getElem? h, by simp; omega⟩
set_option maxRecDepth 8000 in
set_option maxHeartbeats 800000 in
theorem within_any (m : Int) (w : World) (ao : Option Addr) (cap : Nat) (L : List Int) (h : Sl w ao L.length cap (ic L)) (hl : L.length ≤ 1000) (r : Bool) (hr : withinB m L = r) :
    Calls Try.prog 21 #[.int .i64 m, .slice ao L.length cap] w fun e w' => e = .returned (.bool r) ∧ w' = w := by
  have H := Lib.hid h
  have HR := Lib.hid hr
  clear h hr
  go_enter Try.func21, Try.ntmps21
  go_wp2
  go_loop [9] (fun i => ∃ k : Nat, k ≤ L.length ∧ i = .int .i64 k ∧ Hid (withinB m (L.take k) = true)) (fun i => L.length - (intOf i).toNat)
  case atStart => exact ⟨0, by omega, rfl, by show _ = _; simp [withinB]⟩
  case round =>
    obtain ⟨k, hk, rfl, HK⟩ := hrel
    by_cases hkl : k < L.length
    · obtain ⟨x, hx⟩ : ∃ x, L[k]? = some x := ⟨_, List.getElem?_eq_getElem hkl⟩
      have HX := Lib.hid hx
      clear hx
      by_cases hx : 0 ≤ x ∧ x ≤ m
      · obtain ⟨h0, h1⟩ := hx
        have HN := Lib.hid (within_take HX.out HK.out h0 h1)
        go_wp2_with (refine wpList_ix_sl rfl 58 2 _ _ rfl Try.underlying58 size_i64 ao L.length cap rfl (ic L) H.out k hkl rfl ?_; intro b off u hu hcell; obtain rfl : u = .int .i64 x := by (rw [ic_at HX.out] at hu; exact (Option.some.inj hu).symm))
        exact ⟨⟨k + 1, by omega, by go_num, HN⟩, by simp [intOf]; omega⟩
      · have HN := Lib.hid (HR.out.symm.trans (within_not (m := m) HX.out (by omega)))
        have h2 : x < 0 ∨ (0 ≤ x ∧ m < x) := by omega
        clear hx
        rcases h2 with h2 | ⟨h2, h3⟩
        all_goals
          go_wp2_with (refine wpList_ix_sl rfl 58 2 _ _ rfl Try.underlying58 size_i64 ao L.length cap rfl (ic L) H.out k hkl rfl ?_; intro b off u hu hcell; obtain rfl : u = .int .i64 x := by (rw [ic_at HX.out] at hu; exact (Option.some.inj hu).symm))
          go_ret
          exact ⟨by rw [HN.out]; rfl, rfl⟩
    · have HN : Hid (r = true) := by
        show _ = _
        rw [← HR.out, ← HK.out, List.take_of_length_le (by omega)]
      go_wp2
      go_ret
      exact ⟨by rw [HN.out]; rfl, rfl⟩
theorem sl_newc (w : World) (L : List Int) : Sl (w.alloc (.cells (ic L).toArray 2)) (some ⟨w.heap.size, 0, none⟩) L.length L.length (ic L) :=
  ⟨ic_len L, Nat.le_refl _, by simp, fun _ => ⟨_, _, rfl, fun j u hu => by
    rw [Nat.zero_add]
    exact (Blk.new w 2 (ic L)).cell j u hu⟩⟩
/-- Can figures and limits be? -/
def rightF (o c v i s l t d : Int) : Bool := withinB 20000000000000 [o, c, v, i, s] && (withinB 10000 [l, t] && withinB 100000 [d])
theorem rightF_iff (o c v i s l t d : Int) : rightF o c v i s l t d = true ↔ ((0 ≤ o ∧ o ≤ 20000000000000) ∧ (0 ≤ c ∧ c ≤ 20000000000000) ∧ (0 ≤ v ∧ v ≤ 20000000000000) ∧ (0 ≤ i ∧ i ≤ 20000000000000) ∧ (0 ≤ s ∧ s ≤ 20000000000000)) ∧ ((0 ≤ l ∧ l ≤ 10000) ∧ (0 ≤ t ∧ t ≤ 10000)) ∧ (0 ≤ d ∧ d ≤ 100000) := by
  simp [rightF, withinB]
set_option maxRecDepth 8000 in
set_option maxHeartbeats 1600000 in
theorem cright_any (o c v i s l t d : Int) (r : Bool) (hr : rightF o c v i s l t d = r) (w : World) :
    Calls Try.prog 13 #[.agg #[.int .i64 o, .int .i64 c, .int .i64 v, .int .i64 i, .int .i64 s], .agg #[.int .i64 l, .int .i64 t, .int .i64 d]] w fun e w' => e = .returned (.bool r) ∧ Below w.heap.size w w' := by
  obtain ⟨x, hx⟩ : ∃ x, withinB 20000000000000 [o, c, v, i, s] = x := ⟨_, rfl⟩
  obtain ⟨y, hy⟩ : ∃ x, withinB 10000 [l, t] = x := ⟨_, rfl⟩
  obtain ⟨z, hz⟩ : ∃ x, withinB 100000 [d] = x := ⟨_, rfl⟩
  have h1 := within_any 20000000000000 (((w.alloc (.cells #[.int .i64 o, .int .i64 c, .int .i64 v, .int .i64 i, .int .i64 s] 26)).alloc (.cells #[.int .i64 l, .int .i64 t, .int .i64 d] 28)).alloc (.cells #[.int .i64 o, .int .i64 c, .int .i64 v, .int .i64 i, .int .i64 s] 2)) (some ⟨((w.alloc (.cells #[.int .i64 o, .int .i64 c, .int .i64 v, .int .i64 i, .int .i64 s] 26)).alloc (.cells #[.int .i64 l, .int .i64 t, .int .i64 d] 28)).heap.size, 0, none⟩) 5 [o, c, v, i, s] (sl_newc ((w.alloc (.cells #[.int .i64 o, .int .i64 c, .int .i64 v, .int .i64 i, .int .i64 s] 26)).alloc (.cells #[.int .i64 l, .int .i64 t, .int .i64 d] 28)) [o, c, v, i, s]) (by simp) x hx
  rw [show ((w.alloc (.cells #[.int .i64 o, .int .i64 c, .int .i64 v, .int .i64 i, .int .i64 s] 26)).alloc (.cells #[.int .i64 l, .int .i64 t, .int .i64 d] 28)).heap.size = w.heap.size + 2 from by simp] at h1
  have H1 : Hid (Calls Try.prog 21 #[.int .i64 20000000000000, .slice (some ⟨w.heap.size + 2, 0, none⟩) 5 5] (((w.alloc (.cells #[.int .i64 o, .int .i64 c, .int .i64 v, .int .i64 i, .int .i64 s] 26)).alloc (.cells #[.int .i64 l, .int .i64 t, .int .i64 d] 28)).alloc (.cells #[.int .i64 o, .int .i64 c, .int .i64 v, .int .i64 i, .int .i64 s] 2)) fun e w' => e = .returned (.bool x) ∧ w' = ((w.alloc (.cells #[.int .i64 o, .int .i64 c, .int .i64 v, .int .i64 i, .int .i64 s] 26)).alloc (.cells #[.int .i64 l, .int .i64 t, .int .i64 d] 28)).alloc (.cells #[.int .i64 o, .int .i64 c, .int .i64 v, .int .i64 i, .int .i64 s] 2)) := h1
  clear h1
  have h2 := within_any 10000 ((((w.alloc (.cells #[.int .i64 o, .int .i64 c, .int .i64 v, .int .i64 i, .int .i64 s] 26)).alloc (.cells #[.int .i64 l, .int .i64 t, .int .i64 d] 28)).alloc (.cells #[.int .i64 o, .int .i64 c, .int .i64 v, .int .i64 i, .int .i64 s] 2)).alloc (.cells #[.int .i64 l, .int .i64 t] 2)) (some ⟨(((w.alloc (.cells #[.int .i64 o, .int .i64 c, .int .i64 v, .int .i64 i, .int .i64 s] 26)).alloc (.cells #[.int .i64 l, .int .i64 t, .int .i64 d] 28)).alloc (.cells #[.int .i64 o, .int .i64 c, .int .i64 v, .int .i64 i, .int .i64 s] 2)).heap.size, 0, none⟩) 2 [l, t] (sl_newc (((w.alloc (.cells #[.int .i64 o, .int .i64 c, .int .i64 v, .int .i64 i, .int .i64 s] 26)).alloc (.cells #[.int .i64 l, .int .i64 t, .int .i64 d] 28)).alloc (.cells #[.int .i64 o, .int .i64 c, .int .i64 v, .int .i64 i, .int .i64 s] 2)) [l, t]) (by simp) y hy
  rw [show (((w.alloc (.cells #[.int .i64 o, .int .i64 c, .int .i64 v, .int .i64 i, .int .i64 s] 26)).alloc (.cells #[.int .i64 l, .int .i64 t, .int .i64 d] 28)).alloc (.cells #[.int .i64 o, .int .i64 c, .int .i64 v, .int .i64 i, .int .i64 s] 2)).heap.size = w.heap.size + 3 from by simp] at h2
  have H2 : Hid (Calls Try.prog 21 #[.int .i64 10000, .slice (some ⟨w.heap.size + 3, 0, none⟩) 2 2] ((((w.alloc (.cells #[.int .i64 o, .int .i64 c, .int .i64 v, .int .i64 i, .int .i64 s] 26)).alloc (.cells #[.int .i64 l, .int .i64 t, .int .i64 d] 28)).alloc (.cells #[.int .i64 o, .int .i64 c, .int .i64 v, .int .i64 i, .int .i64 s] 2)).alloc (.cells #[.int .i64 l, .int .i64 t] 2)) fun e w' => e = .returned (.bool y) ∧ w' = (((w.alloc (.cells #[.int .i64 o, .int .i64 c, .int .i64 v, .int .i64 i, .int .i64 s] 26)).alloc (.cells #[.int .i64 l, .int .i64 t, .int .i64 d] 28)).alloc (.cells #[.int .i64 o, .int .i64 c, .int .i64 v, .int .i64 i, .int .i64 s] 2)).alloc (.cells #[.int .i64 l, .int .i64 t] 2)) := h2
  clear h2
  have h3 := within_any 100000 (((((w.alloc (.cells #[.int .i64 o, .int .i64 c, .int .i64 v, .int .i64 i, .int .i64 s] 26)).alloc (.cells #[.int .i64 l, .int .i64 t, .int .i64 d] 28)).alloc (.cells #[.int .i64 o, .int .i64 c, .int .i64 v, .int .i64 i, .int .i64 s] 2)).alloc (.cells #[.int .i64 l, .int .i64 t] 2)).alloc (.cells #[.int .i64 d] 2)) (some ⟨((((w.alloc (.cells #[.int .i64 o, .int .i64 c, .int .i64 v, .int .i64 i, .int .i64 s] 26)).alloc (.cells #[.int .i64 l, .int .i64 t, .int .i64 d] 28)).alloc (.cells #[.int .i64 o, .int .i64 c, .int .i64 v, .int .i64 i, .int .i64 s] 2)).alloc (.cells #[.int .i64 l, .int .i64 t] 2)).heap.size, 0, none⟩) 1 [d] (sl_newc ((((w.alloc (.cells #[.int .i64 o, .int .i64 c, .int .i64 v, .int .i64 i, .int .i64 s] 26)).alloc (.cells #[.int .i64 l, .int .i64 t, .int .i64 d] 28)).alloc (.cells #[.int .i64 o, .int .i64 c, .int .i64 v, .int .i64 i, .int .i64 s] 2)).alloc (.cells #[.int .i64 l, .int .i64 t] 2)) [d]) (by simp) z hz
  rw [show ((((w.alloc (.cells #[.int .i64 o, .int .i64 c, .int .i64 v, .int .i64 i, .int .i64 s] 26)).alloc (.cells #[.int .i64 l, .int .i64 t, .int .i64 d] 28)).alloc (.cells #[.int .i64 o, .int .i64 c, .int .i64 v, .int .i64 i, .int .i64 s] 2)).alloc (.cells #[.int .i64 l, .int .i64 t] 2)).heap.size = w.heap.size + 4 from by simp] at h3
  have H3 : Hid (Calls Try.prog 21 #[.int .i64 100000, .slice (some ⟨w.heap.size + 4, 0, none⟩) 1 1] (((((w.alloc (.cells #[.int .i64 o, .int .i64 c, .int .i64 v, .int .i64 i, .int .i64 s] 26)).alloc (.cells #[.int .i64 l, .int .i64 t, .int .i64 d] 28)).alloc (.cells #[.int .i64 o, .int .i64 c, .int .i64 v, .int .i64 i, .int .i64 s] 2)).alloc (.cells #[.int .i64 l, .int .i64 t] 2)).alloc (.cells #[.int .i64 d] 2)) fun e w' => e = .returned (.bool z) ∧ w' = ((((w.alloc (.cells #[.int .i64 o, .int .i64 c, .int .i64 v, .int .i64 i, .int .i64 s] 26)).alloc (.cells #[.int .i64 l, .int .i64 t, .int .i64 d] 28)).alloc (.cells #[.int .i64 o, .int .i64 c, .int .i64 v, .int .i64 i, .int .i64 s] 2)).alloc (.cells #[.int .i64 l, .int .i64 t] 2)).alloc (.cells #[.int .i64 d] 2)) := h3
  clear h3
  have HR : Hid (r = (x && (y && z))) := by show _ = _; rw [← hr, rightF, hx, hy, hz]
  clear hr hx hy hz
  have HB := Lib.hid (below_new2 w (.cells #[.int .i64 o, .int .i64 c, .int .i64 v, .int .i64 i, .int .i64 s] 26) (.cells #[.int .i64 l, .int .i64 t, .int .i64 d] 28))
  go_enter Try.func13, Try.ntmps13
  go_wp2_with fail
  refine H1.out.mono ?_
  rintro e w1 ⟨rfl, rfl⟩
  have B1 := Lib.hid (HB.out.alloc HB.out.size (.cells #[.int .i64 o, .int .i64 c, .int .i64 v, .int .i64 i, .int .i64 s] 2))
  cases x with
  | false =>
    go_wp2
    go_ret
    exact ⟨by rw [HR.out]; rfl, B1.out⟩
  | true =>
    go_wp2_with fail
    refine H2.out.mono ?_
    rintro e w2 ⟨rfl, rfl⟩
    have B2 := Lib.hid (B1.out.alloc B1.out.size (.cells #[.int .i64 l, .int .i64 t] 2))
    cases y with
    | false =>
      go_wp2
      go_ret
      exact ⟨by rw [HR.out]; rfl, B2.out⟩
    | true =>
      go_wp2_with fail
      refine H3.out.mono ?_
      rintro e w3 ⟨rfl, rfl⟩
      have B3 := Lib.hid (B2.out.alloc B2.out.size (.cells #[.int .i64 d] 2))
      go_wp2
      go_ret
      exact ⟨by rw [HR.out]; cases z <;> rfl, B3.out⟩
/-- Which covenants hold. -/
def ltcB (o c l : Int) : Bool := decide (o * 10000 ≤ c * l)
def dscrB (i s d : Int) : Bool := decide (s * d ≤ i * 10000)
abbrev i64 (x : Int) : Prop := -9223372036854775808 ≤ x ∧ x ≤ 9223372036854775807
set_option maxRecDepth 8000 in
theorem cltc_any (o c v i s l t d : Int) (ho : i64 o) (hc : i64 c) (hl : i64 l) (w : World) :
    Calls Try.prog 15 #[.agg #[.int .i64 o, .int .i64 c, .int .i64 v, .int .i64 i, .int .i64 s], .agg #[.int .i64 l, .int .i64 t, .int .i64 d]] w fun e w' => e = .returned (.bool (ltcB o c l)) ∧ Below w.heap.size w w' := by
  have H := fun W => cross_any o 10000 c l ho.1 ho.2 (by decide) (by decide) hc.1 hc.2 hl.1 hl.2 W
  have hr := cmpI_range (o * 10000) (c * l)
  have hiff : (cmpI (o * 10000) (c * l) ≤ 0) ↔ o * 10000 ≤ c * l := by unfold cmpI; split <;> (try split) <;> omega
  obtain ⟨q, hq⟩ : ∃ q, cmpI (o * 10000) (c * l) = q := ⟨_, rfl⟩
  rw [hq] at H hr hiff
  have HI := Lib.hid hiff
  have HH := Lib.hid H
  clear H hq hiff
  obtain ⟨r0, r1⟩ := hr
  have HB := Lib.hid (below_new2 w (.cells #[.int .i64 o, .int .i64 c, .int .i64 v, .int .i64 i, .int .i64 s] 26) (.cells #[.int .i64 l, .int .i64 t, .int .i64 d] 28))
  go_enter Try.func15, Try.ntmps15
  go_wp2_with fail
  refine (HH.out _).mono ?_
  rintro e w1 ⟨rfl, hb1⟩
  have B1 := Lib.hid (below_on HB.out HB.out.size hb1)
  clear hb1
  go_wp2
  go_ret
  exact ⟨by unfold ltcB; rw [← decide_eq_decide.2 HI.out]; rfl, B1.out⟩
set_option maxRecDepth 8000 in
theorem cltv_any (o c v i s l t d : Int) (ho : i64 o) (hv : i64 v) (ht : i64 t) (w : World) :
    Calls Try.prog 16 #[.agg #[.int .i64 o, .int .i64 c, .int .i64 v, .int .i64 i, .int .i64 s], .agg #[.int .i64 l, .int .i64 t, .int .i64 d]] w fun e w' => e = .returned (.bool (ltcB o v t)) ∧ Below w.heap.size w w' := by
  have H := fun W => cross_any o 10000 v t ho.1 ho.2 (by decide) (by decide) hv.1 hv.2 ht.1 ht.2 W
  have hr := cmpI_range (o * 10000) (v * t)
  have hiff : (cmpI (o * 10000) (v * t) ≤ 0) ↔ o * 10000 ≤ v * t := by unfold cmpI; split <;> (try split) <;> omega
  obtain ⟨q, hq⟩ : ∃ q, cmpI (o * 10000) (v * t) = q := ⟨_, rfl⟩
  rw [hq] at H hr hiff
  have HI := Lib.hid hiff
  have HH := Lib.hid H
  clear H hq hiff
  obtain ⟨r0, r1⟩ := hr
  have HB := Lib.hid (below_new2 w (.cells #[.int .i64 o, .int .i64 c, .int .i64 v, .int .i64 i, .int .i64 s] 26) (.cells #[.int .i64 l, .int .i64 t, .int .i64 d] 28))
  go_enter Try.func16, Try.ntmps16
  go_wp2_with fail
  refine (HH.out _).mono ?_
  rintro e w1 ⟨rfl, hb1⟩
  have B1 := Lib.hid (below_on HB.out HB.out.size hb1)
  clear hb1
  go_wp2
  go_ret
  exact ⟨by unfold ltcB; rw [← decide_eq_decide.2 HI.out]; rfl, B1.out⟩
set_option maxRecDepth 8000 in
theorem cdscr_any (o c v i s l t d : Int) (hi : i64 i) (hs : i64 s) (hd : i64 d) (w : World) :
    Calls Try.prog 17 #[.agg #[.int .i64 o, .int .i64 c, .int .i64 v, .int .i64 i, .int .i64 s], .agg #[.int .i64 l, .int .i64 t, .int .i64 d]] w fun e w' => e = .returned (.bool (dscrB i s d)) ∧ Below w.heap.size w w' := by
  have H := fun W => cross_any i 10000 s d hi.1 hi.2 (by decide) (by decide) hs.1 hs.2 hd.1 hd.2 W
  have hr := cmpI_range (i * 10000) (s * d)
  have hiff : (cmpI (i * 10000) (s * d) ≥ 0) ↔ s * d ≤ i * 10000 := by unfold cmpI; split <;> (try split) <;> omega
  obtain ⟨q, hq⟩ : ∃ q, cmpI (i * 10000) (s * d) = q := ⟨_, rfl⟩
  rw [hq] at H hr hiff
  have HI := Lib.hid hiff
  have HH := Lib.hid H
  clear H hq hiff
  obtain ⟨r0, r1⟩ := hr
  have HB := Lib.hid (below_new2 w (.cells #[.int .i64 o, .int .i64 c, .int .i64 v, .int .i64 i, .int .i64 s] 26) (.cells #[.int .i64 l, .int .i64 t, .int .i64 d] 28))
  go_enter Try.func17, Try.ntmps17
  go_wp2_with fail
  refine (HH.out _).mono ?_
  rintro e w1 ⟨rfl, hb1⟩
  have B1 := Lib.hid (below_on HB.out HB.out.size hb1)
  clear hb1
  go_wp2
  go_ret
  exact ⟨by unfold dscrB; rw [← decide_eq_decide.2 HI.out]; rfl, B1.out⟩
end Go.Proofs.Ytleeifknicilhaa
