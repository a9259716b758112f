/-
  The walk of the law PackOnce: it answers true at every input.
-/
import Derived.Test.YtoafkjilkfohjaaPkAlive
import Derived.Test.YtoafkjilkfohjaaMono
set_option linter.unusedVariables false
set_option linter.unusedSimpArgs false
namespace Go.Proofs.Ytoafkjilkfohjaa
open Go.RowKit

theorem rdN_cases (L : List UInt8) : (rdN L false = (0, [], true)) ∨ ∃ n rest, rdN L false = (n, rest, false) ∧ L = enc n ++ rest ∧ n < 18446744073709551616 := by
  cases h : rdS 0 0 L with
  | none => exact .inl (rdN_none h)
  | some x => obtain ⟨n, r⟩ := x; exact .inr ⟨n, r, rdN_some h, (rdS_enc0 h).1, (rdS_enc0 h).2⟩
theorem pnum_one (n : Nat) (hn : n < 18446744073709551616) (g : Nat) (w : World) (h : Sl w (some ⟨g, 0, none⟩) 1 1 [.int .u64 n]) :
    Calls Try.prog 12 #[.slice none 0 0, .slice (some ⟨g, 0, none⟩) 1 1] w fun e w' => ∃ v', e = .returned v' ∧ OwB w' w.heap.size v' (enc n) ∧ Below w.heap.size w w' := by
  have := pnum_any w (.slice none 0 0) [] (own_nil _ 0).sl (some ⟨g, 0, none⟩) 1 [n] h (by simpa using hn) (by simp)
  simpa [encs] using this
theorem sl_grown {w w' : World} {r : Nat} {x : Option Addr} {m cap : Nat} {f : Bool} {v : Value} {L : List UInt8} (hB : Blk w r 67 [.slice x m cap, .bool f]) (h : SlB w v L) (hg : w.grownBy w' (some r)) : SlB w' v L := by
  obtain ⟨ao, c, e, hs⟩ := h
  refine ⟨ao, c, e, hs.len, hs.room, hs.nil, fun hne => ?_⟩
  obtain ⟨b, off, e', hbr, hc⟩ := rd_apart hB (n := L.length) hs hne
  refine ⟨b, off, e', fun j u hu => ?_⟩
  exact hg.cell (hc j u hu) (by simpa using hbr)
set_option maxRecDepth 8000 in
set_option maxHeartbeats 1600000 in
theorem once_law (v : Value) (L : List UInt8) (w : World) (h : SlB w v L) :
    Calls Try.prog 3 #[v] w fun e w' => e = .returned (.bool true) ∧ Below w.heap.size w w' := by
  obtain ⟨ao, cap, rfl, hs⟩ := h
  have HV : Hid (SlB w (.slice ao L.length cap) L) := ⟨_, _, rfl, hs⟩
  clear hs
  by_cases hl : 100 < L.length
  · go_enter Try.func3, Try.ntmps3
    go_wp2_with fail
    refine (alive_any _).mono ?_
    rintro e w1 ⟨rfl, hb⟩
    go_wp2
    go_ret
    exact ⟨rfl, hb⟩
  · go_enter Try.func3, Try.ntmps3
    go_wp2_with fail
    refine (alive_any _).mono ?_
    rintro e w1 ⟨rfl, hb⟩
    have HV1 := Lib.hid (HV.out.keeps hb)
    have HB1 := Lib.hid hb
    have HN := Lib.hid (new_any w1 _ L HV1.out (by omega))
    clear hb HV
    go_wp2_with fail
    refine HN.out.mono ?_
    rintro e w2 ⟨r, rfl, hr, hrl, hb⟩
    have HV2 := Lib.hid (HV1.out.keeps hb)
    have HB2 := Lib.hid (below_on HB1.out HB1.out.size hb)
    have HM := Lib.hid (rnum_any w2 r L false hr)
    obtain ⟨xo, xc, hr2, _⟩ := hr
    have hrw : Hid (w1.heap.size ≤ r) := hrl
    clear hb HV1 HN
    go_wp2_with fail
    refine HM.out.mono ?_
    clear HM
    rintro e w3 ⟨rfl, hr, hg⟩
    have HV3 : Hid (SlB w3 (.slice ao L.length cap) L) := by
      exact sl_grown hr2 HV2.out hg
    have HB3 := Lib.hid (HB2.out.grown hg HB2.out.size (fun k hk => by cases hk; exact Nat.le_trans HB1.out.size hrw.out))
    have HE := Lib.hid (ended_any w3 r _ _ hr)
    have HL := Lib.hid (left_any w3 r _ _ hr)
    clear hr hg
    rcases rdN_cases L with hc | ⟨n, rest, hc, hL, hn⟩
    · rw [hc] at HE HL ⊢
      go_wp2_with fail
      refine HE.out.mono ?_
      rintro e w4 ⟨rfl, rfl⟩
      go_wp2_with fail
      refine HL.out.mono ?_
      rintro e w4 ⟨rfl, rfl⟩
      go_wp2_with fail
      refine region_mono (by kernel_rfl) (by kernel_rfl) [some 26, some 27, some 28, some 29, some 30, some 31, some 32, some 33, some 34, some 35, some 36, some 37, some 38, some 39, some 40, some 41, some 2] (by kernel_rfl) w.heap.size w HB3.out (Nat.le_refl _) (fun i v WW => match i with | 0 => v = .int .i64 0 | 1 => v = .bool true | 2 => v = .bool true | 3 => v = undef | 4 => v = undef | 5 => v = undef | 6 => v = undef | 7 => v = undef | 8 => v = undef | 9 => v = undef | 10 => v = undef | 11 => v = undef | 12 => v = undef | 13 => v = undef | 14 => v = undef | 15 => v = .bool true | 16 => v = .bool true | _ => True) ?_ ?_ ?_
      · intro i v WW WX h hbx
        rcases i with _ | _ | _ | _ | _ | _ | _ | _ | _ | _ | _ | _ | _ | _ | _ | _ | _ | i
        · exact h
        · exact h
        · exact h
        · exact h
        · exact h
        · exact h
        · exact h
        · exact h
        · exact h
        · exact h
        · exact h
        · exact h
        · exact h
        · exact h
        · exact h
        · exact h
        · exact h
        · trivial
      · intro iI oO V AC WW ho hf hbw K hK
        have hlt : iI < 17 := (Array.getElem?_eq_some_iff.1 ho).1
        rcases iI with _ | _ | _ | _ | _ | _ | _ | _ | _ | _ | _ | _ | _ | _ | _ | _ | _ | iI
        · obtain rfl := Option.some.inj (show some _ = some oO from ho)
          rw [if_pos (by rfl)]
          have q5 : AC.tmps.getD 5 undef = .int .i64 0 := hf.rest 5 (by kernel_rfl)
          go_simp
          exact hK _ _ (Below.refl _ _) rfl
        · obtain rfl := Option.some.inj (show some _ = some oO from ho)
          rw [if_pos (by rfl)]
          have q26 : AC.tmps.getD 26 undef = .int .i64 0 := ((hf.dep ⟨0, .data⟩ (by simp) rfl).2 26 rfl).trans (hf.dep ⟨0, .data⟩ (by simp) rfl).1
          go_simp
          exact hK _ _ (Below.refl _ _) rfl
        · obtain rfl := Option.some.inj (show some _ = some oO from ho)
          rw [if_pos (by rfl)]
          have q27 : AC.tmps.getD 27 undef = .bool true := ((hf.dep ⟨1, .data⟩ (by simp) rfl).2 27 rfl).trans (hf.dep ⟨1, .data⟩ (by simp) rfl).1
          go_simp
          exact hK _ _ (Below.refl _ _) rfl
        · obtain rfl := Option.some.inj (show some _ = some oO from ho)
          rw [if_neg (wanted_no (s := 28) rfl rfl rfl (by rw [hf.size]; simp) (((hf.dep ⟨2, .guard⟩ (by simp) rfl).2 28 rfl).trans (hf.dep ⟨2, .guard⟩ (by simp) rfl).1) rfl)]
          exact hK _ _ (Below.refl _ _) rfl
        · obtain rfl := Option.some.inj (show some _ = some oO from ho)
          rw [if_neg (wanted_no (s := 28) rfl rfl rfl (by rw [hf.size]; simp) (((hf.dep ⟨2, .guard⟩ (by simp) rfl).2 28 rfl).trans (hf.dep ⟨2, .guard⟩ (by simp) rfl).1) rfl)]
          exact hK _ _ (Below.refl _ _) rfl
        · obtain rfl := Option.some.inj (show some _ = some oO from ho)
          rw [if_neg (wanted_no (s := 28) rfl rfl rfl (by rw [hf.size]; simp) (((hf.dep ⟨2, .guard⟩ (by simp) rfl).2 28 rfl).trans (hf.dep ⟨2, .guard⟩ (by simp) rfl).1) rfl)]
          exact hK _ _ (Below.refl _ _) rfl
        · obtain rfl := Option.some.inj (show some _ = some oO from ho)
          rw [if_neg (wanted_no (s := 28) rfl rfl rfl (by rw [hf.size]; simp) (((hf.dep ⟨2, .guard⟩ (by simp) rfl).2 28 rfl).trans (hf.dep ⟨2, .guard⟩ (by simp) rfl).1) rfl)]
          exact hK _ _ (Below.refl _ _) rfl
        · obtain rfl := Option.some.inj (show some _ = some oO from ho)
          rw [if_neg (wanted_no (s := 28) rfl rfl rfl (by rw [hf.size]; simp) (((hf.dep ⟨2, .guard⟩ (by simp) rfl).2 28 rfl).trans (hf.dep ⟨2, .guard⟩ (by simp) rfl).1) rfl)]
          exact hK _ _ (Below.refl _ _) rfl
        · obtain rfl := Option.some.inj (show some _ = some oO from ho)
          rw [if_neg (wanted_no (s := 28) rfl rfl rfl (by rw [hf.size]; simp) (((hf.dep ⟨2, .guard⟩ (by simp) rfl).2 28 rfl).trans (hf.dep ⟨2, .guard⟩ (by simp) rfl).1) rfl)]
          exact hK _ _ (Below.refl _ _) rfl
        · obtain rfl := Option.some.inj (show some _ = some oO from ho)
          rw [if_neg (wanted_no (s := 28) rfl rfl rfl (by rw [hf.size]; simp) (((hf.dep ⟨2, .guard⟩ (by simp) rfl).2 28 rfl).trans (hf.dep ⟨2, .guard⟩ (by simp) rfl).1) rfl)]
          exact hK _ _ (Below.refl _ _) rfl
        · obtain rfl := Option.some.inj (show some _ = some oO from ho)
          rw [if_neg (wanted_no (s := 28) rfl rfl rfl (by rw [hf.size]; simp) (((hf.dep ⟨2, .guard⟩ (by simp) rfl).2 28 rfl).trans (hf.dep ⟨2, .guard⟩ (by simp) rfl).1) rfl)]
          exact hK _ _ (Below.refl _ _) rfl
        · obtain rfl := Option.some.inj (show some _ = some oO from ho)
          rw [if_neg (wanted_no (s := 28) rfl rfl rfl (by rw [hf.size]; simp) (((hf.dep ⟨2, .guard⟩ (by simp) rfl).2 28 rfl).trans (hf.dep ⟨2, .guard⟩ (by simp) rfl).1) rfl)]
          exact hK _ _ (Below.refl _ _) rfl
        · obtain rfl := Option.some.inj (show some _ = some oO from ho)
          rw [if_neg (wanted_no (s := 28) rfl rfl rfl (by rw [hf.size]; simp) (((hf.dep ⟨2, .guard⟩ (by simp) rfl).2 28 rfl).trans (hf.dep ⟨2, .guard⟩ (by simp) rfl).1) rfl)]
          exact hK _ _ (Below.refl _ _) rfl
        · obtain rfl := Option.some.inj (show some _ = some oO from ho)
          rw [if_neg (wanted_no (s := 28) rfl rfl rfl (by rw [hf.size]; simp) (((hf.dep ⟨2, .guard⟩ (by simp) rfl).2 28 rfl).trans (hf.dep ⟨2, .guard⟩ (by simp) rfl).1) rfl)]
          exact hK _ _ (Below.refl _ _) rfl
        · obtain rfl := Option.some.inj (show some _ = some oO from ho)
          rw [if_neg (wanted_no (s := 28) rfl rfl rfl (by rw [hf.size]; simp) (((hf.dep ⟨2, .guard⟩ (by simp) rfl).2 28 rfl).trans (hf.dep ⟨2, .guard⟩ (by simp) rfl).1) rfl)]
          exact hK _ _ (Below.refl _ _) rfl
        · obtain rfl := Option.some.inj (show some _ = some oO from ho)
          rw [if_pos (by rfl)]
          have q28 : AC.tmps.getD 28 undef = .bool true := ((hf.dep ⟨2, .data⟩ (by simp) rfl).2 28 rfl).trans (hf.dep ⟨2, .data⟩ (by simp) rfl).1
          have q40 : AC.tmps.getD 40 undef = undef := ((hf.dep ⟨14, .data⟩ (by simp) rfl).2 40 rfl).trans (hf.dep ⟨14, .data⟩ (by simp) rfl).1
          go_simp
          exact hK _ _ (Below.refl _ _) rfl
        · obtain rfl := Option.some.inj (show some _ = some oO from ho)
          rw [if_pos (by rfl)]
          have q41 : AC.tmps.getD 41 undef = .bool true := ((hf.dep ⟨15, .data⟩ (by simp) rfl).2 41 rfl).trans (hf.dep ⟨15, .data⟩ (by simp) rfl).1
          go_simp
          exact hK _ _ (Below.refl _ _) rfl
        · omega
      · intro V WW hall hbw hBW
        have v0 : V 0 = .int .i64 0 := hall 0 (by decide)
        have v1 : V 1 = .bool true := hall 1 (by decide)
        have v2 : V 2 = .bool true := hall 2 (by decide)
        have v3 : V 3 = undef := hall 3 (by decide)
        have v4 : V 4 = undef := hall 4 (by decide)
        have v5 : V 5 = undef := hall 5 (by decide)
        have v6 : V 6 = undef := hall 6 (by decide)
        have v7 : V 7 = undef := hall 7 (by decide)
        have v8 : V 8 = undef := hall 8 (by decide)
        have v9 : V 9 = undef := hall 9 (by decide)
        have v10 : V 10 = undef := hall 10 (by decide)
        have v11 : V 11 = undef := hall 11 (by decide)
        have v12 : V 12 = undef := hall 12 (by decide)
        have v13 : V 13 = undef := hall 13 (by decide)
        have v14 : V 14 = undef := hall 14 (by decide)
        have v15 : V 15 = .bool true := hall 15 (by decide)
        have v16 : V 16 = .bool true := hall 16 (by decide)
        clear hall
        simp only [pairsOf, laid, Nat.zero_add, Nat.reduceAdd, v0, v1, v2, v3, v4, v5, v6, v7, v8, v9, v10, v11, v12, v13, v14, v15, v16, List.setIfInBounds_toArray, List.set_cons_zero, List.set_cons_succ]
        clear v0 v1 v2 v3 v4 v5 v6 v7 v8 v9 v10 v11 v12 v13 v14 v15 v16
        go_wp2
        go_ret
        exact ⟨rfl, hBW⟩
    · rw [hc] at HE HL ⊢
      clear hc
      cases rest with
      | nil =>
        rw [List.append_nil] at hL
        subst hL
        go_wp2_with fail
        refine HE.out.mono ?_
        rintro e w4 ⟨rfl, rfl⟩
        go_wp2_with fail
        refine region_mono (by kernel_rfl) (by kernel_rfl) [some 17, some 18, some 19, some 20, some 21, some 22, some 23, some 2] (by kernel_rfl) w.heap.size w HB3.out (Nat.le_refl _) (fun i v WW => match i with | 0 => v = .int .u64 n | 1 => ∃ g, v = .slice (some ⟨g, 0, none⟩) 1 1 ∧ Sl WW (some ⟨g, 0, none⟩) 1 1 [.int .u64 n] | 2 => SlB WW v (enc n) | 3 => v = .string (str (enc n)) | 4 => v = .slice ao (enc n).length cap | 5 => v = .string (str (enc n)) | 6 => v = .bool true | 7 => v = .bool true | _ => True) ?_ ?_ ?_
        · intro i v WW WX h hbx
          rcases i with _ | _ | _ | _ | _ | _ | _ | _ | i
          · exact h
          · first | exact SlB.keeps h hbx | (obtain ⟨g, e, hs⟩ := h; exact ⟨g, e, hs.keeps hbx⟩)
          · exact SlB.keeps h hbx
          · exact h
          · exact h
          · exact h
          · exact h
          · exact h
          · trivial
        · intro iI oO V AC WW ho hf hbw K hK
          have hlt : iI < 8 := (Array.getElem?_eq_some_iff.1 ho).1
          rcases iI with _ | _ | _ | _ | _ | _ | _ | _ | iI
          · obtain rfl := Option.some.inj (show some _ = some oO from ho)
            rw [if_pos (by rfl)]
            have q4 : AC.tmps.getD 4 undef = .int .u64 n := hf.rest 4 (by kernel_rfl)
            go_simp
            exact hK _ _ (Below.refl _ _) rfl
          · obtain rfl := Option.some.inj (show some _ = some oO from ho)
            rw [if_pos (by rfl)]
            have q17 : AC.tmps.getD 17 undef = .int .u64 n := ((hf.dep ⟨0, .data⟩ (by simp) rfl).2 17 rfl).trans (hf.dep ⟨0, .data⟩ (by simp) rfl).1
            have pp := q17
            rw [Array.getD_eq_getD_getElem?] at pp
            go_simp
            exact hK _ _ (below_new1 _ _) ⟨_, rfl, sl_unit _ _ _ _ rfl⟩
          · obtain rfl := Option.some.inj (show some _ = some oO from ho)
            rw [if_pos (by rfl)]
            have q18 : AC.tmps.getD 18 undef = V 1 := (hf.dep ⟨1, .data⟩ (by simp) rfl).2 18 rfl
            have t1 := (hf.dep ⟨1, .data⟩ (by simp) rfl).1
            obtain ⟨g, e, hs⟩ := t1
            rw [e] at q18
            go_simp
            refine (pnum_one n hn g WW hs).mono ?_
            rintro e w1 ⟨v1, rfl, ho1, hb1⟩
            exact hK _ _ hb1 ho1.sl
          · obtain rfl := Option.some.inj (show some _ = some oO from ho)
            rw [if_pos (by rfl)]
            have q19 : AC.tmps.getD 19 undef = V 2 := (hf.dep ⟨2, .data⟩ (by simp) rfl).2 19 rfl
            have t2 := (hf.dep ⟨2, .data⟩ (by simp) rfl).1
            exact to_text_op _ rfl _ q19 _ t2 (hK _ _ (Below.refl _ _) rfl)
          · obtain rfl := Option.some.inj (show some _ = some oO from ho)
            rw [if_pos (by rfl)]
            have q0 : AC.tmps.getD 0 undef = .slice ao (enc n).length cap := hf.rest 0 (by kernel_rfl)
            go_simp
            exact hK _ _ (Below.refl _ _) rfl
          · obtain rfl := Option.some.inj (show some _ = some oO from ho)
            rw [if_pos (by rfl)]
            have q21 : AC.tmps.getD 21 undef = .slice ao (enc n).length cap := ((hf.dep ⟨4, .data⟩ (by simp) rfl).2 21 rfl).trans (hf.dep ⟨4, .data⟩ (by simp) rfl).1
            exact to_text_op _ rfl _ q21 _ (HV3.out.keeps hbw) (hK _ _ (Below.refl _ _) rfl)
          · obtain rfl := Option.some.inj (show some _ = some oO from ho)
            rw [if_pos (by rfl)]
            have q20 : AC.tmps.getD 20 undef = .string (str (enc n)) := ((hf.dep ⟨3, .data⟩ (by simp) rfl).2 20 rfl).trans (hf.dep ⟨3, .data⟩ (by simp) rfl).1
            have q22 : AC.tmps.getD 22 undef = .string (str (enc n)) := ((hf.dep ⟨5, .data⟩ (by simp) rfl).2 22 rfl).trans (hf.dep ⟨5, .data⟩ (by simp) rfl).1
            go_simp
            exact hK _ _ (Below.refl _ _) rfl
          · obtain rfl := Option.some.inj (show some _ = some oO from ho)
            rw [if_pos (by rfl)]
            have q23 : AC.tmps.getD 23 undef = .bool true := ((hf.dep ⟨6, .data⟩ (by simp) rfl).2 23 rfl).trans (hf.dep ⟨6, .data⟩ (by simp) rfl).1
            go_simp
            exact hK _ _ (Below.refl _ _) rfl
          · omega
        · intro V WW hall hbw hBW
          have v0 : V 0 = .int .u64 n := hall 0 (by decide)
          have v1 : ∃ g, V 1 = .slice (some ⟨g, 0, none⟩) 1 1 ∧ Sl WW (some ⟨g, 0, none⟩) 1 1 [.int .u64 n] := hall 1 (by decide)
          have v2 : SlB WW (V 2) (enc n) := hall 2 (by decide)
          have v3 : V 3 = .string (str (enc n)) := hall 3 (by decide)
          have v4 : V 4 = .slice ao (enc n).length cap := hall 4 (by decide)
          have v5 : V 5 = .string (str (enc n)) := hall 5 (by decide)
          have v6 : V 6 = .bool true := hall 6 (by decide)
          have v7 : V 7 = .bool true := hall 7 (by decide)
          clear hall
          simp only [pairsOf, laid, Nat.zero_add, Nat.reduceAdd, v0, v3, v4, v5, v6, v7, List.setIfInBounds_toArray, List.set_cons_zero, List.set_cons_succ]
          clear v0 v3 v4 v5 v6 v7
          go_wp2
          go_ret
          exact ⟨rfl, hBW⟩
      | cons c rest =>
        have HLL : Hid (L.length = (enc n).length + (rest.length + 1)) := by
          show _ = _
          rw [hL, List.length_append, List.length_cons]
        have HTK : Hid (L.take (enc n).length = enc n) := by
          show _ = _
          rw [hL, List.take_left]
        clear hL
        go_wp2_with fail
        refine HE.out.mono ?_
        rintro e w4 ⟨rfl, rfl⟩
        go_wp2_with fail
        refine HL.out.mono ?_
        rintro e w4 ⟨rfl, rfl⟩
        go_wp2_with fail
        refine region_mono (by kernel_rfl) (by kernel_rfl) [some 26, some 27, some 28, some 29, some 30, some 31, some 32, some 33, some 34, some 35, some 36, some 37, some 38, some 39, some 40, some 41, some 2] (by kernel_rfl) w.heap.size w HB3.out (Nat.le_refl _) (fun i v WW => match i with | 0 => v = .int .i64 (rest.length + 1) | 1 => v = .bool false | 2 => v = .bool false | 3 => v = .int .u64 n | 4 => ∃ g, v = .slice (some ⟨g, 0, none⟩) 1 1 ∧ Sl WW (some ⟨g, 0, none⟩) 1 1 [.int .u64 n] | 5 => SlB WW v (enc n) | 6 => v = .string (str (enc n)) | 7 => v = .slice ao L.length cap | 8 => v = .slice ao L.length cap | 9 => v = .int .i64 L.length | 10 => v = .int .i64 (rest.length + 1) | 11 => v = .int .i64 ((enc n).length : Nat) | 12 => SlB WW v (enc n) | 13 => v = .string (str (enc n)) | 14 => v = .bool true | 15 => v = .bool true | 16 => v = .bool true | _ => True) ?_ ?_ ?_
        · intro i v WW WX h hbx
          rcases i with _ | _ | _ | _ | _ | _ | _ | _ | _ | _ | _ | _ | _ | _ | _ | _ | _ | i
          · exact h
          · exact h
          · exact h
          · exact h
          · first | exact SlB.keeps h hbx | (obtain ⟨g, e, hs⟩ := h; exact ⟨g, e, hs.keeps hbx⟩)
          · exact SlB.keeps h hbx
          · exact h
          · exact h
          · exact h
          · exact h
          · exact h
          · exact h
          · exact SlB.keeps h hbx
          · exact h
          · exact h
          · exact h
          · exact h
          · trivial
        · intro iI oO V AC WW ho hf hbw K hK
          have hlt : iI < 17 := (Array.getElem?_eq_some_iff.1 ho).1
          rcases iI with _ | _ | _ | _ | _ | _ | _ | _ | _ | _ | _ | _ | _ | _ | _ | _ | _ | iI
          · obtain rfl := Option.some.inj (show some _ = some oO from ho)
            rw [if_pos (by rfl)]
            have q5 : AC.tmps.getD 5 undef = .int .i64 (rest.length + 1) := hf.rest 5 (by kernel_rfl)
            go_simp
            exact hK _ _ (Below.refl _ _) rfl
          · obtain rfl := Option.some.inj (show some _ = some oO from ho)
            rw [if_pos (by rfl)]
            have q26 : AC.tmps.getD 26 undef = .int .i64 (rest.length + 1) := ((hf.dep ⟨0, .data⟩ (by simp) rfl).2 26 rfl).trans (hf.dep ⟨0, .data⟩ (by simp) rfl).1
            have hne : ¬ ((rest.length : Int) + 1 = 0) := by omega
            go_simp
            exact hK _ _ (Below.refl _ _) rfl
          · obtain rfl := Option.some.inj (show some _ = some oO from ho)
            rw [if_pos (by rfl)]
            have q27 : AC.tmps.getD 27 undef = .bool false := ((hf.dep ⟨1, .data⟩ (by simp) rfl).2 27 rfl).trans (hf.dep ⟨1, .data⟩ (by simp) rfl).1
            go_simp
            exact hK _ _ (Below.refl _ _) rfl
          · obtain rfl := Option.some.inj (show some _ = some oO from ho)
            rw [if_pos (wanted_yes (s := 28) rfl rfl rfl (by rw [hf.size]; simp) (((hf.dep ⟨2, .guard⟩ (by simp) rfl).2 28 rfl).trans (hf.dep ⟨2, .guard⟩ (by simp) rfl).1))]
            have q4 : AC.tmps.getD 4 undef = .int .u64 n := hf.rest 4 (by kernel_rfl)
            go_simp
            exact hK _ _ (Below.refl _ _) rfl
          · obtain rfl := Option.some.inj (show some _ = some oO from ho)
            rw [if_pos (wanted_yes (s := 28) rfl rfl rfl (by rw [hf.size]; simp) (((hf.dep ⟨2, .guard⟩ (by simp) rfl).2 28 rfl).trans (hf.dep ⟨2, .guard⟩ (by simp) rfl).1))]
            have q29 : AC.tmps.getD 29 undef = .int .u64 n := ((hf.dep ⟨3, .data⟩ (by simp) rfl).2 29 rfl).trans (hf.dep ⟨3, .data⟩ (by simp) rfl).1
            have pp := q29
            rw [Array.getD_eq_getD_getElem?] at pp
            go_simp
            exact hK _ _ (below_new1 _ _) ⟨_, rfl, sl_unit _ _ _ _ rfl⟩
          · obtain rfl := Option.some.inj (show some _ = some oO from ho)
            rw [if_pos (wanted_yes (s := 28) rfl rfl rfl (by rw [hf.size]; simp) (((hf.dep ⟨2, .guard⟩ (by simp) rfl).2 28 rfl).trans (hf.dep ⟨2, .guard⟩ (by simp) rfl).1))]
            have q30 : AC.tmps.getD 30 undef = V 4 := (hf.dep ⟨4, .data⟩ (by simp) rfl).2 30 rfl
            have t4 := (hf.dep ⟨4, .data⟩ (by simp) rfl).1
            obtain ⟨g, e, hs⟩ := t4
            rw [e] at q30
            go_simp
            refine (pnum_one n hn g WW hs).mono ?_
            rintro e w1 ⟨v1, rfl, ho1, hb1⟩
            exact hK _ _ hb1 ho1.sl
          · obtain rfl := Option.some.inj (show some _ = some oO from ho)
            rw [if_pos (wanted_yes (s := 28) rfl rfl rfl (by rw [hf.size]; simp) (((hf.dep ⟨2, .guard⟩ (by simp) rfl).2 28 rfl).trans (hf.dep ⟨2, .guard⟩ (by simp) rfl).1))]
            have q31 : AC.tmps.getD 31 undef = V 5 := (hf.dep ⟨5, .data⟩ (by simp) rfl).2 31 rfl
            have t5 := (hf.dep ⟨5, .data⟩ (by simp) rfl).1
            exact to_text_op _ rfl _ q31 _ t5 (hK _ _ (Below.refl _ _) rfl)
          · obtain rfl := Option.some.inj (show some _ = some oO from ho)
            rw [if_pos (wanted_yes (s := 28) rfl rfl rfl (by rw [hf.size]; simp) (((hf.dep ⟨2, .guard⟩ (by simp) rfl).2 28 rfl).trans (hf.dep ⟨2, .guard⟩ (by simp) rfl).1))]
            have q0 : AC.tmps.getD 0 undef = .slice ao L.length cap := hf.rest 0 (by kernel_rfl)
            go_simp
            exact hK _ _ (Below.refl _ _) rfl
          · obtain rfl := Option.some.inj (show some _ = some oO from ho)
            rw [if_pos (wanted_yes (s := 28) rfl rfl rfl (by rw [hf.size]; simp) (((hf.dep ⟨2, .guard⟩ (by simp) rfl).2 28 rfl).trans (hf.dep ⟨2, .guard⟩ (by simp) rfl).1))]
            have q0 : AC.tmps.getD 0 undef = .slice ao L.length cap := hf.rest 0 (by kernel_rfl)
            go_simp
            exact hK _ _ (Below.refl _ _) rfl
          · obtain rfl := Option.some.inj (show some _ = some oO from ho)
            rw [if_pos (wanted_yes (s := 28) rfl rfl rfl (by rw [hf.size]; simp) (((hf.dep ⟨2, .guard⟩ (by simp) rfl).2 28 rfl).trans (hf.dep ⟨2, .guard⟩ (by simp) rfl).1))]
            have q34 : AC.tmps.getD 34 undef = .slice ao L.length cap := ((hf.dep ⟨8, .data⟩ (by simp) rfl).2 34 rfl).trans (hf.dep ⟨8, .data⟩ (by simp) rfl).1
            go_simp
            exact hK _ _ (Below.refl _ _) rfl
          · obtain rfl := Option.some.inj (show some _ = some oO from ho)
            rw [if_pos (wanted_yes (s := 28) rfl rfl rfl (by rw [hf.size]; simp) (((hf.dep ⟨2, .guard⟩ (by simp) rfl).2 28 rfl).trans (hf.dep ⟨2, .guard⟩ (by simp) rfl).1))]
            have q5 : AC.tmps.getD 5 undef = .int .i64 (rest.length + 1) := hf.rest 5 (by kernel_rfl)
            go_simp
            exact hK _ _ (Below.refl _ _) rfl
          · obtain rfl := Option.some.inj (show some _ = some oO from ho)
            rw [if_pos (wanted_yes (s := 28) rfl rfl rfl (by rw [hf.size]; simp) (((hf.dep ⟨2, .guard⟩ (by simp) rfl).2 28 rfl).trans (hf.dep ⟨2, .guard⟩ (by simp) rfl).1))]
            have q35 : AC.tmps.getD 35 undef = .int .i64 L.length := ((hf.dep ⟨9, .data⟩ (by simp) rfl).2 35 rfl).trans (hf.dep ⟨9, .data⟩ (by simp) rfl).1
            have q36 : AC.tmps.getD 36 undef = .int .i64 (rest.length + 1) := ((hf.dep ⟨10, .data⟩ (by simp) rfl).2 36 rfl).trans (hf.dep ⟨10, .data⟩ (by simp) rfl).1
            go_simp
            rw [show (L.length : Int) - (rest.length + 1) = ((enc n).length : Nat) from by have := HLL.out; omega, show IntKind.i64.wrap (((enc n).length : Nat) : Int) = ((enc n).length : Nat) from by rw [IntKind.wrap_i64]; have := enc_len64 n hn; omega]
            exact hK _ _ (Below.refl _ _) rfl
          · obtain rfl := Option.some.inj (show some _ = some oO from ho)
            rw [if_pos (wanted_yes (s := 28) rfl rfl rfl (by rw [hf.size]; simp) (((hf.dep ⟨2, .guard⟩ (by simp) rfl).2 28 rfl).trans (hf.dep ⟨2, .guard⟩ (by simp) rfl).1))]
            have q33 : AC.tmps.getD 33 undef = .slice ao L.length cap := ((hf.dep ⟨7, .data⟩ (by simp) rfl).2 33 rfl).trans (hf.dep ⟨7, .data⟩ (by simp) rfl).1
            have q37 : AC.tmps.getD 37 undef = .int .i64 ((enc n).length : Nat) := ((hf.dep ⟨11, .data⟩ (by simp) rfl).2 37 rfl).trans (hf.dep ⟨11, .data⟩ (by simp) rfl).1
            refine cut_to_op _ _ rfl _ q33 L (HV3.out.keeps hbw) (enc n).length (by have := HLL.out; omega) q37 fun ao1 cap1 h1 => hK _ _ (Below.refl _ _) ?_
            rw [HTK.out] at h1 ⊢
            exact ⟨_, _, rfl, h1⟩
          · obtain rfl := Option.some.inj (show some _ = some oO from ho)
            rw [if_pos (wanted_yes (s := 28) rfl rfl rfl (by rw [hf.size]; simp) (((hf.dep ⟨2, .guard⟩ (by simp) rfl).2 28 rfl).trans (hf.dep ⟨2, .guard⟩ (by simp) rfl).1))]
            have q38 : AC.tmps.getD 38 undef = V 12 := (hf.dep ⟨12, .data⟩ (by simp) rfl).2 38 rfl
            have t12 := (hf.dep ⟨12, .data⟩ (by simp) rfl).1
            exact to_text_op _ rfl _ q38 _ t12 (hK _ _ (Below.refl _ _) rfl)
          · obtain rfl := Option.some.inj (show some _ = some oO from ho)
            rw [if_pos (wanted_yes (s := 28) rfl rfl rfl (by rw [hf.size]; simp) (((hf.dep ⟨2, .guard⟩ (by simp) rfl).2 28 rfl).trans (hf.dep ⟨2, .guard⟩ (by simp) rfl).1))]
            have q32 : AC.tmps.getD 32 undef = .string (str (enc n)) := ((hf.dep ⟨6, .data⟩ (by simp) rfl).2 32 rfl).trans (hf.dep ⟨6, .data⟩ (by simp) rfl).1
            have q39 : AC.tmps.getD 39 undef = .string (str (enc n)) := ((hf.dep ⟨13, .data⟩ (by simp) rfl).2 39 rfl).trans (hf.dep ⟨13, .data⟩ (by simp) rfl).1
            go_simp
            exact hK _ _ (Below.refl _ _) rfl
          · obtain rfl := Option.some.inj (show some _ = some oO from ho)
            rw [if_pos (by rfl)]
            have q28 : AC.tmps.getD 28 undef = .bool false := ((hf.dep ⟨2, .data⟩ (by simp) rfl).2 28 rfl).trans (hf.dep ⟨2, .data⟩ (by simp) rfl).1
            have q40 : AC.tmps.getD 40 undef = .bool true := ((hf.dep ⟨14, .data⟩ (by simp) rfl).2 40 rfl).trans (hf.dep ⟨14, .data⟩ (by simp) rfl).1
            go_simp
            exact hK _ _ (Below.refl _ _) rfl
          · obtain rfl := Option.some.inj (show some _ = some oO from ho)
            rw [if_pos (by rfl)]
            have q41 : AC.tmps.getD 41 undef = .bool true := ((hf.dep ⟨15, .data⟩ (by simp) rfl).2 41 rfl).trans (hf.dep ⟨15, .data⟩ (by simp) rfl).1
            go_simp
            exact hK _ _ (Below.refl _ _) rfl
          · omega
        · intro V WW hall hbw hBW
          have v0 : V 0 = .int .i64 (rest.length + 1) := hall 0 (by decide)
          have v1 : V 1 = .bool false := hall 1 (by decide)
          have v2 : V 2 = .bool false := hall 2 (by decide)
          have v3 : V 3 = .int .u64 n := hall 3 (by decide)
          have v4 : ∃ g, V 4 = .slice (some ⟨g, 0, none⟩) 1 1 ∧ Sl WW (some ⟨g, 0, none⟩) 1 1 [.int .u64 n] := hall 4 (by decide)
          have v5 : SlB WW (V 5) (enc n) := hall 5 (by decide)
          have v6 : V 6 = .string (str (enc n)) := hall 6 (by decide)
          have v7 : V 7 = .slice ao L.length cap := hall 7 (by decide)
          have v8 : V 8 = .slice ao L.length cap := hall 8 (by decide)
          have v9 : V 9 = .int .i64 L.length := hall 9 (by decide)
          have v10 : V 10 = .int .i64 (rest.length + 1) := hall 10 (by decide)
          have v11 : V 11 = .int .i64 ((enc n).length : Nat) := hall 11 (by decide)
          have v12 : SlB WW (V 12) (enc n) := hall 12 (by decide)
          have v13 : V 13 = .string (str (enc n)) := hall 13 (by decide)
          have v14 : V 14 = .bool true := hall 14 (by decide)
          have v15 : V 15 = .bool true := hall 15 (by decide)
          have v16 : V 16 = .bool true := hall 16 (by decide)
          clear hall
          simp only [pairsOf, laid, Nat.zero_add, Nat.reduceAdd, v0, v1, v2, v3, v6, v7, v8, v9, v10, v11, v13, v14, v15, v16, List.setIfInBounds_toArray, List.set_cons_zero, List.set_cons_succ]
          clear v0 v1 v2 v3 v6 v7 v8 v9 v10 v11 v13 v14 v15 v16
          go_wp2
          go_ret
          exact ⟨rfl, hBW⟩
end Go.Proofs.Ytoafkjilkfohjaa
