/-
  Lines of a budget: the walks of the reference's Cap, Right.
-/
import Derived.Test.YtikfclioplploaaBgL
import Derived.Test.YtikfclioplploaaRndF
set_option linter.unusedVariables false
set_option linter.unusedSimpArgs false
namespace Go.Proofs.Ytikfclioplploaa
open Go.RowKit Dg

set_option maxRecDepth 20000 in
theorem rcapf_any (b p : Int) (hb0 : 0 ≤ b) (hb1 : b ≤ 1000000000000) (hp0 : 0 ≤ p) (hp1 : p ≤ 10000) (w : World) :
    Calls Try.prog 47 #[.int .i64 b, .int .i64 p, .int .i64 10000] w fun e w' => e = .returned (.tuple #[.int .i64 (capS b p), .int .i64 0]) ∧ Below w.heap.size w w' := by
  have H := fun W => rround0_any b p 10000 (by omega) (by omega) (by omega) (by omega) (by decide) (by decide) W
  have hc := cap_in hb0 hb1 hp0 hp1
  rw [show b * p / ((10000 : Nat) : Int) = capS b p from rfl, cutI_in (z := capS b p) (by omega) (by omega)] at H
  have HH := Lib.hid H
  obtain ⟨q, hq⟩ : ∃ q, capS b p = q := ⟨_, rfl⟩
  rw [hq] at HH ⊢
  clear H hc hq
  go_enter Try.func47, Try.ntmps47
  go_wp2_with fail
  refine (HH.out _).mono ?_
  rintro e w1 ⟨rfl, hb⟩
  go_wp2
  go_ret2
  exact ⟨rfl, hb⟩
set_option maxRecDepth 8000 in
theorem rcap_any (b p x y : Int) (hb0 : 0 ≤ b) (hb1 : b ≤ 1000000000000) (hp0 : 0 ≤ p) (hp1 : p ≤ 10000) (w : World) :
    Calls Try.prog 36 #[.agg #[.int .i64 b, .int .i64 p, .int .i64 x, .int .i64 y]] w fun e w' => e = .returned (.int .i64 (capS b p)) ∧ Below w.heap.size w w' := by
  have H := Lib.hid (fun W => rcapf_any b p hb0 hb1 hp0 hp1 W)
  have HB := Lib.hid (below_new1 w (.cells #[.int .i64 b, .int .i64 p, .int .i64 x, .int .i64 y] 23))
  clear hb0 hb1 hp0 hp1
  go_enter Try.func36, Try.ntmps36
  go_wp2_with fail
  refine (H.out _).mono ?_
  rintro e w1 ⟨rfl, hb1⟩
  have HB1 := Lib.hid (below_on HB.out HB.out.size hb1)
  clear hb1
  go_wp2
  go_ret
  exact ⟨rfl, HB1.out⟩
theorem okLn_dec (b p x y : Int) : (!okLn (b, p, x, y)) = ((((((((decide (b < 0) || decide (1000000000000 < b)) || decide (p < 0)) || decide (10000 < p)) || decide (x < 0)) || decide (1000000000000 < x)) || decide (y < 0)) || decide (1000000000000 < y)) || decide (capS b p < x + y)) := by
  rw [Bool.eq_iff_iff]
  simp only [okLn, okM, Bool.not_eq_true', Bool.or_eq_true, decide_eq_true_eq, Bool.and_eq_false_iff, decide_eq_false_iff_not]
  omega
theorem right_none {L : List Ln} {t : Ln} (h : t ∈ L) (h2 : okLn t = false) : rightL L = false := by
  unfold rightL
  rw [List.all_eq_false.2 ⟨t, h, by rw [h2]; decide⟩, Bool.and_false]
set_option maxRecDepth 8000 in
set_option maxHeartbeats 4000000 in
theorem rright_core (w : World) (ao : Option Addr) (cap : Nat) (L : List Ln) (h : SlL w ao cap L) (h1 : 1 ≤ L.length) (h16 : L.length ≤ 16) (v : Bool) (hv : rightL L = v) :
    Calls Try.prog 34 #[.slice ao L.length cap] w fun e w' => e = .returned (.bool v) ∧ Below w.heap.size w w' := by
  have HV := Lib.hid hv
  have H := Lib.hid h
  have t1 : ¬ (L.length : Int) < 1 := by omega
  have t2 : ¬ (16 : Int) < L.length := by omega
  have H1 := Lib.hid h1
  clear hv h h1
  go_enter Try.func34, Try.ntmps34
  go_wp2
  go_loopw [15] (fun i wr => ∃ k : Nat, k ≤ L.length ∧ i = .int .i64 k ∧ Hid ((L.take k).all okLn = true) ∧ Below w.heap.size w wr) (fun i _ => L.length - (intOf i).toNat)
  case atStart => exact ⟨0, by omega, rfl, by show _ = _; simp, Below.refl _ _⟩
  case round =>
    obtain ⟨k, hk, rfl, HK, hb⟩ := hrel
    by_cases hkl : k < L.length
    · obtain ⟨⟨b, p, x, y⟩, ht⟩ : ∃ t, L[k]? = some t := ⟨_, List.getElem?_eq_getElem hkl⟩
      have HT := Lib.hid ht
      have hw := H.out.keeps hb
      have HG := Lib.hid (Blk.new wr 23 [.int .i64 b, .int .i64 p, .int .i64 x, .int .i64 y])
      have HBx := Lib.hid (hb.alloc hb.size (.cells #[.int .i64 b, .int .i64 p, .int .i64 x, .int .i64 y] 23))
      have hd := okLn_dec b p x y
      have hc := fun h0 h1 h2 h3 W => rcap_any b p x y h0 h1 h2 h3 W
      obtain ⟨q, hq⟩ : ∃ q, capS b p = q := ⟨_, rfl⟩
      rw [hq] at hd hc
      obtain ⟨c3, e3⟩ : ∃ c, c = decide (b < 0) := ⟨_, rfl⟩
      obtain ⟨c8, e8⟩ : ∃ c, c = (c3 || decide (1000000000000 < b)) := ⟨_, rfl⟩
      obtain ⟨c13, e13⟩ : ∃ c, c = (c8 || decide (p < 0)) := ⟨_, rfl⟩
      obtain ⟨c18, e18⟩ : ∃ c, c = (c13 || decide (10000 < p)) := ⟨_, rfl⟩
      obtain ⟨c23, e23⟩ : ∃ c, c = (c18 || decide (x < 0)) := ⟨_, rfl⟩
      obtain ⟨c28, e28⟩ : ∃ c, c = (c23 || decide (1000000000000 < x)) := ⟨_, rfl⟩
      obtain ⟨c33, e33⟩ : ∃ c, c = (c28 || decide (y < 0)) := ⟨_, rfl⟩
      obtain ⟨c38, e38⟩ : ∃ c, c = (c33 || decide (1000000000000 < y)) := ⟨_, rfl⟩
      obtain ⟨c47, e47⟩ : ∃ c, c = (c38 || decide (q < x + y)) := ⟨_, rfl⟩
      have hd2 : (!okLn (b, p, x, y)) = c47 := by rw [hd, e47, e38, e33, e28, e23, e18, e13, e8, e3]
      have HR : Hid (c38 = false → (0 ≤ x ∧ x ≤ 1000000000000) ∧ 0 ≤ y ∧ y ≤ 1000000000000) := by
        intro e
        rw [e38, e33, e28, e23, e18, e13, e8, e3] at e
        simp only [Bool.or_eq_false_iff, decide_eq_false_iff_not] at e
        omega
      have HC : Hid (c38 = false → ∀ W, Calls Try.prog 36 #[.agg #[.int .i64 b, .int .i64 p, .int .i64 x, .int .i64 y]] W fun e w' => e = .returned (.int .i64 q) ∧ Below W.heap.size W w') := by
        intro e
        rw [e38, e33, e28, e23, e18, e13, e8, e3] at e
        simp only [Bool.or_eq_false_iff, decide_eq_false_iff_not] at e
        exact hc (by omega) (by omega) (by omega) (by omega)
      have HD := Lib.hid hd2
      have h3 := Lib.hid e3
      have h8 := Lib.hid e8
      have h13 := Lib.hid e13
      have h18 := Lib.hid e18
      have h23 := Lib.hid e23
      have h28 := Lib.hid e28
      have h33 := Lib.hid e33
      have h38 := Lib.hid e38
      have h47 := Lib.hid e47
      clear ht hb hd hc hq hd2 e3 e8 e13 e18 e23 e28 e33 e38 e47
      go_wp2_with (refine ix_ln rfl _ _ rfl ao cap L hw rfl k _ HT.out rfl ?_; intro bb off d0 d1 d2 d3)
      clear d0 d1 d2 d3 hw
      refine region_mono (by kernel_rfl) (by kernel_rfl) [some 19, some 20, some 21, some 22, some 23, some 24, some 25, some 26, some 27, some 28, some 29, some 30, some 31, some 32, some 33, some 34, some 35, some 36, some 37, some 38, some 39, some 40, some 41, some 42, some 43, some 44, some 45, some 46, some 47, some 48, some 49, some 50, some 51, some 52, some 53, some 54, some 55, some 56, some 57, some 58, some 59, some 60, some 61, some 62, some 63, some 64, some 65, some 66] (by kernel_rfl) w.heap.size w HBx.out (Nat.le_refl _) (fun i v WW => match i with | 0 => v = .pointer (some ⟨wr.heap.size, 0, none⟩) | 1 => v = .int .i64 b | 2 => v = .bool c3 | 3 => v = .bool c3 | 4 => v = (bif c3 then undef else .pointer (some ⟨wr.heap.size, 0, none⟩)) | 5 => v = (bif c3 then undef else .int .i64 b) | 6 => v = (bif c3 then undef else .bool (decide (1000000000000 < b))) | 7 => v = .bool c8 | 8 => v = .bool c8 | 9 => v = (bif c8 then undef else .pointer (some ⟨wr.heap.size, 1, none⟩)) | 10 => v = (bif c8 then undef else .int .i64 p) | 11 => v = (bif c8 then undef else .bool (decide (p < 0))) | 12 => v = .bool c13 | 13 => v = .bool c13 | 14 => v = (bif c13 then undef else .pointer (some ⟨wr.heap.size, 1, none⟩)) | 15 => v = (bif c13 then undef else .int .i64 p) | 16 => v = (bif c13 then undef else .bool (decide (10000 < p))) | 17 => v = .bool c18 | 18 => v = .bool c18 | 19 => v = (bif c18 then undef else .pointer (some ⟨wr.heap.size, 2, none⟩)) | 20 => v = (bif c18 then undef else .int .i64 x) | 21 => v = (bif c18 then undef else .bool (decide (x < 0))) | 22 => v = .bool c23 | 23 => v = .bool c23 | 24 => v = (bif c23 then undef else .pointer (some ⟨wr.heap.size, 2, none⟩)) | 25 => v = (bif c23 then undef else .int .i64 x) | 26 => v = (bif c23 then undef else .bool (decide (1000000000000 < x))) | 27 => v = .bool c28 | 28 => v = .bool c28 | 29 => v = (bif c28 then undef else .pointer (some ⟨wr.heap.size, 3, none⟩)) | 30 => v = (bif c28 then undef else .int .i64 y) | 31 => v = (bif c28 then undef else .bool (decide (y < 0))) | 32 => v = .bool c33 | 33 => v = .bool c33 | 34 => v = (bif c33 then undef else .pointer (some ⟨wr.heap.size, 3, none⟩)) | 35 => v = (bif c33 then undef else .int .i64 y) | 36 => v = (bif c33 then undef else .bool (decide (1000000000000 < y))) | 37 => v = .bool c38 | 38 => v = .bool c38 | 39 => v = (bif c38 then undef else .pointer (some ⟨wr.heap.size, 2, none⟩)) | 40 => v = (bif c38 then undef else .int .i64 x) | 41 => v = (bif c38 then undef else .pointer (some ⟨wr.heap.size, 3, none⟩)) | 42 => v = (bif c38 then undef else .int .i64 y) | 43 => v = (bif c38 then undef else .int .i64 (x + y)) | 44 => v = (bif c38 then undef else .agg #[.int .i64 b, .int .i64 p, .int .i64 x, .int .i64 y]) | 45 => v = (bif c38 then undef else .int .i64 q) | 46 => v = (bif c38 then undef else .bool (decide (q < x + y))) | 47 => v = .bool c47 | _ => True) ?_ ?_ ?_
      · intro i v WW WX h hbx
        rcases i with _ | _ | _ | _ | _ | _ | _ | _ | _ | _ | _ | _ | _ | _ | _ | _ | _ | _ | _ | _ | _ | _ | _ | _ | _ | _ | _ | _ | _ | _ | _ | _ | _ | _ | _ | _ | _ | _ | _ | _ | _ | _ | _ | _ | _ | _ | _ | _ | i
        · exact h
        · exact h
        · exact h
        · exact h
        · exact h
        · exact h
        · exact h
        · exact h
        · exact h
        · exact h
        · exact h
        · exact h
        · exact h
        · exact h
        · exact h
        · exact h
        · exact h
        · exact h
        · exact h
        · exact h
        · exact h
        · exact h
        · exact h
        · exact h
        · exact h
        · exact h
        · exact h
        · exact h
        · exact h
        · exact h
        · exact h
        · exact h
        · exact h
        · exact h
        · exact h
        · exact h
        · exact h
        · exact h
        · exact h
        · exact h
        · exact h
        · exact h
        · exact h
        · exact h
        · exact h
        · exact h
        · exact h
        · exact h
        · trivial
      · intro iI oO V AC WW ho hf hbw K hK
        have hlt : iI < 48 := (Array.getElem?_eq_some_iff.1 ho).1
        rcases iI with _ | _ | _ | _ | _ | _ | _ | _ | _ | _ | _ | _ | _ | _ | _ | _ | _ | _ | _ | _ | _ | _ | _ | _ | _ | _ | _ | _ | _ | _ | _ | _ | _ | _ | _ | _ | _ | _ | _ | _ | _ | _ | _ | _ | _ | _ | _ | _ | iI
        · obtain rfl := Option.some.inj (show some _ = some oO from ho)
          rw [if_pos (by rfl)]
          have q4 : AC.tmps.getD 4 undef = .pointer (some ⟨wr.heap.size, 0, none⟩) := hf.rest 4 (by kernel_rfl)
          go_simp
          refine hK _ _ (Below.refl _ _) ?_
          exact rfl
        · obtain rfl := Option.some.inj (show some _ = some oO from ho)
          rw [if_pos (by rfl)]
          have q19 : AC.tmps.getD 19 undef = .pointer (some ⟨wr.heap.size, 0, none⟩) := ((hf.dep ⟨0, .data⟩ (by simp) rfl).2 19 rfl).trans (hf.dep ⟨0, .data⟩ (by simp) rfl).1
          have hG := HG.out.keeps hbw
          have g0 := hG.cell 0 _ rfl
          go_simp
          refine hK _ _ (Below.refl _ _) ?_
          exact rfl
        · obtain rfl := Option.some.inj (show some _ = some oO from ho)
          rw [if_pos (by rfl)]
          have q20 : AC.tmps.getD 20 undef = .int .i64 b := ((hf.dep ⟨1, .data⟩ (by simp) rfl).2 20 rfl).trans (hf.dep ⟨1, .data⟩ (by simp) rfl).1
          go_simp
          refine hK _ _ (Below.refl _ _) ?_
          exact (by (show Value.bool _ = Value.bool _; rw [h3.out]))
        · obtain rfl := Option.some.inj (show some _ = some oO from ho)
          rw [if_pos (by rfl)]
          have q21 : AC.tmps.getD 21 undef = .bool c3 := ((hf.dep ⟨2, .data⟩ (by simp) rfl).2 21 rfl).trans (hf.dep ⟨2, .data⟩ (by simp) rfl).1
          go_simp
          refine hK _ _ (Below.refl _ _) ?_
          exact rfl
        · obtain rfl := Option.some.inj (show some _ = some oO from ho)
          cases c3 with
          | false =>
            rw [if_pos (wanted_yes (s := 22) rfl rfl rfl (by rw [hf.size]; simp) (show AC.tmps.getD 22 undef = .bool false from ((hf.dep ⟨3, .guard⟩ (by simp) rfl).2 22 rfl).trans (hf.dep ⟨3, .guard⟩ (by simp) rfl).1))]
            have q4 : AC.tmps.getD 4 undef = .pointer (some ⟨wr.heap.size, 0, none⟩) := hf.rest 4 (by kernel_rfl)
            go_simp
            refine hK _ _ (Below.refl _ _) ?_
            exact rfl
          | true =>
            rw [if_neg (wanted_no (s := 22) rfl rfl rfl (by rw [hf.size]; simp) (show AC.tmps.getD 22 undef = .bool true from ((hf.dep ⟨3, .guard⟩ (by simp) rfl).2 22 rfl).trans (hf.dep ⟨3, .guard⟩ (by simp) rfl).1) rfl)]
            refine hK _ _ (Below.refl _ _) ?_
            exact rfl
        · obtain rfl := Option.some.inj (show some _ = some oO from ho)
          cases c3 with
          | false =>
            rw [if_pos (wanted_yes (s := 22) rfl rfl rfl (by rw [hf.size]; simp) (show AC.tmps.getD 22 undef = .bool false from ((hf.dep ⟨3, .guard⟩ (by simp) rfl).2 22 rfl).trans (hf.dep ⟨3, .guard⟩ (by simp) rfl).1))]
            have q23 : AC.tmps.getD 23 undef = .pointer (some ⟨wr.heap.size, 0, none⟩) := ((hf.dep ⟨4, .data⟩ (by simp) rfl).2 23 rfl).trans (hf.dep ⟨4, .data⟩ (by simp) rfl).1
            have hG := HG.out.keeps hbw
            have g0 := hG.cell 0 _ rfl
            go_simp
            refine hK _ _ (Below.refl _ _) ?_
            exact rfl
          | true =>
            rw [if_neg (wanted_no (s := 22) rfl rfl rfl (by rw [hf.size]; simp) (show AC.tmps.getD 22 undef = .bool true from ((hf.dep ⟨3, .guard⟩ (by simp) rfl).2 22 rfl).trans (hf.dep ⟨3, .guard⟩ (by simp) rfl).1) rfl)]
            refine hK _ _ (Below.refl _ _) ?_
            exact rfl
        · obtain rfl := Option.some.inj (show some _ = some oO from ho)
          cases c3 with
          | false =>
            rw [if_pos (wanted_yes (s := 22) rfl rfl rfl (by rw [hf.size]; simp) (show AC.tmps.getD 22 undef = .bool false from ((hf.dep ⟨3, .guard⟩ (by simp) rfl).2 22 rfl).trans (hf.dep ⟨3, .guard⟩ (by simp) rfl).1))]
            have q24 : AC.tmps.getD 24 undef = .int .i64 b := ((hf.dep ⟨5, .data⟩ (by simp) rfl).2 24 rfl).trans (hf.dep ⟨5, .data⟩ (by simp) rfl).1
            go_simp
            refine hK _ _ (Below.refl _ _) ?_
            exact rfl
          | true =>
            rw [if_neg (wanted_no (s := 22) rfl rfl rfl (by rw [hf.size]; simp) (show AC.tmps.getD 22 undef = .bool true from ((hf.dep ⟨3, .guard⟩ (by simp) rfl).2 22 rfl).trans (hf.dep ⟨3, .guard⟩ (by simp) rfl).1) rfl)]
            refine hK _ _ (Below.refl _ _) ?_
            exact rfl
        · obtain rfl := Option.some.inj (show some _ = some oO from ho)
          cases c3 with
          | false =>
            rw [if_pos (by rfl)]
            have q22 : AC.tmps.getD 22 undef = .bool false := ((hf.dep ⟨3, .data⟩ (by simp) rfl).2 22 rfl).trans (hf.dep ⟨3, .data⟩ (by simp) rfl).1
            have q25 : AC.tmps.getD 25 undef = .bool (decide (1000000000000 < b)) := ((hf.dep ⟨6, .data⟩ (by simp) rfl).2 25 rfl).trans (hf.dep ⟨6, .data⟩ (by simp) rfl).1
            go_simp
            refine hK _ _ (Below.refl _ _) ?_
            exact (by show Value.bool _ = Value.bool _; rw [h8.out]; rfl)
          | true =>
            rw [if_pos (by rfl)]
            have q22 : AC.tmps.getD 22 undef = .bool true := ((hf.dep ⟨3, .data⟩ (by simp) rfl).2 22 rfl).trans (hf.dep ⟨3, .data⟩ (by simp) rfl).1
            have q25 : AC.tmps.getD 25 undef = undef := ((hf.dep ⟨6, .data⟩ (by simp) rfl).2 25 rfl).trans (hf.dep ⟨6, .data⟩ (by simp) rfl).1
            go_simp
            refine hK _ _ (Below.refl _ _) ?_
            exact (by show Value.bool _ = Value.bool _; rw [h8.out]; rfl)
        · obtain rfl := Option.some.inj (show some _ = some oO from ho)
          rw [if_pos (by rfl)]
          have q26 : AC.tmps.getD 26 undef = .bool c8 := ((hf.dep ⟨7, .data⟩ (by simp) rfl).2 26 rfl).trans (hf.dep ⟨7, .data⟩ (by simp) rfl).1
          go_simp
          refine hK _ _ (Below.refl _ _) ?_
          exact rfl
        · obtain rfl := Option.some.inj (show some _ = some oO from ho)
          cases c8 with
          | false =>
            rw [if_pos (wanted_yes (s := 27) rfl rfl rfl (by rw [hf.size]; simp) (show AC.tmps.getD 27 undef = .bool false from ((hf.dep ⟨8, .guard⟩ (by simp) rfl).2 27 rfl).trans (hf.dep ⟨8, .guard⟩ (by simp) rfl).1))]
            have q4 : AC.tmps.getD 4 undef = .pointer (some ⟨wr.heap.size, 0, none⟩) := hf.rest 4 (by kernel_rfl)
            go_simp
            refine hK _ _ (Below.refl _ _) ?_
            exact rfl
          | true =>
            rw [if_neg (wanted_no (s := 27) rfl rfl rfl (by rw [hf.size]; simp) (show AC.tmps.getD 27 undef = .bool true from ((hf.dep ⟨8, .guard⟩ (by simp) rfl).2 27 rfl).trans (hf.dep ⟨8, .guard⟩ (by simp) rfl).1) rfl)]
            refine hK _ _ (Below.refl _ _) ?_
            exact rfl
        · obtain rfl := Option.some.inj (show some _ = some oO from ho)
          cases c8 with
          | false =>
            rw [if_pos (wanted_yes (s := 27) rfl rfl rfl (by rw [hf.size]; simp) (show AC.tmps.getD 27 undef = .bool false from ((hf.dep ⟨8, .guard⟩ (by simp) rfl).2 27 rfl).trans (hf.dep ⟨8, .guard⟩ (by simp) rfl).1))]
            have q28 : AC.tmps.getD 28 undef = .pointer (some ⟨wr.heap.size, 1, none⟩) := ((hf.dep ⟨9, .data⟩ (by simp) rfl).2 28 rfl).trans (hf.dep ⟨9, .data⟩ (by simp) rfl).1
            have hG := HG.out.keeps hbw
            have g1 := hG.cell 1 _ rfl
            go_simp
            refine hK _ _ (Below.refl _ _) ?_
            exact rfl
          | true =>
            rw [if_neg (wanted_no (s := 27) rfl rfl rfl (by rw [hf.size]; simp) (show AC.tmps.getD 27 undef = .bool true from ((hf.dep ⟨8, .guard⟩ (by simp) rfl).2 27 rfl).trans (hf.dep ⟨8, .guard⟩ (by simp) rfl).1) rfl)]
            refine hK _ _ (Below.refl _ _) ?_
            exact rfl
        · obtain rfl := Option.some.inj (show some _ = some oO from ho)
          cases c8 with
          | false =>
            rw [if_pos (wanted_yes (s := 27) rfl rfl rfl (by rw [hf.size]; simp) (show AC.tmps.getD 27 undef = .bool false from ((hf.dep ⟨8, .guard⟩ (by simp) rfl).2 27 rfl).trans (hf.dep ⟨8, .guard⟩ (by simp) rfl).1))]
            have q29 : AC.tmps.getD 29 undef = .int .i64 p := ((hf.dep ⟨10, .data⟩ (by simp) rfl).2 29 rfl).trans (hf.dep ⟨10, .data⟩ (by simp) rfl).1
            go_simp
            refine hK _ _ (Below.refl _ _) ?_
            exact rfl
          | true =>
            rw [if_neg (wanted_no (s := 27) rfl rfl rfl (by rw [hf.size]; simp) (show AC.tmps.getD 27 undef = .bool true from ((hf.dep ⟨8, .guard⟩ (by simp) rfl).2 27 rfl).trans (hf.dep ⟨8, .guard⟩ (by simp) rfl).1) rfl)]
            refine hK _ _ (Below.refl _ _) ?_
            exact rfl
        · obtain rfl := Option.some.inj (show some _ = some oO from ho)
          cases c8 with
          | false =>
            rw [if_pos (by rfl)]
            have q27 : AC.tmps.getD 27 undef = .bool false := ((hf.dep ⟨8, .data⟩ (by simp) rfl).2 27 rfl).trans (hf.dep ⟨8, .data⟩ (by simp) rfl).1
            have q30 : AC.tmps.getD 30 undef = .bool (decide (p < 0)) := ((hf.dep ⟨11, .data⟩ (by simp) rfl).2 30 rfl).trans (hf.dep ⟨11, .data⟩ (by simp) rfl).1
            go_simp
            refine hK _ _ (Below.refl _ _) ?_
            exact (by show Value.bool _ = Value.bool _; rw [h13.out]; rfl)
          | true =>
            rw [if_pos (by rfl)]
            have q27 : AC.tmps.getD 27 undef = .bool true := ((hf.dep ⟨8, .data⟩ (by simp) rfl).2 27 rfl).trans (hf.dep ⟨8, .data⟩ (by simp) rfl).1
            have q30 : AC.tmps.getD 30 undef = undef := ((hf.dep ⟨11, .data⟩ (by simp) rfl).2 30 rfl).trans (hf.dep ⟨11, .data⟩ (by simp) rfl).1
            go_simp
            refine hK _ _ (Below.refl _ _) ?_
            exact (by show Value.bool _ = Value.bool _; rw [h13.out]; rfl)
        · obtain rfl := Option.some.inj (show some _ = some oO from ho)
          rw [if_pos (by rfl)]
          have q31 : AC.tmps.getD 31 undef = .bool c13 := ((hf.dep ⟨12, .data⟩ (by simp) rfl).2 31 rfl).trans (hf.dep ⟨12, .data⟩ (by simp) rfl).1
          go_simp
          refine hK _ _ (Below.refl _ _) ?_
          exact rfl
        · obtain rfl := Option.some.inj (show some _ = some oO from ho)
          cases c13 with
          | false =>
            rw [if_pos (wanted_yes (s := 32) rfl rfl rfl (by rw [hf.size]; simp) (show AC.tmps.getD 32 undef = .bool false from ((hf.dep ⟨13, .guard⟩ (by simp) rfl).2 32 rfl).trans (hf.dep ⟨13, .guard⟩ (by simp) rfl).1))]
            have q4 : AC.tmps.getD 4 undef = .pointer (some ⟨wr.heap.size, 0, none⟩) := hf.rest 4 (by kernel_rfl)
            go_simp
            refine hK _ _ (Below.refl _ _) ?_
            exact rfl
          | true =>
            rw [if_neg (wanted_no (s := 32) rfl rfl rfl (by rw [hf.size]; simp) (show AC.tmps.getD 32 undef = .bool true from ((hf.dep ⟨13, .guard⟩ (by simp) rfl).2 32 rfl).trans (hf.dep ⟨13, .guard⟩ (by simp) rfl).1) rfl)]
            refine hK _ _ (Below.refl _ _) ?_
            exact rfl
        · obtain rfl := Option.some.inj (show some _ = some oO from ho)
          cases c13 with
          | false =>
            rw [if_pos (wanted_yes (s := 32) rfl rfl rfl (by rw [hf.size]; simp) (show AC.tmps.getD 32 undef = .bool false from ((hf.dep ⟨13, .guard⟩ (by simp) rfl).2 32 rfl).trans (hf.dep ⟨13, .guard⟩ (by simp) rfl).1))]
            have q33 : AC.tmps.getD 33 undef = .pointer (some ⟨wr.heap.size, 1, none⟩) := ((hf.dep ⟨14, .data⟩ (by simp) rfl).2 33 rfl).trans (hf.dep ⟨14, .data⟩ (by simp) rfl).1
            have hG := HG.out.keeps hbw
            have g1 := hG.cell 1 _ rfl
            go_simp
            refine hK _ _ (Below.refl _ _) ?_
            exact rfl
          | true =>
            rw [if_neg (wanted_no (s := 32) rfl rfl rfl (by rw [hf.size]; simp) (show AC.tmps.getD 32 undef = .bool true from ((hf.dep ⟨13, .guard⟩ (by simp) rfl).2 32 rfl).trans (hf.dep ⟨13, .guard⟩ (by simp) rfl).1) rfl)]
            refine hK _ _ (Below.refl _ _) ?_
            exact rfl
        · obtain rfl := Option.some.inj (show some _ = some oO from ho)
          cases c13 with
          | false =>
            rw [if_pos (wanted_yes (s := 32) rfl rfl rfl (by rw [hf.size]; simp) (show AC.tmps.getD 32 undef = .bool false from ((hf.dep ⟨13, .guard⟩ (by simp) rfl).2 32 rfl).trans (hf.dep ⟨13, .guard⟩ (by simp) rfl).1))]
            have q34 : AC.tmps.getD 34 undef = .int .i64 p := ((hf.dep ⟨15, .data⟩ (by simp) rfl).2 34 rfl).trans (hf.dep ⟨15, .data⟩ (by simp) rfl).1
            go_simp
            refine hK _ _ (Below.refl _ _) ?_
            exact rfl
          | true =>
            rw [if_neg (wanted_no (s := 32) rfl rfl rfl (by rw [hf.size]; simp) (show AC.tmps.getD 32 undef = .bool true from ((hf.dep ⟨13, .guard⟩ (by simp) rfl).2 32 rfl).trans (hf.dep ⟨13, .guard⟩ (by simp) rfl).1) rfl)]
            refine hK _ _ (Below.refl _ _) ?_
            exact rfl
        · obtain rfl := Option.some.inj (show some _ = some oO from ho)
          cases c13 with
          | false =>
            rw [if_pos (by rfl)]
            have q32 : AC.tmps.getD 32 undef = .bool false := ((hf.dep ⟨13, .data⟩ (by simp) rfl).2 32 rfl).trans (hf.dep ⟨13, .data⟩ (by simp) rfl).1
            have q35 : AC.tmps.getD 35 undef = .bool (decide (10000 < p)) := ((hf.dep ⟨16, .data⟩ (by simp) rfl).2 35 rfl).trans (hf.dep ⟨16, .data⟩ (by simp) rfl).1
            go_simp
            refine hK _ _ (Below.refl _ _) ?_
            exact (by show Value.bool _ = Value.bool _; rw [h18.out]; rfl)
          | true =>
            rw [if_pos (by rfl)]
            have q32 : AC.tmps.getD 32 undef = .bool true := ((hf.dep ⟨13, .data⟩ (by simp) rfl).2 32 rfl).trans (hf.dep ⟨13, .data⟩ (by simp) rfl).1
            have q35 : AC.tmps.getD 35 undef = undef := ((hf.dep ⟨16, .data⟩ (by simp) rfl).2 35 rfl).trans (hf.dep ⟨16, .data⟩ (by simp) rfl).1
            go_simp
            refine hK _ _ (Below.refl _ _) ?_
            exact (by show Value.bool _ = Value.bool _; rw [h18.out]; rfl)
        · obtain rfl := Option.some.inj (show some _ = some oO from ho)
          rw [if_pos (by rfl)]
          have q36 : AC.tmps.getD 36 undef = .bool c18 := ((hf.dep ⟨17, .data⟩ (by simp) rfl).2 36 rfl).trans (hf.dep ⟨17, .data⟩ (by simp) rfl).1
          go_simp
          refine hK _ _ (Below.refl _ _) ?_
          exact rfl
        · obtain rfl := Option.some.inj (show some _ = some oO from ho)
          cases c18 with
          | false =>
            rw [if_pos (wanted_yes (s := 37) rfl rfl rfl (by rw [hf.size]; simp) (show AC.tmps.getD 37 undef = .bool false from ((hf.dep ⟨18, .guard⟩ (by simp) rfl).2 37 rfl).trans (hf.dep ⟨18, .guard⟩ (by simp) rfl).1))]
            have q4 : AC.tmps.getD 4 undef = .pointer (some ⟨wr.heap.size, 0, none⟩) := hf.rest 4 (by kernel_rfl)
            go_simp
            refine hK _ _ (Below.refl _ _) ?_
            exact rfl
          | true =>
            rw [if_neg (wanted_no (s := 37) rfl rfl rfl (by rw [hf.size]; simp) (show AC.tmps.getD 37 undef = .bool true from ((hf.dep ⟨18, .guard⟩ (by simp) rfl).2 37 rfl).trans (hf.dep ⟨18, .guard⟩ (by simp) rfl).1) rfl)]
            refine hK _ _ (Below.refl _ _) ?_
            exact rfl
        · obtain rfl := Option.some.inj (show some _ = some oO from ho)
          cases c18 with
          | false =>
            rw [if_pos (wanted_yes (s := 37) rfl rfl rfl (by rw [hf.size]; simp) (show AC.tmps.getD 37 undef = .bool false from ((hf.dep ⟨18, .guard⟩ (by simp) rfl).2 37 rfl).trans (hf.dep ⟨18, .guard⟩ (by simp) rfl).1))]
            have q38 : AC.tmps.getD 38 undef = .pointer (some ⟨wr.heap.size, 2, none⟩) := ((hf.dep ⟨19, .data⟩ (by simp) rfl).2 38 rfl).trans (hf.dep ⟨19, .data⟩ (by simp) rfl).1
            have hG := HG.out.keeps hbw
            have g2 := hG.cell 2 _ rfl
            go_simp
            refine hK _ _ (Below.refl _ _) ?_
            exact rfl
          | true =>
            rw [if_neg (wanted_no (s := 37) rfl rfl rfl (by rw [hf.size]; simp) (show AC.tmps.getD 37 undef = .bool true from ((hf.dep ⟨18, .guard⟩ (by simp) rfl).2 37 rfl).trans (hf.dep ⟨18, .guard⟩ (by simp) rfl).1) rfl)]
            refine hK _ _ (Below.refl _ _) ?_
            exact rfl
        · obtain rfl := Option.some.inj (show some _ = some oO from ho)
          cases c18 with
          | false =>
            rw [if_pos (wanted_yes (s := 37) rfl rfl rfl (by rw [hf.size]; simp) (show AC.tmps.getD 37 undef = .bool false from ((hf.dep ⟨18, .guard⟩ (by simp) rfl).2 37 rfl).trans (hf.dep ⟨18, .guard⟩ (by simp) rfl).1))]
            have q39 : AC.tmps.getD 39 undef = .int .i64 x := ((hf.dep ⟨20, .data⟩ (by simp) rfl).2 39 rfl).trans (hf.dep ⟨20, .data⟩ (by simp) rfl).1
            go_simp
            refine hK _ _ (Below.refl _ _) ?_
            exact rfl
          | true =>
            rw [if_neg (wanted_no (s := 37) rfl rfl rfl (by rw [hf.size]; simp) (show AC.tmps.getD 37 undef = .bool true from ((hf.dep ⟨18, .guard⟩ (by simp) rfl).2 37 rfl).trans (hf.dep ⟨18, .guard⟩ (by simp) rfl).1) rfl)]
            refine hK _ _ (Below.refl _ _) ?_
            exact rfl
        · obtain rfl := Option.some.inj (show some _ = some oO from ho)
          cases c18 with
          | false =>
            rw [if_pos (by rfl)]
            have q37 : AC.tmps.getD 37 undef = .bool false := ((hf.dep ⟨18, .data⟩ (by simp) rfl).2 37 rfl).trans (hf.dep ⟨18, .data⟩ (by simp) rfl).1
            have q40 : AC.tmps.getD 40 undef = .bool (decide (x < 0)) := ((hf.dep ⟨21, .data⟩ (by simp) rfl).2 40 rfl).trans (hf.dep ⟨21, .data⟩ (by simp) rfl).1
            go_simp
            refine hK _ _ (Below.refl _ _) ?_
            exact (by show Value.bool _ = Value.bool _; rw [h23.out]; rfl)
          | true =>
            rw [if_pos (by rfl)]
            have q37 : AC.tmps.getD 37 undef = .bool true := ((hf.dep ⟨18, .data⟩ (by simp) rfl).2 37 rfl).trans (hf.dep ⟨18, .data⟩ (by simp) rfl).1
            have q40 : AC.tmps.getD 40 undef = undef := ((hf.dep ⟨21, .data⟩ (by simp) rfl).2 40 rfl).trans (hf.dep ⟨21, .data⟩ (by simp) rfl).1
            go_simp
            refine hK _ _ (Below.refl _ _) ?_
            exact (by show Value.bool _ = Value.bool _; rw [h23.out]; rfl)
        · obtain rfl := Option.some.inj (show some _ = some oO from ho)
          rw [if_pos (by rfl)]
          have q41 : AC.tmps.getD 41 undef = .bool c23 := ((hf.dep ⟨22, .data⟩ (by simp) rfl).2 41 rfl).trans (hf.dep ⟨22, .data⟩ (by simp) rfl).1
          go_simp
          refine hK _ _ (Below.refl _ _) ?_
          exact rfl
        · obtain rfl := Option.some.inj (show some _ = some oO from ho)
          cases c23 with
          | false =>
            rw [if_pos (wanted_yes (s := 42) rfl rfl rfl (by rw [hf.size]; simp) (show AC.tmps.getD 42 undef = .bool false from ((hf.dep ⟨23, .guard⟩ (by simp) rfl).2 42 rfl).trans (hf.dep ⟨23, .guard⟩ (by simp) rfl).1))]
            have q4 : AC.tmps.getD 4 undef = .pointer (some ⟨wr.heap.size, 0, none⟩) := hf.rest 4 (by kernel_rfl)
            go_simp
            refine hK _ _ (Below.refl _ _) ?_
            exact rfl
          | true =>
            rw [if_neg (wanted_no (s := 42) rfl rfl rfl (by rw [hf.size]; simp) (show AC.tmps.getD 42 undef = .bool true from ((hf.dep ⟨23, .guard⟩ (by simp) rfl).2 42 rfl).trans (hf.dep ⟨23, .guard⟩ (by simp) rfl).1) rfl)]
            refine hK _ _ (Below.refl _ _) ?_
            exact rfl
        · obtain rfl := Option.some.inj (show some _ = some oO from ho)
          cases c23 with
          | false =>
            rw [if_pos (wanted_yes (s := 42) rfl rfl rfl (by rw [hf.size]; simp) (show AC.tmps.getD 42 undef = .bool false from ((hf.dep ⟨23, .guard⟩ (by simp) rfl).2 42 rfl).trans (hf.dep ⟨23, .guard⟩ (by simp) rfl).1))]
            have q43 : AC.tmps.getD 43 undef = .pointer (some ⟨wr.heap.size, 2, none⟩) := ((hf.dep ⟨24, .data⟩ (by simp) rfl).2 43 rfl).trans (hf.dep ⟨24, .data⟩ (by simp) rfl).1
            have hG := HG.out.keeps hbw
            have g2 := hG.cell 2 _ rfl
            go_simp
            refine hK _ _ (Below.refl _ _) ?_
            exact rfl
          | true =>
            rw [if_neg (wanted_no (s := 42) rfl rfl rfl (by rw [hf.size]; simp) (show AC.tmps.getD 42 undef = .bool true from ((hf.dep ⟨23, .guard⟩ (by simp) rfl).2 42 rfl).trans (hf.dep ⟨23, .guard⟩ (by simp) rfl).1) rfl)]
            refine hK _ _ (Below.refl _ _) ?_
            exact rfl
        · obtain rfl := Option.some.inj (show some _ = some oO from ho)
          cases c23 with
          | false =>
            rw [if_pos (wanted_yes (s := 42) rfl rfl rfl (by rw [hf.size]; simp) (show AC.tmps.getD 42 undef = .bool false from ((hf.dep ⟨23, .guard⟩ (by simp) rfl).2 42 rfl).trans (hf.dep ⟨23, .guard⟩ (by simp) rfl).1))]
            have q44 : AC.tmps.getD 44 undef = .int .i64 x := ((hf.dep ⟨25, .data⟩ (by simp) rfl).2 44 rfl).trans (hf.dep ⟨25, .data⟩ (by simp) rfl).1
            go_simp
            refine hK _ _ (Below.refl _ _) ?_
            exact rfl
          | true =>
            rw [if_neg (wanted_no (s := 42) rfl rfl rfl (by rw [hf.size]; simp) (show AC.tmps.getD 42 undef = .bool true from ((hf.dep ⟨23, .guard⟩ (by simp) rfl).2 42 rfl).trans (hf.dep ⟨23, .guard⟩ (by simp) rfl).1) rfl)]
            refine hK _ _ (Below.refl _ _) ?_
            exact rfl
        · obtain rfl := Option.some.inj (show some _ = some oO from ho)
          cases c23 with
          | false =>
            rw [if_pos (by rfl)]
            have q42 : AC.tmps.getD 42 undef = .bool false := ((hf.dep ⟨23, .data⟩ (by simp) rfl).2 42 rfl).trans (hf.dep ⟨23, .data⟩ (by simp) rfl).1
            have q45 : AC.tmps.getD 45 undef = .bool (decide (1000000000000 < x)) := ((hf.dep ⟨26, .data⟩ (by simp) rfl).2 45 rfl).trans (hf.dep ⟨26, .data⟩ (by simp) rfl).1
            go_simp
            refine hK _ _ (Below.refl _ _) ?_
            exact (by show Value.bool _ = Value.bool _; rw [h28.out]; rfl)
          | true =>
            rw [if_pos (by rfl)]
            have q42 : AC.tmps.getD 42 undef = .bool true := ((hf.dep ⟨23, .data⟩ (by simp) rfl).2 42 rfl).trans (hf.dep ⟨23, .data⟩ (by simp) rfl).1
            have q45 : AC.tmps.getD 45 undef = undef := ((hf.dep ⟨26, .data⟩ (by simp) rfl).2 45 rfl).trans (hf.dep ⟨26, .data⟩ (by simp) rfl).1
            go_simp
            refine hK _ _ (Below.refl _ _) ?_
            exact (by show Value.bool _ = Value.bool _; rw [h28.out]; rfl)
        · obtain rfl := Option.some.inj (show some _ = some oO from ho)
          rw [if_pos (by rfl)]
          have q46 : AC.tmps.getD 46 undef = .bool c28 := ((hf.dep ⟨27, .data⟩ (by simp) rfl).2 46 rfl).trans (hf.dep ⟨27, .data⟩ (by simp) rfl).1
          go_simp
          refine hK _ _ (Below.refl _ _) ?_
          exact rfl
        · obtain rfl := Option.some.inj (show some _ = some oO from ho)
          cases c28 with
          | false =>
            rw [if_pos (wanted_yes (s := 47) rfl rfl rfl (by rw [hf.size]; simp) (show AC.tmps.getD 47 undef = .bool false from ((hf.dep ⟨28, .guard⟩ (by simp) rfl).2 47 rfl).trans (hf.dep ⟨28, .guard⟩ (by simp) rfl).1))]
            have q4 : AC.tmps.getD 4 undef = .pointer (some ⟨wr.heap.size, 0, none⟩) := hf.rest 4 (by kernel_rfl)
            go_simp
            refine hK _ _ (Below.refl _ _) ?_
            exact rfl
          | true =>
            rw [if_neg (wanted_no (s := 47) rfl rfl rfl (by rw [hf.size]; simp) (show AC.tmps.getD 47 undef = .bool true from ((hf.dep ⟨28, .guard⟩ (by simp) rfl).2 47 rfl).trans (hf.dep ⟨28, .guard⟩ (by simp) rfl).1) rfl)]
            refine hK _ _ (Below.refl _ _) ?_
            exact rfl
        · obtain rfl := Option.some.inj (show some _ = some oO from ho)
          cases c28 with
          | false =>
            rw [if_pos (wanted_yes (s := 47) rfl rfl rfl (by rw [hf.size]; simp) (show AC.tmps.getD 47 undef = .bool false from ((hf.dep ⟨28, .guard⟩ (by simp) rfl).2 47 rfl).trans (hf.dep ⟨28, .guard⟩ (by simp) rfl).1))]
            have q48 : AC.tmps.getD 48 undef = .pointer (some ⟨wr.heap.size, 3, none⟩) := ((hf.dep ⟨29, .data⟩ (by simp) rfl).2 48 rfl).trans (hf.dep ⟨29, .data⟩ (by simp) rfl).1
            have hG := HG.out.keeps hbw
            have g3 := hG.cell 3 _ rfl
            go_simp
            refine hK _ _ (Below.refl _ _) ?_
            exact rfl
          | true =>
            rw [if_neg (wanted_no (s := 47) rfl rfl rfl (by rw [hf.size]; simp) (show AC.tmps.getD 47 undef = .bool true from ((hf.dep ⟨28, .guard⟩ (by simp) rfl).2 47 rfl).trans (hf.dep ⟨28, .guard⟩ (by simp) rfl).1) rfl)]
            refine hK _ _ (Below.refl _ _) ?_
            exact rfl
        · obtain rfl := Option.some.inj (show some _ = some oO from ho)
          cases c28 with
          | false =>
            rw [if_pos (wanted_yes (s := 47) rfl rfl rfl (by rw [hf.size]; simp) (show AC.tmps.getD 47 undef = .bool false from ((hf.dep ⟨28, .guard⟩ (by simp) rfl).2 47 rfl).trans (hf.dep ⟨28, .guard⟩ (by simp) rfl).1))]
            have q49 : AC.tmps.getD 49 undef = .int .i64 y := ((hf.dep ⟨30, .data⟩ (by simp) rfl).2 49 rfl).trans (hf.dep ⟨30, .data⟩ (by simp) rfl).1
            go_simp
            refine hK _ _ (Below.refl _ _) ?_
            exact rfl
          | true =>
            rw [if_neg (wanted_no (s := 47) rfl rfl rfl (by rw [hf.size]; simp) (show AC.tmps.getD 47 undef = .bool true from ((hf.dep ⟨28, .guard⟩ (by simp) rfl).2 47 rfl).trans (hf.dep ⟨28, .guard⟩ (by simp) rfl).1) rfl)]
            refine hK _ _ (Below.refl _ _) ?_
            exact rfl
        · obtain rfl := Option.some.inj (show some _ = some oO from ho)
          cases c28 with
          | false =>
            rw [if_pos (by rfl)]
            have q47 : AC.tmps.getD 47 undef = .bool false := ((hf.dep ⟨28, .data⟩ (by simp) rfl).2 47 rfl).trans (hf.dep ⟨28, .data⟩ (by simp) rfl).1
            have q50 : AC.tmps.getD 50 undef = .bool (decide (y < 0)) := ((hf.dep ⟨31, .data⟩ (by simp) rfl).2 50 rfl).trans (hf.dep ⟨31, .data⟩ (by simp) rfl).1
            go_simp
            refine hK _ _ (Below.refl _ _) ?_
            exact (by show Value.bool _ = Value.bool _; rw [h33.out]; rfl)
          | true =>
            rw [if_pos (by rfl)]
            have q47 : AC.tmps.getD 47 undef = .bool true := ((hf.dep ⟨28, .data⟩ (by simp) rfl).2 47 rfl).trans (hf.dep ⟨28, .data⟩ (by simp) rfl).1
            have q50 : AC.tmps.getD 50 undef = undef := ((hf.dep ⟨31, .data⟩ (by simp) rfl).2 50 rfl).trans (hf.dep ⟨31, .data⟩ (by simp) rfl).1
            go_simp
            refine hK _ _ (Below.refl _ _) ?_
            exact (by show Value.bool _ = Value.bool _; rw [h33.out]; rfl)
        · obtain rfl := Option.some.inj (show some _ = some oO from ho)
          rw [if_pos (by rfl)]
          have q51 : AC.tmps.getD 51 undef = .bool c33 := ((hf.dep ⟨32, .data⟩ (by simp) rfl).2 51 rfl).trans (hf.dep ⟨32, .data⟩ (by simp) rfl).1
          go_simp
          refine hK _ _ (Below.refl _ _) ?_
          exact rfl
        · obtain rfl := Option.some.inj (show some _ = some oO from ho)
          cases c33 with
          | false =>
            rw [if_pos (wanted_yes (s := 52) rfl rfl rfl (by rw [hf.size]; simp) (show AC.tmps.getD 52 undef = .bool false from ((hf.dep ⟨33, .guard⟩ (by simp) rfl).2 52 rfl).trans (hf.dep ⟨33, .guard⟩ (by simp) rfl).1))]
            have q4 : AC.tmps.getD 4 undef = .pointer (some ⟨wr.heap.size, 0, none⟩) := hf.rest 4 (by kernel_rfl)
            go_simp
            refine hK _ _ (Below.refl _ _) ?_
            exact rfl
          | true =>
            rw [if_neg (wanted_no (s := 52) rfl rfl rfl (by rw [hf.size]; simp) (show AC.tmps.getD 52 undef = .bool true from ((hf.dep ⟨33, .guard⟩ (by simp) rfl).2 52 rfl).trans (hf.dep ⟨33, .guard⟩ (by simp) rfl).1) rfl)]
            refine hK _ _ (Below.refl _ _) ?_
            exact rfl
        · obtain rfl := Option.some.inj (show some _ = some oO from ho)
          cases c33 with
          | false =>
            rw [if_pos (wanted_yes (s := 52) rfl rfl rfl (by rw [hf.size]; simp) (show AC.tmps.getD 52 undef = .bool false from ((hf.dep ⟨33, .guard⟩ (by simp) rfl).2 52 rfl).trans (hf.dep ⟨33, .guard⟩ (by simp) rfl).1))]
            have q53 : AC.tmps.getD 53 undef = .pointer (some ⟨wr.heap.size, 3, none⟩) := ((hf.dep ⟨34, .data⟩ (by simp) rfl).2 53 rfl).trans (hf.dep ⟨34, .data⟩ (by simp) rfl).1
            have hG := HG.out.keeps hbw
            have g3 := hG.cell 3 _ rfl
            go_simp
            refine hK _ _ (Below.refl _ _) ?_
            exact rfl
          | true =>
            rw [if_neg (wanted_no (s := 52) rfl rfl rfl (by rw [hf.size]; simp) (show AC.tmps.getD 52 undef = .bool true from ((hf.dep ⟨33, .guard⟩ (by simp) rfl).2 52 rfl).trans (hf.dep ⟨33, .guard⟩ (by simp) rfl).1) rfl)]
            refine hK _ _ (Below.refl _ _) ?_
            exact rfl
        · obtain rfl := Option.some.inj (show some _ = some oO from ho)
          cases c33 with
          | false =>
            rw [if_pos (wanted_yes (s := 52) rfl rfl rfl (by rw [hf.size]; simp) (show AC.tmps.getD 52 undef = .bool false from ((hf.dep ⟨33, .guard⟩ (by simp) rfl).2 52 rfl).trans (hf.dep ⟨33, .guard⟩ (by simp) rfl).1))]
            have q54 : AC.tmps.getD 54 undef = .int .i64 y := ((hf.dep ⟨35, .data⟩ (by simp) rfl).2 54 rfl).trans (hf.dep ⟨35, .data⟩ (by simp) rfl).1
            go_simp
            refine hK _ _ (Below.refl _ _) ?_
            exact rfl
          | true =>
            rw [if_neg (wanted_no (s := 52) rfl rfl rfl (by rw [hf.size]; simp) (show AC.tmps.getD 52 undef = .bool true from ((hf.dep ⟨33, .guard⟩ (by simp) rfl).2 52 rfl).trans (hf.dep ⟨33, .guard⟩ (by simp) rfl).1) rfl)]
            refine hK _ _ (Below.refl _ _) ?_
            exact rfl
        · obtain rfl := Option.some.inj (show some _ = some oO from ho)
          cases c33 with
          | false =>
            rw [if_pos (by rfl)]
            have q52 : AC.tmps.getD 52 undef = .bool false := ((hf.dep ⟨33, .data⟩ (by simp) rfl).2 52 rfl).trans (hf.dep ⟨33, .data⟩ (by simp) rfl).1
            have q55 : AC.tmps.getD 55 undef = .bool (decide (1000000000000 < y)) := ((hf.dep ⟨36, .data⟩ (by simp) rfl).2 55 rfl).trans (hf.dep ⟨36, .data⟩ (by simp) rfl).1
            go_simp
            refine hK _ _ (Below.refl _ _) ?_
            exact (by show Value.bool _ = Value.bool _; rw [h38.out]; rfl)
          | true =>
            rw [if_pos (by rfl)]
            have q52 : AC.tmps.getD 52 undef = .bool true := ((hf.dep ⟨33, .data⟩ (by simp) rfl).2 52 rfl).trans (hf.dep ⟨33, .data⟩ (by simp) rfl).1
            have q55 : AC.tmps.getD 55 undef = undef := ((hf.dep ⟨36, .data⟩ (by simp) rfl).2 55 rfl).trans (hf.dep ⟨36, .data⟩ (by simp) rfl).1
            go_simp
            refine hK _ _ (Below.refl _ _) ?_
            exact (by show Value.bool _ = Value.bool _; rw [h38.out]; rfl)
        · obtain rfl := Option.some.inj (show some _ = some oO from ho)
          rw [if_pos (by rfl)]
          have q56 : AC.tmps.getD 56 undef = .bool c38 := ((hf.dep ⟨37, .data⟩ (by simp) rfl).2 56 rfl).trans (hf.dep ⟨37, .data⟩ (by simp) rfl).1
          go_simp
          refine hK _ _ (Below.refl _ _) ?_
          exact rfl
        · obtain rfl := Option.some.inj (show some _ = some oO from ho)
          cases c38 with
          | false =>
            rw [if_pos (wanted_yes (s := 57) rfl rfl rfl (by rw [hf.size]; simp) (show AC.tmps.getD 57 undef = .bool false from ((hf.dep ⟨38, .guard⟩ (by simp) rfl).2 57 rfl).trans (hf.dep ⟨38, .guard⟩ (by simp) rfl).1))]
            have q4 : AC.tmps.getD 4 undef = .pointer (some ⟨wr.heap.size, 0, none⟩) := hf.rest 4 (by kernel_rfl)
            go_simp
            refine hK _ _ (Below.refl _ _) ?_
            exact rfl
          | true =>
            rw [if_neg (wanted_no (s := 57) rfl rfl rfl (by rw [hf.size]; simp) (show AC.tmps.getD 57 undef = .bool true from ((hf.dep ⟨38, .guard⟩ (by simp) rfl).2 57 rfl).trans (hf.dep ⟨38, .guard⟩ (by simp) rfl).1) rfl)]
            refine hK _ _ (Below.refl _ _) ?_
            exact rfl
        · obtain rfl := Option.some.inj (show some _ = some oO from ho)
          cases c38 with
          | false =>
            rw [if_pos (wanted_yes (s := 57) rfl rfl rfl (by rw [hf.size]; simp) (show AC.tmps.getD 57 undef = .bool false from ((hf.dep ⟨38, .guard⟩ (by simp) rfl).2 57 rfl).trans (hf.dep ⟨38, .guard⟩ (by simp) rfl).1))]
            have q58 : AC.tmps.getD 58 undef = .pointer (some ⟨wr.heap.size, 2, none⟩) := ((hf.dep ⟨39, .data⟩ (by simp) rfl).2 58 rfl).trans (hf.dep ⟨39, .data⟩ (by simp) rfl).1
            have hG := HG.out.keeps hbw
            have g2 := hG.cell 2 _ rfl
            go_simp
            refine hK _ _ (Below.refl _ _) ?_
            exact rfl
          | true =>
            rw [if_neg (wanted_no (s := 57) rfl rfl rfl (by rw [hf.size]; simp) (show AC.tmps.getD 57 undef = .bool true from ((hf.dep ⟨38, .guard⟩ (by simp) rfl).2 57 rfl).trans (hf.dep ⟨38, .guard⟩ (by simp) rfl).1) rfl)]
            refine hK _ _ (Below.refl _ _) ?_
            exact rfl
        · obtain rfl := Option.some.inj (show some _ = some oO from ho)
          cases c38 with
          | false =>
            rw [if_pos (wanted_yes (s := 57) rfl rfl rfl (by rw [hf.size]; simp) (show AC.tmps.getD 57 undef = .bool false from ((hf.dep ⟨38, .guard⟩ (by simp) rfl).2 57 rfl).trans (hf.dep ⟨38, .guard⟩ (by simp) rfl).1))]
            have q4 : AC.tmps.getD 4 undef = .pointer (some ⟨wr.heap.size, 0, none⟩) := hf.rest 4 (by kernel_rfl)
            go_simp
            refine hK _ _ (Below.refl _ _) ?_
            exact rfl
          | true =>
            rw [if_neg (wanted_no (s := 57) rfl rfl rfl (by rw [hf.size]; simp) (show AC.tmps.getD 57 undef = .bool true from ((hf.dep ⟨38, .guard⟩ (by simp) rfl).2 57 rfl).trans (hf.dep ⟨38, .guard⟩ (by simp) rfl).1) rfl)]
            refine hK _ _ (Below.refl _ _) ?_
            exact rfl
        · obtain rfl := Option.some.inj (show some _ = some oO from ho)
          cases c38 with
          | false =>
            rw [if_pos (wanted_yes (s := 57) rfl rfl rfl (by rw [hf.size]; simp) (show AC.tmps.getD 57 undef = .bool false from ((hf.dep ⟨38, .guard⟩ (by simp) rfl).2 57 rfl).trans (hf.dep ⟨38, .guard⟩ (by simp) rfl).1))]
            have q60 : AC.tmps.getD 60 undef = .pointer (some ⟨wr.heap.size, 3, none⟩) := ((hf.dep ⟨41, .data⟩ (by simp) rfl).2 60 rfl).trans (hf.dep ⟨41, .data⟩ (by simp) rfl).1
            have hG := HG.out.keeps hbw
            have g3 := hG.cell 3 _ rfl
            go_simp
            refine hK _ _ (Below.refl _ _) ?_
            exact rfl
          | true =>
            rw [if_neg (wanted_no (s := 57) rfl rfl rfl (by rw [hf.size]; simp) (show AC.tmps.getD 57 undef = .bool true from ((hf.dep ⟨38, .guard⟩ (by simp) rfl).2 57 rfl).trans (hf.dep ⟨38, .guard⟩ (by simp) rfl).1) rfl)]
            refine hK _ _ (Below.refl _ _) ?_
            exact rfl
        · obtain rfl := Option.some.inj (show some _ = some oO from ho)
          cases c38 with
          | false =>
            rw [if_pos (wanted_yes (s := 57) rfl rfl rfl (by rw [hf.size]; simp) (show AC.tmps.getD 57 undef = .bool false from ((hf.dep ⟨38, .guard⟩ (by simp) rfl).2 57 rfl).trans (hf.dep ⟨38, .guard⟩ (by simp) rfl).1))]
            have q59 : AC.tmps.getD 59 undef = .int .i64 x := ((hf.dep ⟨40, .data⟩ (by simp) rfl).2 59 rfl).trans (hf.dep ⟨40, .data⟩ (by simp) rfl).1
            have q61 : AC.tmps.getD 61 undef = .int .i64 y := ((hf.dep ⟨42, .data⟩ (by simp) rfl).2 61 rfl).trans (hf.dep ⟨42, .data⟩ (by simp) rfl).1
            obtain ⟨⟨r0, r1⟩, r2, r3⟩ := HR.out rfl
            go_simp
            refine hK _ _ (Below.refl _ _) ?_
            exact (by (show Value.int _ _ = Value.int _ _; rw [IntKind.wrap_i64]; congr 1; omega))
          | true =>
            rw [if_neg (wanted_no (s := 57) rfl rfl rfl (by rw [hf.size]; simp) (show AC.tmps.getD 57 undef = .bool true from ((hf.dep ⟨38, .guard⟩ (by simp) rfl).2 57 rfl).trans (hf.dep ⟨38, .guard⟩ (by simp) rfl).1) rfl)]
            refine hK _ _ (Below.refl _ _) ?_
            exact rfl
        · obtain rfl := Option.some.inj (show some _ = some oO from ho)
          cases c38 with
          | false =>
            rw [if_pos (wanted_yes (s := 57) rfl rfl rfl (by rw [hf.size]; simp) (show AC.tmps.getD 57 undef = .bool false from ((hf.dep ⟨38, .guard⟩ (by simp) rfl).2 57 rfl).trans (hf.dep ⟨38, .guard⟩ (by simp) rfl).1))]
            have q4 : AC.tmps.getD 4 undef = .pointer (some ⟨wr.heap.size, 0, none⟩) := hf.rest 4 (by kernel_rfl)
            have hG := HG.out.keeps hbw
            have g0 := hG.cell 0 _ rfl; have g1 := hG.cell 1 _ rfl; have g2 := hG.cell 2 _ rfl; have g3 := hG.cell 3 _ rfl
            go_simp
            refine hK _ _ (Below.refl _ _) ?_
            exact rfl
          | true =>
            rw [if_neg (wanted_no (s := 57) rfl rfl rfl (by rw [hf.size]; simp) (show AC.tmps.getD 57 undef = .bool true from ((hf.dep ⟨38, .guard⟩ (by simp) rfl).2 57 rfl).trans (hf.dep ⟨38, .guard⟩ (by simp) rfl).1) rfl)]
            refine hK _ _ (Below.refl _ _) ?_
            exact rfl
        · obtain rfl := Option.some.inj (show some _ = some oO from ho)
          cases c38 with
          | false =>
            rw [if_pos (wanted_yes (s := 57) rfl rfl rfl (by rw [hf.size]; simp) (show AC.tmps.getD 57 undef = .bool false from ((hf.dep ⟨38, .guard⟩ (by simp) rfl).2 57 rfl).trans (hf.dep ⟨38, .guard⟩ (by simp) rfl).1))]
            have q63 : AC.tmps.getD 63 undef = .agg #[.int .i64 b, .int .i64 p, .int .i64 x, .int .i64 y] := ((hf.dep ⟨44, .data⟩ (by simp) rfl).2 63 rfl).trans (hf.dep ⟨44, .data⟩ (by simp) rfl).1
            go_simp
            refine (HC.out rfl WW).mono ?_
            rintro e w9 ⟨rfl, hb9⟩
            exact hK _ _ hb9 rfl
          | true =>
            rw [if_neg (wanted_no (s := 57) rfl rfl rfl (by rw [hf.size]; simp) (show AC.tmps.getD 57 undef = .bool true from ((hf.dep ⟨38, .guard⟩ (by simp) rfl).2 57 rfl).trans (hf.dep ⟨38, .guard⟩ (by simp) rfl).1) rfl)]
            refine hK _ _ (Below.refl _ _) ?_
            exact rfl
        · obtain rfl := Option.some.inj (show some _ = some oO from ho)
          cases c38 with
          | false =>
            rw [if_pos (wanted_yes (s := 57) rfl rfl rfl (by rw [hf.size]; simp) (show AC.tmps.getD 57 undef = .bool false from ((hf.dep ⟨38, .guard⟩ (by simp) rfl).2 57 rfl).trans (hf.dep ⟨38, .guard⟩ (by simp) rfl).1))]
            have q62 : AC.tmps.getD 62 undef = .int .i64 (x + y) := ((hf.dep ⟨43, .data⟩ (by simp) rfl).2 62 rfl).trans (hf.dep ⟨43, .data⟩ (by simp) rfl).1
            have q64 : AC.tmps.getD 64 undef = .int .i64 q := ((hf.dep ⟨45, .data⟩ (by simp) rfl).2 64 rfl).trans (hf.dep ⟨45, .data⟩ (by simp) rfl).1
            go_simp
            refine hK _ _ (Below.refl _ _) ?_
            exact rfl
          | true =>
            rw [if_neg (wanted_no (s := 57) rfl rfl rfl (by rw [hf.size]; simp) (show AC.tmps.getD 57 undef = .bool true from ((hf.dep ⟨38, .guard⟩ (by simp) rfl).2 57 rfl).trans (hf.dep ⟨38, .guard⟩ (by simp) rfl).1) rfl)]
            refine hK _ _ (Below.refl _ _) ?_
            exact rfl
        · obtain rfl := Option.some.inj (show some _ = some oO from ho)
          cases c38 with
          | false =>
            rw [if_pos (by rfl)]
            have q57 : AC.tmps.getD 57 undef = .bool false := ((hf.dep ⟨38, .data⟩ (by simp) rfl).2 57 rfl).trans (hf.dep ⟨38, .data⟩ (by simp) rfl).1
            have q65 : AC.tmps.getD 65 undef = .bool (decide (q < x + y)) := ((hf.dep ⟨46, .data⟩ (by simp) rfl).2 65 rfl).trans (hf.dep ⟨46, .data⟩ (by simp) rfl).1
            go_simp
            refine hK _ _ (Below.refl _ _) ?_
            exact (by show Value.bool _ = Value.bool _; rw [h47.out]; rfl)
          | true =>
            rw [if_pos (by rfl)]
            have q57 : AC.tmps.getD 57 undef = .bool true := ((hf.dep ⟨38, .data⟩ (by simp) rfl).2 57 rfl).trans (hf.dep ⟨38, .data⟩ (by simp) rfl).1
            have q65 : AC.tmps.getD 65 undef = undef := ((hf.dep ⟨46, .data⟩ (by simp) rfl).2 65 rfl).trans (hf.dep ⟨46, .data⟩ (by simp) rfl).1
            go_simp
            refine hK _ _ (Below.refl _ _) ?_
            exact (by show Value.bool _ = Value.bool _; rw [h47.out]; rfl)
        · omega
      · intro V WW hall hbw hBW
        have vv0 : V 0 = .pointer (some ⟨wr.heap.size, 0, none⟩) := hall 0 (by decide)
        have vv1 : V 1 = .int .i64 b := hall 1 (by decide)
        have vv2 : V 2 = .bool c3 := hall 2 (by decide)
        have vv3 : V 3 = .bool c3 := hall 3 (by decide)
        have vv7 : V 7 = .bool c8 := hall 7 (by decide)
        have vv8 : V 8 = .bool c8 := hall 8 (by decide)
        have vv12 : V 12 = .bool c13 := hall 12 (by decide)
        have vv13 : V 13 = .bool c13 := hall 13 (by decide)
        have vv17 : V 17 = .bool c18 := hall 17 (by decide)
        have vv18 : V 18 = .bool c18 := hall 18 (by decide)
        have vv22 : V 22 = .bool c23 := hall 22 (by decide)
        have vv23 : V 23 = .bool c23 := hall 23 (by decide)
        have vv27 : V 27 = .bool c28 := hall 27 (by decide)
        have vv28 : V 28 = .bool c28 := hall 28 (by decide)
        have vv32 : V 32 = .bool c33 := hall 32 (by decide)
        have vv33 : V 33 = .bool c33 := hall 33 (by decide)
        have vv37 : V 37 = .bool c38 := hall 37 (by decide)
        have vv38 : V 38 = .bool c38 := hall 38 (by decide)
        have vv47 : V 47 = .bool c47 := hall 47 (by decide)
        clear hall
        simp only [pairsOf, laid, Nat.zero_add, Nat.reduceAdd, vv0, vv1, vv2, vv3, vv7, vv8, vv12, vv13, vv17, vv18, vv22, vv23, vv27, vv28, vv32, vv33, vv37, vv38, vv47, List.setIfInBounds_toArray, List.set_cons_zero, List.set_cons_succ]
        clear vv0 vv1 vv2 vv3 vv7 vv8 vv12 vv13 vv17 vv18 vv22 vv23 vv27 vv28 vv32 vv33 vv37 vv38 vv47
        have HW := Lib.hid hBW
        clear h3 h8 h13 h18 h23 h28 h33 h38 h47 HR HC
        cases hv : okLn (b, p, x, y) with
        | true =>
          have HN : Hid ((L.take (k + 1)).all okLn = true) := by show _ = _; rw [all_takeL HT.out, HK.out]; exact hv
          obtain rfl : c47 = false := by rw [← HD.out, hv]; rfl
          clear hv hbw hBW
          go_wp2
          go_roundw
          · exact ⟨k + 1, by omega, by go_num, HN, HW.out⟩
          · simp [intOf]; omega
        | false =>
          have HN : Hid (v = false) := by show _ = _; rw [← HV.out]; exact right_none (List.mem_of_getElem? HT.out) hv
          obtain rfl : c47 = true := by rw [← HD.out, hv]; rfl
          clear hv hbw hBW
          go_wp2
          go_ret
          exact ⟨by rw [HN.out]; rfl, HW.out⟩
    · obtain rfl : k = L.length := by omega
      have HN : Hid (v = true) := by
        show _ = _
        have := HK.out
        rw [List.take_length] at this
        have h1 := H1.out
        rw [← HV.out]; unfold rightL; rw [this]; simp; omega
      go_wp2
      go_ret
      exact ⟨by rw [HN.out]; rfl, hb⟩
theorem rright_any (w : World) (ao : Option Addr) (cap : Nat) (L : List Ln) (h : SlL w ao cap L) (v : Bool) (hv : rightL L = v) (hl : L.length ≤ 1000000000) :
    Calls Try.prog 34 #[.slice ao L.length cap] w fun e w' => e = .returned (.bool v) ∧ Below w.heap.size w w' := by
  by_cases h1 : 1 ≤ L.length
  · by_cases h16 : L.length ≤ 16
    · exact rright_core w ao cap L h h1 h16 v hv
    · obtain rfl : v = false := by rw [← hv]; unfold rightL; simp [h16]
      have t1 : ¬ (L.length : Int) < 1 := by omega
      have t2 : (16 : Int) < L.length := by omega
      clear h hv h1 h16
      go_enter Try.func34, Try.ntmps34
      go_wp2
      go_ret
      exact ⟨rfl, Below.refl _ _⟩
  · obtain rfl : v = false := by rw [← hv]; unfold rightL; simp [h1]
    have t1 : (L.length : Int) < 1 := by omega
    clear h hv h1
    go_enter Try.func34, Try.ntmps34
    go_wp2
    go_ret
    exact ⟨rfl, Below.refl _ _⟩
end Go.Proofs.Ytikfclioplploaa
