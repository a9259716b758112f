/-
  The walk of the law TrancheSplits.
-/
import Derived.Test.YthcimllkcaknhaaTrAlive
import Derived.Test.YthcimllkcaknhaaTrSame
set_option linter.unusedVariables false
set_option linter.unusedSimpArgs false
namespace Go.Proofs.Ythcimllkcaknhaa
open Go.RowKit

theorem daysK_add (r : Int) (n k : Nat) (L : List Tr) : daysK r k (daysK r n L) = daysK r (n + k) L := by
  induction k with
  | zero => rfl
  | succ k ih => rw [daysK, ih]; rfl
theorem okDays_add {r : Int} {n : Nat} {L : List Tr} (h : okDays r n L = true) (k : Nat) : okDays r k (daysK r n L) = okDays r (n + k) L := by
  induction k with
  | zero => rw [Nat.add_zero, h]; rfl
  | succ k ih =>
    rw [okDays, ih, daysK_add]; rfl
theorem days_owed (r : Int) (k : Nat) (L : List Tr) : owedT (daysK r k L) = owedT L := by
  induction k with
  | zero => rfl
  | succ k ih => rw [daysK, day_owed, ih]
/-- All is repaid. -/
theorem rep_all {L : List Tr} (h : L.all okT = true) : repA (owedT L) L = 0 ∧ owedT (repL (owedT L) L) = 0 ∧ postT (repL (owedT L) L) = postT L ∧ (repL (owedT L) L).all okT = true := by
  induction L with
  | nil => simp [repA, repL, owedT, postT]
  | cons t l ih =>
    simp only [List.all_cons, Bool.and_eq_true] at h
    obtain ⟨⟨b0, b1⟩, hs, hp⟩ := okT_true h.1
    obtain ⟨o0, _⟩ := (sums_in h.2).1
    have ih := ih h.2
    have e : min (owedT (t :: l)) t.1 = t.1 := by simp only [owedT]; omega
    have e2 : owedT (t :: l) - t.1 = owedT l := by simp only [owedT]; omega
    have d1 : repA (owedT (t :: l)) (t :: l) = repA (owedT (t :: l) - min (owedT (t :: l)) t.1) l := rfl
    have d2 : repL (owedT (t :: l)) (t :: l) = (t.1 - min (owedT (t :: l)) t.1, t.2.1, t.2.2) :: repL (owedT (t :: l) - min (owedT (t :: l)) t.1) l := rfl
    rw [d1, d2, e, e2]
    refine ⟨ih.1, ?_, ?_, ?_⟩
    · show t.1 - t.1 + owedT (repL (owedT l) l) = 0
      rw [ih.2.1]; omega
    · show t.2.2 + postT (repL (owedT l) l) = t.2.2 + postT l
      rw [ih.2.2.1]
    · rw [List.all_cons, ih.2.2.2]
      simp [okT]; omega
/-- Days, in one way. -/
theorem daysS_ok {L : List Tr} {r n : Int} (h : (daysS L r n).2.2 = 0) : rightT L = true ∧ 0 ≤ r ∧ r ≤ 10000 ∧ 0 ≤ n ∧ n ≤ 366 ∧ okDays r n.toNat L = true ∧ daysS L r n = (daysK r n.toNat L, postT (daysK r n.toNat L) - postT L, 0) := by
  unfold daysS at h ⊢
  split at h
  · split at h
    · split at h
      · split at h
        · rename_i h1 h2 h3 h4
          rw [if_pos h1, if_pos h2, if_pos h3, if_pos h4]
          exact ⟨h1, h2.1, h2.2, h3.1, h3.2, h4, rfl⟩
        · simp at h
      · simp at h
    · simp at h
  · simp at h
theorem daysS_of {L : List Tr} {r : Int} {n : Nat} (h1 : rightT L = true) (r0 : 0 ≤ r) (r1 : r ≤ 10000) (n1 : n ≤ 366) : daysS L r n = if okDays r n L = true then (daysK r n L, postT (daysK r n L) - postT L, 0) else ([], 0, 161) := by
  unfold daysS
  rw [if_pos h1, if_pos ⟨r0, r1⟩, if_pos (by omega)]
  rfl
/-- Days post no less. -/
theorem day_mono {L : List Tr} {r : Int} {n : Nat} (h1 : rightT L = true) (r0 : 0 ≤ r) (r1 : r ≤ 10000) (h : okDays r n L = true) : postT L ≤ postT (daysK r n L) := by
  induction n with
  | zero => exact Int.le_refl _
  | succ n ih =>
    rw [okDays, Bool.and_eq_true] at h
    have := ih h.1
    have := (day_sum (rightT_true (okDays_right h1 h.1)).2.1 r0 r1).1
    rw [daysK]; omega
/-- Where some days fail, more fail alike. -/
theorem daysS_fail {L : List Tr} {r : Int} {n k : Nat} (hn : n + k ≤ 366) (h : (daysS L r n).2.2 ≠ 0) : (daysS L r ((n : Int) + k)).2.2 = (daysS L r n).2.2 := by
  by_cases h1 : rightT L = true
  · by_cases h2 : 0 ≤ r ∧ r ≤ 10000
    · rw [← Int.natCast_add, daysS_of h1 h2.1 h2.2 hn]
      rw [daysS_of h1 h2.1 h2.2 (by omega)] at h ⊢
      by_cases h3 : okDays r n L = true
      · rw [if_pos h3] at h; simp at h
      · rw [if_neg h3, if_neg (by rw [okDays_mono (Nat.le_add_right n k) (by simpa using h3)]; simp)]
    · unfold daysS; rw [if_pos h1, if_neg h2, if_pos h1, if_neg h2]
  · unfold daysS; rw [if_neg h1, if_neg h1]
set_option maxRecDepth 8000 in
set_option maxHeartbeats 1600000 in
theorem splits_a (w : World) (ao : Option Addr) (cap : Nat) (L : List Tr) (r : Int) (n0 n1 : Nat) (h : SlT w ao cap L) (hl : L.length ≤ 20) (h0 : n0 ≤ 30) (h1 : n1 ≤ 30) (T B : List Tr) (x y e : Int) (hs : daysS L r ((n0 : Int) + n1) = (T, x, e)) (hs1 : daysS L r n0 = (B, y, e)) (he : ¬ e = 0) :
    Calls Try.prog 6 #[.slice ao L.length cap, .int .i64 r, .agg #[.int .i64 n0, .int .i64 n1]] w fun e w' => e = .returned (.bool true) ∧ Below w.heap.size w w' := by
  have g1 : decide ((20 : Int) < L.length) = false := by simp; omega
  have g2 : decide ((n0 : Int) < 0) = false := by simp
  have g3 : decide ((n1 : Int) < 0) = false := by simp
  have g4 : decide ((30 : Int) < n0) = false := by simp; omega
  have g5 : decide ((30 : Int) < n1) = false := by simp; omega
  have HA := Lib.hid (fun W => talive_any W)
  have HD := Lib.hid (fun W (hb : Below w.heap.size w W) => days_any W ao cap L r ((n0 : Int) + n1) _ hs (h.keeps hb))
  have HD1 := Lib.hid (fun W (hb : Below w.heap.size w W) => days_any W ao cap L r n0 _ hs1 (h.keeps hb))
  have HL := Lib.hid h
  clear hs hs1 h
  go_enter Try.func6, Try.ntmps6
  have HX := Lib.hid (Blk.new w 58 [.int .i64 n0, .int .i64 n1])
  have HB := Lib.hid (below_new1 w (.cells #[.int .i64 n0, .int .i64 n1] 58))
  go_wp2_with fail
  refine (HA.out _).mono ?_
  rintro e w1 ⟨rfl, hb1⟩
  have HX1 := Lib.hid (HX.out.keeps hb1)
  have HB1 := Lib.hid (below_on HB.out HB.out.size hb1)
  have z0 := HX1.out.cell 0 _ rfl
  have z1 := HX1.out.cell 1 _ rfl
  clear HA hb1 HX HB
  go_wp2_with fail
  refine (HD.out _ HB1.out).mono ?_
  rintro e w2 ⟨v2, rfl, ho2, hb2⟩
  obtain ⟨ao2, cap2, rfl, hs2, _⟩ := Rk.own ho2
  have HX2 := Lib.hid (HX1.out.keeps hb2)
  have HB2 := Lib.hid (below_on HB1.out HB1.out.size hb2)
  have HS2 := Lib.hid hs2
  clear z0 z1 ho2 hs2 hb2 HD HX1 HB1
  have z0 := HX2.out.cell 0 _ rfl
  have z1 := HX2.out.cell 1 _ rfl
  go_wp2_with fail
  refine (HD1.out _ HB2.out).mono ?_
  rintro e w3 ⟨v3, rfl, ho3, hb3⟩
  obtain ⟨ao3, cap3, rfl, hs3, _⟩ := Rk.own ho3
  have HX3 := Lib.hid (HX2.out.keeps hb3)
  have HB3 := Lib.hid (below_on HB2.out HB2.out.size hb3)
  have HS2 := Lib.hid (HS2.out.keeps hb3)
  have HS3 := Lib.hid hs3
  clear z0 z1 ho3 hs3 hb3 HD1 HX2 HB2
  have z0 := HX3.out.cell 0 _ rfl
  have z1 := HX3.out.cell 1 _ rfl
  go_wp2
  go_ret
  exact ⟨rfl, HB3.out⟩
set_option maxRecDepth 8000 in
set_option maxHeartbeats 1600000 in
theorem splits_c (w : World) (ao : Option Addr) (cap : Nat) (L : List Tr) (r : Int) (n0 n1 : Nat) (h : SlT w ao cap L) (hl : L.length ≤ 20) (h0 : n0 ≤ 30) (h1 : n1 ≤ 30) (B : List Tr) (y : Int) (hs : daysS L r ((n0 : Int) + n1) = ([], 0, 161)) (hs1 : daysS L r n0 = (B, y, 0)) (hr : rightT B = true) (r0 : 0 ≤ r) (r1 : r ≤ 10000) (hf : okDays r n1 B = false) :
    Calls Try.prog 6 #[.slice ao L.length cap, .int .i64 r, .agg #[.int .i64 n0, .int .i64 n1]] w fun e w' => e = .returned (.bool true) ∧ Below w.heap.size w w' := by
  have g1 : decide ((20 : Int) < L.length) = false := by simp; omega
  have g2 : decide ((n0 : Int) < 0) = false := by simp
  have g3 : decide ((n1 : Int) < 0) = false := by simp
  have g4 : decide ((30 : Int) < n0) = false := by simp; omega
  have g5 : decide ((30 : Int) < n1) = false := by simp; omega
  have HA := Lib.hid (fun W => talive_any W)
  have HD := Lib.hid (fun W (hb : Below w.heap.size w W) => days_any W ao cap L r ((n0 : Int) + n1) _ hs (h.keeps hb))
  have HD1 := Lib.hid (fun W (hb : Below w.heap.size w W) => days_any W ao cap L r n0 _ hs1 (h.keeps hb))
  have HD2 := Lib.hid (fun W ao cap h => days_any W ao cap B r n1 ([], 0, 161) (by rw [daysS_of hr r0 r1 (by omega), hf]; rfl) h)
  have HF := Lib.hid hf
  have HR := Lib.hid hr
  have HL := Lib.hid h
  clear hs hs1 h hf hr
  go_enter Try.func6, Try.ntmps6
  have HX := Lib.hid (Blk.new w 58 [.int .i64 n0, .int .i64 n1])
  have HB := Lib.hid (below_new1 w (.cells #[.int .i64 n0, .int .i64 n1] 58))
  go_wp2_with fail
  refine (HA.out _).mono ?_
  rintro e w1 ⟨rfl, hb1⟩
  have HX1 := Lib.hid (HX.out.keeps hb1)
  have HB1 := Lib.hid (below_on HB.out HB.out.size hb1)
  have z0 := HX1.out.cell 0 _ rfl
  have z1 := HX1.out.cell 1 _ rfl
  clear HA hb1 HX HB
  go_wp2_with fail
  refine (HD.out _ HB1.out).mono ?_
  rintro e w2 ⟨v2, rfl, ho2, hb2⟩
  obtain ⟨ao2, cap2, rfl, hs2, _⟩ := Rk.own ho2
  have HX2 := Lib.hid (HX1.out.keeps hb2)
  have HB2 := Lib.hid (below_on HB1.out HB1.out.size hb2)
  have HS2 := Lib.hid hs2
  clear z0 z1 ho2 hs2 hb2 HD HX1 HB1
  have z0 := HX2.out.cell 0 _ rfl
  have z1 := HX2.out.cell 1 _ rfl
  go_wp2_with fail
  refine (HD1.out _ HB2.out).mono ?_
  rintro e w3 ⟨v3, rfl, ho3, hb3⟩
  obtain ⟨ao3, cap3, rfl, hs3, _⟩ := Rk.own ho3
  have HX3 := Lib.hid (HX2.out.keeps hb3)
  have HB3 := Lib.hid (below_on HB2.out HB2.out.size hb3)
  have HS2 := Lib.hid (HS2.out.keeps hb3)
  have HS3 := Lib.hid hs3
  clear z0 z1 ho3 hs3 hb3 HD1 HX2 HB2
  have z0 := HX3.out.cell 0 _ rfl
  have z1 := HX3.out.cell 1 _ rfl
  go_wp2_with fail
  refine (HD2.out _ _ _ HS3.out).mono ?_
  rintro e w4 ⟨v4, rfl, ho4, hb4⟩
  obtain ⟨ao4, cap4, rfl, hs4, _⟩ := Rk.own ho4
  have HX4 := Lib.hid (HX3.out.keeps hb4)
  have HB4 := Lib.hid (below_on HB3.out HB3.out.size hb4)
  have HS2 := Lib.hid (HS2.out.keeps hb4)
  have HS3 := Lib.hid (HS3.out.keeps hb4)
  have HS4 := Lib.hid hs4
  clear z0 z1 ho4 hs4 hb4 HD2 HX3 HB3
  go_wp2_with fail
  go_loopw [16, 17, 18] (fun d x i wr => ∃ (k : Nat) (ao5 : Option Addr) (cap5 : Nat) (x5 : Int), k ≤ n1 ∧ i = .int .i64 k ∧ x = .int .i64 x5 ∧ d = .slice ao5 (daysK r k B).length cap5 ∧ Hid (SlT wr ao5 cap5 (daysK r k B)) ∧ Hid (okDays r k B = true) ∧ Hid (Blk wr w.heap.size 58 [.int .i64 n0, .int .i64 n1]) ∧ Below w.heap.size w wr) (fun _ _ i _ => n1 - (intOf i).toNat)
  case atStart => exact ⟨0, ao3, cap3, 0, by omega, rfl, rfl, rfl, HS3, rfl, HX4, HB4.out⟩
  case round =>
    obtain ⟨k, ao5, cap5, x5, hk, rfl, rfl, rfl, HS5, HK, HX5, hb5⟩ := hrel
    have z1 := HX5.out.cell 1 _ rfl
    by_cases hkn : k < n1
    · have HRk := Lib.hid (okDays_right HR.out HK.out)
      cases hok : okDays r (k + 1) B with
      | true =>
        have HOK := Lib.hid hok
        have hrk : rightT (dayL r (daysK r k B)) = true := okDays_right HR.out hok
        have HC := Lib.hid (day1_any wr ao5 cap5 (daysK r k B) r (daysK r (k + 1) B, postT (daysK r (k + 1) B) - postT (daysK r k B), 0) (by rw [show (1 : Int) = ((1 : Nat) : Int) from rfl, daysS_of HRk.out r0 r1 (by decide), if_pos (by simp only [okDays, daysK]; simpa using hrk)]; rfl) HS5.out)
        clear hok hrk
        go_wp2_with fail
        refine HC.out.mono ?_
        rintro e w6 ⟨v6, rfl, ho6, hb6⟩
        obtain ⟨ao6, cap6, rfl, hs6, _⟩ := Rk.own ho6
        have HX6 := Lib.hid (HX5.out.keeps hb6)
        have HB6 := Lib.hid (below_on hb5 hb5.size hb6)
        have HS6 := Lib.hid hs6
        clear z1 ho6 hs6 hb6 HC
        go_wp2
        go_roundw
        · exact ⟨k + 1, ao6, cap6, _, by omega, by go_num, rfl, rfl, HS6, HOK, HX6, HB6.out⟩
        · simp [intOf]; omega
      | false =>
        have hrk : rightT (dayL r (daysK r k B)) = false := by
          rw [okDays, HK.out] at hok
          simpa [daysK] using hok
        have HC := Lib.hid (day1_any wr ao5 cap5 (daysK r k B) r ([], 0, 161) (by rw [show (1 : Int) = ((1 : Nat) : Int) from rfl, daysS_of HRk.out r0 r1 (by decide), if_neg (by simp only [okDays, daysK]; simpa using hrk)]) HS5.out)
        clear hok hrk
        go_wp2_with fail
        refine HC.out.mono ?_
        rintro e w6 ⟨v6, rfl, ho6, hb6⟩
        have HB6 := Lib.hid (below_on hb5 hb5.size hb6)
        clear z1 ho6 hb6 HC
        go_wp2
        go_ret
        exact ⟨rfl, HB6.out⟩
    · exfalso
      obtain rfl : k = n1 := by omega
      have := HK.out
      rw [HF.out] at this
      cases this
set_option maxRecDepth 8000 in
set_option maxHeartbeats 1600000 in
theorem splits_b (w : World) (ao : Option Addr) (cap : Nat) (L : List Tr) (r : Int) (n0 n1 : Nat) (h : SlT w ao cap L) (hl : L.length ≤ 20) (h0 : n0 ≤ 30) (h1 : n1 ≤ 30) (B C : List Tr) (y z : Int) (hs : daysS L r ((n0 : Int) + n1) = (C, y + z, 0)) (hs1 : daysS L r n0 = (B, y, 0)) (hs2 : daysS B r n1 = (C, z, 0)) (hr : rightT B = true) (r0 : 0 ≤ r) (r1 : r ≤ 10000) (hf : okDays r n1 B = true) (hC : C = daysK r n1 B) (hz : z = postT C - postT B) (hyz : 0 ≤ y + z ∧ y + z ≤ 9223372036854775807) (ho : owedT L = owedT B) (hall : L.all okT = true) :
    Calls Try.prog 6 #[.slice ao L.length cap, .int .i64 r, .agg #[.int .i64 n0, .int .i64 n1]] w fun e w' => e = .returned (.bool true) ∧ Below w.heap.size w w' := by
  have g1 : decide ((20 : Int) < L.length) = false := by simp; omega
  have g2 : decide ((n0 : Int) < 0) = false := by simp
  have g3 : decide ((n1 : Int) < 0) = false := by simp
  have g4 : decide ((30 : Int) < n0) = false := by simp; omega
  have g5 : decide ((30 : Int) < n1) = false := by simp; omega
  have HA := Lib.hid (fun W => talive_any W)
  have HD := Lib.hid (fun W (hb : Below w.heap.size w W) => days_any W ao cap L r ((n0 : Int) + n1) _ hs (h.keeps hb))
  have HD1 := Lib.hid (fun W (hb : Below w.heap.size w W) => days_any W ao cap L r n0 _ hs1 (h.keeps hb))
  have HD2 := Lib.hid (fun W ao cap h => days_any W ao cap B r n1 _ hs2 h)
  have HF := Lib.hid hf
  have HR := Lib.hid hr
  have HL := Lib.hid h
  have HALL := Lib.hid hall
  have HC0 := Lib.hid hC
  have HZ := Lib.hid hz
  have HO := Lib.hid ho
  obtain ⟨hyz0, hyz1⟩ := hyz
  clear hs hs1 hs2 h hf hr hC hz ho hall
  go_enter Try.func6, Try.ntmps6
  have HX := Lib.hid (Blk.new w 58 [.int .i64 n0, .int .i64 n1])
  have HB := Lib.hid (below_new1 w (.cells #[.int .i64 n0, .int .i64 n1] 58))
  go_wp2_with fail
  refine (HA.out _).mono ?_
  rintro e w1 ⟨rfl, hb1⟩
  have HX1 := Lib.hid (HX.out.keeps hb1)
  have HB1 := Lib.hid (below_on HB.out HB.out.size hb1)
  have z0 := HX1.out.cell 0 _ rfl
  have z1 := HX1.out.cell 1 _ rfl
  clear HA hb1 HX HB
  go_wp2_with fail
  refine (HD.out _ HB1.out).mono ?_
  rintro e w2 ⟨v2, rfl, ho2, hb2⟩
  obtain ⟨ao2, cap2, rfl, hs2, _⟩ := Rk.own ho2
  have HX2 := Lib.hid (HX1.out.keeps hb2)
  have HB2 := Lib.hid (below_on HB1.out HB1.out.size hb2)
  have HS2 := Lib.hid hs2
  clear z0 z1 ho2 hs2 hb2 HD HX1 HB1
  have z0 := HX2.out.cell 0 _ rfl
  have z1 := HX2.out.cell 1 _ rfl
  go_wp2_with fail
  refine (HD1.out _ HB2.out).mono ?_
  rintro e w3 ⟨v3, rfl, ho3, hb3⟩
  obtain ⟨ao3, cap3, rfl, hs3, _⟩ := Rk.own ho3
  have HX3 := Lib.hid (HX2.out.keeps hb3)
  have HB3 := Lib.hid (below_on HB2.out HB2.out.size hb3)
  have HS2 := Lib.hid (HS2.out.keeps hb3)
  have HS3 := Lib.hid hs3
  clear z0 z1 ho3 hs3 hb3 HD1 HX2 HB2
  have z0 := HX3.out.cell 0 _ rfl
  have z1 := HX3.out.cell 1 _ rfl
  go_wp2_with fail
  refine (HD2.out _ _ _ HS3.out).mono ?_
  rintro e w4 ⟨v4, rfl, ho4, hb4⟩
  obtain ⟨ao4, cap4, rfl, hs4, _⟩ := Rk.own ho4
  have HX4 := Lib.hid (HX3.out.keeps hb4)
  have HB4 := Lib.hid (below_on HB3.out HB3.out.size hb4)
  have HS2 := Lib.hid (HS2.out.keeps hb4)
  have HS3 := Lib.hid (HS3.out.keeps hb4)
  have HS4 := Lib.hid hs4
  clear z0 z1 ho4 hs4 hb4 HD2 HX3 HB3
  have HSM := Lib.hid (tsame_any w4 ao2 cap2 C ao4 cap4 C HS2.out HS4.out true (by simp) (by have := (rightT_true (okDays_right HR.out HF.out)).1; rw [← HC0.out] at this; omega))
  go_wp2_with fail
  refine HSM.out.mono ?_
  rintro e w5 ⟨rfl, hb5⟩
  have HX4 := Lib.hid (HX4.out.keeps hb5)
  have HB4 := Lib.hid (below_on HB4.out HB4.out.size hb5)
  have HS3 := Lib.hid (HS3.out.keeps hb5)
  have HS4 := Lib.hid (HS4.out.keeps hb5)
  clear hb5 HSM HS2
  go_wp2_with fail
  go_loopw [16, 17, 18] (fun d x i wr => ∃ (k : Nat) (ao5 : Option Addr) (cap5 : Nat) (x5 : Int), k ≤ n1 ∧ i = .int .i64 k ∧ x = .int .i64 x5 ∧ 0 ≤ x5 ∧ x5 ≤ 4611686018427387904 ∧ Hid (x5 = postT (daysK r k B) - postT B) ∧ d = .slice ao5 (daysK r k B).length cap5 ∧ Hid (SlT wr ao5 cap5 (daysK r k B)) ∧ Hid (okDays r k B = true) ∧ Hid (Blk wr w.heap.size 58 [.int .i64 n0, .int .i64 n1]) ∧ Hid (SlT wr ao4 cap4 C) ∧ Below w.heap.size w wr) (fun _ _ i _ => n1 - (intOf i).toNat)
  case atStart => exact ⟨0, ao3, cap3, 0, by omega, rfl, rfl, by decide, by decide, by show _ = _; simp [daysK], rfl, HS3, rfl, HX4, HS4, HB4.out⟩
  case round =>
    obtain ⟨k, ao5, cap5, x5, hk, rfl, rfl, x0, x1, HX, rfl, HS5, HK, HX5, HS6, hb5⟩ := hrel
    have z1 := HX5.out.cell 1 _ rfl
    by_cases hkn : k < n1
    · have HRk := Lib.hid (okDays_right HR.out HK.out)
      have hok : okDays r (k + 1) B = true := by
        cases h : okDays r (k + 1) B with
        | true => rfl
        | false => have := okDays_mono (show k + 1 ≤ n1 from hkn) h; rw [HF.out] at this; cases this
      have HOK := Lib.hid hok
      have hrk : rightT (dayL r (daysK r k B)) = true := okDays_right HR.out hok
      have HC := Lib.hid (day1_any wr ao5 cap5 (daysK r k B) r (daysK r (k + 1) B, postT (daysK r (k + 1) B) - postT (daysK r k B), 0) (by rw [show (1 : Int) = ((1 : Nat) : Int) from rfl, daysS_of HRk.out r0 r1 (by decide), if_pos (by simp only [okDays, daysK]; simpa using hrk)]; rfl) HS5.out)
      obtain ⟨l256, hallk, _⟩ := rightT_true HRk.out
      obtain ⟨d0, d1⟩ := day_sum hallk r0 r1
      obtain ⟨l256', hallk', _⟩ := rightT_true hrk
      have p2 := (sums_in hallk').2
      have p0 := (sums_in (rightT_true HR.out).2.1).2.1
      have hx := HX.out
      obtain ⟨P, hP⟩ : ∃ P, postT (daysK r k B) = P := ⟨_, rfl⟩
      obtain ⟨P2, hP2⟩ : ∃ P, postT (daysK r (k + 1) B) = P := ⟨_, rfl⟩
      obtain ⟨PB, hPB⟩ : ∃ P, postT B = P := ⟨_, rfl⟩
      rw [show dayL r (daysK r k B) = daysK r (k + 1) B from rfl] at d0 d1 p2 l256'
      rw [hP] at hx d0 d1 HC
      rw [hP2] at d0 d1 p2 HC
      rw [hPB] at hx p0
      have HN : Hid (x5 + (P2 - P) = postT (daysK r (k + 1) B) - postT B) := by show _ = _; rw [hP2, hPB]; omega
      have n0' : 0 ≤ x5 + (P2 - P) := by omega
      have n1' : x5 + (P2 - P) ≤ 4611686018427387904 := by omega
      have d1' : P2 - P ≤ 20000000000000 := by omega
      clear hok hrk hallk hallk' hP hP2 hPB hx p2 p0 d1 l256 l256'
      go_wp2_with fail
      refine HC.out.mono ?_
      rintro e w6 ⟨v6, rfl, ho6, hb6⟩
      obtain ⟨ao6, cap6, rfl, hs6, _⟩ := Rk.own ho6
      have HX6 := Lib.hid (HX5.out.keeps hb6)
      have HB6 := Lib.hid (below_on hb5 hb5.size hb6)
      have HS7 := Lib.hid (HS6.out.keeps hb6)
      have HS8 := Lib.hid hs6
      clear z1 ho6 hs6 hb6 HC HS6
      go_wp2
      go_roundw
      · exact ⟨k + 1, ao6, cap6, _, by omega, by go_num, rfl, n0', n1', HN, rfl, HS8, HOK, HX6, HS7, HB6.out⟩
      · simp [intOf]; omega
    · obtain rfl : k = n1 := by omega
      have hxz : x5 = z := by rw [HX.out, HZ.out, HC0.out]
      rw [← HC0.out] at HS5 ⊢
      have hrC : rightT C = true := by rw [HC0.out]; exact okDays_right HR.out HF.out
      obtain ⟨c256, call, cmax⟩ := rightT_true hrC
      have c0 := (sums_in call).1.1
      have hoC : owedT C = owedT L := by rw [HC0.out, days_owed, HO.out]
      obtain ⟨q1, q2, q3, q4⟩ := rep_all call
      have HSM := Lib.hid (tsame_any wr ao4 cap4 C ao5 cap5 C HS6.out HS5.out true (by simp) (by omega))
      have HO1 := Lib.hid (fun W (hb : Below wr.heap.size wr W) => owed_any W ao5 cap5 C (HS5.out.keeps hb) call (by omega))
      have HO2 := Lib.hid (fun W (hb : Below w.heap.size w W) => owed_any W ao cap L (HL.out.keeps hb) HALL.out (by omega))
      have HP1 := Lib.hid (fun W (hb : Below wr.heap.size wr W) => posted_any W ao5 cap5 C (HS5.out.keeps hb) call (by omega))
      have HRP := Lib.hid (fun W (hb : Below wr.heap.size wr W) => repay_any W ao5 cap5 C (owedT C) (repL (owedT C) C, 0, 0) (by unfold repS; rw [if_pos hrC, if_pos ⟨c0, cmax⟩, q1]) (HS5.out.keeps hb))
      have hlen : (repL (owedT C) C).length = C.length := rep_len _ _
      have HOR := Lib.hid (fun W ao cap h => owed_any W ao cap (repL (owedT C) C) h q4 (by omega))
      have HPR := Lib.hid (fun W ao cap h => posted_any W ao cap (repL (owedT C) C) h q4 (by omega))
      rw [← hoC] at HO2
      rw [q2] at HOR
      rw [q3] at HPR
      obtain ⟨R, hR⟩ : ∃ R, repL (owedT C) C = R := ⟨_, rfl⟩
      obtain ⟨oC, hoC2⟩ : ∃ R, owedT C = R := ⟨_, rfl⟩
      obtain ⟨pC, hpC⟩ : ∃ R, postT C = R := ⟨_, rfl⟩
      rw [hR] at HRP HOR HPR
      rw [hpC] at HP1 HPR
      rw [hoC2] at HO1 HO2 HRP
      subst hxz
      clear q1 q2 q3 q4 hoC c0 cmax call hrC hlen c256 hR hoC2 hpC
      go_wp2_with fail
      refine HSM.out.mono ?_
      rintro e u1 ⟨rfl, k1⟩
      have HB1 := Lib.hid (below_on hb5 hb5.size k1)
      go_wp2_with fail
      refine (HO1.out _ k1).mono ?_
      rintro e u2 ⟨rfl, k2⟩
      have HB2 := Lib.hid (below_on HB1.out HB1.out.size k2)
      have K2 := Lib.hid (below_on k1 k1.size k2)
      clear k1 k2 HB1
      go_wp2_with fail
      refine (HO2.out _ HB2.out).mono ?_
      rintro e u3 ⟨rfl, k3⟩
      have HB3 := Lib.hid (below_on HB2.out HB2.out.size k3)
      have K3 := Lib.hid (below_on K2.out K2.out.size k3)
      clear k3 HB2 K2
      go_wp2_with fail
      refine (HO1.out _ K3.out).mono ?_
      rintro e u4 ⟨rfl, k4⟩
      have HB4 := Lib.hid (below_on HB3.out HB3.out.size k4)
      have K4 := Lib.hid (below_on K3.out K3.out.size k4)
      clear k4 HB3 K3
      go_wp2_with fail
      refine (HRP.out _ K4.out).mono ?_
      rintro e u5 ⟨v5, rfl, ho5, k5⟩
      obtain ⟨ao7, cap7, rfl, hs7, _⟩ := Rk.own ho5
      have HB5 := Lib.hid (below_on HB4.out HB4.out.size k5)
      have K5 := Lib.hid (below_on K4.out K4.out.size k5)
      have HS7 := Lib.hid hs7
      clear k5 HB4 K4 ho5 hs7
      go_wp2_with fail
      refine (HOR.out _ _ _ HS7.out).mono ?_
      rintro e u6 ⟨rfl, k6⟩
      have HB6 := Lib.hid (below_on HB5.out HB5.out.size k6)
      have K6 := Lib.hid (below_on K5.out K5.out.size k6)
      have HS8 := Lib.hid (HS7.out.keeps k6)
      clear k6 HB5 K5 HS7
      go_wp2_with fail
      refine (HPR.out _ _ _ HS8.out).mono ?_
      rintro e u7 ⟨rfl, k7⟩
      have HB7 := Lib.hid (below_on HB6.out HB6.out.size k7)
      have K7 := Lib.hid (below_on K6.out K6.out.size k7)
      clear k7 HB6 K6 HS8
      go_wp2_with fail
      refine (HP1.out _ K7.out).mono ?_
      rintro e u8 ⟨rfl, k8⟩
      have HB8 := Lib.hid (below_on HB7.out HB7.out.size k8)
      clear k8
      go_wp2
      go_ret
      exact ⟨rfl, HB8.out⟩
set_option maxRecDepth 8000 in
set_option maxHeartbeats 1600000 in
theorem splits_law (ao : Option Addr) (cap : Nat) (L : List Tr) (r n0 n1 : Int) (w : World) (h : SlT w ao cap L) :
    Calls Try.prog 6 #[.slice ao L.length cap, .int .i64 r, .agg #[.int .i64 n0, .int .i64 n1]] w fun e w' => e = .returned (.bool true) ∧ Below w.heap.size w w' := by
  by_cases hg : L.length ≤ 20 ∧ (0 ≤ n0 ∧ n0 ≤ 30) ∧ (0 ≤ n1 ∧ n1 ≤ 30)
  · obtain ⟨hl, ⟨h0, h0'⟩, h1, h1'⟩ := hg
    obtain ⟨N0, rfl⟩ := Int.eq_ofNat_of_zero_le h0
    obtain ⟨N1, rfl⟩ := Int.eq_ofNat_of_zero_le h1
    by_cases he : (daysS L r N0).2.2 = 0
    · obtain ⟨hr, r0, r1, _, _, hok, hs1⟩ := daysS_ok he
      have hB := okDays_right hr hok
      rw [Int.toNat_natCast] at hs1 hok
      have hB : rightT (daysK r N0 L) = true := okDays_right hr hok
      have hadd := okDays_add hok N1
      have hka := daysK_add r N0 N1 L
      have e1 := daysS_of (n := N0 + N1) hr r0 r1 (by omega)
      rw [Int.natCast_add] at e1
      have e2 := daysS_of hB r0 r1 (show N1 ≤ 366 by omega)
      rw [← hadd, ← hka] at e1
      by_cases hf : okDays r N1 (daysK r N0 L) = true
      · rw [if_pos hf] at e1 e2
        have p1 := (sums_in (rightT_true hr).2.1).2
        have p2 := (sums_in (rightT_true (okDays_right hB hf)).2.1).2
        have l1 := (rightT_true hr).1
        have l2 := (rightT_true (okDays_right hB hf)).1
        have hmono := day_mono hr r0 r1 (show okDays r (N0 + N1) L = true by rw [← hadd]; exact hf)
        rw [← hka] at hmono
        refine splits_b w ao cap L r N0 N1 h hl (by omega) (by omega) (daysK r N0 L) (daysK r N1 (daysK r N0 L)) (postT (daysK r N0 L) - postT L) (postT (daysK r N1 (daysK r N0 L)) - postT (daysK r N0 L)) ?_ hs1 e2 hB r0 r1 hf rfl rfl ?_ (days_owed r N0 L).symm (rightT_true hr).2.1
        · rw [e1]
          rw [show postT (daysK r N0 L) - postT L + (postT (daysK r N1 (daysK r N0 L)) - postT (daysK r N0 L)) = postT (daysK r N1 (daysK r N0 L)) - postT L from by omega]
        · omega
      · rw [if_neg hf] at e1
        exact splits_c w ao cap L r N0 N1 h hl (by omega) (by omega) _ _ e1 hs1 hB r0 r1 (by simpa using hf)
    · have hfl := daysS_fail (n := N0) (k := N1) (by omega) he
      exact splits_a w ao cap L r N0 N1 h hl (by omega) (by omega) _ _ _ _ (daysS L r N0).2.2 (show daysS L r ((N0 : Int) + N1) = (_, _, _) from by rw [← hfl]) rfl he
  · have HA := Lib.hid (fun W => talive_any W)
    have HX := Lib.hid (Blk.new w 58 [.int .i64 n0, .int .i64 n1])
    have HB := Lib.hid (below_new1 w (.cells #[.int .i64 n0, .int .i64 n1] 58))
    have hlen := h.room
    clear h
    have hg2 : 20 < L.length ∨ (L.length ≤ 20 ∧ n0 < 0) ∨ (L.length ≤ 20 ∧ 0 ≤ n0 ∧ n1 < 0) ∨ (L.length ≤ 20 ∧ 0 ≤ n0 ∧ 0 ≤ n1 ∧ 30 < n0) ∨ (L.length ≤ 20 ∧ 0 ≤ n0 ∧ 0 ≤ n1 ∧ n0 ≤ 30 ∧ 30 < n1) := by omega
    clear hg
    rcases hg2 with g1 | ⟨g1, g2⟩ | ⟨g1, g2, g3⟩ | ⟨g1, g2, g3, g4⟩ | ⟨g1, g2, g3, g4, g5⟩
    all_goals
      go_enter Try.func6, Try.ntmps6
      go_wp2_with fail
      refine (HA.out _).mono ?_
      rintro e w1 ⟨rfl, hb1⟩
      have HX1 := Lib.hid (HX.out.keeps hb1)
      have HB1 := Lib.hid (below_on HB.out HB.out.size hb1)
      have z0 := HX1.out.cell 0 _ rfl
      have z1 := HX1.out.cell 1 _ rfl
      clear HA hb1 HX HB
      go_wp2
      go_ret
      exact ⟨rfl, HB1.out⟩
end Go.Proofs.Ythcimllkcaknhaa
