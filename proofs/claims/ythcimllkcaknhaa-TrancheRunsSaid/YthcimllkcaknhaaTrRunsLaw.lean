/-
  The walk of the law TrancheRuns.
-/
import Derived.Test.YthcimllkcaknhaaRefTr2
import Derived.Test.YthcimllkcaknhaaTrAlive
import Derived.Test.YthcimllkcaknhaaTrSame
set_option linter.unusedVariables false
set_option linter.unusedSimpArgs false
namespace Go.Proofs.Ythcimllkcaknhaa
open Go.RowKit Dg

theorem size_act (w : World) : (sizeOf 32).run Try.prog w = .ok 3 w := by
  obtain ⟨i, hi, _, hs, _⟩ := info_parts (show (Try.prog.info? 32).map (fun i => (i.zero, i.size, i.bytes)) = some (some (.agg #[.int .i64 0, .int .i64 0, .int .i64 0]), 3, 24) by kernel_rfl)
  simp [sizeOf, typeInfo, hi, hs]
section
variable {ops : Array Oper} {rest : List Oper} {o : Oper} {a : Act} {w : World} {Q : Exit → Act → World → Prop}
theorem ix_act (hw : Region.wanted o (yielded ops a.tmps) = true) (s x : Operand) (ho : o.op = .indexAddr 30 s x) (ao : Option Addr) (cap : Nat) (L : List Tr) (hc : SlT w ao cap L) (hs : a.eval s = .slice ao L.length cap) (k : Nat) (t : Tr) (ht : L[k]? = some t) (hx : a.eval x = .int .i64 k)
    (h : ∀ b off, w.cell? ⟨b, off, none⟩ = some (.int .i64 t.1) → w.cell? ⟨b, off + 1, none⟩ = some (.int .i64 t.2.1) → w.cell? ⟨b, off + 2, none⟩ = some (.int .i64 t.2.2) → wpList Try.prog ops Q rest (a.put o.dst (.pointer (some ⟨b, off, none⟩))) w) : wpList Try.prog ops Q (o :: rest) a w := by
  refine wpList_ix_rec hw 30 32 s x ho Try.underlying30 3 (by decide) size_act ao L.length cap hs (rc trc L) hc k (List.getElem?_eq_some_iff.1 ht).1 hx fun b off _ hcell => ?_
  obtain ⟨h0, h1, h2⟩ := tr_cells (ao := ao) (cap := cap) hcell ht
  exact h b (off + k * 3) h0 h1 h2
end
theorem add_right {L N : List Tr} {a e : Int} (h : addS L a = (N, e)) : N.length ≤ 300 := by
  unfold addS at h
  split at h
  · split at h
    · split at h
      · rename_i h3
        have := (rightT_true h3).1
        obtain ⟨rfl, _⟩ := Prod.mk.inj h
        omega
      · obtain ⟨rfl, _⟩ := Prod.mk.inj h; simp
    · obtain ⟨rfl, _⟩ := Prod.mk.inj h; simp
  · obtain ⟨rfl, _⟩ := Prod.mk.inj h; simp
theorem days_right {L N : List Tr} {r n x e : Int} (h : daysS L r n = (N, x, e)) (hl : L.length ≤ 300) : N.length ≤ 300 := by
  unfold daysS at h
  split at h
  · split at h
    · split at h
      · split at h
        · obtain ⟨rfl, _⟩ := Prod.mk.inj h; rw [days_len]; exact hl
        · obtain ⟨rfl, _⟩ := Prod.mk.inj h; simp
      · obtain ⟨rfl, _⟩ := Prod.mk.inj h; simp
    · obtain ⟨rfl, _⟩ := Prod.mk.inj h; simp
  · obtain ⟨rfl, _⟩ := Prod.mk.inj h; simp
theorem rep_right {L N : List Tr} {a x e : Int} (h : repS L a = (N, x, e)) (hl : L.length ≤ 300) : N.length ≤ 300 := by
  unfold repS at h
  split at h
  · split at h
    · obtain ⟨rfl, _⟩ := Prod.mk.inj h; rw [rep_len]; exact hl
    · obtain ⟨rfl, _⟩ := Prod.mk.inj h; simp
  · obtain ⟨rfl, _⟩ := Prod.mk.inj h; simp
set_option maxRecDepth 8000 in
set_option maxHeartbeats 4000000 in
theorem runs_core (w : World) (ao : Option Addr) (cap : Nat) (L : List Tr) (bo : Option Addr) (dap : Nat) (A : List Tr) (h : SlT w ao cap L) (hA : SlT w bo dap A) (hl : L.length ≤ 300) (hal : A.length ≤ 20) :
    Calls Try.prog 4 #[.slice ao L.length cap, .slice bo A.length dap] w fun e w' => e = .returned (.bool true) ∧ Below w.heap.size w w' := by
  have g1 : decide ((300 : Int) < L.length) = false := by simp; omega
  have g2 : decide ((20 : Int) < A.length) = false := by simp; omega
  have HV := Lib.hid (fun W => talive_any W)
  have HL := Lib.hid h
  have HA := Lib.hid hA
  clear h hA
  go_enter Try.func4, Try.ntmps4
  go_wp2_with fail
  refine (HV.out _).mono ?_
  rintro e w1 ⟨rfl, hb1⟩
  have HO := Lib.hid (ownT_empty w1)
  have HB0 := Lib.hid (hb1.alloc hb1.size (.cells #[] 56))
  have HL0 := Lib.hid (HL.out.keeps (HB0.out.mono (Nat.le_refl _)))
  have hz1 := hb1.size
  clear hb1 HV
  go_wp2_with (refine ap_tr rfl (.tmp 28) (.tmp 29) rfl w1.heap.size _ rfl [] HO.out ao cap L rfl HL0.out (by simp; omega) (by simp) ?_; intro v2 w2 ho2 hg2 hf2; have HB2 := Lib.hid (below_grown HO.out hg2 hz1 (by have := HB0.out.size; omega) HB0.out); have HO1 := Lib.hid (own_down ho2 hz1); clear ho2 hg2 hf2)
  obtain ⟨ao2, cap2, rfl, hs2, _⟩ := Rk.own (show OwT w2 w.heap.size v2 L from HO1.out)
  have HS2 := Lib.hid hs2
  clear HO HB0 HL0 hs2 HO1 g1 g2
  go_loopw [5, 6, 33] (fun d v i wr => ∃ (k : Nat) (W : List Tr) (x : Int) (ao3 : Option Addr) (cap3 : Nat), k ≤ A.length ∧ i = .int .i64 k ∧ d = .int .i64 x ∧ 0 ≤ x ∧ x ≤ 400 * k ∧ W.length ≤ 300 ∧ v = .slice ao3 W.length cap3 ∧ Hid (SlT wr ao3 cap3 W) ∧ Below w.heap.size w wr) (fun _ _ i _ => A.length - (intOf i).toNat)
  case atStart => exact ⟨0, L, 0, ao2, cap2, by omega, rfl, rfl, by omega, by omega, hl, rfl, HS2, HB2.out⟩
  case round =>
    obtain ⟨k, W, x, ao3, cap3, hk, rfl, rfl, x0, x1, hWl, rfl, HW, hb⟩ := hrel
    by_cases hkl : k < A.length
    · obtain ⟨⟨kd, n, am⟩, ht⟩ : ∃ t, A[k]? = some t := ⟨_, List.getElem?_eq_getElem hkl⟩
      have HT := Lib.hid ht
      clear ht
      have hw := HA.out.keeps (hb.mono (Nat.le_refl _))
      have hz := hb.size
      have hb3 := (below_new2 wr (.cells #[.int .i64 kd, .int .i64 n, .int .i64 am] 32) (.cells #[] 56))
      have ho3 := ownT_empty (wr.alloc (.cells #[.int .i64 kd, .int .i64 n, .int .i64 am] 32))
      rw [show (wr.alloc (.cells #[.int .i64 kd, .int .i64 n, .int .i64 am] 32)).heap.size = wr.heap.size + 1 from by simp] at ho3
      have HO3 := Lib.hid ho3
      have HB3 := Lib.hid hb3
      have HW3 := Lib.hid (HW.out.keeps hb3)
      have HX3 := Lib.hid ((Blk.new wr 32 [.int .i64 kd, .int .i64 n, .int .i64 am]).alloc (.cells #[] 56))
      clear hb3 ho3
      have hs3 : wr.heap.size + 1 ≤ ((wr.alloc (.cells #[.int .i64 kd, .int .i64 n, .int .i64 am] 32)).alloc (.cells #[] 56)).heap.size := by simp
      have HZ3 := Lib.hid hs3
      clear hs3
      go_upto_region 11 with (first | (refine ix_act rfl _ _ rfl bo dap A hw rfl k (kd, n, am) HT.out rfl ?_; intro b off c0 c1 c2) | (refine ap_tr rfl (.tmp 37) (.tmp 38) rfl (wr.heap.size + 1) _ rfl [] HO3.out ao3 cap3 W rfl HW3.out (by simp; omega) HZ3.out ?_; intro v4 w4 ho4 hg4 hf4; have HX4 := Lib.hid (HX3.out.grown (show World.grownBy _ w4 (some (wr.heap.size + 1)) from hg4) (by simp)); have HB4 := Lib.hid (below_grown (B := wr.heap.size) (w0 := wr) HO3.out hg4 (Nat.le_succ _) (Nat.le_refl _) HB3.out); obtain ⟨ao4, cap4, e4, hs4, _⟩ := Rk.own (show OwT w4 (wr.heap.size + 1) v4 W from ho4); subst e4; have HS4 := Lib.hid (show SlT w4 ao4 cap4 W from hs4); clear ho4 hg4 hf4 hs4))
      have HW4 := Lib.hid (HW.out.keeps HB4.out)
      have HB5 := Lib.hid (below_on hb hz HB4.out)
      clear HO3 HB3 HW3 HX3 HZ3 HW hb hw
      have z0 := HX4.out.cell 0 _ rfl
      have z1 := HX4.out.cell 1 _ rfl
      have z2 := HX4.out.cell 2 _ rfl
      by_cases h0 : kd = 0
      · subst h0
        obtain ⟨S, hS⟩ : ∃ S, addS W am = S := ⟨_, rfl⟩
        obtain ⟨N, E⟩ := S
        have HP := Lib.hid (tadd_any w4 ao4 cap4 W am _ hS HS4.out (by omega))
        have HQ := Lib.hid (fun U (hb : Below w4.heap.size w4 U) => rtadd_any U ao3 cap3 W am _ hS (HW4.out.keeps hb))
        have hNl : N.length ≤ 300 := add_right hS
        clear hS
        go_wp2_with fail
        refine HP.out.mono ?_
        rintro e w5 ⟨v5, rfl, ho5, k5⟩
        obtain ⟨aoq, capq, rfl, hs5, _⟩ := Rk.own ho5
        have HX5 := Lib.hid (HX4.out.keeps k5)
        have HQ5 := Lib.hid (HQ.out _ k5)
        have HSQ := Lib.hid (HS4.out.keeps k5)
        have HWQ := Lib.hid (HW4.out.keeps k5)
        have HBQ := Lib.hid (below_on HB5.out HB5.out.size k5)
        have HSN := Lib.hid hs5
        clear ho5 k5 hs5 HX4 HP HQ HS4 HW4 HB5 z0 z1 z2
        have z1 := HX5.out.cell 1 _ rfl
        have z2 := HX5.out.cell 2 _ rfl
        go_wp2_with fail
        refine HQ5.out.mono ?_
        rintro e wq ⟨v6, rfl, ho6, k6⟩
        obtain ⟨bq, dq, rfl, hs6, _⟩ := Rk.own ho6
        have HSQ := Lib.hid (HSQ.out.keeps k6)
        have HWQ := Lib.hid (HWQ.out.keeps k6)
        have HBQ := Lib.hid (below_on HBQ.out HBQ.out.size k6)
        have HSN := Lib.hid (HSN.out.keeps k6)
        have HSM0 := Lib.hid hs6
        clear ho6 k6 hs6 HX5 HQ5 z1 z2
        have HSM := Lib.hid (tsame_any wq aoq capq N bq dq N HSN.out HSM0.out true (by simp) (by omega))
        have HSO := Lib.hid (fun U (hb : Below wq.heap.size wq U) => tsame_any U ao4 cap4 W ao3 cap3 W (HSQ.out.keeps hb) (HWQ.out.keeps hb) true (by simp) (by omega))
        obtain ⟨vR, hvR⟩ : ∃ v, rightT W = v := ⟨_, rfl⟩
        have HR1 := Lib.hid (fun U (hb : Below wq.heap.size wq U) => tright_any U ao3 cap3 W (HWQ.out.keeps hb) vR hvR)
        have HR2 := Lib.hid (fun U (hb : Below wq.heap.size wq U) => trright_any U ao3 cap3 W (HWQ.out.keeps hb) vR hvR)
        have HNE := Lib.hid (fun U (hb : Below wq.heap.size wq U) => (HSM0.out.keeps hb))
        have HWE := Lib.hid (fun U (hb : Below wq.heap.size wq U) => (HWQ.out.keeps hb))
        clear hvR HSN HSM0 HSQ HWQ
        go_wp2_with fail
        refine HSM.out.mono ?_
        rintro e u1 ⟨rfl, k1⟩
        have K1 := Lib.hid k1
        clear k1 HSM
        go_wp2_with fail
        refine (HSO.out _ K1.out).mono ?_
        rintro e u2 ⟨rfl, k2⟩
        have K2 := Lib.hid (below_on K1.out K1.out.size k2)
        clear k2 HSO K1
        go_wp2_with fail
        refine (HR1.out _ K2.out).mono ?_
        rintro e u3 ⟨rfl, k3⟩
        have K3 := Lib.hid (below_on K2.out K2.out.size k3)
        clear k3 HR1 K2
        go_wp2_with fail
        refine (HR2.out _ K3.out).mono ?_
        rintro e u4 ⟨rfl, k4⟩
        have K4 := Lib.hid (below_on K3.out K3.out.size k4)
        clear k4 HR2 K3
        by_cases hE : E = 0
        · subst hE
          have HU := Lib.hid (HNE.out u4 K4.out)
          have HBU := Lib.hid (below_on HBQ.out HBQ.out.size K4.out)
          clear HNE HWE K4
          cases hR : rightT N with
          | false =>
            have HR := Lib.hid (trright_any u4 bq dq N HU.out false hR)
            clear hR
            go_wp2_with fail
            refine HR.out.mono ?_
            rintro e u5 ⟨rfl, k5⟩
            have HB6 := Lib.hid (below_on HBU.out HBU.out.size k5)
            have HU6 := Lib.hid (HU.out.keeps k5)
            clear k5 HR HU HBU
            go_wp2
            go_roundw
            · exact ⟨k + 1, N, _, bq, dq, by omega, by go_num, rfl, by omega, by omega, by omega, rfl, HU6, HB6.out⟩
            · simp [intOf]; omega
          | true =>
            have HR := Lib.hid (trright_any u4 bq dq N HU.out true hR)
            have hall := (rightT_true hR).2.1
            have HS := Lib.hid (fun U (hb : Below u4.heap.size u4 U) => sums_any U bq dq N (HU.out.keeps hb) hall (by omega))
            have HOW := Lib.hid (fun U (hb : Below u4.heap.size u4 U) => owed_any U bq dq N (HU.out.keeps hb) hall (by omega))
            clear hR hall
            go_wp2_with fail
            refine HR.out.mono ?_
            rintro e u5 ⟨rfl, k5⟩
            have K5 := Lib.hid k5
            clear k5 HR
            go_wp2_with fail
            refine (HS.out _ K5.out).mono ?_
            rintro e u6 ⟨rfl, k6⟩
            have K6 := Lib.hid (below_on K5.out K5.out.size k6)
            clear k6 HS K5
            go_wp2_with fail
            refine (HOW.out _ K6.out).mono ?_
            rintro e u7 ⟨rfl, k7⟩
            have K7 := Lib.hid (below_on K6.out K6.out.size k7)
            have HB6 := Lib.hid (below_on HBU.out HBU.out.size K7.out)
            have HU6 := Lib.hid (HU.out.keeps K7.out)
            clear k7 HOW K6 K7 HU HBU
            go_wp2
            go_roundw
            · exact ⟨k + 1, N, _, bq, dq, by omega, by go_num, rfl, by omega, by omega, by omega, rfl, HU6, HB6.out⟩
            · simp [intOf]; omega
        · have hEb : (E == 0) = false := by simpa using hE
          have HU := Lib.hid (HWE.out u4 K4.out)
          have HBU := Lib.hid (below_on HBQ.out HBQ.out.size K4.out)
          clear HNE HWE K4
          cases hR : rightT W with
          | false =>
            have HR := Lib.hid (trright_any u4 ao3 cap3 W HU.out false hR)
            clear hR
            go_wp2_with fail
            refine HR.out.mono ?_
            rintro e u5 ⟨rfl, k5⟩
            have HB6 := Lib.hid (below_on HBU.out HBU.out.size k5)
            have HU6 := Lib.hid (HU.out.keeps k5)
            clear k5 HR HU HBU
            go_wp2
            go_roundw
            · exact ⟨k + 1, W, _, ao3, cap3, by omega, by go_num, rfl, by omega, by omega, by omega, rfl, HU6, HB6.out⟩
            · simp [intOf]; omega
          | true =>
            have HR := Lib.hid (trright_any u4 ao3 cap3 W HU.out true hR)
            have hall := (rightT_true hR).2.1
            have HS := Lib.hid (fun U (hb : Below u4.heap.size u4 U) => sums_any U ao3 cap3 W (HU.out.keeps hb) hall (by omega))
            have HOW := Lib.hid (fun U (hb : Below u4.heap.size u4 U) => owed_any U ao3 cap3 W (HU.out.keeps hb) hall (by omega))
            clear hR hall
            go_wp2_with fail
            refine HR.out.mono ?_
            rintro e u5 ⟨rfl, k5⟩
            have K5 := Lib.hid k5
            clear k5 HR
            go_wp2_with fail
            refine (HS.out _ K5.out).mono ?_
            rintro e u6 ⟨rfl, k6⟩
            have K6 := Lib.hid (below_on K5.out K5.out.size k6)
            clear k6 HS K5
            go_wp2_with fail
            refine (HOW.out _ K6.out).mono ?_
            rintro e u7 ⟨rfl, k7⟩
            have K7 := Lib.hid (below_on K6.out K6.out.size k7)
            have HB6 := Lib.hid (below_on HBU.out HBU.out.size K7.out)
            have HU6 := Lib.hid (HU.out.keeps K7.out)
            clear k7 HOW K6 K7 HU HBU
            go_wp2
            go_roundw
            · exact ⟨k + 1, W, _, ao3, cap3, by omega, by go_num, rfl, by omega, by omega, by omega, rfl, HU6, HB6.out⟩
            · simp [intOf]; omega
      by_cases h1 : kd = 1
      · subst h1
        have y0 : 0 ≤ max 0 (min n 400) := by omega
        have y1 : max 0 (min n 400) ≤ 400 := by omega
        obtain ⟨y, hy⟩ : ∃ y, max 0 (min n 400) = y := ⟨_, rfl⟩
        rw [hy] at y0 y1
        have kA : (k : Int) < 20 := by omega
        have d0 : 0 ≤ x + y := by omega
        have d1 : x + y ≤ 8000 := by omega
        obtain ⟨D, hD⟩ : ∃ D, x + y = D := ⟨_, rfl⟩
        rw [hD] at d0 d1
        have p0 : 0 ≤ D * (W.length : Int) := Int.mul_nonneg d0 (by omega)
        have p1 : D * (W.length : Int) ≤ 2400000 := by
          have a1 : D * (W.length : Int) ≤ D * 300 := Int.mul_le_mul_of_nonneg_left (by omega) d0
          omega
        obtain ⟨P, hP⟩ : ∃ P, D * (W.length : Int) = P := ⟨_, rfl⟩
        rw [hP] at p0 p1
        have hD2 : D ≤ 400 * ((k : Int) + 1) := by omega
        by_cases hPL : 3000 < P
        · go_wp2
          go_ret
          exact ⟨rfl, HB5.out⟩
        have hPf : decide (3000 < P) = false := by simpa using hPL
        have HPP := Lib.hid hP
        have HDD := Lib.hid hD
        have HYY := Lib.hid hy
        go_upto_region 22 with (fail)
        clear hP hD hy p0 p1 hPL hPf
        obtain ⟨S, hS⟩ : ∃ S, daysS W am n = S := ⟨_, rfl⟩
        obtain ⟨N, X, E⟩ := S
        have HP := Lib.hid (days_any w4 ao4 cap4 W am n _ hS HS4.out)
        have HQ := Lib.hid (fun U (hb : Below w4.heap.size w4 U) => rtdays_any U ao3 cap3 W am n _ hS (HW4.out.keeps hb))
        have hNl : N.length ≤ 300 := days_right hS hWl
        clear hS
        go_wp2_with fail
        refine HP.out.mono ?_
        rintro e w5 ⟨v5, rfl, ho5, k5⟩
        obtain ⟨aoq, capq, rfl, hs5, _⟩ := Rk.own ho5
        have HX5 := Lib.hid (HX4.out.keeps k5)
        have HQ5 := Lib.hid (HQ.out _ k5)
        have HSQ := Lib.hid (HS4.out.keeps k5)
        have HWQ := Lib.hid (HW4.out.keeps k5)
        have HBQ := Lib.hid (below_on HB5.out HB5.out.size k5)
        have HSN := Lib.hid hs5
        clear ho5 k5 hs5 HX4 HP HQ HS4 HW4 HB5 z0 z1 z2
        have z1 := HX5.out.cell 1 _ rfl
        have z2 := HX5.out.cell 2 _ rfl
        go_wp2_with fail
        refine HQ5.out.mono ?_
        rintro e wq ⟨v6, rfl, ho6, k6⟩
        obtain ⟨bq, dq, rfl, hs6, _⟩ := Rk.own ho6
        have HSQ := Lib.hid (HSQ.out.keeps k6)
        have HWQ := Lib.hid (HWQ.out.keeps k6)
        have HBQ := Lib.hid (below_on HBQ.out HBQ.out.size k6)
        have HSN := Lib.hid (HSN.out.keeps k6)
        have HSM0 := Lib.hid hs6
        clear ho6 k6 hs6 HX5 HQ5 z1 z2
        have HSM := Lib.hid (tsame_any wq aoq capq N bq dq N HSN.out HSM0.out true (by simp) (by omega))
        have HSO := Lib.hid (fun U (hb : Below wq.heap.size wq U) => tsame_any U ao4 cap4 W ao3 cap3 W (HSQ.out.keeps hb) (HWQ.out.keeps hb) true (by simp) (by omega))
        obtain ⟨vR, hvR⟩ : ∃ v, rightT W = v := ⟨_, rfl⟩
        have HR1 := Lib.hid (fun U (hb : Below wq.heap.size wq U) => tright_any U ao3 cap3 W (HWQ.out.keeps hb) vR hvR)
        have HR2 := Lib.hid (fun U (hb : Below wq.heap.size wq U) => trright_any U ao3 cap3 W (HWQ.out.keeps hb) vR hvR)
        have HNE := Lib.hid (fun U (hb : Below wq.heap.size wq U) => (HSM0.out.keeps hb))
        have HWE := Lib.hid (fun U (hb : Below wq.heap.size wq U) => (HWQ.out.keeps hb))
        clear hvR HSN HSM0 HSQ HWQ
        go_wp2_with fail
        refine HSM.out.mono ?_
        rintro e u1 ⟨rfl, k1⟩
        have K1 := Lib.hid k1
        clear k1 HSM
        go_wp2_with fail
        refine (HSO.out _ K1.out).mono ?_
        rintro e u2 ⟨rfl, k2⟩
        have K2 := Lib.hid (below_on K1.out K1.out.size k2)
        clear k2 HSO K1
        go_wp2_with fail
        refine (HR1.out _ K2.out).mono ?_
        rintro e u3 ⟨rfl, k3⟩
        have K3 := Lib.hid (below_on K2.out K2.out.size k3)
        clear k3 HR1 K2
        go_wp2_with fail
        refine (HR2.out _ K3.out).mono ?_
        rintro e u4 ⟨rfl, k4⟩
        have K4 := Lib.hid (below_on K3.out K3.out.size k4)
        clear k4 HR2 K3
        by_cases hE : E = 0
        · subst hE
          have HU := Lib.hid (HNE.out u4 K4.out)
          have HBU := Lib.hid (below_on HBQ.out HBQ.out.size K4.out)
          clear HNE HWE K4
          cases hR : rightT N with
          | false =>
            have HR := Lib.hid (trright_any u4 bq dq N HU.out false hR)
            clear hR
            go_wp2_with fail
            refine HR.out.mono ?_
            rintro e u5 ⟨rfl, k5⟩
            have HB6 := Lib.hid (below_on HBU.out HBU.out.size k5)
            have HU6 := Lib.hid (HU.out.keeps k5)
            clear k5 HR HU HBU
            go_wp2
            go_roundw
            · exact ⟨k + 1, N, _, bq, dq, by omega, by go_num, rfl, by omega, by omega, by omega, rfl, HU6, HB6.out⟩
            · simp [intOf]; omega
          | true =>
            have HR := Lib.hid (trright_any u4 bq dq N HU.out true hR)
            have hall := (rightT_true hR).2.1
            have HS := Lib.hid (fun U (hb : Below u4.heap.size u4 U) => sums_any U bq dq N (HU.out.keeps hb) hall (by omega))
            have HOW := Lib.hid (fun U (hb : Below u4.heap.size u4 U) => owed_any U bq dq N (HU.out.keeps hb) hall (by omega))
            clear hR hall
            go_wp2_with fail
            refine HR.out.mono ?_
            rintro e u5 ⟨rfl, k5⟩
            have K5 := Lib.hid k5
            clear k5 HR
            go_wp2_with fail
            refine (HS.out _ K5.out).mono ?_
            rintro e u6 ⟨rfl, k6⟩
            have K6 := Lib.hid (below_on K5.out K5.out.size k6)
            clear k6 HS K5
            go_wp2_with fail
            refine (HOW.out _ K6.out).mono ?_
            rintro e u7 ⟨rfl, k7⟩
            have K7 := Lib.hid (below_on K6.out K6.out.size k7)
            have HB6 := Lib.hid (below_on HBU.out HBU.out.size K7.out)
            have HU6 := Lib.hid (HU.out.keeps K7.out)
            clear k7 HOW K6 K7 HU HBU
            go_wp2
            go_roundw
            · exact ⟨k + 1, N, _, bq, dq, by omega, by go_num, rfl, by omega, by omega, by omega, rfl, HU6, HB6.out⟩
            · simp [intOf]; omega
        · have hEb : (E == 0) = false := by simpa using hE
          have HU := Lib.hid (HWE.out u4 K4.out)
          have HBU := Lib.hid (below_on HBQ.out HBQ.out.size K4.out)
          clear HNE HWE K4
          cases hR : rightT W with
          | false =>
            have HR := Lib.hid (trright_any u4 ao3 cap3 W HU.out false hR)
            clear hR
            go_wp2_with fail
            refine HR.out.mono ?_
            rintro e u5 ⟨rfl, k5⟩
            have HB6 := Lib.hid (below_on HBU.out HBU.out.size k5)
            have HU6 := Lib.hid (HU.out.keeps k5)
            clear k5 HR HU HBU
            go_wp2
            go_roundw
            · exact ⟨k + 1, W, _, ao3, cap3, by omega, by go_num, rfl, by omega, by omega, by omega, rfl, HU6, HB6.out⟩
            · simp [intOf]; omega
          | true =>
            have HR := Lib.hid (trright_any u4 ao3 cap3 W HU.out true hR)
            have hall := (rightT_true hR).2.1
            have HS := Lib.hid (fun U (hb : Below u4.heap.size u4 U) => sums_any U ao3 cap3 W (HU.out.keeps hb) hall (by omega))
            have HOW := Lib.hid (fun U (hb : Below u4.heap.size u4 U) => owed_any U ao3 cap3 W (HU.out.keeps hb) hall (by omega))
            clear hR hall
            go_wp2_with fail
            refine HR.out.mono ?_
            rintro e u5 ⟨rfl, k5⟩
            have K5 := Lib.hid k5
            clear k5 HR
            go_wp2_with fail
            refine (HS.out _ K5.out).mono ?_
            rintro e u6 ⟨rfl, k6⟩
            have K6 := Lib.hid (below_on K5.out K5.out.size k6)
            clear k6 HS K5
            go_wp2_with fail
            refine (HOW.out _ K6.out).mono ?_
            rintro e u7 ⟨rfl, k7⟩
            have K7 := Lib.hid (below_on K6.out K6.out.size k7)
            have HB6 := Lib.hid (below_on HBU.out HBU.out.size K7.out)
            have HU6 := Lib.hid (HU.out.keeps K7.out)
            clear k7 HOW K6 K7 HU HBU
            go_wp2
            go_roundw
            · exact ⟨k + 1, W, _, ao3, cap3, by omega, by go_num, rfl, by omega, by omega, by omega, rfl, HU6, HB6.out⟩
            · simp [intOf]; omega
      by_cases h2 : kd = 2
      · subst h2
        obtain ⟨S, hS⟩ : ∃ S, repS W am = S := ⟨_, rfl⟩
        obtain ⟨N, X, E⟩ := S
        have HP := Lib.hid (repay_any w4 ao4 cap4 W am _ hS HS4.out)
        have HQ := Lib.hid (fun U (hb : Below w4.heap.size w4 U) => rtrepay_any U ao3 cap3 W am _ hS (HW4.out.keeps hb))
        have hNl : N.length ≤ 300 := rep_right hS hWl
        clear hS
        go_wp2_with fail
        refine HP.out.mono ?_
        rintro e w5 ⟨v5, rfl, ho5, k5⟩
        obtain ⟨aoq, capq, rfl, hs5, _⟩ := Rk.own ho5
        have HX5 := Lib.hid (HX4.out.keeps k5)
        have HQ5 := Lib.hid (HQ.out _ k5)
        have HSQ := Lib.hid (HS4.out.keeps k5)
        have HWQ := Lib.hid (HW4.out.keeps k5)
        have HBQ := Lib.hid (below_on HB5.out HB5.out.size k5)
        have HSN := Lib.hid hs5
        clear ho5 k5 hs5 HX4 HP HQ HS4 HW4 HB5 z0 z1 z2
        have z1 := HX5.out.cell 1 _ rfl
        have z2 := HX5.out.cell 2 _ rfl
        go_wp2_with fail
        refine HQ5.out.mono ?_
        rintro e wq ⟨v6, rfl, ho6, k6⟩
        obtain ⟨bq, dq, rfl, hs6, _⟩ := Rk.own ho6
        have HSQ := Lib.hid (HSQ.out.keeps k6)
        have HWQ := Lib.hid (HWQ.out.keeps k6)
        have HBQ := Lib.hid (below_on HBQ.out HBQ.out.size k6)
        have HSN := Lib.hid (HSN.out.keeps k6)
        have HSM0 := Lib.hid hs6
        clear ho6 k6 hs6 HX5 HQ5 z1 z2
        have HSM := Lib.hid (tsame_any wq aoq capq N bq dq N HSN.out HSM0.out true (by simp) (by omega))
        have HSO := Lib.hid (fun U (hb : Below wq.heap.size wq U) => tsame_any U ao4 cap4 W ao3 cap3 W (HSQ.out.keeps hb) (HWQ.out.keeps hb) true (by simp) (by omega))
        obtain ⟨vR, hvR⟩ : ∃ v, rightT W = v := ⟨_, rfl⟩
        have HR1 := Lib.hid (fun U (hb : Below wq.heap.size wq U) => tright_any U ao3 cap3 W (HWQ.out.keeps hb) vR hvR)
        have HR2 := Lib.hid (fun U (hb : Below wq.heap.size wq U) => trright_any U ao3 cap3 W (HWQ.out.keeps hb) vR hvR)
        have HNE := Lib.hid (fun U (hb : Below wq.heap.size wq U) => (HSM0.out.keeps hb))
        have HWE := Lib.hid (fun U (hb : Below wq.heap.size wq U) => (HWQ.out.keeps hb))
        clear hvR HSN HSM0 HSQ HWQ
        go_wp2_with fail
        refine HSM.out.mono ?_
        rintro e u1 ⟨rfl, k1⟩
        have K1 := Lib.hid k1
        clear k1 HSM
        go_wp2_with fail
        refine (HSO.out _ K1.out).mono ?_
        rintro e u2 ⟨rfl, k2⟩
        have K2 := Lib.hid (below_on K1.out K1.out.size k2)
        clear k2 HSO K1
        go_wp2_with fail
        refine (HR1.out _ K2.out).mono ?_
        rintro e u3 ⟨rfl, k3⟩
        have K3 := Lib.hid (below_on K2.out K2.out.size k3)
        clear k3 HR1 K2
        go_wp2_with fail
        refine (HR2.out _ K3.out).mono ?_
        rintro e u4 ⟨rfl, k4⟩
        have K4 := Lib.hid (below_on K3.out K3.out.size k4)
        clear k4 HR2 K3
        by_cases hE : E = 0
        · subst hE
          have HU := Lib.hid (HNE.out u4 K4.out)
          have HBU := Lib.hid (below_on HBQ.out HBQ.out.size K4.out)
          clear HNE HWE K4
          cases hR : rightT N with
          | false =>
            have HR := Lib.hid (trright_any u4 bq dq N HU.out false hR)
            clear hR
            go_wp2_with fail
            refine HR.out.mono ?_
            rintro e u5 ⟨rfl, k5⟩
            have HB6 := Lib.hid (below_on HBU.out HBU.out.size k5)
            have HU6 := Lib.hid (HU.out.keeps k5)
            clear k5 HR HU HBU
            go_wp2
            go_roundw
            · exact ⟨k + 1, N, _, bq, dq, by omega, by go_num, rfl, by omega, by omega, by omega, rfl, HU6, HB6.out⟩
            · simp [intOf]; omega
          | true =>
            have HR := Lib.hid (trright_any u4 bq dq N HU.out true hR)
            have hall := (rightT_true hR).2.1
            have HS := Lib.hid (fun U (hb : Below u4.heap.size u4 U) => sums_any U bq dq N (HU.out.keeps hb) hall (by omega))
            have HOW := Lib.hid (fun U (hb : Below u4.heap.size u4 U) => owed_any U bq dq N (HU.out.keeps hb) hall (by omega))
            clear hR hall
            go_wp2_with fail
            refine HR.out.mono ?_
            rintro e u5 ⟨rfl, k5⟩
            have K5 := Lib.hid k5
            clear k5 HR
            go_wp2_with fail
            refine (HS.out _ K5.out).mono ?_
            rintro e u6 ⟨rfl, k6⟩
            have K6 := Lib.hid (below_on K5.out K5.out.size k6)
            clear k6 HS K5
            go_wp2_with fail
            refine (HOW.out _ K6.out).mono ?_
            rintro e u7 ⟨rfl, k7⟩
            have K7 := Lib.hid (below_on K6.out K6.out.size k7)
            have HB6 := Lib.hid (below_on HBU.out HBU.out.size K7.out)
            have HU6 := Lib.hid (HU.out.keeps K7.out)
            clear k7 HOW K6 K7 HU HBU
            go_wp2
            go_roundw
            · exact ⟨k + 1, N, _, bq, dq, by omega, by go_num, rfl, by omega, by omega, by omega, rfl, HU6, HB6.out⟩
            · simp [intOf]; omega
        · have hEb : (E == 0) = false := by simpa using hE
          have HU := Lib.hid (HWE.out u4 K4.out)
          have HBU := Lib.hid (below_on HBQ.out HBQ.out.size K4.out)
          clear HNE HWE K4
          cases hR : rightT W with
          | false =>
            have HR := Lib.hid (trright_any u4 ao3 cap3 W HU.out false hR)
            clear hR
            go_wp2_with fail
            refine HR.out.mono ?_
            rintro e u5 ⟨rfl, k5⟩
            have HB6 := Lib.hid (below_on HBU.out HBU.out.size k5)
            have HU6 := Lib.hid (HU.out.keeps k5)
            clear k5 HR HU HBU
            go_wp2
            go_roundw
            · exact ⟨k + 1, W, _, ao3, cap3, by omega, by go_num, rfl, by omega, by omega, by omega, rfl, HU6, HB6.out⟩
            · simp [intOf]; omega
          | true =>
            have HR := Lib.hid (trright_any u4 ao3 cap3 W HU.out true hR)
            have hall := (rightT_true hR).2.1
            have HS := Lib.hid (fun U (hb : Below u4.heap.size u4 U) => sums_any U ao3 cap3 W (HU.out.keeps hb) hall (by omega))
            have HOW := Lib.hid (fun U (hb : Below u4.heap.size u4 U) => owed_any U ao3 cap3 W (HU.out.keeps hb) hall (by omega))
            clear hR hall
            go_wp2_with fail
            refine HR.out.mono ?_
            rintro e u5 ⟨rfl, k5⟩
            have K5 := Lib.hid k5
            clear k5 HR
            go_wp2_with fail
            refine (HS.out _ K5.out).mono ?_
            rintro e u6 ⟨rfl, k6⟩
            have K6 := Lib.hid (below_on K5.out K5.out.size k6)
            clear k6 HS K5
            go_wp2_with fail
            refine (HOW.out _ K6.out).mono ?_
            rintro e u7 ⟨rfl, k7⟩
            have K7 := Lib.hid (below_on K6.out K6.out.size k7)
            have HB6 := Lib.hid (below_on HBU.out HBU.out.size K7.out)
            have HU6 := Lib.hid (HU.out.keeps K7.out)
            clear k7 HOW K6 K7 HU HBU
            go_wp2
            go_roundw
            · exact ⟨k + 1, W, _, ao3, cap3, by omega, by go_num, rfl, by omega, by omega, by omega, rfl, HU6, HB6.out⟩
            · simp [intOf]; omega
      have HSM := Lib.hid (tsame_any w4 ao4 cap4 W ao3 cap3 W HS4.out HW4.out true (by simp) (by omega))
      have HSO := Lib.hid (fun U (hb : Below w4.heap.size w4 U) => tsame_any U ao4 cap4 W ao3 cap3 W (HS4.out.keeps hb) (HW4.out.keeps hb) true (by simp) (by omega))
      obtain ⟨vR, hvR⟩ : ∃ v, rightT W = v := ⟨_, rfl⟩
      have HR1 := Lib.hid (fun U (hb : Below w4.heap.size w4 U) => tright_any U ao3 cap3 W (HW4.out.keeps hb) vR hvR)
      have HR2 := Lib.hid (fun U (hb : Below w4.heap.size w4 U) => trright_any U ao3 cap3 W (HW4.out.keeps hb) vR hvR)
      have HNE := Lib.hid (fun U (hb : Below w4.heap.size w4 U) => (HW4.out.keeps hb))
      have HWE := Lib.hid (fun U (hb : Below w4.heap.size w4 U) => (HW4.out.keeps hb))
      clear hvR HS4 HW4
      go_wp2_with fail
      refine HSM.out.mono ?_
      rintro e u1 ⟨rfl, k1⟩
      have K1 := Lib.hid k1
      clear k1 HSM
      go_wp2_with fail
      refine (HSO.out _ K1.out).mono ?_
      rintro e u2 ⟨rfl, k2⟩
      have K2 := Lib.hid (below_on K1.out K1.out.size k2)
      clear k2 HSO K1
      go_wp2_with fail
      refine (HR1.out _ K2.out).mono ?_
      rintro e u3 ⟨rfl, k3⟩
      have K3 := Lib.hid (below_on K2.out K2.out.size k3)
      clear k3 HR1 K2
      go_wp2_with fail
      refine (HR2.out _ K3.out).mono ?_
      rintro e u4 ⟨rfl, k4⟩
      have K4 := Lib.hid (below_on K3.out K3.out.size k4)
      clear k4 HR2 K3
      have hNl := hWl
      have HU := Lib.hid (HNE.out u4 K4.out)
      have HBU := Lib.hid (below_on HB5.out HB5.out.size K4.out)
      clear HNE HWE K4
      cases hR : rightT W with
      | false =>
      have HR := Lib.hid (trright_any u4 ao3 cap3 W HU.out false hR)
      clear hR
      go_wp2_with fail
      refine HR.out.mono ?_
      rintro e u5 ⟨rfl, k5⟩
      have HB6 := Lib.hid (below_on HBU.out HBU.out.size k5)
      have HU6 := Lib.hid (HU.out.keeps k5)
      clear k5 HR HU HBU
      go_wp2
      go_roundw
      · exact ⟨k + 1, W, _, ao3, cap3, by omega, by go_num, rfl, by omega, by omega, by omega, rfl, HU6, HB6.out⟩
      · simp [intOf]; omega
      | true =>
      have HR := Lib.hid (trright_any u4 ao3 cap3 W HU.out true hR)
      have hall := (rightT_true hR).2.1
      have HS := Lib.hid (fun U (hb : Below u4.heap.size u4 U) => sums_any U ao3 cap3 W (HU.out.keeps hb) hall (by omega))
      have HOW := Lib.hid (fun U (hb : Below u4.heap.size u4 U) => owed_any U ao3 cap3 W (HU.out.keeps hb) hall (by omega))
      clear hR hall
      go_wp2_with fail
      refine HR.out.mono ?_
      rintro e u5 ⟨rfl, k5⟩
      have K5 := Lib.hid k5
      clear k5 HR
      go_wp2_with fail
      refine (HS.out _ K5.out).mono ?_
      rintro e u6 ⟨rfl, k6⟩
      have K6 := Lib.hid (below_on K5.out K5.out.size k6)
      clear k6 HS K5
      go_wp2_with fail
      refine (HOW.out _ K6.out).mono ?_
      rintro e u7 ⟨rfl, k7⟩
      have K7 := Lib.hid (below_on K6.out K6.out.size k7)
      have HB6 := Lib.hid (below_on HBU.out HBU.out.size K7.out)
      have HU6 := Lib.hid (HU.out.keeps K7.out)
      clear k7 HOW K6 K7 HU HBU
      go_wp2
      go_roundw
      · exact ⟨k + 1, W, _, ao3, cap3, by omega, by go_num, rfl, by omega, by omega, by omega, rfl, HU6, HB6.out⟩
      · simp [intOf]; omega
    · obtain rfl : k = A.length := by omega
      go_wp2
      go_ret
      exact ⟨rfl, hb⟩
set_option maxRecDepth 8000 in
set_option maxHeartbeats 1600000 in
theorem runs_law (ao : Option Addr) (cap : Nat) (L : List Tr) (bo : Option Addr) (dap : Nat) (A : List Tr) (w : World) (h : SlT w ao cap L) (hA : SlT w bo dap A) :
    Calls Try.prog 4 #[.slice ao L.length cap, .slice bo A.length dap] w fun e w' => e = .returned (.bool true) ∧ Below w.heap.size w w' := by
  by_cases hg : L.length ≤ 300 ∧ A.length ≤ 20
  · exact runs_core w ao cap L bo dap A h hA hg.1 hg.2
  · have HV := Lib.hid (fun W => talive_any W)
    have h1 := h.room
    have h2 := hA.room
    have hg2 : 300 < L.length ∨ (L.length ≤ 300 ∧ 20 < A.length) := by omega
    clear hg h hA
    rcases hg2 with g1 | ⟨g1, g2⟩
    all_goals
      go_enter Try.func4, Try.ntmps4
      go_wp2_with fail
      refine (HV.out _).mono ?_
      rintro e w1 ⟨rfl, hb1⟩
      go_wp2
      go_ret
      exact ⟨rfl, hb1⟩
end Go.Proofs.Ythcimllkcaknhaa
