/-
  The walk of the law TrancheExact.
-/
import Derived.Test.YthcimllkcaknhaaRefOne
import Derived.Test.YthcimllkcaknhaaTrAlive
set_option linter.unusedVariables false
set_option linter.unusedSimpArgs false
namespace Go.Proofs.Ythcimllkcaknhaa
open Go.RowKit Dg

theorem size_act (w : World) : (sizeOf 32).run Try.prog w = .ok 3 w := by
  obtain ⟨i, hi, _, hs, _⟩ := info_parts (show (Try.prog.info? 32).map (fun i => (i.zero, i.size, i.bytes)) = some (some (.agg #[.int .i64 0, .int .i64 0, .int .i64 0]), 3, 24) by kernel_rfl)
  simp [sizeOf, typeInfo, hi, hs]
section
variable {ops : Array Oper} {rest : List Oper} {o : Oper} {a : Act} {w : World} {Q : Exit → Act → World → Prop}
theorem ix_act (hw : Region.wanted o (yielded ops a.tmps) = true) (s x : Operand) (ho : o.op = .indexAddr 30 s x) (ao : Option Addr) (cap : Nat) (L : List Tr) (hc : SlT w ao cap L) (hs : a.eval s = .slice ao L.length cap) (k : Nat) (t : Tr) (ht : L[k]? = some t) (hx : a.eval x = .int .i64 k)
    (h : ∀ b off, w.cell? ⟨b, off, none⟩ = some (.int .i64 t.1) → w.cell? ⟨b, off + 1, none⟩ = some (.int .i64 t.2.1) → w.cell? ⟨b, off + 2, none⟩ = some (.int .i64 t.2.2) → wpList Try.prog ops Q rest (a.put o.dst (.pointer (some ⟨b, off, none⟩))) w) : wpList Try.prog ops Q (o :: rest) a w := by
  refine wpList_ix_rec hw 30 32 s x ho Try.underlying30 3 (by decide) size_act ao L.length cap hs (rc trc L) hc k (List.getElem?_eq_some_iff.1 ht).1 hx fun b off _ hcell => ?_
  obtain ⟨h0, h1, h2⟩ := tr_cells (ao := ao) (cap := cap) hcell ht
  exact h b (off + k * 3) h0 h1 h2
end
/-- One tranche's own slice. -/
theorem own_one {w : World} {B : Nat} {v : Value} {t : Tr} (h : OwT w B v [t]) : ∃ b off cap, v = .slice (some ⟨b, off, none⟩) 1 cap ∧ B ≤ b ∧ b < w.heap.size ∧ SlT w (some ⟨b, off, none⟩) cap [t] := by
  obtain ⟨ao, cap, rfl, hs, hb⟩ := Rk.own h
  obtain ⟨b, off, e, hc⟩ := hs.cells (by simp [rc, trc])
  subst e
  exact ⟨b, off, cap, rfl, (hb b rfl).1, (hb b rfl).2, hs⟩
theorem cell_otherCells {b g : Nat} (hn : b ≠ g) (vs : List Value) (o : Nat) (w : World) (j : Nat) : (w.setCells g o vs).cell? ⟨b, j, none⟩ = w.cell? ⟨b, j, none⟩ := by
  unfold World.cell?
  rw [heap_setCells_other g b vs o w hn]
theorem Rk.otherCells {w : World} {S b off n cap C} (h : Rk w S (some ⟨b, off, none⟩) n cap C) {g : Nat} (hn : b ≠ g) (vs : List Value) (o : Nat) : Rk (w.setCells g o vs) S (some ⟨b, off, none⟩) n cap C :=
  ⟨h.len, h.room, h.nil, fun hne => by
    obtain ⟨b', off', e, hc⟩ := h.cells hne
    obtain ⟨rfl, rfl, _⟩ : b = b' ∧ off = off' ∧ True := by simpa using e
    exact ⟨b, off, rfl, fun j u hu => by rw [cell_otherCells hn]; exact hc j u hu⟩⟩
/-- One tranche, some days. -/
theorem right_one (t : Tr) (h : okT t = true) : rightT [t] = true := by
  have := okT_true h
  simp [rightT, owedT, h]
  omega
theorem days_one (b r p x : Int) (x0 : 0 ≤ x) (x1 : x ≤ 10000) (h : okT (b, r, p) = true) (n : Nat) (hp : p + 60000000000 * n ≤ 18014398509481984) :
    ∃ R P, daysK x n [(b, r, p)] = [(b, R, P)] ∧ P * 3600000 + R = p * 3600000 + r + n * (b * x) ∧ okT (b, R, P) = true ∧ P ≤ p + 60000000000 * n ∧ okDays x n [(b, r, p)] = true := by
  induction n with
  | zero => exact ⟨r, p, rfl, by simp, h, by simp, rfl⟩
  | succ n ih =>
    obtain ⟨R, P, e, e1, h1, h2, h3⟩ := ih (by omega)
    obtain ⟨⟨b0, b1⟩, ⟨r0, r1⟩, ⟨p0, p1⟩⟩ := okT_true h1
    have hx := rate_in b0 b1 x0 x1
    simp only at b0 b1 r0 r1 p0 p1
    have hmul : ((n + 1 : Nat) : Int) * (b * x) = n * (b * x) + b * x := by rw [Int.natCast_add, Int.add_mul]; simp
    rw [hmul]
    generalize (n : Int) * (b * x) = M at *
    generalize hy : b * x = y at *
    have hk : okT (b, (R + y) % 3600000, P + (R + y) / 3600000) = true := by
      simp only [okT, Bool.and_eq_true, decide_eq_true_eq]
      omega
    refine ⟨(R + y) % 3600000, P + (R + y) / 3600000, ?_, by omega, hk, by omega, ?_⟩
    · rw [daysK, e]; simp [dayL, dayT, hy]
    · rw [okDays, h3, daysK, e]
      have : dayL x [(b, R, P)] = [(b, (R + y) % 3600000, P + (R + y) / 3600000)] := by simp [dayL, dayT, hy]
      rw [this, right_one _ hk]; rfl
theorem days_oneS (b r p x : Int) (x0 : 0 ≤ x) (x1 : x ≤ 10000) (h : okT (b, r, p) = true) (n : Nat) (hn : n ≤ 366) (hp : p + 60000000000 * n ≤ 18014398509481984) :
    ∃ R P y, daysS [(b, r, p)] x n = ([(b, R, P)], y, 0) ∧ P * 3600000 + R = p * 3600000 + r + n * (b * x) ∧ okT (b, R, P) = true ∧ P ≤ p + 60000000000 * n := by
  obtain ⟨R, P, e, e1, h1, h2, h3⟩ := days_one b r p x x0 x1 h n hp
  refine ⟨R, P, postT [(b, R, P)] - postT [(b, r, p)], ?_, e1, h1, h2⟩
  unfold daysS
  rw [if_pos (right_one _ h), if_pos ⟨x0, x1⟩, if_pos ⟨by omega, by omega⟩, Int.toNat_natCast, if_pos h3, e]
theorem rep_oneS (b r p a : Int) (h : okT (b, r, p) = true) : (0 ≤ a ∧ a ≤ 20000000000000 ∧ repS [(b, r, p)] a = ([(b - min a b, r, p)], a - min a b, 0) ∧ okT (b - min a b, r, p) = true) ∨ repS [(b, r, p)] a = ([], 0, 142) := by
  unfold repS
  rw [if_pos (right_one _ h)]
  by_cases ha : 0 ≤ a ∧ a ≤ 20000000000000
  · rw [if_pos ha]
    have := okT_true h
    refine .inl ⟨ha.1, ha.2, by simp [repL, repA], ?_⟩
    simp only at this
    simp only [okT, Bool.and_eq_true, decide_eq_true_eq]
    omega
  · rw [if_neg ha]
    exact .inr rfl
theorem add_oneS (a : Int) (h0 : 1 ≤ a) (h1 : a ≤ 20000000000000) : addS [] a = ([(a, 0, 0)], 0) ∧ okT (a, 0, 0) = true := by
  have h : okT (a, 0, 0) = true := by
    simp only [okT, Bool.and_eq_true, decide_eq_true_eq]
    omega
  refine ⟨?_, h⟩
  unfold addS
  rw [if_pos (by rfl), if_pos ⟨h0, h1⟩, List.nil_append, if_pos (right_one _ h)]
set_option maxRecDepth 8000 in
set_option maxHeartbeats 4000000 in
theorem exact_core (w : World) (amt : Int) (h0 : 1 ≤ amt) (h1 : amt ≤ 20000000000000) (bo : Option Addr) (dap : Nat) (A : List Tr) (hA : SlT w bo dap A) (hal : A.length ≤ 40) :
    Calls Try.prog 5 #[.int .i64 amt, .slice bo A.length dap] w fun e w' => e = .returned (.bool true) ∧ Below w.heap.size w w' := by
  have g1 : decide ((40 : Int) < A.length) = false := by simp; omega
  have HV := Lib.hid (fun W => talive_any W)
  have HA := Lib.hid hA
  obtain ⟨eA, okA⟩ := add_oneS amt h0 h1
  have HAdd := Lib.hid (fun W => tadd_any W none 0 [] amt _ eA (Rk.of_nil W 3) (by simp))
  clear hA eA
  go_enter Try.func5, Try.ntmps5
  go_wp2_with fail
  refine (HV.out _).mono ?_
  rintro e w1 ⟨rfl, hb1⟩
  have B1 := Lib.hid hb1
  clear hb1 HV
  go_wp2_with fail
  refine (HAdd.out _).mono ?_
  rintro e w2 ⟨v2, rfl, ho2, hb2⟩
  have B2 := Lib.hid (below_on B1.out B1.out.size hb2)
  obtain ⟨b2, off2, cap2, rfl, _, hbb2, hs2⟩ := own_one ho2
  have HS2 := Lib.hid (hs2.alloc (.cells (nl 0).toArray 47))
  have HG2 := Lib.hid (Blk.new w2 47 (nl 0))
  have HB2 := Lib.hid (B2.out.alloc B2.out.size (.cells (nl 0).toArray 47))
  have GW : Hid (w.heap.size ≤ w2.heap.size) := B2.out.size
  clear hb2 ho2 hs2 HAdd B1
  go_wp2
  go_loopw [5, 8, 48] (fun v b i wr => ∃ (k : Nat) (bal r p : Int) (lb lo cap : Nat), k ≤ A.length ∧ i = .int .i64 k ∧ b = .int .i64 bal ∧ v = .slice (some ⟨lb, lo, none⟩) 1 cap ∧ Hid (okT (bal, r, p) = true) ∧ Hid (p ≤ 21960000000000 * k) ∧ Hid (lb ≠ w2.heap.size) ∧ Hid (SlT wr (some ⟨lb, lo, none⟩) cap [(bal, r, p)]) ∧ Hid (Blk wr w2.heap.size 47 (nl (p * 3600000 + r))) ∧ Hid (Below w.heap.size w wr)) (fun _ _ i _ => A.length - (intOf i).toNat)
  case atStart => exact ⟨0, amt, 0, 0, b2, off2, cap2, by omega, rfl, rfl, rfl, okA, by show _ ≤ _; simp, Nat.ne_of_lt hbb2, HS2.out, HG2.out, HB2.out⟩
  case round =>
    obtain ⟨k, bal, r, p, lb, lo, cap, hk, rfl, rfl, rfl, OK, HP, HNE, HS, HG, HB⟩ := hrel
    by_cases hkl : k < A.length
    · obtain ⟨⟨kd, n, am⟩, ht⟩ : ∃ t, A[k]? = some t := ⟨_, List.getElem?_eq_getElem hkl⟩
      have HT := Lib.hid ht
      clear ht
      have hw := HA.out.keeps (HB.out.mono (Nat.le_refl _))
      have HX := Lib.hid (Blk.new wr 32 [.int .i64 kd, .int .i64 n, .int .i64 am])
      have HSa := Lib.hid (HS.out.alloc (.cells #[.int .i64 kd, .int .i64 n, .int .i64 am] 32))
      have HGa := Lib.hid (HG.out.alloc (.cells #[.int .i64 kd, .int .i64 n, .int .i64 am] 32))
      have HBa := Lib.hid (HB.out.alloc HB.out.size (.cells #[.int .i64 kd, .int .i64 n, .int .i64 am] 32))
      have HLg : Hid (w2.heap.size < wr.heap.size) := HG.out.lt
      have HEND : ∀ (p' : Int), Hid (p' ≤ 21960000000000 * k) → Hid (p' ≤ 21960000000000 * (k + 1 : Nat)) := fun p' h => by have := h.out; show _ ≤ _; omega
      clear HS HG HB
      by_cases k1 : kd = 1
      · subst k1
        by_cases hbad : am < 0 ∨ (0 ≤ am ∧ 10000 < am) ∨ (0 ≤ am ∧ am ≤ 10000 ∧ n < 0) ∨ (0 ≤ am ∧ am ≤ 10000 ∧ 0 ≤ n ∧ 366 < n)
        · rcases hbad with q1 | ⟨q1, q2⟩ | ⟨q1, q2, q3⟩ | ⟨q1, q2, q3, q4⟩
          all_goals
            go_wp2_with (refine ix_act rfl _ _ rfl bo dap A hw rfl k (1, n, am) HT.out rfl ?_; intro b off c0 c1 c2)
            go_roundw
            · exact ⟨k + 1, bal, r, p, lb, lo, cap, by omega, by go_num, rfl, rfl, OK, HEND _ HP, HNE, HSa, HGa, HBa⟩
            · simp [intOf]; omega
        · have q1 : 0 ≤ am := by omega
          have q2 : am ≤ 10000 := by omega
          have q3 : 0 ≤ n := by omega
          have q4 : n ≤ 366 := by omega
          clear hbad
          obtain ⟨N, rfl⟩ := Int.eq_ofNat_of_zero_le q3
          obtain ⟨R, P, y, eS, e1, okN, hPn⟩ := days_oneS bal r p am q1 q2 OK.out N (by omega) (by have := HP.out; omega)
          have HD := Lib.hid (days_any _ _ _ _ am N _ eS HSa.out)
          have OKN := Lib.hid okN
          have EN : Hid (P * 3600000 + R = p * 3600000 + r + N * (bal * am)) := e1
          have HPN : Hid (P ≤ 21960000000000 * (k + 1 : Nat)) := by have := HP.out; show _ ≤ _; omega
          have hbm := (okT_true OK.out).1
          simp only at hbm
          obtain ⟨hbm0, hbm1⟩ := hbm
          have hE0 : 0 ≤ p * 3600000 + r := by have := okT_true OK.out; simp only at this; omega
          have hE1 : p * 3600000 + r ≤ 100000000000000000000000 := by have := okT_true OK.out; simp only at this; omega
          have hx := rate_in hbm0 hbm1 q1 q2
          have HE : Hid ((0 ≤ p * 3600000 + r ∧ p * 3600000 + r ≤ 100000000000000000000000) ∧ 0 ≤ bal * am ∧ bal * am ≤ 200000000000000000) := ⟨⟨hE0, hE1⟩, hx⟩
          obtain ⟨E0, hE⟩ : ∃ x, p * 3600000 + r = x := ⟨_, rfl⟩
          rw [hE] at EN HE HGa
          clear eS e1 okN hPn hE0 hE1 hx hE HP OK HNE HEND
          go_wp2_with (refine ix_act rfl _ _ rfl bo dap A hw rfl k (1, N, am) HT.out rfl ?_; intro b off c0 c1 c2)
          refine HD.out.mono ?_
          rintro e w5 ⟨v5, rfl, ho5, k5⟩
          obtain ⟨b5, off5, cap5, rfl, hb5, hl5, hs5⟩ := own_one ho5
          have HX5 := Lib.hid (HX.out.keeps k5)
          have HG5 := Lib.hid (HGa.out.keeps k5)
          have HB5 := Lib.hid (below_on HBa.out HBa.out.size k5)
          have HS5 := Lib.hid hs5
          have HN5 : Hid (b5 ≠ w2.heap.size) := by have := HGa.out.lt; show _ ≠ _; omega
          have HAC : Hid (wr.heap.size ≠ w2.heap.size) := by have := HLg.out; show _ ≠ _; omega
          obtain ⟨ac, hac⟩ : ∃ x, wr.heap.size = x := ⟨_, rfl⟩
          rw [hac] at HX5 HAC
          clear HD ho5 k5 hb5 hl5 hs5 HX HGa HBa HSa HLg hw c0 c1 c2
          simp only [hac]
          clear hac
          have z0 := HX5.out.cell 0 _ rfl
          have z1 := HX5.out.cell 1 _ rfl
          have z2 := HX5.out.cell 2 _ rfl
          go_wp2
          clear z0 z1 z2
          go_loopw [14] (fun jv wq => ∃ (j : Nat), j ≤ N ∧ jv = .int .i64 j ∧ Hid (Blk wq w2.heap.size 47 (nl (E0 + j * (bal * am)))) ∧ Hid (Blk wq ac 32 [.int .i64 1, .int .i64 N, .int .i64 am]) ∧ Hid (SlT wq (some ⟨b5, off5, none⟩) cap5 [(bal, R, P)]) ∧ Hid (Below w.heap.size w wq)) (fun jv _ => N - (intOf jv).toNat)
          case atStart => exact ⟨0, by omega, rfl, by show Blk _ _ _ _; have := HG5.out; simpa using this, HX5.out, HS5.out, HB5.out⟩
          case round =>
            obtain ⟨j, hj, rfl, HGq, HXq, HSq, HBq⟩ := hrel
            have z1 := HXq.out.cell 1 _ rfl
            by_cases hjN : j < N
            · have hM : ((j + 1 : Nat) : Int) * (bal * am) = j * (bal * am) + bal * am := by rw [Int.natCast_add, Int.add_mul]; simp
              have hb0 : 0 ≤ (j : Int) * (bal * am) := Int.mul_nonneg (by omega) HE.out.2.1
              have hb1 : (j : Int) * (bal * am) ≤ j * 200000000000000000 := Int.mul_le_mul_of_nonneg_left HE.out.2.2 (by omega)
              have hEE := HE.out
              have HPl := Lib.hid (fun W => plus_any (E0 + j * (bal * am)) (bal * am) (by rw [absI_pos (by omega), absI_pos (by omega)]; unfold TOP; omega) W)
              have HT := Lib.hid (fun W => times_any bal am (by omega) (by omega) (by omega) (by omega) W)
              rw [show E0 + j * (bal * am) + bal * am = E0 + ((j + 1 : Nat) : Int) * (bal * am) from by rw [hM]; omega] at HPl
              obtain ⟨mx, Dx, lx, ex, ex2⟩ := N_opaque (E0 + j * (bal * am))
              obtain ⟨ma, Da, la, ea, _⟩ := N_opaque (bal * am)
              obtain ⟨ms, Ds, ls, es, es2⟩ := N_opaque (E0 + ((j + 1 : Nat) : Int) * (bal * am))
              rw [ex, ea, es] at HPl
              rw [ea] at HT
              rw [ex2] at HGq
              have LX := Lib.hid lx; have LS := Lib.hid ls; have ES := Lib.hid es2
              clear lx la ls ex ex2 ea es es2 hM hb0 hb1 hEE
              go_wp2_with fail
              refine region_tail (by kernel_rfl) (by kernel_rfl) [some 93, some 94, some 95, some 96, some 97, some 98, none] (by kernel_rfl) 6 (by decide) (by kernel_rfl) [] (by decide) w.heap.size w HBq.out (Nat.le_refl _) (fun i v WW => match i with | 0 => v = .agg (ns mx Dx) | 1 => v = .int .i64 bal | 2 => v = .pointer (some ⟨ac, 2, none⟩) | 3 => v = .int .i64 am | 4 => v = .agg (ns ma Da) | 5 => v = .agg (ns ms Ds) | _ => True) ?_ ?_ (fun t V W W1 => match t with | 0 => W1 = W | 1 => W1 = W.setCells w2.heap.size 0 (nu ms Ds) | _ => False) (fun _ _ => rfl) (fun _ _ _ h => h) ?_ ?_ ?_ ?_
              · intro i v WW WX h hbx
                rcases i with _ | _ | _ | _ | _ | _ | i
                · exact h
                · exact h
                · exact h
                · exact h
                · exact h
                · exact h
                · trivial
              · intro i v WW g hi h e
                simp at hi
              · intro t V V' W W' h hz
                rcases t with _ | _ | t
                · exact hz
                · exact hz
                · exact hz
              · intro iI oO V AC WW hiN ho hf hbw K hK
                rcases iI with _ | _ | _ | _ | _ | _ | iI
                · obtain rfl := Option.some.inj (show some _ = some oO from ho)
                  rw [if_pos (by rfl)]
                  have hK2 := fun v W' h1 h2 => hK v W' h1 h2 (fun hd => by simp at hd)
                  have q7 : AC.tmps.getD 7 undef = .pointer (some ⟨w2.heap.size, 0, none⟩) := hf.rest 7 (by kernel_rfl)
                  have hk := HGq.out.keeps hbw
                  exact wp_load_mid _ _ rfl w2.heap.size 0 q7 (nu mx Dx) _ hk.range Try.underlying47 rfl (by rw [nu_len, LX.out]; exact info_num) (hK2 _ _ (Below.refl _ _) rfl)
                · obtain rfl := Option.some.inj (show some _ = some oO from ho)
                  rw [if_pos (by rfl)]
                  have hK2 := fun v W' h1 h2 => hK v W' h1 h2 (fun hd => by simp at hd)
                  have q8 : AC.tmps.getD 8 undef = .int .i64 bal := hf.rest 8 (by kernel_rfl)
                  go_simp
                  exact hK2 _ _ (Below.refl _ _) rfl
                · obtain rfl := Option.some.inj (show some _ = some oO from ho)
                  rw [if_pos (by rfl)]
                  have hK2 := fun v W' h1 h2 => hK v W' h1 h2 (fun hd => by simp at hd)
                  have q10 : AC.tmps.getD 10 undef = .pointer (some ⟨ac, 0, none⟩) := hf.rest 10 (by kernel_rfl)
                  go_simp
                  exact hK2 _ _ (Below.refl _ _) rfl
                · obtain rfl := Option.some.inj (show some _ = some oO from ho)
                  rw [if_pos (by rfl)]
                  have hK2 := fun v W' h1 h2 => hK v W' h1 h2 (fun hd => by simp at hd)
                  have q95 : AC.tmps.getD 95 undef = .pointer (some ⟨ac, 2, none⟩) := ((hf.dep ⟨2, .data⟩ (by simp) rfl).2 95 rfl).trans (hf.dep ⟨2, .data⟩ (by simp) rfl).1
                  have hk := HXq.out.keeps hbw
                  have z2 := hk.cell 2 _ rfl
                  go_simp
                  exact hK2 _ _ (Below.refl _ _) rfl
                · obtain rfl := Option.some.inj (show some _ = some oO from ho)
                  rw [if_pos (by rfl)]
                  have hK2 := fun v W' h1 h2 => hK v W' h1 h2 (fun hd => by simp at hd)
                  have q94 : AC.tmps.getD 94 undef = .int .i64 bal := ((hf.dep ⟨1, .data⟩ (by simp) rfl).2 94 rfl).trans (hf.dep ⟨1, .data⟩ (by simp) rfl).1
                  have q96 : AC.tmps.getD 96 undef = .int .i64 am := ((hf.dep ⟨3, .data⟩ (by simp) rfl).2 96 rfl).trans (hf.dep ⟨3, .data⟩ (by simp) rfl).1
                  go_simp
                  refine (HT.out WW).mono ?_
                  rintro e w6 ⟨rfl, hb6⟩
                  exact hK2 _ _ hb6 rfl
                · obtain rfl := Option.some.inj (show some _ = some oO from ho)
                  rw [if_pos (by rfl)]
                  have hK2 := fun v W' h1 h2 => hK v W' h1 h2 (fun hd => by simp at hd)
                  have q93 : AC.tmps.getD 93 undef = .agg (ns mx Dx) := ((hf.dep ⟨0, .data⟩ (by simp) rfl).2 93 rfl).trans (hf.dep ⟨0, .data⟩ (by simp) rfl).1
                  have q97 : AC.tmps.getD 97 undef = .agg (ns ma Da) := ((hf.dep ⟨4, .data⟩ (by simp) rfl).2 97 rfl).trans (hf.dep ⟨4, .data⟩ (by simp) rfl).1
                  go_simp
                  refine (HPl.out WW).mono ?_
                  rintro e w6 ⟨rfl, hb6⟩
                  exact hK2 _ _ hb6 rfl
                · omega
              · intro jJ oO V AC WW W1 ho hf hbw hall hap hz K hK
                have hlt : jJ < 1 := by have := (Array.getElem?_eq_some_iff.1 ho).1; simp at this; omega
                rcases jJ with _ | jJ
                · obtain rfl := Option.some.inj (show some _ = some oO from ho)
                  rw [if_pos (by rfl)]
                  replace hz : W1 = WW := hz
                  have q7 : AC.tmps.getD 7 undef = .pointer (some ⟨w2.heap.size, 0, none⟩) := hf.rest 7 (by kernel_rfl)
                  have q98 : AC.tmps.getD 98 undef = .agg (ns ms Ds) := (hf.dep ⟨5, .data⟩ (by simp) rfl 98 rfl).trans (hall 5 (by decide))
                  subst hz
                  have hk := (HGq.out.keeps hbw).thereMid 0 11 (by rw [nu_len, LX.out]; decide)
                  refine wp_store_mid _ _ _ rfl w2.heap.size 0 (ns ms Ds) q7 q98 (by rw [ns_size, LS.out]; exact hk) (by rw [ns_size, LS.out]; exact info_num) (ns_all _ _) (hK _ _ rfl)
                · omega
              · intro V WW W1 hall hap hbw hBW hz
                replace hz : W1 = WW.setCells w2.heap.size 0 (nu ms Ds) := hz
                have vv0 : V 0 = .agg (ns mx Dx) := hall 0 (by decide)
                have vv1 : V 1 = .int .i64 bal := hall 1 (by decide)
                have vv2 : V 2 = .pointer (some ⟨ac, 2, none⟩) := hall 2 (by decide)
                have vv3 : V 3 = .int .i64 am := hall 3 (by decide)
                have vv4 : V 4 = .agg (ns ma Da) := hall 4 (by decide)
                have vv5 : V 5 = .agg (ns ms Ds) := hall 5 (by decide)
                clear hall
                simp only [pairsOf, laid, Nat.zero_add, Nat.reduceAdd, vv0, vv1, vv2, vv3, vv4, vv5, List.setIfInBounds_toArray, List.set_cons_zero, List.set_cons_succ]
                clear vv0 vv1 vv2 vv3 vv4 vv5
                have hX := HXq.out.keeps hbw; have hS := HSq.out.keeps hbw; have hG := HGq.out.keeps hbw
                have HXn : Hid (Blk W1 ac 32 [.int .i64 1, .int .i64 N, .int .i64 am]) := by show Blk _ _ _ _; rw [hz]; exact hX.otherCells _ _ HAC.out
                have HSn : Hid (SlT W1 (some ⟨b5, off5, none⟩) cap5 [(bal, R, P)]) := by show SlT _ _ _ _; rw [hz]; exact hS.otherCells HN5.out _ _
                have HGn : Hid (Blk W1 w2.heap.size 47 (nl (E0 + ((j + 1 : Nat) : Int) * (bal * am)))) := by show Blk _ _ _ _; rw [hz, ES.out]; exact hG.setAll _ (by rw [nu_len, nu_len, LX.out, LS.out])
                have HBn : Hid (Below w.heap.size w W1) := by show Below _ _ _; rw [hz]; exact below_setCells _ _ hBW GW.out
                clear hz hX hS hG hbw hBW hap z1
                go_wp2
                go_roundw
                · exact ⟨j + 1, by omega, by go_num, HGn, HXn, HSn, HBn⟩
                · simp [intOf]; omega
            · obtain rfl : j = N := by omega
              go_wp2
              go_roundw
              · exact ⟨k + 1, bal, R, P, b5, off5, cap5, by omega, by go_num, rfl, rfl, OKN, HPN, HN5, HSq, by show Blk _ _ _ _; rw [EN.out]; exact HGq.out, HBq⟩
              · simp [intOf]; omega
      · by_cases k2 : kd = 2
        · subst k2
          rcases rep_oneS bal r p am OK.out with ⟨q1, q2, eS, okN⟩ | eS
          · obtain ⟨m, hm⟩ : ∃ m, min am bal = m := ⟨_, rfl⟩
            have hbm := (okT_true OK.out).1
            simp only at hbm
            obtain ⟨hbm0, hbm1⟩ := hbm
            have m0 : 0 ≤ m := by omega
            have m1 : m ≤ am := by omega
            have m2 : m ≤ bal := by omega
            rw [hm] at eS okN
            have HD := Lib.hid (repay_any _ _ _ _ am _ eS HSa.out)
            have OKN := Lib.hid okN
            clear eS okN hm
            go_wp2_with (refine ix_act rfl _ _ rfl bo dap A hw rfl k (2, n, am) HT.out rfl ?_; intro b off c0 c1 c2)
            refine HD.out.mono ?_
            rintro e w5 ⟨v5, rfl, ho5, k5⟩
            obtain ⟨b5, off5, cap5, rfl, hb5, hl5, hs5⟩ := own_one ho5
            have HX5 := Lib.hid (HX.out.keeps k5)
            have HG5 := Lib.hid (HGa.out.keeps k5)
            have HB5 := Lib.hid (below_on HBa.out HBa.out.size k5)
            have HS5 := Lib.hid hs5
            have HN5 : Hid (b5 ≠ w2.heap.size) := by have := HGa.out.lt; show _ ≠ _; omega
            clear HD ho5 k5 hb5 hl5 hs5 HX HGa HBa HSa HLg hw c0 c1 c2
            have z2 := HX5.out.cell 2 _ rfl
            go_wp2
            go_roundw
            · exact ⟨k + 1, bal - m, r, p, b5, off5, cap5, by omega, by go_num, by congr 1; omega, rfl, OKN, HEND _ HP, HN5, HS5, HG5, HB5⟩
            · simp [intOf]; omega
          · have HD := Lib.hid (repay_any _ _ _ _ am _ eS HSa.out)
            clear eS
            go_wp2_with (refine ix_act rfl _ _ rfl bo dap A hw rfl k (2, n, am) HT.out rfl ?_; intro b off c0 c1 c2)
            refine HD.out.mono ?_
            rintro e w5 ⟨v5, rfl, ho5, k5⟩
            have HG5 := Lib.hid (HGa.out.keeps k5)
            have HB5 := Lib.hid (below_on HBa.out HBa.out.size k5)
            have HS5 := Lib.hid (HSa.out.keeps k5)
            clear HD ho5 k5 HX HGa HBa HSa HLg hw c0 c1 c2
            go_wp2
            go_roundw
            · exact ⟨k + 1, bal, r, p, lb, lo, cap, by omega, by go_num, rfl, rfl, OK, HEND _ HP, HNE, HS5, HG5, HB5⟩
            · simp [intOf]; omega
        · go_wp2_with (refine ix_act rfl _ _ rfl bo dap A hw rfl k (kd, n, am) HT.out rfl ?_; intro b off c0 c1 c2)
          go_roundw
          · exact ⟨k + 1, bal, r, p, lb, lo, cap, by omega, by go_num, rfl, rfl, OK, HEND _ HP, HNE, HSa, HGa, HBa⟩
          · simp [intOf]; omega
    · obtain rfl : k = A.length := by omega
      have hok := okT_true OK.out
      simp only at hok
      obtain ⟨⟨b0, b1⟩, ⟨r0, r1⟩, ⟨p0, p1⟩⟩ := hok
      have e1 : (p * 3600000 + r) / 3600000 = p := by omega
      have e2 : (p * 3600000 + r) % 3600000 = r := by omega
      have hD := fun W => divide_any (p * 3600000 + r) 3600000 (by omega) (by omega) (by decide) (by decide) W
      rw [e1, e2] at hD
      have hO := fun W => of_any 3600000 (by decide) (by decide) W
      rw [N_pos (show (0 : Int) ≤ 3600000 by decide)] at hO
      have hQ := fun W => cut_any p (by rw [absI_pos p0]; omega) W
      rw [N_pos p0, cutI_in (by omega) (by omega)] at hQ
      have hR := fun W => cut_any r (by rw [absI_pos r0]; omega) W
      rw [N_pos r0, cutI_in (by omega) (by omega)] at hR
      have hPo := fun (U : World) (h : SlT U (some ⟨lb, lo, none⟩) cap [(bal, r, p)]) => posted_any U _ cap _ h (by simp [OK.out]) (by simp)
      rw [show postT [(bal, r, p)] = p from by simp [postT]] at hPo
      rw [nl_pos (show 0 ≤ p * 3600000 + r by omega)] at HG
      obtain ⟨b', off', el, hc⟩ := HS.out.cells (by simp [rc, trc])
      have hlb : lb < wr.heap.size := by
        have h1 := cell_lt (hc 0 _ rfl)
        obtain ⟨rfl, _⟩ : lb = b' ∧ True := by simpa using congrArg (fun x => x.map Addr.block) el
        exact h1
      clear el hc
      have LN := Lib.hid (len10 (p * 3600000 + r)); have LC := Lib.hid (len10 3600000); have LQ := Lib.hid (len10 p); have LR := Lib.hid (len10 r)
      obtain ⟨Dn, hDn⟩ : ∃ D, dg 10 (p * 3600000 + r) = D := ⟨_, rfl⟩
      obtain ⟨Dc, hDc⟩ : ∃ D, dg 10 3600000 = D := ⟨_, rfl⟩
      obtain ⟨Dq, hDq⟩ : ∃ D, dg 10 p = D := ⟨_, rfl⟩
      obtain ⟨Dr, hDr⟩ : ∃ D, dg 10 r = D := ⟨_, rfl⟩
      rw [hDn] at hD LN HG; rw [hDc] at hD hO LC; rw [hDq] at hD hQ LQ; rw [hDr] at hD hR LR
      have HK3 := Lib.hid hO; have HD := Lib.hid hD; have HQ := Lib.hid hQ; have HR := Lib.hid hR; have HPo := Lib.hid hPo
      have HLb : Hid (lb < wr.heap.size) := hlb
      have HWr : Hid (w.heap.size ≤ wr.heap.size) := HB.out.size
      have hfd := fun w => field_ns false w Dc LC.out
      clear hO hD hQ hR hPo hDn hDc hDq hDr hlb e1 e2 b0 b1 r0 r1 p0 p1 OK HP
      go_wp2_with fail
      refine region_tailF (by kernel_rfl) (by kernel_rfl) [some 120, some 121, some 122, some 123, some 124, some 119, some 125, some 126, some 18, some 19, none, none] (by kernel_rfl) 10 (by decide) [7] (by kernel_rfl) (by decide) [8, 9] (by decide) w.heap.size w HB.out (Nat.le_refl _) (fun i v WW => match i with | 0 => v = .pointer (some ⟨w2.heap.size, 1, none⟩) | 1 => v = .agg (ds Dn) | 2 => v = .agg (ns false Dc) | 3 => v = .agg (ds Dc) | 4 => v = .tuple #[.agg (ds Dq), .agg (ds Dr)] | 5 => v = .tuple #[.agg (ds Dq), .agg (ds Dr)] | 6 => v = .agg (ds Dq) | 7 => v = .agg (ds Dr) | 8 => ∃ g, v = .pointer (some ⟨g, 0, none⟩) ∧ wr.heap.size ≤ g ∧ Blk WW g 45 (du z10) | 9 => ∃ g, v = .pointer (some ⟨g, 0, none⟩) ∧ wr.heap.size ≤ g ∧ Blk WW g 45 (du z10) | _ => True) ?_ ?_ (fun t V W W1 => match t with | 0 => W1 = W | 1 => W1 = stc (V 8) (du Dq) W | 2 => W1 = stc (V 9) (du Dr) (stc (V 8) (du Dq) W) | _ => False) (fun _ _ => rfl) (fun _ _ _ h => h) ?_ ?_ ?_ ?_ ?_
      · intro i v WW WX h hbx
        rcases i with _ | _ | _ | _ | _ | _ | _ | _ | _ | _ | i
        · exact h
        · exact h
        · exact h
        · exact h
        · exact h
        · exact h
        · exact h
        · exact h
        · obtain ⟨g, e, h1, h2⟩ := h; exact ⟨g, e, h1, h2.keeps hbx⟩
        · obtain ⟨g, e, h1, h2⟩ := h; exact ⟨g, e, h1, h2.keeps hbx⟩
        · trivial
      · intro i v WW g hi h e
        have hi2 : i = 8 ∨ i = 9 := by simpa using hi
        rcases hi2 with rfl | rfl
        · obtain ⟨g0, e0, _, hb0⟩ := h
          have eg : g = g0 := by rw [e] at e0; simpa using e0
          rw [eg]; exact hb0.lt
        · obtain ⟨g0, e0, _, hb0⟩ := h
          have eg : g = g0 := by rw [e] at e0; simpa using e0
          rw [eg]; exact hb0.lt
      · intro t V V' W W' h hz
        rcases t with _ | _ | _ | t
        · exact hz
        · (show _ = stc (V' 8) _ _; rw [← h 8 (by decide) (by decide)]; exact hz)
        · (show _ = stc (V' 9) _ (stc (V' 8) _ _); rw [← h 8 (by decide) (by decide), ← h 9 (by decide) (by decide)]; exact hz)
        · exact hz
      · intro iI oO V AC WW hiN hFI ho hf hbw K hK
        rcases iI with _ | _ | _ | _ | _ | _ | _ | _ | _ | _ | iI
        · obtain rfl := Option.some.inj (show some _ = some oO from ho)
          rw [if_pos (by rfl)]
          have hK2 := fun v W' h1 h2 => hK v W' h1 h2 (fun hd => by simp at hd)
          have q7 : AC.tmps.getD 7 undef = .pointer (some ⟨w2.heap.size, 0, none⟩) := hf.rest 7 (by kernel_rfl)
          go_simp
          exact hK2 _ _ (Below.refl _ _) rfl
        · obtain rfl := Option.some.inj (show some _ = some oO from ho)
          rw [if_pos (by rfl)]
          have hK2 := fun v W' h1 h2 => hK v W' h1 h2 (fun hd => by simp at hd)
          have q120 : AC.tmps.getD 120 undef = .pointer (some ⟨w2.heap.size, 1, none⟩) := ((hf.dep ⟨0, .data⟩ (by simp) rfl).2 120 rfl).trans (hf.dep ⟨0, .data⟩ (by simp) rfl).1
          exact wp_load_mid _ _ rfl w2.heap.size 1 q120 (du Dn) _ ((HG.out.keeps hbw).digits LN.out) Try.underlying45 rfl (by rw [du_len, LN.out]; exact info_arr) (hK2 _ _ (Below.refl _ _) rfl)
        · obtain rfl := Option.some.inj (show some _ = some oO from ho)
          rw [if_pos (by rfl)]
          have hK2 := fun v W' h1 h2 => hK v W' h1 h2 (fun hd => by simp at hd)
          go_simp
          refine (HK3.out WW).mono ?_
          rintro e w6 ⟨rfl, hb6⟩
          exact hK2 _ _ hb6 rfl
        · obtain rfl := Option.some.inj (show some _ = some oO from ho)
          rw [if_pos (by rfl)]
          have hK2 := fun v W' h1 h2 => hK v W' h1 h2 (fun hd => by simp at hd)
          have q122 : AC.tmps.getD 122 undef = .agg (ns false Dc) := ((hf.dep ⟨2, .data⟩ (by simp) rfl).2 122 rfl).trans (hf.dep ⟨2, .data⟩ (by simp) rfl).1
          go_simp
          exact hK2 _ _ (Below.refl _ _) rfl
        · obtain rfl := Option.some.inj (show some _ = some oO from ho)
          rw [if_pos (by rfl)]
          have hK2 := fun v W' h1 h2 => hK v W' h1 h2 (fun hd => by simp at hd)
          have q121 : AC.tmps.getD 121 undef = .agg (ds Dn) := ((hf.dep ⟨1, .data⟩ (by simp) rfl).2 121 rfl).trans (hf.dep ⟨1, .data⟩ (by simp) rfl).1
          have q123 : AC.tmps.getD 123 undef = .agg (ds Dc) := ((hf.dep ⟨3, .data⟩ (by simp) rfl).2 123 rfl).trans (hf.dep ⟨3, .data⟩ (by simp) rfl).1
          go_simp
          refine (HD.out WW).mono ?_
          rintro e w6 ⟨rfl, hb6⟩
          exact hK2 _ _ hb6 rfl
        · obtain rfl := Option.some.inj (show some _ = some oO from ho)
          rw [if_pos (by rfl)]
          have hK2 := fun v W' h1 h2 => hK v W' h1 h2 (fun hd => by simp at hd)
          have q124 : AC.tmps.getD 124 undef = .tuple #[.agg (ds Dq), .agg (ds Dr)] := ((hf.dep ⟨4, .data⟩ (by simp) rfl).2 124 rfl).trans (hf.dep ⟨4, .data⟩ (by simp) rfl).1
          go_simp
          exact hK2 _ _ (Below.refl _ _) rfl
        · obtain rfl := Option.some.inj (show some _ = some oO from ho)
          rw [if_pos (by rfl)]
          have hK2 := fun v W' h1 h2 => hK v W' h1 h2 (fun hd => by simp at hd)
          have q119 : AC.tmps.getD 119 undef = .tuple #[.agg (ds Dq), .agg (ds Dr)] := ((hf.dep ⟨5, .data⟩ (by simp) rfl).2 119 rfl).trans (hf.dep ⟨5, .data⟩ (by simp) rfl).1
          go_simp
          exact hK2 _ _ (Below.refl _ _) rfl
        · exact absurd hFI (by decide)
        · obtain rfl := Option.some.inj (show some _ = some oO from ho)
          rw [if_pos (by rfl)]
          go_simp
          exact hK _ _ (below_new1 WW _) ⟨_, rfl, hbw.size, Blk.new WW 45 (du z10)⟩ (fun _ => ⟨_, rfl, Nat.le_refl _⟩)
        · obtain rfl := Option.some.inj (show some _ = some oO from ho)
          rw [if_pos (by rfl)]
          go_simp
          exact hK _ _ (below_new1 WW _) ⟨_, rfl, hbw.size, Blk.new WW 45 (du z10)⟩ (fun _ => ⟨_, rfl, Nat.le_refl _⟩)
        · omega
      · intro iI oO V AC WW W0 hFI ho hf K hK
        rcases iI with _ | _ | _ | _ | _ | _ | _ | _ | _ | _ | iI
        · exact absurd hFI (by decide)
        · exact absurd hFI (by decide)
        · exact absurd hFI (by decide)
        · exact absurd hFI (by decide)
        · exact absurd hFI (by decide)
        · exact absurd hFI (by decide)
        · exact absurd hFI (by decide)
        · obtain rfl := Option.some.inj (show some _ = some oO from ho)
          rw [if_pos (by rfl)]
          have q119 : AC.tmps.getD 119 undef = .tuple #[.agg (ds Dq), .agg (ds Dr)] := ((hf.dep ⟨5, .data⟩ (by simp) rfl).2 119 rfl).trans (hf.dep ⟨5, .data⟩ (by simp) rfl).1
          go_simp
          exact hK _ rfl
        · exact absurd hFI (by decide)
        · exact absurd hFI (by decide)
        · exact absurd hFI (by simp)
      · intro jJ oO V AC WW W1 ho hf hbw hall hap hz K hK
        have hlt : jJ < 2 := by have := (Array.getElem?_eq_some_iff.1 ho).1; simp at this; omega
        rcases jJ with _ | _ | jJ
        · obtain rfl := Option.some.inj (show some _ = some oO from ho)
          rw [if_pos (by rfl)]
          replace hz : W1 = WW := hz
          have q18 : AC.tmps.getD 18 undef = V 8 := (hf.dep ⟨8, .data⟩ (by simp) rfl 18 rfl)
          have t8 := (hall 8 (by decide) (.inr ⟨⟨8, .data⟩, by simp, rfl, rfl⟩))
          obtain ⟨g, e, h1, h2⟩ := t8
          have q125 : AC.tmps.getD 125 undef = .agg (ds Dq) := (hf.dep ⟨6, .data⟩ (by simp) rfl 125 rfl).trans (hall 6 (by decide) (.inr ⟨⟨6, .data⟩, by simp, rfl, rfl⟩))
          rw [e] at q18
          subst hz
          have hth := h2.thereZ
          refine wp_store_mid _ _ _ rfl g 0 (ds Dq) q18 q125 (by rw [ds_size, LQ.out]; exact hth) (by rw [ds_size, LQ.out]; exact info_arr) (ds_all _) (hK _ _ ?_)
          show _ = _
          rw [e, stc_at]; rfl
        · obtain rfl := Option.some.inj (show some _ = some oO from ho)
          rw [if_pos (by rfl)]
          replace hz : W1 = stc (V 8) (du Dq) WW := hz
          have q19 : AC.tmps.getD 19 undef = V 9 := (hf.dep ⟨9, .data⟩ (by simp) rfl 19 rfl)
          have t9 := (hall 9 (by decide) (.inr ⟨⟨9, .data⟩, by simp, rfl, rfl⟩))
          obtain ⟨g, e, h1, h2⟩ := t9
          have q126 : AC.tmps.getD 126 undef = .agg (ds Dr) := (hf.dep ⟨7, .data⟩ (by simp) rfl 126 rfl).trans (hall 7 (by decide) (.inr ⟨⟨7, .data⟩, by simp, rfl, rfl⟩))
          obtain ⟨g8, e8, h81, h82⟩ := hall 8 (by decide) (.inl (by decide))
          have hne : g ≠ g8 := fun h => hap 8 9 (by decide) (by decide) (by decide) g8 g e8 e h.symm
          rw [e] at q19
          rw [e8, stc_at] at hz
          subst hz
          have hth := (h2.otherCells (b' := g8) (du Dq) 0 hne).thereZ
          refine wp_store_mid _ _ _ rfl g 0 (ds Dr) q19 q126 (by rw [ds_size, LR.out]; exact hth) (by rw [ds_size, LR.out]; exact info_arr) (ds_all _) (hK _ _ ?_)
          show _ = _
          rw [e, e8, stc_at, stc_at]; rfl
        · omega
      · intro V WW W1 hall hap hbw hBW hz
        replace hz : W1 = stc (V 9) (du Dr) (stc (V 8) (du Dq) WW) := hz
        have vv0 : V 0 = .pointer (some ⟨w2.heap.size, 1, none⟩) := hall 0 (by decide)
        have vv1 : V 1 = .agg (ds Dn) := hall 1 (by decide)
        have vv2 : V 2 = .agg (ns false Dc) := hall 2 (by decide)
        have vv3 : V 3 = .agg (ds Dc) := hall 3 (by decide)
        have vv4 : V 4 = .tuple #[.agg (ds Dq), .agg (ds Dr)] := hall 4 (by decide)
        have vv5 : V 5 = .tuple #[.agg (ds Dq), .agg (ds Dr)] := hall 5 (by decide)
        have vv6 : V 6 = .agg (ds Dq) := hall 6 (by decide)
        have vv7 : V 7 = .agg (ds Dr) := hall 7 (by decide)
        have vv8 : ∃ g, V 8 = .pointer (some ⟨g, 0, none⟩) ∧ wr.heap.size ≤ g ∧ Blk WW g 45 (du z10) := hall 8 (by decide)
        have vv9 : ∃ g, V 9 = .pointer (some ⟨g, 0, none⟩) ∧ wr.heap.size ≤ g ∧ Blk WW g 45 (du z10) := hall 9 (by decide)
        clear hall
        simp only [pairsOf, laid, Nat.zero_add, Nat.reduceAdd, vv0, vv1, vv2, vv3, vv4, vv5, vv6, vv7, List.setIfInBounds_toArray, List.set_cons_zero, List.set_cons_succ]
        clear vv0 vv1 vv2 vv3 vv4 vv5 vv6 vv7
        obtain ⟨g6, e6, hg6, hb6⟩ := vv8
        obtain ⟨g7, e7, hg7, hb7⟩ := vv9
        have h67 : g6 ≠ g7 := hap 8 9 (by decide) (by decide) (by decide) g6 g7 e6 e7
        rw [e6, e7, stc_at, stc_at] at hz
        rw [e6, e7]
        have hL := HLb.out; have hW := HWr.out
        have hq1 := hb6.setAll (du Dq) (by rw [du_len, du_len, LQ.out]; rfl)
        have HQ6 := Lib.hid (hq1.otherCells (b' := g7) (du Dr) 0 h67)
        have HR7 := Lib.hid ((hb7.otherCells (b' := g6) (du Dq) 0 (fun e => h67 e.symm)).setAll (du Dr) (by rw [du_len, du_len, LR.out]; rfl))
        have HS3 := Lib.hid (((HS.out.keeps hbw).otherCells (g := g6) (by omega) (du Dq) 0).otherCells (g := g7) (by omega) (du Dr) 0)
        have HB3 := Lib.hid (below_setCells (b := g7) (du Dr) 0 (below_setCells (b := g6) (du Dq) 0 hBW (by omega)) (by omega))
        rw [← hz] at HQ6 HR7 HS3 HB3
        clear hz hb6 hb7 hbw hBW e6 e7 hap hq1 hg6 hg7 h67 HS HB HG hfd hL hW
        go_wp2_with (first | (refine ld_arr rfl (.tmp 18) rfl g6 0 rfl Dq LQ.out HQ6.out.range ?_) | (refine bd_num rfl (.tmp 128) rfl Dq rfl LQ.out ?_))
        refine (HQ.out _).mono ?_
        rintro e u1 ⟨rfl, k1⟩
        have HR8 := Lib.hid (HR7.out.keeps k1)
        have HS4 := Lib.hid (HS3.out.keeps k1)
        have HB4 := Lib.hid (below_on HB3.out HB3.out.size k1)
        clear k1 HQ6 HR7 HS3 HB3
        go_wp2_with (first | (refine ld_arr rfl (.tmp 19) rfl g7 0 rfl Dr LR.out HR8.out.range ?_) | (refine bd_num rfl (.tmp 134) rfl Dr rfl LR.out ?_))
        refine (HR.out _).mono ?_
        rintro e u2 ⟨rfl, k2⟩
        have HS5 := Lib.hid (HS4.out.keeps k2)
        have HB5 := Lib.hid (below_on HB4.out HB4.out.size k2)
        clear k2 HR8 HS4 HB4
        go_wp2_with (refine ix_tr (by rfl) _ _ rfl (some ⟨lb, lo, none⟩) cap [(bal, r, p)] HS5.out rfl 0 (bal, r, p) rfl rfl ?_; intro b off c0 c1 c2)
        refine (HPo.out _ HS5.out).mono ?_
        rintro e u3 ⟨rfl, k3⟩
        have HB6 := Lib.hid (below_on HB5.out HB5.out.size k3)
        clear k3
        go_wp2
        go_ret
        exact ⟨rfl, HB6.out⟩
set_option maxRecDepth 8000 in
set_option maxHeartbeats 1600000 in
theorem exact_law (amt : Int) (bo : Option Addr) (dap : Nat) (A : List Tr) (w : World) (hA : SlT w bo dap A) :
    Calls Try.prog 5 #[.int .i64 amt, .slice bo A.length dap] w fun e w' => e = .returned (.bool true) ∧ Below w.heap.size w w' := by
  by_cases hg : 1 ≤ amt ∧ amt ≤ 20000000000000 ∧ A.length ≤ 40
  · exact exact_core w amt hg.1 hg.2.1 bo dap A hA hg.2.2
  · have HV := Lib.hid (fun W => talive_any W)
    have hg2 : amt < 1 ∨ (1 ≤ amt ∧ 20000000000000 < amt) ∨ (1 ≤ amt ∧ amt ≤ 20000000000000 ∧ 40 < A.length) := by omega
    clear hg hA
    rcases hg2 with g1 | ⟨g1, g2⟩ | ⟨g1, g2, g3⟩
    all_goals
      go_enter Try.func5, Try.ntmps5
      go_wp2_with fail
      refine (HV.out _).mono ?_
      rintro e w1 ⟨rfl, hb1⟩
      go_wp2
      go_ret
      exact ⟨rfl, hb1⟩
end Go.Proofs.Ythcimllkcaknhaa
