/-
  The walks of the reference's tranches: Add, Days, Repay.
-/
import Derived.Test.YthcimllkcaknhaaRefOne
import Derived.Test.YthcimllkcaknhaaTrAdd
set_option linter.unusedVariables false
set_option linter.unusedSimpArgs false
namespace Go.Proofs.Ythcimllkcaknhaa
open Go.RowKit Dg

theorem sl_t1 (w : World) (t : Tr) : SlT (w.alloc (.cells #[.int .i64 t.1, .int .i64 t.2.1, .int .i64 t.2.2] 56)) (some ⟨w.heap.size, 0, none⟩) 1 [t] :=
  ⟨rfl, Nat.le_refl _, by simp, fun _ => ⟨_, _, rfl, fun j u hu => by
    rw [Nat.zero_add]
    exact (Blk.new w 56 [.int .i64 t.1, .int .i64 t.2.1, .int .i64 t.2.2]).cell j u (by simpa [rc, trc] using hu)⟩⟩
set_option maxRecDepth 8000 in
set_option maxHeartbeats 1600000 in
theorem rtadd_any (w : World) (ao : Option Addr) (cap : Nat) (L : List Tr) (a : Int) (s : List Tr × Int) (hs : addS L a = s) (h : SlT w ao cap L) :
    Calls Try.prog 11 #[.slice ao L.length cap, .int .i64 a] w fun e w' => ∃ v', e = .returned (.tuple #[v', .int .i64 s.2]) ∧ OwT w' w.heap.size v' s.1 ∧ Below w.heap.size w w' := by
  have H := Lib.hid h
  have HS := Lib.hid hs
  clear hs
  cases h1 : rightT L with
  | false =>
    have HF : Hid (s = ([], 161)) := by show _ = _; rw [← HS.out]; unfold addS; rw [h1]; rfl
    have HR := Lib.hid (trright_any w ao cap L h false h1)
    clear h1 h
    go_enter Try.func11, Try.ntmps11
    go_wp2_with fail
    refine HR.out.mono ?_
    rintro e w3 ⟨rfl, hb3⟩
    go_wp2
    exact bodyPost_ret (v := .tuple #[.slice none 0 0, .int .i64 161]) (by simp [results, Try.results11, go_sem]) rfl ⟨_, by rw [HF.out], by rw [HF.out]; exact ownT_nil _ _, hb3⟩
  | true =>
    have HR := Lib.hid (trright_any w ao cap L h true h1)
    have H1 := Lib.hid h1
    have l256 := (rightT_true h1).1
    clear h1 h
    by_cases h2 : 1 ≤ a ∧ a ≤ 20000000000000
    · obtain ⟨a1, a2⟩ := h2
      have HN : Hid (s = if rightT (L ++ [(a, 0, 0)]) = true then (L ++ [(a, 0, 0)], 0) else ([], 161)) := by
        show _ = _; rw [← HS.out]; unfold addS; rw [H1.out, if_pos rfl, if_pos ⟨a1, a2⟩]
      obtain ⟨M, hM⟩ : ∃ M, L ++ [(a, 0, 0)] = M := ⟨_, rfl⟩
      rw [hM] at HN
      have HM := Lib.hid hM
      clear hM
      go_enter Try.func11, Try.ntmps11
      go_wp2_with fail
      refine HR.out.mono ?_
      rintro e w1 ⟨rfl, hb1⟩
      have HO := Lib.hid (ownT_empty w1)
      have HB0 := Lib.hid (hb1.alloc hb1.size (.cells #[] 56))
      have HL0 := Lib.hid (H.out.keeps (HB0.out.mono (Nat.le_refl _)))
      have hz1 := hb1.size
      clear hb1
      go_wp2_with (first | (refine ap_tr rfl (.tmp 16) (.tmp 17) rfl w1.heap.size _ rfl [] HO.out ao cap L rfl HL0.out (by simp; omega) (by simp) ?_; intro v2 w2 ho2 hg2 hf2; have HB2 := Lib.hid (below_grown HO.out hg2 hz1 (by have := HB0.out.size; omega) HB0.out); have HO1 := Lib.hid (own_keeps (own_down ho2 hz1) (below_new1 w2 (.cells #[.int .i64 a, .int .i64 0, .int .i64 0] 56))); have HB3 := Lib.hid (HB2.out.alloc HB2.out.size (.cells #[.int .i64 a, .int .i64 0, .int .i64 0] 56)); have HSL := Lib.hid (sl_tr1 w2 a); clear ho2 hg2 hf2) | (refine ap_tr rfl (.tmp 18) (.tmp 21) rfl w.heap.size _ rfl L HO1.out _ 1 [(a, 0, 0)] rfl HSL.out (by simp; omega) HB3.out.size ?_; intro v3 w3 ho3 hg3 hf3; rw [HM.out] at ho3; have HB4 := Lib.hid (below_grown HO1.out hg3 (Nat.le_refl _) (Nat.le_refl _) HB3.out); obtain ⟨ao3, cap3, e3, hs3, _⟩ := Rk.own ho3; subst e3; have HO3 := Lib.hid ho3; have HS3 := Lib.hid hs3; clear ho3 hg3 hf3 hs3 HO1 HB3 HSL))
      have HRR := Lib.hid (fun v hv => trright_any w3 ao3 cap3 _ HS3.out v hv)
      cases h5 : rightT M with
      | false =>
        have HF : Hid (s = ([], 161)) := by show _ = _; rw [HN.out, h5]; rfl
        have HRR2 := Lib.hid (HRR.out false h5)
        clear h5 HRR
        refine HRR2.out.mono ?_
        rintro e w4 ⟨rfl, hb4⟩
        have HB5 := Lib.hid (below_on HB4.out HB4.out.size hb4)
        clear hb4
        go_wp2
        exact bodyPost_ret (v := .tuple #[.slice none 0 0, .int .i64 161]) (by simp [results, Try.results11, go_sem]) rfl ⟨_, by rw [HF.out], by rw [HF.out]; exact ownT_nil _ _, HB5.out⟩
      | true =>
        have HF : Hid (s = (M, 0)) := by show _ = _; rw [HN.out, h5]; rfl
        have HRR2 := Lib.hid (HRR.out true h5)
        clear h5 HRR
        refine HRR2.out.mono ?_
        rintro e w4 ⟨rfl, hb4⟩
        have HB5 := Lib.hid (below_on HB4.out HB4.out.size hb4)
        have HO5 := Lib.hid (own_keeps HO3.out hb4)
        clear hb4
        go_wp2
        exact bodyPost_ret (v := .tuple #[.slice ao3 M.length cap3, .int .i64 0]) (by simp [results, Try.results11, go_sem]) rfl ⟨_, by rw [HF.out], by rw [HF.out]; exact HO5.out, HB5.out⟩
    · have HF : Hid (s = ([], 142)) := by show _ = _; rw [← HS.out]; unfold addS; rw [H1.out, if_pos rfl, if_neg h2]
      have h4 : a < 1 ∨ (1 ≤ a ∧ 20000000000000 < a) := by omega
      clear h2
      rcases h4 with h4 | ⟨h4, h5⟩
      all_goals
        go_enter Try.func11, Try.ntmps11
        go_wp2_with fail
        refine HR.out.mono ?_
        rintro e w3 ⟨rfl, hb3⟩
        go_wp2
        exact bodyPost_ret (v := .tuple #[.slice none 0 0, .int .i64 142]) (by simp [results, Try.results11, go_sem]) rfl ⟨_, by rw [HF.out], by rw [HF.out]; exact ownT_nil _ _, hb3⟩
theorem take_mapT {L : List Tr} {k : Nat} {t : Tr} (h : L[k]? = some t) (f : Tr → Tr) : (L.take (k + 1)).map f = (L.take k).map f ++ [f t] := take_map h f
set_option maxRecDepth 8000 in
set_option maxHeartbeats 3200000 in
theorem rtdays_any (w : World) (ao : Option Addr) (cap : Nat) (L : List Tr) (r n : Int) (s : List Tr × Int × Int) (hs : daysS L r n = s) (h : SlT w ao cap L) :
    Calls Try.prog 12 #[.slice ao L.length cap, .int .i64 r, .int .i64 n] w fun e w' => ∃ v', e = .returned (.tuple #[v', .int .i64 s.2.1, .int .i64 s.2.2]) ∧ OwT w' w.heap.size v' s.1 ∧ Below w.heap.size w w' := by
  cases h1 : rightT L with
  | false =>
    have HF : Hid (s = ([], 0, 161)) := by show _ = _; rw [← hs]; unfold daysS; rw [h1]; rfl
    have HR := Lib.hid (trright_any w ao cap L h false h1)
    clear h1 hs h
    go_enter Try.func12, Try.ntmps12
    go_wp2_with fail
    refine HR.out.mono ?_
    rintro e w1 ⟨rfl, HBX⟩
    go_wp2
    exact bodyPost_ret (v := .tuple #[.slice none 0 0, .int .i64 0, .int .i64 161]) (by simp [results, Try.results12, go_sem]) rfl ⟨_, by rw [HF.out], by rw [HF.out]; exact ownT_nil _ _, HBX⟩
  | true =>
    have HR := Lib.hid (trright_any w ao cap L h true h1)
    obtain ⟨l256, hall, _⟩ := rightT_true h1
    by_cases h2 : 0 ≤ r ∧ r ≤ 10000
    · obtain ⟨r0, r1⟩ := h2
      by_cases h3 : 0 ≤ n ∧ n ≤ 366
      · obtain ⟨n0, n1⟩ := h3
        have hs' : (if okDays r n.toNat L = true then (daysK r n.toNat L, postT (daysK r n.toNat L) - postT L, 0) else ([], 0, 161)) = s := by
          rw [← hs]; simp only [daysS, h1, r0, r1, n0, n1, and_self, if_true]
        have HS := Lib.hid hs'
        have H1 := Lib.hid h1
        have H := Lib.hid h
        obtain ⟨N, rfl⟩ := Int.eq_ofNat_of_zero_le n0
        have HALL := Lib.hid hall
        clear h1 hs hs' h hall
        go_enter Try.func12, Try.ntmps12
        go_wp2_with fail
        refine HR.out.mono ?_
        rintro e w1 ⟨rfl, hb1⟩
        have HO := Lib.hid (ownT_empty w1)
        have HB0 := Lib.hid (hb1.alloc hb1.size (.cells #[] 56))
        have HL0 := Lib.hid (H.out.keeps (HB0.out.mono (Nat.le_refl _)))
        have hz1 := hb1.size
        clear hb1
        go_wp2_with (refine ap_tr rfl (.tmp 31) (.tmp 32) rfl w1.heap.size _ rfl [] HO.out ao cap L rfl HL0.out (by simp; omega) (by simp) ?_; intro v2 w2 ho2 hg2 hf2; have HB2 := Lib.hid (below_grown HO.out hg2 hz1 (by have := HB0.out.size; omega) HB0.out); have HO1 := Lib.hid (own_down ho2 hz1); clear ho2 hg2 hf2)
        clear HR HO HB0 HL0
        go_loopw [9, 10] (fun o i wr => ∃ (k : Nat), k ≤ N ∧ i = .int .i64 k ∧ Hid (okDays r k L = true) ∧ Hid (OwT wr w.heap.size o (daysK r k L)) ∧ Below w.heap.size w wr) (fun _ i _ => N - (intOf i).toNat)
        case atStart => exact ⟨0, by omega, rfl, rfl, HO1.out, HB2.out⟩
        case round =>
          obtain ⟨k, hk, rfl, HK, HO, hb⟩ := hrel
          have hRM := okDays_right H1.out HK.out
          obtain ⟨M, hM⟩ : ∃ M, daysK r k L = M := ⟨_, rfl⟩
          rw [hM] at hRM HO
          obtain ⟨m256, mall, _⟩ := rightT_true hRM
          obtain ⟨ao3, cap3, rfl, hs3, _⟩ := Rk.own HO.out
          have HM := Lib.hid hM
          have HS3 := Lib.hid hs3
          have HMA := Lib.hid mall
          have HML : Hid (M.length = L.length) := by show _ = _; rw [← hM, days_len]
          clear hM hs3 hRM mall
          by_cases hkn : k < N
          · have HE := Lib.hid (ownT_empty wr)
            have HBE := Lib.hid (below_new1 wr (.cells #[] 56))
            go_wp2_with fail
            go_loopw [11, 42] (fun nx i wi => ∃ (j : Nat), j ≤ M.length ∧ i = .int .i64 j ∧ Hid (OwT wi wr.heap.size nx ((M.take j).map (dayT r))) ∧ Hid (Below wr.heap.size wr wi)) (fun _ i _ => M.length - (intOf i).toNat)
            case atStart => exact ⟨0, by omega, rfl, HE, HBE⟩
            case round =>
              obtain ⟨j, hj, rfl, HN, HBI⟩ := hrel
              by_cases hjl : j < M.length
              · obtain ⟨t, ht⟩ : ∃ t, M[j]? = some t := ⟨_, List.getElem?_eq_getElem hjl⟩
                have HT := Lib.hid ht
                have HX := Lib.hid (one_t t r (List.all_eq_true.1 HMA.out t (List.mem_of_getElem? ht)) r0 r1)
                have hw := HS3.out.keeps HBI.out
                have HNX := Lib.hid (take_mapT ht (dayT r))
                have lj : ((M.take j).map (dayT r)).length = j := by simp; omega
                have LJ := Lib.hid lj
                obtain ⟨d, hd⟩ : ∃ d, dayT r t = d := ⟨_, rfl⟩
                rw [hd] at HX HNX
                clear ht lj hd
                have HB1 := Lib.hid (HBI.out.alloc HBI.out.size (.cells #[.int .i64 t.1, .int .i64 t.2.1, .int .i64 t.2.2] 56))
                go_wp2_with (refine ix_tr rfl _ _ rfl ao3 cap3 M hw rfl j t HT.out rfl ?_; intro b off c0 c1 c2)
                refine (HX.out _).mono ?_
                rintro e w5 ⟨rfl, hb5⟩
                have HB5 := Lib.hid ((below_on HB1.out HB1.out.size hb5).alloc (Nat.le_trans HB1.out.size hb5.size) (.cells #[.int .i64 d.1, .int .i64 d.2.1, .int .i64 d.2.2] 56))
                have HN5 := Lib.hid (own_keeps (own_keeps (own_keeps HN.out (below_new1 wr (.cells #[.int .i64 t.1, .int .i64 t.2.1, .int .i64 t.2.2] 56))) hb5) (below_new1 w5 (.cells #[.int .i64 d.1, .int .i64 d.2.1, .int .i64 d.2.2] 56)))
                have HSL := Lib.hid (sl_t1 w5 d)
                clear hb5 hw HX HB1 HN c0 c1 c2
                go_wp2_with (refine ap_tr rfl (.tmp 46) (.tmp 50) rfl _ _ rfl ((M.take j).map (dayT r)) HN5.out _ 1 [d] rfl HSL.out (by rw [LJ.out]; simp; omega) HB5.out.size ?_; intro v6 w6 ho6 hg6 hf6; rw [← HNX.out] at ho6; have HB6 := Lib.hid (below_grown HN5.out hg6 (Nat.le_refl _) (Nat.le_refl _) HB5.out); have HO6 := Lib.hid ho6; clear ho6 hg6 hf6)
                go_roundw
                · exact ⟨j + 1, by omega, by go_num, HO6, HB6⟩
                · simp [intOf]; omega
              · obtain rfl : j = M.length := by omega
                have hO := HN.out
                rw [List.take_length] at hO
                have HDK : Hid (daysK r (k + 1) L = dayL r M) := by show _ = _; rw [daysK, HM.out]
                obtain ⟨X, hX⟩ : ∃ X, dayL r M = X := ⟨_, rfl⟩
                rw [show M.map (dayT r) = dayL r M from rfl, hX] at hO
                rw [hX] at HDK
                obtain ⟨ao7, cap7, rfl, hs7, _⟩ := Rk.own hO
                have HO7 := Lib.hid (own_down hO hb.size)
                have HB7 := Lib.hid (below_on hb hb.size HBI.out)
                clear hX hO HN
                cases hR : rightT X with
                | false =>
                  have HR := Lib.hid (trright_any wr ao7 cap7 _ hs7 false hR)
                  have HF : Hid (s = ([], 0, 161)) := by
                    show _ = _
                    have : okDays r (k + 1) L = false := by rw [okDays, HDK.out, hR]; simp
                    have := okDays_mono (show k + 1 ≤ ((N : Int)).toNat by simp; omega) this
                    rw [← HS.out, this]; rfl
                  clear hR hs7
                  go_wp2_with fail
                  refine HR.out.mono ?_
                  rintro e w8 ⟨rfl, hb8⟩
                  have HBX := below_on HB7.out HB7.out.size hb8
                  go_wp2
                  exact bodyPost_ret (v := .tuple #[.slice none 0 0, .int .i64 0, .int .i64 161]) (by simp [results, Try.results12, go_sem]) rfl ⟨_, by rw [HF.out], by rw [HF.out]; exact ownT_nil _ _, HBX⟩
                | true =>
                  have HR := Lib.hid (trright_any wr ao7 cap7 _ hs7 true hR)
                  have HN : Hid (okDays r (k + 1) L = true) := by show _ = _; rw [okDays, HK.out, HDK.out, hR]; rfl
                  clear hR hs7
                  go_wp2_with fail
                  refine HR.out.mono ?_
                  rintro e w8 ⟨rfl, hb8⟩
                  have HB8 := Lib.hid (below_on HB7.out HB7.out.size hb8)
                  have HO8 := Lib.hid (own_keeps HO7.out hb8)
                  clear hb8 HR HO7 HB7
                  go_wp2
                  go_roundw
                  · exact ⟨k + 1, by omega, by go_num, HN, by show OwT _ _ _ _; rw [HDK.out]; exact HO8.out, HB8.out⟩
                  · simp [intOf]; omega
          · obtain rfl : k = N := by omega
            have HF : Hid (s = (M, postT M - postT L, 0)) := by
              show _ = _
              have e : ((k : Int)).toNat = k := by simp
              rw [← HS.out, e, HK.out, HM.out]; rfl
            have HLL := Lib.hid (H.out.keeps (hb.mono (Nat.le_refl _)))
            clear HK
            go_wp2_with fail
            go_loopw [14, 59] (fun x i wi => ∃ (j : Nat) (z : Int), j ≤ M.length ∧ i = .int .i64 j ∧ x = .int .i64 z ∧ Hid (z = postT (M.take j) - postT (L.take j)) ∧ Hid (∃ q, wi = wr.drewN q)) (fun _ i _ => M.length - (intOf i).toNat)
            case atStart => exact ⟨0, 0, by omega, rfl, rfl, by show _ = _; simp [postT], 0, rfl⟩
            case round =>
              obtain ⟨j, z, hj, rfl, rfl, HZ, HW⟩ := hrel
              obtain ⟨q, rfl⟩ := HW.out
              clear HW
              by_cases hjl : j < M.length
              · obtain ⟨t, ht⟩ : ∃ t, M[j]? = some t := ⟨_, List.getElem?_eq_getElem hjl⟩
                obtain ⟨u, hu⟩ : ∃ u, L[j]? = some u := ⟨_, List.getElem?_eq_getElem (by have := HML.out; omega)⟩
                obtain ⟨b, off, rfl, hc⟩ := HS3.out.cells (by intro e; have := rc_at trc_len ht 0 _ rfl; rw [e] at this; simp at this)
                obtain ⟨b2, off2, rfl, hc2⟩ := HLL.out.cells (by intro e; have := rc_at trc_len hu 0 _ rfl; rw [e] at this; simp at this)
                obtain ⟨_, _, c2⟩ := tr_cells (ao := none) (cap := cap) hc ht
                obtain ⟨_, _, d2⟩ := tr_cells (ao := none) (cap := cap) hc2 hu
                obtain ⟨_, _, t0, t1⟩ := okT_true (List.all_eq_true.1 HMA.out t (List.mem_of_getElem? ht))
                obtain ⟨_, _, u0, u1⟩ := okT_true (List.all_eq_true.1 HALL.out u (List.mem_of_getElem? hu))
                obtain ⟨_, x0, x1⟩ := sums_in (ok_take HMA.out j)
                obtain ⟨_, y0, y1⟩ := sums_in (ok_take HALL.out j)
                have HP1 := Lib.hid (post_take ht)
                have HP2 := Lib.hid (post_take hu)
                have hz := HZ.out
                rw [List.length_take] at x1 y1
                have z0 : -4611686018427387904 ≤ z := by omega
                have z1 : z ≤ 4611686018427387904 := by omega
                have hjL : (j : Int) < L.length := by have := HML.out; omega
                have e0 : -18014398509481984 ≤ t.2.2 - u.2.2 := by omega
                have e1 : t.2.2 - u.2.2 ≤ 18014398509481984 := by omega
                clear ht hu hc hc2 hz x0 x1 y0 y1
                go_wp2
                go_quiet (fail)
                go_wp2
                go_roundw
                · exact ⟨j + 1, _, by omega, by go_num, rfl, by show _ = _; rw [HP1.out, HP2.out, HZ.out]; omega, ⟨_, rfl⟩⟩
                · simp [intOf]; omega
              · obtain rfl : j = M.length := by omega
                have hz := HZ.out
                rw [List.take_length, HML.out, List.take_length] at hz
                have HZ2 := Lib.hid hz
                clear hz
                go_wp2
                exact bodyPost_ret (v := .tuple #[.slice ao3 M.length cap3, .int .i64 z, .int .i64 0]) (by simp [results, Try.results12, go_sem]) rfl ⟨_, by rw [HF.out, HZ2.out], by rw [HF.out]; exact own_keeps HO.out (pw_belowN (Below.refl _ _) q), pw_belowN hb q⟩
      · have HF : Hid (s = ([], 0, 142)) := by show _ = _; rw [← hs]; unfold daysS; rw [h1, if_pos rfl, if_pos ⟨r0, r1⟩, if_neg h3]
        have h4 : n < 0 ∨ (0 ≤ n ∧ 366 < n) := by omega
        clear h1 hs h h3
        rcases h4 with h4 | ⟨h4, h5⟩
        all_goals
          go_enter Try.func12, Try.ntmps12
          go_wp2_with fail
          refine HR.out.mono ?_
          rintro e w1 ⟨rfl, HBX⟩
          go_wp2
          exact bodyPost_ret (v := .tuple #[.slice none 0 0, .int .i64 0, .int .i64 142]) (by simp [results, Try.results12, go_sem]) rfl ⟨_, by rw [HF.out], by rw [HF.out]; exact ownT_nil _ _, HBX⟩
    · have HF : Hid (s = ([], 0, 52)) := by show _ = _; rw [← hs]; unfold daysS; rw [h1, if_pos rfl, if_neg h2]
      have h4 : r < 0 ∨ (0 ≤ r ∧ 10000 < r) := by omega
      clear h1 hs h h2
      rcases h4 with h4 | ⟨h4, h5⟩
      all_goals
        go_enter Try.func12, Try.ntmps12
        go_wp2_with fail
        refine HR.out.mono ?_
        rintro e w1 ⟨rfl, HBX⟩
        go_wp2
        exact bodyPost_ret (v := .tuple #[.slice none 0 0, .int .i64 0, .int .i64 52]) (by simp [results, Try.results12, go_sem]) rfl ⟨_, by rw [HF.out], by rw [HF.out]; exact ownT_nil _ _, HBX⟩
set_option maxRecDepth 8000 in
set_option maxHeartbeats 1600000 in
theorem rtrepay_any (w : World) (ao : Option Addr) (cap : Nat) (L : List Tr) (a : Int) (s : List Tr × Int × Int) (hs : repS L a = s) (h : SlT w ao cap L) :
    Calls Try.prog 14 #[.slice ao L.length cap, .int .i64 a] w fun e w' => ∃ v', e = .returned (.tuple #[v', .int .i64 s.2.1, .int .i64 s.2.2]) ∧ OwT w' w.heap.size v' s.1 ∧ Below w.heap.size w w' := by
  have HS := Lib.hid hs
  cases h1 : rightT L with
  | false =>
    have HF : Hid (s = ([], 0, 161)) := by show _ = _; rw [← hs]; unfold repS; rw [h1]; rfl
    have HR := Lib.hid (trright_any w ao cap L h false h1)
    clear h1 hs h
    go_enter Try.func14, Try.ntmps14
    go_wp2_with fail
    refine HR.out.mono ?_
    rintro e w1 ⟨rfl, HBX⟩
    go_wp2
    exact bodyPost_ret (v := .tuple #[.slice none 0 0, .int .i64 0, .int .i64 161]) (by simp [results, Try.results14, go_sem]) rfl ⟨_, by rw [HF.out], by rw [HF.out]; exact ownT_nil _ _, HBX⟩
  | true =>
    have HR := Lib.hid (trright_any w ao cap L h true h1)
    obtain ⟨l256, hall, _⟩ := rightT_true h1
    by_cases h2 : 0 ≤ a ∧ a ≤ 20000000000000
    · have HF : Hid (s = (repL a L, repA a L, 0)) := by show _ = _; rw [← hs]; unfold repS; rw [h1, if_pos rfl, if_pos h2]
      obtain ⟨a0, a1⟩ := h2
      have H := Lib.hid h
      have HALL := Lib.hid hall
      clear h1 hs h hall
      go_enter Try.func14, Try.ntmps14
      go_wp2_with fail
      refine HR.out.mono ?_
      rintro e w1 ⟨rfl, hb1⟩
      have HE := Lib.hid (own_down (ownT_empty w1) hb1.size)
      have HB0 := Lib.hid (hb1.alloc hb1.size (.cells #[] 56))
      clear hb1 HR
      go_wp2_with fail
      go_loopw [1, 7, 22] (fun am o i wr => ∃ (k : Nat) (O : List Tr) (x : Int), k ≤ L.length ∧ i = .int .i64 k ∧ am = .int .i64 x ∧ Hid (Rep a L k O x) ∧ Hid (OwT wr w.heap.size o O) ∧ Below w.heap.size w wr) (fun _ _ i _ => L.length - (intOf i).toNat)
      case atStart => exact ⟨0, [], a, by omega, rfl, rfl, Rep.start a0, HE.out, HB0.out⟩
      case round =>
        obtain ⟨k, O, x, hk, rfl, rfl, HX, HO, hb⟩ := hrel
        have x0 := HX.out.lo
        have x1 := HX.out.hi
        have ol := HX.out.len
        by_cases hkl : k < L.length
        · obtain ⟨t, ht⟩ : ∃ t, L[k]? = some t := ⟨_, List.getElem?_eq_getElem hkl⟩
          have HT := Lib.hid ht
          have hw := H.out.keeps (hb.mono (Nat.le_refl _))
          obtain ⟨⟨b0, b1⟩, ⟨s0, s1⟩, ⟨p0, p1⟩⟩ := okT_true (List.all_eq_true.1 HALL.out t (List.mem_of_getElem? ht))
          clear ht
          have hstep := HX.out.step HT.out b0
          have OL := Lib.hid ol
          clear HX ol
          by_cases hx : t.1 ≤ x
          · rw [show min x t.1 = t.1 from by omega, show t.1 - t.1 = (0 : Int) from by omega] at hstep
            have HN := Lib.hid hstep
            clear hstep
            have HO1 := Lib.hid (own_keeps HO.out (below_new2 wr (.cells #[.int .i64 0, .int .i64 t.2.1, .int .i64 t.2.2] 56) (.cells #[.int .i64 0, .int .i64 t.2.1, .int .i64 t.2.2] 56)))
            have HB1 := Lib.hid ((hb.alloc hb.size (.cells #[.int .i64 0, .int .i64 t.2.1, .int .i64 t.2.2] 56)).alloc (by have := hb.size; simp; omega) (.cells #[.int .i64 0, .int .i64 t.2.1, .int .i64 t.2.2] 56))
            have hsl := sl_t1 (wr.alloc (.cells #[.int .i64 0, .int .i64 t.2.1, .int .i64 t.2.2] 56)) (0, t.2.1, t.2.2)
            rw [show (wr.alloc (.cells #[.int .i64 0, .int .i64 t.2.1, .int .i64 t.2.2] 56)).heap.size = wr.heap.size + 1 from by simp] at hsl
            have HSL := Lib.hid hsl
            clear hsl
            go_wp2_with (first | (refine ix_tr rfl _ _ rfl ao cap L hw rfl k t HT.out rfl ?_; intro b off c0 c1 c2) | (refine ap_tr rfl (.tmp 40) (.tmp 42) rfl w.heap.size _ rfl O HO1.out _ 1 [(0, t.2.1, t.2.2)] rfl HSL.out (by rw [OL.out]; simp; omega) HB1.out.size ?_; intro v6 w6 ho6 hg6 hf6; have HB6 := Lib.hid (below_grown HO1.out hg6 (Nat.le_refl _) (Nat.le_refl _) HB1.out); have HO6 := Lib.hid ho6; clear ho6 hg6 hf6))
            go_roundw
            · exact ⟨k + 1, _, _, by omega, by go_num, rfl, HN, HO6, HB6.out⟩
            · simp [intOf]; omega
          · rw [show min x t.1 = x from by omega, show x - x = (0 : Int) from by omega] at hstep
            have HN := Lib.hid hstep
            clear hstep
            have HO1 := Lib.hid (own_keeps HO.out (below_new2 wr (.cells #[.int .i64 (t.1 - x), .int .i64 t.2.1, .int .i64 t.2.2] 56) (.cells #[.int .i64 (t.1 - x), .int .i64 t.2.1, .int .i64 t.2.2] 56)))
            have HB1 := Lib.hid ((hb.alloc hb.size (.cells #[.int .i64 (t.1 - x), .int .i64 t.2.1, .int .i64 t.2.2] 56)).alloc (by have := hb.size; simp; omega) (.cells #[.int .i64 (t.1 - x), .int .i64 t.2.1, .int .i64 t.2.2] 56))
            have hsl := sl_t1 (wr.alloc (.cells #[.int .i64 (t.1 - x), .int .i64 t.2.1, .int .i64 t.2.2] 56)) ((t.1 - x), t.2.1, t.2.2)
            rw [show (wr.alloc (.cells #[.int .i64 (t.1 - x), .int .i64 t.2.1, .int .i64 t.2.2] 56)).heap.size = wr.heap.size + 1 from by simp] at hsl
            have HSL := Lib.hid hsl
            clear hsl
            go_wp2_with (first | (refine ix_tr rfl _ _ rfl ao cap L hw rfl k t HT.out rfl ?_; intro b off c0 c1 c2) | (refine ap_tr rfl (.tmp 40) (.tmp 42) rfl w.heap.size _ rfl O HO1.out _ 1 [((t.1 - x), t.2.1, t.2.2)] rfl HSL.out (by rw [OL.out]; simp; omega) HB1.out.size ?_; intro v6 w6 ho6 hg6 hf6; have HB6 := Lib.hid (below_grown HO1.out hg6 (Nat.le_refl _) (Nat.le_refl _) HB1.out); have HO6 := Lib.hid ho6; clear ho6 hg6 hf6))
            go_roundw
            · exact ⟨k + 1, _, _, by omega, by go_num, rfl, HN, HO6, HB6.out⟩
            · simp [intOf]; omega
        · obtain rfl : k = L.length := by omega
          obtain ⟨e1, e2⟩ := HX.out.fin
          subst e1
          obtain ⟨ao3, cap3, e3, _, _⟩ := Rk.own HO.out
          subst e3
          go_wp2
          exact bodyPost_ret (v := .tuple #[.slice ao3 (repL a L).length cap3, .int .i64 x, .int .i64 0]) (by simp [results, Try.results14, go_sem]) rfl ⟨_, by rw [HF.out, e2], by rw [HF.out]; exact HO.out, hb⟩
    · have HF : Hid (s = ([], 0, 142)) := by show _ = _; rw [← hs]; unfold repS; rw [h1, if_pos rfl, if_neg h2]
      have h4 : a < 0 ∨ (0 ≤ a ∧ 20000000000000 < a) := by omega
      clear h1 hs h h2
      rcases h4 with h4 | ⟨h4, h5⟩
      all_goals
        go_enter Try.func14, Try.ntmps14
        go_wp2_with fail
        refine HR.out.mono ?_
        rintro e w1 ⟨rfl, HBX⟩
        go_wp2
        exact bodyPost_ret (v := .tuple #[.slice none 0 0, .int .i64 0, .int .i64 142]) (by simp [results, Try.results14, go_sem]) rfl ⟨_, by rw [HF.out], by rw [HF.out]; exact ownT_nil _ _, HBX⟩
end Go.Proofs.Ythcimllkcaknhaa
