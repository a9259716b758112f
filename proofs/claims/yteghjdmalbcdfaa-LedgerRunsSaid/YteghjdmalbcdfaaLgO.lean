/-
  The walks of the reference's Post, Reverse, Same.
-/
import Derived.Test.YteghjdmalbcdfaaLgM
set_option linter.unusedVariables false
set_option linter.unusedSimpArgs false
namespace Go.Proofs.Yteghjdmalbcdfaa
open Go.RowKit Dg

theorem RE.one {w : World} {N : Nat → Prop} {ao : Option Addr} {cap : Nat} {E : List (List Lg)} {C : List Value} (h : RE w N ao cap E C) : ∀ u ∈ C, u.oneCell' = true := by
  intro u hu
  obtain ⟨i, hi, rfl⟩ := List.mem_iff_getElem.1 hu
  have hiE : i < E.length := by rw [← h.cl]; exact hi
  obtain ⟨ao', cap', h1, _⟩ := h.ent i _ (List.getElem?_eq_getElem hiE)
  rw [List.getElem?_eq_getElem hi] at h1
  rw [Option.some.inj h1]; rfl
def REs (w : World) (N : Nat → Prop) (ao : Option Addr) (cap : Nat) (E : List (List Lg)) : Prop := ∃ C, RE w N ao cap E C
theorem own_grown {w w' : World} {B e S n : Nat} {v : Value} {C : List Value} {ob : Option Nat} (h : w.ownsRow B e S v n C) (hg : w.grownBy w' ob) (hne : ∀ g, v.ownBlock = some g → ob ≠ some g) : w'.ownsRow B e S v n C := by
  refine ⟨h.1, ?_⟩
  rcases h.2 with h0 | ⟨g, cap, cur, rfl, h1, h2, h3⟩
  · exact .inl h0
  · have hlt : g < w.heap.size := (Array.getElem?_eq_some_iff.1 h2).1
    exact .inr ⟨g, cap, cur, rfl, h1, by rw [hg.block g hlt (fun e => hne g rfl e.symm)]; exact h2, h3⟩
theorem own_h0 (w : World) : (w.alloc (.cells #[] 23)).ownsRow w.heap.size 23 1 (.slice (some ⟨w.heap.size, 0, none⟩) 0 0) ([] : List Value).length [] :=
  ⟨rfl, .inr ⟨_, 0, #[], rfl, Nat.le_refl _, heap_alloc_new w _, Nat.le_refl _, by decide, rfl, rfl⟩⟩
theorem sl_h1 (w : World) (v : Value) : Sl (w.alloc (.cells #[v] 23)) (some ⟨w.heap.size, 0, none⟩) [v].length 1 [v] :=
  ⟨rfl, Nat.le_refl _, by simp, fun _ => ⟨_, _, rfl, fun j u hu => by
    rw [Nat.zero_add]
    exact (Blk.new w 23 [v]).cell j u hu⟩⟩
theorem sl_g1 (w : World) (a x : Int) : SlG (w.alloc (.cells #[.int .i64 a, .int .i64 x] 48)) (some ⟨w.heap.size, 0, none⟩) 1 [(a, x)] :=
  ⟨rfl, Nat.le_refl _, by simp, fun _ => ⟨_, _, rfl, fun j u hu => by
    rw [Nat.zero_add]
    exact (Blk.new w 48 [.int .i64 a, .int .i64 x]).cell j u hu⟩⟩
section
variable {ops : Array Oper} {rest : List Oper} {o : Oper} {a : Act} {w : World} {Q : Exit → Act → World → Prop}
/-- append of headers. -/
theorem ap_hd (hw : Region.wanted o (yielded ops a.tmps) = true) (s x : Operand) (ho : o.op = .call { callee := .builtin .append, args := #[s, x], argTypes := #[52, 52] })
    (base : Nat) (v : Value) (hv : a.eval s = v) (C : List Value) (hown : w.ownsRow base 23 1 v C.length C)
    (ao : Option Addr) (cap n : Nat) (D : List Value) (hx : a.eval x = .slice ao n cap) (hs : Sl w ao n cap D) (hone : ∀ u ∈ D, u.oneCell' = true) (hbytes : C.length + D.length ≤ 1000000000) (hbase : base ≤ w.heap.size)
    (h : ∀ v' w', w'.ownsRow base 23 1 v' (C ++ D).length (C ++ D) → w.grownBy w' v.ownBlock → (∀ g, v'.ownBlock = some g → v.ownBlock = some g ∨ w.heap.size ≤ g) → wpList Try.prog ops Q rest (a.put o.dst v') w') : wpList Try.prog ops Q (o :: rest) a w := by
  obtain ⟨i, hi, h0, h1, h2⟩ := info_parts info_legs
  have hsrc := Sl.src Try.underlying52 hs hone
  refine wpList_append_src hw s x 52 52 ho base 23 i (.slice none 0 0) 24 Try.underlying52 hi h0 h1 h2 rfl v hv C hown _ hx D hsrc (by omega) (by decide) hbase ?_
  intro v' w' h1 h2 h3
  exact h v' w' h1 h2 h3
end
/-- Entries with one more. -/
theorem RE.snoc {w W : World} {N : Nat → Prop} (hN : ∀ k, N k → k < w.heap.size) {ao : Option Addr} {cap : Nat} {E : List (List Lg)} {C : List Value} (h : RE w N ao cap E C) (hb : Below w.heap.size w W) {L : List Lg} {v v3 : Value} {B B3 : Nat} (hB : w.heap.size ≤ B) (hB3 : w.heap.size ≤ B3)
    (hr : W.ownsRow B 23 1 v (C ++ [v3]).length (C ++ [v3])) (h3 : OwG W B3 v3 L) : ∃ ao' cap', v = .slice ao' (E.length + 1) cap' ∧ RE W N ao' cap' (E ++ [L]) (C ++ [v3]) := by
  have hl : (C ++ [v3]).length = (E ++ [L]).length := by simp [h.cl]
  obtain ⟨ao', cap', e, hs, hlo⟩ := Sl.own hr
  obtain ⟨a3, c3, e3, hs3, hlo3⟩ := Rk.own h3
  rw [hl] at e hs
  refine ⟨ao', cap', by rw [e, List.length_append, List.length_singleton], hs, hl, fun a ha => ?_, fun i M hi => ?_⟩
  · have := hlo a.block (by rw [e, ha]; rfl)
    exact ⟨this.2, fun hn => by have := hN _ hn; omega⟩
  · by_cases hiE : i < E.length
    · rw [List.getElem?_append_left hiE] at hi
      obtain ⟨x, y, h1, h2, h4⟩ := h.ent i M hi
      exact ⟨x, y, by rw [List.getElem?_append_left (by rw [h.cl]; exact hiE)]; exact h1, h2.keeps hb, fun a ha => ⟨Nat.lt_of_lt_of_le (h4 a ha).1 hb.size, (h4 a ha).2⟩⟩
    · rw [List.getElem?_append_right (by omega)] at hi
      have hie : i = E.length := by
        have := (List.getElem?_eq_some_iff.1 hi).1
        simp at this; omega
      subst hie
      simp at hi
      subst hi
      refine ⟨a3, c3, by rw [List.getElem?_append_right (by rw [h.cl]; omega), h.cl, Nat.sub_self, ← e3]; rfl, hs3, fun a ha => ?_⟩
      have := hlo3 a.block (by rw [e3, ha]; rfl)
      exact ⟨this.2, fun hn => by have := hN _ hn; omega⟩
set_option maxRecDepth 20000 in
set_option maxHeartbeats 3200000 in
theorem rpost_any (w : World) (N : Nat → Prop) (hN : ∀ k, N k → k < w.heap.size) (ao : Option Addr) (cap : Nat) (E : List (List Lg)) (C : List Value) (h : RE w N ao cap E C) (hE : E.length ≤ 900) (hl : ∀ L ∈ E, L.length ≤ 100) (hr : ∀ L ∈ E, ∀ t ∈ L, -9223372036854775808 ≤ t.2 ∧ t.2 ≤ 9223372036854775807)
    (po : Option Addr) (pc : Nat) (L : List Lg) (hL : SlG w po pc L) (hLl : L.length ≤ 100) (hLr : ∀ t ∈ L, -9223372036854775808 ≤ t.2 ∧ t.2 ≤ 9223372036854775807) (s : List (List Lg) × Int × Int) (hs : rpostS E L = s) :
    Calls Try.prog 19 #[.slice ao E.length cap, .slice po L.length pc] w fun e w' => ∃ ao' cap', e = .returned (.tuple #[.slice ao' s.1.length cap', .int .i64 s.2.1, .int .i64 s.2.2]) ∧ REs w' N ao' cap' s.1 ∧ Below w.heap.size w w' := by
  obtain ⟨v, hv⟩ : ∃ v, rightG L = v := ⟨_, rfl⟩
  have HR := Lib.hid (lgr_any w po pc L hL (by omega) hLr v hv)
  have H := Lib.hid h
  have HLg := Lib.hid hL
  have HN := Lib.hid hN
  have HEn := Lib.hid hE
  have HLn := Lib.hid hLl
  unfold rpostS at hs
  rw [hv] at hs
  have HS := Lib.hid hs
  have HLL : Hid (∀ M ∈ E ++ [L], M.length ≤ 100) := by
    intro M hM
    rcases List.mem_append.1 hM with hM | hM
    · exact hl M hM
    · obtain rfl := List.mem_singleton.1 hM; exact hLl
  have HRR : Hid (∀ M ∈ E ++ [L], ∀ t ∈ M, -9223372036854775808 ≤ t.2 ∧ t.2 ≤ 9223372036854775807) := by
    intro M hM
    rcases List.mem_append.1 hM with hM | hM
    · exact hr M hM
    · obtain rfl := List.mem_singleton.1 hM; exact hLr
  have hE' : ¬ (4096 : Int) ≤ E.length := by omega
  clear hs h hL hN hl hr hLr hE hLl
  go_enter Try.func19, Try.ntmps19
  go_wp2_with fail
  refine HR.out.mono ?_
  rintro e w1 ⟨rfl, hb1⟩
  have HB1 := Lib.hid hb1
  clear hb1 HR
  cases v with
  | false =>
    obtain rfl : s = (E, 0, 131) := by rw [← HS.out, if_pos rfl]
    clear HS
    go_wp2
    exact bodyPost_ret (v := .tuple #[.slice ao E.length cap, .int .i64 0, .int .i64 131]) (by simp [results, Try.results19, go_sem]) rfl ⟨_, _, rfl, ⟨_, H.out.keeps HB1.out⟩, HB1.out⟩
  | true =>
    have HS2 : Hid ((if okN (E ++ [L]) 8 = true then (E ++ [L], (E.length : Int), 0) else (E, 0, 11)) = s) := by
      show _ = _
      rw [← HS.out, if_neg (show ¬ (true = false) by decide), if_neg (show ¬ 4096 ≤ E.length by have := HEn.out; omega)]
    clear HS
    have HB2 := Lib.hid (HB1.out.alloc HB1.out.size (.cells #[] 23))
    have HOw := Lib.hid (own_h0 w1)
    have HSl := Lib.hid (H.out.keeps HB2.out).sl
    have HOne := Lib.hid H.out.one
    have HCl := Lib.hid H.out.cl
    go_wp2_with (first | (refine ap_hd (by rfl) _ _ rfl w1.heap.size _ rfl [] HOw.out ao cap E.length C rfl HSl.out HOne.out (by have := HCl.out; have := HEn.out; simp; omega) (by simp) ?_) | fail)
    intro v2 w2 ho2 hg2 hd2
    have HB3 := Lib.hid (below_grown HOw.out hg2 HB1.out.size (Nat.le_refl _) HB2.out)
    have HO2 := Lib.hid ho2
    have HB4 := Lib.hid (HB3.out.alloc HB3.out.size (.cells #[] 48))
    have HO2a := Lib.hid (own_keeps HO2.out (below_new1 w2 (.cells #[] 48)))
    have HOg := Lib.hid (ownG_empty w2)
    have HLk := Lib.hid (HLg.out.keeps HB4.out)
    have HW1 := Lib.hid (own_base HO2.out)
    have HW12 := Lib.hid (Nat.le_trans (below_new1 w1 (.cells #[] 23)).size hg2.size)
    clear ho2 hg2 hd2 HOw HSl HB2
    go_wp2_with (first | (refine ap_lg (by rfl) _ _ rfl w2.heap.size _ rfl [] HOg.out po pc L rfl HLk.out (by have := HLn.out; simp; omega) (by simp) ?_) | fail)
    intro v3 w3 ho3 hg3 hd3
    obtain ⟨a3, c3, rfl, _⟩ := Rk.own ho3
    have HB5 := Lib.hid (below_grown HOg.out hg3 HB3.out.size (Nat.le_refl _) HB4.out)
    have HO3 := Lib.hid ho3
    have HO2b := Lib.hid (own_grown HO2a.out hg3 (fun g hg e => by
      have h1 := (HW1.out g hg).2
      have h2 := (own_base HOg.out g e).1
      omega))
    have HB6 := Lib.hid (HB5.out.alloc HB5.out.size (.cells #[.slice a3 L.length c3] 23))
    have HO2c := Lib.hid (own_keeps HO2b.out (below_new1 w3 (.cells #[.slice a3 L.length c3] 23)))
    have HO3a := Lib.hid (own_keeps HO3.out (below_new1 w3 (.cells #[.slice a3 L.length c3] 23)))
    have HSh := Lib.hid (sl_h1 w3 (.slice a3 L.length c3))
    have HV3 : Hid ((Value.slice a3 L.length c3).oneCell' = true) := rfl
    have HW3 := Lib.hid (own_base HO3a.out)
    have HWs := Lib.hid (show w1.heap.size ≤ w3.heap.size from Nat.le_trans HW12.out (Nat.le_trans (below_new1 w2 (.cells #[] 48)).size hg3.size))
    clear ho3 hg3 hd3 HOg HLk HO2a HO2 HB4
    go_wp2_with (first | (refine ap_hd (by rfl) _ _ rfl w1.heap.size _ rfl C HO2c.out _ 1 1 [.slice a3 L.length c3] rfl HSh.out (by intro u hu; obtain rfl := List.mem_singleton.1 hu; exact HV3.out) (by have := HCl.out; have := HEn.out; simp; omega) (by have := HWs.out; simp; omega) ?_) | fail)
    intro v4 w4 ho4 hg4 hd4
    have HB7 := Lib.hid (below_grown HO2c.out hg4 HB1.out.size (Nat.le_refl _) HB6.out)
    have HO3b := Lib.hid (own_grown HO3a.out hg4 (fun g hg e => by
      have h1 := (HW1.out g e).2
      have h2 := (HW3.out g hg).1
      omega))
    obtain ⟨ao', cap', e4, hre⟩ := H.out.snoc HN.out HB7.out HB1.out.size HB3.out.size (by rw [List.length_append, List.length_singleton]; exact ho4) HO3b.out
    have HRE := Lib.hid hre
    rw [e4]
    obtain ⟨C4, hC4⟩ : ∃ C4, C ++ [Value.slice a3 L.length c3] = C4 := ⟨_, rfl⟩
    rw [hC4] at HRE
    clear ho4 hg4 hd4 e4 hre hC4 HO3b HO3a HO2c HO2b HSh HW3 HB6 HB5 HWs
    go_wp2
    go_loopw [8] (fun i wr => ∃ k : Nat, k ≤ 8 ∧ i = .int .i64 k ∧ Hid (okN (E ++ [L]) k = true) ∧ Below w.heap.size w wr ∧ Hid (RE wr N ao' cap' (E ++ [L]) C4)) (fun i _ => 8 - (intOf i).toNat)
    case atStart => exact ⟨0, by omega, rfl, rfl, HB7.out, HRE.out⟩
    case round =>
      obtain ⟨k, hk, rfl, HK, hb, HREk⟩ := hrel
      by_cases hk8 : k < 8
      · have hkI : (k : Int) < 8 := by omega
        have HBl := Lib.hid (rbal_any wr N ao' cap' (E ++ [L]) C4 HREk.out (by have := HEn.out; simp; omega) HLL.out HRR.out k)
        rw [List.length_append, List.length_singleton] at HBl
        have HBk := Lib.hid hb
        clear hb
        go_wp2_with fail
        refine HBl.out.mono ?_
        rintro e w5 ⟨rfl, hb5⟩
        have HB8 := Lib.hid (below_on HBk.out HBk.out.size hb5)
        have HRE5 := Lib.hid (HREk.out.keeps hb5)
        clear hb5 HBl
        cases hi : inI (balE (E ++ [L]) k) with
        | true =>
          rw [cutI_inI hi]
          have HK1 := Lib.hid (okN_step HK.out hi)
          clear hi
          go_wp2
          go_roundw
          · exact ⟨k + 1, by omega, by go_num, HK1, HB8.out, HRE5⟩
          · simp [intOf]; omega
        | false =>
          rw [cutI_notI hi]
          obtain rfl : s = (E, 0, 11) := by rw [← HS2.out, okN_not hk8 hi]; rfl
          clear hi HS2
          go_wp2
          exact bodyPost_ret (v := .tuple #[.slice ao E.length cap, .int .i64 0, .int .i64 11]) (by simp [results, Try.results19, go_sem]) rfl ⟨_, _, rfl, ⟨_, H.out.keeps HB8.out⟩, HB8.out⟩
      · obtain rfl : k = 8 := by omega
        obtain rfl : s = (E ++ [L], (E.length : Int), 0) := by rw [← HS2.out, HK.out, if_pos rfl]
        clear HS2
        have HBk := Lib.hid hb
        clear hb
        go_wp2
        exact bodyPost_ret (v := .tuple #[.slice ao' (E.length + 1) cap', .int .i64 E.length, .int .i64 0]) (by simp [results, Try.results19, go_sem]) rfl ⟨_, _, rfl, ⟨_, HREk.out⟩, HBk.out⟩
theorem negG_take {L : List Lg} {j : Nat} {a x : Int} (h : L[j]? = some (a, x)) : negG (L.take (j + 1)) = negG (L.take j) ++ [(a, -x)] := by
  obtain ⟨hk, e⟩ := List.getElem?_eq_some_iff.1 h
  unfold negG
  rw [List.take_succ_eq_append_getElem hk, List.map_append, e]; rfl
set_option maxRecDepth 20000 in
set_option maxHeartbeats 3200000 in
theorem rrev_any (w : World) (N : Nat → Prop) (hN : ∀ k, N k → k < w.heap.size) (ao : Option Addr) (cap : Nat) (E : List (List Lg)) (C : List Value) (h : RE w N ao cap E C) (hE : E.length ≤ 900) (hl : ∀ L ∈ E, L.length ≤ 100) (hr : ∀ L ∈ E, ∀ t ∈ L, -9223372036854775808 ≤ t.2 ∧ t.2 ≤ 9223372036854775807)
    (k : Int) (s : List (List Lg) × Int × Int) (hs : rrevS E k = s) :
    Calls Try.prog 20 #[.slice ao E.length cap, .int .i64 k] w fun e w' => ∃ ao' cap', e = .returned (.tuple #[.slice ao' s.1.length cap', .int .i64 s.2.1, .int .i64 s.2.2]) ∧ REs w' N ao' cap' s.1 ∧ Below w.heap.size w w' := by
  have H := Lib.hid h
  have HN := Lib.hid hN
  have HEn := Lib.hid hE
  have HL := Lib.hid hl
  have HR := Lib.hid hr
  by_cases k0 : k < 0
  · obtain rfl : s = (E, 0, 132) := by rw [← hs, rrevS, if_neg (by omega)]
    clear hs h hN hE hl hr
    go_enter Try.func20, Try.ntmps20
    go_wp2
    exact bodyPost_ret (v := .tuple #[.slice ao E.length cap, .int .i64 0, .int .i64 132]) (by simp [results, Try.results20, go_sem]) rfl ⟨_, _, rfl, ⟨_, H.out⟩, Below.refl _ _⟩
  by_cases k1 : (E.length : Int) ≤ k
  · obtain rfl : s = (E, 0, 132) := by rw [← hs, rrevS, if_neg (by omega)]
    clear hs h hN hE hl hr
    go_enter Try.func20, Try.ntmps20
    go_wp2
    exact bodyPost_ret (v := .tuple #[.slice ao E.length cap, .int .i64 0, .int .i64 132]) (by simp [results, Try.results20, go_sem]) rfl ⟨_, _, rfl, ⟨_, H.out⟩, Below.refl _ _⟩
  obtain ⟨n, rfl⟩ := Int.eq_ofNat_of_zero_le (show 0 ≤ k by omega)
  have hn : n < E.length := by omega
  obtain ⟨L, hL⟩ : ∃ L, E[n]? = some L := ⟨_, List.getElem?_eq_getElem hn⟩
  have hLm := List.mem_of_getElem? hL
  have hs2 : (if okNeg L = true then rpostS E (negG L) else (E, 0, 11)) = s := by
    rw [← hs, rrevS, if_pos (show 0 ≤ (n : Int) ∧ (n : Int) < (E.length : Int) from ⟨by omega, by omega⟩), Int.toNat_natCast, List.getD_eq_getElem?_getD, hL]; rfl
  obtain ⟨po, pc, hC, hSG, _⟩ := h.ent n L hL
  have HS := Lib.hid hs2
  have HC := Lib.hid hC
  have HSG := Lib.hid hSG
  have hl100 : L.length ≤ 100 := hl L hLm
  have HL100 := Lib.hid hl100
  have HLr := Lib.hid (hr L hLm)
  have HO0 := Lib.hid (ownG_empty w)
  have HB0 := Lib.hid (below_new1 w (.cells #[] 48))
  have hcE := (h.keeps HB0.out).sl
  clear hs hs2 h hN hE hl hr hL hLm hC hSG
  go_enter Try.func20, Try.ntmps20
  go_wp2_with (first | (refine ix_re rfl _ _ rfl E.length ao cap C hcE rfl n hn rfl _ HC.out ?_; intro b off hcell) | fail)
  clear hcell hcE
  go_loopw [7, 25] (fun u i wr => ∃ j : Nat, j ≤ L.length ∧ i = .int .i64 j ∧ Hid (okNeg (L.take j) = true) ∧ Hid (OwG wr w.heap.size u (negG (L.take j))) ∧ Below w.heap.size w wr) (fun _ i _ => L.length - (intOf i).toNat)
  case atStart => exact ⟨0, by omega, rfl, rfl, HO0.out, HB0.out⟩
  case round =>
    obtain ⟨j, hj, rfl, HK, HO, hb⟩ := hrel
    by_cases hjl : j < L.length
    · obtain ⟨⟨a, x⟩, hx⟩ : ∃ t, L[j]? = some t := ⟨_, List.getElem?_eq_getElem hjl⟩
      have hw := HSG.out.keeps hb
      have HX := Lib.hid hx
      have hxr := HLr.out _ (List.mem_of_getElem? hx)
      replace hxr : -9223372036854775808 ≤ x ∧ x ≤ 9223372036854775807 := hxr
      by_cases hmin : x = -9223372036854775808
      · subst hmin
        obtain rfl : s = (E, 0, 11) := by rw [← HS.out, if_neg (by rw [okNeg_not (List.mem_of_getElem? HX.out) rfl]; decide)]
        have HBa := Lib.hid (hb.alloc hb.size (.cells #[.int .i64 a, .int .i64 (-9223372036854775808)] 48))
        clear hx hxr HS hb
        go_wp2_with (first | (refine ix_lg rfl _ _ rfl po pc L hw rfl j _ HX.out rfl ?_; intro b off d0 d1) | fail)
        exact bodyPost_ret (v := .tuple #[.slice ao E.length cap, .int .i64 0, .int .i64 11]) (by simp [results, Try.results20, go_sem]) rfl ⟨_, _, rfl, ⟨_, H.out.keeps HBa.out⟩, HBa.out⟩
      · have hneg : wrap64 (-x) = -x := by unfold wrap64; omega
        have qm : (x == -9223372036854775808) = false := by simpa using hmin
        have HK1 := Lib.hid (okNeg_take hx HK.out hmin)
        have HM1 := Lib.hid (negG_take hx)
        have hb1 := hb.alloc hb.size (.cells #[.int .i64 a, .int .i64 x] 48)
        have HB1 := Lib.hid (hb1.alloc hb1.size (.cells #[.int .i64 a, .int .i64 (-x)] 48))
        have HO1 := Lib.hid (own_keeps HO.out (below_new2 wr (.cells #[.int .i64 a, .int .i64 x] 48) (.cells #[.int .i64 a, .int .i64 (-x)] 48)))
        have hsl := sl_g1 (wr.alloc (.cells #[.int .i64 a, .int .i64 x] 48)) a (-x)
        rw [show (wr.alloc (.cells #[.int .i64 a, .int .i64 x] 48)).heap.size = wr.heap.size + 1 from by simp] at hsl
        have HSL := Lib.hid hsl
        obtain ⟨M, hM⟩ : ∃ M, negG (L.take j) = M := ⟨_, rfl⟩
        have hML : M.length ≤ 100 := by rw [← hM, negG_len, List.length_take]; omega
        rw [hM] at HO1 HM1
        have HML := Lib.hid hML
        clear hx hxr hM hb hb1 hsl hML HO
        go_wp2_with (first | (refine ix_lg rfl _ _ rfl po pc L hw rfl j _ HX.out rfl ?_; intro b off d0 d1) | (refine ap_lg (by rfl) _ _ rfl w.heap.size _ rfl M ?_ _ 1 [(a, -x)] rfl ?_ ?_ ?_ ?_))
        · exact HO1.out
        · exact HSL.out
        · have := HML.out; simp; omega
        · have := HB1.out.size; simpa using this
        · intro v' w' h1 h2 h3
          have HBn := Lib.hid (below_grown HO1.out h2 (Nat.le_refl _) (Nat.le_refl _) HB1.out)
          have HOn := Lib.hid h1
          clear h1 h2 h3
          go_wp2
          go_roundw
          · exact ⟨j + 1, by omega, by go_num, HK1, by rw [HM1.out]; exact HOn, HBn.out⟩
          · simp [intOf]; omega
    · obtain rfl : j = L.length := by omega
      have hK := HK.out
      rw [List.take_length] at HO hK
      have hS := HS.out
      rw [if_pos hK] at hS
      obtain ⟨a7, c7, rfl, hs7, _⟩ := Rk.own HO.out
      rw [negG_len] at hs7
      have hs7' : SlG wr a7 c7 (negG L) := by show Rk _ _ _ (negG L).length _ _; rw [negG_len]; exact hs7
      have HP := Lib.hid (rpost_any wr N (fun k hk => Nat.lt_of_lt_of_le (HN.out k hk) hb.size) ao cap E C (H.out.keeps hb) HEn.out HL.out HR.out a7 c7 (negG L) hs7' (by rw [negG_len]; exact HL100.out) (negG_in hK HLr.out) s hS)
      rw [negG_len] at HP ⊢
      have HBk := Lib.hid hb
      clear hK hS hs7 hs7' hb HK HS
      go_wp2_with fail
      refine HP.out.mono ?_
      rintro e w8 ⟨a8, c8, rfl, hre, hb8⟩
      have HRE := Lib.hid hre
      have HB8 := Lib.hid (below_on HBk.out HBk.out.size hb8)
      clear hre hb8 HP
      go_wp2
      exact bodyPost_ret (v := .tuple #[.slice a8 s.1.length c8, .int .i64 s.2.1, .int .i64 s.2.2]) (by simp [results, Try.results20, go_sem]) rfl ⟨_, _, rfl, HRE.out, HB8.out⟩
set_option maxRecDepth 20000 in
set_option maxHeartbeats 3200000 in
theorem rsame_any (w : World) (ao bo : Option Addr) (cap dap : Nat) (L : List Lg) (ha : SlG w ao cap L) (hb : SlG w bo dap L) (hl : L.length ≤ 1000) :
    Calls Try.prog 26 #[.slice ao L.length cap, .slice bo L.length dap] w fun e w' => e = .returned (.bool true) ∧ Below w.heap.size w w' := by
  have HA := Lib.hid ha
  have HB := Lib.hid hb
  clear ha hb
  go_enter Try.func26, Try.ntmps26
  go_wp2
  go_loopw [13] (fun i wr => ∃ j : Nat, j ≤ L.length ∧ i = .int .i64 j ∧ Below w.heap.size w wr) (fun i _ => L.length - (intOf i).toNat)
  case atStart => exact ⟨0, by omega, rfl, Below.refl _ _⟩
  case round =>
    obtain ⟨j, hj, rfl, hbj⟩ := hrel
    by_cases hjl : j < L.length
    · obtain ⟨⟨a, x⟩, hx⟩ : ∃ t, L[j]? = some t := ⟨_, List.getElem?_eq_getElem hjl⟩
      obtain ⟨g1, o1, rfl, hc1⟩ := (HA.out.keeps hbj).cells (by intro e; have h1 := rc_len lgc_len L; rw [e] at h1; simp at h1; omega)
      obtain ⟨g2, o2, rfl, hc2⟩ := (HB.out.keeps hbj).cells (by intro e; have h1 := rc_len lgc_len L; rw [e] at h1; simp at h1; omega)
      obtain ⟨d0, d1⟩ := lg_cells hc1 hx
      obtain ⟨e0, e1⟩ := lg_cells hc2 hx
      replace d0 : wr.cell? ⟨g1, o1 + j * 2, none⟩ = some (.int .i64 a) := d0
      replace d1 : wr.cell? ⟨g1, o1 + j * 2 + 1, none⟩ = some (.int .i64 x) := d1
      replace e0 : wr.cell? ⟨g2, o2 + j * 2, none⟩ = some (.int .i64 a) := e0
      replace e1 : wr.cell? ⟨g2, o2 + j * 2 + 1, none⟩ = some (.int .i64 x) := e1
      clear hx hc1 hc2
      go_wp2
      go_quiet (fail)
      go_wp2
      go_roundw
      · exact ⟨j + 1, by omega, by go_num, pw_belowN hbj _⟩
      · simp [intOf]; omega
    · obtain rfl : j = L.length := by omega
      go_wp2
      go_ret
      exact ⟨rfl, hbj⟩
end Go.Proofs.Yteghjdmalbcdfaa
