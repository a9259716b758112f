/-
  The walk of the reference's Add.
-/
import Derived.Test.YteghjdmalbcdfaaLgB
set_option linter.unusedVariables false
set_option linter.unusedSimpArgs false
namespace Go.Proofs.Yteghjdmalbcdfaa
open Go.RowKit Dg

set_option maxRecDepth 8000 in
set_option maxHeartbeats 3200000 in
theorem rladd_any (w : World) (T : List Int) (hT8 : T.length = 8) (hTr : ∀ x ∈ T, -9223372036854775808 ≤ x ∧ x ≤ 9223372036854775807) (ao : Option Addr) (cap : Nat) (L : List Lg) (h : SlG w ao cap L) (hl : L.length ≤ 1000) (hr : ∀ t ∈ L, -9223372036854775808 ≤ t.2 ∧ t.2 ≤ 9223372036854775807) (s : List Int × Int) (hs : addS T L = s) :
    Calls Try.prog 9 #[.agg (ia T), .slice ao L.length cap] w fun e w' => e = .returned (.tuple #[.agg (ia s.1), .int .i64 s.2]) ∧ Below w.heap.size w w' := by
  have HS := Lib.hid hs
  have HB0 := Lib.hid (below_new2 w (.cells (ic T).toArray 22) (.cells (ic z8).toArray 22))
  have HA0 := Lib.hid ((Blk.new w 22 (ic T)).alloc (.cells (ic z8).toArray 22))
  have HR0 := Lib.hid (Blk.new2 w (.cells (ic T).toArray 22) 22 (ic z8))
  have HR := Lib.hid (fun W (hb : Below w.heap.size w W) => lgr_any W ao cap L (h.keeps hb) (by omega) hr _ rfl)
  have H := Lib.hid h
  have H8 := Lib.hid hT8
  obtain ⟨v, hv⟩ : ∃ v, rightG L = v := ⟨_, rfl⟩
  rw [hv] at HR
  clear hs h
  go_enter Try.func9, Try.ntmps9
  go_wp2_with fail
  refine (HR.out _ HB0.out).mono ?_
  rintro e w1 ⟨rfl, hb1⟩
  have HB1 := Lib.hid (below_on HB0.out HB0.out.size hb1)
  have HA1 := Lib.hid (HA0.out.keeps hb1)
  have HR1 := Lib.hid (HR0.out.keeps hb1)
  clear hb1
  cases v with
  | false =>
    have HF : Hid (s = (z8, 131)) := by show _ = _; rw [← HS.out]; unfold addS; rw [hv]; rfl
    have HTH := Lib.hid (HR1.out.thereMid 0 8 (by decide))
    clear hv HS
    go_wp2_with (refine st_i8 rfl _ _ rfl (w.heap.size + 1) 0 rfl z8 rfl rfl HTH.out ?_)
    intro W2 hW
    have HR2 : Hid (Blk W2 (w.heap.size + 1) 22 (ic z8)) := by show Blk _ _ _ _; rw [hW.out]; exact HR1.out.setAll _ rfl
    have HB2 : Hid (Below w.heap.size w W2) := by show Below _ _ _; rw [hW.out]; exact below_setCells _ _ HB1.out (Nat.le_succ _)
    clear hW
    go_wp2
    exact bodyPost_ret (v := .tuple #[.agg (ia z8), .int .i64 131]) (res_i8 Try.results9 _ _ _ z8 rfl _ rfl rfl HR2.out) rfl ⟨by rw [HF.out], HB2.out⟩
  | true =>
    have HV := Lib.hid hv
    have HT := Lib.hid hTr
    have HRL := Lib.hid hr
    have HSum := Lib.hid (fun W ao cap (J : List Int) (h : Sl W ao J.length cap (ic J)) h1 h2 => rsum_any W ao cap J h h1 h2)
    obtain ⟨c, hc⟩ : ∃ c, w1.heap.size = c := ⟨_, rfl⟩
    have HCsz := Lib.hid (show w.heap.size + 2 ≤ c by have := HR1.out.lt; omega)
    have HC1 := Lib.hid (Blk.new w1 22 (ic z8))
    have HAc := Lib.hid (HA1.out.alloc (.cells (ic z8).toArray 22))
    have HRc := Lib.hid (HR1.out.alloc (.cells (ic z8).toArray 22))
    have HBc := Lib.hid (HB1.out.alloc HB1.out.size (.cells (ic z8).toArray 22))
    rw [hc] at HC1
    have HTHc := Lib.hid (HC1.out.thereMid 0 8 (by decide))
    clear hv hTr hr HR
    go_wp2_with (first | (refine ld_i8 rfl _ rfl w.heap.size 0 rfl T H8.out HA1.out.range ?_) | (refine st_i8 rfl _ _ rfl c 0 rfl T rfl H8.out HTHc.out ?_))
    intro W2 hW
    have hcz := HCsz.out
    have HC2 : Hid (Blk W2 c 22 (ic T)) := by show Blk _ _ _ _; rw [hW.out]; exact HC1.out.setAll _ (by rw [ic_len, ic_len, H8.out]; rfl)
    have HA2 : Hid (Blk W2 w.heap.size 22 (ic T)) := by show Blk _ _ _ _; rw [hW.out]; exact HAc.out.otherCells _ _ (by omega)
    have HR2 : Hid (Blk W2 (w.heap.size + 1) 22 (ic z8)) := by show Blk _ _ _ _; rw [hW.out]; exact HRc.out.otherCells _ _ (by omega)
    have HB2 : Hid (Below w.heap.size w W2) := by show Below _ _ _; rw [hW.out]; exact below_setCells _ _ HBc.out (by omega)
    clear hW hcz HC1 HAc HRc HBc HTHc hc
    go_wp2
    go_loopw [18] (fun i wr => ∃ k : Nat, k ≤ 8 ∧ i = .int .i64 k ∧ Hid (okK T L k = true) ∧ Hid (Blk wr c 22 (ic (mixT T L k))) ∧ Hid (Blk wr w.heap.size 22 (ic T)) ∧ Hid (Blk wr (w.heap.size + 1) 22 (ic z8)) ∧ Below w.heap.size w wr) (fun i _ => 8 - (intOf i).toNat)
    case atStart => exact ⟨0, by omega, rfl, rfl, by show Blk _ _ _ _; rw [mixT_zero H8.out]; exact HC2.out, HA2.out, HR2.out, HB2.out⟩
    case round =>
      obtain ⟨k, hk, rfl, HK, HC, HA, HRz, hb⟩ := hrel
      by_cases hk8 : k < 8
      · have c0 := HA.out.cell k _ (ic_at (show T[k]? = some (T.getD k 0) by rw [List.getD_eq_getElem?_getD, List.getElem?_eq_getElem (by rw [H8.out]; exact hk8)]; rfl))
        obtain ⟨x, hx⟩ : ∃ x, T.getD k 0 = x := ⟨_, rfl⟩
        have hxr := getD_in HT.out k
        rw [hx] at c0 hxr
        have HX := Lib.hid hx
        have hkI : (k : Int) < 8 := by omega
        have HBa := Lib.hid (hb.alloc hb.size (.cells #[.int .i64 x] 2))
        have HAa := Lib.hid (HA.out.alloc (.cells #[.int .i64 x] 2))
        have HRa := Lib.hid (HRz.out.alloc (.cells #[.int .i64 x] 2))
        have HCa := Lib.hid (HC.out.alloc (.cells #[.int .i64 x] 2))
        have hsz := HC.out.lt
        have HO0 := Lib.hid (own_down (own_i1 wr x) (show c + 1 ≤ wr.heap.size by omega))
        have HI := Lib.hid hxr
        obtain ⟨n, hn⟩ : ∃ n, wr.heap.size = n := ⟨_, rfl⟩
        rw [hn] at HO0
        clear hx hsz hxr
        go_wp2
        go_loopw [8, 27] (fun o i wq => ∃ j : Nat, j ≤ L.length ∧ i = .int .i64 j ∧ Hid (OwI wq (c + 1) o (x :: accG (L.take j) k)) ∧ Hid (Blk wq c 22 (ic (mixT T L k))) ∧ Hid (Blk wq w.heap.size 22 (ic T)) ∧ Hid (Blk wq (w.heap.size + 1) 22 (ic z8)) ∧ Below w.heap.size w wq) (fun _ i _ => L.length - (intOf i).toNat)
        case atStart => exact ⟨0, by omega, rfl, by show OwI _ _ _ (x :: accG (L.take 0) k); rw [show accG (L.take 0) (k : Int) = [] from by simp [accG]]; exact HO0.out, HCa.out, HAa.out, HRa.out, HBa.out⟩
        case round =>
          obtain ⟨j, hj, rfl, HO, HCj, HAj, HRj, hbj⟩ := hrel
          have hcz := HCsz.out
          by_cases hjl : j < L.length
          · obtain ⟨⟨d, y⟩, ht⟩ : ∃ t, L[j]? = some t := ⟨_, List.getElem?_eq_getElem hjl⟩
            have HT2 := Lib.hid ht
            have hw := H.out.keeps (hbj.mono (Nat.le_refl _))
            by_cases hck : d = k
            · have HM := Lib.hid (accG_yes ht (show (d, y).1 = (k : Int) from hck))
              subst hck
              have hb1 := hbj.alloc hbj.size (.cells #[.int .i64 k, .int .i64 y] 48)
              have HB1' := Lib.hid (hb1.alloc hb1.size (.cells #[.int .i64 y] 2))
              have HO1 := Lib.hid (own_keeps HO.out (below_new2 wr (.cells #[.int .i64 k, .int .i64 y] 48) (.cells #[.int .i64 y] 2)))
              have hsl := sl_i1 (wr.alloc (.cells #[.int .i64 k, .int .i64 y] 48)) y
              rw [show (wr.alloc (.cells #[.int .i64 k, .int .i64 y] 48)).heap.size = wr.heap.size + 1 from by simp] at hsl
              have HSL := Lib.hid hsl
              have HA1' := Lib.hid ((HAj.out.alloc (.cells #[.int .i64 k, .int .i64 y] 48)).alloc (.cells #[.int .i64 y] 2))
              have HC1' := Lib.hid ((HCj.out.alloc (.cells #[.int .i64 k, .int .i64 y] 48)).alloc (.cells #[.int .i64 y] 2))
              have HR1' := Lib.hid ((HRj.out.alloc (.cells #[.int .i64 k, .int .i64 y] 48)).alloc (.cells #[.int .i64 y] 2))
              have hlen := accG_len (L.take j) k
              rw [List.length_take] at hlen
              obtain ⟨M, hM⟩ : ∃ M, accG (L.take j) k = M := ⟨_, rfl⟩
              rw [hM] at HO1 HM hlen
              have HLN := Lib.hid hlen
              have HSZ := Lib.hid (show c + 1 ≤ wr.heap.size from HCj.out.lt)
              clear hsl hb1 hM ht hlen HO
              go_wp2_with (first | (refine ix_lg rfl _ _ rfl ao cap L hw rfl j _ HT2.out rfl ?_; intro b off d0 d1) | (refine ap_i rfl _ _ rfl (c + 1) _ rfl (x :: M) ?_ _ 1 [y] rfl ?_ ?_ ?_ ?_))
              · exact HO1.out
              · exact HSL.out
              · have := HLN.out; simp; omega
              · have := HSZ.out; simp; omega
              · intro v' w' h1 h2 h3
                have HCn := Lib.hid (HC1'.out.grown h2 (own_lt HO1.out (by omega)))
                have HAn := Lib.hid (HA1'.out.grown h2 (own_lt HO1.out (by omega)))
                have HRn := Lib.hid (HR1'.out.grown h2 (own_lt HO1.out (by omega)))
                have HBn := Lib.hid (below_grown HO1.out h2 (show w.heap.size ≤ c + 1 by omega) (Nat.le_refl _) HB1'.out)
                have HOn := Lib.hid h1
                clear h1 h2 h3
                go_wp2
                go_roundw
                · exact ⟨j + 1, by omega, by go_num, by rw [HM.out]; exact HOn.out, HCn.out, HAn.out, HRn.out, HBn.out⟩
                · simp [intOf]; omega
            · have HM := Lib.hid (accG_no ht (show ¬ (d, y).1 = (k : Int) from hck))
              have HB1' := Lib.hid (hbj.alloc hbj.size (.cells #[.int .i64 d, .int .i64 y] 48))
              have HO1 := Lib.hid (own_keeps HO.out (below_new1 wr (.cells #[.int .i64 d, .int .i64 y] 48)))
              have HA1' := Lib.hid (HAj.out.alloc (.cells #[.int .i64 d, .int .i64 y] 48))
              have HC1' := Lib.hid (HCj.out.alloc (.cells #[.int .i64 d, .int .i64 y] 48))
              have HR1' := Lib.hid (HRj.out.alloc (.cells #[.int .i64 d, .int .i64 y] 48))
              clear ht
              go_wp2_with (first | (refine ix_lg rfl _ _ rfl ao cap L hw rfl j _ HT2.out rfl ?_; intro b off d0 d1))
              go_roundw
              · exact ⟨j + 1, by omega, by go_num, by rw [HM.out]; exact HO1.out, HC1'.out, HA1'.out, HR1'.out, HB1'.out⟩
              · simp [intOf]; omega
          · obtain rfl : j = L.length := by omega
            have hO := HO.out
            rw [List.take_length] at hO
            have hlen := accG_len L k
            have HJr := Lib.hid (show ∀ z ∈ (x :: accG L k), -9223372036854775808 ≤ z ∧ z ≤ 9223372036854775807 from fun z hz => by
              rcases List.mem_cons.1 hz with rfl | hz
              · exact HI.out
              · exact accG_in HRL.out k z hz)
            have HJl := Lib.hid (show (x :: accG L k).length ≤ 1000000 by simp; omega)
            have HE : Hid (sumI (x :: accG L k) = sumAt T L k) := by show _ = _; unfold sumAt; rw [HX.out]; rfl
            obtain ⟨J, hJ⟩ : ∃ J, x :: accG L k = J := ⟨_, rfl⟩
            rw [hJ] at hO HJr HJl HE
            obtain ⟨ao1, cap1, rfl, hs1⟩ := OwI.sl hO
            have HS1 := Lib.hid (HSum.out wr ao1 cap1 _ hs1 HJl.out HJr.out)
            rw [HE.out] at HS1
            clear hJ
            have hci : (k : Int) < 8 := by omega
            obtain ⟨z, hz⟩ : ∃ z, sumAt T L k = z := ⟨_, rfl⟩
            have HSET := Lib.hid (mixT_set T L hk8)
            have HOS := Lib.hid (fun h2 => okK_step HK.out h2)
            have HON := Lib.hid (fun h2 => okK_not (T := T) (L := L) hk8 h2)
            rw [hz] at HS1 HSET HOS HON
            clear hO hs1 hlen HO hz HE
            go_wp2_with fail
            refine HS1.out.mono ?_
            rintro e w2 ⟨rfl, hb2⟩
            have HCk := Lib.hid (HCj.out.keeps hb2)
            have HAk := Lib.hid (HAj.out.keeps hb2)
            have HRk := Lib.hid (HRj.out.keeps hb2)
            have HBk := Lib.hid (below_on hbj hbj.size hb2)
            have d0 := HCk.out.cell k _ (ic_at (mixT_same hk8 (Nat.le_refl _)))
            have d1 := HCk.out.frozen k
            clear hb2
            cases hin : inI z with
            | true =>
              have hcz := cutI_inI hin
              rw [hcz]
              have HK1 := Lib.hid (HOS.out hin)
              clear hcz hin
              go_wp2
              go_roundw
              · exact ⟨k + 1, by omega, by go_num, HK1, by show Blk _ _ _ _; rw [← HSET.out]; exact HCk.out.ic_set k z, HAk.out.other _ _ (by show w.heap.size ≠ c; omega), HRk.out.other _ _ (by show w.heap.size + 1 ≠ c; omega), HBk.out.setCell (by show w.heap.size ≤ c; omega) _⟩
              · simp [intOf]; omega
            | false =>
              have hcz := cutI_notI hin
              rw [hcz]
              have HF : Hid (s = (z8, 11)) := by show _ = _; rw [← HS.out]; unfold addS; rw [if_pos HV.out, if_neg (by rw [HON.out hin]; decide)]
              have HTH := Lib.hid (HRk.out.thereMid 0 8 (by decide))
              clear hcz hin
              go_wp2_with (refine st_i8 rfl _ _ rfl (w.heap.size + 1) 0 rfl z8 rfl rfl HTH.out ?_)
              intro W2 hW
              have HR2 : Hid (Blk W2 (w.heap.size + 1) 22 (ic z8)) := by show Blk _ _ _ _; rw [hW.out]; exact HRk.out.setAll _ rfl
              have HB2 : Hid (Below w.heap.size w W2) := by show Below _ _ _; rw [hW.out]; exact below_setCells _ _ HBk.out (Nat.le_succ _)
              clear hW
              go_wp2
              exact bodyPost_ret (v := .tuple #[.agg (ia z8), .int .i64 11]) (res_i8 Try.results9 _ _ _ z8 rfl _ rfl rfl HR2.out) rfl ⟨by rw [HF.out], HB2.out⟩
      · obtain rfl : k = 8 := by omega
        have HF : Hid (s = (newT T L, 0)) := by show _ = _; rw [← HS.out]; unfold addS; rw [if_pos HV.out, if_pos HK.out]
        have HTH := Lib.hid (HRz.out.thereMid 0 8 (by decide))
        obtain ⟨N8, hN⟩ : ∃ N8, mixT T L 8 = N8 := ⟨_, rfl⟩
        have HN := Lib.hid (show N8.length = 8 by rw [← hN]; exact mixT_len _ _ _)
        rw [show newT T L = N8 from hN] at HF
        rw [hN] at HC
        clear hN
        go_wp2_with (first | (refine ld_i8 rfl _ rfl c 0 rfl N8 HN.out HC.out.range ?_) | (refine st_i8 rfl _ _ rfl (w.heap.size + 1) 0 rfl N8 rfl HN.out HTH.out ?_))
        intro W2 hW
        have HR2 : Hid (Blk W2 (w.heap.size + 1) 22 (ic N8)) := by show Blk _ _ _ _; rw [hW.out]; exact HRz.out.setAll _ (by rw [ic_len, ic_len, HN.out]; rfl)
        have HB2 : Hid (Below w.heap.size w W2) := by show Below _ _ _; rw [hW.out]; exact below_setCells _ _ hb (Nat.le_succ _)
        clear hW
        go_wp2
        exact bodyPost_ret (v := .tuple #[.agg (ia N8), .int .i64 0]) (res_i8 Try.results9 _ _ _ N8 HN.out _ rfl rfl HR2.out) rfl ⟨by rw [HF.out], HB2.out⟩
end Go.Proofs.Yteghjdmalbcdfaa
