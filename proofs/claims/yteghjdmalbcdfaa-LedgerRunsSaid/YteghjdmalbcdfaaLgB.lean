/-
  The walk of ledger.Add.
-/
import Derived.Test.YteghjdmalbcdfaaLgA
import Derived.Test.YteghjdmalbcdfaaLgP
set_option linter.unusedVariables false
set_option linter.unusedSimpArgs false
namespace Go.Proofs.Yteghjdmalbcdfaa
open Go.RowKit Dg

theorem Blk.grown {w w' : World} {b T : Nat} {C : List Value} {ob : Option Nat} (h : Blk w b T C) (hg : w.grownBy w' ob) (hne : ∀ g, ob = some g → b < g) : Blk w' b T C := by
  refine ⟨?_⟩
  have := hg.block b h.lt (fun e => by have := hne b e.symm; omega)
  rw [this]; exact h.at_
theorem own_lt {w : World} {base e S n : Nat} {v : Value} {C : List Value} (h : w.ownsRow base e S v n C) {b : Nat} (hb : b < base) : ∀ g, v.ownBlock = some g → b < g := fun g hg => by
  have := (World.ownsRow.lt h g hg).1; omega
theorem own_i1 (w : World) (x : Int) : OwI (w.alloc (.cells #[.int .i64 x] 2)) w.heap.size (.slice (some ⟨w.heap.size, 0, none⟩) 1 1) [x] :=
  ⟨rfl, .inr ⟨_, 1, #[.int .i64 x], rfl, Nat.le_refl _, heap_alloc_new w _, Nat.le_refl _, by decide, rfl, rfl⟩⟩
theorem at_i8 (w : World) (b : Nat) (M : List Int) (hl : M.length = 8) (h : Blk w b 22 (ic M)) : (Instr.loadAt 22 (.pointer (some ⟨b, 0, none⟩))).run Try.prog w = .ok (.agg (ia M)) w :=
  run_loadAt_mid w b 0 _ (ic M) _ h.range Try.underlying22 rfl (by rw [ic_len, hl]; exact info_i8)
/-- Two results: a variable's cells, and a slot. -/
theorem res_i8 {fn : Func} {p q : Tmp} (h : fn.results = #[.cell p 22, .tmp q]) (tmps : Array Value) (w : World) (g : Nat) (M : List Int) (hl : M.length = 8) (v : Value)
    (hp : tmps.getD p undef = .pointer (some ⟨g, 0, none⟩)) (hq : tmps.getD q undef = v) (hg : Blk w g 22 (ic M)) : (results fn tmps).run Try.prog w = .ok (.tuple #[.agg (ia M), v]) w := by
  have hp' : tmps[p]?.getD undef = .pointer (some ⟨g, 0, none⟩) := by simpa using hp
  have hq' : tmps[q]?.getD undef = v := by simpa using hq
  have hr := run_loadVar_row (P := Try.prog) w g 22 22 (ia M) _ _ hg.at_ Try.underlying22 rfl (by rw [ia_size, hl]; exact info_i8)
  simp [results, h, hp', hq', asAddr, hr]
theorem ret_addG {a c : List Int} {b d : Int} (h : a = c) (h' : b = d) : Ending.returned (.tuple #[.agg (ia a), .int .i64 b]) = .returned (.tuple #[.agg (ia c), .int .i64 d]) := by rw [h, h']
set_option maxRecDepth 8000 in
set_option maxHeartbeats 3200000 in
theorem ladd_any (w : World) (T : List Int) (hT8 : T.length = 8) (hTr : ∀ x ∈ T, -9223372036854775808 ≤ x ∧ x ≤ 9223372036854775807) (ao : Option Addr) (cap : Nat) (L : List Lg) (h : SlG w ao cap L) (hl : L.length ≤ 1000) (hr : ∀ t ∈ L, -9223372036854775808 ≤ t.2 ∧ t.2 ≤ 9223372036854775807) (s : List Int × Int) (hs : addS T L = s) :
    Calls Try.prog 8 #[.agg (ia T), .slice ao L.length cap] w fun e w' => e = .returned (.tuple #[.agg (ia s.1), .int .i64 s.2]) ∧ Below w.heap.size w w' := by
  have HS := Lib.hid hs
  have HB0 := Lib.hid (below_new2 w (.cells (ic T).toArray 22) (.cells (ic z8).toArray 22))
  have HA0 := Lib.hid ((Blk.new w 22 (ic T)).alloc (.cells (ic z8).toArray 22))
  have HR0 := Lib.hid (Blk.new2 w (.cells (ic T).toArray 22) 22 (ic z8))
  have HR := Lib.hid (fun W (hb : Below w.heap.size w W) => lg_any W ao cap L (h.keeps hb) (by omega) hr _ rfl)
  have H := Lib.hid h
  have H8 := Lib.hid hT8
  obtain ⟨v, hv⟩ : ∃ v, rightG L = v := ⟨_, rfl⟩
  rw [hv] at HR
  clear hs h
  go_enter Try.func8, Try.ntmps8
  go_wp2_with fail
  refine (HR.out _ HB0.out).mono ?_
  rintro e w1 ⟨rfl, hb1⟩
  have HB1 := Lib.hid (below_on HB0.out HB0.out.size hb1)
  have HA1 := Lib.hid (HA0.out.keeps hb1)
  have HR1 := Lib.hid (HR0.out.keeps hb1)
  clear hb1
  cases v with
  | false =>
    have HF : Hid (s = (z8, 131)) := by show _ = _; rw [← HS.out]; unfold addS; rw [hv]; rfl
    have HTH := Lib.hid (HR1.out.thereMid 0 8 (by decide))
    clear hv HS
    go_wp2_with (refine st_i8 rfl _ _ rfl (w.heap.size + 1) 0 rfl z8 rfl rfl HTH.out ?_)
    intro W2 hW
    have HR2 : Hid (Blk W2 (w.heap.size + 1) 22 (ic z8)) := by show Blk _ _ _ _; rw [hW.out]; exact HR1.out.setAll _ rfl
    have HB2 : Hid (Below w.heap.size w W2) := by show Below _ _ _; rw [hW.out]; exact below_setCells _ _ HB1.out (Nat.le_succ _)
    clear hW
    go_wp2
    exact bodyPost_ret (v := .tuple #[.agg (ia z8), .int .i64 131]) (res_i8 Try.results8 _ _ _ z8 rfl _ rfl rfl HR2.out) rfl ⟨by rw [HF.out], HB2.out⟩
  | true =>
    have HV := Lib.hid hv
    have HT := Lib.hid hTr
    have HRL := Lib.hid hr
    have HSum := Lib.hid (fun W ao cap (J : List Int) (h : Sl W ao J.length cap (ic J)) h1 h2 => sum_any W ao cap J h h1 h2)
    clear hv hTr hr HR
    go_wp2
    go_loopw [16] (fun i wr => ∃ k : Nat, k ≤ 8 ∧ i = .int .i64 k ∧ Hid (okK T L k = true) ∧ Hid (Blk wr w.heap.size 22 (ic (mixT T L k))) ∧ Hid (Blk wr (w.heap.size + 1) 22 (ic z8)) ∧ Below w.heap.size w wr) (fun i _ => 8 - (intOf i).toNat)
    case atStart => exact ⟨0, by omega, rfl, rfl, by show Blk _ _ _ _; rw [mixT_zero H8.out]; exact HA1.out, HR1.out, HB1.out⟩
    case round =>
      obtain ⟨k, hk, rfl, HK, HA, HRz, hb⟩ := hrel
      by_cases hk8 : k < 8
      · have c0 := HA.out.cell k _ (ic_at (mixT_same hk8 (Nat.le_refl _)))
        obtain ⟨x, hx⟩ : ∃ x, T.getD k 0 = x := ⟨_, rfl⟩
        have hxr := getD_in HT.out k
        rw [hx] at c0 hxr
        have HX := Lib.hid hx
        have hkI : (k : Int) < 8 := by omega
        have HBa := Lib.hid (hb.alloc hb.size (.cells #[.int .i64 x] 2))
        have HAa := Lib.hid (HA.out.alloc (.cells #[.int .i64 x] 2))
        have HRa := Lib.hid (HRz.out.alloc (.cells #[.int .i64 x] 2))
        have hsz := HRz.out.lt
        have HO0 := Lib.hid (own_down (own_i1 wr x) (show w.heap.size + 2 ≤ wr.heap.size by omega))
        have HI := Lib.hid hxr
        obtain ⟨n, hn⟩ : ∃ n, wr.heap.size = n := ⟨_, rfl⟩
        rw [hn] at HO0
        clear hx hsz hxr
        go_wp2
        go_loopw [7, 25] (fun o i wq => ∃ j : Nat, j ≤ L.length ∧ i = .int .i64 j ∧ Hid (OwI wq (w.heap.size + 2) o (x :: accG (L.take j) k)) ∧ Hid (Blk wq w.heap.size 22 (ic (mixT T L k))) ∧ Hid (Blk wq (w.heap.size + 1) 22 (ic z8)) ∧ Below w.heap.size w wq) (fun _ i _ => L.length - (intOf i).toNat)
        case atStart => exact ⟨0, by omega, rfl, by show OwI _ _ _ (x :: accG (L.take 0) k); rw [show accG (L.take 0) (k : Int) = [] from by simp [accG]]; exact HO0.out, HAa.out, HRa.out, HBa.out⟩
        case round =>
          obtain ⟨j, hj, rfl, HO, HAj, HRj, hbj⟩ := hrel
          by_cases hjl : j < L.length
          · obtain ⟨⟨c, y⟩, ht⟩ : ∃ t, L[j]? = some t := ⟨_, List.getElem?_eq_getElem hjl⟩
            have HT2 := Lib.hid ht
            have hw := H.out.keeps (hbj.mono (Nat.le_refl _))
            by_cases hck : c = k
            · have HM := Lib.hid (accG_yes ht (show (c, y).1 = (k : Int) from hck))
              subst hck
              have hb1 := hbj.alloc hbj.size (.cells #[.int .i64 k, .int .i64 y] 48)
              have HB1' := Lib.hid (hb1.alloc hb1.size (.cells #[.int .i64 y] 2))
              have HO1 := Lib.hid (own_keeps HO.out (below_new2 wr (.cells #[.int .i64 k, .int .i64 y] 48) (.cells #[.int .i64 y] 2)))
              have hsl := sl_i1 (wr.alloc (.cells #[.int .i64 k, .int .i64 y] 48)) y
              rw [show (wr.alloc (.cells #[.int .i64 k, .int .i64 y] 48)).heap.size = wr.heap.size + 1 from by simp] at hsl
              have HSL := Lib.hid hsl
              have HA1' := Lib.hid ((HAj.out.alloc (.cells #[.int .i64 k, .int .i64 y] 48)).alloc (.cells #[.int .i64 y] 2))
              have HR1' := Lib.hid ((HRj.out.alloc (.cells #[.int .i64 k, .int .i64 y] 48)).alloc (.cells #[.int .i64 y] 2))
              have hlen := accG_len (L.take j) k
              rw [List.length_take] at hlen
              obtain ⟨M, hM⟩ : ∃ M, accG (L.take j) k = M := ⟨_, rfl⟩
              rw [hM] at HO1 HM hlen
              have HLN := Lib.hid hlen
              have HSZ := Lib.hid (show w.heap.size + 2 ≤ wr.heap.size from HRj.out.lt)
              clear hsl hb1 hM ht hlen HO
              go_wp2_with (first | (refine ix_lg rfl _ _ rfl ao cap L hw rfl j _ HT2.out rfl ?_; intro b off d0 d1) | (refine ap_i rfl _ _ rfl (w.heap.size + 2) _ rfl (x :: M) ?_ _ 1 [y] rfl ?_ ?_ ?_ ?_))
              · exact HO1.out
              · exact HSL.out
              · have := HLN.out; simp; omega
              · have := HSZ.out; simp; omega
              · intro v' w' h1 h2 h3
                have HAn := Lib.hid (HA1'.out.grown h2 (own_lt HO1.out (by omega)))
                have HRn := Lib.hid (HR1'.out.grown h2 (own_lt HO1.out (by omega)))
                have HBn := Lib.hid (below_grown HO1.out h2 (show w.heap.size ≤ w.heap.size + 2 by omega) (Nat.le_refl _) HB1'.out)
                have HOn := Lib.hid h1
                clear h1 h2 h3
                go_wp2
                go_roundw
                · exact ⟨j + 1, by omega, by go_num, by rw [HM.out]; exact HOn.out, HAn.out, HRn.out, HBn.out⟩
                · simp [intOf]; omega
            · have HM := Lib.hid (accG_no ht (show ¬ (c, y).1 = (k : Int) from hck))
              have HB1' := Lib.hid (hbj.alloc hbj.size (.cells #[.int .i64 c, .int .i64 y] 48))
              have HO1 := Lib.hid (own_keeps HO.out (below_new1 wr (.cells #[.int .i64 c, .int .i64 y] 48)))
              have HA1' := Lib.hid (HAj.out.alloc (.cells #[.int .i64 c, .int .i64 y] 48))
              have HR1' := Lib.hid (HRj.out.alloc (.cells #[.int .i64 c, .int .i64 y] 48))
              clear ht
              go_wp2_with (first | (refine ix_lg rfl _ _ rfl ao cap L hw rfl j _ HT2.out rfl ?_; intro b off d0 d1))
              go_roundw
              · exact ⟨j + 1, by omega, by go_num, by rw [HM.out]; exact HO1.out, HA1'.out, HR1'.out, HB1'.out⟩
              · simp [intOf]; omega
          · obtain rfl : j = L.length := by omega
            have hO := HO.out
            rw [List.take_length] at hO
            have hlen := accG_len L k
            have HJr := Lib.hid (show ∀ z ∈ (x :: accG L k), -9223372036854775808 ≤ z ∧ z ≤ 9223372036854775807 from fun z hz => by
              rcases List.mem_cons.1 hz with rfl | hz
              · exact HI.out
              · exact accG_in HRL.out k z hz)
            have HJl := Lib.hid (show (x :: accG L k).length ≤ 1000000 by simp; omega)
            have HE : Hid (sumI (x :: accG L k) = sumAt T L k) := by show _ = _; unfold sumAt; rw [HX.out]; rfl
            obtain ⟨J, hJ⟩ : ∃ J, x :: accG L k = J := ⟨_, rfl⟩
            rw [hJ] at hO HJr HJl HE
            obtain ⟨ao1, cap1, rfl, hs1⟩ := OwI.sl hO
            have HS1 := Lib.hid (HSum.out wr ao1 cap1 _ hs1 HJl.out HJr.out)
            rw [HE.out] at HS1
            clear hJ
            have hci : (k : Int) < 8 := by omega
            have d0 := HAj.out.cell k _ (ic_at (mixT_same hk8 (Nat.le_refl _)))
            have d1 := HAj.out.frozen k
            obtain ⟨z, hz⟩ : ∃ z, sumAt T L k = z := ⟨_, rfl⟩
            have HSET := Lib.hid (mixT_set T L hk8)
            have HOS := Lib.hid (fun h2 => okK_step HK.out h2)
            have HON := Lib.hid (fun h2 => okK_not (T := T) (L := L) hk8 h2)
            rw [hz] at HS1 HSET HOS HON
            clear hO hs1 hlen HO hz HE
            go_wp2_with fail
            refine HS1.out.mono ?_
            rintro e w2 ⟨rfl, rfl⟩
            cases hin : inI z with
            | true =>
              have hcz := cutI_inI hin
              rw [hcz]
              have HK1 := Lib.hid (HOS.out hin)
              clear hcz hin
              go_wp2
              go_roundw
              · exact ⟨k + 1, by omega, by go_num, HK1, by show Blk _ _ _ _; rw [← HSET.out]; exact HAj.out.ic_set k z, HRj.out.other _ _ (by show w.heap.size + 1 ≠ w.heap.size; omega), hbj.setCell (Nat.le_refl _) _⟩
              · simp [intOf]; omega
            | false =>
              have hcz := cutI_notI hin
              rw [hcz]
              have HF : Hid (s = (z8, 11)) := by show _ = _; rw [← HS.out]; unfold addS; rw [if_pos HV.out, if_neg (by rw [HON.out hin]; decide)]
              have HTH := Lib.hid (HRj.out.thereMid 0 8 (by decide))
              clear hcz hin
              go_wp2_with (refine st_i8 rfl _ _ rfl (w.heap.size + 1) 0 rfl z8 rfl rfl HTH.out ?_)
              intro W2 hW
              have HR2 : Hid (Blk W2 (w.heap.size + 1) 22 (ic z8)) := by show Blk _ _ _ _; rw [hW.out]; exact HRj.out.setAll _ rfl
              have HB2 : Hid (Below w.heap.size w W2) := by show Below _ _ _; rw [hW.out]; exact below_setCells _ _ hbj (Nat.le_succ _)
              clear hW
              go_wp2
              exact bodyPost_ret (v := .tuple #[.agg (ia z8), .int .i64 11]) (res_i8 Try.results8 _ _ _ z8 rfl _ rfl rfl HR2.out) rfl ⟨by rw [HF.out], HB2.out⟩
      · obtain rfl : k = 8 := by omega
        have HF : Hid (s = (newT T L, 0)) := by show _ = _; rw [← HS.out]; unfold addS; rw [if_pos HV.out, if_pos HK.out]
        have HTH := Lib.hid (HRz.out.thereMid 0 8 (by decide))
        obtain ⟨N8, hN⟩ : ∃ N8, mixT T L 8 = N8 := ⟨_, rfl⟩
        have HN := Lib.hid (show N8.length = 8 by rw [← hN]; exact mixT_len _ _ _)
        rw [show newT T L = N8 from hN] at HF
        rw [hN] at HA
        clear hN
        go_wp2_with (first | (refine ld_i8 rfl _ rfl w.heap.size 0 rfl N8 HN.out HA.out.range ?_) | (refine st_i8 rfl _ _ rfl (w.heap.size + 1) 0 rfl N8 rfl HN.out HTH.out ?_))
        intro W2 hW
        have HR2 : Hid (Blk W2 (w.heap.size + 1) 22 (ic N8)) := by show Blk _ _ _ _; rw [hW.out]; exact HRz.out.setAll _ (by rw [ic_len, ic_len, HN.out]; rfl)
        have HB2 : Hid (Below w.heap.size w W2) := by show Below _ _ _; rw [hW.out]; exact below_setCells _ _ hb (Nat.le_succ _)
        clear hW
        go_wp2
        exact bodyPost_ret (v := .tuple #[.agg (ia N8), .int .i64 0]) (res_i8 Try.results8 _ _ _ N8 HN.out _ rfl rfl HR2.out) rfl ⟨by rw [HF.out], HB2.out⟩
end Go.Proofs.Yteghjdmalbcdfaa
