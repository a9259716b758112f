/-
  The walk of the reference's Right (legs).
-/
import Derived.Test.YteghjdmalbcdfaaLg
import Derived.Test.YteghjdmalbcdfaaRefSum
import Derived.Test.YteghjdmalbcdfaaCompare
set_option linter.unusedVariables false
set_option linter.unusedSimpArgs false
namespace Go.Proofs.Yteghjdmalbcdfaa
open Go.RowKit Dg

/-- Can a leg be? Can legs be? -/
def okLg (t : Lg) : Bool := decide (0 ≤ t.1) && decide (t.1 ≤ 7) && decide (t.2 ≠ 0)
def sumG (L : List Lg) : Int := sumI (L.map (·.2))
def rightG (L : List Lg) : Bool := decide (2 ≤ L.length) && decide (L.length ≤ 16) && L.all okLg && decide (sumG L = 0)
theorem okLg_iff (t : Lg) : okLg t = true ↔ 0 ≤ t.1 ∧ t.1 ≤ 7 ∧ t.2 ≠ 0 := by
  simp [okLg, and_assoc]
theorem sumG_take {L : List Lg} {k : Nat} {t : Lg} (h : L[k]? = some t) : sumG (L.take (k + 1)) = sumG (L.take k) + t.2 := by
  unfold sumG
  rw [map_take _ h, sumI_app]; simp [sumI]
theorem sumG_in {L : List Lg} (h : ∀ t ∈ L, -9223372036854775808 ≤ t.2 ∧ t.2 ≤ 9223372036854775807) : -9223372036854775808 * L.length ≤ sumG L ∧ sumG L ≤ 9223372036854775807 * L.length := by
  have := sumI_in (L := L.map (·.2)) (fun x hx => by obtain ⟨t, ht, rfl⟩ := List.mem_map.1 hx; exact h t ht)
  simpa [sumG] using this
theorem all_takeG {L : List Lg} {k : Nat} {t : Lg} (h : L[k]? = some t) (h1 : (L.take k).all okLg = true) (h2 : okLg t = true) : (L.take (k + 1)).all okLg = true := by
  obtain ⟨hk, rfl⟩ := List.getElem?_eq_some_iff.1 h
  rw [List.take_succ_eq_append_getElem hk, List.all_append, h1]; simp [h2]
theorem rightG_not {L : List Lg} {t : Lg} (h : t ∈ L) (h2 : okLg t = false) : rightG L = false := by
  have : L.all okLg = false := by rw [List.all_eq_false]; exact ⟨t, h, by rw [h2]; decide⟩
  unfold rightG; rw [this]; simp
section
variable {ops : Array Oper} {rest : List Oper} {op : Oper} {a : Act} {w : World} {Q : Exit → Act → World → Prop}
theorem ld_num_w (hw : Region.wanted op (yielded ops a.tmps) = true) (x : Operand) (ho : op.op = .load 69 x) (b o : Nat) (hx : a.eval x = .pointer (some ⟨b, o, none⟩)) (m : Bool) (M : List Int) (hl : M.length = 10) (hc : w.rangeAt b o (nu m M))
    (h : wpList Try.prog ops Q rest (a.put op.dst (.agg (ns m M))) w) : wpList Try.prog ops Q (op :: rest) a w :=
  wpList_step fun _ hK => by
    rw [if_pos hw]
    exact wp_load_mid _ x ho b o hx (nu m M) _ hc Try.underlying69 rfl (by rw [nu_len, hl]; exact info_num) (hK _ _ h)
end
theorem rc_pair (a b : Int) : rc lgc [(a, b)] = [.int .i64 a, .int .i64 b] := rfl
theorem beq_dec (q : Int) : (q == 0) = decide (q = 0) := by rw [Bool.eq_iff_iff]; simp
theorem cmpI_zero (x : Int) : cmpI x 0 = 0 ↔ x = 0 := by unfold cmpI; split <;> (try split) <;> omega
set_option maxRecDepth 8000 in
set_option maxHeartbeats 3200000 in
theorem lgr_any (w : World) (ao : Option Addr) (cap : Nat) (L : List Lg) (h : SlG w ao cap L) (hl : L.length ≤ 100000) (hr : ∀ t ∈ L, -9223372036854775808 ≤ t.2 ∧ t.2 ≤ 9223372036854775807) (v : Bool) (hv : rightG L = v) :
    Calls Try.prog 23 #[.slice ao L.length cap] w fun e w' => e = .returned (.bool v) ∧ Below w.heap.size w w' := by
  have HV := Lib.hid hv
  clear hv
  go_enter Try.func23, Try.ntmps23
  go_wp2
  go_loopw [9] (fun i wr => ∃ (k : Nat), k ≤ L.length ∧ i = .int .i64 k ∧ Hid ((L.take k).all okLg = true) ∧ Hid (Blk wr w.heap.size 69 (nl (sumG (L.take k)))) ∧ Below w.heap.size w wr) (fun i _ => L.length - (intOf i).toNat)
  case atStart => exact ⟨0, by omega, rfl, rfl, Blk.new w 69 (nu false z10), below_new1 w _⟩
  case round =>
    obtain ⟨k, hk, rfl, HK, HN, hb⟩ := hrel
    by_cases hkl : k < L.length
    · obtain ⟨⟨a, x⟩, hx⟩ : ∃ x, L[k]? = some x := ⟨_, List.getElem?_eq_getElem hkl⟩
      have hm := List.mem_of_getElem? hx
      have hw := h.keeps (hb.mono (Nat.le_refl _))
      have HX := Lib.hid hx
      have HB0 := Lib.hid (hb.alloc hb.size (.cells #[.int .i64 a, .int .i64 x] 48))
      by_cases hok : okLg (a, x) = true
      · have HAN := Lib.hid (all_takeG hx HK.out hok)
        rw [okLg_iff] at hok
        obtain ⟨a0, a1, x0⟩ := hok
        have a0' : ¬ a < 0 := by omega
        have a1' : ¬ 7 < a := by omega
        replace x0 : ¬ x = 0 := x0
        have hin := hr _ hm
        have HT := Lib.hid (sumG_take hx)
        have hs := sumG_in (fun t ht => hr t (List.mem_of_mem_take (i := k) ht))
        rw [List.length_take] at hs
        have HP := Lib.hid (fun W => plus_any (sumG (L.take k)) x (by unfold absI TOP; split <;> split <;> omega) W)
        have HO := Lib.hid (fun W => of_any x hin.1 hin.2 W)
        rw [show sumG (L.take k) + x = sumG (L.take (k + 1)) from HT.out.symm] at HP
        clear hx hs hm hin
        obtain ⟨mx, Dx, lx, ex, ex2⟩ := N_opaque (sumG (L.take k))
        obtain ⟨ma, Da, la, ea, _⟩ := N_opaque x
        obtain ⟨ms, Ds, ls, es, es2⟩ := N_opaque (sumG (L.take (k + 1)))
        rw [ex, ea, es] at HP
        rw [ea] at HO
        rw [ex2] at HN
        have LX := Lib.hid lx; have LS := Lib.hid ls; have ES := Lib.hid es2
        have HG := Lib.hid (Blk.new wr 48 [.int .i64 a, .int .i64 x])
        have HNA := Lib.hid (HN.out.alloc (.cells #[.int .i64 a, .int .i64 x] 48))
        clear lx la ls ex ex2 ea es es2 HT HN
        go_wp2_with (first | (refine ix_lg rfl _ _ rfl ao cap L hw rfl k _ HX.out rfl ?_; intro b off c0 c1))
        refine region_tail (by kernel_rfl) (by kernel_rfl) [some 26, some 27, some 28, some 29, some 30, none] (by kernel_rfl) 5 (by decide) (by kernel_rfl) [] (by decide) w.heap.size w HB0.out (Nat.le_refl _) (fun i v WW => match i with | 0 => v = .agg (ns mx Dx) | 1 => v = .pointer (some ⟨wr.heap.size, 1, none⟩) | 2 => v = .int .i64 x | 3 => v = .agg (ns ma Da) | 4 => v = .agg (ns ms Ds) | _ => True) ?_ ?_ (fun t V W W1 => match t with | 0 => W1 = W | 1 => W1 = W.setCells w.heap.size 0 (nu ms Ds) | _ => False) (fun _ _ => rfl) (fun _ _ _ h => h) ?_ ?_ ?_ ?_
        · intro i v WW WX h hbx
          rcases i with _ | _ | _ | _ | _ | i
          · exact h
          · exact h
          · exact h
          · exact h
          · exact h
          · trivial
        · intro i v WW g hi h e
          simp at hi
        · intro t V V' W W' h hz
          rcases t with _ | _ | t
          · exact hz
          · exact hz
          · exact hz
        · intro iI oO V AC WW hiN ho hf hbw K hK
          rcases iI with _ | _ | _ | _ | _ | iI
          · obtain rfl := Option.some.inj (show some _ = some oO from ho)
            rw [if_pos (by rfl)]
            have hK2 := fun v W' h1 h2 => hK v W' h1 h2 (fun hd => by simp at hd)
            have q3 : AC.tmps.getD 3 undef = .pointer (some ⟨w.heap.size, 0, none⟩) := hf.rest 3 (by kernel_rfl)
            have hk := (HNA.out.keeps hbw)
            exact wp_load_mid _ _ rfl w.heap.size 0 q3 (nu mx Dx) _ hk.range Try.underlying69 rfl (by rw [nu_len, LX.out]; exact info_num) (hK2 _ _ (Below.refl _ _) rfl)
          · obtain rfl := Option.some.inj (show some _ = some oO from ho)
            rw [if_pos (by rfl)]
            have hK2 := fun v W' h1 h2 => hK v W' h1 h2 (fun hd => by simp at hd)
            have q5 : AC.tmps.getD 5 undef = .pointer (some ⟨wr.heap.size, 0, none⟩) := hf.rest 5 (by kernel_rfl)
            go_simp
            exact hK2 _ _ (Below.refl _ _) rfl
          · obtain rfl := Option.some.inj (show some _ = some oO from ho)
            rw [if_pos (by rfl)]
            have hK2 := fun v W' h1 h2 => hK v W' h1 h2 (fun hd => by simp at hd)
            have q27 : AC.tmps.getD 27 undef = .pointer (some ⟨wr.heap.size, 1, none⟩) := ((hf.dep ⟨1, .data⟩ (by simp) rfl).2 27 rfl).trans (hf.dep ⟨1, .data⟩ (by simp) rfl).1
            have hG := HG.out.keeps hbw
            have g1 := hG.cell 1 _ rfl
            go_simp
            exact hK2 _ _ (Below.refl _ _) rfl
          · obtain rfl := Option.some.inj (show some _ = some oO from ho)
            rw [if_pos (by rfl)]
            have hK2 := fun v W' h1 h2 => hK v W' h1 h2 (fun hd => by simp at hd)
            have q28 : AC.tmps.getD 28 undef = .int .i64 x := ((hf.dep ⟨2, .data⟩ (by simp) rfl).2 28 rfl).trans (hf.dep ⟨2, .data⟩ (by simp) rfl).1
            go_simp
            refine (HO.out WW).mono ?_
            rintro e w6 ⟨rfl, hb6⟩
            exact hK2 _ _ hb6 rfl
          · obtain rfl := Option.some.inj (show some _ = some oO from ho)
            rw [if_pos (by rfl)]
            have hK2 := fun v W' h1 h2 => hK v W' h1 h2 (fun hd => by simp at hd)
            have q26 : AC.tmps.getD 26 undef = .agg (ns mx Dx) := ((hf.dep ⟨0, .data⟩ (by simp) rfl).2 26 rfl).trans (hf.dep ⟨0, .data⟩ (by simp) rfl).1
            have q29 : AC.tmps.getD 29 undef = .agg (ns ma Da) := ((hf.dep ⟨3, .data⟩ (by simp) rfl).2 29 rfl).trans (hf.dep ⟨3, .data⟩ (by simp) rfl).1
            go_simp
            refine (HP.out WW).mono ?_
            rintro e w6 ⟨rfl, hb6⟩
            exact hK2 _ _ hb6 rfl
          · omega
        · intro jJ oO V AC WW W1 ho hf hbw hall hap hz K hK
          have hlt : jJ < 1 := by have := (Array.getElem?_eq_some_iff.1 ho).1; simp at this; omega
          rcases jJ with _ | jJ
          · obtain rfl := Option.some.inj (show some _ = some oO from ho)
            rw [if_pos (by rfl)]
            replace hz : W1 = WW := hz
            have q3 : AC.tmps.getD 3 undef = .pointer (some ⟨w.heap.size, 0, none⟩) := hf.rest 3 (by kernel_rfl)
            have q30 : AC.tmps.getD 30 undef = .agg (ns ms Ds) := (hf.dep ⟨4, .data⟩ (by simp) rfl 30 rfl).trans (hall 4 (by decide))
            subst hz
            have hk := (HNA.out.keeps hbw).thereMid 0 11 (by rw [nu_len, LX.out]; decide)
            refine wp_store_mid _ _ _ rfl w.heap.size 0 (ns ms Ds) q3 q30 (by rw [ns_size, LS.out]; exact hk) (by rw [ns_size, LS.out]; exact info_num) (ns_all _ _) (hK _ _ rfl)
          · omega
        · intro V WW W1 hall hap hbw hBW hz
          replace hz : W1 = WW.setCells w.heap.size 0 (nu ms Ds) := hz
          have vv0 : V 0 = .agg (ns mx Dx) := hall 0 (by decide)
          have vv1 : V 1 = .pointer (some ⟨wr.heap.size, 1, none⟩) := hall 1 (by decide)
          have vv2 : V 2 = .int .i64 x := hall 2 (by decide)
          have vv3 : V 3 = .agg (ns ma Da) := hall 3 (by decide)
          have vv4 : V 4 = .agg (ns ms Ds) := hall 4 (by decide)
          clear hall
          simp only [pairsOf, laid, Nat.zero_add, Nat.reduceAdd, vv0, vv1, vv2, vv3, vv4, List.setIfInBounds_toArray, List.set_cons_zero, List.set_cons_succ]
          clear vv0 vv1 vv2 vv3 vv4
          subst hz
          go_wp2
          go_roundw
          · exact ⟨k + 1, by omega, by go_num, HAN, by show Blk _ _ _ _; rw [ES.out]; exact (HNA.out.keeps hbw).setAll (nu ms Ds) (by rw [nu_len, nu_len, LX.out, LS.out]), below_setCells _ _ hBW (Nat.le_refl _)⟩
          · simp [intOf]; omega
      · have HF : Hid (v = false) := by show _ = _; rw [← HV.out]; exact rightG_not hm (by simpa using hok)
        have h3 : a < 0 ∨ (0 ≤ a ∧ 7 < a) ∨ (0 ≤ a ∧ a ≤ 7 ∧ x = 0) := by
          rw [okLg_iff] at hok
          simp only [ne_eq, Classical.not_and_iff_not_or_not, Classical.not_not] at hok
          omega
        clear hok hx hm
        rcases h3 with h3 | ⟨h3, h4⟩ | ⟨h3, h4, rfl⟩
        all_goals
          go_wp2_with (first | (refine ix_lg rfl _ _ rfl ao cap L hw rfl k _ HX.out rfl ?_; intro b off c0 c1))
          go_ret
          exact ⟨by rw [HF.out]; rfl, HB0.out⟩
    · obtain rfl : k = L.length := by omega
      have hs := sumG_in hr
      have HC := Lib.hid (fun W => compare_any (sumG L) 0 (by unfold absI TOP; split <;> split <;> omega) W)
      have hN := HN.out
      rw [List.take_length] at hN HK
      obtain ⟨mx, Dx, lx, ex, ex2⟩ := N_opaque (sumG L)
      rw [ex2] at hN
      rw [ex, show N 0 = ns false z10 from rfl] at HC
      have LX := Lib.hid lx
      have HB := Lib.hid hN
      have hcz := cmpI_zero (sumG L)
      obtain ⟨q, hq⟩ : ∃ q, cmpI (sumG L) 0 = q := ⟨_, rfl⟩
      rw [hq] at HC hcz
      have HE : Hid (v = (decide (2 ≤ L.length) && decide (L.length ≤ 16) && decide (q = 0))) := by
        show _ = _
        rw [← HV.out]; unfold rightG; rw [HK.out, Bool.and_true, Bool.eq_iff_iff]; simp [hcz]
      clear hs hN lx ex ex2 hq HN HV hcz
      by_cases h2 : 2 ≤ L.length
      · by_cases h16 : L.length ≤ 16
        · have h16' : (L.length : Int) ≤ 16 := by omega
          have h2' : (2 : Int) ≤ L.length := by omega
          go_wp2_with (refine ld_num_w rfl (.tmp 3) rfl w.heap.size 0 rfl mx Dx LX.out HB.out.range ?_)
          refine (HC.out _).mono ?_
          rintro e w2 ⟨rfl, hb2⟩
          have HB2 := Lib.hid (below_on hb hb.size hb2)
          clear hb2
          go_wp2
          all_goals
            go_ret
            exact ⟨by rw [HE.out]; simp [h2, h16, beq_dec]; try omega, HB2.out⟩
        · go_wp2
          go_ret
          exact ⟨by rw [HE.out]; simp [h2, h16]; try omega, hb⟩
      · go_wp2
        go_ret
        exact ⟨by rw [HE.out]; simp [h2]; try omega, hb⟩
end Go.Proofs.Yteghjdmalbcdfaa
