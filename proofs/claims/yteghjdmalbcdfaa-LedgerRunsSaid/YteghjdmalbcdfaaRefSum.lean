/-
  The walk of the reference's Sum.
-/
import Derived.Test.YteghjdmalbcdfaaTail
import Derived.Test.YteghjdmalbcdfaaCut
import Derived.Test.YteghjdmalbcdfaaPlus
import Derived.Test.YteghjdmalbcdfaaTimes
import Derived.Test.YteghjdmalbcdfaaDivide
import Derived.Test.YteghjdmalbcdfaaIc
set_option linter.unusedVariables false
set_option linter.unusedSimpArgs false
set_option maxRecDepth 20000
namespace Go.Proofs.Yteghjdmalbcdfaa
open Go.RowKit Dg

/-- A number over opaque digits. -/
theorem N_opaque (z : Int) : ∃ m D, D.length = 10 ∧ N z = ns m D ∧ nl z = nu m D := ⟨_, _, len10 _, rfl, rfl⟩
theorem nl_zero : nl 0 = nu false z10 := rfl
set_option maxRecDepth 8000 in
set_option maxHeartbeats 3200000 in
theorem rsum_any (w : World) (ao : Option Addr) (cap : Nat) (L : List Int) (h : Sl w ao L.length cap (ic L)) (hl : L.length ≤ 1000000) (hr : ∀ x ∈ L, -9223372036854775808 ≤ x ∧ x ≤ 9223372036854775807) :
    Calls Try.prog 14 #[.slice ao L.length cap] w fun e w' => e = .returned (.tuple #[.int .i64 (cutI (sumI L)).1, .int .i64 (cutI (sumI L)).2]) ∧ Below w.heap.size w w' := by
  go_enter Try.func14, Try.ntmps14
  go_wp2
  go_loopw [10] (fun i wr => ∃ (k : Nat), k ≤ L.length ∧ i = .int .i64 k ∧ Hid (Blk wr w.heap.size 69 (nl (sumI (L.take k)))) ∧ Below w.heap.size w wr) (fun i _ => L.length - (intOf i).toNat)
  case atStart => exact ⟨0, by omega, rfl, Blk.new w 69 (nu false z10), below_new1 w _⟩
  case round =>
    obtain ⟨k, hk, rfl, HN, hb⟩ := hrel
    by_cases hkl : k < L.length
    · obtain ⟨x, hx⟩ : ∃ x, L[k]? = some x := ⟨_, List.getElem?_eq_getElem hkl⟩
      have hin := hr x (List.mem_of_getElem? hx)
      have HX := Lib.hid hx
      have hw := h.keeps (hb.mono (Nat.le_refl _))
      have HT := Lib.hid (sumI_take hx)
      have hs := sumI_in (fun y hy => hr y (List.mem_of_mem_take (i := k) hy))
      rw [List.length_take] at hs
      have HP := Lib.hid (fun W => plus_any (sumI (L.take k)) x (by unfold absI TOP; split <;> split <;> omega) W)
      have HO := Lib.hid (fun W => of_any x hin.1 hin.2 W)
      rw [← HT.out] at HP
      clear hx hs
      obtain ⟨mx, Dx, lx, ex, ex2⟩ := N_opaque (sumI (L.take k))
      obtain ⟨ma, Da, la, ea, _⟩ := N_opaque x
      obtain ⟨ms, Ds, ls, es, es2⟩ := N_opaque (sumI (L.take (k + 1)))
      rw [ex, ea, es] at HP
      rw [ea] at HO
      rw [ex2] at HN
      have LX := Lib.hid lx; have LS := Lib.hid ls; have ES := Lib.hid es2
      clear lx la ls ex ex2 ea es es2 HT
      go_wp2_with (first | (refine wpList_ix_sl rfl 42 2 _ _ rfl Try.underlying42 size_i64 ao L.length cap rfl (ic L) hw k hkl rfl ?_; intro b off u hu hcell; obtain rfl : u = .int .i64 x := by (rw [ic_at HX.out] at hu; exact (Option.some.inj hu).symm)))
      refine region_tail (by kernel_rfl) (by kernel_rfl) [some 14, some 15, some 16, some 17, none] (by kernel_rfl) 4 (by decide) (by kernel_rfl) [] (by decide) w.heap.size w hb (Nat.le_refl _) (fun i v WW => match i with | 0 => v = .agg (ns mx Dx) | 1 => v = .int .i64 x | 2 => v = .agg (ns ma Da) | 3 => v = .agg (ns ms Ds) | _ => True) ?_ ?_ (fun t V W W1 => match t with | 0 => W1 = W | 1 => W1 = W.setCells w.heap.size 0 (nu ms Ds) | _ => False) (fun _ _ => rfl) (fun _ _ _ h => h) ?_ ?_ ?_ ?_
      · intro i v WW WX h hbx
        rcases i with _ | _ | _ | _ | i
        · exact h
        · exact h
        · exact h
        · exact h
        · trivial
      · intro i v WW g hi h e
        simp at hi
      · intro t V V' W W' h hz
        rcases t with _ | _ | t
        · exact hz
        · exact hz
        · exact hz
      · intro iI oO V AC WW hiN ho hf hbw K hK
        rcases iI with _ | _ | _ | _ | iI
        · obtain rfl := Option.some.inj (show some _ = some oO from ho)
          rw [if_pos (by rfl)]
          have hK2 := fun v W' h1 h2 => hK v W' h1 h2 (fun hd => by simp at hd)
          have q4 : AC.tmps.getD 4 undef = .pointer (some ⟨w.heap.size, 0, none⟩) := hf.rest 4 (by kernel_rfl)
          have hk := HN.out.keeps hbw
          exact wp_load_mid _ _ rfl w.heap.size 0 q4 (nu mx Dx) _ hk.range Try.underlying69 rfl (by rw [nu_len, LX.out]; exact info_num) (hK2 _ _ (Below.refl _ _) rfl)
        · obtain rfl := Option.some.inj (show some _ = some oO from ho)
          rw [if_pos (by rfl)]
          have hK2 := fun v W' h1 h2 => hK v W' h1 h2 (fun hd => by simp at hd)
          have q6 : AC.tmps.getD 6 undef = .int .i64 x := hf.rest 6 (by kernel_rfl)
          go_simp
          exact hK2 _ _ (Below.refl _ _) rfl
        · obtain rfl := Option.some.inj (show some _ = some oO from ho)
          rw [if_pos (by rfl)]
          have hK2 := fun v W' h1 h2 => hK v W' h1 h2 (fun hd => by simp at hd)
          have q15 : AC.tmps.getD 15 undef = .int .i64 x := ((hf.dep ⟨1, .data⟩ (by simp) rfl).2 15 rfl).trans (hf.dep ⟨1, .data⟩ (by simp) rfl).1
          go_simp
          refine (HO.out WW).mono ?_
          rintro e w6 ⟨rfl, hb6⟩
          exact hK2 _ _ hb6 rfl
        · obtain rfl := Option.some.inj (show some _ = some oO from ho)
          rw [if_pos (by rfl)]
          have hK2 := fun v W' h1 h2 => hK v W' h1 h2 (fun hd => by simp at hd)
          have q14 : AC.tmps.getD 14 undef = .agg (ns mx Dx) := ((hf.dep ⟨0, .data⟩ (by simp) rfl).2 14 rfl).trans (hf.dep ⟨0, .data⟩ (by simp) rfl).1
          have q16 : AC.tmps.getD 16 undef = .agg (ns ma Da) := ((hf.dep ⟨2, .data⟩ (by simp) rfl).2 16 rfl).trans (hf.dep ⟨2, .data⟩ (by simp) rfl).1
          go_simp
          refine (HP.out WW).mono ?_
          rintro e w6 ⟨rfl, hb6⟩
          exact hK2 _ _ hb6 rfl
        · omega
      · intro jJ oO V AC WW W1 ho hf hbw hall hap hz K hK
        have hlt : jJ < 1 := by have := (Array.getElem?_eq_some_iff.1 ho).1; simp at this; omega
        rcases jJ with _ | jJ
        · obtain rfl := Option.some.inj (show some _ = some oO from ho)
          rw [if_pos (by rfl)]
          replace hz : W1 = WW := hz
          have q4 : AC.tmps.getD 4 undef = .pointer (some ⟨w.heap.size, 0, none⟩) := hf.rest 4 (by kernel_rfl)
          have q17 : AC.tmps.getD 17 undef = .agg (ns ms Ds) := (hf.dep ⟨3, .data⟩ (by simp) rfl 17 rfl).trans (hall 3 (by decide))
          subst hz
          have hk := (HN.out.keeps hbw).thereMid 0 11 (by rw [nu_len, LX.out]; decide)
          refine wp_store_mid _ _ _ rfl w.heap.size 0 (ns ms Ds) q4 q17 (by rw [ns_size, LS.out]; exact hk) (by rw [ns_size, LS.out]; exact info_num) (ns_all _ _) (hK _ _ rfl)
        · omega
      · intro V WW W1 hall hap hbw hBW hz
        replace hz : W1 = WW.setCells w.heap.size 0 (nu ms Ds) := hz
        have vv0 : V 0 = .agg (ns mx Dx) := hall 0 (by decide)
        have vv1 : V 1 = .int .i64 x := hall 1 (by decide)
        have vv2 : V 2 = .agg (ns ma Da) := hall 2 (by decide)
        have vv3 : V 3 = .agg (ns ms Ds) := hall 3 (by decide)
        clear hall
        simp only [pairsOf, laid, Nat.zero_add, Nat.reduceAdd, vv0, vv1, vv2, vv3, List.setIfInBounds_toArray, List.set_cons_zero, List.set_cons_succ]
        clear vv0 vv1 vv2 vv3
        subst hz
        go_wp2
        go_roundw
        · exact ⟨k + 1, by omega, by go_num, by show Blk _ _ _ _; rw [ES.out]; exact (HN.out.keeps hbw).setAll (nu ms Ds) (by rw [nu_len, nu_len, LX.out, LS.out]), below_setCells _ _ hBW (Nat.le_refl _)⟩
        · simp [intOf]; omega
    · obtain rfl : k = L.length := by omega
      have hs := sumI_in hr
      have HC := Lib.hid (fun W => cut_any (sumI L) (by unfold absI; split <;> omega) W)
      have hN := HN.out
      rw [List.take_length] at hN
      obtain ⟨mx, Dx, lx, ex, ex2⟩ := N_opaque (sumI L)
      rw [ex2] at hN
      rw [ex] at HC
      have LX := Lib.hid lx
      have HB := Lib.hid hN
      obtain ⟨q, hq⟩ : ∃ q, cutI (sumI L) = q := ⟨_, rfl⟩
      rw [hq] at HC
      have HQ := Lib.hid hq
      clear hs hN lx ex ex2 hq HN
      go_wp2_with (refine ld_num rfl (.tmp 4) rfl w.heap.size 0 rfl mx Dx LX.out HB.out.range ?_)
      refine (HC.out _).mono ?_
      rintro e w2 ⟨rfl, hb2⟩
      have HB2 := Lib.hid (below_on hb hb.size hb2)
      clear hb2
      go_wp2
      exact bodyPost_ret (v := .tuple #[.int .i64 q.1, .int .i64 q.2]) (by simp [results, Try.results14, go_sem]) rfl ⟨by rw [HQ.out], HB2.out⟩
end Go.Proofs.Yteghjdmalbcdfaa
