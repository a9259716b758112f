/-
  The law LedgerAdds.
-/
import Derived.Test.YteghjdmalbcdfaaLgH
import Derived.Test.YteghjdmalbcdfaaFull
import Derived.DeepKeys
set_option linter.unusedVariables false
set_option linter.unusedSimpArgs false
namespace Go.Proofs.Yteghjdmalbcdfaa
open Go.RowKit Dg

/-- What stands while legs are copied and added. -/
structure RA (w0 : World) (L : List Lg) (R : List Int) (PR : Nat → Value → Prop) (Ld : Nat → Bool) (V : Nat → Value) (W : World) : Prop where
  pure : ∀ i, Ld i = true → PR i (V i)
  bw : Below w0.heap.size w0 W
  l1 : Ld 1 = true → ∃ g, V 1 = .slice (some ⟨g, 0, none⟩) 0 0
  l3 : Ld 3 = true → Ld 4 = false → ∃ ao cap, V 3 = .slice ao L.length cap ∧ SlG W ao cap L
  l8 : Ld 8 = true → ∃ g, V 8 = .pointer (some ⟨g, 0, none⟩) ∧ w0.heap.size ≤ g ∧ (Ld 9 = false → Blk W g 22 (ic z8)) ∧ (Ld 9 = true → Blk W g 22 (ic R))
  d31 : Ld 3 = true → Ld 1 = true
  d43 : Ld 4 = true → Ld 3 = true
  d94 : Ld 9 = true → Ld 4 = true
  d98 : Ld 9 = true → Ld 8 = true
theorem RA.set {w0 : World} {L : List Lg} {R : List Int} {PR : Nat → Value → Prop} {Ld : Nat → Bool} {V : Nat → Value} {W : World} (h : RA w0 L R PR Ld V W) (i : Nat) (u : Value) (h1 : i ≠ 1) (h3 : i ≠ 3) (h4 : i ≠ 4) (h8 : i ≠ 8) (h9 : i ≠ 9) (hp : PR i u) :
    RA w0 L R PR (fun j => if j = i then true else Ld j) (fun j => if j = i then u else V j) W := by
  refine ⟨pure_extL h.pure i u hp, h.bw, ?_, ?_, ?_, ?_, ?_, ?_, ?_⟩
  all_goals simp only [if_neg h1.symm, if_neg h3.symm, if_neg h4.symm, if_neg h8.symm, if_neg h9.symm]
  · exact h.l1
  · exact h.l3
  · exact h.l8
  · exact h.d31
  · exact h.d43
  · exact h.d94
  · exact h.d98
theorem RA.l8k {w0 : World} {L : List Lg} {R : List Int} {PR : Nat → Value → Prop} {Ld : Nat → Bool} {V : Nat → Value} {W W' : World} (h : RA w0 L R PR Ld V W) (hb : Below W.heap.size W W') (h8 : Ld 8 = true) : ∃ g, V 8 = .pointer (some ⟨g, 0, none⟩) ∧ w0.heap.size ≤ g ∧ (Ld 9 = false → Blk W' g 22 (ic z8)) ∧ (Ld 9 = true → Blk W' g 22 (ic R)) := by
  obtain ⟨g, e, hg, k1, k2⟩ := h.l8 h8
  exact ⟨g, e, hg, fun h => (k1 h).keeps hb, fun h => (k2 h).keeps hb⟩
def PRa (T : List Int) (arg : Value) (s : List Int × Int) : Nat → Value → Prop := fun i u => match i with | 0 => u = .agg (ia T) | 2 => u = arg | 4 => u = .tuple #[.agg (ia s.1), .int .i64 s.2] | 5 => u = .tuple #[.agg (ia s.1), .int .i64 s.2] | 6 => u = .agg (ia s.1) | 7 => u = .int .i64 s.2 | 10 => u = .int .i64 s.2 | _ => True
theorem addS_len (T : List Int) (L : List Lg) : (addS T L).1.length = 8 := by
  unfold addS newT; split
  · split
    · exact mixT_len _ _ _
    · rfl
  · rfl
theorem wf64 {x : Int} (h : -9223372036854775808 ≤ x ∧ x ≤ 9223372036854775807) : (Lit.int .i64 x).wf = true := by
  simp [Lit.wf, IntKind.min, IntKind.max, IntKind.signed, IntKind.bits]; omega
theorem kl1 {x : Int} (h : -9223372036854775808 ≤ x ∧ x ≤ 9223372036854775807) : Try.prog.keyLits 1 2 [.int .i64 x] = some [.int .i64 x] := by
  have hw := wf64 h
  have hu : Try.prog.underlying 2 = some (.int .i64) := Try.underlying2
  unfold Program.keyLits
  simp only [hu]
  simp [hw]
theorem kl8 (a0 a1 a2 a3 a4 a5 a6 a7 : Int) (h : ∀ x ∈ [a0, a1, a2, a3, a4, a5, a6, a7], -9223372036854775808 ≤ x ∧ x ≤ 9223372036854775807) :
    Try.prog.keyLits 2 22 [.int .i64 a0, .int .i64 a1, .int .i64 a2, .int .i64 a3, .int .i64 a4, .int .i64 a5, .int .i64 a6, .int .i64 a7] = some [.int .i64 a0, .int .i64 a1, .int .i64 a2, .int .i64 a3, .int .i64 a4, .int .i64 a5, .int .i64 a6, .int .i64 a7] := by
  have hu : Try.prog.underlying 22 = some (.array 8 2) := Try.underlying22
  have h8 : Try.prog.cellsOf 22 = 8 := by kernel_rfl
  have h1 : Try.prog.cellsOf 2 = 1 := by kernel_rfl
  have k0 := kl1 (h a0 (by simp)); have k1 := kl1 (h a1 (by simp)); have k2 := kl1 (h a2 (by simp)); have k3 := kl1 (h a3 (by simp)); have k4 := kl1 (h a4 (by simp)); have k5 := kl1 (h a5 (by simp)); have k6 := kl1 (h a6 (by simp)); have k7 := kl1 (h a7 (by simp))
  rw [Program.keyLits.eq_def]
  simp only [hu, h8, h1]
  rw [show List.range 8 = [0, 1, 2, 3, 4, 5, 6, 7] from rfl]
  simp [k0, k1, k2, k3, k4, k5, k6, k7]
theorem eq_i8 (w : World) (M : List Int) (h : M.length = 8) (hr : ∀ x ∈ M, -9223372036854775808 ≤ x ∧ x ≤ 9223372036854775807) : (Op.equalIn 10000 22 (.agg (ia M)) (.agg (ia M))).run Try.prog w = .ok true w := by
  match M, h with
  | [a0, a1, a2, a3, a4, a5, a6, a7], _ =>
    have hk := kl8 a0 a1 a2 a3 a4 a5 a6 a7 hr
    obtain ⟨r, hr, hi⟩ := run_equalIn_deep (P := Try.prog) 9998 2 22 (by kernel_rfl) w 2 2 (.agg #[.int .i64 a0, .int .i64 a1, .int .i64 a2, .int .i64 a3, .int .i64 a4, .int .i64 a5, .int .i64 a6, .int .i64 a7]) (.agg #[.int .i64 a0, .int .i64 a1, .int .i64 a2, .int .i64 a3, .int .i64 a4, .int .i64 a5, .int .i64 a6, .int .i64 a7]) _ _ (by kernel_rfl) (by kernel_rfl) hk hk
    rw [hi.2 rfl] at hr
    exact hr
theorem okK_at {T : List Int} {L : List Lg} {k j : Nat} (h : okK T L k = true) (hj : j < k) : -9223372036854775808 ≤ sumAt T L j ∧ sumAt T L j ≤ 9223372036854775807 := by
  unfold okK at h
  have := List.all_eq_true.1 h j (by simpa using hj)
  simpa [inI] using this
theorem addS_in (T : List Int) (L : List Lg) : ∀ x ∈ (addS T L).1, -9223372036854775808 ≤ x ∧ x ≤ 9223372036854775807 := by
  unfold addS newT; split
  · split
    · rename_i h
      intro x hx
      unfold mixT at hx
      obtain ⟨j, hj, rfl⟩ := List.mem_map.1 hx
      have hj8 : j < 8 := by simpa using hj
      rw [if_pos hj8]
      exact okK_at h hj8
    · exact z8_in
  · exact z8_in
set_option maxRecDepth 8000 in
set_option maxHeartbeats 3200000 in
theorem ledgerAdds_core (w : World) (T : List Int) (hT8 : T.length = 8) (hTr : ∀ x ∈ T, -9223372036854775808 ≤ x ∧ x ≤ 9223372036854775807) (ao : Option Addr) (cap : Nat) (L : List Lg) (h : SlG w ao cap L) (hl : L.length ≤ 40) (hr : ∀ t ∈ L, -9223372036854775808 ≤ t.2 ∧ t.2 ≤ 9223372036854775807) (s : List Int × Int) (hs : addS T L = s) :
    Calls Try.prog 3 #[.agg (ia T), .slice ao L.length cap] w fun e w' => e = .returned (.bool true) ∧ Below w.heap.size w w' := by
  have HS := Lib.hid hs
  have HRl := Lib.hid (show s.1.length = 8 by rw [← hs]; exact addS_len T L)
  have HRr := Lib.hid (show ∀ x ∈ s.1, -9223372036854775808 ≤ x ∧ x ≤ 9223372036854775807 by rw [← hs]; exact addS_in T L)
  have HAl := Lib.hid (fun W => lalive_any W)
  have HRA := Lib.hid (fun W (hw : SlG W ao cap L) => rladd_any W T hT8 hTr ao cap L hw (by omega) hr s hs)
  have HB0 := Lib.hid (below_new1 w (.cells (ic T).toArray 22))
  have HBX0 := Lib.hid (Blk.new w 22 (ic T))
  have HSL0 := Lib.hid (h.alloc (.cells (ic T).toArray 22))
  have H8 := Lib.hid hT8; have HTr := Lib.hid hTr; have HLr := Lib.hid hr
  have hl40 : ¬ (40 : Int) < L.length := by omega
  clear h hs hT8 hTr hr
  go_enter Try.func3, Try.ntmps3
  go_wp2_with fail
  refine (HAl.out _).mono ?_
  rintro e w2 ⟨rfl, hb2⟩
  have HB2 := Lib.hid (below_on HB0.out HB0.out.size hb2)
  have HBX := Lib.hid (HBX0.out.keeps hb2)
  have HSL := Lib.hid (HSL0.out.keeps hb2)
  have HBL : Hid (w.heap.size < w2.heap.size) := HBX.out.lt
  clear hb2 HB0 HBX0 HSL0
  go_wp2
  refine region_rel (by kernel_rfl) (by kernel_rfl) [some 15, some 16, some 17, some 18, some 19, some 14, some 20, some 21, some 5, none, some 6] (by kernel_rfl) (RA w2 L s.1 (PRa T (.slice ao L.length cap) s)) ⟨nofun, (Below.refl _ _).drew, nofun, nofun, nofun, nofun, nofun, nofun, nofun⟩ ?_ ?_
  · intro i o Ld V AC WW ho hL hf hR K hK
    have hlt : i < 11 := (Array.getElem?_eq_some_iff.1 ho).1
    rcases i with _ | _ | _ | _ | _ | _ | _ | _ | _ | _ | _ | i
    · obtain rfl := Option.some.inj (show some _ = some o from ho)
      rw [if_pos (by rfl)]
      have q2 : AC.tmps.getD 2 undef = .pointer (some ⟨w.heap.size, 0, none⟩) := hf.rest 2 (by kernel_rfl)
      have hk := HBX.out.below hR.bw HBL.out
      exact wp_load_mid _ _ rfl w.heap.size 0 q2 (ic T) _ hk.range Try.underlying22 rfl (by rw [ic_len, H8.out]; exact info_i8) (hK _ _ (hR.set 0 _ (by decide) (by decide) (by decide) (by decide) (by decide) rfl))
    · obtain rfl := Option.some.inj (show some _ = some o from ho)
      rw [if_pos (by rfl)]
      have n3 : Ld 3 = false := by
        cases h : Ld 3 with
        | false => rfl
        | true => rw [hR.d31 h] at hL; cases hL
      have n4 : Ld 4 = false := by
        cases h : Ld 4 with
        | false => rfl
        | true => rw [hR.d43 h] at n3; cases n3
      have n9 : Ld 9 = false := by
        cases h : Ld 9 with
        | false => rfl
        | true => rw [hR.d94 h] at n4; cases n4
      have hz := hR.bw.size
      go_simp
      refine hK _ _ ⟨pure_extL hR.pure 1 _ trivial, hR.bw.alloc hz _, fun _ => ⟨_, rfl⟩, fun a => ?_, fun a => hR.l8k (below_new1 _ _) a, fun _ => rfl, fun a => ?_, fun a => ?_, fun a => ?_⟩
      · replace a : Ld 3 = true := a; rw [n3] at a; cases a
      · exact hR.d43 a
      · exact hR.d94 a
      · exact hR.d98 a
    · obtain rfl := Option.some.inj (show some _ = some o from ho)
      rw [if_pos (by rfl)]
      have q1 : AC.tmps.getD 1 undef = .slice ao L.length cap := hf.rest 1 (by kernel_rfl)
      go_simp
      exact hK _ _ (hR.set 2 _ (by decide) (by decide) (by decide) (by decide) (by decide) rfl)
    · obtain rfl := Option.some.inj (show some _ = some o from ho)
      rw [if_pos (by rfl)]
      have n4 : Ld 4 = false := by
        cases h : Ld 4 with
        | false => rfl
        | true => rw [hR.d43 h] at hL; cases hL
      have n9 : Ld 9 = false := by
        cases h : Ld 9 with
        | false => rfl
        | true => rw [hR.d94 h] at n4; cases n4
      have q16 : AC.tmps.getD 16 undef = V 1 := hf.dep ⟨1, .data⟩ (by simp) rfl 16 rfl
      have u16 := hf.up ⟨1, .data⟩ (by simp) rfl
      have q17 : AC.tmps.getD 17 undef = V 2 := hf.dep ⟨2, .data⟩ (by simp) rfl 17 rfl
      have p17 := hR.pure 2 (hf.up ⟨2, .data⟩ (by simp) rfl)
      rw [show V 2 = _ from p17] at q17
      obtain ⟨g1, e1⟩ := hR.l1 u16
      rw [e1] at q16
      have hz := hR.bw.size
      have hsl := HSL.out.keeps hR.bw
      refine wp_append_full _ _ 23 23 rfl 48 _ 16 2 (by decide) Try.underlying23 info_lg rfl _ 0 q16 [] ⟨rfl, Nat.le_refl _, by simp, fun h => absurd rfl h⟩ _ q17 L.length (rc lgc L) (Rk.src Try.underlying23 (by decide) hsl (rc_cell lgc_one L)) (by decide) (by omega) L.length (Nat.zero_add _) ?_
      intro ao3 cap3 w3 h1 h2 h3
      refine hK _ _ ⟨pure_extL hR.pure 3 _ trivial, below_on hR.bw hz h2, fun a => hR.l1 a, fun _ _ => ⟨ao3, cap3, rfl, h1⟩, fun a => hR.l8k h2 a, fun _ => u16, fun a => ?_, fun a => ?_, fun a => ?_⟩
      · rfl
      · exact hR.d94 a
      · exact hR.d98 a
    · obtain rfl := Option.some.inj (show some _ = some o from ho)
      rw [if_pos (by rfl)]
      have n9 : Ld 9 = false := by
        cases h : Ld 9 with
        | false => rfl
        | true => rw [hR.d94 h] at hL; cases hL
      have q15 : AC.tmps.getD 15 undef = V 0 := hf.dep ⟨0, .data⟩ (by simp) rfl 15 rfl
      have p15 := hR.pure 0 (hf.up ⟨0, .data⟩ (by simp) rfl)
      rw [show V 0 = _ from p15] at q15
      have q18 : AC.tmps.getD 18 undef = V 3 := hf.dep ⟨3, .data⟩ (by simp) rfl 18 rfl
      have u18 := hf.up ⟨3, .data⟩ (by simp) rfl
      have n4 : Ld 4 = false := hL
      obtain ⟨ao3, cap3, e3, hs3⟩ := hR.l3 u18 n4
      rw [e3] at q18
      have hz := hR.bw.size
      go_simp
      refine (ladd_any WW T H8.out HTr.out ao3 cap3 L hs3 (by omega) HLr.out s HS.out).mono ?_
      rintro e w4 ⟨rfl, hb4⟩
      refine hK _ _ ⟨pure_extL hR.pure 4 _ rfl, below_on hR.bw hz hb4, fun a => hR.l1 a, nofun, fun a => hR.l8k hb4 a, fun a => hR.d31 a, fun _ => u18, fun _ => rfl, fun a => ?_⟩
      exact hR.d98 a
    · obtain rfl := Option.some.inj (show some _ = some o from ho)
      rw [if_pos (by rfl)]
      have q19 : AC.tmps.getD 19 undef = V 4 := hf.dep ⟨4, .data⟩ (by simp) rfl 19 rfl
      have p19 := hR.pure 4 (hf.up ⟨4, .data⟩ (by simp) rfl)
      rw [show V 4 = _ from p19] at q19
      go_simp
      exact hK _ _ (hR.set 5 _ (by decide) (by decide) (by decide) (by decide) (by decide) rfl)
    · obtain rfl := Option.some.inj (show some _ = some o from ho)
      rw [if_pos (by rfl)]
      have q14 : AC.tmps.getD 14 undef = V 5 := hf.dep ⟨5, .data⟩ (by simp) rfl 14 rfl
      have p14 := hR.pure 5 (hf.up ⟨5, .data⟩ (by simp) rfl)
      rw [show V 5 = _ from p14] at q14
      go_simp
      exact hK _ _ (hR.set 6 _ (by decide) (by decide) (by decide) (by decide) (by decide) rfl)
    · obtain rfl := Option.some.inj (show some _ = some o from ho)
      rw [if_pos (by rfl)]
      have q14 : AC.tmps.getD 14 undef = V 5 := hf.dep ⟨5, .data⟩ (by simp) rfl 14 rfl
      have p14 := hR.pure 5 (hf.up ⟨5, .data⟩ (by simp) rfl)
      rw [show V 5 = _ from p14] at q14
      go_simp
      exact hK _ _ (hR.set 7 _ (by decide) (by decide) (by decide) (by decide) (by decide) rfl)
    · obtain rfl := Option.some.inj (show some _ = some o from ho)
      rw [if_pos (by rfl)]
      have n9 : Ld 9 = false := by
        cases h : Ld 9 with
        | false => rfl
        | true => rw [hR.d98 h] at hL; cases hL
      have hz := hR.bw.size
      go_simp
      refine hK _ _ ⟨pure_extL hR.pure 8 _ trivial, hR.bw.alloc hz _, fun a => hR.l1 a, fun a b => ?_, fun _ => ⟨_, rfl, hz, fun _ => Blk.new WW _ (ic z8), fun a => ?_⟩, fun a => hR.d31 a, fun a => hR.d43 a, fun a => hR.d94 a, fun _ => rfl⟩
      · obtain ⟨ao3, cap3, e3, hs3⟩ := hR.l3 a b
        exact ⟨ao3, cap3, e3, hs3.keeps (below_new1 _ _)⟩
      · replace a : Ld 9 = true := a; rw [n9] at a; cases a
    · obtain rfl := Option.some.inj (show some _ = some o from ho)
      rw [if_pos (by rfl)]
      have q5 : AC.tmps.getD 5 undef = V 8 := hf.dep ⟨8, .data⟩ (by simp) rfl 5 rfl
      have u5 := hf.up ⟨8, .data⟩ (by simp) rfl
      have q20 : AC.tmps.getD 20 undef = V 6 := hf.dep ⟨6, .data⟩ (by simp) rfl 20 rfl
      have p20 := hR.pure 6 (hf.up ⟨6, .data⟩ (by simp) rfl)
      rw [show V 6 = _ from p20] at q20
      have u4 := hf.up ⟨4, .phase⟩ (by simp) rfl
      have n9 : Ld 9 = false := hL
      obtain ⟨g8, e8, hg8, k1, k2⟩ := hR.l8 u5
      rw [e8] at q5
      have hk := k1 n9
      refine wp_store_mid _ _ _ rfl g8 0 (ia s.1) q5 q20 (by rw [ia_size, HRl.out]; exact hk.thereMid 0 8 (by decide)) (by rw [ia_size, HRl.out]; exact info_i8) (ia_all _) (hK undef _ ⟨pure_extL hR.pure 9 undef trivial, below_setCells _ _ hR.bw hg8, fun a => hR.l1 a, fun a b => ?_, fun _ => ⟨g8, e8, hg8, nofun, fun _ => ?_⟩, fun a => hR.d31 a, fun a => hR.d43 a, fun _ => u4, fun _ => u5⟩)
      · replace b : Ld 4 = false := b; rw [u4] at b; cases b
      · rw [show (ia s.1).toList = ic s.1 from by simp [ia]]
        exact hk.setAll _ (by rw [ic_len, ic_len, HRl.out]; rfl)
    · obtain rfl := Option.some.inj (show some _ = some o from ho)
      rw [if_pos (by rfl)]
      have q21 : AC.tmps.getD 21 undef = V 7 := hf.dep ⟨7, .data⟩ (by simp) rfl 21 rfl
      have p21 := hR.pure 7 (hf.up ⟨7, .data⟩ (by simp) rfl)
      rw [show V 7 = _ from p21] at q21
      go_simp
      exact hK _ _ (hR.set 10 _ (by decide) (by decide) (by decide) (by decide) (by decide) rfl)
    · omega
  · intro Ld V WW hall hR
    have hp := hR.pure
    have v0 : V 0 = _ := hp 0 (hall 0 (by decide)); have v2 : V 2 = _ := hp 2 (hall 2 (by decide)); have v4 : V 4 = _ := hp 4 (hall 4 (by decide)); have v5 : V 5 = _ := hp 5 (hall 5 (by decide)); have v6 : V 6 = _ := hp 6 (hall 6 (by decide)); have v7 : V 7 = _ := hp 7 (hall 7 (by decide)); have v10 : V 10 = _ := hp 10 (hall 10 (by decide))
    obtain ⟨g8, v8, hg8, _, hk8⟩ := hR.l8 (hall 8 (by decide))
    have HG8 := Lib.hid (hk8 (hall 9 (by decide)))
    have HB5 := Lib.hid hR.bw
    simp only [pairsOf, laid, Nat.zero_add, Nat.reduceAdd, v0, v2, v4, v5, v6, v7, v8, v10, List.setIfInBounds_toArray, List.set_cons_zero, List.set_cons_succ]
    clear hp v0 v2 v4 v5 v6 v7 v8 v10 hR hall hk8
    have HSL5 := Lib.hid (HSL.out.keeps HB5.out)
    have HBX5 := Lib.hid (HBX.out.below HB5.out HBL.out)
    have HB6 := Lib.hid (below_on HB2.out HB2.out.size HB5.out)
    go_wp2_with (refine ld_i8 rfl _ rfl w.heap.size 0 rfl T H8.out HBX5.out.range ?_)
    refine (HRA.out _ HSL5.out).mono ?_
    rintro e w6 ⟨rfl, hb6⟩
    have HB7 := Lib.hid (below_on HB6.out HB6.out.size hb6)
    have HG6 := Lib.hid ((HG8.out.keeps hb6).alloc (.cells (ic z8).toArray 22))
    obtain ⟨c, hc⟩ : ∃ c, w6.heap.size = c := ⟨_, rfl⟩
    have HC1 := Lib.hid (Blk.new w6 22 (ic z8))
    have HBa := Lib.hid (HB7.out.alloc HB7.out.size (.cells (ic z8).toArray 22))
    have hwc := HB7.out.size
    have hgc : g8 < w6.heap.size := (HG8.out.keeps hb6).lt
    rw [hc] at HC1 hwc hgc
    have HTHc := Lib.hid (HC1.out.thereMid 0 8 (by decide))
    clear hb6
    go_wp2_with (refine st_i8 rfl _ _ rfl c 0 rfl s.1 rfl HRl.out HTHc.out ?_)
    intro W3 hW
    have HC3 : Hid (Blk W3 c 22 (ic s.1)) := by show Blk _ _ _ _; rw [hW.out]; exact HC1.out.setAll _ (by rw [ic_len, ic_len, HRl.out]; rfl)
    have HG3 : Hid (Blk W3 g8 22 (ic s.1)) := by show Blk _ _ _ _; rw [hW.out]; exact HG6.out.otherCells _ _ (by omega)
    have HB3 : Hid (Below w.heap.size w W3) := by show Below _ _ _; rw [hW.out]; exact below_setCells _ _ HBa.out hwc
    clear hW HC1 HG6 HBa HTHc hc hwc hgc
    obtain ⟨M, hM⟩ : ∃ M, s.1 = M := ⟨_, rfl⟩
    have HMl := HRl; have HMr := HRr
    rw [hM] at HC3 HG3 HMl HMr
    clear hM
    have heq := eq_i8 W3 M HMl.out HMr.out
    go_wp2_with (first | (refine ld_i8 rfl _ rfl c 0 rfl M HMl.out HC3.out.range ?_) | (refine ld_i8 rfl _ rfl g8 0 rfl M HMl.out HG3.out.range ?_))
    go_ret
    exact ⟨rfl, HB3.out⟩
theorem wf_in {x : Int} (h : (Lit.int .i64 x).wf = true) : -9223372036854775808 ≤ x ∧ x ≤ 9223372036854775807 := by
  simp [Lit.wf, IntKind.min, IntKind.max, IntKind.signed, IntKind.bits] at h; omega
theorem lg_in {L : List Lg} (wL : ∀ a ∈ L, ∀ z ∈ [a.1, a.2], (Lit.int .i64 z).wf = true) : ∀ t ∈ L, -9223372036854775808 ≤ t.2 ∧ t.2 ≤ 9223372036854775807 := fun t ht => wf_in (wL t ht t.2 (by simp))
set_option maxRecDepth 8000 in
theorem ledgerAdds_law (T : List Int) (hT8 : T.length = 8) (wT : ∀ x ∈ T, (Lit.int .i64 x).wf = true) (ao : Option Addr) (cap : Nat) (L : List Lg) (wL : ∀ a ∈ L, ∀ z ∈ [a.1, a.2], (Lit.int .i64 z).wf = true) (w : World) (h : SlG w ao cap L) :
    Calls Try.prog 3 #[.agg (T.map (Value.int .i64)).toArray, .slice ao L.length cap] w fun e w' => e = .returned (.bool true) ∧ Below w.heap.size w w' := by
  by_cases hl : L.length ≤ 40
  · exact ledgerAdds_core w T hT8 (fun x hx => wf_in (wT x hx)) ao cap L h hl (lg_in wL) _ rfl
  · have HAl := Lib.hid (fun W => lalive_any W)
    have HB0 := Lib.hid (below_new1 w (.cells (ic T).toArray 22))
    have hl40 : (40 : Int) < L.length := by omega
    show Calls Try.prog 3 #[.agg (ia T), .slice ao L.length cap] w _
    clear h wL wT hT8 hl
    go_enter Try.func3, Try.ntmps3
    go_wp2_with fail
    refine (HAl.out _).mono ?_
    rintro e w2 ⟨rfl, hb2⟩
    have HB2 := Lib.hid (below_on HB0.out HB0.out.size hb2)
    clear hb2
    go_wp2
    go_ret
    exact ⟨rfl, HB2.out⟩
end Go.Proofs.Yteghjdmalbcdfaa
