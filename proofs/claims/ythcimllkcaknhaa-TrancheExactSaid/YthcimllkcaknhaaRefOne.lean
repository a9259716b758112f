/-
  The walk of the reference's one tranche behind a day.
-/
import Derived.Test.YthcimllkcaknhaaRefTr
set_option linter.unusedVariables false
set_option linter.unusedSimpArgs false
namespace Go.Proofs.Ythcimllkcaknhaa
open Go.RowKit Dg

theorem field_ns (m : Bool) (w : World) : (D : List Int) → (h : D.length = 10) → (Instr.field 47 (.agg (ns m D)) 1).run Try.prog w = .ok (.agg (ds D)) w
  | [a, b, c, d, e, f, g, h, i, j], _ => by rfl
theorem build_num : (D : List Int) → (h : D.length = 10) → Array.foldl (fun (cs : Array Value) (x : Value × Nat) => cs.setIfInBounds (1 + x.snd) x.fst) #[.bool false, .int .u64 0, .int .u64 0, .int .u64 0, .int .u64 0, .int .u64 0, .int .u64 0, .int .u64 0, .int .u64 0, .int .u64 0, .int .u64 0] (ds D).zipIdx 0 (ds D).size = ns false D
  | [a, b, c, d, e, f, g, h, i, j], _ => by simp [ds, du, ns, nu]
theorem run_build (w : World) : (D : List Int) → (h : D.length = 10) → (Instr.build 47 #[(1, .agg (ds D))]).run Try.prog w = .ok (.agg (ns false D)) w
  | [a, b, c, d, e, f, g, h, i, j], _ => by kernel_rfl
section
variable {ops : Array Oper} {rest : List Oper} {o : Oper} {a : Act} {w : World} {Q : Exit → Act → World → Prop}
theorem bd_num (hw : Region.wanted o (yielded ops a.tmps) = true) (x : Operand) (ho : o.op = .build 47 #[(1, x)]) (D : List Int) (hx : a.eval x = .agg (ds D)) (hl : D.length = 10)
    (h : wpList Try.prog ops Q rest (a.put o.dst (.agg (ns false D))) w) : wpList Try.prog ops Q (o :: rest) a w :=
  wpList_step fun _ hK => by
    rw [if_pos hw]
    have hrun := run_build w D hl
    unfold Oper.wp
    simp [execOp, ho, hx, hrun, Result.andThen]
    exact hK _ _ h
end
theorem stc_at (g o : Nat) (C : List Value) (W : World) : stc (.pointer (some ⟨g, o, none⟩)) C W = W.setCells g o C := rfl
set_option maxRecDepth 8000 in
set_option maxHeartbeats 3200000 in
theorem one_core (b s p r c l : Int) (hp0 : 0 ≤ p) (hp1 : p ≤ 18014398509481984) (hc0 : 0 ≤ c) (hc1 : c ≤ 60000000000) (Dp Ds Dn Dc Dq Dr : List Int) (lp : Dp.length = 10) (ls : Ds.length = 10) (ln : Dn.length = 10) (lc : Dc.length = 10) (lq : Dq.length = 10) (lr : Dr.length = 10)
    (hT : ∀ W, Calls Try.prog 21 #[.int .i64 b, .int .i64 r] W fun e w' => e = .returned (.agg (ns false Dp)) ∧ Below W.heap.size W w')
    (hO : ∀ W, Calls Try.prog 23 #[.int .i64 s] W fun e w' => e = .returned (.agg (ns false Ds)) ∧ Below W.heap.size W w')
    (hP : ∀ W, Calls Try.prog 20 #[.agg (ns false Dp), .agg (ns false Ds)] W fun e w' => e = .returned (.agg (ns false Dn)) ∧ Below W.heap.size W w')
    (hK : ∀ W, Calls Try.prog 23 #[.int .i64 3600000] W fun e w' => e = .returned (.agg (ns false Dc)) ∧ Below W.heap.size W w')
    (hD : ∀ W, Calls Try.prog 22 #[.agg (ds Dn), .agg (ds Dc)] W fun e w' => e = .returned (.tuple #[.agg (ds Dq), .agg (ds Dr)]) ∧ Below W.heap.size W w')
    (hQ : ∀ W, Calls Try.prog 24 #[.agg (ns false Dq)] W fun e w' => e = .returned (.tuple #[.int .i64 c, .int .i64 0]) ∧ Below W.heap.size W w')
    (hR : ∀ W, Calls Try.prog 24 #[.agg (ns false Dr)] W fun e w' => e = .returned (.tuple #[.int .i64 l, .int .i64 0]) ∧ Below W.heap.size W w') (w : World) :
    Calls Try.prog 28 #[.agg #[.int .i64 b, .int .i64 s, .int .i64 p], .int .i64 r] w fun e w' => e = .returned (.agg #[.int .i64 b, .int .i64 l, .int .i64 (p + c)]) ∧ Below w.heap.size w w' := by
  have HT := Lib.hid hT
  have HO := Lib.hid hO
  have HP := Lib.hid hP
  have HK3 := Lib.hid hK
  have HD := Lib.hid hD
  have HQ := Lib.hid hQ
  have HR := Lib.hid hR
  have LN := Lib.hid ln
  have LC := Lib.hid lc
  have LQ := Lib.hid lq
  have LR := Lib.hid lr
  clear hT hO hP hK hD hQ hR lp ls ln lc lq lr
  go_enter Try.func28, Try.ntmps28
  go_wp2_with fail
  have HX := Lib.hid ((Blk.new w 56 [.int .i64 b, .int .i64 s, .int .i64 p]).alloc (.cells #[.int .i64 0, .int .i64 0, .int .i64 0] 56))
  have HY := Lib.hid (Blk.new2 w (.cells #[.int .i64 b, .int .i64 s, .int .i64 p] 56) 56 [.int .i64 0, .int .i64 0, .int .i64 0])
  have HB := Lib.hid (below_new2 w (.cells #[.int .i64 b, .int .i64 s, .int .i64 p] 56) (.cells #[.int .i64 0, .int .i64 0, .int .i64 0] 56))
  refine region_tail (by kernel_rfl) (by kernel_rfl) [some 12, some 13, some 14, some 15, some 16, some 17, some 18, some 19, some 5, none] (by kernel_rfl) 9 (by decide) (by kernel_rfl) [8] (by decide) w.heap.size w HB.out (Nat.le_refl _) (fun i v WW => match i with | 0 => v = .pointer (some ⟨w.heap.size, 0, none⟩) | 1 => v = .int .i64 b | 2 => v = .int .i64 r | 3 => v = .agg (ns false Dp) | 4 => v = .pointer (some ⟨w.heap.size, 1, none⟩) | 5 => v = .int .i64 s | 6 => v = .agg (ns false Ds) | 7 => v = .agg (ns false Dn) | 8 => ∃ g, v = .pointer (some ⟨g, 0, none⟩) ∧ w.heap.size + 2 ≤ g ∧ Blk WW g 47 (nu false z10) | _ => True) ?_ ?_ (fun t V W W1 => match t with | 0 => W1 = W | 1 => W1 = stc (V 8) (nu false Dn) W | _ => False) (fun _ _ => rfl) (fun _ _ _ h => h) ?_ ?_ ?_ ?_
  · intro i v WW WX h hbx
    rcases i with _ | _ | _ | _ | _ | _ | _ | _ | _ | i
    · exact h
    · exact h
    · exact h
    · exact h
    · exact h
    · exact h
    · exact h
    · exact h
    · obtain ⟨g, e, h1, h2⟩ := h; exact ⟨g, e, h1, h2.keeps hbx⟩
    · trivial
  · intro i v WW g hi h e
    have hi2 : i = 8 := by simpa using hi
    rcases hi2 with rfl
    · obtain ⟨g0, e0, _, hb0⟩ := h
      have eg : g = g0 := by rw [e] at e0; simpa using e0
      rw [eg]; exact hb0.lt
  · intro t V V' W W' h hz
    rcases t with _ | _ | t
    · exact hz
    · (show _ = stc (V' 8) _ _; rw [← h 8 (by decide)]; exact hz)
    · exact hz
  · intro iI oO V AC WW hiN ho hf hbw K hK
    rcases iI with _ | _ | _ | _ | _ | _ | _ | _ | _ | iI
    · obtain rfl := Option.some.inj (show some _ = some oO from ho)
      rw [if_pos (by rfl)]
      have hK2 := fun v W' h1 h2 => hK v W' h1 h2 (fun hd => by simp at hd)
      have q2 : AC.tmps.getD 2 undef = .pointer (some ⟨w.heap.size, 0, none⟩) := hf.rest 2 (by kernel_rfl)
      go_simp
      exact hK2 _ _ (Below.refl _ _) rfl
    · obtain rfl := Option.some.inj (show some _ = some oO from ho)
      rw [if_pos (by rfl)]
      have hK2 := fun v W' h1 h2 => hK v W' h1 h2 (fun hd => by simp at hd)
      have q12 : AC.tmps.getD 12 undef = .pointer (some ⟨w.heap.size, 0, none⟩) := ((hf.dep ⟨0, .data⟩ (by simp) rfl).2 12 rfl).trans (hf.dep ⟨0, .data⟩ (by simp) rfl).1
      have hk := HX.out.keeps hbw
      have z0 := hk.cell 0 _ rfl
      go_simp
      exact hK2 _ _ (Below.refl _ _) rfl
    · obtain rfl := Option.some.inj (show some _ = some oO from ho)
      rw [if_pos (by rfl)]
      have hK2 := fun v W' h1 h2 => hK v W' h1 h2 (fun hd => by simp at hd)
      have q1 : AC.tmps.getD 1 undef = .int .i64 r := hf.rest 1 (by kernel_rfl)
      go_simp
      exact hK2 _ _ (Below.refl _ _) rfl
    · obtain rfl := Option.some.inj (show some _ = some oO from ho)
      rw [if_pos (by rfl)]
      have hK2 := fun v W' h1 h2 => hK v W' h1 h2 (fun hd => by simp at hd)
      have q13 : AC.tmps.getD 13 undef = .int .i64 b := ((hf.dep ⟨1, .data⟩ (by simp) rfl).2 13 rfl).trans (hf.dep ⟨1, .data⟩ (by simp) rfl).1
      have q14 : AC.tmps.getD 14 undef = .int .i64 r := ((hf.dep ⟨2, .data⟩ (by simp) rfl).2 14 rfl).trans (hf.dep ⟨2, .data⟩ (by simp) rfl).1
      go_simp
      refine (HT.out WW).mono ?_
      rintro e w6 ⟨rfl, hb6⟩
      exact hK2 _ _ hb6 rfl
    · obtain rfl := Option.some.inj (show some _ = some oO from ho)
      rw [if_pos (by rfl)]
      have hK2 := fun v W' h1 h2 => hK v W' h1 h2 (fun hd => by simp at hd)
      have q2 : AC.tmps.getD 2 undef = .pointer (some ⟨w.heap.size, 0, none⟩) := hf.rest 2 (by kernel_rfl)
      go_simp
      exact hK2 _ _ (Below.refl _ _) rfl
    · obtain rfl := Option.some.inj (show some _ = some oO from ho)
      rw [if_pos (by rfl)]
      have hK2 := fun v W' h1 h2 => hK v W' h1 h2 (fun hd => by simp at hd)
      have q16 : AC.tmps.getD 16 undef = .pointer (some ⟨w.heap.size, 1, none⟩) := ((hf.dep ⟨4, .data⟩ (by simp) rfl).2 16 rfl).trans (hf.dep ⟨4, .data⟩ (by simp) rfl).1
      have hk := HX.out.keeps hbw
      have z1 := hk.cell 1 _ rfl
      go_simp
      exact hK2 _ _ (Below.refl _ _) rfl
    · obtain rfl := Option.some.inj (show some _ = some oO from ho)
      rw [if_pos (by rfl)]
      have hK2 := fun v W' h1 h2 => hK v W' h1 h2 (fun hd => by simp at hd)
      have q17 : AC.tmps.getD 17 undef = .int .i64 s := ((hf.dep ⟨5, .data⟩ (by simp) rfl).2 17 rfl).trans (hf.dep ⟨5, .data⟩ (by simp) rfl).1
      go_simp
      refine (HO.out WW).mono ?_
      rintro e w6 ⟨rfl, hb6⟩
      exact hK2 _ _ hb6 rfl
    · obtain rfl := Option.some.inj (show some _ = some oO from ho)
      rw [if_pos (by rfl)]
      have hK2 := fun v W' h1 h2 => hK v W' h1 h2 (fun hd => by simp at hd)
      have q15 : AC.tmps.getD 15 undef = .agg (ns false Dp) := ((hf.dep ⟨3, .data⟩ (by simp) rfl).2 15 rfl).trans (hf.dep ⟨3, .data⟩ (by simp) rfl).1
      have q18 : AC.tmps.getD 18 undef = .agg (ns false Ds) := ((hf.dep ⟨6, .data⟩ (by simp) rfl).2 18 rfl).trans (hf.dep ⟨6, .data⟩ (by simp) rfl).1
      go_simp
      refine (HP.out WW).mono ?_
      rintro e w6 ⟨rfl, hb6⟩
      exact hK2 _ _ hb6 rfl
    · obtain rfl := Option.some.inj (show some _ = some oO from ho)
      rw [if_pos (by rfl)]
      go_simp
      exact hK _ _ (below_new1 WW _) ⟨_, rfl, by have := hbw.size; simp at this; omega, Blk.new WW 47 (nu false z10)⟩ (fun _ => ⟨_, rfl, Nat.le_refl _⟩)
    · omega
  · intro jJ oO V AC WW W1 ho hf hbw hall hap hz K hK
    have hlt : jJ < 1 := by have := (Array.getElem?_eq_some_iff.1 ho).1; simp at this; omega
    rcases jJ with _ | jJ
    · obtain rfl := Option.some.inj (show some _ = some oO from ho)
      rw [if_pos (by rfl)]
      replace hz : W1 = WW := hz
      have q5 : AC.tmps.getD 5 undef = V 8 := (hf.dep ⟨8, .data⟩ (by simp) rfl 5 rfl)
      have t8 := hall 8 (by decide)
      obtain ⟨g, e, h1, h2⟩ := t8
      have q19 : AC.tmps.getD 19 undef = .agg (ns false Dn) := (hf.dep ⟨7, .data⟩ (by simp) rfl 19 rfl).trans (hall 7 (by decide))
      rw [e] at q5
      subst hz; have hth := h2.thereMid 0 11 (by decide)
      refine wp_store_mid _ _ _ rfl g 0 (ns false Dn) q5 q19 (by rw [ns_size, LN.out]; exact hth) (by rw [ns_size, LN.out]; exact info_num) (ns_all _ _) (hK _ _ ?_)
      show _ = _
      rw [e, stc_at]; rfl
    · omega
  · intro V WW W1 hall hap hbw hBW hz
    replace hz : W1 = stc (V 8) (nu false Dn) WW := hz
    have vv0 : V 0 = .pointer (some ⟨w.heap.size, 0, none⟩) := hall 0 (by decide)
    have vv1 : V 1 = .int .i64 b := hall 1 (by decide)
    have vv2 : V 2 = .int .i64 r := hall 2 (by decide)
    have vv3 : V 3 = .agg (ns false Dp) := hall 3 (by decide)
    have vv4 : V 4 = .pointer (some ⟨w.heap.size, 1, none⟩) := hall 4 (by decide)
    have vv5 : V 5 = .int .i64 s := hall 5 (by decide)
    have vv6 : V 6 = .agg (ns false Ds) := hall 6 (by decide)
    have vv7 : V 7 = .agg (ns false Dn) := hall 7 (by decide)
    have vv8 : ∃ g, V 8 = .pointer (some ⟨g, 0, none⟩) ∧ w.heap.size + 2 ≤ g ∧ Blk WW g 47 (nu false z10) := hall 8 (by decide)
    clear hall
    simp only [pairsOf, laid, Nat.zero_add, Nat.reduceAdd, vv0, vv1, vv2, vv3, vv4, vv5, vv6, vv7, List.setIfInBounds_toArray, List.set_cons_zero, List.set_cons_succ]
    clear vv0 vv1 vv2 vv3 vv4 vv5 vv6 vv7
    obtain ⟨g, e8, hg, hb8⟩ := vv8
    rw [e8, stc_at] at hz
    rw [e8]
    subst hz
    have HG := Lib.hid (hb8.setAll (nu false Dn) (by rw [nu_len, nu_len, LN.out]; rfl))
    have HX2 := Lib.hid ((HX.out.keeps hbw).otherCells (b' := g) (nu false Dn) 0 (by omega))
    have HY2 := Lib.hid ((HY.out.keeps hbw).otherCells (b' := g) (nu false Dn) 0 (by omega))
    have HB2 := Lib.hid (below_setCells (b := g) (nu false Dn) 0 hBW (by omega))
    have HL := Lib.hid (show w.heap.size + 2 ≤ (WW.setCells g 0 (nu false Dn)).heap.size from by rw [heap_size_setCells]; have := hbw.size; simp at this; omega)
    have hfd := fun w => field_ns false w Dc LC.out
    obtain ⟨W2, hW2⟩ : ∃ W2, WW.setCells g 0 (nu false Dn) = W2 := ⟨_, rfl⟩
    rw [hW2] at HG HX2 HY2 HB2 HL ⊢
    clear hW2 hb8 hbw hBW e8 hap
    clear HX HY HB
    go_wp2_with fail
    refine region_tailF (by kernel_rfl) (by kernel_rfl) [some 21, some 22, some 23, some 24, some 25, some 20, some 26, some 27, some 6, some 7, none, none] (by kernel_rfl) 10 (by decide) [7] (by kernel_rfl) (by decide) [8, 9] (by decide) w.heap.size w HB2.out (Nat.le_refl _) (fun i v WW => match i with | 0 => v = .pointer (some ⟨g, 1, none⟩) | 1 => v = .agg (ds Dn) | 2 => v = .agg (ns false Dc) | 3 => v = .agg (ds Dc) | 4 => v = .tuple #[.agg (ds Dq), .agg (ds Dr)] | 5 => v = .tuple #[.agg (ds Dq), .agg (ds Dr)] | 6 => v = .agg (ds Dq) | 7 => v = .agg (ds Dr) | 8 => ∃ g, v = .pointer (some ⟨g, 0, none⟩) ∧ W2.heap.size ≤ g ∧ Blk WW g 45 (du z10) | 9 => ∃ g, v = .pointer (some ⟨g, 0, none⟩) ∧ W2.heap.size ≤ g ∧ Blk WW g 45 (du z10) | _ => True) ?_ ?_ (fun t V W W1 => match t with | 0 => W1 = W | 1 => W1 = stc (V 8) (du Dq) W | 2 => W1 = stc (V 9) (du Dr) (stc (V 8) (du Dq) W) | _ => False) (fun _ _ => rfl) (fun _ _ _ h => h) ?_ ?_ ?_ ?_ ?_
    · intro i v WW WX h hbx
      rcases i with _ | _ | _ | _ | _ | _ | _ | _ | _ | _ | i
      · exact h
      · exact h
      · exact h
      · exact h
      · exact h
      · exact h
      · exact h
      · exact h
      · obtain ⟨g, e, h1, h2⟩ := h; exact ⟨g, e, h1, h2.keeps hbx⟩
      · obtain ⟨g, e, h1, h2⟩ := h; exact ⟨g, e, h1, h2.keeps hbx⟩
      · trivial
    · intro i v WW g hi h e
      have hi2 : i = 8 ∨ i = 9 := by simpa using hi
      rcases hi2 with rfl | rfl
      · obtain ⟨g0, e0, _, hb0⟩ := h
        have eg : g = g0 := by rw [e] at e0; simpa using e0
        rw [eg]; exact hb0.lt
      · obtain ⟨g0, e0, _, hb0⟩ := h
        have eg : g = g0 := by rw [e] at e0; simpa using e0
        rw [eg]; exact hb0.lt
    · intro t V V' W W' h hz
      rcases t with _ | _ | _ | t
      · exact hz
      · (show _ = stc (V' 8) _ _; rw [← h 8 (by decide) (by decide)]; exact hz)
      · (show _ = stc (V' 9) _ (stc (V' 8) _ _); rw [← h 8 (by decide) (by decide), ← h 9 (by decide) (by decide)]; exact hz)
      · exact hz
    · intro iI oO V AC WW hiN hFI ho hf hbw K hK
      rcases iI with _ | _ | _ | _ | _ | _ | _ | _ | _ | _ | iI
      · obtain rfl := Option.some.inj (show some _ = some oO from ho)
        rw [if_pos (by rfl)]
        have hK2 := fun v W' h1 h2 => hK v W' h1 h2 (fun hd => by simp at hd)
        have q5 : AC.tmps.getD 5 undef = .pointer (some ⟨g, 0, none⟩) := hf.rest 5 (by kernel_rfl)
        go_simp
        exact hK2 _ _ (Below.refl _ _) rfl
      · obtain rfl := Option.some.inj (show some _ = some oO from ho)
        rw [if_pos (by rfl)]
        have hK2 := fun v W' h1 h2 => hK v W' h1 h2 (fun hd => by simp at hd)
        have q21 : AC.tmps.getD 21 undef = .pointer (some ⟨g, 1, none⟩) := ((hf.dep ⟨0, .data⟩ (by simp) rfl).2 21 rfl).trans (hf.dep ⟨0, .data⟩ (by simp) rfl).1
        exact wp_load_mid _ _ rfl g 1 q21 (du Dn) _ ((HG.out.keeps hbw).digits LN.out) Try.underlying45 rfl (by rw [du_len, LN.out]; exact info_arr) (hK2 _ _ (Below.refl _ _) rfl)
      · obtain rfl := Option.some.inj (show some _ = some oO from ho)
        rw [if_pos (by rfl)]
        have hK2 := fun v W' h1 h2 => hK v W' h1 h2 (fun hd => by simp at hd)
        go_simp
        refine (HK3.out WW).mono ?_
        rintro e w6 ⟨rfl, hb6⟩
        exact hK2 _ _ hb6 rfl
      · obtain rfl := Option.some.inj (show some _ = some oO from ho)
        rw [if_pos (by rfl)]
        have hK2 := fun v W' h1 h2 => hK v W' h1 h2 (fun hd => by simp at hd)
        have q23 : AC.tmps.getD 23 undef = .agg (ns false Dc) := ((hf.dep ⟨2, .data⟩ (by simp) rfl).2 23 rfl).trans (hf.dep ⟨2, .data⟩ (by simp) rfl).1
        go_simp
        exact hK2 _ _ (Below.refl _ _) rfl
      · obtain rfl := Option.some.inj (show some _ = some oO from ho)
        rw [if_pos (by rfl)]
        have hK2 := fun v W' h1 h2 => hK v W' h1 h2 (fun hd => by simp at hd)
        have q22 : AC.tmps.getD 22 undef = .agg (ds Dn) := ((hf.dep ⟨1, .data⟩ (by simp) rfl).2 22 rfl).trans (hf.dep ⟨1, .data⟩ (by simp) rfl).1
        have q24 : AC.tmps.getD 24 undef = .agg (ds Dc) := ((hf.dep ⟨3, .data⟩ (by simp) rfl).2 24 rfl).trans (hf.dep ⟨3, .data⟩ (by simp) rfl).1
        go_simp
        refine (HD.out WW).mono ?_
        rintro e w6 ⟨rfl, hb6⟩
        exact hK2 _ _ hb6 rfl
      · obtain rfl := Option.some.inj (show some _ = some oO from ho)
        rw [if_pos (by rfl)]
        have hK2 := fun v W' h1 h2 => hK v W' h1 h2 (fun hd => by simp at hd)
        have q25 : AC.tmps.getD 25 undef = .tuple #[.agg (ds Dq), .agg (ds Dr)] := ((hf.dep ⟨4, .data⟩ (by simp) rfl).2 25 rfl).trans (hf.dep ⟨4, .data⟩ (by simp) rfl).1
        go_simp
        exact hK2 _ _ (Below.refl _ _) rfl
      · obtain rfl := Option.some.inj (show some _ = some oO from ho)
        rw [if_pos (by rfl)]
        have hK2 := fun v W' h1 h2 => hK v W' h1 h2 (fun hd => by simp at hd)
        have q20 : AC.tmps.getD 20 undef = .tuple #[.agg (ds Dq), .agg (ds Dr)] := ((hf.dep ⟨5, .data⟩ (by simp) rfl).2 20 rfl).trans (hf.dep ⟨5, .data⟩ (by simp) rfl).1
        go_simp
        exact hK2 _ _ (Below.refl _ _) rfl
      · exact absurd hFI (by decide)
      · obtain rfl := Option.some.inj (show some _ = some oO from ho)
        rw [if_pos (by rfl)]
        go_simp
        exact hK _ _ (below_new1 WW _) ⟨_, rfl, hbw.size, Blk.new WW 45 (du z10)⟩ (fun _ => ⟨_, rfl, Nat.le_refl _⟩)
      · obtain rfl := Option.some.inj (show some _ = some oO from ho)
        rw [if_pos (by rfl)]
        go_simp
        exact hK _ _ (below_new1 WW _) ⟨_, rfl, hbw.size, Blk.new WW 45 (du z10)⟩ (fun _ => ⟨_, rfl, Nat.le_refl _⟩)
      · omega
    · intro iI oO V AC WW W0 hFI ho hf K hK
      rcases iI with _ | _ | _ | _ | _ | _ | _ | _ | _ | _ | iI
      · exact absurd hFI (by decide)
      · exact absurd hFI (by decide)
      · exact absurd hFI (by decide)
      · exact absurd hFI (by decide)
      · exact absurd hFI (by decide)
      · exact absurd hFI (by decide)
      · exact absurd hFI (by decide)
      · obtain rfl := Option.some.inj (show some _ = some oO from ho)
        rw [if_pos (by rfl)]
        have q20 : AC.tmps.getD 20 undef = .tuple #[.agg (ds Dq), .agg (ds Dr)] := ((hf.dep ⟨5, .data⟩ (by simp) rfl).2 20 rfl).trans (hf.dep ⟨5, .data⟩ (by simp) rfl).1
        go_simp
        exact hK _ rfl
      · exact absurd hFI (by decide)
      · exact absurd hFI (by decide)
      · exact absurd hFI (by simp)
    · intro jJ oO V AC WW W1 ho hf hbw hall hap hz K hK
      have hlt : jJ < 2 := by have := (Array.getElem?_eq_some_iff.1 ho).1; simp at this; omega
      rcases jJ with _ | _ | jJ
      · obtain rfl := Option.some.inj (show some _ = some oO from ho)
        rw [if_pos (by rfl)]
        replace hz : W1 = WW := hz
        have q6 : AC.tmps.getD 6 undef = V 8 := (hf.dep ⟨8, .data⟩ (by simp) rfl 6 rfl)
        have t8 := (hall 8 (by decide) (.inr ⟨⟨8, .data⟩, by simp, rfl, rfl⟩))
        obtain ⟨g, e, h1, h2⟩ := t8
        have q26 : AC.tmps.getD 26 undef = .agg (ds Dq) := (hf.dep ⟨6, .data⟩ (by simp) rfl 26 rfl).trans (hall 6 (by decide) (.inr ⟨⟨6, .data⟩, by simp, rfl, rfl⟩))
        rw [e] at q6
        subst hz
        have hth := h2.thereZ
        refine wp_store_mid _ _ _ rfl g 0 (ds Dq) q6 q26 (by rw [ds_size, LQ.out]; exact hth) (by rw [ds_size, LQ.out]; exact info_arr) (ds_all _) (hK _ _ ?_)
        show _ = _
        rw [e, stc_at]; rfl
      · obtain rfl := Option.some.inj (show some _ = some oO from ho)
        rw [if_pos (by rfl)]
        replace hz : W1 = stc (V 8) (du Dq) WW := hz
        have q7 : AC.tmps.getD 7 undef = V 9 := (hf.dep ⟨9, .data⟩ (by simp) rfl 7 rfl)
        have t9 := (hall 9 (by decide) (.inr ⟨⟨9, .data⟩, by simp, rfl, rfl⟩))
        obtain ⟨g, e, h1, h2⟩ := t9
        have q27 : AC.tmps.getD 27 undef = .agg (ds Dr) := (hf.dep ⟨7, .data⟩ (by simp) rfl 27 rfl).trans (hall 7 (by decide) (.inr ⟨⟨7, .data⟩, by simp, rfl, rfl⟩))
        obtain ⟨g8, e8, h81, h82⟩ := hall 8 (by decide) (.inl (by decide))
        have hne : g ≠ g8 := fun h => hap 8 9 (by decide) (by decide) (by decide) g8 g e8 e h.symm
        rw [e] at q7
        rw [e8, stc_at] at hz
        subst hz
        have hth := (h2.otherCells (b' := g8) (du Dq) 0 hne).thereZ
        refine wp_store_mid _ _ _ rfl g 0 (ds Dr) q7 q27 (by rw [ds_size, LR.out]; exact hth) (by rw [ds_size, LR.out]; exact info_arr) (ds_all _) (hK _ _ ?_)
        show _ = _
        rw [e, e8, stc_at, stc_at]; rfl
      · omega
    · intro V WW W1 hall hap hbw hBW hz
      replace hz : W1 = stc (V 9) (du Dr) (stc (V 8) (du Dq) WW) := hz
      have vv0 : V 0 = .pointer (some ⟨g, 1, none⟩) := hall 0 (by decide)
      have vv1 : V 1 = .agg (ds Dn) := hall 1 (by decide)
      have vv2 : V 2 = .agg (ns false Dc) := hall 2 (by decide)
      have vv3 : V 3 = .agg (ds Dc) := hall 3 (by decide)
      have vv4 : V 4 = .tuple #[.agg (ds Dq), .agg (ds Dr)] := hall 4 (by decide)
      have vv5 : V 5 = .tuple #[.agg (ds Dq), .agg (ds Dr)] := hall 5 (by decide)
      have vv6 : V 6 = .agg (ds Dq) := hall 6 (by decide)
      have vv7 : V 7 = .agg (ds Dr) := hall 7 (by decide)
      have vv8 : ∃ g, V 8 = .pointer (some ⟨g, 0, none⟩) ∧ W2.heap.size ≤ g ∧ Blk WW g 45 (du z10) := hall 8 (by decide)
      have vv9 : ∃ g, V 9 = .pointer (some ⟨g, 0, none⟩) ∧ W2.heap.size ≤ g ∧ Blk WW g 45 (du z10) := hall 9 (by decide)
      clear hall
      simp only [pairsOf, laid, Nat.zero_add, Nat.reduceAdd, vv0, vv1, vv2, vv3, vv4, vv5, vv6, vv7, List.setIfInBounds_toArray, List.set_cons_zero, List.set_cons_succ]
      clear vv0 vv1 vv2 vv3 vv4 vv5 vv6 vv7
      obtain ⟨g6, e6, hg6, hb6⟩ := vv8
      obtain ⟨g7, e7, hg7, hb7⟩ := vv9
      have hL := HL.out
      have h67 : g6 ≠ g7 := hap 8 9 (by decide) (by decide) (by decide) g6 g7 e6 e7
      rw [e6, e7, stc_at, stc_at] at hz
      rw [e6, e7]
      subst hz
      have hq1 := hb6.setAll (du Dq) (by rw [du_len, du_len, LQ.out]; rfl)
      have HQ6 := Lib.hid (hq1.otherCells (b' := g7) (du Dr) 0 h67)
      have HR7 := Lib.hid ((hb7.otherCells (b' := g6) (du Dq) 0 (fun e => h67 e.symm)).setAll (du Dr) (by rw [du_len, du_len, LR.out]; rfl))
      have HX3 := Lib.hid (((HX2.out.keeps hbw).otherCells (b' := g6) (du Dq) 0 (by omega)).otherCells (b' := g7) (du Dr) 0 (by omega))
      have HY3 := Lib.hid (((HY2.out.keeps hbw).otherCells (b' := g6) (du Dq) 0 (by omega)).otherCells (b' := g7) (du Dr) 0 (by omega))
      have HB3 := Lib.hid (below_setCells (b := g7) (du Dr) 0 (below_setCells (b := g6) (du Dq) 0 hBW (by omega)) (by omega))
      obtain ⟨W3, hW3⟩ : ∃ W3, (WW.setCells g6 0 (du Dq)).setCells g7 0 (du Dr) = W3 := ⟨_, rfl⟩
      rw [hW3] at HQ6 HR7 HX3 HY3 HB3 ⊢
      clear hW3 hb6 hb7 hbw hBW e6 e7 hap hq1 hg6 hg7 h67 HX2 HY2 HB2 HG HL hfd hg hL
      go_wp2_with (first | (refine ld_arr rfl (.tmp 6) rfl g6 0 rfl Dq LQ.out HQ6.out.range ?_) | (refine bd_num rfl (.tmp 29) rfl Dq rfl LQ.out ?_))
      refine (HQ.out _).mono ?_
      rintro e u1 ⟨rfl, k1⟩
      have HR8 := Lib.hid (HR7.out.keeps k1)
      have HX4 := Lib.hid (HX3.out.keeps k1)
      have HY4 := Lib.hid (HY3.out.keeps k1)
      have HB4 := Lib.hid (below_on HB3.out HB3.out.size k1)
      clear k1 HQ6 HR7 HX3 HY3 HB3
      go_wp2_with (first | (refine ld_arr rfl (.tmp 7) rfl g7 0 rfl Dr LR.out HR8.out.range ?_) | (refine bd_num rfl (.tmp 35) rfl Dr rfl LR.out ?_))
      refine (HR.out _).mono ?_
      rintro e u2 ⟨rfl, k2⟩
      have hx5 := HX4.out.keeps k2
      have hy5 := HY4.out.keeps k2
      have x0 := hx5.cell 0 _ rfl
      have x2 := hx5.cell 2 _ rfl
      have y0 := hy5.cell 0 _ rfl
      have y1 := hy5.cell 1 _ rfl
      have y2 := hy5.cell 2 _ rfl
      have fz := hy5.frozen
      have HY5 := Lib.hid (hy5.setAll [.int .i64 b, .int .i64 l, .int .i64 (p + c)] rfl)
      have HB5 := Lib.hid (below_setCells (b := w.heap.size + 1) [.int .i64 b, .int .i64 l, .int .i64 (p + c)] 0 (below_on HB4.out HB4.out.size k2) (by omega))
      clear k2 HR8 HX4 HY4 HB4 hx5
      go_wp2
      have hY : Blk (((u2.setCell ⟨w.heap.size + 1, 0, none⟩ (.int .i64 b)).setCell ⟨w.heap.size + 1, 1, none⟩ (.int .i64 l)).setCell ⟨w.heap.size + 1, 2, none⟩ (.int .i64 (p + c))) (w.heap.size + 1) 56 [.int .i64 b, .int .i64 l, .int .i64 (p + c)] := HY5.out
      have hB : Below w.heap.size w (((u2.setCell ⟨w.heap.size + 1, 0, none⟩ (.int .i64 b)).setCell ⟨w.heap.size + 1, 1, none⟩ (.int .i64 l)).setCell ⟨w.heap.size + 1, 2, none⟩ (.int .i64 (p + c))) := HB5.out
      generalize ((u2.setCell ⟨w.heap.size + 1, 0, none⟩ (.int .i64 b)).setCell ⟨w.heap.size + 1, 1, none⟩ (.int .i64 l)).setCell ⟨w.heap.size + 1, 2, none⟩ (.int .i64 (p + c)) = W5 at hY hB ⊢
      have y0 := hY.cell 0 _ rfl
      have y1 := hY.cell 1 _ rfl
      have y2 := hY.cell 2 _ rfl
      exact bodyPost_ret (v := .agg #[.int .i64 b, .int .i64 l, .int .i64 (p + c)]) (by simp [results, Try.results28, go_sem, y0, y1, y2]) rfl ⟨rfl, hB⟩
theorem one_t (t : Tr) (r : Int) (ht : okT t = true) (r0 : 0 ≤ r) (r1 : r ≤ 10000) (w : World) :
    Calls Try.prog 28 #[.agg #[.int .i64 t.1, .int .i64 t.2.1, .int .i64 t.2.2], .int .i64 r] w fun e w' => e = .returned (.agg #[.int .i64 (dayT r t).1, .int .i64 (dayT r t).2.1, .int .i64 (dayT r t).2.2]) ∧ Below w.heap.size w w' := by
  obtain ⟨⟨b0, b1⟩, ⟨s0, s1⟩, ⟨p0, p1⟩⟩ := okT_true ht
  obtain ⟨hA0, hA1⟩ := rate_in b0 b1 r0 r1
  have hn0 : 0 ≤ t.1 * r + t.2.1 := by omega
  have e : t.2.1 + t.1 * r = t.1 * r + t.2.1 := by omega
  unfold dayT
  rw [e]
  have hq0 : 0 ≤ (t.1 * r + t.2.1) / 3600000 := by omega
  have hr0 : 0 ≤ (t.1 * r + t.2.1) % 3600000 := by omega
  refine one_core t.1 t.2.1 t.2.2 r ((t.1 * r + t.2.1) / 3600000) ((t.1 * r + t.2.1) % 3600000) p0 p1 hq0 (by omega) (dg 10 (t.1 * r)) (dg 10 t.2.1) (dg 10 (t.1 * r + t.2.1)) (dg 10 3600000) (dg 10 ((t.1 * r + t.2.1) / 3600000)) (dg 10 ((t.1 * r + t.2.1) % 3600000)) (len10 _) (len10 _) (len10 _) (len10 _) (len10 _) (len10 _) (fun W => ?_) (fun W => ?_) (fun W => ?_) (fun W => ?_) (fun W => ?_) (fun W => ?_) (fun W => ?_) w
  · have := times_any t.1 r (by omega) (by omega) (by omega) (by omega) W
    rwa [show N (t.1 * r) = ns false (dg 10 (t.1 * r)) from N_pos hA0] at this
  · have := of_any t.2.1 (by omega) (by omega) W
    rwa [show N t.2.1 = ns false (dg 10 t.2.1) from N_pos s0] at this
  · have := plus_any (t.1 * r) t.2.1 (by rw [absI_pos hA0, absI_pos s0]; simp only [TOP]; omega) W
    rwa [show N (t.1 * r) = ns false (dg 10 (t.1 * r)) from N_pos hA0, show N t.2.1 = ns false (dg 10 t.2.1) from N_pos s0, show N (t.1 * r + t.2.1) = ns false (dg 10 (t.1 * r + t.2.1)) from N_pos hn0] at this
  · have := of_any 3600000 (by omega) (by omega) W
    rwa [show N 3600000 = ns false (dg 10 3600000) from N_pos (by omega)] at this
  · exact divide_any (t.1 * r + t.2.1) 3600000 hn0 (by omega) (by omega) (by omega) W
  · have := cut_any ((t.1 * r + t.2.1) / 3600000) (by rw [absI_pos hq0]; omega) W
    rw [cutI_in (by omega) (by omega), show N ((t.1 * r + t.2.1) / 3600000) = ns false (dg 10 ((t.1 * r + t.2.1) / 3600000)) from N_pos hq0] at this
    exact this
  · have := cut_any ((t.1 * r + t.2.1) % 3600000) (by rw [absI_pos hr0]; omega) W
    rw [cutI_in (by omega) (by omega), show N ((t.1 * r + t.2.1) % 3600000) = ns false (dg 10 ((t.1 * r + t.2.1) % 3600000)) from N_pos hr0] at this
    exact this
end Go.Proofs.Ythcimllkcaknhaa
