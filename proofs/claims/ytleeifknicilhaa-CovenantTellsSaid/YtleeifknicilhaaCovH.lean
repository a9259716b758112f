/-
  Covenants: the reference's Holds.
-/
import Derived.Test.YtleeifknicilhaaCovR
import Derived.Test.YtleeifknicilhaaTail
set_option linter.unusedVariables false
set_option linter.unusedSimpArgs false
namespace Go.Proofs.Ytleeifknicilhaa
open Go.RowKit Dg

theorem info_b3 : (Try.prog.info? 34).map (·.size) = some 3 := by kernel_rfl
set_option maxRecDepth 8000 in
set_option maxHeartbeats 1600000 in
theorem holds_any (o c v i s l t d : Int) (h1 : i64 o) (h2 : i64 c) (h3 : i64 v) (h4 : i64 i) (h5 : i64 s) (h6 : i64 l) (h7 : i64 t) (h8 : i64 d) (w : World) :
    Calls Try.prog 12 #[.agg #[.int .i64 o, .int .i64 c, .int .i64 v, .int .i64 i, .int .i64 s], .agg #[.int .i64 l, .int .i64 t, .int .i64 d]] w fun e w' => e = .returned (.agg #[.bool (ltcB o c l), .bool (ltcB o v t), .bool (dscrB i s d)]) ∧ Below w.heap.size w w' := by
  have H1' := fun W => rcross_any o 10000 c l h1.1 h1.2 (by decide) (by decide) h2.1 h2.2 h6.1 h6.2 W
  have H2' := fun W => rcross_any o 10000 v t h1.1 h1.2 (by decide) (by decide) h3.1 h3.2 h7.1 h7.2 W
  have H3' := fun W => rcross_any i 10000 s d h4.1 h4.2 (by decide) (by decide) h5.1 h5.2 h8.1 h8.2 W
  have i1 : (cmpI (o * 10000) (c * l) ≤ 0) ↔ o * 10000 ≤ c * l := by unfold cmpI; split <;> (try split) <;> omega
  have i2 : (cmpI (o * 10000) (v * t) ≤ 0) ↔ o * 10000 ≤ v * t := by unfold cmpI; split <;> (try split) <;> omega
  have i3 : (0 ≤ cmpI (i * 10000) (s * d)) ↔ s * d ≤ i * 10000 := by unfold cmpI; split <;> (try split) <;> omega
  obtain ⟨x, hx⟩ : ∃ q, cmpI (o * 10000) (c * l) = q := ⟨_, rfl⟩
  obtain ⟨y, hy⟩ : ∃ q, cmpI (o * 10000) (v * t) = q := ⟨_, rfl⟩
  obtain ⟨z, hz⟩ : ∃ q, cmpI (i * 10000) (s * d) = q := ⟨_, rfl⟩
  rw [hx] at H1' i1; rw [hy] at H2' i2; rw [hz] at H3' i3
  have H1 := Lib.hid H1'; have H2 := Lib.hid H2'; have H3 := Lib.hid H3'
  have E1 : Hid (ltcB o c l = decide (x ≤ 0)) := by show _ = _; unfold ltcB; exact (decide_eq_decide.2 i1).symm
  have E2 : Hid (ltcB o v t = decide (y ≤ 0)) := by show _ = _; unfold ltcB; exact (decide_eq_decide.2 i2).symm
  have E3 : Hid (dscrB i s d = decide (0 ≤ z)) := by show _ = _; unfold dscrB; exact (decide_eq_decide.2 i3).symm
  clear H1' H2' H3' i1 i2 i3 hx hy hz h1 h2 h3 h4 h5 h6 h7 h8
  have HB := Lib.hid (below_new3 w (.cells #[.int .i64 o, .int .i64 c, .int .i64 v, .int .i64 i, .int .i64 s] 26) (.cells #[.int .i64 l, .int .i64 t, .int .i64 d] 28) (.cells #[.bool false, .bool false, .bool false] 34))
  have HA := Lib.hid (((Blk.new w 26 [.int .i64 o, .int .i64 c, .int .i64 v, .int .i64 i, .int .i64 s]).alloc (.cells #[.int .i64 l, .int .i64 t, .int .i64 d] 28)).alloc (.cells #[.bool false, .bool false, .bool false] 34))
  have HC := Lib.hid ((Blk.new2 w (.cells #[.int .i64 o, .int .i64 c, .int .i64 v, .int .i64 i, .int .i64 s] 26) 28 [.int .i64 l, .int .i64 t, .int .i64 d]).alloc (.cells #[.bool false, .bool false, .bool false] 34))
  have HH := Lib.hid (Blk.new3 w (.cells #[.int .i64 o, .int .i64 c, .int .i64 v, .int .i64 i, .int .i64 s] 26) (.cells #[.int .i64 l, .int .i64 t, .int .i64 d] 28) 34 [.bool false, .bool false, .bool false])
  go_enter Try.func12, Try.ntmps12
  go_wp2_with fail
  refine region_tail (by kernel_rfl) (by kernel_rfl) [some 5, some 6, some 7, some 8, some 9, some 10, some 11, some 12, some 13, some 14, some 15, some 16, some 17, some 18, some 19, some 20, some 21, some 22, some 23, some 24, some 25, some 26, some 27, some 28, some 29, none] (by kernel_rfl) 25 (by decide) (by kernel_rfl) [] (by decide) w.heap.size w HB.out (Nat.le_refl _) (fun iV vV WW => match iV with | 0 => vV = .pointer (some ⟨w.heap.size, 0, none⟩) | 1 => vV = .int .i64 o | 2 => vV = .pointer (some ⟨w.heap.size, 1, none⟩) | 3 => vV = .int .i64 c | 4 => vV = .pointer (some ⟨w.heap.size + 1, 0, none⟩) | 5 => vV = .int .i64 l | 6 => vV = .int .i64 x | 7 => vV = .bool (decide (x ≤ 0)) | 8 => vV = .pointer (some ⟨w.heap.size, 0, none⟩) | 9 => vV = .int .i64 o | 10 => vV = .pointer (some ⟨w.heap.size, 2, none⟩) | 11 => vV = .int .i64 v | 12 => vV = .pointer (some ⟨w.heap.size + 1, 1, none⟩) | 13 => vV = .int .i64 t | 14 => vV = .int .i64 y | 15 => vV = .bool (decide (y ≤ 0)) | 16 => vV = .pointer (some ⟨w.heap.size, 3, none⟩) | 17 => vV = .int .i64 i | 18 => vV = .pointer (some ⟨w.heap.size, 4, none⟩) | 19 => vV = .int .i64 s | 20 => vV = .pointer (some ⟨w.heap.size + 1, 2, none⟩) | 21 => vV = .int .i64 d | 22 => vV = .int .i64 z | 23 => vV = .bool (decide (0 ≤ z)) | 24 => vV = .agg #[.bool (decide (x ≤ 0)), .bool (decide (y ≤ 0)), .bool (decide (0 ≤ z))] | _ => True) ?_ ?_ (fun t V W W1 => match t with | 0 => W1 = W | 1 => W1 = W.setCells (w.heap.size + 2) 0 [.bool (decide (x ≤ 0)), .bool (decide (y ≤ 0)), .bool (decide (0 ≤ z))] | _ => False) (fun _ _ => rfl) (fun _ _ _ h => h) ?_ ?_ ?_ ?_
  · intro iV vV WW WX h hbx
    rcases iV with _ | _ | _ | _ | _ | _ | _ | _ | _ | _ | _ | _ | _ | _ | _ | _ | _ | _ | _ | _ | _ | _ | _ | _ | _ | i
    · exact h
    · exact h
    · exact h
    · exact h
    · exact h
    · exact h
    · exact h
    · exact h
    · exact h
    · exact h
    · exact h
    · exact h
    · exact h
    · exact h
    · exact h
    · exact h
    · exact h
    · exact h
    · exact h
    · exact h
    · exact h
    · exact h
    · exact h
    · exact h
    · exact h
    · trivial
  · intro i v WW g hi h e
    simp at hi
  · intro t V V' W W' h hz
    rcases t with _ | _ | t
    · exact hz
    · exact hz
    · exact hz
  · intro iI oO V AC WW hiN ho hf hbw K hK
    rcases iI with _ | _ | _ | _ | _ | _ | _ | _ | _ | _ | _ | _ | _ | _ | _ | _ | _ | _ | _ | _ | _ | _ | _ | _ | _ | iI
    · obtain rfl := Option.some.inj (show some _ = some oO from ho)
      rw [if_pos (by rfl)]
      have hK2 := fun v W' h1 h2 => hK v W' h1 h2 (fun hd => by simp at hd)
      have q2 : AC.tmps.getD 2 undef = .pointer (some ⟨w.heap.size, 0, none⟩) := hf.rest 2 (by kernel_rfl)
      go_simp
      exact hK2 _ _ (Below.refl _ _) rfl
    · obtain rfl := Option.some.inj (show some _ = some oO from ho)
      rw [if_pos (by rfl)]
      have hK2 := fun v W' h1 h2 => hK v W' h1 h2 (fun hd => by simp at hd)
      have q5 : AC.tmps.getD 5 undef = .pointer (some ⟨w.heap.size, 0, none⟩) := ((hf.dep ⟨0, .data⟩ (by simp) rfl).2 5 rfl).trans (hf.dep ⟨0, .data⟩ (by simp) rfl).1
      have hA := HA.out.keeps hbw
      have a0 := hA.cell 0 _ rfl; have a1 := hA.cell 1 _ rfl; have a2 := hA.cell 2 _ rfl; have a3 := hA.cell 3 _ rfl; have a4 := hA.cell 4 _ rfl
      go_simp
      exact hK2 _ _ (Below.refl _ _) rfl
    · obtain rfl := Option.some.inj (show some _ = some oO from ho)
      rw [if_pos (by rfl)]
      have hK2 := fun v W' h1 h2 => hK v W' h1 h2 (fun hd => by simp at hd)
      have q2 : AC.tmps.getD 2 undef = .pointer (some ⟨w.heap.size, 0, none⟩) := hf.rest 2 (by kernel_rfl)
      go_simp
      exact hK2 _ _ (Below.refl _ _) rfl
    · obtain rfl := Option.some.inj (show some _ = some oO from ho)
      rw [if_pos (by rfl)]
      have hK2 := fun v W' h1 h2 => hK v W' h1 h2 (fun hd => by simp at hd)
      have q7 : AC.tmps.getD 7 undef = .pointer (some ⟨w.heap.size, 1, none⟩) := ((hf.dep ⟨2, .data⟩ (by simp) rfl).2 7 rfl).trans (hf.dep ⟨2, .data⟩ (by simp) rfl).1
      have hA := HA.out.keeps hbw
      have a0 := hA.cell 0 _ rfl; have a1 := hA.cell 1 _ rfl; have a2 := hA.cell 2 _ rfl; have a3 := hA.cell 3 _ rfl; have a4 := hA.cell 4 _ rfl
      go_simp
      exact hK2 _ _ (Below.refl _ _) rfl
    · obtain rfl := Option.some.inj (show some _ = some oO from ho)
      rw [if_pos (by rfl)]
      have hK2 := fun v W' h1 h2 => hK v W' h1 h2 (fun hd => by simp at hd)
      have q3 : AC.tmps.getD 3 undef = .pointer (some ⟨w.heap.size + 1, 0, none⟩) := hf.rest 3 (by kernel_rfl)
      go_simp
      exact hK2 _ _ (Below.refl _ _) rfl
    · obtain rfl := Option.some.inj (show some _ = some oO from ho)
      rw [if_pos (by rfl)]
      have hK2 := fun v W' h1 h2 => hK v W' h1 h2 (fun hd => by simp at hd)
      have q9 : AC.tmps.getD 9 undef = .pointer (some ⟨w.heap.size + 1, 0, none⟩) := ((hf.dep ⟨4, .data⟩ (by simp) rfl).2 9 rfl).trans (hf.dep ⟨4, .data⟩ (by simp) rfl).1
      have hC := HC.out.keeps hbw
      have c0 := hC.cell 0 _ rfl; have c1 := hC.cell 1 _ rfl; have c2 := hC.cell 2 _ rfl
      go_simp
      exact hK2 _ _ (Below.refl _ _) rfl
    · obtain rfl := Option.some.inj (show some _ = some oO from ho)
      rw [if_pos (by rfl)]
      have hK2 := fun v W' h1 h2 => hK v W' h1 h2 (fun hd => by simp at hd)
      have q6 : AC.tmps.getD 6 undef = .int .i64 o := ((hf.dep ⟨1, .data⟩ (by simp) rfl).2 6 rfl).trans (hf.dep ⟨1, .data⟩ (by simp) rfl).1
      have q8 : AC.tmps.getD 8 undef = .int .i64 c := ((hf.dep ⟨3, .data⟩ (by simp) rfl).2 8 rfl).trans (hf.dep ⟨3, .data⟩ (by simp) rfl).1
      have q10 : AC.tmps.getD 10 undef = .int .i64 l := ((hf.dep ⟨5, .data⟩ (by simp) rfl).2 10 rfl).trans (hf.dep ⟨5, .data⟩ (by simp) rfl).1
      go_simp
      refine (H1.out WW).mono ?_
      rintro e w6 ⟨rfl, hb6⟩
      exact hK2 _ _ hb6 rfl
    · obtain rfl := Option.some.inj (show some _ = some oO from ho)
      rw [if_pos (by rfl)]
      have hK2 := fun v W' h1 h2 => hK v W' h1 h2 (fun hd => by simp at hd)
      have q11 : AC.tmps.getD 11 undef = .int .i64 x := ((hf.dep ⟨6, .data⟩ (by simp) rfl).2 11 rfl).trans (hf.dep ⟨6, .data⟩ (by simp) rfl).1
      go_simp
      exact hK2 _ _ (Below.refl _ _) rfl
    · obtain rfl := Option.some.inj (show some _ = some oO from ho)
      rw [if_pos (by rfl)]
      have hK2 := fun v W' h1 h2 => hK v W' h1 h2 (fun hd => by simp at hd)
      have q2 : AC.tmps.getD 2 undef = .pointer (some ⟨w.heap.size, 0, none⟩) := hf.rest 2 (by kernel_rfl)
      go_simp
      exact hK2 _ _ (Below.refl _ _) rfl
    · obtain rfl := Option.some.inj (show some _ = some oO from ho)
      rw [if_pos (by rfl)]
      have hK2 := fun v W' h1 h2 => hK v W' h1 h2 (fun hd => by simp at hd)
      have q13 : AC.tmps.getD 13 undef = .pointer (some ⟨w.heap.size, 0, none⟩) := ((hf.dep ⟨8, .data⟩ (by simp) rfl).2 13 rfl).trans (hf.dep ⟨8, .data⟩ (by simp) rfl).1
      have hA := HA.out.keeps hbw
      have a0 := hA.cell 0 _ rfl; have a1 := hA.cell 1 _ rfl; have a2 := hA.cell 2 _ rfl; have a3 := hA.cell 3 _ rfl; have a4 := hA.cell 4 _ rfl
      go_simp
      exact hK2 _ _ (Below.refl _ _) rfl
    · obtain rfl := Option.some.inj (show some _ = some oO from ho)
      rw [if_pos (by rfl)]
      have hK2 := fun v W' h1 h2 => hK v W' h1 h2 (fun hd => by simp at hd)
      have q2 : AC.tmps.getD 2 undef = .pointer (some ⟨w.heap.size, 0, none⟩) := hf.rest 2 (by kernel_rfl)
      go_simp
      exact hK2 _ _ (Below.refl _ _) rfl
    · obtain rfl := Option.some.inj (show some _ = some oO from ho)
      rw [if_pos (by rfl)]
      have hK2 := fun v W' h1 h2 => hK v W' h1 h2 (fun hd => by simp at hd)
      have q15 : AC.tmps.getD 15 undef = .pointer (some ⟨w.heap.size, 2, none⟩) := ((hf.dep ⟨10, .data⟩ (by simp) rfl).2 15 rfl).trans (hf.dep ⟨10, .data⟩ (by simp) rfl).1
      have hA := HA.out.keeps hbw
      have a0 := hA.cell 0 _ rfl; have a1 := hA.cell 1 _ rfl; have a2 := hA.cell 2 _ rfl; have a3 := hA.cell 3 _ rfl; have a4 := hA.cell 4 _ rfl
      go_simp
      exact hK2 _ _ (Below.refl _ _) rfl
    · obtain rfl := Option.some.inj (show some _ = some oO from ho)
      rw [if_pos (by rfl)]
      have hK2 := fun v W' h1 h2 => hK v W' h1 h2 (fun hd => by simp at hd)
      have q3 : AC.tmps.getD 3 undef = .pointer (some ⟨w.heap.size + 1, 0, none⟩) := hf.rest 3 (by kernel_rfl)
      go_simp
      exact hK2 _ _ (Below.refl _ _) rfl
    · obtain rfl := Option.some.inj (show some _ = some oO from ho)
      rw [if_pos (by rfl)]
      have hK2 := fun v W' h1 h2 => hK v W' h1 h2 (fun hd => by simp at hd)
      have q17 : AC.tmps.getD 17 undef = .pointer (some ⟨w.heap.size + 1, 1, none⟩) := ((hf.dep ⟨12, .data⟩ (by simp) rfl).2 17 rfl).trans (hf.dep ⟨12, .data⟩ (by simp) rfl).1
      have hC := HC.out.keeps hbw
      have c0 := hC.cell 0 _ rfl; have c1 := hC.cell 1 _ rfl; have c2 := hC.cell 2 _ rfl
      go_simp
      exact hK2 _ _ (Below.refl _ _) rfl
    · obtain rfl := Option.some.inj (show some _ = some oO from ho)
      rw [if_pos (by rfl)]
      have hK2 := fun v W' h1 h2 => hK v W' h1 h2 (fun hd => by simp at hd)
      have q14 : AC.tmps.getD 14 undef = .int .i64 o := ((hf.dep ⟨9, .data⟩ (by simp) rfl).2 14 rfl).trans (hf.dep ⟨9, .data⟩ (by simp) rfl).1
      have q16 : AC.tmps.getD 16 undef = .int .i64 v := ((hf.dep ⟨11, .data⟩ (by simp) rfl).2 16 rfl).trans (hf.dep ⟨11, .data⟩ (by simp) rfl).1
      have q18 : AC.tmps.getD 18 undef = .int .i64 t := ((hf.dep ⟨13, .data⟩ (by simp) rfl).2 18 rfl).trans (hf.dep ⟨13, .data⟩ (by simp) rfl).1
      go_simp
      refine (H2.out WW).mono ?_
      rintro e w6 ⟨rfl, hb6⟩
      exact hK2 _ _ hb6 rfl
    · obtain rfl := Option.some.inj (show some _ = some oO from ho)
      rw [if_pos (by rfl)]
      have hK2 := fun v W' h1 h2 => hK v W' h1 h2 (fun hd => by simp at hd)
      have q19 : AC.tmps.getD 19 undef = .int .i64 y := ((hf.dep ⟨14, .data⟩ (by simp) rfl).2 19 rfl).trans (hf.dep ⟨14, .data⟩ (by simp) rfl).1
      go_simp
      exact hK2 _ _ (Below.refl _ _) rfl
    · obtain rfl := Option.some.inj (show some _ = some oO from ho)
      rw [if_pos (by rfl)]
      have hK2 := fun v W' h1 h2 => hK v W' h1 h2 (fun hd => by simp at hd)
      have q2 : AC.tmps.getD 2 undef = .pointer (some ⟨w.heap.size, 0, none⟩) := hf.rest 2 (by kernel_rfl)
      go_simp
      exact hK2 _ _ (Below.refl _ _) rfl
    · obtain rfl := Option.some.inj (show some _ = some oO from ho)
      rw [if_pos (by rfl)]
      have hK2 := fun v W' h1 h2 => hK v W' h1 h2 (fun hd => by simp at hd)
      have q21 : AC.tmps.getD 21 undef = .pointer (some ⟨w.heap.size, 3, none⟩) := ((hf.dep ⟨16, .data⟩ (by simp) rfl).2 21 rfl).trans (hf.dep ⟨16, .data⟩ (by simp) rfl).1
      have hA := HA.out.keeps hbw
      have a0 := hA.cell 0 _ rfl; have a1 := hA.cell 1 _ rfl; have a2 := hA.cell 2 _ rfl; have a3 := hA.cell 3 _ rfl; have a4 := hA.cell 4 _ rfl
      go_simp
      exact hK2 _ _ (Below.refl _ _) rfl
    · obtain rfl := Option.some.inj (show some _ = some oO from ho)
      rw [if_pos (by rfl)]
      have hK2 := fun v W' h1 h2 => hK v W' h1 h2 (fun hd => by simp at hd)
      have q2 : AC.tmps.getD 2 undef = .pointer (some ⟨w.heap.size, 0, none⟩) := hf.rest 2 (by kernel_rfl)
      go_simp
      exact hK2 _ _ (Below.refl _ _) rfl
    · obtain rfl := Option.some.inj (show some _ = some oO from ho)
      rw [if_pos (by rfl)]
      have hK2 := fun v W' h1 h2 => hK v W' h1 h2 (fun hd => by simp at hd)
      have q23 : AC.tmps.getD 23 undef = .pointer (some ⟨w.heap.size, 4, none⟩) := ((hf.dep ⟨18, .data⟩ (by simp) rfl).2 23 rfl).trans (hf.dep ⟨18, .data⟩ (by simp) rfl).1
      have hA := HA.out.keeps hbw
      have a0 := hA.cell 0 _ rfl; have a1 := hA.cell 1 _ rfl; have a2 := hA.cell 2 _ rfl; have a3 := hA.cell 3 _ rfl; have a4 := hA.cell 4 _ rfl
      go_simp
      exact hK2 _ _ (Below.refl _ _) rfl
    · obtain rfl := Option.some.inj (show some _ = some oO from ho)
      rw [if_pos (by rfl)]
      have hK2 := fun v W' h1 h2 => hK v W' h1 h2 (fun hd => by simp at hd)
      have q3 : AC.tmps.getD 3 undef = .pointer (some ⟨w.heap.size + 1, 0, none⟩) := hf.rest 3 (by kernel_rfl)
      go_simp
      exact hK2 _ _ (Below.refl _ _) rfl
    · obtain rfl := Option.some.inj (show some _ = some oO from ho)
      rw [if_pos (by rfl)]
      have hK2 := fun v W' h1 h2 => hK v W' h1 h2 (fun hd => by simp at hd)
      have q25 : AC.tmps.getD 25 undef = .pointer (some ⟨w.heap.size + 1, 2, none⟩) := ((hf.dep ⟨20, .data⟩ (by simp) rfl).2 25 rfl).trans (hf.dep ⟨20, .data⟩ (by simp) rfl).1
      have hC := HC.out.keeps hbw
      have c0 := hC.cell 0 _ rfl; have c1 := hC.cell 1 _ rfl; have c2 := hC.cell 2 _ rfl
      go_simp
      exact hK2 _ _ (Below.refl _ _) rfl
    · obtain rfl := Option.some.inj (show some _ = some oO from ho)
      rw [if_pos (by rfl)]
      have hK2 := fun v W' h1 h2 => hK v W' h1 h2 (fun hd => by simp at hd)
      have q22 : AC.tmps.getD 22 undef = .int .i64 i := ((hf.dep ⟨17, .data⟩ (by simp) rfl).2 22 rfl).trans (hf.dep ⟨17, .data⟩ (by simp) rfl).1
      have q24 : AC.tmps.getD 24 undef = .int .i64 s := ((hf.dep ⟨19, .data⟩ (by simp) rfl).2 24 rfl).trans (hf.dep ⟨19, .data⟩ (by simp) rfl).1
      have q26 : AC.tmps.getD 26 undef = .int .i64 d := ((hf.dep ⟨21, .data⟩ (by simp) rfl).2 26 rfl).trans (hf.dep ⟨21, .data⟩ (by simp) rfl).1
      go_simp
      refine (H3.out WW).mono ?_
      rintro e w6 ⟨rfl, hb6⟩
      exact hK2 _ _ hb6 rfl
    · obtain rfl := Option.some.inj (show some _ = some oO from ho)
      rw [if_pos (by rfl)]
      have hK2 := fun v W' h1 h2 => hK v W' h1 h2 (fun hd => by simp at hd)
      have q27 : AC.tmps.getD 27 undef = .int .i64 z := ((hf.dep ⟨22, .data⟩ (by simp) rfl).2 27 rfl).trans (hf.dep ⟨22, .data⟩ (by simp) rfl).1
      go_simp
      exact hK2 _ _ (Below.refl _ _) rfl
    · obtain rfl := Option.some.inj (show some _ = some oO from ho)
      rw [if_pos (by rfl)]
      have hK2 := fun v W' h1 h2 => hK v W' h1 h2 (fun hd => by simp at hd)
      have q12 : AC.tmps.getD 12 undef = .bool (decide (x ≤ 0)) := ((hf.dep ⟨7, .data⟩ (by simp) rfl).2 12 rfl).trans (hf.dep ⟨7, .data⟩ (by simp) rfl).1
      have q20 : AC.tmps.getD 20 undef = .bool (decide (y ≤ 0)) := ((hf.dep ⟨15, .data⟩ (by simp) rfl).2 20 rfl).trans (hf.dep ⟨15, .data⟩ (by simp) rfl).1
      have q28 : AC.tmps.getD 28 undef = .bool (decide (0 ≤ z)) := ((hf.dep ⟨23, .data⟩ (by simp) rfl).2 28 rfl).trans (hf.dep ⟨23, .data⟩ (by simp) rfl).1
      have pp12 := q12
      rw [Array.getD_eq_getD_getElem?] at pp12
      have pp20 := q20
      rw [Array.getD_eq_getD_getElem?] at pp20
      have pp28 := q28
      rw [Array.getD_eq_getD_getElem?] at pp28
      go_simp
      exact hK2 _ _ (Below.refl _ _) rfl
    · omega
  · intro jJ oO V AC WW W1 ho hf hbw hall hap hz K hK
    have hlt : jJ < 1 := by have := (Array.getElem?_eq_some_iff.1 ho).1; simp at this; omega
    rcases jJ with _ | jJ
    · obtain rfl := Option.some.inj (show some _ = some oO from ho)
      rw [if_pos (by rfl)]
      replace hz : W1 = WW := hz
      have q4 : AC.tmps.getD 4 undef = .pointer (some ⟨w.heap.size + 2, 0, none⟩) := hf.rest 4 (by kernel_rfl)
      have q29 : AC.tmps.getD 29 undef = .agg #[.bool (decide (x ≤ 0)), .bool (decide (y ≤ 0)), .bool (decide (0 ≤ z))] := (hf.dep ⟨24, .data⟩ (by simp) rfl 29 rfl).trans (hall 24 (by decide))
      subst hz
      have hk := (HH.out.keeps hbw).thereMid 0 3 (by decide)
      refine wp_store_mid _ _ _ rfl (w.heap.size + 2) 0 #[.bool (decide (x ≤ 0)), .bool (decide (y ≤ 0)), .bool (decide (0 ≤ z))] q4 q29 hk info_b3 (by simp [Value.oneCell']) (hK _ _ rfl)
    · omega
  · intro V WW W1 hall hap hbw hBW hz
    replace hz : W1 = WW.setCells (w.heap.size + 2) 0 [.bool (decide (x ≤ 0)), .bool (decide (y ≤ 0)), .bool (decide (0 ≤ z))] := hz
    have vv0 : V 0 = .pointer (some ⟨w.heap.size, 0, none⟩) := hall 0 (by decide)
    have vv1 : V 1 = .int .i64 o := hall 1 (by decide)
    have vv2 : V 2 = .pointer (some ⟨w.heap.size, 1, none⟩) := hall 2 (by decide)
    have vv3 : V 3 = .int .i64 c := hall 3 (by decide)
    have vv4 : V 4 = .pointer (some ⟨w.heap.size + 1, 0, none⟩) := hall 4 (by decide)
    have vv5 : V 5 = .int .i64 l := hall 5 (by decide)
    have vv6 : V 6 = .int .i64 x := hall 6 (by decide)
    have vv7 : V 7 = .bool (decide (x ≤ 0)) := hall 7 (by decide)
    have vv8 : V 8 = .pointer (some ⟨w.heap.size, 0, none⟩) := hall 8 (by decide)
    have vv9 : V 9 = .int .i64 o := hall 9 (by decide)
    have vv10 : V 10 = .pointer (some ⟨w.heap.size, 2, none⟩) := hall 10 (by decide)
    have vv11 : V 11 = .int .i64 v := hall 11 (by decide)
    have vv12 : V 12 = .pointer (some ⟨w.heap.size + 1, 1, none⟩) := hall 12 (by decide)
    have vv13 : V 13 = .int .i64 t := hall 13 (by decide)
    have vv14 : V 14 = .int .i64 y := hall 14 (by decide)
    have vv15 : V 15 = .bool (decide (y ≤ 0)) := hall 15 (by decide)
    have vv16 : V 16 = .pointer (some ⟨w.heap.size, 3, none⟩) := hall 16 (by decide)
    have vv17 : V 17 = .int .i64 i := hall 17 (by decide)
    have vv18 : V 18 = .pointer (some ⟨w.heap.size, 4, none⟩) := hall 18 (by decide)
    have vv19 : V 19 = .int .i64 s := hall 19 (by decide)
    have vv20 : V 20 = .pointer (some ⟨w.heap.size + 1, 2, none⟩) := hall 20 (by decide)
    have vv21 : V 21 = .int .i64 d := hall 21 (by decide)
    have vv22 : V 22 = .int .i64 z := hall 22 (by decide)
    have vv23 : V 23 = .bool (decide (0 ≤ z)) := hall 23 (by decide)
    have vv24 : V 24 = .agg #[.bool (decide (x ≤ 0)), .bool (decide (y ≤ 0)), .bool (decide (0 ≤ z))] := hall 24 (by decide)
    clear hall
    simp only [pairsOf, laid, Nat.zero_add, Nat.reduceAdd, vv0, vv1, vv2, vv3, vv4, vv5, vv6, vv7, vv8, vv9, vv10, vv11, vv12, vv13, vv14, vv15, vv16, vv17, vv18, vv19, vv20, vv21, vv22, vv23, vv24, List.setIfInBounds_toArray, List.set_cons_zero, List.set_cons_succ]
    clear vv0 vv1 vv2 vv3 vv4 vv5 vv6 vv7 vv8 vv9 vv10 vv11 vv12 vv13 vv14 vv15 vv16 vv17 vv18 vv19 vv20 vv21 vv22 vv23 vv24
    have HK : Blk W1 (w.heap.size + 2) 34 [.bool (decide (x ≤ 0)), .bool (decide (y ≤ 0)), .bool (decide (0 ≤ z))] := by rw [hz]; exact (HH.out.keeps hbw).setAll _ rfl
    have HBB : Hid (Below w.heap.size w W1) := by show Below _ _ _; rw [hz]; exact below_setCells (b := w.heap.size + 2) _ 0 hBW (by omega)
    have HK2 := Lib.hid HK
    clear hz HK hbw hBW
    go_wp2_with fail
    refine bodyPost_ret (results_cell_row (P := Try.prog) (t := 34) (g := w.heap.size + 2) (cs := #[.bool (decide (x ≤ 0)), .bool (decide (y ≤ 0)), .bool (decide (0 ≤ z))]) rfl _ _ _ _ rfl HK2.out.at_ Try.underlying34 rfl info_b3) rfl ?_
    exact ⟨by rw [E1.out, E2.out, E3.out], HBB.out⟩
end Go.Proofs.Ytleeifknicilhaa
