/-
  The walk of Ledger.Clone.
-/
import Derived.Test.YteghjdmalbcdfaaLgO
import Derived.Test.YteghjdmalbcdfaaFull
set_option linter.unusedVariables false
set_option linter.unusedSimpArgs false
namespace Go.Proofs.Yteghjdmalbcdfaa
open Go.RowKit Dg

theorem app_nil {o : Oper} {a : Act} {w : World} {K : Act → World → Prop} {Q : Exit → Act → World → Prop} (s x : Operand) (ho : o.op = .call { callee := .builtin .append, args := #[s, x], argTypes := #[52, 52] }) (hty : o.type = 52) (hv : a.eval s = .slice none 0 0) (hx : a.eval x = .slice none 0 0)
    (h : K (a.put o.dst (.slice none 0 0)) w) : Oper.wp Try.prog o a w K Q := by
  obtain ⟨i, hi, hz, hsize, hby⟩ := info_parts info_legs
  unfold Oper.wp
  simp [execOp, ho, hty, resolve, invoke, builtin, hv, hx, Builtin.append_, run_underlying Try.underlying52, sizeOf, typeInfo, hi, hsize, Result.andThen]
  exact h
theorem bd_led {o : Oper} {a : Act} {w : World} {K : Act → World → Prop} {Q : Exit → Act → World → Prop} (x y : Operand) (ho : o.op = .build 64 #[(0, x), (1, y)]) (q : Option Addr) (n k : Nat) (hx : a.eval x = .slice q n k) (t0 t1 t2 t3 t4 t5 t6 t7 : Int) (hy : a.eval y = .agg #[.int .i64 t0, .int .i64 t1, .int .i64 t2, .int .i64 t3, .int .i64 t4, .int .i64 t5, .int .i64 t6, .int .i64 t7])
    (h : K (a.put o.dst (.agg #[.slice q n k, .int .i64 t0, .int .i64 t1, .int .i64 t2, .int .i64 t3, .int .i64 t4, .int .i64 t5, .int .i64 t6, .int .i64 t7])) w) : Oper.wp Try.prog o a w K Q := by
  have hr := run_build (P := Try.prog) w 64 #[(0, .slice q n k), (1, .agg #[.int .i64 t0, .int .i64 t1, .int .i64 t2, .int .i64 t3, .int .i64 t4, .int .i64 t5, .int .i64 t6, .int .i64 t7])] #[.slice q n k, .int .i64 t0, .int .i64 t1, .int .i64 t2, .int .i64 t3, .int .i64 t4, .int .i64 t5, .int .i64 t6, .int .i64 t7] (by kernel_rfl)
  unfold Oper.wp execOp
  simp only [ho, Sem.run_bind]
  rw [show (#[(0, x), (1, y)] : Array (Nat × Operand)).map (fun (i, x) => (i, a.eval x)) = #[(0, .slice q n k), (1, .agg #[.int .i64 t0, .int .i64 t1, .int .i64 t2, .int .i64 t3, .int .i64 t4, .int .i64 t5, .int .i64 t6, .int .i64 t7])] from by simp [hx, hy], hr]
  simp only [Result.andThen_ok]
  exact h
/-- What Clone leaves: another ledger with the same. -/
def LClo (w W : World) (b g : Nat) (C : List Value) (T : List Int) (E : List (List Lg)) : Prop :=
  ∃ v2, Led W w.heap.size g v2 C T E ∧ w.heap.size ≤ g ∧ (∀ k, v2.ownBlock = some k → w.heap.size ≤ k) ∧ (E = [] → v2 = .slice none 0 0) ∧ Below w.heap.size w W
theorem Led.clone {w W : World} {B b g : Nat} {v v2 : Value} {C : List Value} {T : List Int} {E : List (List Lg)} (h : Led w B b v C T E) (hb : Below w.heap.size w W) {D : List Value} (hB : Blk W g 64 (v2 :: D)) (hD : D = ic T) (ho : W.ownsRow w.heap.size 23 1 v2 E.length C) (hg : w.heap.size ≤ g) (hvg : v2.ownBlock ≠ some g) (hvb : ∀ k, v2.ownBlock = some k → w.heap.size ≤ k) :
    Led W w.heap.size g v2 C T E := by
  subst hD
  refine ⟨hB, h.len, ho, hg, hvg, fun i L hi => ?_⟩
  obtain ⟨ao, cap, h1, h2, h3⟩ := h.ent i L hi
  refine ⟨ao, cap, h1, h2.keeps hb, fun a ha => ?_⟩
  have := (h3 a ha).1
  exact ⟨Nat.lt_of_lt_of_le this hb.size, by omega, fun e => by have := hvb _ e.symm; omega⟩
theorem eight_of (l : List Int) (h : l.length = 8) : ∃ a b c d e f g h, l = [a, b, c, d, e, f, g, h] := by
  match l, h with
  | [a, b, c, d, e, f, g, h], _ => exact ⟨a, b, c, d, e, f, g, h, rfl⟩
theorem rangeAt_keeps {w W : World} {b o : Nat} {C : List Value} (h : w.rangeAt b o C) (hb : Below w.heap.size w W) : W.rangeAt b o C := fun j v hv => by
  have h0 := h j v hv
  have hlt : b < w.heap.size := World.block_lt_of_cell? w _ h0
  rw [World.cell?_of_block (hb.block b hlt)]; exact h0
set_option maxRecDepth 20000 in
set_option maxHeartbeats 3200000 in
theorem lgclone_any (w : World) (B b : Nat) (v : Value) (C : List Value) (T : List Int) (E : List (List Lg)) (hled : Led w B b v C T E) (hv : E = [] → v = .slice none 0 0) (hE : E.length ≤ 100000) :
    Calls Try.prog 21 #[.pointer (some ⟨b, 0, none⟩)] w fun e w' => ∃ g, e = .returned (.pointer (some ⟨g, 0, none⟩)) ∧ LClo w w' b g C T E := by
  have HLD := Lib.hid hled
  have HBL := Lib.hid hled.blk
  have HEn := Lib.hid hE
  have hrow := hled.row
  have hC : C.length = E.length := by have := hrow.1; simpa using this
  obtain ⟨t0, t1, t2, t3, t4, t5, t6, t7, rfl⟩ := eight_of T hled.len
  have HRG : Hid (w.rangeAt b 1 (ic [t0, t1, t2, t3, t4, t5, t6, t7])) := by
    have := hled.blk.rangeMid 1 8
    exact this
  have HB0 := Lib.hid (Below.refl w.heap.size w)
  by_cases h0 : E = []
  · subst h0
    obtain rfl := hv rfl
    obtain rfl : C = [] := List.length_eq_zero_iff.1 hC
    clear hled hE hrow hC hv
    as_aux_lemma =>
    go_enter Try.func21, Try.ntmps21
    go_wp2
    refine region_mono (by kernel_rfl) (by kernel_rfl) [some 3, some 4, some 5, some 6, some 7, some 8, some 9, some 10, some 11, some 12, some 13, some 14, some 15, some 16, some 17, some 18, some 2] (by kernel_rfl) w.heap.size w HB0.out (Nat.le_refl _) (fun i v WW => match i with | 0 => v = .pointer (some ⟨b, 0, none⟩) | 1 => v = .pointer (some ⟨b, 0, none⟩) | 2 => v = .pointer (some ⟨b, 0, none⟩) | 3 => v = .slice none 0 0 | 4 => v = .slice none 0 0 | 5 => v = .pointer (some ⟨b, 0, none⟩) | 6 => v = .pointer (some ⟨b, 0, none⟩) | 7 => v = .pointer (some ⟨b, 0, none⟩) | 8 => v = .slice none 0 0 | 9 => v = .slice none 0 0 | 10 => v = .pointer (some ⟨b, 0, none⟩) | 11 => v = .pointer (some ⟨b, 0, none⟩) | 12 => v = .pointer (some ⟨b, 1, none⟩) | 13 => v = .agg #[.int .i64 t0, .int .i64 t1, .int .i64 t2, .int .i64 t3, .int .i64 t4, .int .i64 t5, .int .i64 t6, .int .i64 t7] | 14 => v = .agg #[.slice none 0 0, .int .i64 t0, .int .i64 t1, .int .i64 t2, .int .i64 t3, .int .i64 t4, .int .i64 t5, .int .i64 t6, .int .i64 t7] | 15 => ∃ g, v = .pointer (some ⟨g, 0, none⟩) ∧ Blk WW g 64 (.slice none 0 0 :: [.int .i64 t0, .int .i64 t1, .int .i64 t2, .int .i64 t3, .int .i64 t4, .int .i64 t5, .int .i64 t6, .int .i64 t7]) ∧ w.heap.size ≤ g | 16 => ∃ g, v = .pointer (some ⟨g, 0, none⟩) ∧ Blk WW g 64 (.slice none 0 0 :: [.int .i64 t0, .int .i64 t1, .int .i64 t2, .int .i64 t3, .int .i64 t4, .int .i64 t5, .int .i64 t6, .int .i64 t7]) ∧ w.heap.size ≤ g | _ => True) ?_ ?_ ?_
    · intro i v WW WX h hbx
      rcases i with _ | _ | _ | _ | _ | _ | _ | _ | _ | _ | _ | _ | _ | _ | _ | _ | _ | i
      · exact h
      · exact h
      · exact h
      · exact h
      · exact h
      · exact h
      · exact h
      · exact h
      · exact h
      · exact h
      · exact h
      · exact h
      · exact h
      · exact h
      · exact h
      · obtain ⟨g, e, hB, hg⟩ := h; exact ⟨g, e, hB.keeps hbx, hg⟩
      · obtain ⟨g, e, hB, hg⟩ := h; exact ⟨g, e, hB.keeps hbx, hg⟩
      · trivial
    · intro iI oO V AC WW ho hf hbw K hK
      have hlt : iI < 17 := by have := (Array.getElem?_eq_some_iff.1 ho).1; first | exact this | simpa using this
      rcases iI with _ | _ | _ | _ | _ | _ | _ | _ | _ | _ | _ | _ | _ | _ | _ | _ | _ | iI
      · obtain rfl := Option.some.inj (show some _ = some oO from ho)
        rw [if_pos (by rfl)]
        have q0 : AC.tmps.getD 0 undef = .pointer (some ⟨b, 0, none⟩) := hf.rest 0 (by kernel_rfl)
        go_simp
        exact hK _ _ (Below.refl _ _) rfl
      · obtain rfl := Option.some.inj (show some _ = some oO from ho)
        rw [if_pos (by rfl)]
        have q3 : AC.tmps.getD 3 undef = .pointer (some ⟨b, 0, none⟩) := ((hf.dep ⟨0, .data⟩ (by simp) rfl).2 3 rfl).trans (hf.dep ⟨0, .data⟩ (by simp) rfl).1
        go_simp
        exact hK _ _ (Below.refl _ _) rfl
      · obtain rfl := Option.some.inj (show some _ = some oO from ho)
        rw [if_pos (by rfl)]
        have q4 : AC.tmps.getD 4 undef = .pointer (some ⟨b, 0, none⟩) := ((hf.dep ⟨1, .data⟩ (by simp) rfl).2 4 rfl).trans (hf.dep ⟨1, .data⟩ (by simp) rfl).1
        go_simp
        exact hK _ _ (Below.refl _ _) rfl
      · obtain rfl := Option.some.inj (show some _ = some oO from ho)
        rw [if_pos (by rfl)]
        have q5 : AC.tmps.getD 5 undef = .pointer (some ⟨b, 0, none⟩) := ((hf.dep ⟨2, .data⟩ (by simp) rfl).2 5 rfl).trans (hf.dep ⟨2, .data⟩ (by simp) rfl).1
        have c0 := (HBL.out.keeps hbw).cell 0 _ rfl
        go_simp
        exact hK _ _ (Below.refl _ _) rfl
      · obtain rfl := Option.some.inj (show some _ = some oO from ho)
        rw [if_pos (by rfl)]
        have q6 : AC.tmps.getD 6 undef = .slice none 0 0 := ((hf.dep ⟨3, .data⟩ (by simp) rfl).2 6 rfl).trans (hf.dep ⟨3, .data⟩ (by simp) rfl).1
        go_simp
        exact hK _ _ (Below.refl _ _) rfl
      · obtain rfl := Option.some.inj (show some _ = some oO from ho)
        rw [if_pos (by rfl)]
        have q0 : AC.tmps.getD 0 undef = .pointer (some ⟨b, 0, none⟩) := hf.rest 0 (by kernel_rfl)
        go_simp
        exact hK _ _ (Below.refl _ _) rfl
      · obtain rfl := Option.some.inj (show some _ = some oO from ho)
        rw [if_pos (by rfl)]
        have q8 : AC.tmps.getD 8 undef = .pointer (some ⟨b, 0, none⟩) := ((hf.dep ⟨5, .data⟩ (by simp) rfl).2 8 rfl).trans (hf.dep ⟨5, .data⟩ (by simp) rfl).1
        go_simp
        exact hK _ _ (Below.refl _ _) rfl
      · obtain rfl := Option.some.inj (show some _ = some oO from ho)
        rw [if_pos (by rfl)]
        have q9 : AC.tmps.getD 9 undef = .pointer (some ⟨b, 0, none⟩) := ((hf.dep ⟨6, .data⟩ (by simp) rfl).2 9 rfl).trans (hf.dep ⟨6, .data⟩ (by simp) rfl).1
        go_simp
        exact hK _ _ (Below.refl _ _) rfl
      · obtain rfl := Option.some.inj (show some _ = some oO from ho)
        rw [if_pos (by rfl)]
        have q10 : AC.tmps.getD 10 undef = .pointer (some ⟨b, 0, none⟩) := ((hf.dep ⟨7, .data⟩ (by simp) rfl).2 10 rfl).trans (hf.dep ⟨7, .data⟩ (by simp) rfl).1
        have c0 := (HBL.out.keeps hbw).cell 0 _ rfl
        go_simp
        exact hK _ _ (Below.refl _ _) rfl
      · obtain rfl := Option.some.inj (show some _ = some oO from ho)
        rw [if_pos (by rfl)]
        have q7 : AC.tmps.getD 7 undef = .slice none 0 0 := ((hf.dep ⟨4, .data⟩ (by simp) rfl).2 7 rfl).trans (hf.dep ⟨4, .data⟩ (by simp) rfl).1
        have q11 : AC.tmps.getD 11 undef = .slice none 0 0 := ((hf.dep ⟨8, .data⟩ (by simp) rfl).2 11 rfl).trans (hf.dep ⟨8, .data⟩ (by simp) rfl).1
        exact app_nil _ _ rfl rfl q7 q11 (hK _ _ (Below.refl _ _) rfl)
      · obtain rfl := Option.some.inj (show some _ = some oO from ho)
        rw [if_pos (by rfl)]
        have q0 : AC.tmps.getD 0 undef = .pointer (some ⟨b, 0, none⟩) := hf.rest 0 (by kernel_rfl)
        go_simp
        exact hK _ _ (Below.refl _ _) rfl
      · obtain rfl := Option.some.inj (show some _ = some oO from ho)
        rw [if_pos (by rfl)]
        have q13 : AC.tmps.getD 13 undef = .pointer (some ⟨b, 0, none⟩) := ((hf.dep ⟨10, .data⟩ (by simp) rfl).2 13 rfl).trans (hf.dep ⟨10, .data⟩ (by simp) rfl).1
        go_simp
        exact hK _ _ (Below.refl _ _) rfl
      · obtain rfl := Option.some.inj (show some _ = some oO from ho)
        rw [if_pos (by rfl)]
        have q14 : AC.tmps.getD 14 undef = .pointer (some ⟨b, 0, none⟩) := ((hf.dep ⟨11, .data⟩ (by simp) rfl).2 14 rfl).trans (hf.dep ⟨11, .data⟩ (by simp) rfl).1
        go_simp
        exact hK _ _ (Below.refl _ _) rfl
      · obtain rfl := Option.some.inj (show some _ = some oO from ho)
        rw [if_pos (by rfl)]
        have q15 : AC.tmps.getD 15 undef = .pointer (some ⟨b, 1, none⟩) := ((hf.dep ⟨12, .data⟩ (by simp) rfl).2 15 rfl).trans (hf.dep ⟨12, .data⟩ (by simp) rfl).1
        exact wp_load_mid _ _ rfl b 1 q15 (ic [t0, t1, t2, t3, t4, t5, t6, t7]) _ (rangeAt_keeps HRG.out hbw) Try.underlying22 rfl info_i8 (hK _ _ (Below.refl _ _) rfl)
      · obtain rfl := Option.some.inj (show some _ = some oO from ho)
        rw [if_pos (by rfl)]
        have q12 : AC.tmps.getD 12 undef = .slice none 0 0 := ((hf.dep ⟨9, .data⟩ (by simp) rfl).2 12 rfl).trans (hf.dep ⟨9, .data⟩ (by simp) rfl).1
        have q16 : AC.tmps.getD 16 undef = .agg #[.int .i64 t0, .int .i64 t1, .int .i64 t2, .int .i64 t3, .int .i64 t4, .int .i64 t5, .int .i64 t6, .int .i64 t7] := ((hf.dep ⟨13, .data⟩ (by simp) rfl).2 16 rfl).trans (hf.dep ⟨13, .data⟩ (by simp) rfl).1
        exact bd_led _ _ rfl _ _ _ q12 _ _ _ _ _ _ _ _ q16 (hK _ _ (Below.refl _ _) rfl)
      · obtain rfl := Option.some.inj (show some _ = some oO from ho)
        rw [if_pos (by rfl)]
        have q17 : AC.tmps.getD 17 undef = .agg #[.slice none 0 0, .int .i64 t0, .int .i64 t1, .int .i64 t2, .int .i64 t3, .int .i64 t4, .int .i64 t5, .int .i64 t6, .int .i64 t7] := ((hf.dep ⟨14, .data⟩ (by simp) rfl).2 17 rfl).trans (hf.dep ⟨14, .data⟩ (by simp) rfl).1
        go_simp
        exact hK _ _ (below_new1 WW _) ⟨WW.heap.size, rfl, Blk.new WW 64 (.slice none 0 0 :: [.int .i64 t0, .int .i64 t1, .int .i64 t2, .int .i64 t3, .int .i64 t4, .int .i64 t5, .int .i64 t6, .int .i64 t7]), hbw.size⟩
      · obtain rfl := Option.some.inj (show some _ = some oO from ho)
        rw [if_pos (by rfl)]
        have q18 : AC.tmps.getD 18 undef = V 15 := (hf.dep ⟨15, .data⟩ (by simp) rfl).2 18 rfl
        have t15 := (hf.dep ⟨15, .data⟩ (by simp) rfl).1
        obtain ⟨g, e, hB, hg⟩ := t15
        rw [e] at q18
        go_simp
        exact hK _ _ (Below.refl _ _) ⟨g, rfl, hB, hg⟩
      · omega
    · intro V WW hall hbw hBW
      have vv0 : V 0 = .pointer (some ⟨b, 0, none⟩) := hall 0 (by decide)
      have vv1 : V 1 = .pointer (some ⟨b, 0, none⟩) := hall 1 (by decide)
      have vv2 : V 2 = .pointer (some ⟨b, 0, none⟩) := hall 2 (by decide)
      have vv3 : V 3 = .slice none 0 0 := hall 3 (by decide)
      have vv4 : V 4 = .slice none 0 0 := hall 4 (by decide)
      have vv5 : V 5 = .pointer (some ⟨b, 0, none⟩) := hall 5 (by decide)
      have vv6 : V 6 = .pointer (some ⟨b, 0, none⟩) := hall 6 (by decide)
      have vv7 : V 7 = .pointer (some ⟨b, 0, none⟩) := hall 7 (by decide)
      have vv8 : V 8 = .slice none 0 0 := hall 8 (by decide)
      have vv9 : V 9 = .slice none 0 0 := hall 9 (by decide)
      have vv10 : V 10 = .pointer (some ⟨b, 0, none⟩) := hall 10 (by decide)
      have vv11 : V 11 = .pointer (some ⟨b, 0, none⟩) := hall 11 (by decide)
      have vv12 : V 12 = .pointer (some ⟨b, 1, none⟩) := hall 12 (by decide)
      have vv13 : V 13 = .agg #[.int .i64 t0, .int .i64 t1, .int .i64 t2, .int .i64 t3, .int .i64 t4, .int .i64 t5, .int .i64 t6, .int .i64 t7] := hall 13 (by decide)
      have vv14 : V 14 = .agg #[.slice none 0 0, .int .i64 t0, .int .i64 t1, .int .i64 t2, .int .i64 t3, .int .i64 t4, .int .i64 t5, .int .i64 t6, .int .i64 t7] := hall 14 (by decide)
      have vv15 : ∃ g, V 15 = .pointer (some ⟨g, 0, none⟩) ∧ Blk WW g 64 (.slice none 0 0 :: [.int .i64 t0, .int .i64 t1, .int .i64 t2, .int .i64 t3, .int .i64 t4, .int .i64 t5, .int .i64 t6, .int .i64 t7]) ∧ w.heap.size ≤ g := hall 15 (by decide)
      have vv16 : ∃ g, V 16 = .pointer (some ⟨g, 0, none⟩) ∧ Blk WW g 64 (.slice none 0 0 :: [.int .i64 t0, .int .i64 t1, .int .i64 t2, .int .i64 t3, .int .i64 t4, .int .i64 t5, .int .i64 t6, .int .i64 t7]) ∧ w.heap.size ≤ g := hall 16 (by decide)
      clear hall
      simp only [pairsOf, laid, Nat.zero_add, Nat.reduceAdd, vv0, vv1, vv2, vv3, vv4, vv5, vv6, vv7, vv8, vv9, vv10, vv11, vv12, vv13, vv14, List.setIfInBounds_toArray, List.set_cons_zero, List.set_cons_succ]
      clear vv0 vv1 vv2 vv3 vv4 vv5 vv6 vv7 vv8 vv9 vv10 vv11 vv12 vv13 vv14
      obtain ⟨g, e16, hB, hg⟩ := vv16
      rw [e16]
      have HBW := Lib.hid hBW
      have HF := Lib.hid (show LClo w _ b g [] [t0, t1, t2, t3, t4, t5, t6, t7] [] from ⟨_, (Led.clone HLD.out HBW.out hB rfl (World.ownsRow_nil _ _ _ 1) hg (by simp [Value.ownBlock]) (by simp [Value.ownBlock])), hg, (by simp [Value.ownBlock]), (fun _ => rfl), hBW⟩)
      clear hbw hBW hB hg vv15
      go_wp2
      go_ret
      exact ⟨g, rfl, HF.out⟩
  · have hne : ¬ E.length = 0 := fun h => h0 (List.length_eq_zero_iff.1 h)
    have HNe := Lib.hid hne
    obtain ⟨q, cap, rfl⟩ : ∃ q cap, v = .slice (some ⟨q, 0, none⟩) E.length cap := by
      rcases hrow.2 with ⟨_, h⟩ | ⟨g, cap, cur, e, _⟩
      · exact absurd h hne
      · exact ⟨g, cap, e⟩
    have HSR : Hid (∀ W, Below w.heap.size w W → Src Try.prog 1 52 (.slice (some ⟨q, 0, none⟩) E.length cap) E.length C W) := fun W hW => by
      obtain ⟨ao, cap', e, hs, _⟩ := Rk.own (own_keeps hrow hW)
      simp only [Value.slice.injEq] at e
      obtain ⟨rfl, _, rfl⟩ := e
      refine Rk.src Try.underlying52 (by decide) hs ?_
      intro u hu
      obtain ⟨i, hi, rfl⟩ := List.mem_iff_getElem.1 hu
      obtain ⟨ao', cap', h1, _⟩ := HLD.out.ent i _ (List.getElem?_eq_getElem (show i < E.length by omega))
      rw [List.getElem?_eq_getElem hi] at h1
      rw [Option.some.inj h1]; rfl
    clear hled hE hrow hC hv h0 hne
    as_aux_lemma =>
    go_enter Try.func21, Try.ntmps21
    go_wp2
    refine region_mono (by kernel_rfl) (by kernel_rfl) [some 3, some 4, some 5, some 6, some 7, some 8, some 9, some 10, some 11, some 12, some 13, some 14, some 15, some 16, some 17, some 18, some 2] (by kernel_rfl) w.heap.size w HB0.out (Nat.le_refl _) (fun i v WW => match i with | 0 => v = .pointer (some ⟨b, 0, none⟩) | 1 => v = .pointer (some ⟨b, 0, none⟩) | 2 => v = .pointer (some ⟨b, 0, none⟩) | 3 => v = .slice (some ⟨q, 0, none⟩) E.length cap | 4 => v = .slice (some ⟨q, 0, none⟩) 0 0 | 5 => v = .pointer (some ⟨b, 0, none⟩) | 6 => v = .pointer (some ⟨b, 0, none⟩) | 7 => v = .pointer (some ⟨b, 0, none⟩) | 8 => v = .slice (some ⟨q, 0, none⟩) E.length cap | 9 => ∃ a9 k9, v = Value.slice a9 E.length k9 ∧ WW.ownsRow w.heap.size 23 1 (Value.slice a9 E.length k9) E.length C | 10 => v = .pointer (some ⟨b, 0, none⟩) | 11 => v = .pointer (some ⟨b, 0, none⟩) | 12 => v = .pointer (some ⟨b, 1, none⟩) | 13 => v = .agg #[.int .i64 t0, .int .i64 t1, .int .i64 t2, .int .i64 t3, .int .i64 t4, .int .i64 t5, .int .i64 t6, .int .i64 t7] | 14 => ∃ a9 k9, v = .agg #[Value.slice a9 E.length k9, .int .i64 t0, .int .i64 t1, .int .i64 t2, .int .i64 t3, .int .i64 t4, .int .i64 t5, .int .i64 t6, .int .i64 t7] ∧ WW.ownsRow w.heap.size 23 1 (Value.slice a9 E.length k9) E.length C | 15 => ∃ g a9 k9, v = .pointer (some ⟨g, 0, none⟩) ∧ Blk WW g 64 (Value.slice a9 E.length k9 :: [.int .i64 t0, .int .i64 t1, .int .i64 t2, .int .i64 t3, .int .i64 t4, .int .i64 t5, .int .i64 t6, .int .i64 t7]) ∧ WW.ownsRow w.heap.size 23 1 (Value.slice a9 E.length k9) E.length C ∧ w.heap.size ≤ g ∧ ∀ q, (Value.slice a9 E.length k9).ownBlock = some q → q < g | 16 => ∃ g a9 k9, v = .pointer (some ⟨g, 0, none⟩) ∧ Blk WW g 64 (Value.slice a9 E.length k9 :: [.int .i64 t0, .int .i64 t1, .int .i64 t2, .int .i64 t3, .int .i64 t4, .int .i64 t5, .int .i64 t6, .int .i64 t7]) ∧ WW.ownsRow w.heap.size 23 1 (Value.slice a9 E.length k9) E.length C ∧ w.heap.size ≤ g ∧ ∀ q, (Value.slice a9 E.length k9).ownBlock = some q → q < g | _ => True) ?_ ?_ ?_
    · intro i v WW WX h hbx
      rcases i with _ | _ | _ | _ | _ | _ | _ | _ | _ | _ | _ | _ | _ | _ | _ | _ | _ | i
      · exact h
      · exact h
      · exact h
      · exact h
      · exact h
      · exact h
      · exact h
      · exact h
      · exact h
      · obtain ⟨a9, k9, e, ho⟩ := h; exact ⟨a9, k9, e, own_keeps ho hbx⟩
      · exact h
      · exact h
      · exact h
      · exact h
      · obtain ⟨a9, k9, e, ho⟩ := h; exact ⟨a9, k9, e, own_keeps ho hbx⟩
      · obtain ⟨g, a9, k9, e, hB, ho, hg, hq⟩ := h; exact ⟨g, a9, k9, e, hB.keeps hbx, own_keeps ho hbx, hg, hq⟩
      · obtain ⟨g, a9, k9, e, hB, ho, hg, hq⟩ := h; exact ⟨g, a9, k9, e, hB.keeps hbx, own_keeps ho hbx, hg, hq⟩
      · trivial
    · intro iI oO V AC WW ho hf hbw K hK
      have hlt : iI < 17 := by have := (Array.getElem?_eq_some_iff.1 ho).1; first | exact this | simpa using this
      rcases iI with _ | _ | _ | _ | _ | _ | _ | _ | _ | _ | _ | _ | _ | _ | _ | _ | _ | iI
      · obtain rfl := Option.some.inj (show some _ = some oO from ho)
        rw [if_pos (by rfl)]
        have q0 : AC.tmps.getD 0 undef = .pointer (some ⟨b, 0, none⟩) := hf.rest 0 (by kernel_rfl)
        go_simp
        exact hK _ _ (Below.refl _ _) rfl
      · obtain rfl := Option.some.inj (show some _ = some oO from ho)
        rw [if_pos (by rfl)]
        have q3 : AC.tmps.getD 3 undef = .pointer (some ⟨b, 0, none⟩) := ((hf.dep ⟨0, .data⟩ (by simp) rfl).2 3 rfl).trans (hf.dep ⟨0, .data⟩ (by simp) rfl).1
        go_simp
        exact hK _ _ (Below.refl _ _) rfl
      · obtain rfl := Option.some.inj (show some _ = some oO from ho)
        rw [if_pos (by rfl)]
        have q4 : AC.tmps.getD 4 undef = .pointer (some ⟨b, 0, none⟩) := ((hf.dep ⟨1, .data⟩ (by simp) rfl).2 4 rfl).trans (hf.dep ⟨1, .data⟩ (by simp) rfl).1
        go_simp
        exact hK _ _ (Below.refl _ _) rfl
      · obtain rfl := Option.some.inj (show some _ = some oO from ho)
        rw [if_pos (by rfl)]
        have q5 : AC.tmps.getD 5 undef = .pointer (some ⟨b, 0, none⟩) := ((hf.dep ⟨2, .data⟩ (by simp) rfl).2 5 rfl).trans (hf.dep ⟨2, .data⟩ (by simp) rfl).1
        have c0 := (HBL.out.keeps hbw).cell 0 _ rfl
        go_simp
        exact hK _ _ (Below.refl _ _) rfl
      · obtain rfl := Option.some.inj (show some _ = some oO from ho)
        rw [if_pos (by rfl)]
        have q6 : AC.tmps.getD 6 undef = .slice (some ⟨q, 0, none⟩) E.length cap := ((hf.dep ⟨3, .data⟩ (by simp) rfl).2 6 rfl).trans (hf.dep ⟨3, .data⟩ (by simp) rfl).1
        go_simp
        exact hK _ _ (Below.refl _ _) rfl
      · obtain rfl := Option.some.inj (show some _ = some oO from ho)
        rw [if_pos (by rfl)]
        have q0 : AC.tmps.getD 0 undef = .pointer (some ⟨b, 0, none⟩) := hf.rest 0 (by kernel_rfl)
        go_simp
        exact hK _ _ (Below.refl _ _) rfl
      · obtain rfl := Option.some.inj (show some _ = some oO from ho)
        rw [if_pos (by rfl)]
        have q8 : AC.tmps.getD 8 undef = .pointer (some ⟨b, 0, none⟩) := ((hf.dep ⟨5, .data⟩ (by simp) rfl).2 8 rfl).trans (hf.dep ⟨5, .data⟩ (by simp) rfl).1
        go_simp
        exact hK _ _ (Below.refl _ _) rfl
      · obtain rfl := Option.some.inj (show some _ = some oO from ho)
        rw [if_pos (by rfl)]
        have q9 : AC.tmps.getD 9 undef = .pointer (some ⟨b, 0, none⟩) := ((hf.dep ⟨6, .data⟩ (by simp) rfl).2 9 rfl).trans (hf.dep ⟨6, .data⟩ (by simp) rfl).1
        go_simp
        exact hK _ _ (Below.refl _ _) rfl
      · obtain rfl := Option.some.inj (show some _ = some oO from ho)
        rw [if_pos (by rfl)]
        have q10 : AC.tmps.getD 10 undef = .pointer (some ⟨b, 0, none⟩) := ((hf.dep ⟨7, .data⟩ (by simp) rfl).2 10 rfl).trans (hf.dep ⟨7, .data⟩ (by simp) rfl).1
        have c0 := (HBL.out.keeps hbw).cell 0 _ rfl
        go_simp
        exact hK _ _ (Below.refl _ _) rfl
      · obtain rfl := Option.some.inj (show some _ = some oO from ho)
        rw [if_pos (by rfl)]
        have q7 : AC.tmps.getD 7 undef = .slice (some ⟨q, 0, none⟩) 0 0 := ((hf.dep ⟨4, .data⟩ (by simp) rfl).2 7 rfl).trans (hf.dep ⟨4, .data⟩ (by simp) rfl).1
        have q11 : AC.tmps.getD 11 undef = .slice (some ⟨q, 0, none⟩) E.length cap := ((hf.dep ⟨8, .data⟩ (by simp) rfl).2 11 rfl).trans (hf.dep ⟨8, .data⟩ (by simp) rfl).1
        refine wp_append_full _ _ 52 52 rfl 23 (.slice none 0 0) 24 1 (by decide) Try.underlying52 info_legs rfl (some ⟨q, 0, none⟩) 0 q7 [] ⟨rfl, Nat.le_refl _, by simp, fun h => absurd rfl h⟩ _ q11 E.length C (HSR.out WW hbw) (by decide) (by have := HEn.out; omega) E.length (by omega) ?_
        intro ao5 cap5 w5 h1 h2 h3
        rcases h3 with ⟨h4, _⟩ | h4
        · exact absurd h4 HNe.out
        · exact hK _ _ h2 ⟨_, _, rfl, own_down h4 hbw.size⟩
      · obtain rfl := Option.some.inj (show some _ = some oO from ho)
        rw [if_pos (by rfl)]
        have q0 : AC.tmps.getD 0 undef = .pointer (some ⟨b, 0, none⟩) := hf.rest 0 (by kernel_rfl)
        go_simp
        exact hK _ _ (Below.refl _ _) rfl
      · obtain rfl := Option.some.inj (show some _ = some oO from ho)
        rw [if_pos (by rfl)]
        have q13 : AC.tmps.getD 13 undef = .pointer (some ⟨b, 0, none⟩) := ((hf.dep ⟨10, .data⟩ (by simp) rfl).2 13 rfl).trans (hf.dep ⟨10, .data⟩ (by simp) rfl).1
        go_simp
        exact hK _ _ (Below.refl _ _) rfl
      · obtain rfl := Option.some.inj (show some _ = some oO from ho)
        rw [if_pos (by rfl)]
        have q14 : AC.tmps.getD 14 undef = .pointer (some ⟨b, 0, none⟩) := ((hf.dep ⟨11, .data⟩ (by simp) rfl).2 14 rfl).trans (hf.dep ⟨11, .data⟩ (by simp) rfl).1
        go_simp
        exact hK _ _ (Below.refl _ _) rfl
      · obtain rfl := Option.some.inj (show some _ = some oO from ho)
        rw [if_pos (by rfl)]
        have q15 : AC.tmps.getD 15 undef = .pointer (some ⟨b, 1, none⟩) := ((hf.dep ⟨12, .data⟩ (by simp) rfl).2 15 rfl).trans (hf.dep ⟨12, .data⟩ (by simp) rfl).1
        exact wp_load_mid _ _ rfl b 1 q15 (ic [t0, t1, t2, t3, t4, t5, t6, t7]) _ (rangeAt_keeps HRG.out hbw) Try.underlying22 rfl info_i8 (hK _ _ (Below.refl _ _) rfl)
      · obtain rfl := Option.some.inj (show some _ = some oO from ho)
        rw [if_pos (by rfl)]
        have q12 : AC.tmps.getD 12 undef = V 9 := (hf.dep ⟨9, .data⟩ (by simp) rfl).2 12 rfl
        have t9 := (hf.dep ⟨9, .data⟩ (by simp) rfl).1
        obtain ⟨a9, k9, e, ho⟩ := t9
        rw [e] at q12
        have q16 : AC.tmps.getD 16 undef = .agg #[.int .i64 t0, .int .i64 t1, .int .i64 t2, .int .i64 t3, .int .i64 t4, .int .i64 t5, .int .i64 t6, .int .i64 t7] := ((hf.dep ⟨13, .data⟩ (by simp) rfl).2 16 rfl).trans (hf.dep ⟨13, .data⟩ (by simp) rfl).1
        exact bd_led _ _ rfl _ _ _ q12 _ _ _ _ _ _ _ _ q16 (hK _ _ (Below.refl _ _) ⟨_, _, rfl, ho⟩)
      · obtain rfl := Option.some.inj (show some _ = some oO from ho)
        rw [if_pos (by rfl)]
        have q17 : AC.tmps.getD 17 undef = V 14 := (hf.dep ⟨14, .data⟩ (by simp) rfl).2 17 rfl
        have t14 := (hf.dep ⟨14, .data⟩ (by simp) rfl).1
        obtain ⟨a9, k9, e, ho⟩ := t14
        rw [e] at q17
        go_simp
        exact hK _ _ (below_new1 WW _) ⟨WW.heap.size, _, _, rfl, Blk.new WW 64 (Value.slice a9 E.length k9 :: [.int .i64 t0, .int .i64 t1, .int .i64 t2, .int .i64 t3, .int .i64 t4, .int .i64 t5, .int .i64 t6, .int .i64 t7]), own_keeps ho (below_new1 WW _), hbw.size, fun q hq => (own_base ho q hq).2⟩
      · obtain rfl := Option.some.inj (show some _ = some oO from ho)
        rw [if_pos (by rfl)]
        have q18 : AC.tmps.getD 18 undef = V 15 := (hf.dep ⟨15, .data⟩ (by simp) rfl).2 18 rfl
        have t15 := (hf.dep ⟨15, .data⟩ (by simp) rfl).1
        obtain ⟨g, a9, k9, e, hB, ho, hg, hq⟩ := t15
        rw [e] at q18
        go_simp
        exact hK _ _ (Below.refl _ _) ⟨g, a9, k9, rfl, hB, ho, hg, hq⟩
      · omega
    · intro V WW hall hbw hBW
      have vv0 : V 0 = .pointer (some ⟨b, 0, none⟩) := hall 0 (by decide)
      have vv1 : V 1 = .pointer (some ⟨b, 0, none⟩) := hall 1 (by decide)
      have vv2 : V 2 = .pointer (some ⟨b, 0, none⟩) := hall 2 (by decide)
      have vv3 : V 3 = .slice (some ⟨q, 0, none⟩) E.length cap := hall 3 (by decide)
      have vv4 : V 4 = .slice (some ⟨q, 0, none⟩) 0 0 := hall 4 (by decide)
      have vv5 : V 5 = .pointer (some ⟨b, 0, none⟩) := hall 5 (by decide)
      have vv6 : V 6 = .pointer (some ⟨b, 0, none⟩) := hall 6 (by decide)
      have vv7 : V 7 = .pointer (some ⟨b, 0, none⟩) := hall 7 (by decide)
      have vv8 : V 8 = .slice (some ⟨q, 0, none⟩) E.length cap := hall 8 (by decide)
      have vv9 : ∃ a9 k9, V 9 = Value.slice a9 E.length k9 ∧ WW.ownsRow w.heap.size 23 1 (Value.slice a9 E.length k9) E.length C := hall 9 (by decide)
      have vv10 : V 10 = .pointer (some ⟨b, 0, none⟩) := hall 10 (by decide)
      have vv11 : V 11 = .pointer (some ⟨b, 0, none⟩) := hall 11 (by decide)
      have vv12 : V 12 = .pointer (some ⟨b, 1, none⟩) := hall 12 (by decide)
      have vv13 : V 13 = .agg #[.int .i64 t0, .int .i64 t1, .int .i64 t2, .int .i64 t3, .int .i64 t4, .int .i64 t5, .int .i64 t6, .int .i64 t7] := hall 13 (by decide)
      have vv14 : ∃ a9 k9, V 14 = .agg #[Value.slice a9 E.length k9, .int .i64 t0, .int .i64 t1, .int .i64 t2, .int .i64 t3, .int .i64 t4, .int .i64 t5, .int .i64 t6, .int .i64 t7] ∧ WW.ownsRow w.heap.size 23 1 (Value.slice a9 E.length k9) E.length C := hall 14 (by decide)
      have vv15 : ∃ g a9 k9, V 15 = .pointer (some ⟨g, 0, none⟩) ∧ Blk WW g 64 (Value.slice a9 E.length k9 :: [.int .i64 t0, .int .i64 t1, .int .i64 t2, .int .i64 t3, .int .i64 t4, .int .i64 t5, .int .i64 t6, .int .i64 t7]) ∧ WW.ownsRow w.heap.size 23 1 (Value.slice a9 E.length k9) E.length C ∧ w.heap.size ≤ g ∧ ∀ q, (Value.slice a9 E.length k9).ownBlock = some q → q < g := hall 15 (by decide)
      have vv16 : ∃ g a9 k9, V 16 = .pointer (some ⟨g, 0, none⟩) ∧ Blk WW g 64 (Value.slice a9 E.length k9 :: [.int .i64 t0, .int .i64 t1, .int .i64 t2, .int .i64 t3, .int .i64 t4, .int .i64 t5, .int .i64 t6, .int .i64 t7]) ∧ WW.ownsRow w.heap.size 23 1 (Value.slice a9 E.length k9) E.length C ∧ w.heap.size ≤ g ∧ ∀ q, (Value.slice a9 E.length k9).ownBlock = some q → q < g := hall 16 (by decide)
      clear hall
      simp only [pairsOf, laid, Nat.zero_add, Nat.reduceAdd, vv0, vv1, vv2, vv3, vv4, vv5, vv6, vv7, vv8, vv10, vv11, vv12, vv13, List.setIfInBounds_toArray, List.set_cons_zero, List.set_cons_succ]
      clear vv0 vv1 vv2 vv3 vv4 vv5 vv6 vv7 vv8 vv10 vv11 vv12 vv13
      obtain ⟨g, a9, k9, e16, hB, ho, hg, hq⟩ := vv16
      rw [e16]
      have HBW := Lib.hid hBW
      have HF := Lib.hid (show LClo w _ b g C [t0, t1, t2, t3, t4, t5, t6, t7] E from ⟨_, (Led.clone HLD.out HBW.out hB rfl ho hg (fun e => by have := hq g e; omega) (fun k hk => (own_base ho k hk).1)), hg, (fun k hk => (own_base ho k hk).1), (fun h0 => absurd (by rw [h0]; rfl) HNe.out), hBW⟩)
      clear hbw hBW hB ho hg hq vv15
      go_wp2
      go_ret
      exact ⟨g, rfl, HF.out⟩
end Go.Proofs.Yteghjdmalbcdfaa
