/-
  The law RateTables.
-/
import Derived.Test.YtaineoceiciloaaRtAd
import Derived.Test.YtaineoceiciloaaRtA
import Derived.Test.YtaineoceiciloaaRel
set_option linter.unusedVariables false
set_option linter.unusedSimpArgs false
namespace Go.Proofs.Ytaineoceiciloaa
open Go.RowKit

theorem own_dn {w : World} {B B' e S n : Nat} {v : Value} {C : List Value} (h : w.ownsRow B' e S v n C) (hB : B ≤ B') : w.ownsRow B e S v n C := by
  refine ⟨h.1, ?_⟩
  rcases h.2 with h2 | ⟨g, cap, cur, e, hb2, r⟩
  · exact .inl h2
  · exact .inr ⟨g, cap, cur, e, Nat.le_trans hB hb2, r⟩
theorem own_kp {w w' : World} {B e S n : Nat} {v : Value} {C : List Value} (h : w.ownsRow B e S v n C) (hb : Below w.heap.size w w') : w'.ownsRow B e S v n C := by
  refine ⟨h.1, ?_⟩
  rcases h.2 with h2 | ⟨g, cap, cur, e, hb2, hg, r⟩
  · exact .inl h2
  · refine .inr ⟨g, cap, cur, e, hb2, ?_, r⟩
    rw [hb.block g ((Array.getElem?_eq_some_iff.1 hg).1)]; exact hg
theorem own_sl {w : World} {B : Nat} {v : Value} {L : List Rt} (h : w.ownsRow B 46 2 v L.length (rc rtc L)) : ∃ ao cap, v = .slice ao L.length cap ∧ SlR w ao cap L := by
  obtain ⟨ao, cap, e, hs, _⟩ := Rk.own h
  exact ⟨ao, cap, e, hs⟩
theorem pure_extL {PR : Nat → Value → Prop} {Ld : Nat → Bool} {V : Nat → Value} (h : ∀ i, Ld i = true → PR i (V i)) (i : Nat) (v : Value) (hv : PR i v) : ∀ j, (if j = i then true else Ld j) = true → PR j (if j = i then v else V j) := by
  intro j hj
  by_cases e : j = i
  · rw [if_pos e, e]; exact hv
  · rw [if_neg e] at hj ⊢
    exact h j hj
section
variable {ops : Array Oper} {rest : List Oper} {o : Oper} {a : Act} {w : World} {Q : Exit → Act → World → Prop} {K : Act → World → Prop}
theorem ap_rt_op (s x : Operand) (ho : o.op = .call { callee := .builtin .append, args := #[s, x], argTypes := #[24, 24] }) (hty : o.type = 24)
    (base : Nat) (v : Value) (hv : a.eval s = v) (L : List Rt) (hown : w.ownsRow base 46 2 v L.length (rc rtc L)) (ao : Option Addr) (cap : Nat) (M : List Rt) (hx : a.eval x = .slice ao M.length cap) (hs : SlR w ao cap M) (hbytes : L.length + M.length ≤ 1000000000000) (hbase : base ≤ w.heap.size)
    (h : ∀ v' w', w'.ownsRow base 46 2 v' (L ++ M).length (rc rtc (L ++ M)) → w.grownBy w' v.ownBlock → (∀ g, v'.ownBlock = some g → v.ownBlock = some g ∨ w.heap.size ≤ g) → K (a.put o.dst v') w') : Oper.wp Try.prog o a w K Q := by
  obtain ⟨i, hi, h0, h1, h2⟩ := info_parts info_rt
  obtain ⟨v', w', hrun, k1, k2, k3⟩ := run_append_rec (P := Try.prog) w base 24 24 o.type 46 i _ 16 2 Try.underlying24 hi h0 h1 h2 rfl v L.length (rc rtc L) hown _ M.length (rc rtc M) (Rk.src Try.underlying24 (by decide) hs (rc_cell rtc_one M)) (by simp only [maxLen]; omega) (by omega) hbase
  unfold Oper.wp
  simp [execOp, ho, resolve, invoke, builtin, hv, hx, hrun, Result.andThen]
  exact h v' w' (by rw [rc_app, List.length_append]; exact k1) k2 k3
end
/-- What stands while a table is copied and one more is appended. -/
structure R7 (w0 : World) (L M : List Rt) (d x : Int) (PR : Nat → Value → Prop) (Ld : Nat → Bool) (V : Nat → Value) (W : World) : Prop where
  pure : ∀ i, Ld i = true → PR i (V i)
  bw : Below w0.heap.size w0 W
  l0 : Ld 0 = true → Ld 2 = false → ∃ g, V 0 = .slice (some ⟨g, 0, none⟩) 0 0 ∧ Blk W g 46 [] ∧ w0.heap.size ≤ g
  l2 : Ld 2 = true → Ld 5 = false → W.ownsRow w0.heap.size 46 2 (V 2) L.length (rc rtc L)
  l4 : Ld 4 = true → Ld 5 = false → ∃ g, V 4 = .slice (some ⟨g, 0, none⟩) 1 1 ∧ Blk W g 46 [.int .i64 d, .int .i64 x] ∧ w0.heap.size ≤ g
  l5 : Ld 5 = true → W.ownsRow w0.heap.size 46 2 (V 5) M.length (rc rtc M)
  l6 : Ld 6 = true → V 6 = V 5
  d2 : Ld 2 = true → Ld 0 = true
  d52 : Ld 5 = true → Ld 2 = true
  d54 : Ld 5 = true → Ld 4 = true
  d65 : Ld 6 = true → Ld 5 = true
theorem R7.l4a {w0 : World} {L M : List Rt} {d x : Int} {PR : Nat → Value → Prop} {Ld : Nat → Bool} {V : Nat → Value} {W W' : World} (h : R7 w0 L M d x PR Ld V W) (hb : Below W.heap.size W W') (a : Ld 4 = true) (b : Ld 5 = false) : ∃ g, V 4 = .slice (some ⟨g, 0, none⟩) 1 1 ∧ Blk W' g 46 [.int .i64 d, .int .i64 x] ∧ w0.heap.size ≤ g := by
  obtain ⟨g, e, hg, hz⟩ := h.l4 a b
  exact ⟨g, e, hg.keeps hb, hz⟩
theorem R7.set {w0 : World} {L M : List Rt} {d x : Int} {PR : Nat → Value → Prop} {Ld : Nat → Bool} {V : Nat → Value} {W : World} (h : R7 w0 L M d x PR Ld V W) (i : Nat) (u : Value) (h0 : i ≠ 0) (h2 : i ≠ 2) (h4 : i ≠ 4) (h5 : i ≠ 5) (h6 : i ≠ 6) (hp : PR i u) :
    R7 w0 L M d x PR (fun j => if j = i then true else Ld j) (fun j => if j = i then u else V j) W := by
  refine ⟨pure_extL h.pure i u hp, h.bw, ?_, ?_, ?_, ?_, ?_, ?_, ?_, ?_, ?_⟩
  all_goals simp only [if_neg h0.symm, if_neg h2.symm, if_neg h4.symm, if_neg h5.symm, if_neg h6.symm]
  · exact h.l0
  · exact h.l2
  · exact h.l4
  · exact h.l5
  · exact h.l6
  · exact h.d2
  · exact h.d52
  · exact h.d54
  · exact h.d65
def PR7 (arg : Value) (d x : Int) : Nat → Value → Prop := fun i u => match i with | 1 => u = arg | 3 => u = .agg #[.int .i64 d, .int .i64 x] | _ => True
set_option maxRecDepth 8000 in
set_option maxHeartbeats 3200000 in
theorem rateTables_core (m f c : Int) (ao : Option Addr) (cap : Nat) (L : List Rt) (d x : Int) (w : World) (h : SlR w ao cap L) (hl : L.length ≤ 100) :
    Calls Try.prog 6 #[.agg #[.int .i64 m, .int .i64 f, .int .i64 c], .slice ao L.length cap, .agg #[.int .i64 d, .int .i64 x]] w fun e w' => e = .returned (.bool true) ∧ Below w.heap.size w w' := by
  obtain ⟨s, hs⟩ : ∃ s, raddS L (d, x) = s := ⟨_, rfl⟩
  obtain ⟨M, hM⟩ : ∃ M, L ++ [(d, x)] = M := ⟨_, rfl⟩
  obtain ⟨r, hr⟩ : ∃ r, okTm m f c = r := ⟨_, rfl⟩
  obtain ⟨t1, ht1⟩ : ∃ t, tabS L = t := ⟨_, rfl⟩
  obtain ⟨t2, ht2⟩ : ∃ t, tabS M = t := ⟨_, rfl⟩
  have hml : M.length = L.length + 1 := by rw [← hM, List.length_append]; rfl
  have HE : Hid (s = if t1 = true ∧ t2 = true then (M, 0) else ([], 52)) := by show _ = _; rw [← hs, raddS, hM, ht1, ht2]
  have HS := Lib.hid hs; have HM := Lib.hid hM; have HMl := Lib.hid (show L.length + 1 = M.length from hml.symm)
  have HN := Lib.hid (show L.length ≤ 1000000 by omega)
  have HAl := Lib.hid (fun W => ralive_any W)
  have HB0 := Lib.hid (below_new2 w (.cells #[.int .i64 m, .int .i64 f, .int .i64 c] 23) (.cells #[.int .i64 d, .int .i64 x] 46))
  have HT0 := Lib.hid ((Blk.new w 23 [.int .i64 m, .int .i64 f, .int .i64 c]).alloc (.cells #[.int .i64 d, .int .i64 x] 46))
  have HX0 := Lib.hid (Blk.new2 w (.cells #[.int .i64 m, .int .i64 f, .int .i64 c] 23) 46 [.int .i64 d, .int .i64 x])
  have HL0 := Lib.hid h
  have K1 := Lib.hid (fun U => tright_any m f c U); have K2 := Lib.hid (fun U => rtright_any m f c U)
  rw [hr] at K1 K2
  have K3 := Lib.hid (fun U (hu : SlR U ao cap L) => table_any U ao cap L hu t1 ht1 (by omega))
  have K4 := Lib.hid (fun U (hu : SlR U ao cap L) => rtable_any U ao cap L hu t1 ht1 (by omega))
  have K6 := Lib.hid (fun U a c (hu : SlR U a c M) => rtable_any U a c M hu t2 ht2 (by omega))
  have K7 := Lib.hid (fun U a c a' c' (hu : SlR U a c M) (hu' : SlR U a' c' M) => rsame_any U a c M a' c' M hu hu' true (by simp) (by omega))
  have hl100 : ¬ (100 : Int) < L.length := by omega
  clear h hs hM hr ht1 ht2 hml
  go_enter Try.func6, Try.ntmps6
  go_wp2_with fail
  refine (HAl.out _).mono ?_
  rintro e w1 ⟨rfl, hb1⟩
  have HB1 := Lib.hid (below_on HB0.out HB0.out.size hb1)
  have HT1 := Lib.hid (HT0.out.keeps hb1)
  have HX1 := Lib.hid (HX0.out.keeps hb1)
  have HBe := Lib.hid (HB1.out.alloc HB1.out.size (.cells #[] 46))
  have HTe := Lib.hid (HT1.out.alloc (.cells #[] 46))
  have HXe := Lib.hid (HX1.out.alloc (.cells #[] 46))
  have HLe := Lib.hid ((HL0.out.keeps HB1.out).alloc (.cells #[] 46))
  clear hb1
  go_wp2_with (refine wpList_append_full rfl _ _ 24 24 rfl 46 _ 16 2 (by decide) Try.underlying24 info_rt rfl _ 0 rfl [] ⟨rfl, Nat.le_refl _, by simp, fun h => absurd rfl h⟩ _ rfl L.length (rc rtc L) (Rk.src Try.underlying24 (by decide) HLe.out (rc_cell rtc_one L)) (by decide) (by have := HN.out; omega) L.length (Nat.zero_add _) ?_)
  intro a7 c7 w5 hs7 hb7 _
  replace hb7 : Below (w1.alloc (.cells #[] 46)).heap.size (w1.alloc (.cells #[] 46)) w5 := by rw [show (w1.alloc (.cells #[] 46)).heap.size = w1.heap.size + 1 from by simp]; exact hb7
  have HS5 : Hid (SlR w5 a7 c7 L) := hs7
  have HR7 := Lib.hid hs7.room
  have HB5 := Lib.hid (below_on HBe.out HBe.out.size hb7)
  have HT5 := Lib.hid (HTe.out.keeps hb7)
  have HX5 := Lib.hid (HXe.out.keeps hb7)
  have HN9 := HN
  clear hs7 hb7
  replace HN := Lib.hid (show L.length ≤ 1000000000 by have := HN9.out; omega)
  go_wp2
  refine region_mono (by kernel_rfl) (by kernel_rfl) [some 21, some 22, some 23, some 24, some 25, some 26, some 27, some 28, some 20, some 29, some 30, some 8, some 9] (by kernel_rfl) w.heap.size w HB5.out (Nat.le_refl _) (fun i v WW => match i with | 0 => v = .slice a7 L.length c7 | 1 => v = .slice ao L.length cap | 2 => v = .int .i64 L.length | 3 => v = .slice ao L.length cap | 4 => v = .int .i64 L.length | 5 => v = .slice a7 L.length L.length | 6 => v = .agg #[.int .i64 d, .int .i64 x] | 7 => ∃ a c, v = .tuple #[.slice a s.1.length c, .int .i64 s.2] ∧ SlR WW a c s.1 | 8 => ∃ a c, v = .tuple #[.slice a s.1.length c, .int .i64 s.2] ∧ SlR WW a c s.1 | 9 => ∃ a c, v = .slice a s.1.length c ∧ SlR WW a c s.1 | 10 => v = .int .i64 s.2 | 11 => ∃ a c, v = .slice a s.1.length c ∧ SlR WW a c s.1 | 12 => v = .int .i64 s.2 | _ => True) ?_ ?_ ?_
  · intro i v WW WX h hbx
    rcases i with _ | _ | _ | _ | _ | _ | _ | _ | _ | _ | _ | _ | _ | i
    · exact h
    · exact h
    · exact h
    · exact h
    · exact h
    · exact h
    · exact h
    · obtain ⟨a, c, e, hs⟩ := h; exact ⟨a, c, e, hs.keeps hbx⟩
    · first | exact SlB.keeps h hbx | (obtain ⟨a, c, e, hs⟩ := h; exact ⟨a, c, e, hs.keeps hbx⟩)
    · obtain ⟨a, c, e, hs⟩ := h; exact ⟨a, c, e, hs.keeps hbx⟩
    · exact h
    · first | exact SlB.keeps h hbx | (obtain ⟨a, c, e, hs⟩ := h; exact ⟨a, c, e, hs.keeps hbx⟩)
    · exact h
    · trivial
  · intro iI oO V AC WW ho hf hbw K hK
    have hlt : iI < 13 := (Array.getElem?_eq_some_iff.1 ho).1
    rcases iI with _ | _ | _ | _ | _ | _ | _ | _ | _ | _ | _ | _ | _ | iI
    · obtain rfl := Option.some.inj (show some _ = some oO from ho)
      rw [if_pos (by rfl)]
      have q7 : AC.tmps.getD 7 undef = .slice a7 L.length c7 := hf.rest 7 (by kernel_rfl)
      go_simp
      exact hK _ _ (Below.refl _ _) rfl
    · obtain rfl := Option.some.inj (show some _ = some oO from ho)
      rw [if_pos (by rfl)]
      have q1 : AC.tmps.getD 1 undef = .slice ao L.length cap := hf.rest 1 (by kernel_rfl)
      go_simp
      exact hK _ _ (Below.refl _ _) rfl
    · obtain rfl := Option.some.inj (show some _ = some oO from ho)
      rw [if_pos (by rfl)]
      have q22 : AC.tmps.getD 22 undef = .slice ao L.length cap := ((hf.dep ⟨1, .data⟩ (by simp) rfl).2 22 rfl).trans (hf.dep ⟨1, .data⟩ (by simp) rfl).1
      go_simp
      exact hK _ _ (Below.refl _ _) rfl
    · obtain rfl := Option.some.inj (show some _ = some oO from ho)
      rw [if_pos (by rfl)]
      have q1 : AC.tmps.getD 1 undef = .slice ao L.length cap := hf.rest 1 (by kernel_rfl)
      go_simp
      exact hK _ _ (Below.refl _ _) rfl
    · obtain rfl := Option.some.inj (show some _ = some oO from ho)
      rw [if_pos (by rfl)]
      have q24 : AC.tmps.getD 24 undef = .slice ao L.length cap := ((hf.dep ⟨3, .data⟩ (by simp) rfl).2 24 rfl).trans (hf.dep ⟨3, .data⟩ (by simp) rfl).1
      go_simp
      exact hK _ _ (Below.refl _ _) rfl
    · obtain rfl := Option.some.inj (show some _ = some oO from ho)
      rw [if_pos (by rfl)]
      have q21 : AC.tmps.getD 21 undef = .slice a7 L.length c7 := ((hf.dep ⟨0, .data⟩ (by simp) rfl).2 21 rfl).trans (hf.dep ⟨0, .data⟩ (by simp) rfl).1
      have q23 : AC.tmps.getD 23 undef = .int .i64 L.length := ((hf.dep ⟨2, .data⟩ (by simp) rfl).2 23 rfl).trans (hf.dep ⟨2, .data⟩ (by simp) rfl).1
      have q25 : AC.tmps.getD 25 undef = .int .i64 L.length := ((hf.dep ⟨4, .data⟩ (by simp) rfl).2 25 rfl).trans (hf.dep ⟨4, .data⟩ (by simp) rfl).1
      exact full_op _ _ _ rfl a7 c7 L.length HR7.out HN.out q21 q23 q25 (hK _ _ (Below.refl _ _) rfl)
    · obtain rfl := Option.some.inj (show some _ = some oO from ho)
      rw [if_pos (by rfl)]
      have q5 : AC.tmps.getD 5 undef = .pointer (some ⟨w.heap.size + 1, 0, none⟩) := hf.rest 5 (by kernel_rfl)
      have hG := HX5.out.keeps hbw
      have g0 := hG.cell 0 _ rfl; have g1 := hG.cell 1 _ rfl
      go_simp
      exact hK _ _ (Below.refl _ _) rfl
    · obtain rfl := Option.some.inj (show some _ = some oO from ho)
      rw [if_pos (by rfl)]
      have q26 : AC.tmps.getD 26 undef = .slice a7 L.length L.length := ((hf.dep ⟨5, .data⟩ (by simp) rfl).2 26 rfl).trans (hf.dep ⟨5, .data⟩ (by simp) rfl).1
      have q27 : AC.tmps.getD 27 undef = .agg #[.int .i64 d, .int .i64 x] := ((hf.dep ⟨6, .data⟩ (by simp) rfl).2 27 rfl).trans (hf.dep ⟨6, .data⟩ (by simp) rfl).1
      go_simp
      refine (radd_any WW a7 L.length L d x (HS5.out.keeps hbw).cut s HS.out (by have := HN.out; omega)).mono ?_
      rintro e w9 ⟨⟨a9, c9, rfl, hs9⟩, hb9⟩
      exact hK _ _ hb9 ⟨a9, c9, rfl, hs9⟩
    · obtain rfl := Option.some.inj (show some _ = some oO from ho)
      rw [if_pos (by rfl)]
      have q28 : AC.tmps.getD 28 undef = V 7 := (hf.dep ⟨7, .data⟩ (by simp) rfl).2 28 rfl
      have t7 := (hf.dep ⟨7, .data⟩ (by simp) rfl).1
      obtain ⟨a, c, e, hs⟩ := t7
      rw [e] at q28
      go_simp
      exact hK _ _ (Below.refl _ _) ⟨a, c, rfl, hs⟩
    · obtain rfl := Option.some.inj (show some _ = some oO from ho)
      rw [if_pos (by rfl)]
      have q20 : AC.tmps.getD 20 undef = V 8 := (hf.dep ⟨8, .data⟩ (by simp) rfl).2 20 rfl
      have t8 := (hf.dep ⟨8, .data⟩ (by simp) rfl).1
      obtain ⟨a, c, e, hs⟩ := t8
      rw [e] at q20
      go_simp
      exact hK _ _ (Below.refl _ _) ⟨a, c, rfl, hs⟩
    · obtain rfl := Option.some.inj (show some _ = some oO from ho)
      rw [if_pos (by rfl)]
      have q20 : AC.tmps.getD 20 undef = V 8 := (hf.dep ⟨8, .data⟩ (by simp) rfl).2 20 rfl
      have t8 := (hf.dep ⟨8, .data⟩ (by simp) rfl).1
      obtain ⟨a, c, e, hs⟩ := t8
      rw [e] at q20
      go_simp
      exact hK _ _ (Below.refl _ _) rfl
    · obtain rfl := Option.some.inj (show some _ = some oO from ho)
      rw [if_pos (by rfl)]
      have q29 : AC.tmps.getD 29 undef = V 9 := (hf.dep ⟨9, .data⟩ (by simp) rfl).2 29 rfl
      have t9 := (hf.dep ⟨9, .data⟩ (by simp) rfl).1
      obtain ⟨a, c, e, hs⟩ := t9
      rw [e] at q29
      go_simp
      exact hK _ _ (Below.refl _ _) ⟨a, c, rfl, hs⟩
    · obtain rfl := Option.some.inj (show some _ = some oO from ho)
      rw [if_pos (by rfl)]
      have q30 : AC.tmps.getD 30 undef = .int .i64 s.2 := ((hf.dep ⟨10, .data⟩ (by simp) rfl).2 30 rfl).trans (hf.dep ⟨10, .data⟩ (by simp) rfl).1
      go_simp
      exact hK _ _ (Below.refl _ _) rfl
    · omega
  · intro V WW hall hbw hBW
    have vv0 : V 0 = .slice a7 L.length c7 := hall 0 (by decide)
    have vv1 : V 1 = .slice ao L.length cap := hall 1 (by decide)
    have vv2 : V 2 = .int .i64 L.length := hall 2 (by decide)
    have vv3 : V 3 = .slice ao L.length cap := hall 3 (by decide)
    have vv4 : V 4 = .int .i64 L.length := hall 4 (by decide)
    have vv5 : V 5 = .slice a7 L.length L.length := hall 5 (by decide)
    have vv6 : V 6 = .agg #[.int .i64 d, .int .i64 x] := hall 6 (by decide)
    have vv7 : ∃ a c, V 7 = .tuple #[.slice a s.1.length c, .int .i64 s.2] ∧ SlR WW a c s.1 := hall 7 (by decide)
    have vv8 : ∃ a c, V 8 = .tuple #[.slice a s.1.length c, .int .i64 s.2] ∧ SlR WW a c s.1 := hall 8 (by decide)
    have vv9 : ∃ a c, V 9 = .slice a s.1.length c ∧ SlR WW a c s.1 := hall 9 (by decide)
    have vv10 : V 10 = .int .i64 s.2 := hall 10 (by decide)
    have vv11 : ∃ a c, V 11 = .slice a s.1.length c ∧ SlR WW a c s.1 := hall 11 (by decide)
    have vv12 : V 12 = .int .i64 s.2 := hall 12 (by decide)
    clear hall
    simp only [pairsOf, laid, Nat.zero_add, Nat.reduceAdd, vv0, vv1, vv2, vv3, vv4, vv5, vv6, vv10, vv12, List.setIfInBounds_toArray, List.set_cons_zero, List.set_cons_succ]
    clear vv0 vv1 vv2 vv3 vv4 vv5 vv6 vv10 vv12
    obtain ⟨a8, c8, e8, hs8⟩ := vv11
    rw [e8]
    have HM6 := Lib.hid hs8
    have HB6 := Lib.hid hBW
    have HT6 := Lib.hid (HT5.out.keeps hbw)
    have HX6 := Lib.hid (HX5.out.keeps hbw)
    have HS6 := Lib.hid (HS5.out.keeps hbw)
    have HL6 := Lib.hid (HL0.out.keeps hBW)
    have HXl := Lib.hid HX6.out.lt
    obtain ⟨w6, hw6⟩ : ∃ w6, WW = w6 := ⟨_, rfl⟩
    rw [hw6] at HM6 HB6 HT6 HX6 HS6 HL6 HXl ⊢
    clear hs8 e8 vv7 vv8 vv9 hbw hBW hw6
    go_wp2
    refine region_rel (by kernel_rfl) (by kernel_rfl) [some 31, some 32, some 33, some 34, some 35, some 36, some 10] (by kernel_rfl) (R7 w6 L M d x (PR7 (.slice ao L.length cap) d x)) ⟨nofun, (Below.refl _ _).drew, nofun, nofun, nofun, nofun, nofun, nofun, nofun, nofun, nofun⟩ ?_ ?_
    · intro i o Ld V AC WW ho hL hf hR K hK
      have hlt : i < 7 := (Array.getElem?_eq_some_iff.1 ho).1
      rcases i with _ | _ | _ | _ | _ | _ | _ | i
      · obtain rfl := Option.some.inj (show some _ = some o from ho)
        rw [if_pos (by rfl)]
        have n2 : Ld 2 = false := by
          cases h : Ld 2 with
          | false => rfl
          | true => rw [hR.d2 h] at hL; cases hL
        have n5 : Ld 5 = false := by
          cases h : Ld 5 with
          | false => rfl
          | true => rw [hR.d52 h] at n2; cases n2
        go_simp
        have hz := hR.bw.size
        refine hK _ _ ⟨pure_extL hR.pure 0 _ trivial, hR.bw.alloc hz _, fun _ _ => ⟨_, rfl, Blk.new WW _ [], hz⟩, fun a => ?_, fun a b => hR.l4a (below_new1 _ _) a b, fun a => ?_, fun a => hR.l6 a, fun _ => rfl, fun a => ?_, fun a => ?_, fun a => ?_⟩
        · replace a : Ld 2 = true := a; rw [n2] at a; cases a
        · replace a : Ld 5 = true := a; rw [n5] at a; cases a
        · exact hR.d52 a
        · exact hR.d54 a
        · exact hR.d65 a
      · obtain rfl := Option.some.inj (show some _ = some o from ho)
        rw [if_pos (by rfl)]
        have q1 : AC.tmps.getD 1 undef = .slice ao L.length cap := hf.rest 1 (by kernel_rfl)
        go_simp
        exact hK _ _ (hR.set 1 _ (by decide) (by decide) (by decide) (by decide) (by decide) rfl)
      · obtain rfl := Option.some.inj (show some _ = some o from ho)
        rw [if_pos (by rfl)]
        have n5 : Ld 5 = false := by
          cases h : Ld 5 with
          | false => rfl
          | true => rw [hR.d52 h] at hL; cases hL
        have q31 : AC.tmps.getD 31 undef = V 0 := hf.dep ⟨0, .data⟩ (by simp) rfl 31 rfl
        have u31 := hf.up ⟨0, .data⟩ (by simp) rfl
        have q32 : AC.tmps.getD 32 undef = V 1 := hf.dep ⟨1, .data⟩ (by simp) rfl 32 rfl
        have p32 := hR.pure 1 (hf.up ⟨1, .data⟩ (by simp) rfl)
        rw [show V 1 = _ from p32] at q32
        have n2 : Ld 2 = false := hL
        obtain ⟨g0, e0, hg0, hz0⟩ := hR.l0 u31 n2
        rw [e0] at q31
        have hz := hR.bw.size
        have hsl := HL6.out.keeps hR.bw
        refine wp_append_full _ _ 24 24 rfl 46 _ 16 2 (by decide) Try.underlying24 info_rt rfl _ 0 q31 [] ⟨rfl, Nat.le_refl _, by simp, fun h => absurd rfl h⟩ _ q32 L.length (rc rtc L) (Rk.src Try.underlying24 (by decide) hsl (rc_cell rtc_one L)) (by decide) (by have := HN.out; omega) L.length (Nat.zero_add _) ?_
        intro a3 c3 w3 k1 k2 k3
        have ho3 : w3.ownsRow w6.heap.size 46 2 (.slice a3 L.length c3) L.length (rc rtc L) := by
          rcases k3 with ⟨h0, rfl, rfl, rfl⟩ | k3
          · have hL0 : L = [] := List.eq_nil_of_length_eq_zero h0
            subst hL0
            exact ⟨rfl, .inr ⟨g0, 0, #[], rfl, hz0, hg0.at_, Nat.le_refl _, by decide, rfl, rfl⟩⟩
          · exact own_dn k3 hz
        refine hK _ _ ⟨pure_extL hR.pure 2 _ trivial, below_on hR.bw hz k2, nofun, fun _ _ => ho3, fun a b => hR.l4a k2 a b, fun a => ?_, fun a => hR.l6 a, fun _ => u31, fun _ => rfl, fun a => ?_, fun a => ?_⟩
        · replace a : Ld 5 = true := a; rw [n5] at a; cases a
        · exact hR.d54 a
        · exact hR.d65 a
      · obtain rfl := Option.some.inj (show some _ = some o from ho)
        rw [if_pos (by rfl)]
        have q5 : AC.tmps.getD 5 undef = .pointer (some ⟨w.heap.size + 1, 0, none⟩) := hf.rest 5 (by kernel_rfl)
        have hG := HX6.out.below hR.bw HXl.out
        have g0 := hG.cell 0 _ rfl; have g1 := hG.cell 1 _ rfl
        go_simp
        exact hK _ _ (hR.set 3 _ (by decide) (by decide) (by decide) (by decide) (by decide) rfl)
      · obtain rfl := Option.some.inj (show some _ = some o from ho)
        rw [if_pos (by rfl)]
        have n5 : Ld 5 = false := by
          cases h : Ld 5 with
          | false => rfl
          | true => rw [hR.d54 h] at hL; cases hL
        have q34 : AC.tmps.getD 34 undef = V 3 := hf.dep ⟨3, .data⟩ (by simp) rfl 34 rfl
        have p34 := hR.pure 3 (hf.up ⟨3, .data⟩ (by simp) rfl)
        rw [show V 3 = _ from p34] at q34
        have hz := hR.bw.size
        have pp := q34
        rw [Array.getD_eq_getD_getElem?] at pp
        go_simp
        refine hK _ _ ⟨pure_extL hR.pure 4 _ trivial, hR.bw.alloc hz _, fun a b => ?_, fun a b => ?_, fun _ _ => ⟨_, rfl, Blk.new WW _ _, hz⟩, fun a => ?_, fun a => hR.l6 a, fun a => hR.d2 a, fun a => hR.d52 a, fun _ => rfl, fun a => ?_⟩
        · obtain ⟨g, e, hg, hz0⟩ := hR.l0 a b
          exact ⟨g, e, hg.alloc _, hz0⟩
        · exact own_kp (hR.l2 a b) (below_new1 _ _)
        · replace a : Ld 5 = true := a; rw [n5] at a; cases a
        · exact hR.d65 a
      · obtain rfl := Option.some.inj (show some _ = some o from ho)
        rw [if_pos (by rfl)]
        have n6 : Ld 6 = false := by
          cases h : Ld 6 with
          | false => rfl
          | true => rw [hR.d65 h] at hL; cases hL
        have q33 : AC.tmps.getD 33 undef = V 2 := hf.dep ⟨2, .data⟩ (by simp) rfl 33 rfl
        have u33 := hf.up ⟨2, .data⟩ (by simp) rfl
        have q35 : AC.tmps.getD 35 undef = V 4 := hf.dep ⟨4, .data⟩ (by simp) rfl 35 rfl
        have u35 := hf.up ⟨4, .data⟩ (by simp) rfl
        have n5 : Ld 5 = false := hL
        have ho := hR.l2 u33 n5
        obtain ⟨g4, e4, hg4, hz4⟩ := hR.l4 u35 n5
        rw [e4] at q35
        have hz := hR.bw.size
        have h1 : SlR WW (some ⟨g4, 0, none⟩) 1 [(d, x)] := ⟨rfl, Nat.le_refl _, by simp, fun _ => ⟨_, _, rfl, fun j u hu => by rw [Nat.zero_add]; exact hg4.cell j u (by simpa [rc, rtc] using hu)⟩⟩
        refine ap_rt_op _ _ rfl rfl w6.heap.size (V 2) q33 L ho (some ⟨g4, 0, none⟩) 1 [(d, x)] q35 h1 (by have := HN.out; simp; omega) hz ?_
        intro v5 w5 k1 k2 _
        rw [HM.out] at k1
        refine hK _ _ ⟨pure_extL hR.pure 5 _ trivial, hR.bw.grown k2 hz (fun k hk => (World.ownsRow.lt ho k hk).1), fun a b => ?_, nofun, nofun, fun _ => k1, fun a => ?_, fun a => hR.d2 a, fun _ => u33, fun _ => u35, fun _ => rfl⟩
        · replace b : Ld 2 = false := b; rw [u33] at b; cases b
        · replace a : Ld 6 = true := a; rw [n6] at a; cases a
      · obtain rfl := Option.some.inj (show some _ = some o from ho)
        rw [if_pos (by rfl)]
        have q36 : AC.tmps.getD 36 undef = V 5 := hf.dep ⟨5, .data⟩ (by simp) rfl 36 rfl
        have u36 := hf.up ⟨5, .data⟩ (by simp) rfl
        go_simp
        have ho := hR.l5 u36
        refine hK _ _ ⟨pure_extL hR.pure 6 _ trivial, hR.bw, fun a b => hR.l0 a b, fun a b => hR.l2 a b, fun a b => hR.l4 a b, fun a => hR.l5 a, fun _ => rfl, fun a => hR.d2 a, fun a => hR.d52 a, fun a => hR.d54 a, fun _ => u36⟩
      · omega
    · intro Ld V WW hall hR
      have hp := hR.pure
      have v1 : V 1 = _ := hp 1 (hall 1 (by decide)); have v3 : V 3 = _ := hp 3 (hall 3 (by decide))
      have v6 := hR.l6 (hall 6 (by decide))
      have ho5 := hR.l5 (hall 5 (by decide))
      obtain ⟨a10, c10, e5, hs10⟩ := own_sl ho5
      have HS10 := Lib.hid hs10
      have HB7 := Lib.hid hR.bw
      simp only [pairsOf, laid, Nat.zero_add, Nat.reduceAdd, v1, v3, v6, e5, List.setIfInBounds_toArray, List.set_cons_zero, List.set_cons_succ]
      clear hp v1 v3 v6 e5 hs10 ho5 hR hall
      have HB8 := Lib.hid (below_on HB6.out HB6.out.size HB7.out)
      have HT8 := Lib.hid (HT6.out.keeps HB7.out)
      have HL8 := Lib.hid (HL0.out.keeps HB8.out)
      have HS8 := Lib.hid (HS6.out.keeps HB7.out)
      have HM8 := Lib.hid (HM6.out.keeps HB7.out)
      have K5 := Lib.hid (fun U (hu : SlR U a7 c7 L) (hu' : SlR U ao cap L) => rsame_any U a7 c7 L ao cap L hu hu' true (by simp) (by have := HN.out; omega))
      clear HT6 HS6 HL6 HM6 HX6 HXl
      go_wp2_with fail
      refine (K4.out _ HL8.out).mono ?_
      rintro e w8 ⟨rfl, hb8⟩
      have HB9 := Lib.hid (below_on HB8.out HB8.out.size hb8)
      have HT9 := Lib.hid (HT8.out.keeps hb8); have HL9 := Lib.hid (HL8.out.keeps hb8); have HS9 := Lib.hid (HS8.out.keeps hb8); have HM9 := Lib.hid (HM8.out.keeps hb8); have HS11 := Lib.hid (HS10.out.keeps hb8)
      clear hb8 HB8 HT8 HL8 HS8 HM8 HS10
      cases t1 with
      | false =>
        have hse : s = ([], 52) := by rw [HE.out]; rfl
        subst hse
        have HB8 := HB9; have HT8 := HT9; have HL8 := HL9; have HS8 := HS9
        go_wp2
        refine region_mono (by kernel_rfl) (by kernel_rfl) [some 43, some 44, some 45, some 46, some 47, some 48, some 49, some 50, some 51, some 52, some 53, some 54, some 55, some 56, some 57, some 58, some 59, some 60] (by kernel_rfl) w.heap.size w HB8.out (Nat.le_refl _) (fun i v WW => match i with | 0 => v = .agg #[.int .i64 m, .int .i64 f, .int .i64 c] | 1 => v = .bool r | 2 => v = .agg #[.int .i64 m, .int .i64 f, .int .i64 c] | 3 => v = .bool r | 4 => v = .bool false | 5 => v = .bool false | 6 => v = .slice ao L.length cap | 7 => v = .bool false | 8 => v = .slice ao L.length cap | 9 => v = .bool false | 10 => v = .bool false | 11 => v = .bool false | 12 => v = .bool false | 13 => v = .slice a7 L.length c7 | 14 => v = .slice ao L.length cap | 15 => v = .bool true | 16 => v = .bool false | 17 => v = .bool false | _ => True) ?_ ?_ ?_
        · intro i v WW WX h hbx
          rcases i with _ | _ | _ | _ | _ | _ | _ | _ | _ | _ | _ | _ | _ | _ | _ | _ | _ | _ | i
          · exact h
          · exact h
          · exact h
          · exact h
          · exact h
          · exact h
          · exact h
          · exact h
          · exact h
          · exact h
          · exact h
          · exact h
          · exact h
          · exact h
          · exact h
          · exact h
          · exact h
          · exact h
          · trivial
        · intro iI oO V AC WW ho hf hbw K hK
          have hlt : iI < 18 := (Array.getElem?_eq_some_iff.1 ho).1
          rcases iI with _ | _ | _ | _ | _ | _ | _ | _ | _ | _ | _ | _ | _ | _ | _ | _ | _ | _ | iI
          · obtain rfl := Option.some.inj (show some _ = some oO from ho)
            rw [if_pos (by rfl)]
            have q3 : AC.tmps.getD 3 undef = .pointer (some ⟨w.heap.size, 0, none⟩) := hf.rest 3 (by kernel_rfl)
            have hT := HT8.out.keeps hbw
            have t0 := hT.cell 0 _ rfl; have t1 := hT.cell 1 _ rfl; have t2 := hT.cell 2 _ rfl
            go_simp
            exact hK _ _ (Below.refl _ _) rfl
          · obtain rfl := Option.some.inj (show some _ = some oO from ho)
            rw [if_pos (by rfl)]
            have q43 : AC.tmps.getD 43 undef = .agg #[.int .i64 m, .int .i64 f, .int .i64 c] := ((hf.dep ⟨0, .data⟩ (by simp) rfl).2 43 rfl).trans (hf.dep ⟨0, .data⟩ (by simp) rfl).1
            go_simp
            refine (K1.out WW).mono ?_
            rintro e w9 ⟨rfl, hb9⟩
            exact hK _ _ hb9 rfl
          · obtain rfl := Option.some.inj (show some _ = some oO from ho)
            rw [if_pos (by rfl)]
            have q3 : AC.tmps.getD 3 undef = .pointer (some ⟨w.heap.size, 0, none⟩) := hf.rest 3 (by kernel_rfl)
            have hT := HT8.out.keeps hbw
            have t0 := hT.cell 0 _ rfl; have t1 := hT.cell 1 _ rfl; have t2 := hT.cell 2 _ rfl
            go_simp
            exact hK _ _ (Below.refl _ _) rfl
          · obtain rfl := Option.some.inj (show some _ = some oO from ho)
            rw [if_pos (by rfl)]
            have q45 : AC.tmps.getD 45 undef = .agg #[.int .i64 m, .int .i64 f, .int .i64 c] := ((hf.dep ⟨2, .data⟩ (by simp) rfl).2 45 rfl).trans (hf.dep ⟨2, .data⟩ (by simp) rfl).1
            go_simp
            refine (K2.out WW).mono ?_
            rintro e w9 ⟨rfl, hb9⟩
            exact hK _ _ hb9 rfl
          · obtain rfl := Option.some.inj (show some _ = some oO from ho)
            rw [if_pos (by rfl)]
            have q44 : AC.tmps.getD 44 undef = .bool r := ((hf.dep ⟨1, .data⟩ (by simp) rfl).2 44 rfl).trans (hf.dep ⟨1, .data⟩ (by simp) rfl).1
            have q46 : AC.tmps.getD 46 undef = .bool r := ((hf.dep ⟨3, .data⟩ (by simp) rfl).2 46 rfl).trans (hf.dep ⟨3, .data⟩ (by simp) rfl).1
            go_simp
            exact hK _ _ (Below.refl _ _) (by simp)
          · obtain rfl := Option.some.inj (show some _ = some oO from ho)
            rw [if_pos (by rfl)]
            have q47 : AC.tmps.getD 47 undef = .bool false := ((hf.dep ⟨4, .data⟩ (by simp) rfl).2 47 rfl).trans (hf.dep ⟨4, .data⟩ (by simp) rfl).1
            go_simp
            exact hK _ _ (Below.refl _ _) rfl
          · obtain rfl := Option.some.inj (show some _ = some oO from ho)
            rw [if_pos (wanted_yes (s := 48) rfl rfl rfl (by rw [hf.size]; simp) (((hf.dep ⟨5, .guard⟩ (by simp) rfl).2 48 rfl).trans (hf.dep ⟨5, .guard⟩ (by simp) rfl).1))]
            have q1 : AC.tmps.getD 1 undef = .slice ao L.length cap := hf.rest 1 (by kernel_rfl)
            go_simp
            exact hK _ _ (Below.refl _ _) rfl
          · obtain rfl := Option.some.inj (show some _ = some oO from ho)
            rw [if_pos (wanted_yes (s := 48) rfl rfl rfl (by rw [hf.size]; simp) (((hf.dep ⟨5, .guard⟩ (by simp) rfl).2 48 rfl).trans (hf.dep ⟨5, .guard⟩ (by simp) rfl).1))]
            have q49 : AC.tmps.getD 49 undef = .slice ao L.length cap := ((hf.dep ⟨6, .data⟩ (by simp) rfl).2 49 rfl).trans (hf.dep ⟨6, .data⟩ (by simp) rfl).1
            go_simp
            refine (K3.out WW (HL8.out.keeps hbw)).mono ?_
            rintro e w9 ⟨rfl, hb9⟩
            exact hK _ _ hb9 rfl
          · obtain rfl := Option.some.inj (show some _ = some oO from ho)
            rw [if_pos (wanted_yes (s := 48) rfl rfl rfl (by rw [hf.size]; simp) (((hf.dep ⟨5, .guard⟩ (by simp) rfl).2 48 rfl).trans (hf.dep ⟨5, .guard⟩ (by simp) rfl).1))]
            have q1 : AC.tmps.getD 1 undef = .slice ao L.length cap := hf.rest 1 (by kernel_rfl)
            go_simp
            exact hK _ _ (Below.refl _ _) rfl
          · obtain rfl := Option.some.inj (show some _ = some oO from ho)
            rw [if_pos (wanted_yes (s := 48) rfl rfl rfl (by rw [hf.size]; simp) (((hf.dep ⟨5, .guard⟩ (by simp) rfl).2 48 rfl).trans (hf.dep ⟨5, .guard⟩ (by simp) rfl).1))]
            have q51 : AC.tmps.getD 51 undef = .slice ao L.length cap := ((hf.dep ⟨8, .data⟩ (by simp) rfl).2 51 rfl).trans (hf.dep ⟨8, .data⟩ (by simp) rfl).1
            go_simp
            refine (K4.out WW (HL8.out.keeps hbw)).mono ?_
            rintro e w9 ⟨rfl, hb9⟩
            exact hK _ _ hb9 rfl
          · obtain rfl := Option.some.inj (show some _ = some oO from ho)
            rw [if_pos (wanted_yes (s := 48) rfl rfl rfl (by rw [hf.size]; simp) (((hf.dep ⟨5, .guard⟩ (by simp) rfl).2 48 rfl).trans (hf.dep ⟨5, .guard⟩ (by simp) rfl).1))]
            have q50 : AC.tmps.getD 50 undef = .bool false := ((hf.dep ⟨7, .data⟩ (by simp) rfl).2 50 rfl).trans (hf.dep ⟨7, .data⟩ (by simp) rfl).1
            have q52 : AC.tmps.getD 52 undef = .bool false := ((hf.dep ⟨9, .data⟩ (by simp) rfl).2 52 rfl).trans (hf.dep ⟨9, .data⟩ (by simp) rfl).1
            go_simp
            exact hK _ _ (Below.refl _ _) (by simp)
          · obtain rfl := Option.some.inj (show some _ = some oO from ho)
            rw [if_pos (by rfl)]
            have q48 : AC.tmps.getD 48 undef = .bool false := ((hf.dep ⟨5, .data⟩ (by simp) rfl).2 48 rfl).trans (hf.dep ⟨5, .data⟩ (by simp) rfl).1
            have q53 : AC.tmps.getD 53 undef = .bool false := ((hf.dep ⟨10, .data⟩ (by simp) rfl).2 53 rfl).trans (hf.dep ⟨10, .data⟩ (by simp) rfl).1
            go_simp
            exact hK _ _ (Below.refl _ _) rfl
          · obtain rfl := Option.some.inj (show some _ = some oO from ho)
            rw [if_pos (by rfl)]
            have q54 : AC.tmps.getD 54 undef = .bool false := ((hf.dep ⟨11, .data⟩ (by simp) rfl).2 54 rfl).trans (hf.dep ⟨11, .data⟩ (by simp) rfl).1
            go_simp
            exact hK _ _ (Below.refl _ _) rfl
          · obtain rfl := Option.some.inj (show some _ = some oO from ho)
            rw [if_pos (wanted_yes (s := 55) rfl rfl rfl (by rw [hf.size]; simp) (((hf.dep ⟨12, .guard⟩ (by simp) rfl).2 55 rfl).trans (hf.dep ⟨12, .guard⟩ (by simp) rfl).1))]
            have q7 : AC.tmps.getD 7 undef = .slice a7 L.length c7 := hf.rest 7 (by kernel_rfl)
            go_simp
            exact hK _ _ (Below.refl _ _) rfl
          · obtain rfl := Option.some.inj (show some _ = some oO from ho)
            rw [if_pos (wanted_yes (s := 55) rfl rfl rfl (by rw [hf.size]; simp) (((hf.dep ⟨12, .guard⟩ (by simp) rfl).2 55 rfl).trans (hf.dep ⟨12, .guard⟩ (by simp) rfl).1))]
            have q1 : AC.tmps.getD 1 undef = .slice ao L.length cap := hf.rest 1 (by kernel_rfl)
            go_simp
            exact hK _ _ (Below.refl _ _) rfl
          · obtain rfl := Option.some.inj (show some _ = some oO from ho)
            rw [if_pos (wanted_yes (s := 55) rfl rfl rfl (by rw [hf.size]; simp) (((hf.dep ⟨12, .guard⟩ (by simp) rfl).2 55 rfl).trans (hf.dep ⟨12, .guard⟩ (by simp) rfl).1))]
            have q56 : AC.tmps.getD 56 undef = .slice a7 L.length c7 := ((hf.dep ⟨13, .data⟩ (by simp) rfl).2 56 rfl).trans (hf.dep ⟨13, .data⟩ (by simp) rfl).1
            have q57 : AC.tmps.getD 57 undef = .slice ao L.length cap := ((hf.dep ⟨14, .data⟩ (by simp) rfl).2 57 rfl).trans (hf.dep ⟨14, .data⟩ (by simp) rfl).1
            go_simp
            refine (K5.out WW (HS8.out.keeps hbw) (HL8.out.keeps hbw)).mono ?_
            rintro e w9 ⟨rfl, hb9⟩
            exact hK _ _ hb9 rfl
          · obtain rfl := Option.some.inj (show some _ = some oO from ho)
            rw [if_pos (wanted_yes (s := 55) rfl rfl rfl (by rw [hf.size]; simp) (((hf.dep ⟨12, .guard⟩ (by simp) rfl).2 55 rfl).trans (hf.dep ⟨12, .guard⟩ (by simp) rfl).1))]
            have q58 : AC.tmps.getD 58 undef = .bool true := ((hf.dep ⟨15, .data⟩ (by simp) rfl).2 58 rfl).trans (hf.dep ⟨15, .data⟩ (by simp) rfl).1
            go_simp
            exact hK _ _ (Below.refl _ _) rfl
          · obtain rfl := Option.some.inj (show some _ = some oO from ho)
            rw [if_pos (by rfl)]
            have q55 : AC.tmps.getD 55 undef = .bool false := ((hf.dep ⟨12, .data⟩ (by simp) rfl).2 55 rfl).trans (hf.dep ⟨12, .data⟩ (by simp) rfl).1
            have q59 : AC.tmps.getD 59 undef = .bool false := ((hf.dep ⟨16, .data⟩ (by simp) rfl).2 59 rfl).trans (hf.dep ⟨16, .data⟩ (by simp) rfl).1
            go_simp
            exact hK _ _ (Below.refl _ _) rfl
          · omega
        · intro V WW hall hbw hBW
          have vv0 : V 0 = .agg #[.int .i64 m, .int .i64 f, .int .i64 c] := hall 0 (by decide)
          have vv1 : V 1 = .bool r := hall 1 (by decide)
          have vv2 : V 2 = .agg #[.int .i64 m, .int .i64 f, .int .i64 c] := hall 2 (by decide)
          have vv3 : V 3 = .bool r := hall 3 (by decide)
          have vv4 : V 4 = .bool false := hall 4 (by decide)
          have vv5 : V 5 = .bool false := hall 5 (by decide)
          have vv6 : V 6 = .slice ao L.length cap := hall 6 (by decide)
          have vv7 : V 7 = .bool false := hall 7 (by decide)
          have vv8 : V 8 = .slice ao L.length cap := hall 8 (by decide)
          have vv9 : V 9 = .bool false := hall 9 (by decide)
          have vv10 : V 10 = .bool false := hall 10 (by decide)
          have vv11 : V 11 = .bool false := hall 11 (by decide)
          have vv12 : V 12 = .bool false := hall 12 (by decide)
          have vv13 : V 13 = .slice a7 L.length c7 := hall 13 (by decide)
          have vv14 : V 14 = .slice ao L.length cap := hall 14 (by decide)
          have vv15 : V 15 = .bool true := hall 15 (by decide)
          have vv16 : V 16 = .bool false := hall 16 (by decide)
          have vv17 : V 17 = .bool false := hall 17 (by decide)
          clear hall
          simp only [pairsOf, laid, Nat.zero_add, Nat.reduceAdd, vv0, vv1, vv2, vv3, vv4, vv5, vv6, vv7, vv8, vv9, vv10, vv11, vv12, vv13, vv14, vv15, vv16, vv17, List.setIfInBounds_toArray, List.set_cons_zero, List.set_cons_succ]
          clear vv0 vv1 vv2 vv3 vv4 vv5 vv6 vv7 vv8 vv9 vv10 vv11 vv12 vv13 vv14 vv15 vv16 vv17
          go_wp2
          go_ret
          exact ⟨rfl, hBW⟩
      | true =>
        go_wp2_with fail
        refine (K6.out _ _ _ HS11.out).mono ?_
        rintro e w9 ⟨rfl, hb9⟩
        have HB8 := Lib.hid (below_on HB9.out HB9.out.size hb9)
        have HT8 := Lib.hid (HT9.out.keeps hb9); have HL8 := Lib.hid (HL9.out.keeps hb9); have HS8 := Lib.hid (HS9.out.keeps hb9); have HM8 := Lib.hid (HM9.out.keeps hb9); have HS10 := Lib.hid (HS11.out.keeps hb9)
        clear hb9 HB9 HT9 HL9 HS9 HM9 HS11
        cases t2 with
        | false =>
          have hse : s = ([], 52) := by rw [HE.out]; rfl
          subst hse
          go_wp2
          refine region_mono (by kernel_rfl) (by kernel_rfl) [some 43, some 44, some 45, some 46, some 47, some 48, some 49, some 50, some 51, some 52, some 53, some 54, some 55, some 56, some 57, some 58, some 59, some 60] (by kernel_rfl) w.heap.size w HB8.out (Nat.le_refl _) (fun i v WW => match i with | 0 => v = .agg #[.int .i64 m, .int .i64 f, .int .i64 c] | 1 => v = .bool r | 2 => v = .agg #[.int .i64 m, .int .i64 f, .int .i64 c] | 3 => v = .bool r | 4 => v = .bool false | 5 => v = .bool false | 6 => v = .slice ao L.length cap | 7 => v = .bool true | 8 => v = .slice ao L.length cap | 9 => v = .bool true | 10 => v = .bool false | 11 => v = .bool false | 12 => v = .bool false | 13 => v = .slice a7 L.length c7 | 14 => v = .slice ao L.length cap | 15 => v = .bool true | 16 => v = .bool false | 17 => v = .bool false | _ => True) ?_ ?_ ?_
          · intro i v WW WX h hbx
            rcases i with _ | _ | _ | _ | _ | _ | _ | _ | _ | _ | _ | _ | _ | _ | _ | _ | _ | _ | i
            · exact h
            · exact h
            · exact h
            · exact h
            · exact h
            · exact h
            · exact h
            · exact h
            · exact h
            · exact h
            · exact h
            · exact h
            · exact h
            · exact h
            · exact h
            · exact h
            · exact h
            · exact h
            · trivial
          · intro iI oO V AC WW ho hf hbw K hK
            have hlt : iI < 18 := (Array.getElem?_eq_some_iff.1 ho).1
            rcases iI with _ | _ | _ | _ | _ | _ | _ | _ | _ | _ | _ | _ | _ | _ | _ | _ | _ | _ | iI
            · obtain rfl := Option.some.inj (show some _ = some oO from ho)
              rw [if_pos (by rfl)]
              have q3 : AC.tmps.getD 3 undef = .pointer (some ⟨w.heap.size, 0, none⟩) := hf.rest 3 (by kernel_rfl)
              have hT := HT8.out.keeps hbw
              have t0 := hT.cell 0 _ rfl; have t1 := hT.cell 1 _ rfl; have t2 := hT.cell 2 _ rfl
              go_simp
              exact hK _ _ (Below.refl _ _) rfl
            · obtain rfl := Option.some.inj (show some _ = some oO from ho)
              rw [if_pos (by rfl)]
              have q43 : AC.tmps.getD 43 undef = .agg #[.int .i64 m, .int .i64 f, .int .i64 c] := ((hf.dep ⟨0, .data⟩ (by simp) rfl).2 43 rfl).trans (hf.dep ⟨0, .data⟩ (by simp) rfl).1
              go_simp
              refine (K1.out WW).mono ?_
              rintro e w9 ⟨rfl, hb9⟩
              exact hK _ _ hb9 rfl
            · obtain rfl := Option.some.inj (show some _ = some oO from ho)
              rw [if_pos (by rfl)]
              have q3 : AC.tmps.getD 3 undef = .pointer (some ⟨w.heap.size, 0, none⟩) := hf.rest 3 (by kernel_rfl)
              have hT := HT8.out.keeps hbw
              have t0 := hT.cell 0 _ rfl; have t1 := hT.cell 1 _ rfl; have t2 := hT.cell 2 _ rfl
              go_simp
              exact hK _ _ (Below.refl _ _) rfl
            · obtain rfl := Option.some.inj (show some _ = some oO from ho)
              rw [if_pos (by rfl)]
              have q45 : AC.tmps.getD 45 undef = .agg #[.int .i64 m, .int .i64 f, .int .i64 c] := ((hf.dep ⟨2, .data⟩ (by simp) rfl).2 45 rfl).trans (hf.dep ⟨2, .data⟩ (by simp) rfl).1
              go_simp
              refine (K2.out WW).mono ?_
              rintro e w9 ⟨rfl, hb9⟩
              exact hK _ _ hb9 rfl
            · obtain rfl := Option.some.inj (show some _ = some oO from ho)
              rw [if_pos (by rfl)]
              have q44 : AC.tmps.getD 44 undef = .bool r := ((hf.dep ⟨1, .data⟩ (by simp) rfl).2 44 rfl).trans (hf.dep ⟨1, .data⟩ (by simp) rfl).1
              have q46 : AC.tmps.getD 46 undef = .bool r := ((hf.dep ⟨3, .data⟩ (by simp) rfl).2 46 rfl).trans (hf.dep ⟨3, .data⟩ (by simp) rfl).1
              go_simp
              exact hK _ _ (Below.refl _ _) (by simp)
            · obtain rfl := Option.some.inj (show some _ = some oO from ho)
              rw [if_pos (by rfl)]
              have q47 : AC.tmps.getD 47 undef = .bool false := ((hf.dep ⟨4, .data⟩ (by simp) rfl).2 47 rfl).trans (hf.dep ⟨4, .data⟩ (by simp) rfl).1
              go_simp
              exact hK _ _ (Below.refl _ _) rfl
            · obtain rfl := Option.some.inj (show some _ = some oO from ho)
              rw [if_pos (wanted_yes (s := 48) rfl rfl rfl (by rw [hf.size]; simp) (((hf.dep ⟨5, .guard⟩ (by simp) rfl).2 48 rfl).trans (hf.dep ⟨5, .guard⟩ (by simp) rfl).1))]
              have q1 : AC.tmps.getD 1 undef = .slice ao L.length cap := hf.rest 1 (by kernel_rfl)
              go_simp
              exact hK _ _ (Below.refl _ _) rfl
            · obtain rfl := Option.some.inj (show some _ = some oO from ho)
              rw [if_pos (wanted_yes (s := 48) rfl rfl rfl (by rw [hf.size]; simp) (((hf.dep ⟨5, .guard⟩ (by simp) rfl).2 48 rfl).trans (hf.dep ⟨5, .guard⟩ (by simp) rfl).1))]
              have q49 : AC.tmps.getD 49 undef = .slice ao L.length cap := ((hf.dep ⟨6, .data⟩ (by simp) rfl).2 49 rfl).trans (hf.dep ⟨6, .data⟩ (by simp) rfl).1
              go_simp
              refine (K3.out WW (HL8.out.keeps hbw)).mono ?_
              rintro e w9 ⟨rfl, hb9⟩
              exact hK _ _ hb9 rfl
            · obtain rfl := Option.some.inj (show some _ = some oO from ho)
              rw [if_pos (wanted_yes (s := 48) rfl rfl rfl (by rw [hf.size]; simp) (((hf.dep ⟨5, .guard⟩ (by simp) rfl).2 48 rfl).trans (hf.dep ⟨5, .guard⟩ (by simp) rfl).1))]
              have q1 : AC.tmps.getD 1 undef = .slice ao L.length cap := hf.rest 1 (by kernel_rfl)
              go_simp
              exact hK _ _ (Below.refl _ _) rfl
            · obtain rfl := Option.some.inj (show some _ = some oO from ho)
              rw [if_pos (wanted_yes (s := 48) rfl rfl rfl (by rw [hf.size]; simp) (((hf.dep ⟨5, .guard⟩ (by simp) rfl).2 48 rfl).trans (hf.dep ⟨5, .guard⟩ (by simp) rfl).1))]
              have q51 : AC.tmps.getD 51 undef = .slice ao L.length cap := ((hf.dep ⟨8, .data⟩ (by simp) rfl).2 51 rfl).trans (hf.dep ⟨8, .data⟩ (by simp) rfl).1
              go_simp
              refine (K4.out WW (HL8.out.keeps hbw)).mono ?_
              rintro e w9 ⟨rfl, hb9⟩
              exact hK _ _ hb9 rfl
            · obtain rfl := Option.some.inj (show some _ = some oO from ho)
              rw [if_pos (wanted_yes (s := 48) rfl rfl rfl (by rw [hf.size]; simp) (((hf.dep ⟨5, .guard⟩ (by simp) rfl).2 48 rfl).trans (hf.dep ⟨5, .guard⟩ (by simp) rfl).1))]
              have q50 : AC.tmps.getD 50 undef = .bool true := ((hf.dep ⟨7, .data⟩ (by simp) rfl).2 50 rfl).trans (hf.dep ⟨7, .data⟩ (by simp) rfl).1
              have q52 : AC.tmps.getD 52 undef = .bool true := ((hf.dep ⟨9, .data⟩ (by simp) rfl).2 52 rfl).trans (hf.dep ⟨9, .data⟩ (by simp) rfl).1
              go_simp
              exact hK _ _ (Below.refl _ _) (by simp)
            · obtain rfl := Option.some.inj (show some _ = some oO from ho)
              rw [if_pos (by rfl)]
              have q48 : AC.tmps.getD 48 undef = .bool false := ((hf.dep ⟨5, .data⟩ (by simp) rfl).2 48 rfl).trans (hf.dep ⟨5, .data⟩ (by simp) rfl).1
              have q53 : AC.tmps.getD 53 undef = .bool false := ((hf.dep ⟨10, .data⟩ (by simp) rfl).2 53 rfl).trans (hf.dep ⟨10, .data⟩ (by simp) rfl).1
              go_simp
              exact hK _ _ (Below.refl _ _) rfl
            · obtain rfl := Option.some.inj (show some _ = some oO from ho)
              rw [if_pos (by rfl)]
              have q54 : AC.tmps.getD 54 undef = .bool false := ((hf.dep ⟨11, .data⟩ (by simp) rfl).2 54 rfl).trans (hf.dep ⟨11, .data⟩ (by simp) rfl).1
              go_simp
              exact hK _ _ (Below.refl _ _) rfl
            · obtain rfl := Option.some.inj (show some _ = some oO from ho)
              rw [if_pos (wanted_yes (s := 55) rfl rfl rfl (by rw [hf.size]; simp) (((hf.dep ⟨12, .guard⟩ (by simp) rfl).2 55 rfl).trans (hf.dep ⟨12, .guard⟩ (by simp) rfl).1))]
              have q7 : AC.tmps.getD 7 undef = .slice a7 L.length c7 := hf.rest 7 (by kernel_rfl)
              go_simp
              exact hK _ _ (Below.refl _ _) rfl
            · obtain rfl := Option.some.inj (show some _ = some oO from ho)
              rw [if_pos (wanted_yes (s := 55) rfl rfl rfl (by rw [hf.size]; simp) (((hf.dep ⟨12, .guard⟩ (by simp) rfl).2 55 rfl).trans (hf.dep ⟨12, .guard⟩ (by simp) rfl).1))]
              have q1 : AC.tmps.getD 1 undef = .slice ao L.length cap := hf.rest 1 (by kernel_rfl)
              go_simp
              exact hK _ _ (Below.refl _ _) rfl
            · obtain rfl := Option.some.inj (show some _ = some oO from ho)
              rw [if_pos (wanted_yes (s := 55) rfl rfl rfl (by rw [hf.size]; simp) (((hf.dep ⟨12, .guard⟩ (by simp) rfl).2 55 rfl).trans (hf.dep ⟨12, .guard⟩ (by simp) rfl).1))]
              have q56 : AC.tmps.getD 56 undef = .slice a7 L.length c7 := ((hf.dep ⟨13, .data⟩ (by simp) rfl).2 56 rfl).trans (hf.dep ⟨13, .data⟩ (by simp) rfl).1
              have q57 : AC.tmps.getD 57 undef = .slice ao L.length cap := ((hf.dep ⟨14, .data⟩ (by simp) rfl).2 57 rfl).trans (hf.dep ⟨14, .data⟩ (by simp) rfl).1
              go_simp
              refine (K5.out WW (HS8.out.keeps hbw) (HL8.out.keeps hbw)).mono ?_
              rintro e w9 ⟨rfl, hb9⟩
              exact hK _ _ hb9 rfl
            · obtain rfl := Option.some.inj (show some _ = some oO from ho)
              rw [if_pos (wanted_yes (s := 55) rfl rfl rfl (by rw [hf.size]; simp) (((hf.dep ⟨12, .guard⟩ (by simp) rfl).2 55 rfl).trans (hf.dep ⟨12, .guard⟩ (by simp) rfl).1))]
              have q58 : AC.tmps.getD 58 undef = .bool true := ((hf.dep ⟨15, .data⟩ (by simp) rfl).2 58 rfl).trans (hf.dep ⟨15, .data⟩ (by simp) rfl).1
              go_simp
              exact hK _ _ (Below.refl _ _) rfl
            · obtain rfl := Option.some.inj (show some _ = some oO from ho)
              rw [if_pos (by rfl)]
              have q55 : AC.tmps.getD 55 undef = .bool false := ((hf.dep ⟨12, .data⟩ (by simp) rfl).2 55 rfl).trans (hf.dep ⟨12, .data⟩ (by simp) rfl).1
              have q59 : AC.tmps.getD 59 undef = .bool false := ((hf.dep ⟨16, .data⟩ (by simp) rfl).2 59 rfl).trans (hf.dep ⟨16, .data⟩ (by simp) rfl).1
              go_simp
              exact hK _ _ (Below.refl _ _) rfl
            · omega
          · intro V WW hall hbw hBW
            have vv0 : V 0 = .agg #[.int .i64 m, .int .i64 f, .int .i64 c] := hall 0 (by decide)
            have vv1 : V 1 = .bool r := hall 1 (by decide)
            have vv2 : V 2 = .agg #[.int .i64 m, .int .i64 f, .int .i64 c] := hall 2 (by decide)
            have vv3 : V 3 = .bool r := hall 3 (by decide)
            have vv4 : V 4 = .bool false := hall 4 (by decide)
            have vv5 : V 5 = .bool false := hall 5 (by decide)
            have vv6 : V 6 = .slice ao L.length cap := hall 6 (by decide)
            have vv7 : V 7 = .bool true := hall 7 (by decide)
            have vv8 : V 8 = .slice ao L.length cap := hall 8 (by decide)
            have vv9 : V 9 = .bool true := hall 9 (by decide)
            have vv10 : V 10 = .bool false := hall 10 (by decide)
            have vv11 : V 11 = .bool false := hall 11 (by decide)
            have vv12 : V 12 = .bool false := hall 12 (by decide)
            have vv13 : V 13 = .slice a7 L.length c7 := hall 13 (by decide)
            have vv14 : V 14 = .slice ao L.length cap := hall 14 (by decide)
            have vv15 : V 15 = .bool true := hall 15 (by decide)
            have vv16 : V 16 = .bool false := hall 16 (by decide)
            have vv17 : V 17 = .bool false := hall 17 (by decide)
            clear hall
            simp only [pairsOf, laid, Nat.zero_add, Nat.reduceAdd, vv0, vv1, vv2, vv3, vv4, vv5, vv6, vv7, vv8, vv9, vv10, vv11, vv12, vv13, vv14, vv15, vv16, vv17, List.setIfInBounds_toArray, List.set_cons_zero, List.set_cons_succ]
            clear vv0 vv1 vv2 vv3 vv4 vv5 vv6 vv7 vv8 vv9 vv10 vv11 vv12 vv13 vv14 vv15 vv16 vv17
            go_wp2
            go_ret
            exact ⟨rfl, hBW⟩
        | true =>
          have hse : s = (M, 0) := by rw [HE.out]; rfl
          subst hse
          go_wp2
          refine region_mono (by kernel_rfl) (by kernel_rfl) [some 43, some 44, some 45, some 46, some 47, some 48, some 49, some 50, some 51, some 52, some 53, some 54, some 55, some 56, some 57, some 58, some 59, some 60] (by kernel_rfl) w.heap.size w HB8.out (Nat.le_refl _) (fun i v WW => match i with | 0 => v = .agg #[.int .i64 m, .int .i64 f, .int .i64 c] | 1 => v = .bool r | 2 => v = .agg #[.int .i64 m, .int .i64 f, .int .i64 c] | 3 => v = .bool r | 4 => v = .bool false | 5 => v = .bool false | 6 => v = .slice ao L.length cap | 7 => v = .bool true | 8 => v = .slice ao L.length cap | 9 => v = .bool true | 10 => v = .bool false | 11 => v = .bool false | 12 => v = .bool false | 13 => v = .slice a7 L.length c7 | 14 => v = .slice ao L.length cap | 15 => v = .bool true | 16 => v = .bool false | 17 => v = .bool false | _ => True) ?_ ?_ ?_
          · intro i v WW WX h hbx
            rcases i with _ | _ | _ | _ | _ | _ | _ | _ | _ | _ | _ | _ | _ | _ | _ | _ | _ | _ | i
            · exact h
            · exact h
            · exact h
            · exact h
            · exact h
            · exact h
            · exact h
            · exact h
            · exact h
            · exact h
            · exact h
            · exact h
            · exact h
            · exact h
            · exact h
            · exact h
            · exact h
            · exact h
            · trivial
          · intro iI oO V AC WW ho hf hbw K hK
            have hlt : iI < 18 := (Array.getElem?_eq_some_iff.1 ho).1
            rcases iI with _ | _ | _ | _ | _ | _ | _ | _ | _ | _ | _ | _ | _ | _ | _ | _ | _ | _ | iI
            · obtain rfl := Option.some.inj (show some _ = some oO from ho)
              rw [if_pos (by rfl)]
              have q3 : AC.tmps.getD 3 undef = .pointer (some ⟨w.heap.size, 0, none⟩) := hf.rest 3 (by kernel_rfl)
              have hT := HT8.out.keeps hbw
              have t0 := hT.cell 0 _ rfl; have t1 := hT.cell 1 _ rfl; have t2 := hT.cell 2 _ rfl
              go_simp
              exact hK _ _ (Below.refl _ _) rfl
            · obtain rfl := Option.some.inj (show some _ = some oO from ho)
              rw [if_pos (by rfl)]
              have q43 : AC.tmps.getD 43 undef = .agg #[.int .i64 m, .int .i64 f, .int .i64 c] := ((hf.dep ⟨0, .data⟩ (by simp) rfl).2 43 rfl).trans (hf.dep ⟨0, .data⟩ (by simp) rfl).1
              go_simp
              refine (K1.out WW).mono ?_
              rintro e w9 ⟨rfl, hb9⟩
              exact hK _ _ hb9 rfl
            · obtain rfl := Option.some.inj (show some _ = some oO from ho)
              rw [if_pos (by rfl)]
              have q3 : AC.tmps.getD 3 undef = .pointer (some ⟨w.heap.size, 0, none⟩) := hf.rest 3 (by kernel_rfl)
              have hT := HT8.out.keeps hbw
              have t0 := hT.cell 0 _ rfl; have t1 := hT.cell 1 _ rfl; have t2 := hT.cell 2 _ rfl
              go_simp
              exact hK _ _ (Below.refl _ _) rfl
            · obtain rfl := Option.some.inj (show some _ = some oO from ho)
              rw [if_pos (by rfl)]
              have q45 : AC.tmps.getD 45 undef = .agg #[.int .i64 m, .int .i64 f, .int .i64 c] := ((hf.dep ⟨2, .data⟩ (by simp) rfl).2 45 rfl).trans (hf.dep ⟨2, .data⟩ (by simp) rfl).1
              go_simp
              refine (K2.out WW).mono ?_
              rintro e w9 ⟨rfl, hb9⟩
              exact hK _ _ hb9 rfl
            · obtain rfl := Option.some.inj (show some _ = some oO from ho)
              rw [if_pos (by rfl)]
              have q44 : AC.tmps.getD 44 undef = .bool r := ((hf.dep ⟨1, .data⟩ (by simp) rfl).2 44 rfl).trans (hf.dep ⟨1, .data⟩ (by simp) rfl).1
              have q46 : AC.tmps.getD 46 undef = .bool r := ((hf.dep ⟨3, .data⟩ (by simp) rfl).2 46 rfl).trans (hf.dep ⟨3, .data⟩ (by simp) rfl).1
              go_simp
              exact hK _ _ (Below.refl _ _) (by simp)
            · obtain rfl := Option.some.inj (show some _ = some oO from ho)
              rw [if_pos (by rfl)]
              have q47 : AC.tmps.getD 47 undef = .bool false := ((hf.dep ⟨4, .data⟩ (by simp) rfl).2 47 rfl).trans (hf.dep ⟨4, .data⟩ (by simp) rfl).1
              go_simp
              exact hK _ _ (Below.refl _ _) rfl
            · obtain rfl := Option.some.inj (show some _ = some oO from ho)
              rw [if_pos (wanted_yes (s := 48) rfl rfl rfl (by rw [hf.size]; simp) (((hf.dep ⟨5, .guard⟩ (by simp) rfl).2 48 rfl).trans (hf.dep ⟨5, .guard⟩ (by simp) rfl).1))]
              have q1 : AC.tmps.getD 1 undef = .slice ao L.length cap := hf.rest 1 (by kernel_rfl)
              go_simp
              exact hK _ _ (Below.refl _ _) rfl
            · obtain rfl := Option.some.inj (show some _ = some oO from ho)
              rw [if_pos (wanted_yes (s := 48) rfl rfl rfl (by rw [hf.size]; simp) (((hf.dep ⟨5, .guard⟩ (by simp) rfl).2 48 rfl).trans (hf.dep ⟨5, .guard⟩ (by simp) rfl).1))]
              have q49 : AC.tmps.getD 49 undef = .slice ao L.length cap := ((hf.dep ⟨6, .data⟩ (by simp) rfl).2 49 rfl).trans (hf.dep ⟨6, .data⟩ (by simp) rfl).1
              go_simp
              refine (K3.out WW (HL8.out.keeps hbw)).mono ?_
              rintro e w9 ⟨rfl, hb9⟩
              exact hK _ _ hb9 rfl
            · obtain rfl := Option.some.inj (show some _ = some oO from ho)
              rw [if_pos (wanted_yes (s := 48) rfl rfl rfl (by rw [hf.size]; simp) (((hf.dep ⟨5, .guard⟩ (by simp) rfl).2 48 rfl).trans (hf.dep ⟨5, .guard⟩ (by simp) rfl).1))]
              have q1 : AC.tmps.getD 1 undef = .slice ao L.length cap := hf.rest 1 (by kernel_rfl)
              go_simp
              exact hK _ _ (Below.refl _ _) rfl
            · obtain rfl := Option.some.inj (show some _ = some oO from ho)
              rw [if_pos (wanted_yes (s := 48) rfl rfl rfl (by rw [hf.size]; simp) (((hf.dep ⟨5, .guard⟩ (by simp) rfl).2 48 rfl).trans (hf.dep ⟨5, .guard⟩ (by simp) rfl).1))]
              have q51 : AC.tmps.getD 51 undef = .slice ao L.length cap := ((hf.dep ⟨8, .data⟩ (by simp) rfl).2 51 rfl).trans (hf.dep ⟨8, .data⟩ (by simp) rfl).1
              go_simp
              refine (K4.out WW (HL8.out.keeps hbw)).mono ?_
              rintro e w9 ⟨rfl, hb9⟩
              exact hK _ _ hb9 rfl
            · obtain rfl := Option.some.inj (show some _ = some oO from ho)
              rw [if_pos (wanted_yes (s := 48) rfl rfl rfl (by rw [hf.size]; simp) (((hf.dep ⟨5, .guard⟩ (by simp) rfl).2 48 rfl).trans (hf.dep ⟨5, .guard⟩ (by simp) rfl).1))]
              have q50 : AC.tmps.getD 50 undef = .bool true := ((hf.dep ⟨7, .data⟩ (by simp) rfl).2 50 rfl).trans (hf.dep ⟨7, .data⟩ (by simp) rfl).1
              have q52 : AC.tmps.getD 52 undef = .bool true := ((hf.dep ⟨9, .data⟩ (by simp) rfl).2 52 rfl).trans (hf.dep ⟨9, .data⟩ (by simp) rfl).1
              go_simp
              exact hK _ _ (Below.refl _ _) (by simp)
            · obtain rfl := Option.some.inj (show some _ = some oO from ho)
              rw [if_pos (by rfl)]
              have q48 : AC.tmps.getD 48 undef = .bool false := ((hf.dep ⟨5, .data⟩ (by simp) rfl).2 48 rfl).trans (hf.dep ⟨5, .data⟩ (by simp) rfl).1
              have q53 : AC.tmps.getD 53 undef = .bool false := ((hf.dep ⟨10, .data⟩ (by simp) rfl).2 53 rfl).trans (hf.dep ⟨10, .data⟩ (by simp) rfl).1
              go_simp
              exact hK _ _ (Below.refl _ _) rfl
            · obtain rfl := Option.some.inj (show some _ = some oO from ho)
              rw [if_pos (by rfl)]
              have q54 : AC.tmps.getD 54 undef = .bool false := ((hf.dep ⟨11, .data⟩ (by simp) rfl).2 54 rfl).trans (hf.dep ⟨11, .data⟩ (by simp) rfl).1
              go_simp
              exact hK _ _ (Below.refl _ _) rfl
            · obtain rfl := Option.some.inj (show some _ = some oO from ho)
              rw [if_pos (wanted_yes (s := 55) rfl rfl rfl (by rw [hf.size]; simp) (((hf.dep ⟨12, .guard⟩ (by simp) rfl).2 55 rfl).trans (hf.dep ⟨12, .guard⟩ (by simp) rfl).1))]
              have q7 : AC.tmps.getD 7 undef = .slice a7 L.length c7 := hf.rest 7 (by kernel_rfl)
              go_simp
              exact hK _ _ (Below.refl _ _) rfl
            · obtain rfl := Option.some.inj (show some _ = some oO from ho)
              rw [if_pos (wanted_yes (s := 55) rfl rfl rfl (by rw [hf.size]; simp) (((hf.dep ⟨12, .guard⟩ (by simp) rfl).2 55 rfl).trans (hf.dep ⟨12, .guard⟩ (by simp) rfl).1))]
              have q1 : AC.tmps.getD 1 undef = .slice ao L.length cap := hf.rest 1 (by kernel_rfl)
              go_simp
              exact hK _ _ (Below.refl _ _) rfl
            · obtain rfl := Option.some.inj (show some _ = some oO from ho)
              rw [if_pos (wanted_yes (s := 55) rfl rfl rfl (by rw [hf.size]; simp) (((hf.dep ⟨12, .guard⟩ (by simp) rfl).2 55 rfl).trans (hf.dep ⟨12, .guard⟩ (by simp) rfl).1))]
              have q56 : AC.tmps.getD 56 undef = .slice a7 L.length c7 := ((hf.dep ⟨13, .data⟩ (by simp) rfl).2 56 rfl).trans (hf.dep ⟨13, .data⟩ (by simp) rfl).1
              have q57 : AC.tmps.getD 57 undef = .slice ao L.length cap := ((hf.dep ⟨14, .data⟩ (by simp) rfl).2 57 rfl).trans (hf.dep ⟨14, .data⟩ (by simp) rfl).1
              go_simp
              refine (K5.out WW (HS8.out.keeps hbw) (HL8.out.keeps hbw)).mono ?_
              rintro e w9 ⟨rfl, hb9⟩
              exact hK _ _ hb9 rfl
            · obtain rfl := Option.some.inj (show some _ = some oO from ho)
              rw [if_pos (wanted_yes (s := 55) rfl rfl rfl (by rw [hf.size]; simp) (((hf.dep ⟨12, .guard⟩ (by simp) rfl).2 55 rfl).trans (hf.dep ⟨12, .guard⟩ (by simp) rfl).1))]
              have q58 : AC.tmps.getD 58 undef = .bool true := ((hf.dep ⟨15, .data⟩ (by simp) rfl).2 58 rfl).trans (hf.dep ⟨15, .data⟩ (by simp) rfl).1
              go_simp
              exact hK _ _ (Below.refl _ _) rfl
            · obtain rfl := Option.some.inj (show some _ = some oO from ho)
              rw [if_pos (by rfl)]
              have q55 : AC.tmps.getD 55 undef = .bool false := ((hf.dep ⟨12, .data⟩ (by simp) rfl).2 55 rfl).trans (hf.dep ⟨12, .data⟩ (by simp) rfl).1
              have q59 : AC.tmps.getD 59 undef = .bool false := ((hf.dep ⟨16, .data⟩ (by simp) rfl).2 59 rfl).trans (hf.dep ⟨16, .data⟩ (by simp) rfl).1
              go_simp
              exact hK _ _ (Below.refl _ _) rfl
            · omega
          · intro V WW hall hbw hBW
            have vv0 : V 0 = .agg #[.int .i64 m, .int .i64 f, .int .i64 c] := hall 0 (by decide)
            have vv1 : V 1 = .bool r := hall 1 (by decide)
            have vv2 : V 2 = .agg #[.int .i64 m, .int .i64 f, .int .i64 c] := hall 2 (by decide)
            have vv3 : V 3 = .bool r := hall 3 (by decide)
            have vv4 : V 4 = .bool false := hall 4 (by decide)
            have vv5 : V 5 = .bool false := hall 5 (by decide)
            have vv6 : V 6 = .slice ao L.length cap := hall 6 (by decide)
            have vv7 : V 7 = .bool true := hall 7 (by decide)
            have vv8 : V 8 = .slice ao L.length cap := hall 8 (by decide)
            have vv9 : V 9 = .bool true := hall 9 (by decide)
            have vv10 : V 10 = .bool false := hall 10 (by decide)
            have vv11 : V 11 = .bool false := hall 11 (by decide)
            have vv12 : V 12 = .bool false := hall 12 (by decide)
            have vv13 : V 13 = .slice a7 L.length c7 := hall 13 (by decide)
            have vv14 : V 14 = .slice ao L.length cap := hall 14 (by decide)
            have vv15 : V 15 = .bool true := hall 15 (by decide)
            have vv16 : V 16 = .bool false := hall 16 (by decide)
            have vv17 : V 17 = .bool false := hall 17 (by decide)
            clear hall
            simp only [pairsOf, laid, Nat.zero_add, Nat.reduceAdd, vv0, vv1, vv2, vv3, vv4, vv5, vv6, vv7, vv8, vv9, vv10, vv11, vv12, vv13, vv14, vv15, vv16, vv17, List.setIfInBounds_toArray, List.set_cons_zero, List.set_cons_succ]
            clear vv0 vv1 vv2 vv3 vv4 vv5 vv6 vv7 vv8 vv9 vv10 vv11 vv12 vv13 vv14 vv15 vv16 vv17
            have HM12 := Lib.hid (HM8.out.keeps hbw); have HS12 := Lib.hid (HS10.out.keeps hbw)
            go_wp2_with fail
            refine (K7.out _ _ _ _ _ HM12.out HS12.out).mono ?_
            rintro e w10 ⟨rfl, hb10⟩
            have HB11 := Lib.hid (below_on hBW hBW.size hb10)
            go_wp2
            go_ret
            exact ⟨rfl, HB11.out⟩
end Go.Proofs.Ytaineoceiciloaa
