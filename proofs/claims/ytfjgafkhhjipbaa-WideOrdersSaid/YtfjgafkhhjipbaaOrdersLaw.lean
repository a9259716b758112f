/-
  The walk of the law WideOrders.
-/
import Derived.Test.YtfjgafkhhjipbaaWideA
import Derived.Test.YtfjgafkhhjipbaaSum
import Derived.Test.YtfjgafkhhjipbaaSlI
set_option linter.unusedVariables false
set_option linter.unusedSimpArgs false
namespace Go.Proofs.Ytfjgafkhhjipbaa
open Go.RowKit Dg Go.Shelf

section
variable {ops : Array Oper} {rest : List Oper} {o : Oper} {a : Act} {w : World} {Q : Exit → Act → World → Prop} {K : Act → World → Prop}
theorem cut_fromM (hw : Region.wanted o (yielded ops a.tmps) = true) (s x : Operand) (ho : o.op = .slice 29 s (some x) none none) (ao : Option Addr) (cap : Nat) (L M : List Int) (k : Nat) (hM : L.drop k = M) (hr : L.length ≤ cap) (hs : a.eval s = .slice ao L.length cap) (hk : k ≤ L.length) (hx : a.eval x = .int .i64 k)
    (h : wpList Try.prog ops Q rest (a.put o.dst (.slice (fromA ao cap k) M.length (cap - k))) w) : wpList Try.prog ops Q (o :: rest) a w := by
  subst hM; exact cut_from hw s x ho ao cap L hr hs k hk hx h
theorem cut_toM (hw : Region.wanted o (yielded ops a.tmps) = true) (s x : Operand) (ho : o.op = .slice 29 s none (some x) none) (ao : Option Addr) (cap : Nat) (L M : List Int) (k : Nat) (hM : L.take k = M) (hr : L.length ≤ cap) (hs : a.eval s = .slice ao L.length cap) (hk : k ≤ L.length) (hx : a.eval x = .int .i64 k)
    (h : wpList Try.prog ops Q rest (a.put o.dst (.slice (fromA ao cap 0) M.length cap)) w) : wpList Try.prog ops Q (o :: rest) a w := by
  subst hM; exact cut_to hw s x ho ao cap L hr hs k hk hx h
theorem cut_from_opM (s x : Operand) (ho : o.op = .slice 29 s (some x) none none) (ao : Option Addr) (cap : Nat) (L M : List Int) (k : Nat) (hM : L.drop k = M) (hr : L.length ≤ cap) (hs : a.eval s = .slice ao L.length cap) (hk : k ≤ L.length) (hx : a.eval x = .int .i64 k)
    (h : K (a.put o.dst (.slice (fromA ao cap k) M.length (cap - k))) w) : Oper.wp Try.prog o a w K Q := by
  subst hM; exact cut_from_op s x ho ao cap L hr hs k hk hx h
theorem cut_to_opM (s x : Operand) (ho : o.op = .slice 29 s none (some x) none) (ao : Option Addr) (cap : Nat) (L M : List Int) (k : Nat) (hM : L.take k = M) (hr : L.length ≤ cap) (hs : a.eval s = .slice ao L.length cap) (hk : k ≤ L.length) (hx : a.eval x = .int .i64 k)
    (h : K (a.put o.dst (.slice (fromA ao cap 0) M.length cap)) w) : Oper.wp Try.prog o a w K Q := by
  subst hM; exact cut_to_op s x ho ao cap L hr hs k hk hx h
end
theorem own_down' {w : World} {B B' : Nat} {v : Value} {L : List Int} (h : OwI w B' v L) (hB : B ≤ B') : OwI w B v L := by
  refine ⟨h.1, ?_⟩
  rcases h.2 with h2 | ⟨g, cap, cur, e, hb2, r⟩
  · exact .inl h2
  · exact .inr ⟨g, cap, cur, e, Nat.le_trans hB hb2, r⟩
theorem cutI_rng (z : Int) : -9223372036854775808 ≤ (cutI z).1 ∧ (cutI z).1 ≤ 9223372036854775807 := by
  unfold cutI; split
  · rename_i h; exact h
  · exact ⟨by decide, by decide⟩
theorem cutI_two (z : Int) : (cutI z = (z, 0) ∧ -9223372036854775808 ≤ z ∧ z ≤ 9223372036854775807) ∨ cutI z = (0, 11) := by
  unfold cutI
  split
  · rename_i h; exact .inl ⟨rfl, h⟩
  · exact .inr rfl
/-- What stands while the parts are joined and added. -/
structure RO (ws : World) (D J : List Int) (PR : Nat → Value → Prop) (Ld : Nat → Bool) (V : Nat → Value) (W : World) : Prop where
  bw : Below ws.heap.size ws W
  pure : ∀ i, Ld i = true → PR i (V i)
  l0 : Ld 0 = true → Ld 4 = false → OwI W ws.heap.size (V 0) []
  l4 : Ld 4 = true → Ld 8 = false → OwI W ws.heap.size (V 4) D
  l8 : Ld 8 = true → OwI W ws.heap.size (V 8) J
  d4 : Ld 4 = true → Ld 0 = true
  d8 : Ld 8 = true → Ld 4 = true
theorem pure_ext {PR : Nat → Value → Prop} {Ld : Nat → Bool} {V : Nat → Value} (h : ∀ i, Ld i = true → PR i (V i)) (i : Nat) (v : Value) (hv : PR i v) : ∀ j, (if j = i then true else Ld j) = true → PR j (if j = i then v else V j) := by
  intro j hj
  by_cases e : j = i
  · rw [if_pos e, e]; exact hv
  · rw [if_neg e] at hj ⊢
    exact h j hj
theorem RO.set {ws : World} {D T : List Int} {PR : Nat → Value → Prop} {Ld : Nat → Bool} {V : Nat → Value} {W : World} (h : RO ws D T PR Ld V W) (i : Nat) (v : Value) (h0 : i ≠ 0) (h4 : i ≠ 4) (h8 : i ≠ 8) (hp : PR i v) :
    RO ws D T PR (fun j => if j = i then true else Ld j) (fun j => if j = i then v else V j) W := by
  refine ⟨h.bw, fun j hj => ?_, fun a b => ?_, fun a b => ?_, fun a => ?_, fun a => ?_, fun a => ?_⟩
  · show PR j (if j = i then v else V j)
    by_cases e : j = i
    · rw [if_pos e, e]; exact hp
    · rw [if_neg e]
      replace hj : (if j = i then true else Ld j) = true := hj
      rw [if_neg e] at hj
      exact h.pure j hj
  all_goals
    simp only [if_neg h0.symm, if_neg h4.symm, if_neg h8.symm] at *
  · exact h.l0 a b
  · exact h.l4 a b
  · exact h.l8 a
  · exact h.d4 a
  · exact h.d8 a
/-- What each part yields. -/
def PRo (ao : Option Addr) (cap : Nat) (L : List Int) (k : Nat) (D T : List Int) (t : Int × Int) : Nat → Value → Prop := fun i v => match i with | 1 => v = .slice ao L.length cap | 2 => v = .int .i64 k | 3 => v = .slice (fromA ao cap k) D.length (cap - k) | 5 => v = .slice ao L.length cap | 6 => v = .int .i64 k | 7 => v = .slice (fromA ao cap 0) T.length cap | 9 => v = .tuple #[.int .i64 t.1, .int .i64 t.2] | 10 => v = .tuple #[.int .i64 t.1, .int .i64 t.2] | 11 => v = .int .i64 t.1 | 12 => v = .int .i64 t.2 | 13 => v = .int .i64 t.1 | 14 => v = .int .i64 t.2 | _ => True
set_option maxRecDepth 8000 in
set_option maxHeartbeats 4000000 in
theorem orders_core (w : World) (ao : Option Addr) (cap : Nat) (L : List Int) (k : Nat) (D T J : List Int) (hJe : D ++ T = J) (hsl : Sl w ao L.length cap (ic L)) (hl : L.length ≤ 100) (hk : k ≤ L.length) (hD : L.drop k = D) (hT : L.take k = T) (t u v z s : Int × Int)
    (hS : ∀ W, Below w.heap.size w W → Calls Try.prog 16 #[.slice ao L.length cap] W fun e w' => e = .returned (.tuple #[.int .i64 t.1, .int .i64 t.2]) ∧ w' = W)
    (hJ : ∀ W ao cap, Sl W ao J.length cap (ic J) → Calls Try.prog 16 #[.slice ao J.length cap] W fun e w' => e = .returned (.tuple #[.int .i64 t.1, .int .i64 t.2]) ∧ w' = W)
    (hTs : ∀ W, Below w.heap.size w W → Calls Try.prog 16 #[.slice (fromA ao cap 0) T.length cap] W fun e w' => e = .returned (.tuple #[.int .i64 u.1, .int .i64 u.2]) ∧ w' = W)
    (hDs : ∀ W, Below w.heap.size w W → Calls Try.prog 16 #[.slice (fromA ao cap k) D.length (cap - k)] W fun e w' => e = .returned (.tuple #[.int .i64 v.1, .int .i64 v.2]) ∧ w' = W)
    (hA : ∀ W, Calls Try.prog 18 #[.int .i64 u.1, .int .i64 v.1] W fun e w' => e = .returned (.tuple #[.int .i64 z.1, .int .i64 z.2]) ∧ w' = W)
    (hB : ∀ W, Calls Try.prog 19 #[.int .i64 z.1, .int .i64 v.1] W fun e w' => e = .returned (.tuple #[.int .i64 s.1, .int .i64 s.2]) ∧ w' = W)
    (hcase : (¬ u.2 = 0) ∨ (u.2 = 0 ∧ ¬ v.2 = 0) ∨ (u.2 = 0 ∧ v.2 = 0 ∧ z = t ∧ ¬ t.2 = 0) ∨ (u.2 = 0 ∧ v.2 = 0 ∧ z = t ∧ t.2 = 0 ∧ s = (u.1, 0))) :
    Calls Try.prog 10 #[.slice ao L.length cap, .int .i64 k] w fun e w' => e = .returned (.bool true) ∧ Below w.heap.size w w' := by
  have g1 : decide ((100 : Int) < L.length) = false := by simp; omega
  have g2 : decide ((k : Int) < 0) = false := by simp
  have g3 : decide ((L.length : Int) < k) = false := by simp; omega
  have HV := Lib.hid (fun W => walive_any W)
  have HS := Lib.hid hS; have HJ := Lib.hid hJ; have HT := Lib.hid hTs; have HDs := Lib.hid hDs; have HA := Lib.hid hA; have HB := Lib.hid hB
  have HJE := Lib.hid hJe; clear hJe
  have HM1 := Lib.hid hD; have HM2 := Lib.hid hT
  have hr := hsl.room
  have HSD := Lib.hid (show Sl w (fromA ao cap k) D.length (cap - k) (ic D) by rw [← hD]; exact from_sl hsl k hk)
  have HST := Lib.hid (show Sl w (fromA ao cap 0) T.length cap (ic T) by rw [← hT]; exact to_sl hsl k hk)
  have hdl : D.length ≤ 100 := by rw [← hD, List.length_drop]; omega
  have htl : T.length ≤ 100 := by rw [← hT, List.length_take]; omega
  clear hS hJ hTs hDs hA hB hD hT hsl
  go_enter Try.func10, Try.ntmps10
  go_wp2_with fail
  refine (HV.out _).mono ?_
  rintro e w1 ⟨rfl, hb1⟩
  have HB1 := Lib.hid hb1
  go_wp2_with fail
  refine (HS.out _ hb1).mono ?_
  rintro e w2 ⟨rfl, rfl⟩
  have HSD1 := Lib.hid (HSD.out.keeps hb1)
  have HST1 := Lib.hid (HST.out.keeps hb1)
  clear hb1
  go_wp2_with fail
  refine region_rel (by kernel_rfl) (by kernel_rfl) [some 38, some 39, some 40, some 41, some 42, some 43, some 44, some 45, some 46, some 47, some 37, some 48, some 49, some 7, some 8] (by kernel_rfl) (RO w2 D J (PRo ao cap L k D T t)) ⟨(Below.refl _ _).drew, nofun, nofun, nofun, nofun, nofun, nofun⟩ ?_ ?_
  · intro i o Ld V AC WW ho hL hf hR K hK
    have hlt : i < 15 := (Array.getElem?_eq_some_iff.1 ho).1
    have hz := hR.bw.size
    rcases i with _ | _ | _ | _ | _ | _ | _ | _ | _ | _ | _ | _ | _ | _ | _ | i
    · obtain rfl := Option.some.inj (show some _ = some o from ho)
      rw [if_pos (by rfl)]
      have n4 : Ld 4 = false := by
        cases h : Ld 4 with
        | false => rfl
        | true => rw [hR.d4 h] at hL; cases hL
      have n8 : Ld 8 = false := by
        cases h : Ld 8 with
        | false => rfl
        | true => rw [hR.d8 h] at n4; cases n4
      go_simp
      refine hK _ _ ⟨hR.bw.alloc hz _, pure_ext hR.pure 0 _ trivial, fun a b => own_down' (own_i0 WW) hz, fun a b => ?_, fun a => ?_, fun a => rfl, fun a => ?_⟩
      · replace a : Ld 4 = true := a
        rw [n4] at a; cases a
      · replace a : Ld 8 = true := a
        rw [n8] at a; cases a
      · replace a : Ld 8 = true := a
        rw [n8] at a; cases a
    · obtain rfl := Option.some.inj (show some _ = some o from ho)
      rw [if_pos (by rfl)]
      have q0 : AC.tmps.getD 0 undef = .slice ao L.length cap := hf.rest 0 (by kernel_rfl)
      go_simp
      exact hK _ _ (hR.set 1 _ (by decide) (by decide) (by decide) rfl)
    · obtain rfl := Option.some.inj (show some _ = some o from ho)
      rw [if_pos (by rfl)]
      have q1 : AC.tmps.getD 1 undef = .int .i64 k := hf.rest 1 (by kernel_rfl)
      go_simp
      exact hK _ _ (hR.set 2 _ (by decide) (by decide) (by decide) rfl)
    · obtain rfl := Option.some.inj (show some _ = some o from ho)
      rw [if_pos (by rfl)]
      have q39 : AC.tmps.getD 39 undef = V 1 := hf.dep ⟨1, .data⟩ (by simp) rfl 39 rfl
      have p39 := hR.pure 1 (hf.up ⟨1, .data⟩ (by simp) rfl)
      rw [show V 1 = _ from p39] at q39
      have q40 : AC.tmps.getD 40 undef = V 2 := hf.dep ⟨2, .data⟩ (by simp) rfl 40 rfl
      have p40 := hR.pure 2 (hf.up ⟨2, .data⟩ (by simp) rfl)
      rw [show V 2 = _ from p40] at q40
      exact cut_from_opM _ _ rfl ao cap L D k HM1.out hr q39 hk q40 (hK _ _ (hR.set 3 _ (by decide) (by decide) (by decide) rfl))
    · obtain rfl := Option.some.inj (show some _ = some o from ho)
      rw [if_pos (by rfl)]
      have q41 : AC.tmps.getD 41 undef = V 3 := hf.dep ⟨3, .data⟩ (by simp) rfl 41 rfl
      have p41 := hR.pure 3 (hf.up ⟨3, .data⟩ (by simp) rfl)
      rw [show V 3 = _ from p41] at q41
      have u0 := hf.up ⟨0, .data⟩ (by simp) rfl
      have n4 : Ld 4 = false := hL
      have n8 : Ld 8 = false := by
        cases h : Ld 8 with
        | false => rfl
        | true => rw [hR.d8 h] at n4; cases n4
      have q38 : AC.tmps.getD 38 undef = V 0 := hf.dep ⟨0, .data⟩ (by simp) rfl 38 rfl
      have hown := hR.l0 u0 n4
      refine ap_i_op _ _ rfl rfl w2.heap.size (V 0) q38 [] hown (fromA ao cap k) (cap - k) D q41 (HSD1.out.keeps hR.bw) (by simp; omega) hz fun v' w' h1 h2 => hK _ _ ⟨hR.bw.grown h2 hz (fun g hg => (World.ownsRow.lt hown g hg).1), pure_ext hR.pure 4 _ trivial, fun a b => ?_, fun a b => ?_, fun a => ?_, fun a => ?_, fun a => rfl⟩
      · cases b
      · exact h1
      · replace a : Ld 8 = true := a
        rw [n8] at a; cases a
      · exact u0
    · obtain rfl := Option.some.inj (show some _ = some o from ho)
      rw [if_pos (by rfl)]
      have q0 : AC.tmps.getD 0 undef = .slice ao L.length cap := hf.rest 0 (by kernel_rfl)
      go_simp
      exact hK _ _ (hR.set 5 _ (by decide) (by decide) (by decide) rfl)
    · obtain rfl := Option.some.inj (show some _ = some o from ho)
      rw [if_pos (by rfl)]
      have q1 : AC.tmps.getD 1 undef = .int .i64 k := hf.rest 1 (by kernel_rfl)
      go_simp
      exact hK _ _ (hR.set 6 _ (by decide) (by decide) (by decide) rfl)
    · obtain rfl := Option.some.inj (show some _ = some o from ho)
      rw [if_pos (by rfl)]
      have q43 : AC.tmps.getD 43 undef = V 5 := hf.dep ⟨5, .data⟩ (by simp) rfl 43 rfl
      have p43 := hR.pure 5 (hf.up ⟨5, .data⟩ (by simp) rfl)
      rw [show V 5 = _ from p43] at q43
      have q44 : AC.tmps.getD 44 undef = V 6 := hf.dep ⟨6, .data⟩ (by simp) rfl 44 rfl
      have p44 := hR.pure 6 (hf.up ⟨6, .data⟩ (by simp) rfl)
      rw [show V 6 = _ from p44] at q44
      exact cut_to_opM _ _ rfl ao cap L T k HM2.out hr q43 hk q44 (hK _ _ (hR.set 7 _ (by decide) (by decide) (by decide) rfl))
    · obtain rfl := Option.some.inj (show some _ = some o from ho)
      rw [if_pos (by rfl)]
      have q45 : AC.tmps.getD 45 undef = V 7 := hf.dep ⟨7, .data⟩ (by simp) rfl 45 rfl
      have p45 := hR.pure 7 (hf.up ⟨7, .data⟩ (by simp) rfl)
      rw [show V 7 = _ from p45] at q45
      have u4 := hf.up ⟨4, .data⟩ (by simp) rfl
      have n8 : Ld 8 = false := hL
      have q42 : AC.tmps.getD 42 undef = V 4 := hf.dep ⟨4, .data⟩ (by simp) rfl 42 rfl
      have hown := hR.l4 u4 n8
      refine ap_i_op _ _ rfl rfl w2.heap.size (V 4) q42 D hown (fromA ao cap 0) cap T q45 (HST1.out.keeps hR.bw) (by omega) hz fun v' w' h1 h2 => hK _ _ ⟨hR.bw.grown h2 hz (fun g hg => (World.ownsRow.lt hown g hg).1), pure_ext hR.pure 8 _ trivial, fun a b => ?_, fun a b => ?_, fun a => ?_, fun a => ?_, fun a => ?_⟩
      · replace b : Ld 4 = false := b
        rw [u4] at b; cases b
      · cases b
      · rw [HJE.out] at h1; exact h1
      · exact hR.d4 u4
      · exact u4
    · obtain rfl := Option.some.inj (show some _ = some o from ho)
      rw [if_pos (by rfl)]
      have u8 := hf.up ⟨8, .data⟩ (by simp) rfl
      have q46 : AC.tmps.getD 46 undef = V 8 := hf.dep ⟨8, .data⟩ (by simp) rfl 46 rfl
      obtain ⟨ao5, cap5, e5, hs5⟩ := (hR.l8 u8).sl
      rw [e5] at q46
      go_simp
      refine (HJ.out WW ao5 cap5 hs5).mono ?_
      rintro e w6 ⟨rfl, rfl⟩
      exact hK _ _ (hR.set 9 _ (by decide) (by decide) (by decide) rfl)
    · obtain rfl := Option.some.inj (show some _ = some o from ho)
      rw [if_pos (by rfl)]
      have q47 : AC.tmps.getD 47 undef = V 9 := hf.dep ⟨9, .data⟩ (by simp) rfl 47 rfl
      have p47 := hR.pure 9 (hf.up ⟨9, .data⟩ (by simp) rfl)
      rw [show V 9 = _ from p47] at q47
      go_simp
      exact hK _ _ (hR.set 10 _ (by decide) (by decide) (by decide) rfl)
    · obtain rfl := Option.some.inj (show some _ = some o from ho)
      rw [if_pos (by rfl)]
      have q37 : AC.tmps.getD 37 undef = V 10 := hf.dep ⟨10, .data⟩ (by simp) rfl 37 rfl
      have p37 := hR.pure 10 (hf.up ⟨10, .data⟩ (by simp) rfl)
      rw [show V 10 = _ from p37] at q37
      go_simp
      exact hK _ _ (hR.set 11 _ (by decide) (by decide) (by decide) rfl)
    · obtain rfl := Option.some.inj (show some _ = some o from ho)
      rw [if_pos (by rfl)]
      have q37 : AC.tmps.getD 37 undef = V 10 := hf.dep ⟨10, .data⟩ (by simp) rfl 37 rfl
      have p37 := hR.pure 10 (hf.up ⟨10, .data⟩ (by simp) rfl)
      rw [show V 10 = _ from p37] at q37
      go_simp
      exact hK _ _ (hR.set 12 _ (by decide) (by decide) (by decide) rfl)
    · obtain rfl := Option.some.inj (show some _ = some o from ho)
      rw [if_pos (by rfl)]
      have q48 : AC.tmps.getD 48 undef = V 11 := hf.dep ⟨11, .data⟩ (by simp) rfl 48 rfl
      have p48 := hR.pure 11 (hf.up ⟨11, .data⟩ (by simp) rfl)
      rw [show V 11 = _ from p48] at q48
      go_simp
      exact hK _ _ (hR.set 13 _ (by decide) (by decide) (by decide) rfl)
    · obtain rfl := Option.some.inj (show some _ = some o from ho)
      rw [if_pos (by rfl)]
      have q49 : AC.tmps.getD 49 undef = V 12 := hf.dep ⟨12, .data⟩ (by simp) rfl 49 rfl
      have p49 := hR.pure 12 (hf.up ⟨12, .data⟩ (by simp) rfl)
      rw [show V 12 = _ from p49] at q49
      go_simp
      exact hK _ _ (hR.set 14 _ (by decide) (by decide) (by decide) rfl)
    · omega
  · intro Ld V WW hall hR
    have vv1 : V 1 = .slice ao L.length cap := hR.pure 1 (hall 1 (by decide))
    have vv2 : V 2 = .int .i64 k := hR.pure 2 (hall 2 (by decide))
    have vv3 : V 3 = .slice (fromA ao cap k) D.length (cap - k) := hR.pure 3 (hall 3 (by decide))
    have vv5 : V 5 = .slice ao L.length cap := hR.pure 5 (hall 5 (by decide))
    have vv6 : V 6 = .int .i64 k := hR.pure 6 (hall 6 (by decide))
    have vv7 : V 7 = .slice (fromA ao cap 0) T.length cap := hR.pure 7 (hall 7 (by decide))
    have vv9 : V 9 = .tuple #[.int .i64 t.1, .int .i64 t.2] := hR.pure 9 (hall 9 (by decide))
    have vv10 : V 10 = .tuple #[.int .i64 t.1, .int .i64 t.2] := hR.pure 10 (hall 10 (by decide))
    have vv11 : V 11 = .int .i64 t.1 := hR.pure 11 (hall 11 (by decide))
    have vv12 : V 12 = .int .i64 t.2 := hR.pure 12 (hall 12 (by decide))
    have vv13 : V 13 = .int .i64 t.1 := hR.pure 13 (hall 13 (by decide))
    have vv14 : V 14 = .int .i64 t.2 := hR.pure 14 (hall 14 (by decide))
    have HBW := Lib.hid (below_on HB1.out HB1.out.size hR.bw)
    clear hR hall
    simp only [pairsOf, laid, Nat.zero_add, Nat.reduceAdd, vv1, vv2, vv3, vv5, vv6, vv7, vv9, vv10, vv11, vv12, vv13, vv14, List.setIfInBounds_toArray, List.set_cons_zero, List.set_cons_succ]
    clear vv1 vv2 vv3 vv5 vv6 vv7 vv9 vv10 vv11 vv12 vv13 vv14
    rename_i KK HKK
    show KK _ _
    refine HKK _ _ ?_
    clear HKK
    go_wp2_with (refine cut_toM rfl (.tmp 59) (.tmp 60) rfl ao cap L T k HM2.out hr rfl hk rfl ?_)
    refine (HT.out _ HBW.out).mono ?_
    rintro e v1 ⟨rfl, rfl⟩
    go_wp2_with (refine cut_fromM rfl (.tmp 66) (.tmp 67) rfl ao cap L D k HM1.out hr rfl hk rfl ?_)
    refine (HDs.out _ HBW.out).mono ?_
    rintro e v2 ⟨rfl, rfl⟩
    rcases hcase with h1 | ⟨h1, h2⟩ | ⟨h1, h2, rfl, h4⟩ | ⟨h1, h2, rfl, h4, rfl⟩
    · go_wp2
      go_ret
      exact ⟨rfl, HBW.out⟩
    · go_wp2
      go_ret
      exact ⟨rfl, HBW.out⟩
    all_goals
      go_wp2_with fail
      refine (HA.out _).mono ?_
      rintro e v3 ⟨rfl, rfl⟩
      go_wp2_with fail
      refine (HB.out _).mono ?_
      rintro e v4 ⟨rfl, rfl⟩
      go_wp2
      go_ret
      exact ⟨rfl, HBW.out⟩
theorem orders_law (ao : Option Addr) (cap : Nat) (L : List Int) (wL : ∀ x ∈ L, (Lit.int .i64 x).wf = true) (n : Int) (w : World) (h : Sl w ao L.length cap (ic L)) :
    Calls Try.prog 10 #[.slice ao L.length cap, .int .i64 n] w fun e w' => e = .returned (.bool true) ∧ Below w.heap.size w w' := by
  by_cases hg : L.length ≤ 100 ∧ 0 ≤ n ∧ n ≤ L.length
  · obtain ⟨hl, n0, n1⟩ := hg
    obtain ⟨k, rfl⟩ := Int.eq_ofNat_of_zero_le n0
    have hk : k ≤ L.length := by omega
    have hin : ∀ x ∈ L, -9223372036854775808 ≤ x ∧ x ≤ 9223372036854775807 := fun x hx => i64_wf (wL x hx)
    have hdi : ∀ x ∈ L.drop k, -9223372036854775808 ≤ x ∧ x ≤ 9223372036854775807 := fun x hx => hin x (List.mem_of_mem_drop hx)
    have hti : ∀ x ∈ L.take k, -9223372036854775808 ≤ x ∧ x ≤ 9223372036854775807 := fun x hx => hin x (List.mem_of_mem_take hx)
    have hsum : sumI L = sumI (L.take k) + sumI (L.drop k) := by rw [← sumI_app, List.take_append_drop]
    have hj : sumI (L.drop k ++ L.take k) = sumI L := by rw [sumI_app, hsum]; omega
    have ld : (L.drop k).length ≤ 100 := by rw [List.length_drop]; omega
    have lt : (L.take k).length ≤ 100 := by rw [List.length_take]; omega
    refine orders_core w ao cap L k _ _ _ rfl h hl hk rfl rfl (cutI (sumI L)) (cutI (sumI (L.take k))) (cutI (sumI (L.drop k))) (cutI ((cutI (sumI (L.take k))).1 + (cutI (sumI (L.drop k))).1)) (cutI ((cutI ((cutI (sumI (L.take k))).1 + (cutI (sumI (L.drop k))).1)).1 - (cutI (sumI (L.drop k))).1)) (fun W hb => sum_any W ao cap L (h.keeps hb) (by omega) hin) (fun W ao cap hs => ?_) (fun W hb => sum_any W _ _ _ (to_sl (h.keeps hb) k hk) (by omega) hti) (fun W hb => sum_any W _ _ _ (from_sl (h.keeps hb) k hk) (by omega) hdi) (fun W => ?_) (fun W => ?_) ?_
    · have := sum_any W ao cap (L.drop k ++ L.take k) hs (by rw [List.length_append]; omega) (fun x hx => (List.mem_append.1 hx).elim (hdi x) (hti x))
      rw [hj] at this; exact this
    · obtain ⟨a0, a1⟩ := cutI_rng (sumI (L.take k))
      obtain ⟨b0, b1⟩ := cutI_rng (sumI (L.drop k))
      exact add_any _ _ a0 a1 b0 b1 W
    · obtain ⟨a0, a1⟩ := cutI_rng ((cutI (sumI (L.take k))).1 + (cutI (sumI (L.drop k))).1)
      obtain ⟨b0, b1⟩ := cutI_rng (sumI (L.drop k))
      exact sub_any _ _ a0 a1 b0 b1 W
    · rw [hsum]
      rcases cutI_two (sumI (L.take k)) with ⟨e1, x0, x1⟩ | e1
      · rcases cutI_two (sumI (L.drop k)) with ⟨e2, y0, y1⟩ | e2
        · rw [e1, e2]
          rcases cutI_two (sumI (L.take k) + sumI (L.drop k)) with ⟨e3, z0, z1⟩ | e3
          · refine .inr (.inr (.inr ⟨rfl, rfl, rfl, by rw [e3], ?_⟩))
            show cutI ((cutI (sumI (L.take k) + sumI (L.drop k))).1 - sumI (L.drop k)) = (sumI (L.take k), 0)
            rw [e3]
            show cutI (sumI (L.take k) + sumI (L.drop k) - sumI (L.drop k)) = _
            rw [show sumI (L.take k) + sumI (L.drop k) - sumI (L.drop k) = sumI (L.take k) from by omega, e1]
          · exact .inr (.inr (.inl ⟨rfl, rfl, rfl, by rw [e3]; decide⟩))
        · exact .inr (.inl ⟨by rw [e1], by rw [e2]; decide⟩)
      · exact .inl (by rw [e1]; decide)
  · have HV := Lib.hid (fun W => walive_any W)
    have hlen := h.room
    have hg2 : 100 < L.length ∨ (L.length ≤ 100 ∧ n < 0) ∨ (L.length ≤ 100 ∧ 0 ≤ n ∧ (L.length : Int) < n) := by omega
    clear hg h wL
    rcases hg2 with g1 | ⟨g1, g2⟩ | ⟨g1, g2, g3⟩
    all_goals
      go_enter Try.func10, Try.ntmps10
      go_wp2_with fail
      refine (HV.out _).mono ?_
      rintro e w1 ⟨rfl, hb1⟩
      go_wp2
      go_ret
      exact ⟨rfl, hb1⟩
end Go.Proofs.Ytfjgafkhhjipbaa
