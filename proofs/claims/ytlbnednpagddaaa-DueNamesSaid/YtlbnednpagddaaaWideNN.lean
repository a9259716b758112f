/-
  The walks of wide.Floor at numbers that aren't below nought and a product of 64 bits.
-/
import Derived.Test.YtlbnednpagddaaaDivide
import Derived.Test.YtlbnednpagddaaaMono
import Derived.Test.YtlbnednpagddaaaDue
import Derived.Shelf.Bits.Mul64
set_option linter.unusedVariables false
set_option linter.unusedSimpArgs false
namespace Go.Proofs.Ytlbnednpagddaaa
open Go.RowKit Dg Go.Shelf

def renM : Go.Shelf.Ren := { f := fun k => if k = 264 then 47 else 0, t := fun k => if k = 46 then 91 else 55, g := fun k => k }
theorem layM : Lays.n264 Try.prog renM where
  mixed := by kernel_rfl
  f264 := by kernel_rfl
  t46 := by kernel_rfl
  a46 := fun w => by rfl
  z46 := fun w => by rfl
  v46 := fun w => by rfl
  t53 := by kernel_rfl
  a53 := fun w => by rfl
  z53 := fun w => by rfl
  v53 := fun w => by rfl
theorem mul64_any (x y : Nat) (hx : x < 18446744073709551616) (hy : y < 18446744073709551616) (w : World) :
    Calls Try.prog 47 #[.int .u64 x, .int .u64 y] w fun e w' => e = .returned (.tuple #[.int .u64 ((x * y / 18446744073709551616 : Nat) : Int), .int .u64 ((x * y % 18446744073709551616 : Nat) : Int)]) ∧ w' = w :=
  Any.bits_Mul64 layM x y hx hy w
theorem size_nn (a : Nat) (ha : a ≤ 9223372036854775807) (w : World) : Calls Try.prog 48 #[.int .i64 a] w fun e w' => e = .returned (.int .u64 a) ∧ w' = w := by
  go_enter Try.func48, Try.ntmps48
  go_wp2
  go_ret
  exact ⟨rfl, rfl⟩
set_option maxRecDepth 8000 in
theorem product_nn (a b : Nat) (ha : a ≤ 9223372036854775807) (hb : b ≤ 9223372036854775807) (hab : a * b < 18446744073709551616) (w : World) :
    Calls Try.prog 42 #[.int .i64 a, .int .i64 b] w fun e w' => e = .returned (.agg #[.bool false, .int .u64 0, .int .u64 ((a * b : Nat) : Int)]) ∧ Below w.heap.size w w' := by
  have H1 := Lib.hid (fun W => size_nn a ha W)
  have H2 := Lib.hid (fun W => size_nn b hb W)
  have hm := fun W => mul64_any a b (by omega) (by omega) W
  rw [Nat.div_eq_of_lt hab, Nat.mod_eq_of_lt hab] at hm
  have HM := Lib.hid hm
  obtain ⟨n, hn⟩ : ∃ n, a * b = n := ⟨_, rfl⟩
  rw [hn] at HM hab ⊢
  clear hm hn
  have hZ := Blk.new w 78 [.bool false, .int .u64 0, .int .u64 0]
  have Zf := hZ.frozen; have Zn := hZ.lt
  have Z0 := hZ.cell 0 _ rfl; have Z1 := hZ.cell 1 _ rfl; have Z2 := hZ.cell 2 _ rfl
  have HZ := Lib.hid hZ
  clear hZ
  go_enter Try.func42, Try.ntmps42
  go_wp2_with fail
  refine (H1.out _).mono ?_
  rintro e w1 ⟨rfl, rfl⟩
  go_wp2_with fail
  refine (H2.out _).mono ?_
  rintro e w1 ⟨rfl, rfl⟩
  go_wp2_with fail
  refine (HM.out _).mono ?_
  rintro e w1 ⟨rfl, rfl⟩
  go_wp2
  have hY := Blk.new w 78 [.bool false, .int .u64 0, .int .u64 n]
  have Y0 := hY.cell 0 _ rfl; have Y1 := hY.cell 1 _ rfl; have Y2 := hY.cell 2 _ rfl
  exact bodyPost_ret (v := .agg #[.bool false, .int .u64 0, .int .u64 n]) (by simp [results, Try.results42, go_sem, Y0, Y1, Y2]) rfl ⟨rfl, below_new1 w _⟩
theorem div64_0 (n c : Nat) (hn : n < 18446744073709551616) (hc : c < 18446744073709551616) (hc0 : 0 < c) (w : World) :
    Calls Try.prog 46 #[.int .u64 0, .int .u64 n, .int .u64 c] w fun e w' => e = .returned (.tuple #[.int .u64 ((n / c : Nat) : Int), .int .u64 ((n % c : Nat) : Int)]) ∧ Below w.heap.size w w' := by
  go_enter Try.func46, Try.ntmps46
  go_wp2
  have hne : ¬ (c : Int) = 0 := by omega
  go_region
  all_goals (try go_wp2)
  all_goals
    have e1 : IntKind.u64.wrap ((n : Int) / (c : Int)) = ((n / c : Nat) : Int) := by
      have : n / c ≤ n := Nat.div_le_self _ _
      rw [← Int.natCast_ediv]
      generalize n / c = q at this
      rw [IntKind.wrap_u64]
      omega
    refine bodyPost_ret (v := .tuple #[.int .u64 ((n / c : Nat) : Int), .int .u64 ((n % c : Nat) : Int)]) (by simp [results, Try.results46, go_sem, e1]) rfl ⟨rfl, (Below.refl _ _).drew⟩
theorem up_nn (a b : Int) (w : World) :
    Calls Try.prog 43 #[.agg #[.bool false, .int .u64 a, .int .u64 b], .bool false] w fun e w' => e = .returned (.agg #[.bool false, .int .u64 a, .int .u64 b]) ∧ Below w.heap.size w w' := by
  have hD := (Blk.new w 78 [.bool false, .int .u64 a, .int .u64 b]).alloc (.cells #[.bool false, .int .u64 0, .int .u64 0] 78)
  have D0 := hD.cell 0 _ rfl; have D1 := hD.cell 1 _ rfl; have D2 := hD.cell 2 _ rfl
  go_enter Try.func43, Try.ntmps43
  go_wp2
  have hY := Blk.new2 w (.cells #[.bool false, .int .u64 a, .int .u64 b] 78) 78 [.bool false, .int .u64 a, .int .u64 b]
  have Y0 := hY.cell 0 _ rfl; have Y1 := hY.cell 1 _ rfl; have Y2 := hY.cell 2 _ rfl
  exact bodyPost_ret (v := .agg #[.bool false, .int .u64 a, .int .u64 b]) (by simp [results, Try.results43, go_sem, Y0, Y1, Y2]) rfl ⟨rfl, below_new2 w _ _⟩
theorem number_nn (n : Nat) (hn : n ≤ 9223372036854775807) (w : World) :
    Calls Try.prog 44 #[.bool false, .int .u64 0, .int .u64 n] w fun e w' => e = .returned (.tuple #[.int .i64 n, .int .i64 0]) ∧ w' = w := by
  go_enter Try.func44, Try.ntmps44
  go_wp2
  go_ret2
  exact ⟨rfl, rfl⟩
/-- Nothing below B turns; one block stays, one has three places, the third keeps what is laid in its third place. -/
structure Keep3 (T B b2 : Nat) (C2 : List Value) (b4 b6 : Nat) (q : Value) (W W' : World) : Prop where
  below : Below B W W'
  keep : Blk W b2 T C2 → Blk W' b2 T C2
  out : (∃ x y z, Blk W b4 T [x, y, z]) → ∃ x y z, Blk W' b4 T [x, y, z]
  three : (∃ z, Blk W b6 T [.bool false, .int .u64 0, z]) → ∃ z, Blk W' b6 T [.bool false, .int .u64 0, z]
  laid : Blk W b6 T [.bool false, .int .u64 0, q] → Blk W' b6 T [.bool false, .int .u64 0, q]
section
variable {T B b2 : Nat} {C2 : List Value} {b4 b6 : Nat} {q : Value}
theorem Keep3.refl (W : World) : Keep3 T B b2 C2 b4 b6 q W W := ⟨Below.refl _ _, id, id, id, id⟩
theorem Keep3.drew (W : World) : Keep3 T B b2 C2 b4 b6 q W W.drew := ⟨(Below.refl _ _).drew, fun h => h.drew, fun ⟨x, y, z, h⟩ => ⟨x, y, z, h.drew⟩, fun ⟨z, h⟩ => ⟨z, h.drew⟩, fun h => h.drew⟩
theorem Keep3.trans (a b c : World) (h : Keep3 T B b2 C2 b4 b6 q a b) (k : Keep3 T B b2 C2 b4 b6 q b c) : Keep3 T B b2 C2 b4 b6 q a c :=
  ⟨h.below.trans k.below, fun x => k.keep (h.keep x), fun x => k.out (h.out x), fun x => k.three (h.three x), fun x => k.laid (h.laid x)⟩
theorem Keep3.call {W W' : World} (h : Below W.heap.size W W') (hB : B ≤ W.heap.size) : Keep3 T B b2 C2 b4 b6 q W W' :=
  ⟨h.mono hB, fun x => x.keeps h, fun ⟨x, y, z, k⟩ => ⟨x, y, z, k.keeps h⟩, fun ⟨z, x⟩ => ⟨z, x.keeps h⟩, fun x => x.keeps h⟩
theorem Keep3.store {W : World} (hB : B ≤ b6) (hne : b2 ≠ b6) (hne4 : b4 ≠ b6) (h : ∃ z, Blk W b6 T [.bool false, .int .u64 0, z]) :
    Keep3 T B b2 C2 b4 b6 q W (W.setCell ⟨b6, 2, none⟩ q) ∧ Blk (W.setCell ⟨b6, 2, none⟩ q) b6 T [.bool false, .int .u64 0, q] := by
  obtain ⟨z, hb⟩ := h
  have h2 : Blk (W.setCell ⟨b6, 2, none⟩ q) b6 T [.bool false, .int .u64 0, q] := hb.set 2 q
  exact ⟨⟨(Below.refl _ _).setCell (p := ⟨b6, 2, none⟩) hB q, fun h => h.other _ _ hne, fun ⟨x, y, z, k⟩ => ⟨x, y, z, k.other _ _ hne4⟩, fun _ => ⟨_, h2⟩, fun _ => h2⟩, h2⟩
end
set_option maxRecDepth 8000 in
set_option maxHeartbeats 1600000 in
theorem divide_nn (n c : Nat) (hn : n < 18446744073709551616) (hc : c < 18446744073709551616) (hc0 : 0 < c) (w : World) :
    Calls Try.prog 41 #[.agg #[.bool false, .int .u64 0, .int .u64 n], .int .u64 c] w fun e w' => e = .returned (.tuple #[.agg #[.bool false, .int .u64 0, .int .u64 ((n / c : Nat) : Int)], .int .u64 ((n % c : Nat) : Int)]) ∧ Below w.heap.size w w' := by
  have HD := Lib.hid (fun W => div64_0 n c hn hc hc0 W)
  obtain ⟨q1, hq1⟩ : ∃ q1, n / c = q1 := ⟨_, rfl⟩
  obtain ⟨r1, hr1⟩ : ∃ r1, n % c = r1 := ⟨_, rfl⟩
  rw [hq1, hr1] at HD ⊢
  clear hq1 hr1
  have hcn : ¬ c = 0 := by omega
  have hA := ((Blk.new w 78 [.bool false, .int .u64 0, .int .u64 n]).alloc (.cells #[.bool false, .int .u64 0, .int .u64 0] 78)).alloc (.cells #[.bool false, .int .u64 0, .int .u64 0] 78)
  have hA' := ((Blk.new w 78 [.bool false, .int .u64 0, .int .u64 n]).alloc (.cells #[.bool false, .int .u64 0, .int .u64 0] 78))
  have A0 := hA.cell 0 _ rfl; have A1 := hA.cell 1 _ rfl; have A2 := hA.cell 2 _ rfl
  have A0' := hA'.cell 0 _ rfl; have A1' := hA'.cell 1 _ rfl; have A2' := hA'.cell 2 _ rfl
  have hC := Blk.new3 w (.cells #[.bool false, .int .u64 0, .int .u64 n] 78) (.cells #[.bool false, .int .u64 0, .int .u64 0] 78) 78 [.bool false, .int .u64 0, .int .u64 0]
  have hA4 := (Blk.new2 w (.cells #[.bool false, .int .u64 0, .int .u64 n] 78) 78 [.bool false, .int .u64 0, .int .u64 0]).alloc (.cells #[.bool false, .int .u64 0, .int .u64 0] 78)
  have C0 := hC.cell 0 _ rfl; have C1 := hC.cell 1 _ rfl; have C2 := hC.cell 2 _ rfl; have Cf := hC.frozen; have Cn := hC.lt
  have hcne : ¬ (c : Int) = 0 := by omega
  go_enter Try.func41, Try.ntmps41
  go_wp2
  refine region_ext (by kernel_rfl) (by kernel_rfl) [some 17, some 18, some 19, some 20, some 21, some 22, some 23, some 24, some 16, some 25, some 26, some 27, none, some 7] (by kernel_rfl) (Keep3 78 w.heap.size w.heap.size [.bool false, .int .u64 0, .int .u64 n] (w.heap.size + 1) (w.heap.size + 2) (.int .u64 q1)) Keep3.trans (Keep3.drew _) (fun i v WW => match i with | 0 => v = .pointer (some ⟨w.heap.size, 1, none⟩) | 1 => v = .int .u64 0 | 2 => v = .int .u64 c | 3 => v = .int .u64 0 | 4 => v = .pointer (some ⟨w.heap.size, 2, none⟩) | 5 => v = .int .u64 n | 6 => v = .int .u64 c | 7 => v = .tuple #[.int .u64 q1, .int .u64 r1] | 8 => v = .tuple #[.int .u64 q1, .int .u64 r1] | 9 => v = .int .u64 q1 | 10 => v = .int .u64 r1 | 11 => v = .pointer (some ⟨w.heap.size + 2, 2, none⟩) | 12 => Blk WW (w.heap.size + 2) 78 [.bool false, .int .u64 0, (.int .u64 q1)] | 13 => v = .int .u64 r1 | _ => True) ?_ ?_ ?_
  · intro i v WW WX h hbx
    rcases i with _ | _ | _ | _ | _ | _ | _ | _ | _ | _ | _ | _ | _ | _ | i
    · exact h
    · exact h
    · exact h
    · exact h
    · exact h
    · exact h
    · exact h
    · exact h
    · exact h
    · exact h
    · exact h
    · exact h
    · exact hbx.laid h
    · exact h
    · trivial
  · intro iI oO V AC WW ho hf hbw K hK
    have hlt : iI < 14 := (Array.getElem?_eq_some_iff.1 ho).1
    rcases iI with _ | _ | _ | _ | _ | _ | _ | _ | _ | _ | _ | _ | _ | _ | iI
    · obtain rfl := Option.some.inj (show some _ = some oO from ho)
      rw [if_pos (by rfl)]
      have q2 : AC.tmps.getD 2 undef = .pointer (some ⟨w.heap.size, 0, none⟩) := hf.rest 2 (by kernel_rfl)
      go_simp
      exact hK _ _ (Keep3.refl _) rfl
    · obtain rfl := Option.some.inj (show some _ = some oO from ho)
      rw [if_pos (by rfl)]
      have q17 : AC.tmps.getD 17 undef = .pointer (some ⟨w.heap.size, 1, none⟩) := ((hf.dep ⟨0, .data⟩ (by simp) rfl).2 17 rfl).trans (hf.dep ⟨0, .data⟩ (by simp) rfl).1
      have hk := hbw.keep hA
      have z1 := hk.cell 1 _ rfl
      have z2 := hk.cell 2 _ rfl
      go_simp
      exact hK _ _ (Keep3.refl _) rfl
    · obtain rfl := Option.some.inj (show some _ = some oO from ho)
      rw [if_pos (by rfl)]
      have q1 : AC.tmps.getD 1 undef = .int .u64 c := hf.rest 1 (by kernel_rfl)
      go_simp
      exact hK _ _ (Keep3.refl _) rfl
    · obtain rfl := Option.some.inj (show some _ = some oO from ho)
      rw [if_pos (by rfl)]
      have q18 : AC.tmps.getD 18 undef = .int .u64 0 := ((hf.dep ⟨1, .data⟩ (by simp) rfl).2 18 rfl).trans (hf.dep ⟨1, .data⟩ (by simp) rfl).1
      have q19 : AC.tmps.getD 19 undef = .int .u64 c := ((hf.dep ⟨2, .data⟩ (by simp) rfl).2 19 rfl).trans (hf.dep ⟨2, .data⟩ (by simp) rfl).1
      go_simp
      exact hK _ _ (Keep3.refl _) rfl
    · obtain rfl := Option.some.inj (show some _ = some oO from ho)
      rw [if_pos (by rfl)]
      have q2 : AC.tmps.getD 2 undef = .pointer (some ⟨w.heap.size, 0, none⟩) := hf.rest 2 (by kernel_rfl)
      go_simp
      exact hK _ _ (Keep3.refl _) rfl
    · obtain rfl := Option.some.inj (show some _ = some oO from ho)
      rw [if_pos (by rfl)]
      have q21 : AC.tmps.getD 21 undef = .pointer (some ⟨w.heap.size, 2, none⟩) := ((hf.dep ⟨4, .data⟩ (by simp) rfl).2 21 rfl).trans (hf.dep ⟨4, .data⟩ (by simp) rfl).1
      have hk := hbw.keep hA
      have z1 := hk.cell 1 _ rfl
      have z2 := hk.cell 2 _ rfl
      go_simp
      exact hK _ _ (Keep3.refl _) rfl
    · obtain rfl := Option.some.inj (show some _ = some oO from ho)
      rw [if_pos (by rfl)]
      have q1 : AC.tmps.getD 1 undef = .int .u64 c := hf.rest 1 (by kernel_rfl)
      go_simp
      exact hK _ _ (Keep3.refl _) rfl
    · obtain rfl := Option.some.inj (show some _ = some oO from ho)
      rw [if_pos (by rfl)]
      have q20 : AC.tmps.getD 20 undef = .int .u64 0 := ((hf.dep ⟨3, .data⟩ (by simp) rfl).2 20 rfl).trans (hf.dep ⟨3, .data⟩ (by simp) rfl).1
      have q22 : AC.tmps.getD 22 undef = .int .u64 n := ((hf.dep ⟨5, .data⟩ (by simp) rfl).2 22 rfl).trans (hf.dep ⟨5, .data⟩ (by simp) rfl).1
      have q23 : AC.tmps.getD 23 undef = .int .u64 c := ((hf.dep ⟨6, .data⟩ (by simp) rfl).2 23 rfl).trans (hf.dep ⟨6, .data⟩ (by simp) rfl).1
      go_simp
      refine (HD.out WW).mono ?_
      rintro e w6 ⟨rfl, hb6⟩
      exact hK _ _ (Keep3.call hb6 (Nat.le_trans (by simp; omega) hbw.below.size)) rfl
    · obtain rfl := Option.some.inj (show some _ = some oO from ho)
      rw [if_pos (by rfl)]
      have q24 : AC.tmps.getD 24 undef = .tuple #[.int .u64 q1, .int .u64 r1] := ((hf.dep ⟨7, .data⟩ (by simp) rfl).2 24 rfl).trans (hf.dep ⟨7, .data⟩ (by simp) rfl).1
      go_simp
      exact hK _ _ (Keep3.refl _) rfl
    · obtain rfl := Option.some.inj (show some _ = some oO from ho)
      rw [if_pos (by rfl)]
      have q16 : AC.tmps.getD 16 undef = .tuple #[.int .u64 q1, .int .u64 r1] := ((hf.dep ⟨8, .data⟩ (by simp) rfl).2 16 rfl).trans (hf.dep ⟨8, .data⟩ (by simp) rfl).1
      go_simp
      exact hK _ _ (Keep3.refl _) rfl
    · obtain rfl := Option.some.inj (show some _ = some oO from ho)
      rw [if_pos (by rfl)]
      have q16 : AC.tmps.getD 16 undef = .tuple #[.int .u64 q1, .int .u64 r1] := ((hf.dep ⟨8, .data⟩ (by simp) rfl).2 16 rfl).trans (hf.dep ⟨8, .data⟩ (by simp) rfl).1
      go_simp
      exact hK _ _ (Keep3.refl _) rfl
    · obtain rfl := Option.some.inj (show some _ = some oO from ho)
      rw [if_pos (by rfl)]
      have q6 : AC.tmps.getD 6 undef = .pointer (some ⟨w.heap.size + 2, 0, none⟩) := hf.rest 6 (by kernel_rfl)
      go_simp
      exact hK _ _ (Keep3.refl _) rfl
    · obtain rfl := Option.some.inj (show some _ = some oO from ho)
      rw [if_pos (by rfl)]
      have q25 : AC.tmps.getD 25 undef = .int .u64 q1 := ((hf.dep ⟨9, .data⟩ (by simp) rfl).2 25 rfl).trans (hf.dep ⟨9, .data⟩ (by simp) rfl).1
      have q27 : AC.tmps.getD 27 undef = .pointer (some ⟨w.heap.size + 2, 2, none⟩) := ((hf.dep ⟨11, .data⟩ (by simp) rfl).2 27 rfl).trans (hf.dep ⟨11, .data⟩ (by simp) rfl).1
      obtain ⟨z0, h2⟩ := hbw.three ⟨_, hC⟩
      have zf := h2.frozen
      have zn := h2.lt
      have z2 := h2.cell 2 _ rfl
      go_simp
      have hst := Keep3.store (T := 78) (B := w.heap.size) (b2 := w.heap.size) (C2 := [.bool false, .int .u64 0, .int .u64 n]) (b4 := w.heap.size + 1) (b6 := w.heap.size + 2) (q := (.int .u64 q1)) (by omega) (by omega) (by omega) ⟨z0, h2⟩
      exact hK undef _ hst.1 hst.2
    · obtain rfl := Option.some.inj (show some _ = some oO from ho)
      rw [if_pos (by rfl)]
      have q26 : AC.tmps.getD 26 undef = .int .u64 r1 := ((hf.dep ⟨10, .data⟩ (by simp) rfl).2 26 rfl).trans (hf.dep ⟨10, .data⟩ (by simp) rfl).1
      go_simp
      exact hK _ _ (Keep3.refl _) rfl
    · omega
  · intro V WW hall hbw
    have vv0 : V 0 = .pointer (some ⟨w.heap.size, 1, none⟩) := hall 0 (by decide)
    have vv1 : V 1 = .int .u64 0 := hall 1 (by decide)
    have vv2 : V 2 = .int .u64 c := hall 2 (by decide)
    have vv3 : V 3 = .int .u64 0 := hall 3 (by decide)
    have vv4 : V 4 = .pointer (some ⟨w.heap.size, 2, none⟩) := hall 4 (by decide)
    have vv5 : V 5 = .int .u64 n := hall 5 (by decide)
    have vv6 : V 6 = .int .u64 c := hall 6 (by decide)
    have vv7 : V 7 = .tuple #[.int .u64 q1, .int .u64 r1] := hall 7 (by decide)
    have vv8 : V 8 = .tuple #[.int .u64 q1, .int .u64 r1] := hall 8 (by decide)
    have vv9 : V 9 = .int .u64 q1 := hall 9 (by decide)
    have vv10 : V 10 = .int .u64 r1 := hall 10 (by decide)
    have vv11 : V 11 = .pointer (some ⟨w.heap.size + 2, 2, none⟩) := hall 11 (by decide)
    have vv12 : Blk WW (w.heap.size + 2) 78 [.bool false, .int .u64 0, (.int .u64 q1)] := hall 12 (by decide)
    have vv13 : V 13 = .int .u64 r1 := hall 13 (by decide)
    clear hall
    simp only [pairsOf, laid, Nat.zero_add, Nat.reduceAdd, vv0, vv1, vv2, vv3, vv4, vv5, vv6, vv7, vv8, vv9, vv10, vv11, vv13, List.setIfInBounds_toArray, List.set_cons_zero, List.set_cons_succ]
    clear vv0 vv1 vv2 vv3 vv4 vv5 vv6 vv7 vv8 vv9 vv10 vv11 vv13
    have Y0 := vv12.cell 0 _ rfl; have Y1 := vv12.cell 1 _ rfl; have Y2 := vv12.cell 2 _ rfl
    obtain ⟨x4, y4, z4, hB2⟩ := hbw.out ⟨_, _, _, hA4⟩
    have Zf := hB2.frozen; have Zn := hB2.lt; have Z0 := hB2.cell 0 _ rfl; have Z1 := hB2.cell 1 _ rfl; have Z2 := hB2.cell 2 _ rfl
    have hX := ((hB2.set 0 (.bool false)).set 1 (.int .u64 0)).set 2 (.int .u64 q1)
    have X0 := hX.cell 0 _ rfl; have X1 := hX.cell 1 _ rfl; have X2 := hX.cell 2 _ rfl
    have HBW := Lib.hid (Below.trans (below_new3 w _ _ _) hbw.below)
    clear hbw hB2
    go_wp2
    refine bodyPost_ret (v := .tuple #[.agg #[.bool false, .int .u64 0, .int .u64 q1], .int .u64 r1]) (by simp [results, Try.results41, go_sem, X0, X1, X2]) rfl ⟨rfl, ?_⟩
    exact ((HBW.out.setCell (p := ⟨w.heap.size + 1, 0, none⟩) (by simp) _).setCell (p := ⟨w.heap.size + 1, 1, none⟩) (by simp) _).setCell (p := ⟨w.heap.size + 1, 2, none⟩) (by simp) _
theorem floor_nn (a b c : Nat) (ha : a ≤ 9223372036854775807) (hb : b ≤ 9223372036854775807) (hab : a * b < 18446744073709551616) (hc : c ≤ 9223372036854775807) (hc0 : 0 < c) (hq : a * b / c ≤ 9223372036854775807) (w : World) :
    Calls Try.prog 38 #[.int .i64 a, .int .i64 b, .int .i64 c] w fun e w' => e = .returned (.tuple #[.int .i64 ((a * b / c : Nat) : Int), .int .i64 0]) ∧ Below w.heap.size w w' := by
  have HP := Lib.hid (fun W => product_nn a b ha hb hab W)
  have HD := Lib.hid (fun W => divide_nn (a * b) c hab (by omega) hc0 W)
  obtain ⟨q, hq'⟩ : ∃ q, a * b / c = q := ⟨_, rfl⟩
  obtain ⟨r, hr⟩ : ∃ r, a * b % c = r := ⟨_, rfl⟩
  have hrl : r < 18446744073709551616 := by rw [← hr]; exact Nat.lt_of_lt_of_le (Nat.mod_lt _ hc0) (by omega)
  obtain ⟨n, hn⟩ : ∃ n, a * b = n := ⟨_, rfl⟩
  rw [hq', hr] at HD
  rw [hq'] at hq ⊢
  rw [hn] at HP HD
  clear hq' hr hn hab
  have HU := Lib.hid (fun W => up_nn 0 q W)
  have HN := Lib.hid (fun W => number_nn q hq W)
  go_enter Try.func38, Try.ntmps38
  go_wp2_with fail
  refine (HP.out _).mono ?_
  rintro e w1 ⟨rfl, hb1⟩
  have B1 := Lib.hid hb1
  clear hb1
  go_wp2_with fail
  refine (HD.out _).mono ?_
  rintro e w2 ⟨rfl, hb2⟩
  have B2 := Lib.hid (below_on B1.out B1.out.size hb2)
  clear hb2
  have hA := Blk.new w2 78 [.bool false, .int .u64 0, .int .u64 q]
  have A0 := hA.cell 0 _ rfl; have A1 := hA.cell 1 _ rfl; have A2 := hA.cell 2 _ rfl
  have HA := Lib.hid hA
  have B3 := Lib.hid (B2.out.alloc B2.out.size (.cells #[.bool false, .int .u64 0, .int .u64 q] 78))
  clear hA
  go_wp2_with fail
  refine (HU.out _).mono ?_
  rintro e w3 ⟨rfl, hb3⟩
  have hA := HA.out.keeps hb3
  have A0 := hA.cell 0 _ rfl; have A1 := hA.cell 1 _ rfl; have A2 := hA.cell 2 _ rfl; have Af := hA.frozen; have An := hA.lt
  have hA4 := ((hA.set 0 (.bool false)).set 1 (.int .u64 0)).set 2 (.int .u64 q)
  have D0 := hA4.cell 0 _ rfl; have D1 := hA4.cell 1 _ rfl; have D2 := hA4.cell 2 _ rfl
  have B4 := Lib.hid (below_on B3.out B3.out.size hb3)
  have HB := Lib.hid B2.out.size
  clear hb3 hA hA4
  go_wp2_with fail
  refine (HN.out _).mono ?_
  rintro e w5 ⟨rfl, rfl⟩
  go_wp2
  refine bodyPost_ret (v := .tuple #[.int .i64 q, .int .i64 0]) (by simp [results, Try.results38, go_sem]) rfl ⟨rfl, ?_⟩
  have := HB.out
  exact ((B4.out.setCell (p := ⟨w2.heap.size, 0, none⟩) this _).setCell (p := ⟨w2.heap.size, 1, none⟩) this _).setCell (p := ⟨w2.heap.size, 2, none⟩) this _
end Go.Proofs.Ytlbnednpagddaaa
