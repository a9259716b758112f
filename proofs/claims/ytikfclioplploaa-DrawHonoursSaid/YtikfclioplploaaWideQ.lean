/-
  The walks of wide: divide, up, Floor, Even, at any numbers.
-/
import Derived.Test.YtikfclioplploaaWide
import Derived.Test.YtikfclioplploaaMono
import Derived.Shelf.Spec.BitsCarry
set_option linter.unusedVariables false
set_option linter.unusedSimpArgs false
set_option maxRecDepth 20000
namespace Go.Proofs.Ytikfclioplploaa
open Go.RowKit Dg Go.Shelf

/-- What Div64 is asked for: a contract at these numbers. -/
def DivOk (h l c : Nat) : Prop := ∀ w, Calls Try.prog 72 #[.int .u64 h, .int .u64 l, .int .u64 c] w fun e w' => e = .returned (.tuple #[.int .u64 (((h * 18446744073709551616 + l) / c : Nat) : Int), .int .u64 (((h * 18446744073709551616 + l) % c : Nat) : Int)]) ∧ Below w.heap.size w w'
theorem div64_0 (n c : Nat) (hn : n < 18446744073709551616) (hc : c < 18446744073709551616) (hc0 : 0 < c) : DivOk 0 n c := by
  intro w
  rw [Nat.zero_mul, Nat.zero_add]
  go_enter Try.func72, Try.ntmps72
  go_wp2
  have hne : ¬ (c : Int) = 0 := by omega
  go_region
  all_goals (try go_wp2)
  all_goals
    have e1 : IntKind.u64.wrap ((n : Int) / (c : Int)) = ((n / c : Nat) : Int) := by
      have : n / c ≤ n := Nat.div_le_self _ _
      rw [← Int.natCast_ediv]
      generalize n / c = q at this
      rw [IntKind.wrap_u64]
      omega
    refine bodyPost_ret (v := .tuple #[.int .u64 ((n / c : Nat) : Int), .int .u64 ((n % c : Nat) : Int)]) (by simp [results, Try.results72, go_sem, e1]) rfl ⟨rfl, (Below.refl _ _).drew⟩
theorem up_no (m : Bool) (a b : Int) (w : World) :
    Calls Try.prog 59 #[.agg #[.bool m, .int .u64 a, .int .u64 b], .bool false] w fun e w' => e = .returned (.agg #[.bool m, .int .u64 a, .int .u64 b]) ∧ Below w.heap.size w w' := by
  have hD := (Blk.new w 93 [.bool m, .int .u64 a, .int .u64 b]).alloc (.cells #[.bool false, .int .u64 0, .int .u64 0] 93)
  have D0 := hD.cell 0 _ rfl; have D1 := hD.cell 1 _ rfl; have D2 := hD.cell 2 _ rfl
  go_enter Try.func59, Try.ntmps59
  go_wp2
  have hY := Blk.new2 w (.cells #[.bool m, .int .u64 a, .int .u64 b] 93) 93 [.bool m, .int .u64 a, .int .u64 b]
  have Y0 := hY.cell 0 _ rfl; have Y1 := hY.cell 1 _ rfl; have Y2 := hY.cell 2 _ rfl
  exact bodyPost_ret (v := .agg #[.bool m, .int .u64 a, .int .u64 b]) (by simp [results, Try.results59, go_sem, Y0, Y1, Y2]) rfl ⟨rfl, below_new2 w _ _⟩
def renA : Go.Shelf.Ren := { f := fun k => if k = 25 then 75 else 0, t := fun k => 78, g := fun k => k }
theorem layA : Lays7.n25 Try.prog renA where
  mixed := by kernel_rfl
  f25 := by kernel_rfl
  t22 := by kernel_rfl
  a22 := fun w => by rfl
  z22 := fun w => by rfl
  v22 := fun w => by rfl
  i22 := by kernel_rfl
theorem add64_run (x y : Nat) (w : World) : (callFunc 75 #[.int .u64 x, .int .u64 y, .int .u64 0]).run Try.prog w = .ok (.value (.tuple #[.int .u64 (((x + y) % 18446744073709551616 : Nat) : Int), .int .u64 (((x + y) / 18446744073709551616 : Nat) : Int)])) w :=
  Any7.bits_Add64 layA x y 0 (by decide) w
theorem up_yes (m : Bool) (a b : Nat) (ha : a < 18446744073709551615) (hb : b < 18446744073709551616) (w : World) :
    Calls Try.prog 59 #[.agg #[.bool m, .int .u64 a, .int .u64 b], .bool true] w fun e w' => e = .returned (.agg #[.bool m, .int .u64 (((a * 18446744073709551616 + b + 1) / 18446744073709551616 : Nat) : Int), .int .u64 (((a * 18446744073709551616 + b + 1) % 18446744073709551616 : Nat) : Int)]) ∧ Below w.heap.size w w' := by
  have hrun : ∀ w, (callFunc 75 #[.int .u64 b, .int .u64 1, .int .u64 0]).run Try.prog w = .ok (.value (.tuple #[.int .u64 (((b + 1) % 18446744073709551616 : Nat) : Int), .int .u64 (((b + 1) / 18446744073709551616 : Nat) : Int)])) w := fun w => add64_run b 1 w
  obtain ⟨s, hs⟩ : ∃ s, (b + 1) % 18446744073709551616 = s := ⟨_, rfl⟩
  obtain ⟨d, hd⟩ : ∃ s, (b + 1) / 18446744073709551616 = s := ⟨_, rfl⟩
  rw [show (a * 18446744073709551616 + b + 1) / 18446744073709551616 = a + d by omega, show (a * 18446744073709551616 + b + 1) % 18446744073709551616 = s by omega]
  rw [hs, hd] at hrun
  have hd1 : d ≤ 1 := by omega
  clear hs hd
  have hD := (Blk.new w 93 [.bool m, .int .u64 a, .int .u64 b]).alloc (.cells #[.bool false, .int .u64 0, .int .u64 0] 93)
  have D0 := hD.cell 0 _ rfl; have D1 := hD.cell 1 _ rfl; have D2 := hD.cell 2 _ rfl
  have hw : IntKind.u64.wrap ((a : Int) + d) = ((a + d : Nat) : Int) := by rw [IntKind.wrap_u64]; omega
  have hY := Blk.new2 w (.cells #[.bool m, .int .u64 ((a + d : Nat) : Int), .int .u64 s] 93) 93 [.bool m, .int .u64 ((a + d : Nat) : Int), .int .u64 s]
  have Y0 := hY.cell 0 _ rfl; have Y1 := hY.cell 1 _ rfl; have Y2 := hY.cell 2 _ rfl
  have HYB := Lib.hid (below_new2 w (.cells #[.bool m, .int .u64 ((a + d : Nat) : Int), .int .u64 s] 93) (.cells #[.bool m, .int .u64 ((a + d : Nat) : Int), .int .u64 s] 93))
  clear hY hD
  obtain ⟨x, hx⟩ : ∃ x : Int, ((a + d : Nat) : Int) = x := ⟨_, rfl⟩
  rw [hx] at hw Y0 Y1 Y2 HYB ⊢
  clear hx
  go_enter Try.func59, Try.ntmps59
  go_wp2
  exact bodyPost_ret (v := .agg #[.bool m, .int .u64 x, .int .u64 s]) (by simp [results, Try.results59, go_sem, Y0, Y1, Y2]) rfl ⟨rfl, HYB.out⟩
/-- Nothing below B turns; one block stays, one has three places, the third keeps what is laid in its third place. -/
structure Keep4 (T B b2 : Nat) (C2 : List Value) (b4 b6 : Nat) (u v q : Value) (W W' : World) : Prop where
  below : Below B W W'
  keep : Blk W b2 T C2 → Blk W' b2 T C2
  out : (∃ x y z, Blk W b4 T [x, y, z]) → ∃ x y z, Blk W' b4 T [x, y, z]
  three : (∃ z, Blk W b6 T [u, v, z]) → ∃ z, Blk W' b6 T [u, v, z]
  laid : Blk W b6 T [u, v, q] → Blk W' b6 T [u, v, q]
section
variable {T B b2 : Nat} {C2 : List Value} {b4 b6 : Nat} {u v q : Value}
theorem Keep4.refl (W : World) : Keep4 T B b2 C2 b4 b6 u v q W W := ⟨Below.refl _ _, id, id, id, id⟩
theorem Keep4.drew (W : World) : Keep4 T B b2 C2 b4 b6 u v q W W.drew := ⟨(Below.refl _ _).drew, fun h => h.drew, fun ⟨x, y, z, h⟩ => ⟨x, y, z, h.drew⟩, fun ⟨z, h⟩ => ⟨z, h.drew⟩, fun h => h.drew⟩
theorem Keep4.trans (a b c : World) (h : Keep4 T B b2 C2 b4 b6 u v q a b) (k : Keep4 T B b2 C2 b4 b6 u v q b c) : Keep4 T B b2 C2 b4 b6 u v q a c :=
  ⟨h.below.trans k.below, fun x => k.keep (h.keep x), fun x => k.out (h.out x), fun x => k.three (h.three x), fun x => k.laid (h.laid x)⟩
theorem Keep4.call {W W' : World} (h : Below W.heap.size W W') (hB : B ≤ W.heap.size) : Keep4 T B b2 C2 b4 b6 u v q W W' :=
  ⟨h.mono hB, fun x => x.keeps h, fun ⟨x, y, z, k⟩ => ⟨x, y, z, k.keeps h⟩, fun ⟨z, x⟩ => ⟨z, x.keeps h⟩, fun x => x.keeps h⟩
theorem Keep4.store {W : World} (hB : B ≤ b6) (hne : b2 ≠ b6) (hne4 : b4 ≠ b6) (h : ∃ z, Blk W b6 T [u, v, z]) :
    Keep4 T B b2 C2 b4 b6 u v q W (W.setCell ⟨b6, 2, none⟩ q) ∧ Blk (W.setCell ⟨b6, 2, none⟩ q) b6 T [u, v, q] := by
  obtain ⟨z, hb⟩ := h
  have h2 : Blk (W.setCell ⟨b6, 2, none⟩ q) b6 T [u, v, q] := hb.set 2 q
  exact ⟨⟨(Below.refl _ _).setCell (p := ⟨b6, 2, none⟩) hB q, fun h => h.other _ _ hne, fun ⟨x, y, z, k⟩ => ⟨x, y, z, k.other _ _ hne4⟩, fun _ => ⟨_, h2⟩, fun _ => h2⟩, h2⟩
end
theorem key_div (B h l c : Nat) (hc : 0 < c) : (h * B + l) / c = h / c * B + (h % c * B + l) / c ∧ (h * B + l) % c = (h % c * B + l) % c := by
  have e : h * B + l = (h % c * B + l) + c * (h / c * B) := by
    have := Nat.mod_add_div h c
    have e2 : h * B = h % c * B + c * (h / c * B) := by
      rw [← Nat.mul_assoc, ← Nat.add_mul, this]
    omega
  constructor
  · rw [e, Nat.add_mul_div_left _ _ hc]; omega
  · rw [e, Nat.add_mul_mod_self_left]
theorem key_lt (B r l c : Nat) (hr : r < c) (hl : l < B) : (r * B + l) / c < B := by
  rw [Nat.div_lt_iff_lt_mul (by omega)]
  have h2 : (r + 1) * B ≤ c * B := Nat.mul_le_mul_right _ hr
  rw [Nat.add_mul, Nat.one_mul] at h2
  rw [Nat.mul_comm B c]; omega
theorem key_hi (B q r : Nat) (hr : r < B) : (q * B + r) / B = q ∧ (q * B + r) % B = r := by
  constructor
  · rw [Nat.mul_comm, Nat.mul_add_div (by omega), Nat.div_eq_of_lt hr]; rfl
  · rw [Nat.mul_comm, Nat.mul_add_mod, Nat.mod_eq_of_lt hr]
set_option maxRecDepth 8000 in
set_option maxHeartbeats 1600000 in
theorem wdivide_any (m : Bool) (h l c : Nat) (hh : h < 18446744073709551616) (hl : l < 18446744073709551616) (hc : c < 18446744073709551616) (hc0 : 0 < c) (hD : DivOk (h % c) l c) (w : World) :
    Calls Try.prog 57 #[.agg #[.bool m, .int .u64 h, .int .u64 l], .int .u64 c] w fun e w' => e = .returned (.tuple #[.agg #[.bool m, .int .u64 (((h * 18446744073709551616 + l) / c / 18446744073709551616 : Nat) : Int), .int .u64 (((h * 18446744073709551616 + l) / c % 18446744073709551616 : Nat) : Int)], .int .u64 (((h * 18446744073709551616 + l) % c : Nat) : Int)]) ∧ Below w.heap.size w w' := by
  have key := key_div 18446744073709551616 h l c hc0
  have hlt := key_lt 18446744073709551616 (h % c) l c (Nat.mod_lt h hc0) hl
  rw [key.1, key.2]
  have HD := Lib.hid hD
  unfold DivOk at HD
  obtain ⟨q1, hq1⟩ : ∃ q1, (h % c * 18446744073709551616 + l) / c = q1 := ⟨_, rfl⟩
  obtain ⟨r1, hr1⟩ : ∃ r1, (h % c * 18446744073709551616 + l) % c = r1 := ⟨_, rfl⟩
  rw [hq1] at hlt
  rw [hq1, hr1] at HD ⊢
  rw [(key_hi 18446744073709551616 (h / c) q1 hlt).1, (key_hi 18446744073709551616 (h / c) q1 hlt).2]
  clear hq1 hr1 key hD
  have hqh : IntKind.u64.wrap ((h : Int) / (c : Int)) = ((h / c : Nat) : Int) := by
    have : h / c ≤ h := Nat.div_le_self _ _
    rw [← Int.natCast_ediv]
    generalize h / c = q at this
    rw [IntKind.wrap_u64]
    omega
  have hrh : (h : Int).tmod (c : Int) = ((h % c : Nat) : Int) := by rw [Int.tmod_eq_emod_of_nonneg (by omega), Int.natCast_emod]
  obtain ⟨qh, hq⟩ : ∃ x, h / c = x := ⟨_, rfl⟩
  obtain ⟨rh, hr⟩ : ∃ x, h % c = x := ⟨_, rfl⟩
  rw [hq] at hqh ⊢
  rw [hr] at hrh HD
  clear hq hr
  have hcn : ¬ c = 0 := by omega
  have hA := ((Blk.new w 93 [.bool m, .int .u64 h, .int .u64 l]).alloc (.cells #[.bool false, .int .u64 0, .int .u64 0] 93)).alloc (.cells #[.bool m, .int .u64 qh, .int .u64 0] 93)
  have hA' := ((Blk.new w 93 [.bool m, .int .u64 h, .int .u64 l]).alloc (.cells #[.bool false, .int .u64 0, .int .u64 0] 93))
  have A0 := hA.cell 0 _ rfl; have A1 := hA.cell 1 _ rfl; have A2 := hA.cell 2 _ rfl
  have A0' := hA'.cell 0 _ rfl; have A1' := hA'.cell 1 _ rfl; have A2' := hA'.cell 2 _ rfl
  have hA3 := ((Blk.new w 93 [.bool m, .int .u64 h, .int .u64 l]).alloc (.cells #[.bool false, .int .u64 0, .int .u64 0] 93)).alloc (.cells #[.bool m, .int .u64 0, .int .u64 0] 93)
  have A1'' := hA3.cell 1 _ rfl
  have hC := Blk.new3 w (.cells #[.bool m, .int .u64 h, .int .u64 l] 93) (.cells #[.bool false, .int .u64 0, .int .u64 0] 93) 93 [.bool m, .int .u64 qh, .int .u64 0]
  have hA4 := (Blk.new2 w (.cells #[.bool m, .int .u64 h, .int .u64 l] 93) 93 [.bool false, .int .u64 0, .int .u64 0]).alloc (.cells #[.bool m, .int .u64 qh, .int .u64 0] 93)
  have C0 := hC.cell 0 _ rfl; have C1 := hC.cell 1 _ rfl; have C2 := hC.cell 2 _ rfl; have Cf := hC.frozen; have Cn := hC.lt
  have hcne : ¬ (c : Int) = 0 := by omega
  go_enter Try.func57, Try.ntmps57
  go_wp2
  refine region_ext (by kernel_rfl) (by kernel_rfl) [some 17, some 18, some 19, some 20, some 21, some 22, some 23, some 24, some 16, some 25, some 26, some 27, none, some 7] (by kernel_rfl) (Keep4 93 w.heap.size w.heap.size [.bool m, .int .u64 h, .int .u64 l] (w.heap.size + 1) (w.heap.size + 2) (.bool m) (.int .u64 qh) (.int .u64 q1)) Keep4.trans (Keep4.drew _) (fun i v WW => match i with | 0 => v = .pointer (some ⟨w.heap.size, 1, none⟩) | 1 => v = .int .u64 h | 2 => v = .int .u64 c | 3 => v = .int .u64 rh | 4 => v = .pointer (some ⟨w.heap.size, 2, none⟩) | 5 => v = .int .u64 l | 6 => v = .int .u64 c | 7 => v = .tuple #[.int .u64 q1, .int .u64 r1] | 8 => v = .tuple #[.int .u64 q1, .int .u64 r1] | 9 => v = .int .u64 q1 | 10 => v = .int .u64 r1 | 11 => v = .pointer (some ⟨w.heap.size + 2, 2, none⟩) | 12 => Blk WW (w.heap.size + 2) 93 [.bool m, .int .u64 qh, (.int .u64 q1)] | 13 => v = .int .u64 r1 | _ => True) ?_ ?_ ?_
  · intro i v WW WX h hbx
    rcases i with _ | _ | _ | _ | _ | _ | _ | _ | _ | _ | _ | _ | _ | _ | i
    · exact h
    · exact h
    · exact h
    · exact h
    · exact h
    · exact h
    · exact h
    · exact h
    · exact h
    · exact h
    · exact h
    · exact h
    · exact hbx.laid h
    · exact h
    · trivial
  · intro iI oO V AC WW ho hf hbw K hK
    have hlt : iI < 14 := (Array.getElem?_eq_some_iff.1 ho).1
    rcases iI with _ | _ | _ | _ | _ | _ | _ | _ | _ | _ | _ | _ | _ | _ | iI
    · obtain rfl := Option.some.inj (show some _ = some oO from ho)
      rw [if_pos (by rfl)]
      have q2 : AC.tmps.getD 2 undef = .pointer (some ⟨w.heap.size, 0, none⟩) := hf.rest 2 (by kernel_rfl)
      go_simp
      exact hK _ _ (Keep4.refl _) rfl
    · obtain rfl := Option.some.inj (show some _ = some oO from ho)
      rw [if_pos (by rfl)]
      have q17 : AC.tmps.getD 17 undef = .pointer (some ⟨w.heap.size, 1, none⟩) := ((hf.dep ⟨0, .data⟩ (by simp) rfl).2 17 rfl).trans (hf.dep ⟨0, .data⟩ (by simp) rfl).1
      have hk := hbw.keep hA
      have z1 := hk.cell 1 _ rfl
      have z2 := hk.cell 2 _ rfl
      go_simp
      exact hK _ _ (Keep4.refl _) rfl
    · obtain rfl := Option.some.inj (show some _ = some oO from ho)
      rw [if_pos (by rfl)]
      have q1 : AC.tmps.getD 1 undef = .int .u64 c := hf.rest 1 (by kernel_rfl)
      go_simp
      exact hK _ _ (Keep4.refl _) rfl
    · obtain rfl := Option.some.inj (show some _ = some oO from ho)
      rw [if_pos (by rfl)]
      have q18 : AC.tmps.getD 18 undef = .int .u64 h := ((hf.dep ⟨1, .data⟩ (by simp) rfl).2 18 rfl).trans (hf.dep ⟨1, .data⟩ (by simp) rfl).1
      have q19 : AC.tmps.getD 19 undef = .int .u64 c := ((hf.dep ⟨2, .data⟩ (by simp) rfl).2 19 rfl).trans (hf.dep ⟨2, .data⟩ (by simp) rfl).1
      go_simp
      exact hK _ _ (Keep4.refl _) rfl
    · obtain rfl := Option.some.inj (show some _ = some oO from ho)
      rw [if_pos (by rfl)]
      have q2 : AC.tmps.getD 2 undef = .pointer (some ⟨w.heap.size, 0, none⟩) := hf.rest 2 (by kernel_rfl)
      go_simp
      exact hK _ _ (Keep4.refl _) rfl
    · obtain rfl := Option.some.inj (show some _ = some oO from ho)
      rw [if_pos (by rfl)]
      have q21 : AC.tmps.getD 21 undef = .pointer (some ⟨w.heap.size, 2, none⟩) := ((hf.dep ⟨4, .data⟩ (by simp) rfl).2 21 rfl).trans (hf.dep ⟨4, .data⟩ (by simp) rfl).1
      have hk := hbw.keep hA
      have z1 := hk.cell 1 _ rfl
      have z2 := hk.cell 2 _ rfl
      go_simp
      exact hK _ _ (Keep4.refl _) rfl
    · obtain rfl := Option.some.inj (show some _ = some oO from ho)
      rw [if_pos (by rfl)]
      have q1 : AC.tmps.getD 1 undef = .int .u64 c := hf.rest 1 (by kernel_rfl)
      go_simp
      exact hK _ _ (Keep4.refl _) rfl
    · obtain rfl := Option.some.inj (show some _ = some oO from ho)
      rw [if_pos (by rfl)]
      have q20 : AC.tmps.getD 20 undef = .int .u64 rh := ((hf.dep ⟨3, .data⟩ (by simp) rfl).2 20 rfl).trans (hf.dep ⟨3, .data⟩ (by simp) rfl).1
      have q22 : AC.tmps.getD 22 undef = .int .u64 l := ((hf.dep ⟨5, .data⟩ (by simp) rfl).2 22 rfl).trans (hf.dep ⟨5, .data⟩ (by simp) rfl).1
      have q23 : AC.tmps.getD 23 undef = .int .u64 c := ((hf.dep ⟨6, .data⟩ (by simp) rfl).2 23 rfl).trans (hf.dep ⟨6, .data⟩ (by simp) rfl).1
      go_simp
      refine (HD.out WW).mono ?_
      rintro e w6 ⟨rfl, hb6⟩
      exact hK _ _ (Keep4.call hb6 (Nat.le_trans (by simp; omega) hbw.below.size)) rfl
    · obtain rfl := Option.some.inj (show some _ = some oO from ho)
      rw [if_pos (by rfl)]
      have q24 : AC.tmps.getD 24 undef = .tuple #[.int .u64 q1, .int .u64 r1] := ((hf.dep ⟨7, .data⟩ (by simp) rfl).2 24 rfl).trans (hf.dep ⟨7, .data⟩ (by simp) rfl).1
      go_simp
      exact hK _ _ (Keep4.refl _) rfl
    · obtain rfl := Option.some.inj (show some _ = some oO from ho)
      rw [if_pos (by rfl)]
      have q16 : AC.tmps.getD 16 undef = .tuple #[.int .u64 q1, .int .u64 r1] := ((hf.dep ⟨8, .data⟩ (by simp) rfl).2 16 rfl).trans (hf.dep ⟨8, .data⟩ (by simp) rfl).1
      go_simp
      exact hK _ _ (Keep4.refl _) rfl
    · obtain rfl := Option.some.inj (show some _ = some oO from ho)
      rw [if_pos (by rfl)]
      have q16 : AC.tmps.getD 16 undef = .tuple #[.int .u64 q1, .int .u64 r1] := ((hf.dep ⟨8, .data⟩ (by simp) rfl).2 16 rfl).trans (hf.dep ⟨8, .data⟩ (by simp) rfl).1
      go_simp
      exact hK _ _ (Keep4.refl _) rfl
    · obtain rfl := Option.some.inj (show some _ = some oO from ho)
      rw [if_pos (by rfl)]
      have q6 : AC.tmps.getD 6 undef = .pointer (some ⟨w.heap.size + 2, 0, none⟩) := hf.rest 6 (by kernel_rfl)
      go_simp
      exact hK _ _ (Keep4.refl _) rfl
    · obtain rfl := Option.some.inj (show some _ = some oO from ho)
      rw [if_pos (by rfl)]
      have q25 : AC.tmps.getD 25 undef = .int .u64 q1 := ((hf.dep ⟨9, .data⟩ (by simp) rfl).2 25 rfl).trans (hf.dep ⟨9, .data⟩ (by simp) rfl).1
      have q27 : AC.tmps.getD 27 undef = .pointer (some ⟨w.heap.size + 2, 2, none⟩) := ((hf.dep ⟨11, .data⟩ (by simp) rfl).2 27 rfl).trans (hf.dep ⟨11, .data⟩ (by simp) rfl).1
      obtain ⟨z0, h2⟩ := hbw.three ⟨_, hC⟩
      have zf := h2.frozen
      have zn := h2.lt
      have z2 := h2.cell 2 _ rfl
      go_simp
      have hst := Keep4.store (T := 93) (B := w.heap.size) (b2 := w.heap.size) (C2 := [.bool m, .int .u64 h, .int .u64 l]) (b4 := w.heap.size + 1) (b6 := w.heap.size + 2) (q := (.int .u64 q1)) (by omega) (by omega) (by omega) ⟨z0, h2⟩
      exact hK undef _ hst.1 hst.2
    · obtain rfl := Option.some.inj (show some _ = some oO from ho)
      rw [if_pos (by rfl)]
      have q26 : AC.tmps.getD 26 undef = .int .u64 r1 := ((hf.dep ⟨10, .data⟩ (by simp) rfl).2 26 rfl).trans (hf.dep ⟨10, .data⟩ (by simp) rfl).1
      go_simp
      exact hK _ _ (Keep4.refl _) rfl
    · omega
  · intro V WW hall hbw
    have vv0 : V 0 = .pointer (some ⟨w.heap.size, 1, none⟩) := hall 0 (by decide)
    have vv1 : V 1 = .int .u64 h := hall 1 (by decide)
    have vv2 : V 2 = .int .u64 c := hall 2 (by decide)
    have vv3 : V 3 = .int .u64 rh := hall 3 (by decide)
    have vv4 : V 4 = .pointer (some ⟨w.heap.size, 2, none⟩) := hall 4 (by decide)
    have vv5 : V 5 = .int .u64 l := hall 5 (by decide)
    have vv6 : V 6 = .int .u64 c := hall 6 (by decide)
    have vv7 : V 7 = .tuple #[.int .u64 q1, .int .u64 r1] := hall 7 (by decide)
    have vv8 : V 8 = .tuple #[.int .u64 q1, .int .u64 r1] := hall 8 (by decide)
    have vv9 : V 9 = .int .u64 q1 := hall 9 (by decide)
    have vv10 : V 10 = .int .u64 r1 := hall 10 (by decide)
    have vv11 : V 11 = .pointer (some ⟨w.heap.size + 2, 2, none⟩) := hall 11 (by decide)
    have vv12 : Blk WW (w.heap.size + 2) 93 [.bool m, .int .u64 qh, (.int .u64 q1)] := hall 12 (by decide)
    have vv13 : V 13 = .int .u64 r1 := hall 13 (by decide)
    clear hall
    simp only [pairsOf, laid, Nat.zero_add, Nat.reduceAdd, vv0, vv1, vv2, vv3, vv4, vv5, vv6, vv7, vv8, vv9, vv10, vv11, vv13, List.setIfInBounds_toArray, List.set_cons_zero, List.set_cons_succ]
    clear vv0 vv1 vv2 vv3 vv4 vv5 vv6 vv7 vv8 vv9 vv10 vv11 vv13
    have Y0 := vv12.cell 0 _ rfl; have Y1 := vv12.cell 1 _ rfl; have Y2 := vv12.cell 2 _ rfl
    obtain ⟨x4, y4, z4, hB2⟩ := hbw.out ⟨_, _, _, hA4⟩
    have Zf := hB2.frozen; have Zn := hB2.lt; have Z0 := hB2.cell 0 _ rfl; have Z1 := hB2.cell 1 _ rfl; have Z2 := hB2.cell 2 _ rfl
    have hX := ((hB2.set 0 (.bool m)).set 1 (.int .u64 qh)).set 2 (.int .u64 q1)
    have X0 := hX.cell 0 _ rfl; have X1 := hX.cell 1 _ rfl; have X2 := hX.cell 2 _ rfl
    have HBW := Lib.hid (Below.trans (below_new3 w _ _ _) hbw.below)
    clear hbw hB2
    go_wp2
    refine bodyPost_ret (v := .tuple #[.agg #[.bool m, .int .u64 qh, .int .u64 q1], .int .u64 r1]) (by simp [results, Try.results57, go_sem, X0, X1, X2]) rfl ⟨rfl, ?_⟩
    exact ((HBW.out.setCell (p := ⟨w.heap.size + 1, 0, none⟩) (by simp) _).setCell (p := ⟨w.heap.size + 1, 1, none⟩) (by simp) _).setCell (p := ⟨w.heap.size + 1, 2, none⟩) (by simp) _
end Go.Proofs.Ytikfclioplploaa
