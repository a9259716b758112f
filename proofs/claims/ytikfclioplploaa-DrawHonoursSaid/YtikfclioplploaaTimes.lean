/-
  The walk of the reference's Times: the product of two numbers of 64 bits.
-/
import Derived.Test.YtikfclioplploaaCompare
import Derived.Test.YtikfclioplploaaCutI
set_option linter.unusedVariables false
set_option linter.unusedSimpArgs false
namespace Go.Proofs.Ytikfclioplploaa
open Go.RowKit Dg

section
variable {ops : Array Oper} {rest : List Oper} {op : Oper} {a : Act} {w : World} {Q : Exit → Act → World → Prop}
/-- A guarded load of digits that is wanted. -/
theorem ld_arr_w (hw : Region.wanted op (yielded ops a.tmps) = true) (x : Operand) (ho : op.op = .load 103 x) (b o : Nat) (hx : a.eval x = .pointer (some ⟨b, o, none⟩)) (M : List Int) (hl : M.length = 10) (hc : w.rangeAt b o (du M))
    (h : wpList Try.prog ops Q rest (a.put op.dst (.agg (ds M))) w) : wpList Try.prog ops Q (op :: rest) a w :=
  wpList_step fun _ hK => by
    rw [if_pos hw]
    exact wp_load_mid _ x ho b o hx (du M) _ hc Try.underlying103 rfl (by rw [du_len, hl]; exact info_arr) (hK _ _ h)
theorem st_N (hgd : op.guard = none) (x y : Operand) (ho : op.op = .store 105 x y) (b o : Nat) (hx : a.eval x = .pointer (some ⟨b, o, none⟩)) (z : Int) (hy : a.eval y = .agg (N z)) (hc : w.there b o 11)
    (h : wpList Try.prog ops Q rest (a.put op.dst undef) (w.setCells b o (nl z))) : wpList Try.prog ops Q (op :: rest) a w :=
  st_num hgd x y ho b o hx _ _ hy (len10 _) hc h
theorem ld_N (hgd : op.guard = none) (x : Operand) (ho : op.op = .load 105 x) (b o : Nat) (hx : a.eval x = .pointer (some ⟨b, o, none⟩)) (z : Int) (hc : w.rangeAt b o (nl z))
    (h : wpList Try.prog ops Q rest (a.put op.dst (.agg (N z))) w) : wpList Try.prog ops Q (op :: rest) a w :=
  ld_num hgd x ho b o hx _ _ (len10 _) hc h
theorem res_N {fn : Func} {p : Tmp} (h : fn.results = #[.cell p 105]) (tmps : Array Value) (w : World) (g : Nat) (z : Int)
    (hp : tmps.getD p undef = .pointer (some ⟨g, 0, none⟩)) (hg : Blk w g 105 (nl z)) : (results fn tmps).run Try.prog w = .ok (.agg (N z)) w :=
  res_num h tmps w g _ _ (len10 _) hp hg
end

theorem Blk.newN (w : World) (T : Nat) (z : Int) : Blk (w.alloc (.cells (N z) T)) w.heap.size T (nl z) := Blk.new w T (nl z)
theorem Blk.new2N (w : World) (o : Obj) (T : Nat) (z : Int) : Blk ((w.alloc o).alloc (.cells (N z) T)) (w.heap.size + 1) T (nl z) := Blk.new2 w o T (nl z)
theorem nl_sign (z : Int) : (nl z)[0]? = some (.bool (decide (z < 0))) := rfl
theorem nl_digit (z : Int) (j : Nat) (h : j < 10) : (nl z)[1 + j]? = some (.int .u64 (at_ (dg 10 (absI z)) j)) := nu_at' _ _ j (by rw [len10]; exact h)
theorem Blk.ndigits {w : World} {b T : Nat} {z : Int} (h : Blk w b T (nl z)) : w.rangeAt b 1 (du (dg 10 (absI z))) := Blk.digits h (len10 _)
theorem nl_neg {z : Int} (h : z < 0) : nl z = nu true (dg 10 (-z)) := by unfold nl; rw [decide_eq_true h, absI_neg h]
theorem nl_pos {z : Int} (h : 0 ≤ z) : nl z = nu false (dg 10 z) := by unfold nl; rw [decide_eq_false (by omega), absI_pos h]

/-! ### the plain law -/
theorem dg_take : ∀ (k j : Nat) (n : Int), j ≤ k → (dg k n).take j = dg j n
  | k, 0, n, _ => by simp [dg]
  | 0, j + 1, n, h => by omega
  | k + 1, j + 1, n, h => by simp only [dg, List.take_succ_cons]; rw [dg_take k j _ (by omega)]
theorem take4 (n : Int) (h0 : 0 ≤ n) (h : n < 65536 ^ 4) : val ((dg 10 n).take 4) = n := by rw [dg_take 10 4 n (by omega)]; exact val_dg 4 n h0 h
/-- Behind k products of digit xi, from place i on, with y's. -/
structure Rowed (S : List Int) (xi : Int) (y : List Int) (i k : Nat) (M : List Int) : Prop where
  len : M.length = 10
  far : ∀ j, i + k ≤ j → at_ M j = at_ S j
  low : ∀ j, 0 ≤ at_ M j ∧ at_ M j < 8589934592
  all : val M = val S + xi * 65536 ^ i * val (y.take k)
theorem norm_all {S : List Int} (h : Norm S) (j : Nat) : 0 ≤ at_ S j ∧ at_ S j < 65536 := by
  by_cases hj : j < S.length
  · exact h j hj
  · rw [at_ge S j (by omega)]; omega
theorem Rowed.start {S : List Int} (hS : Norm S) (hl : S.length = 10) (xi : Int) (y : List Int) (i : Nat) : Rowed S xi y i 0 S :=
  ⟨hl, fun _ _ => rfl, fun j => by have := norm_all hS j; omega, by simp [val]⟩
theorem prod_small {p q : Int} (h1 : 0 ≤ p) (h2 : p < 65536) (h3 : 0 ≤ q) (h4 : q < 65536) : 0 ≤ p * q ∧ p * q ≤ 4294836225 := by
  refine ⟨Int.mul_nonneg h1 h3, ?_⟩
  have := Int.mul_le_mul (show p ≤ 65535 by omega) (show q ≤ 65535 by omega) h3 (by decide)
  omega
theorem Rowed.step {S y M : List Int} {xi : Int} {i k : Nat} (hS : Norm S) (hy : Norm y) (hly : y.length = 10) (hx0 : 0 ≤ xi) (hx : xi < 65536) (h : Rowed S xi y i k M) (hk : i + k < 10) (hk2 : k < 10) :
    Rowed S xi y i (k + 1) (M.set (i + k) (at_ M (i + k) + xi * at_ y k)) := by
  have hl := h.len
  have hy0 := norm_all hy k
  have hp := prod_small hx0 hx hy0.1 hy0.2
  have hf := h.far (i + k) (by omega)
  have hs := norm_all hS (i + k)
  refine ⟨by simp [hl], fun j hj => ?_, fun j => ?_, ?_⟩
  · rw [at_set_other _ _ _ _ (by omega)]; exact h.far j (by omega)
  · rw [at_set _ _ _ _ (by omega)]
    split
    · rw [hf]; omega
    · exact h.low j
  · rw [val_set _ _ _ (by omega), h.all, val_take_succ _ _ (by omega), show at_ M (i + k) + xi * at_ y k - at_ M (i + k) = xi * at_ y k from by omega, Int.pow_add]
    generalize (65536 : Int) ^ i = p
    generalize (65536 : Int) ^ k = q
    grind
theorem Rowed.small {S y M : List Int} {xi : Int} {i k : Nat} (h : Rowed S xi y i k M) (hf : val S + xi * 65536 ^ i * val (y.take k) < 65536 ^ 10) : Small M :=
  ⟨h.len, fun j => by have := h.low j; omega, by rw [h.all]; exact hf⟩
/-- What the rows come to. -/
theorem rows_next (x : List Int) (b : Int) (i : Nat) (hi : i < x.length) : val (x.take i) * b + at_ x i * 65536 ^ i * b = val (x.take (i + 1)) * b := by
  rw [val_take_succ _ _ hi, Int.add_mul]
theorem take_bound (x : List Int) (hx : Norm x) (i : Nat) (hi : i ≤ 4) (hl : x.length = 10) : 0 ≤ val (x.take i) ∧ val (x.take i) ≤ 65536 ^ 4 := by
  have hn : Norm (x.take i) := fun j hj => by
    rw [List.length_take] at hj
    have := hx j (by omega)
    unfold at_ at *
    rw [List.getD_eq_getElem?_getD, List.getElem?_take, if_pos (by omega)]
    exact this
  refine ⟨hn.val_nonneg, ?_⟩
  have h1 := val_lt _ hn
  rw [List.length_take] at h1
  have h2 : (65536 : Int) ^ (min i x.length) ≤ 65536 ^ 4 := by
    have : min i x.length = i := by omega
    rw [this]
    have : i = 0 ∨ i = 1 ∨ i = 2 ∨ i = 3 ∨ i = 4 := by omega
    rcases this with rfl | rfl | rfl | rfl | rfl <;> decide
  omega
theorem mul_bound {p q : Int} (h1 : 0 ≤ p) (h2 : p ≤ 65536 ^ 4) (h3 : 0 ≤ q) (h4 : q ≤ 65536 ^ 4) : 0 ≤ p * q ∧ p * q ≤ 65536 ^ 8 := by
  refine ⟨Int.mul_nonneg h1 h3, ?_⟩
  have := Int.mul_le_mul h2 h4 h3 (by decide)
  omega

theorem absI_mul (a b : Int) : absI (a * b) = absI a * absI b := by
  have e : ∀ z : Int, absI z = (z.natAbs : Int) := fun z => by unfold absI; split <;> omega
  rw [e, e, e, Int.natAbs_mul]; simp
theorem mul_same {a b : Int} (h : a < 0 ↔ b < 0) : nl (a * b) = nu false (dg 10 (absI a * absI b)) := by
  rw [← absI_mul]
  have : 0 ≤ a * b := by
    by_cases ha : a < 0
    · exact Int.mul_nonneg_of_nonpos_of_nonpos (by omega) (by have := h.1 ha; omega)
    · exact Int.mul_nonneg (by omega) (by have : ¬ b < 0 := fun hb => ha (h.2 hb); omega)
  rw [nl_pos this, absI_pos this]
theorem mul_neg_zero {a b : Int} (h : absI a * absI b = 0) : nl (a * b) = nu false (dg 10 (absI a * absI b)) := by
  rw [← absI_mul] at h ⊢
  have : a * b = 0 := by unfold absI at h; split at h <;> omega
  rw [this]; rfl
theorem mul_diff {a b : Int} (h : ¬ (a < 0 ↔ b < 0)) (hn : ¬ absI a * absI b = 0) : nl (a * b) = nu true (dg 10 (absI a * absI b)) := by
  rw [← absI_mul] at hn ⊢
  have : a * b ≤ 0 := by
    by_cases ha : a < 0
    · have hb : ¬ b < 0 := fun hb => h ⟨fun _ => hb, fun _ => ha⟩
      exact Int.mul_nonpos_of_nonpos_of_nonneg (by omega) (by omega)
    · have hb : b < 0 := by
        by_cases hb : b < 0
        · exact hb
        · exact absurd ⟨fun x => absurd x ha, fun x => absurd x hb⟩ h
      exact Int.mul_nonpos_of_nonneg_of_nonpos (by omega) (by omega)
  have hz : a * b ≠ 0 := fun hz => hn (by rw [hz]; rfl)
  have : a * b < 0 := by omega
  rw [nl_neg this, absI_neg this]
attribute [local irreducible] N nl dg
attribute [local go_sem] heap_size_setCells
set_option maxRecDepth 100000 in
set_option maxHeartbeats 400000 in
theorem times_any (a b : Int) (ha1 : -9223372036854775808 ≤ a) (ha2 : a ≤ 9223372036854775807) (hb1 : -9223372036854775808 ≤ b) (hb2 : b ≤ 9223372036854775807) (w : World) :
    Calls Try.prog 65 #[.int .i64 a, .int .i64 b] w fun e w' => e = .returned (.agg (N (a * b))) ∧ Below w.heap.size w w' := by
  have HO1 := Lib.hid (fun W => of_any a ha1 ha2 W)
  have HO2 := Lib.hid (fun W => of_any b hb1 hb2 W)
  have HA : Hid (0 ≤ absI a ∧ absI a ≤ 9223372036854775808) := by show _ ∧ _; unfold absI; split <;> omega
  have HB : Hid (0 ≤ absI b ∧ absI b ≤ 9223372036854775808) := by show _ ∧ _; unfold absI; split <;> omega
  clear ha1 ha2 hb1 hb2
  go_enter Try.func65, Try.ntmps65
  go_wp2_with fail
  refine (HO1.out _).mono ?_
  rintro e w1 ⟨rfl, h1⟩
  have hR1 : Blk w1 w.heap.size 105 (nu false z10) := (Blk.new w _ (nu false z10)).keeps h1
  have hB1 : Below w.heap.size w w1 := below_on (below_new1 _ _) (by simp) h1
  clear h1
  go_wp2_with fail
  refine (HO2.out _).mono ?_
  rintro e w2 ⟨rfl, h2⟩
  have hR2 := hR1.keeps h2
  have hB2 := below_on hB1 hB1.size h2
  have hlt := hR2.lt
  clear h2 hR1 hB1
  have t1 : ((w2.alloc (.cells (nu false z10).toArray 105)).alloc (.cells (nu false z10).toArray 105)).there w2.heap.size 0 11 := ((Blk.new w2 _ (nu false z10)).alloc _).thereMid 0 11 (by decide)
  have b1 := ((Blk.new w2 105 (nu false z10)).alloc (.cells (nu false z10).toArray 105)).setAll (nl a) (by rw [nl_len]; rfl)
  have b2 := (Blk.new2 w2 (.cells (nu false z10).toArray 105) 105 (nu false z10)).otherCells (b' := w2.heap.size) (nl a) 0 (by omega)
  have HT1 := Lib.hid t1
  have HT2 := Lib.hid (b2.thereMid 0 11 (by decide))
  have b3 := b2.setAll (nl b) (by rw [nl_len]; rfl)
  have b4 := b1.otherCells (b' := w2.heap.size + 1) (nl b) 0 (by omega)
  clear b1 b2 t1
  have HX := Lib.hid b4
  have HY := Lib.hid b3
  have HR := Lib.hid ((((hR2.alloc (.cells (nu false z10).toArray 105)).alloc (.cells (nu false z10).toArray 105)).otherCells (b' := w2.heap.size) (nl a) 0 (by omega)).otherCells (b' := w2.heap.size + 1) (nl b) 0 (by omega))
  have HBE := Lib.hid (below_setCells (b := w2.heap.size + 1) (nl b) 0 (below_setCells (b := w2.heap.size) (nl a) 0 ((hB2.alloc hB2.size (.cells (nu false z10).toArray 105)).alloc (by have := hB2.size; simp; omega) (.cells (nu false z10).toArray 105)) (by omega)) (by omega))
  clear b3 b4 hR2 hB2
  go_wp2_with (first | (refine st_N rfl _ _ rfl w2.heap.size 0 rfl a rfl ?_ ?_; exact HT1.out) | (refine st_N rfl _ _ rfl (w2.heap.size + 1) 0 rfl b rfl ?_ ?_; exact HT2.out))
  have hbx : w.heap.size < w2.heap.size := hlt
  go_loopw [8] (fun i wr => ∃ (k : Nat), k ≤ 4 ∧ i = .int .i64 k ∧ Blk wr w2.heap.size 105 (nl a) ∧ Blk wr (w2.heap.size + 1) 105 (nl b) ∧ Blk wr (w2.heap.size + 1 + 1) 105 (nu false (dg 10 (val ((dg 10 (absI a)).take k) * absI b))) ∧ Blk wr w.heap.size 105 (nu false z10) ∧ Below w.heap.size w wr) (fun i _ => 4 - (intOf i).toNat)
  case atStart =>
    refine ⟨0, by omega, rfl, HX.out.alloc _, HY.out.alloc _, ?_, HR.out.alloc _, HBE.out.alloc HBE.out.size _⟩
    have e : nu false (dg 10 (val ((dg 10 (absI a)).take 0) * absI b)) = nu false z10 := by
      rw [show val ((dg 10 (absI a)).take 0) * absI b = 0 from by simp [val], (dg_zero_iff 0 (by decide) (by decide)).2 rfl]; rfl
    rw [e]
    exact ⟨by
      have h := heap_alloc_new (((((w2.alloc (.cells (nu false z10).toArray 105)).alloc (.cells (nu false z10).toArray 105)).setCells w2.heap.size 0 (nl a)).setCells (w2.heap.size + 1) 0 (nl b))) (.cells (nu false z10).toArray 105)
      rw [heap_size_setCells, heap_size_setCells] at h
      rw [World.size_alloc, World.size_alloc] at h
      exact h⟩
  case round =>
    obtain ⟨i, hi, rfl, hX, hY, hO, hR, hB⟩ := hrel
    have hxn := norm_all (norm10 (absI a)) i
    obtain ⟨hx0, hx1⟩ := hxn
    clear HX HY HR HBE HT1 HT2 HO1 HO2
    obtain ⟨wo, rfl⟩ : ∃ wo : World, wo = wr := ⟨_, rfl⟩
    by_cases hlt4 : i < 4
    · have cx := hX.cell (1 + i) _ (nl_digit a i (by omega))
      have HS0 : Hid (Norm (dg 10 (val ((dg 10 (absI a)).take i) * absI b))) := norm10 _
      generalize hxi : at_ (dg 10 (absI a)) i = xi at *
      have HXI := Lib.hid hxi
      clear hxi
      go_wp2
      go_loopw [9] (fun i' wr => ∃ (k : Nat) (M : List Int), k ≤ 4 ∧ i' = .int .i64 k ∧ Hid (Rowed (dg 10 (val ((dg 10 (absI a)).take i) * absI b)) xi (dg 10 (absI b)) i k M) ∧ Blk wr w2.heap.size 105 (nl a) ∧ Blk wr (w2.heap.size + 1) 105 (nl b) ∧ Blk wr (w2.heap.size + 1 + 1) 105 (nu false M) ∧ Blk wr w.heap.size 105 (nu false z10) ∧ Below w.heap.size w wr) (fun i' _ => 4 - (intOf i').toNat)
      case atStart => exact ⟨0, _, by omega, rfl, Rowed.start HS0.out (len10 _) _ _ _, hX, hY, hO, hR, hB⟩
      case round =>
        clear hX hY hO hR hB cx
        obtain ⟨k, M, hk, rfl, HM, hX, hY, hO, hR, hB⟩ := hrel
        have hlen := HM.out.len
        by_cases hk4 : k < 4
        · have cx := hX.cell (1 + i) _ (nl_digit a i (by omega))
          rw [HXI.out] at cx
          have cy := hY.cell (1 + k) _ (nl_digit b k (by omega))
          have co := hO.cell (1 + (i + k)) _ (nu_at' false M (i + k) (by omega))
          have fo := hO.frozen (1 + (i + k))
          have HT := Lib.hid (HM.out.step HS0.out (norm10 (absI b)) (len10 _) hx0 hx1 (by omega) (by omega))
          obtain ⟨m0, m1⟩ := HM.out.low (i + k)
          obtain ⟨y0, y1⟩ := norm_all (norm10 (absI b)) k
          obtain ⟨p0, p1⟩ := prod_small hx0 hx1 y0 y1
          go_wp2
          go_region
          go_wp2
          exact ⟨⟨k + 1, _, by omega, by go_num, HT, (hX.other _ _ (by simp; omega)).drew, (hY.other _ _ (by simp)).drew, (hO.nu_set' (i + k) _).drew, (hR.other _ _ (by simp; omega)).drew, (hB.setCell (by simp; omega) _).drew⟩, by simp only [intOf]; omega⟩
        · obtain rfl : k = 4 := by omega
          have HL := Lib.hid hlen
          have hab := mul_bound (take_bound (dg 10 (absI a)) (norm10 _) (i + 1) (by omega) (len10 _)).1 (take_bound (dg 10 (absI a)) (norm10 _) (i + 1) (by omega) (len10 _)).2 HB.out.1 (by have := HB.out.2; omega)
          have hvs : val (dg 10 (val ((dg 10 (absI a)).take i) * absI b)) = val ((dg 10 (absI a)).take i) * absI b := by
            have := mul_bound (take_bound (dg 10 (absI a)) (norm10 _) i (by omega) (len10 _)).1 (take_bound (dg 10 (absI a)) (norm10 _) i (by omega) (len10 _)).2 HB.out.1 (by have := HB.out.2; omega)
            exact val10 this.1 (by unfold TOP; omega)
          have hrn := rows_next (dg 10 (absI a)) (absI b) i (by rw [len10]; omega)
          rw [HXI.out] at hrn
          have hva : val M = val ((dg 10 (absI a)).take (i + 1)) * absI b := by
            rw [HM.out.all, hvs, take4 (absI b) HB.out.1 (by have := HB.out.2; omega)]
            exact hrn
          have HV := Lib.hid hva
          have HC := Lib.hid (HM.out.small (by rw [← HM.out.all, hva]; omega))
          have HG := Lib.hid (hO.digits hlen)
          clear hab hvs hrn hva hlen
          go_wp2_with (first | (refine ld_arr rfl _ rfl (w2.heap.size + 1 + 1) 1 rfl _ HL.out ?_ ?_; exact HG.out) | fail)
          refine (carry_any M HC.out wr).mono ?_
          rintro e w3 ⟨rfl, h3⟩
          rw [HV.out]
          have hX3 := hX.keeps h3
          have hY3 := hY.keeps h3
          have hO3 := hO.keeps h3
          have hR3 := hR.keeps h3
          have hB3 := below_on hB hB.size h3
          have HT3 := Lib.hid (hO3.digits_there HL.out)
          have hX4 := hX3.otherCells (b' := w2.heap.size + 1 + 1) (du (dg 10 (val ((dg 10 (absI a)).take (i + 1)) * absI b))) 1 (by omega)
          have hY4 := hY3.otherCells (b' := w2.heap.size + 1 + 1) (du (dg 10 (val ((dg 10 (absI a)).take (i + 1)) * absI b))) 1 (by omega)
          have hR4 := hR3.otherCells (b' := w2.heap.size + 1 + 1) (du (dg 10 (val ((dg 10 (absI a)).take (i + 1)) * absI b))) 1 (by omega)
          have hO4 := hO3.setDigits (L := dg 10 (val ((dg 10 (absI a)).take (i + 1)) * absI b)) HL.out (len10 _)
          have hB4 := below_setCells (b := w2.heap.size + 1 + 1) (du (dg 10 (val ((dg 10 (absI a)).take (i + 1)) * absI b))) 1 hB3 (by omega)
          clear hX hY hO hR hB h3 hX3 hY3 hO3 hR3 hB3 HC HG HM HS0
          go_wp2_with (first | (refine st_arr rfl _ _ rfl (w2.heap.size + 1 + 1) 1 rfl (dg 10 (val ((dg 10 (absI a)).take (i + 1)) * absI b)) rfl (len10 _) ?_ ?_; exact HT3.out) | fail)
          exact ⟨⟨i + 1, by omega, by go_num, hX4, hY4, hO4, hR4, hB4⟩, by simp only [intOf]; omega⟩
    · obtain rfl : i = 4 := by omega
      clear hx0 hx1
      rw [take4 (absI a) HA.out.1 (by have := HA.out.2; omega)] at hO
      have hm := mul_bound HA.out.1 (by have := HA.out.2; omega) HB.out.1 (by have := HB.out.2; omega)
      have HQ : EqZ (absI a * absI b) (decide (absI a * absI b = 0)) := eqz _ hm.1 (by unfold TOP; omega) _ rfl
      have ca := hX.cell 0 _ (nl_sign a)
      have cb := hY.cell 0 _ (nl_sign b)
      have fo := hO.frozen 0
      have co := hO.cell 0 (.bool false) rfl
      have HG := Lib.hid (hO.digits (len10 _))
      clear hm
      generalize hn : absI a * absI b = n at *
      have hq : ∀ w : World, (Op.equalIn 10000 103 (.agg (ds (dg 10 n))) (.agg #[.int .u64 0, .int .u64 0, .int .u64 0, .int .u64 0, .int .u64 0, .int .u64 0, .int .u64 0, .int .u64 0, .int .u64 0, .int .u64 0])).run Try.prog w = .ok (decide (n = 0)) w := HQ
      clear HQ
      by_cases hs : (a < 0 ↔ b < 0)
      · have HE := Lib.hid (mul_same hs)
        rw [hn] at HE
        rw [show decide (b < 0) = decide (a < 0) from decide_eq_decide.2 hs.symm] at cb
        generalize decide (a < 0) = s at *
        have hO5 := hO.setSign false
        have hR5 := hR.other ⟨w2.heap.size + 1 + 1, 0, none⟩ (.bool false) (by simp; omega)
        have hB5 := hB.setCell (p := ⟨w2.heap.size + 1 + 1, 0, none⟩) (by simp; omega) (.bool false)
        rw [← HE.out] at hO5
        have HT5 := Lib.hid (hR5.thereMid 0 11 (by decide))
        have HF := Lib.hid (hR5.setAll (nl (a * b)) (by rw [nl_len]; rfl))
        clear hn hX hY hO hR hB hq hs
        cases s
        all_goals
          go_wp2_with (first | (refine ld_N rfl _ rfl (w2.heap.size + 1 + 1) 0 rfl (a * b) ?_ ?_; exact hO5.range) | (refine st_N rfl _ _ rfl w.heap.size 0 rfl (a * b) rfl ?_ ?_; exact HT5.out))
          exact bodyPost_ret (res_N rfl _ _ w.heap.size (a * b) rfl HF.out) rfl ⟨rfl, below_setCells _ _ hB5 (Nat.le_refl _)⟩
      · have hsab : ∃ s, decide (a < 0) = s ∧ decide (b < 0) = !s := by
          by_cases ha : a < 0
          · exact ⟨true, decide_eq_true ha, decide_eq_false (fun hb => hs ⟨fun _ => hb, fun _ => ha⟩)⟩
          · exact ⟨false, decide_eq_false ha, decide_eq_true (by
              by_cases hb : b < 0
              · exact hb
              · exact absurd ⟨fun x => absurd x ha, fun x => absurd x hb⟩ hs)⟩
        obtain ⟨s, e1, e2⟩ := hsab
        rw [e1] at ca
        rw [e2] at cb
        clear e1 e2
        by_cases hz : n = 0
        · have HE := Lib.hid (mul_neg_zero (a := a) (b := b) (by rw [hn]; exact hz))
          rw [hn] at HE
          have hdz : decide (n = 0) = true := decide_eq_true hz
          rw [hdz] at hq
          have hO5 := hO.setSign false
          have hR5 := hR.other ⟨w2.heap.size + 1 + 1, 0, none⟩ (.bool false) (by simp; omega)
          have hB5 := hB.setCell (p := ⟨w2.heap.size + 1 + 1, 0, none⟩) (by simp; omega) (.bool false)
          rw [← HE.out] at hO5
          have HT5 := Lib.hid (hR5.thereMid 0 11 (by decide))
          have HF := Lib.hid (hR5.setAll (nl (a * b)) (by rw [nl_len]; rfl))
          clear hn hX hY hO hR hB hs hz hdz
          cases s
          all_goals
            go_wp2_with (first | (refine ld_arr_w (by rfl) _ rfl (w2.heap.size + 1 + 1) 1 rfl _ (len10 n) ?_ ?_; exact HG.out) | (refine ld_N rfl _ rfl (w2.heap.size + 1 + 1) 0 rfl (a * b) ?_ ?_; exact hO5.range) | (refine st_N rfl _ _ rfl w.heap.size 0 rfl (a * b) rfl ?_ ?_; exact HT5.out))
            exact bodyPost_ret (res_N rfl _ _ w.heap.size (a * b) rfl HF.out) rfl ⟨rfl, below_setCells _ _ hB5 (Nat.le_refl _)⟩
        · have HE := Lib.hid (mul_diff hs (by rw [hn]; exact hz))
          rw [hn] at HE
          have hdz : decide (n = 0) = false := decide_eq_false hz
          rw [hdz] at hq
          have hO5 := hO.setSign true
          have hR5 := hR.other ⟨w2.heap.size + 1 + 1, 0, none⟩ (.bool true) (by simp; omega)
          have hB5 := hB.setCell (p := ⟨w2.heap.size + 1 + 1, 0, none⟩) (by simp; omega) (.bool true)
          rw [← HE.out] at hO5
          have HT5 := Lib.hid (hR5.thereMid 0 11 (by decide))
          have HF := Lib.hid (hR5.setAll (nl (a * b)) (by rw [nl_len]; rfl))
          clear hn hX hY hO hR hB hs hz hdz
          cases s
          all_goals
            go_wp2_with (first | (refine ld_arr_w (by rfl) _ rfl (w2.heap.size + 1 + 1) 1 rfl _ (len10 n) ?_ ?_; exact HG.out) | (refine ld_N rfl _ rfl (w2.heap.size + 1 + 1) 0 rfl (a * b) ?_ ?_; exact hO5.range) | (refine st_N rfl _ _ rfl w.heap.size 0 rfl (a * b) rfl ?_ ?_; exact HT5.out))
            exact bodyPost_ret (res_N rfl _ _ w.heap.size (a * b) rfl HF.out) rfl ⟨rfl, below_setCells _ _ hB5 (Nat.le_refl _)⟩
end Go.Proofs.Ytikfclioplploaa
