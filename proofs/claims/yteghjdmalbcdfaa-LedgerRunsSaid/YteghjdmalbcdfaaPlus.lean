/-
  The walk of the reference's Plus: the sum of whole numbers.
-/
import Derived.Test.YteghjdmalbcdfaaOf
set_option linter.unusedVariables false
set_option linter.unusedSimpArgs false
namespace Go.Proofs.Yteghjdmalbcdfaa
open Go.RowKit Dg

set_option maxHeartbeats 400000 in
theorem plus_same (m : Bool) (a b : List Int) (ha : Norm a) (hb : Norm b) (hla : a.length = 10) (hlb : b.length = 10) (hf : val a + val b < 65536 ^ 10) (w : World) :
    Calls Try.prog 29 #[.agg (ns m a), .agg (ns m b)] w fun e w' => e = .returned (.agg (ns m (dg 10 (val a + val b)))) ∧ Below w.heap.size w w' := by
  have hsa : (ns m a).size = 11 := by rw [ns_size, hla]
  have hsb : (ns m b).size = 11 := by rw [ns_size, hlb]
  have HA := Lib.hid ha; have HB := Lib.hid hb; have HF := Lib.hid hf
  have hmm : (m == m) = true := by simp
  clear ha hb hf
  go_enter Try.func29, Try.ntmps29
  go_wp2
  go_loopw [11] (fun i wr => ∃ (k : Nat) (M : List Int), k ≤ 10 ∧ i = .int .i64 k ∧ Hid (Added a b k M) ∧ Blk wr w.heap.size 69 (nu m M) ∧ Below w.heap.size w wr ∧ Blk wr (w.heap.size + 1) 69 (nu m b) ∧ Blk wr (w.heap.size + 2) 69 (nu false z10)) (fun i _ => 10 - (intOf i).toNat)
  case atStart => exact ⟨0, a, by omega, rfl, Added.start hla, ((Blk.new _ _ _).alloc _).alloc _, below_new3 _ _ _ _, (Blk.new2 _ _ _ _).alloc _, Blk.new3 _ _ _ _ _⟩
  case round =>
    obtain ⟨k, M, hk, rfl, HM, hA, hB, hZ, hR⟩ := hrel
    have hlen := HM.out.len
    by_cases hlt : k < 10
    · have c1 := hA.cell (1 + k) _ (nu_at' m M k (by omega))
      have c2 := hZ.cell (1 + k) _ (nu_at' m b k (by omega))
      have f1 := hA.frozen (1 + k)
      have HS := Lib.hid (HM.out.step hlb hlt)
      have h1 := HM.out.high k (by omega)
      have h2 := HA.out k (by omega)
      rw [← h1] at h2
      obtain ⟨b1, b2⟩ := h2
      obtain ⟨b3, b4⟩ := HB.out k (by omega)
      clear h1
      go_wp2
      go_region
      go_wp2
      exact ⟨⟨k + 1, _, by omega, by go_num, HS, (hA.nu_set' k _).drew, (hB.setCell (by simp) _).drew, (hZ.other _ _ (by simp)).drew, (hR.other _ _ (by simp)).drew⟩, by simp only [intOf]; omega⟩
    · obtain rfl : k = 10 := by omega
      have HL := Lib.hid hlen
      have HC := Lib.hid (HM.out.small HA.out HB.out hla hlb HF.out)
      have HV := Lib.hid (HM.out.done hlb)
      have HG := Lib.hid (hA.digits hlen)
      clear HM HA HB HF hsa hsb hlen hmm
      go_wp2_with (first | (refine ld_arr rfl _ rfl w.heap.size 1 rfl _ HL.out ?_ ?_; exact HG.out) | fail)
      refine (carry_any M HC.out wr).mono ?_
      rintro e w1 ⟨rfl, hb1⟩
      rw [HV.out]
      have HLN := Lib.hid (len10 (val a + val b))
      have hA1 := hA.keeps hb1
      have hR1 := hR.keeps hb1
      have HT1 := Lib.hid (hA1.digits_there HL.out)
      have hA2 := hA1.setDigits (L := dg 10 (val a + val b)) HL.out (len10 _)
      have hR2 := hR1.otherCells (b' := w.heap.size) (du (dg 10 (val a + val b))) 1 (by omega)
      have HT2 := Lib.hid (hR2.thereMid 0 11 (by decide))
      have HE := Lib.hid (hR2.setAll (nu m (dg 10 (val a + val b))) (by rw [nu_len, len10]; rfl))
      have hB1 := below_setCells (du (dg 10 (val a + val b))) 1 (below_on hB hB.size hb1) (b := w.heap.size) (Nat.le_refl _)
      clear HC HV HG hA hR hZ hb1 hB
      go_wp2_with (first | (refine st_arr rfl _ _ rfl w.heap.size 1 rfl (dg 10 (val a + val b)) rfl HLN.out ?_ ?_; exact HT1.out) | (refine ld_num rfl _ rfl w.heap.size 0 rfl m (dg 10 (val a + val b)) HLN.out ?_ ?_; exact hA2.range) | (refine st_num rfl _ _ rfl (w.heap.size + 2) 0 rfl m (dg 10 (val a + val b)) rfl HLN.out ?_ ?_; exact HT2.out))
      exact bodyPost_ret (res_num rfl _ _ (w.heap.size + 2) m (dg 10 (val a + val b)) HLN.out rfl HE.out) rfl ⟨rfl, below_setCells _ _ hB1 (by omega)⟩

/-! ### signs that differ -/
/-- A number's digits are compared with noughts, as the walk meets it. -/
def EqZ (n : Int) (b : Bool) : Prop := ∀ w : World, (Op.equalIn 10000 67 (.agg (ds (dg 10 n))) (.agg #[.int .u64 0, .int .u64 0, .int .u64 0, .int .u64 0, .int .u64 0, .int .u64 0, .int .u64 0, .int .u64 0, .int .u64 0, .int .u64 0])).run Try.prog w = .ok b w
theorem eqz (n : Int) (h0 : 0 ≤ n) (h : n < TOP) (b : Bool) (hb : decide (n = 0) = b) : EqZ n b := fun w => by rw [← hb]; exact eq_noughts n h0 h w
theorem norm_lt {a : List Int} (ha : Norm a) (hla : a.length = 10) : val a < TOP := by have := val_lt a ha; rwa [hla] at this

set_option maxHeartbeats 400000 in
/-- The greater size less the smaller one, with its sign. -/
theorem plus_ge (m m' : Bool) (hmm : (m == m') = false) (a b : List Int) (ha : Norm a) (hb : Norm b) (hla : a.length = 10) (hlb : b.length = 10) (hlt : val b ≤ val a) (w : World) :
    Calls Try.prog 29 #[.agg (ns m a), .agg (ns m' b)] w fun e w' => e = .returned (.agg (ns (m && decide (val b < val a)) (dg 10 (val a - val b)))) ∧ Below w.heap.size w w' := by
  have hsa : (ns m a).size = 11 := by rw [ns_size, hla]
  have hsb : (ns m' b).size = 11 := by rw [ns_size, hlb]
  have HA := Lib.hid ha; have HB := Lib.hid hb; have HLT := Lib.hid hlt
  have HLA := Lib.hid hla; have HLB := Lib.hid hlb
  have hc : 0 ≤ cmpI (val a) (val b) := by unfold cmpI; rw [if_neg (by omega)]; split <;> omega
  have h3 := hb.val_nonneg
  have h4 := norm_lt ha hla
  have HD0 : EqZ (val a - val b) (decide (val a - val b = 0)) := eqz _ (by omega) (by omega) _ rfl
  have HD : EqZ (val a - val b) (!decide (val b < val a)) := by
    rw [show (!decide (val b < val a)) = decide (val a - val b = 0) from by
      by_cases e : val b < val a
      · rw [decide_eq_true e, decide_eq_false (by omega)]; rfl
      · rw [decide_eq_false e, decide_eq_true (by omega)]; rfl]
    exact HD0
  clear ha hb hla hlb hlt h3 h4 HD0
  go_enter Try.func29, Try.ntmps29
  go_wp2_with (first | (refine ld_arr rfl _ rfl w.heap.size 1 rfl a HLA.out ?_ ?_; exact (Blk.digits ((((Blk.new _ _ (nu m a)).alloc _).alloc _)) HLA.out)) | (refine ld_arr rfl _ rfl (w.heap.size + 1) 1 rfl b HLB.out ?_ ?_; exact (Blk.digits ((Blk.new2 _ _ _ (nu m' b)).alloc _) HLB.out)) | fail)
  refine (less_any a b HA.out HB.out HLA.out HLB.out _).mono ?_
  rintro e w1 ⟨rfl, hb1⟩
  have hA1 : Blk w1 w.heap.size 69 (nu m a) := (((Blk.new _ _ _).alloc _).alloc _).keeps hb1
  have hB1 : Blk w1 (w.heap.size + 1) 69 (nu m' b) := ((Blk.new2 _ _ _ _).alloc _).keeps hb1
  have hR1 : Blk w1 (w.heap.size + 2) 69 (nu false z10) := (Blk.new3 _ _ _ _ (nu false z10)).keeps hb1
  have hBe : Below w.heap.size w w1 := below_on (below_new3 _ _ _ _) (by simp; omega) hb1
  clear hb1 hsa hsb
  generalize cmpI (val a) (val b) = c at *
  have HG1 := Lib.hid (hA1.digits HLA.out)
  have HG2 := Lib.hid (hB1.digits HLB.out)
  go_wp2_with (first | (refine ld_arr rfl _ rfl w.heap.size 1 rfl a HLA.out ?_ ?_; exact HG1.out) | (refine ld_arr rfl _ rfl (w.heap.size + 1) 1 rfl b HLB.out ?_ ?_; exact HG2.out) | fail)
  refine (minus_any a b HA.out HB.out HLA.out HLB.out HLT.out _).mono ?_
  rintro e w2 ⟨rfl, hb2⟩
  have hA2 := hA1.keeps hb2
  have hR2 := hR1.keeps hb2
  have hBe2 := below_on hBe hBe.size hb2
  clear hb2 hA1 hB1 hR1 hBe HG1 HG2 hc
  have HT1 := Lib.hid (hA2.digits_there HLA.out)
  have hA3 := hA2.setDigits (L := dg 10 (val a - val b)) HLA.out (len10 _)
  have hR3 := hR2.otherCells (b' := w.heap.size) (du (dg 10 (val a - val b))) 1 (by omega)
  have hBe3 := below_setCells (du (dg 10 (val a - val b))) 1 hBe2 (b := w.heap.size) (Nat.le_refl _)
  have HG3 := Lib.hid (hA3.digits (len10 _))
  clear hA2 hR2 hBe2 HLT
  generalize hv : decide (val b < val a) = lt at *
  have HV := Lib.hid hv
  clear hv
  generalize hn : val a - val b = n at *
  have HN := Lib.hid hn
  clear hn
  have hq : ∀ w : World, (Op.equalIn 10000 67 (.agg (ds (dg 10 n))) (.agg #[.int .u64 0, .int .u64 0, .int .u64 0, .int .u64 0, .int .u64 0, .int .u64 0, .int .u64 0, .int .u64 0, .int .u64 0, .int .u64 0])).run Try.prog w = .ok (!lt) w := HD
  clear HD
  have HLN := Lib.hid (len10 n)
  cases lt
  · have f3 := hA3.frozen 0
    have c3 := hA3.cell 0 (.bool m) rfl
    have hA4 := hA3.setSign false
    have hR4 := hR3.other ⟨w.heap.size, 0, none⟩ (.bool false) (by simp)
    have hBe4 := hBe3.setCell (p := ⟨w.heap.size, 0, none⟩) (Nat.le_refl _) (.bool false)
    have HT4 := Lib.hid (hR4.thereMid 0 11 (by decide))
    have HE := Lib.hid (hR4.setAll (nu false (dg 10 n)) (by rw [nu_len, len10]; rfl))
    go_wp2_with (first | (refine st_arr rfl _ _ rfl w.heap.size 1 rfl (dg 10 n) rfl HLN.out ?_ ?_; exact HT1.out) | (refine ld_arr rfl _ rfl w.heap.size 1 rfl (dg 10 n) HLN.out ?_ ?_; exact HG3.out) | (refine ld_num rfl _ rfl w.heap.size 0 rfl false (dg 10 n) HLN.out ?_ ?_; exact hA4.range) | (refine st_num rfl _ _ rfl (w.heap.size + 2) 0 rfl false (dg 10 n) rfl HLN.out ?_ ?_; exact HT4.out))
    exact bodyPost_ret (res_num rfl _ _ (w.heap.size + 2) false (dg 10 n) HLN.out rfl HE.out) rfl ⟨by rw [HV.out, HN.out, Bool.and_false], below_setCells _ _ hBe4 (by omega)⟩
  · have HT4 := Lib.hid (hR3.thereMid 0 11 (by decide))
    have HE := Lib.hid (hR3.setAll (nu m (dg 10 n)) (by rw [nu_len, len10]; rfl))
    go_wp2_with (first | (refine st_arr rfl _ _ rfl w.heap.size 1 rfl (dg 10 n) rfl HLN.out ?_ ?_; exact HT1.out) | (refine ld_arr rfl _ rfl w.heap.size 1 rfl (dg 10 n) HLN.out ?_ ?_; exact HG3.out) | (refine ld_num rfl _ rfl w.heap.size 0 rfl m (dg 10 n) HLN.out ?_ ?_; exact hA3.range) | (refine st_num rfl _ _ rfl (w.heap.size + 2) 0 rfl m (dg 10 n) rfl HLN.out ?_ ?_; exact HT4.out))
    exact bodyPost_ret (res_num rfl _ _ (w.heap.size + 2) m (dg 10 n) HLN.out rfl HE.out) rfl ⟨by rw [HV.out, HN.out, Bool.and_true], below_setCells _ _ hBe3 (by omega)⟩

set_option maxHeartbeats 400000 in
/-- The second one is greater: they are exchanged first. -/
theorem plus_lt (m m' : Bool) (hmm : (m == m') = false) (a b : List Int) (ha : Norm a) (hb : Norm b) (hla : a.length = 10) (hlb : b.length = 10) (hlt : val a < val b) (w : World) :
    Calls Try.prog 29 #[.agg (ns m a), .agg (ns m' b)] w fun e w' => e = .returned (.agg (ns m' (dg 10 (val b - val a)))) ∧ Below w.heap.size w w' := by
  have hsa : (ns m a).size = 11 := by rw [ns_size, hla]
  have hsb : (ns m' b).size = 11 := by rw [ns_size, hlb]
  have HA := Lib.hid ha; have HB := Lib.hid hb; have HLT := Lib.hid (Int.le_of_lt hlt)
  have HLA := Lib.hid hla; have HLB := Lib.hid hlb
  have HC := Lib.hid (cmpI_lt hlt)
  have h3 := ha.val_nonneg
  have h4 := norm_lt hb hlb
  have HD : EqZ (val b - val a) false := eqz _ (by omega) (by omega) _ (decide_eq_false (by omega))
  clear ha hb hla hlb hlt h3 h4
  go_enter Try.func29, Try.ntmps29
  go_wp2_with (first | (refine ld_arr rfl _ rfl w.heap.size 1 rfl a HLA.out ?_ ?_; exact (Blk.digits ((((Blk.new _ _ (nu m a)).alloc _).alloc _)) HLA.out)) | (refine ld_arr rfl _ rfl (w.heap.size + 1) 1 rfl b HLB.out ?_ ?_; exact (Blk.digits ((Blk.new2 _ _ _ (nu m' b)).alloc _) HLB.out)) | fail)
  refine (less_any a b HA.out HB.out HLA.out HLB.out _).mono ?_
  rintro e w1 ⟨rfl, hb1⟩
  rw [HC.out]
  have hA1 : Blk w1 w.heap.size 69 (nu m a) := (((Blk.new _ _ _).alloc _).alloc _).keeps hb1
  have hB1 : Blk w1 (w.heap.size + 1) 69 (nu m' b) := ((Blk.new2 _ _ _ _).alloc _).keeps hb1
  have hR1 : Blk w1 (w.heap.size + 2) 69 (nu false z10) := (Blk.new3 _ _ _ _ (nu false z10)).keeps hb1
  have hBe : Below w.heap.size w w1 := below_on (below_new3 _ _ _ _) (by simp; omega) hb1
  clear hb1 hsa hsb HC
  have HTA := Lib.hid (hA1.thereMid 0 11 (by rw [nu_len, HLA.out]; decide))
  have hA2 := hA1.setAll (nu m' b) (by rw [nu_len, nu_len, HLA.out, HLB.out])
  have hB2 := hB1.otherCells (b' := w.heap.size) (nu m' b) 0 (by omega)
  have hR2 := hR1.otherCells (b' := w.heap.size) (nu m' b) 0 (by omega)
  have hBe2 := below_setCells (nu m' b) 0 hBe (b := w.heap.size) (Nat.le_refl _)
  have HTB := Lib.hid (hB2.thereMid 0 11 (by rw [nu_len, HLB.out]; decide))
  have hB3 := hB2.setAll (nu m a) (by rw [nu_len, nu_len, HLA.out, HLB.out])
  have hA3 := hA2.otherCells (b' := w.heap.size + 1) (nu m a) 0 (by omega)
  have hR3 := hR2.otherCells (b' := w.heap.size + 1) (nu m a) 0 (by omega)
  have hBe3 := below_setCells (nu m a) 0 hBe2 (b := w.heap.size + 1) (by omega)
  have HG1 := Lib.hid (hA3.digits HLB.out)
  have HG2 := Lib.hid (hB3.digits HLA.out)
  clear hA2 hB2 hR2 hBe2 hBe hR1
  go_wp2_with (first | (refine ld_num rfl _ rfl (w.heap.size + 1) 0 rfl m' b HLB.out ?_ ?_; exact hB1.range) | (refine ld_num rfl _ rfl w.heap.size 0 rfl m a HLA.out ?_ ?_; exact hA1.range) | (refine st_num rfl _ _ rfl w.heap.size 0 rfl m' b rfl HLB.out ?_ ?_; exact HTA.out) | (refine st_num rfl _ _ rfl (w.heap.size + 1) 0 rfl m a rfl HLA.out ?_ ?_; exact HTB.out) | (refine ld_arr rfl _ rfl w.heap.size 1 rfl b HLB.out ?_ ?_; exact HG1.out) | (refine ld_arr rfl _ rfl (w.heap.size + 1) 1 rfl a HLA.out ?_ ?_; exact HG2.out) | fail)
  refine (minus_any b a HB.out HA.out HLB.out HLA.out HLT.out _).mono ?_
  rintro e w2 ⟨rfl, hb2⟩
  have hA4 := hA3.keeps hb2
  have hR4 := hR3.keeps hb2
  have hBe4 := below_on hBe3 hBe3.size hb2
  clear hb2 hA1 hB1 hA3 hB3 hR3 hBe3 HG1 HG2 HTA HTB
  have HT1 := Lib.hid (hA4.digits_there HLB.out)
  have hA5 := hA4.setDigits (L := dg 10 (val b - val a)) HLB.out (len10 _)
  have hR5 := hR4.otherCells (b' := w.heap.size) (du (dg 10 (val b - val a))) 1 (by omega)
  have hBe5 := below_setCells (du (dg 10 (val b - val a))) 1 hBe4 (b := w.heap.size) (Nat.le_refl _)
  have HG3 := Lib.hid (hA5.digits (len10 _))
  clear hA4 hR4 hBe4 HLT
  generalize hn : val b - val a = n at *
  have HN := Lib.hid hn
  clear hn
  have hq : ∀ w : World, (Op.equalIn 10000 67 (.agg (ds (dg 10 n))) (.agg #[.int .u64 0, .int .u64 0, .int .u64 0, .int .u64 0, .int .u64 0, .int .u64 0, .int .u64 0, .int .u64 0, .int .u64 0, .int .u64 0])).run Try.prog w = .ok false w := HD
  clear HD
  have HLN := Lib.hid (len10 n)
  have HT4 := Lib.hid (hR5.thereMid 0 11 (by decide))
  have HE := Lib.hid (hR5.setAll (nu m' (dg 10 n)) (by rw [nu_len, len10]; rfl))
  go_wp2_with (first | (refine st_arr rfl _ _ rfl w.heap.size 1 rfl (dg 10 n) rfl HLN.out ?_ ?_; exact HT1.out) | (refine ld_arr rfl _ rfl w.heap.size 1 rfl (dg 10 n) HLN.out ?_ ?_; exact HG3.out) | (refine ld_num rfl _ rfl w.heap.size 0 rfl m' (dg 10 n) HLN.out ?_ ?_; exact hA5.range) | (refine st_num rfl _ _ rfl (w.heap.size + 2) 0 rfl m' (dg 10 n) rfl HLN.out ?_ ?_; exact HT4.out))
  exact bodyPost_ret (res_num rfl _ _ (w.heap.size + 2) m' (dg 10 n) HLN.out rfl HE.out) rfl ⟨by rw [HN.out], below_setCells _ _ hBe5 (by omega)⟩

/-- The sum of whole numbers. -/
theorem plus_any (x y : Int) (hf : absI x + absI y < TOP) (w : World) :
    Calls Try.prog 29 #[.agg (N x), .agg (N y)] w fun e w' => e = .returned (.agg (N (x + y))) ∧ Below w.heap.size w w' := by
  have hx := absI_nonneg x
  have hy := absI_nonneg y
  have vx := val10 hx (by omega)
  have vy := val10 hy (by omega)
  have nx := norm10 (absI x)
  have ny := norm10 (absI y)
  by_cases hs : decide (x < 0) = decide (y < 0)
  · have h := plus_same (decide (x < 0)) (dg 10 (absI x)) (dg 10 (absI y)) nx ny (len10 _) (len10 _) (by rw [vx, vy]; exact hf) w
    rw [vx, vy] at h
    have e : N (x + y) = ns (decide (x < 0)) (dg 10 (absI x + absI y)) := by
      by_cases hx0 : x < 0
      · have hy0 : y < 0 := by rw [decide_eq_true hx0] at hs; exact of_decide_eq_true hs.symm
        rw [N_neg (by omega), decide_eq_true hx0, absI_neg hx0, absI_neg hy0, show -(x + y) = -x + -y from by omega]
      · have hy0 : ¬ y < 0 := by rw [decide_eq_false hx0] at hs; exact of_decide_eq_false hs.symm
        rw [N_pos (by omega), decide_eq_false hx0, absI_pos (by omega), absI_pos (by omega)]
    rw [e]
    have ey : N y = ns (decide (x < 0)) (dg 10 (absI y)) := by unfold N; rw [hs]
    rw [ey]
    exact h
  · have hmm : (decide (x < 0) == decide (y < 0)) = false := by simp [hs]
    by_cases hlt : absI x < absI y
    · have h := plus_lt (decide (x < 0)) (decide (y < 0)) hmm (dg 10 (absI x)) (dg 10 (absI y)) nx ny (len10 _) (len10 _) (by rw [vx, vy]; exact hlt) w
      rw [vx, vy] at h
      have e : N (x + y) = ns (decide (y < 0)) (dg 10 (absI y - absI x)) := by
        by_cases hx0 : x < 0
        · have hy0 : ¬ y < 0 := fun hc => hs (by rw [decide_eq_true hx0, decide_eq_true hc])
          rw [absI_neg hx0, absI_pos (by omega)] at hlt
          rw [N_pos (by omega), decide_eq_false hy0, absI_neg hx0, absI_pos (by omega), show y - -x = x + y from by omega]
        · have hy0 : y < 0 := by
            by_cases hc : y < 0
            · exact hc
            · exact absurd (by rw [decide_eq_false hx0, decide_eq_false hc]) hs
          rw [absI_pos (z := x) (by omega), absI_neg hy0] at hlt
          rw [N_neg (by omega), decide_eq_true hy0, absI_pos (z := x) (by omega), absI_neg hy0, show -(x + y) = -y - x from by omega]
      rw [e]
      exact h
    · have h := plus_ge (decide (x < 0)) (decide (y < 0)) hmm (dg 10 (absI x)) (dg 10 (absI y)) nx ny (len10 _) (len10 _) (by rw [vx, vy]; omega) w
      rw [vx, vy] at h
      have e : N (x + y) = ns (decide (x < 0) && decide (absI y < absI x)) (dg 10 (absI x - absI y)) := by
        by_cases hx0 : x < 0
        · have hy0 : ¬ y < 0 := fun hc => hs (by rw [decide_eq_true hx0, decide_eq_true hc])
          rw [absI_neg hx0, absI_pos (by omega)] at hlt ⊢
          by_cases hz : y < -x
          · rw [N_neg (by omega), decide_eq_true hx0, decide_eq_true hz, show -(x + y) = -x - y from by omega]; rfl
          · rw [N_pos (by omega), decide_eq_true hx0, decide_eq_false hz, show -x - y = x + y from by omega]; rfl
        · have hy0 : y < 0 := by
            by_cases hc : y < 0
            · exact hc
            · exact absurd (by rw [decide_eq_false hx0, decide_eq_false hc]) hs
          rw [absI_pos (z := x) (by omega), absI_neg hy0] at hlt ⊢
          rw [N_pos (by omega), decide_eq_false hx0, show x - -y = x + y from by omega]; rfl
      rw [e]
      exact h
end Go.Proofs.Yteghjdmalbcdfaa
