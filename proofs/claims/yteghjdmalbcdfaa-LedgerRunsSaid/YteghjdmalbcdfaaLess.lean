/-
  The walks of the reference's less, minus, half and shifted.
-/
import Derived.Test.YteghjdmalbcdfaaCarry
set_option linter.unusedVariables false
set_option linter.unusedSimpArgs false
namespace Go.Proofs.Yteghjdmalbcdfaa
open Go.RowKit Dg

theorem ret_int {k : IntKind} {a b : Int} (h : a = b) : Ending.returned (.int k a) = .returned (.int k b) := by rw [h]

set_option maxHeartbeats 400000 in
theorem less_any (a b : List Int) (ha : Norm a) (hb : Norm b) (hla : a.length = 10) (hlb : b.length = 10) (w : World) :
    Calls Try.prog 37 #[.agg (ds a), .agg (ds b)] w fun e w' => e = .returned (.int .i64 (cmpI (val a) (val b))) ∧ Below w.heap.size w w' := by
  have hsa : (ds a).size = 10 := by rw [ds_size, hla]
  have hsb : (ds b).size = 10 := by rw [ds_size, hlb]
  have HA := Lib.hid ha; have HB := Lib.hid hb
  clear ha hb
  go_enter Try.func37, Try.ntmps37
  go_wp2
  go_loopw [5] (fun i wr => ∃ (k : Nat), k ≤ 10 ∧ i = .int .i64 ((k : Int) - 1) ∧ Hid (∀ j, k ≤ j → at_ a j = at_ b j) ∧ Blk wr w.heap.size 67 (du a) ∧ Below w.heap.size w wr ∧ Blk wr (w.heap.size + 1) 67 (du b)) (fun i _ => (intOf i + 1).toNat)
  case atStart => exact ⟨10, by omega, rfl, fun j hj => by rw [at_ge a j (by omega), at_ge b j (by omega)], (Blk.new _ _ _).alloc _, below_new2 _ _ _, ⟨heap_alloc2_new w _ _⟩⟩
  case round =>
    obtain ⟨k, hk, rfl, HE, hA, hB, hZ⟩ := hrel
    by_cases hpos : 0 < k
    · obtain ⟨j, rfl⟩ : ∃ j, k = j + 1 := ⟨k - 1, by omega⟩
      rw [show (((j + 1 : Nat) : Int) - 1) = (j : Int) from by omega]
      have c1 := hA.cell j _ (du_at a j (by omega))
      have c2 := hZ.cell j _ (du_at b j (by omega))
      rcases Int.lt_trichotomy (at_ a j) (at_ b j) with hc | hc | hc
      · have HL := Lib.hid (cmpI_lt (val_less a b j (by omega) HA.out HB.out (by omega) hc (fun i hi => HE.out i (by omega))))
        have hd : decide (at_ a j < at_ b j) = true := decide_eq_true hc
        go_wp2
        go_quiet (fail)
        go_wp2
        go_ret
        exact ⟨ret_int HL.out.symm, by repeat (first | with_reducible exact hB | refine pw_belowN ?_ _)⟩
      · have HL := Lib.hid hc
        have hd : decide (at_ a j < at_ b j) = false := decide_eq_false (by omega)
        have hd2 : decide (at_ b j < at_ a j) = false := decide_eq_false (by omega)
        clear hc
        go_wp2
        go_quiet (fail)
        go_wp2
        go_quiet (fail)
        go_wp2
        refine ⟨⟨j, by omega, rfl, fun i hi => ?_, hA.drewN _, pw_belowN hB _, hZ.drewN _⟩, by simp only [intOf]; omega⟩
        by_cases e : i = j
        · subst e; exact HL.out
        · exact HE.out i (by omega)
      · have HL := Lib.hid (cmpI_gt (val_less b a j (by omega) HB.out HA.out (by omega) hc (fun i hi => (HE.out i (by omega)).symm)))
        have hd : decide (at_ a j < at_ b j) = false := decide_eq_false (by omega)
        have hd2 : decide (at_ b j < at_ a j) = true := decide_eq_true hc
        go_wp2
        go_quiet (fail)
        go_wp2
        go_quiet (fail)
        go_wp2
        go_ret
        exact ⟨ret_int HL.out.symm, by repeat (first | with_reducible exact hB | refine pw_belowN ?_ _)⟩
    · obtain rfl : k = 0 := by omega
      have HL := Lib.hid (cmpI_eq (val_same a b (by omega) (fun j hj => HE.out j (by omega))))
      go_wp2
      go_ret
      exact ⟨ret_int HL.out.symm, hB⟩

/-! ### minus -/
set_option maxHeartbeats 400000 in
theorem minus_any (a b : List Int) (ha : Norm a) (hb : Norm b) (hla : a.length = 10) (hlb : b.length = 10) (hle : val b ≤ val a) (w : World) :
    Calls Try.prog 38 #[.agg (ds a), .agg (ds b)] w fun e w' => e = .returned (.agg (ds (dg 10 (val a - val b)))) ∧ Below w.heap.size w w' := by
  have hsa : (ds a).size = 10 := by rw [ds_size, hla]
  have hsb : (ds b).size = 10 := by rw [ds_size, hlb]
  have HA := Lib.hid ha; have HB := Lib.hid hb; have HLE := Lib.hid hle
  clear ha hb hle
  go_enter Try.func38, Try.ntmps38
  go_wp2
  go_loopw [5, 8] (fun c i wr => ∃ (k : Nat) (x : Int) (M : List Int), k ≤ 10 ∧ i = .int .i64 k ∧ c = .int .u64 x ∧ Hid (Minus a b k x M) ∧ Blk wr w.heap.size 67 (du M) ∧ Below w.heap.size w wr ∧ Blk wr (w.heap.size + 1) 67 (du b) ∧ Blk wr (w.heap.size + 2) 67 (du z10)) (fun _ i _ => 10 - (intOf i).toNat)
  case atStart =>
    exact ⟨0, 0, a, by omega, rfl, rfl, Minus.start hla, ((Blk.new _ _ _).alloc _).alloc _, below_new3 _ _ _ _, (Blk.new2 _ _ _ _).alloc _, Blk.new3 _ _ _ _ _⟩
  case round =>
    obtain ⟨k, x, M, hk, rfl, rfl, HM, hA, hB, hZ, hR⟩ := hrel
    have hlen := HM.out.len
    by_cases hlt : k < 10
    · have c1 := hA.cell k _ (du_at M k (by omega))
      have c2 := hZ.cell k _ (du_at b k (by omega))
      have f1 := hA.frozen k
      have HS := Lib.hid (HM.out.step HA.out HB.out hla hlb hlt)
      have h1 := HM.out.high k (by omega)
      have h2 := HA.out k (by omega)
      rw [← h1] at h2
      obtain ⟨b1, b2⟩ := h2
      obtain ⟨b3, b4⟩ := HB.out k (by omega)
      obtain ⟨b5, b6⟩ := HM.out.bit
      clear h1
      go_wp2
      go_quiet (fail)
      go_wp2
      exact ⟨⟨k + 1, _, _, by omega, by go_num, rfl, HS, (hA.drewN _).du_set k _, (pw_belowN hB _).setCell (by simp) _, (hZ.drewN _).other _ _ (by simp), (hR.drewN _).other _ _ (by simp)⟩, by simp only [intOf]; omega⟩
    · obtain rfl : k = 10 := by omega
      have hM : M = dg 10 (val a - val b) := HM.out.done HA.out hla hlb HLE.out HB.out.val_nonneg
      subst hM
      have HT := Lib.hid (hR.thereMid 0 10 (by decide))
      have HE := Lib.hid (hR.setAll (du (dg 10 (val a - val b))) (by rw [du_len, hlen]; rfl))
      have HL := Lib.hid hlen
      clear HM HA HB HLE hsa hsb hlen
      go_wp2_with (first | (refine ld_arr rfl _ rfl w.heap.size 0 rfl _ HL.out hA.range ?_) | (refine st_arr rfl _ _ rfl (w.heap.size + 2) 0 rfl _ rfl HL.out HT.out ?_))
      exact bodyPost_ret (res_arr rfl _ _ (w.heap.size + 2) _ HL.out rfl HE.out) rfl ⟨rfl, below_setCells _ _ hB (by omega)⟩

/-! ### half -/
end Go.Proofs.Yteghjdmalbcdfaa
