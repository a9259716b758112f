/-
  The walk of the reference's carry: digits that may be too great become the digits of the same number.
-/
import Derived.Test.YteghjdmalbcdfaaArr
set_option linter.unusedVariables false
set_option linter.unusedSimpArgs false
namespace Go.Proofs.Yteghjdmalbcdfaa
open Go.RowKit Dg

set_option maxHeartbeats 400000 in
theorem carry_any (d : List Int) (hd : Small d) (w : World) :
    Calls Try.prog 36 #[.agg (ds d)] w fun e w' => e = .returned (.agg (ds (dg 10 (val d)))) ∧ Below w.heap.size w w' := by
  have hsz : (ds d).size = 10 := by rw [ds_size, hd.len]
  have HD := Lib.hid hd
  have H0 := Lib.hid (Carry.start hd)
  clear hd
  go_enter Try.func36, Try.ntmps36
  go_wp2
  go_loopw [3] (fun i wr => ∃ (k : Nat) (M : List Int), k ≤ 9 ∧ i = .int .i64 k ∧ Hid (Carry d k M) ∧ Blk wr w.heap.size 67 (du M) ∧ Below w.heap.size w wr ∧ Blk wr (w.heap.size + 1) 67 (du z10)) (fun i _ => 9 - (intOf i).toNat)
  case atStart => exact ⟨0, d, by omega, rfl, H0.out, (Blk.new _ _ _).alloc _, ((Below.refl _ _).alloc (by simp) _).alloc (by simp) _, ⟨heap_alloc2_new w _ _⟩⟩
  case round =>
    obtain ⟨k, M, hk, rfl, HM, hA, hB, hZ⟩ := hrel
    have hlen := HM.out.len
    by_cases hlt : k < 9
    · have c1 := hA.cell (k + 1) _ (du_at M (k + 1) (by omega))
      have c0 := hA.cell k _ (du_at M k (by omega))
      have f1 := hA.frozen (k + 1)
      have f0 := hA.frozen k
      have hA2 := (hA.set (k + 1) (.int .u64 (at_ M (k + 1) + at_ M k / 65536))).set k (.int .u64 (at_ M k % 65536))
      rw [du_set, du_set] at hA2
      have HS := Lib.hid (HM.out.step HD.out hlt)
      have b1 := HM.out.high (k + 1) (by omega)
      have b2 := HD.out.small (k + 1)
      rw [← b1] at b2
      obtain ⟨b00, b01⟩ := HM.out.here
      obtain ⟨b10, b11⟩ := b2
      clear b1
      go_wp2
      go_region
      go_wp2
      exact ⟨⟨k + 1, cstep k M, by omega, by go_num, HS, hA2.drew, ((hB.setCell (by simp) _).setCell (by simp) _).drew, ((hZ.other _ _ (by simp)).other _ _ (by simp)).drew⟩, by simp [intOf]; omega⟩
    · obtain rfl : k = 9 := by omega
      have hM : M = dg 10 (val d) := HM.out.done HD.out
      subst hM
      have ht := hZ.thereMid 0 10 (by decide)
      have HT := Lib.hid ht
      have HE := Lib.hid (hZ.setAll (du (dg 10 (val d))) (by rw [du_len, hlen]; rfl))
      have HL := Lib.hid hlen
      clear HM HD H0 hsz ht hlen
      go_wp2_with (first | (refine ld_arr rfl _ rfl w.heap.size 0 rfl _ HL.out hA.range ?_) | (refine st_arr rfl _ _ rfl (w.heap.size + 1) 0 rfl _ rfl HL.out HT.out ?_))
      exact bodyPost_ret (res_arr rfl _ _ (w.heap.size + 1) _ HL.out rfl HE.out) rfl ⟨rfl, below_setCells _ _ hB (by omega)⟩
end Go.Proofs.Yteghjdmalbcdfaa
