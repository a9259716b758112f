/-
  The walk of ledger.Right.
-/
import Derived.Test.YteghjdmalbcdfaaLgR
import Derived.Test.YteghjdmalbcdfaaSumB
set_option linter.unusedVariables false
set_option linter.unusedSimpArgs false
namespace Go.Proofs.Yteghjdmalbcdfaa
open Go.RowKit Dg

set_option maxRecDepth 8000 in
set_option maxHeartbeats 3200000 in
theorem lg_any (w : World) (ao : Option Addr) (cap : Nat) (L : List Lg) (h : SlG w ao cap L) (hl : L.length ≤ 100000) (hr : ∀ t ∈ L, -9223372036854775808 ≤ t.2 ∧ t.2 ≤ 9223372036854775807) (v : Bool) (hv : rightG L = v) :
    Calls Try.prog 22 #[.slice ao L.length cap] w fun e w' => e = .returned (.bool v) ∧ Below w.heap.size w w' := by
  by_cases h2 : 2 ≤ L.length
  · by_cases h16 : L.length ≤ 16
    · have HV := Lib.hid hv
      clear hv
      go_enter Try.func22, Try.ntmps22
      go_wp2
      go_loopw [17] (fun i wr => ∃ (k : Nat), k ≤ L.length ∧ i = .int .i64 k ∧ Hid ((L.take k).all okLg = true) ∧ Below w.heap.size w wr) (fun i _ => L.length - (intOf i).toNat)
      case atStart => exact ⟨0, by omega, rfl, rfl, Below.refl _ _⟩
      case round =>
        obtain ⟨k, hk, rfl, HK, hb⟩ := hrel
        by_cases hkl : k < L.length
        · obtain ⟨⟨a, x⟩, hx⟩ : ∃ x, L[k]? = some x := ⟨_, List.getElem?_eq_getElem hkl⟩
          have hm := List.mem_of_getElem? hx
          have hw := h.keeps (hb.mono (Nat.le_refl _))
          have HX := Lib.hid hx
          have HB0 := Lib.hid (hb.alloc hb.size (.cells #[.int .i64 a, .int .i64 x] 48))
          by_cases hok : okLg (a, x) = true
          · have HAN := Lib.hid (all_takeG hx HK.out hok)
            rw [okLg_iff] at hok
            obtain ⟨a0, a1, x0⟩ := hok
            have a0' : ¬ a < 0 := by omega
            have a1' : ¬ 8 ≤ a := by omega
            replace x0 : ¬ x = 0 := x0
            clear hx hm
            go_wp2_with (first | (refine ix_lg rfl _ _ rfl ao cap L hw rfl k _ HX.out rfl ?_; intro b off c0 c1))
            go_roundw
            · exact ⟨k + 1, by omega, by go_num, HAN, HB0.out⟩
            · simp [intOf]; omega
          · have HF : Hid (v = false) := by show _ = _; rw [← HV.out]; exact rightG_not hm (by simpa using hok)
            have h3 : a < 0 ∨ (0 ≤ a ∧ 8 ≤ a) ∨ (0 ≤ a ∧ a ≤ 7 ∧ x = 0) := by
              rw [okLg_iff] at hok
              simp only [ne_eq, Classical.not_and_iff_not_or_not, Classical.not_not] at hok
              omega
            clear hok hx hm
            rcases h3 with h3 | ⟨h3, h4⟩ | ⟨h3, h4, rfl⟩
            all_goals
              go_wp2_with (first | (refine ix_lg rfl _ _ rfl ao cap L hw rfl k _ HX.out rfl ?_; intro b off c0 c1))
              go_ret
              exact ⟨by rw [HF.out]; rfl, HB0.out⟩
        · obtain rfl : k = L.length := by omega
          have hK := HK.out
          rw [List.take_length] at hK
          have hs := sumG_in hr
          have HA := Lib.hid (amounts_any wr ao cap L (h.keeps (hb.mono (Nat.le_refl _))) (by omega))
          have HS := Lib.hid (fun W ao cap (h : Sl W ao (L.map (·.2)).length cap (ic (L.map (·.2)))) => sum_any W ao cap (L.map (·.2)) h (by simp; omega) (fun x hx => by obtain ⟨t, ht, rfl⟩ := List.mem_map.1 hx; exact hr t ht))
          have hcut : ((cutI (sumG L)).2 = 0 ∧ (cutI (sumG L)).1 = 0) ↔ sumG L = 0 := by
            unfold cutI; split
            · simp
            · simp; omega
          rw [show sumI (L.map (·.2)) = sumG L from rfl] at HS
          have HE : Hid (v = (decide ((cutI (sumG L)).2 = 0) && decide ((cutI (sumG L)).1 = 0))) := by
            show _ = _
            rw [← HV.out]; unfold rightG; rw [hK, Bool.eq_iff_iff]; simp only [h2, h16, decide_true, Bool.and_true, Bool.true_and, Bool.and_eq_true, decide_eq_true_eq]; exact hcut.symm
          obtain ⟨c, hc⟩ : ∃ c, (cutI (sumG L)).1 = c := ⟨_, rfl⟩
          obtain ⟨d, hd⟩ : ∃ d, (cutI (sumG L)).2 = d := ⟨_, rfl⟩
          rw [hc, hd] at HE HS
          obtain ⟨M, hM⟩ : ∃ M, L.map (·.2) = M := ⟨_, rfl⟩
          rw [hM] at HA HS
          clear hs hK hcut hc hd HV hM
          go_wp2_with fail
          refine HA.out.mono ?_
          rintro e w1 ⟨v1, rfl, ho1, hb1⟩
          have HB1 := Lib.hid (below_on hb hb.size hb1)
          obtain ⟨ao1, cap1, rfl, hs1⟩ := OwI.sl ho1
          have HS1 := Lib.hid (HS.out w1 ao1 cap1 hs1)
          clear ho1 hs1 hb1 HS
          go_wp2_with fail
          refine HS1.out.mono ?_
          rintro e w2 ⟨rfl, rfl⟩
          go_wp2
          all_goals
            go_ret
            exact ⟨by rw [HE.out]; simp [beq_dec]; try omega, HB1.out⟩
    · have HF : Hid (v = false) := by show _ = _; rw [← hv]; unfold rightG; simp [h16]
      have hroom := h.room
      clear hv h
      go_enter Try.func22, Try.ntmps22
      go_wp2
      go_ret
      exact ⟨by rw [HF.out]; rfl, Below.refl _ _⟩
  · have HF : Hid (v = false) := by show _ = _; rw [← hv]; unfold rightG; simp [h2]
    have hroom := h.room
    clear hv h
    go_enter Try.func22, Try.ntmps22
    go_wp2
    go_ret
    exact ⟨by rw [HF.out]; rfl, Below.refl _ _⟩
end Go.Proofs.Yteghjdmalbcdfaa
