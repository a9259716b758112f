/-
  The walks of the reference's Compare and Cut.
-/
import Derived.Test.YteghjdmalbcdfaaInv
import Derived.Test.YteghjdmalbcdfaaPlus
set_option linter.unusedVariables false
set_option linter.unusedSimpArgs false
set_option maxRecDepth 20000
namespace Go.Proofs.Yteghjdmalbcdfaa
open Go.RowKit Dg

/-- The number's cells. -/
def nl (z : Int) : List Value := nu (decide (z < 0)) (dg 10 (absI z))
theorem nl_N (z : Int) : (nl z).toArray = N z := rfl
theorem nl_len (z : Int) : (nl z).length = 11 := by unfold nl; rw [nu_len, len10]
theorem nl_one (z : Int) : (N z).all (·.oneCell') = true := ns_all _ _
theorem info_nl (z : Int) : (Try.prog.info? 69).map (·.size) = some (nl z).length := by rw [nl_len]; exact info_num
theorem info_N (z : Int) : (Try.prog.info? 69).map (·.size) = some (N z).size := by rw [show (N z).size = 11 from by show (nl z).toArray.size = 11; simp [nl_len]]; exact info_num
theorem N_size (z : Int) : (N z).size = 11 := by show (nl z).toArray.size = 11; simp [nl_len]
theorem Blk.num {w : World} {b : Nat} {z : Int} (h : Blk w b 69 (nl z)) : w.rangeAt b 0 (nl z) := h.range
theorem range_below {w w' : World} {b o : Nat} {cs : List Value} (h : w.rangeAt b o cs) (hb : Below w.heap.size w w') : w'.rangeAt b o cs := fun j v hv => by
  have := h j v hv
  rw [hb.cell (World.block_lt_of_cell? w _ this)]
  exact this

/-- What stands while Compare's great region runs. -/
def CmpInv (w : World) (x y : Int) (L : Nat → Bool) (a : Act) (w' : World) : Prop :=
  ∃ u5 u6 u7 u8 u9 : Value, a = ⟨#[.agg (N x), .agg (N y), .pointer (some ⟨w.heap.size, 0, none⟩), .pointer (some ⟨w.heap.size + 1, 0, none⟩), .int .i64 0, u5, u6, u7, u8, u9, undef, undef, undef, undef, undef, undef], []⟩ ∧
    Blk w' w.heap.size 69 (nl x) ∧ Blk w' (w.heap.size + 1) 69 (nl y) ∧ Below w.heap.size w w' ∧
    (L 0 = true → u6 = .agg (N x)) ∧ (L 1 = true → u7 = .agg (N y)) ∧ (L 2 = true → u8 = .agg (N (-y))) ∧ (L 3 = true → u9 = .agg (N (x + -y))) ∧
    (L 4 = true → ∃ b, u5 = .pointer (some ⟨b, 0, none⟩) ∧ w.heap.size + 1 < b ∧ Blk w' b 69 (nl (if L 5 = true then x + -y else 0))) ∧ (L 5 = true → L 4 = true)
set_option maxHeartbeats 800000 in
set_option maxRecDepth 16000 in
theorem compare_any (x y : Int) (hf : absI x + absI y < TOP) (w : World) :
    Calls Try.prog 34 #[.agg (N x), .agg (N y)] w fun e w' => e = .returned (.int .i64 (cmpI x y)) ∧ Below w.heap.size w w' := by
  have hsa := N_size x
  have hsb := N_size y
  go_enter Try.func34, Try.ntmps34
  go_wp2
  refine region_inv (by kernel_rfl) (by kernel_rfl) (CmpInv w x y) ?_ ?_ ?_
  · exact ⟨undef, undef, undef, undef, undef, rfl, ((Blk.new _ _ (nl x)).alloc _).drew, (Blk.new2 w _ 69 (nl y)).drew, (below_new2 _ _ _).drew, nofun, nofun, nofun, nofun, nofun, nofun⟩
  · intro i o L a w' hi hL hd hI K hK
    obtain ⟨u5, u6, u7, u8, u9, rfl, hA, hB, hBe, h0, h1, h2, h3, h4, h54⟩ := hI
    have hlt : i < 6 := (Array.getElem?_eq_some_iff.1 hi).1
    have hf1 : absI y < TOP := by have := absI_nonneg x; omega
    have hf2 : absI x + absI (-y) < TOP := by unfold absI at *; split at hf <;> split at hf <;> split <;> split <;> omega
    rcases i with _ | _ | _ | _ | _ | _ | i
    · obtain rfl := Option.some.inj (show some _ = some o from hi)
      rw [if_pos (by rfl)]
      exact wp_load_mid _ _ rfl w.heap.size 0 rfl (nl x) _ hA.range Try.underlying69 rfl (info_nl x) (hK _ _ ⟨u5, _, u7, u8, u9, rfl, hA, hB, hBe, fun _ => rfl, h1, h2, h3, h4, h54⟩)
    · obtain rfl := Option.some.inj (show some _ = some o from hi)
      rw [if_pos (by rfl)]
      exact wp_load_mid _ _ rfl (w.heap.size + 1) 0 rfl (nl y) _ hB.range Try.underlying69 rfl (info_nl y) (hK _ _ ⟨u5, u6, _, u8, u9, rfl, hA, hB, hBe, h0, fun _ => rfl, h2, h3, h4, h54⟩)
    · obtain rfl := Option.some.inj (show some _ = some o from hi)
      rw [if_pos (by rfl)]
      obtain rfl := h1 (hd ⟨1, .data⟩ (by simp) rfl)
      go_simp
      refine (neg_any y hf1 _).mono ?_
      rintro e w1 ⟨rfl, hb⟩
      exact hK _ _ ⟨u5, u6, _, _, u9, rfl, hA.keeps hb, hB.keeps hb, below_on hBe hBe.size hb, h0, fun _ => rfl, fun _ => rfl, h3, fun h => by
        obtain ⟨b, e1, e2, e3⟩ := h4 h
        exact ⟨b, e1, e2, e3.keeps hb⟩, h54⟩
    · obtain rfl := Option.some.inj (show some _ = some o from hi)
      rw [if_pos (by rfl)]
      obtain rfl := h0 (hd ⟨0, .data⟩ (by simp) rfl)
      obtain rfl := h2 (hd ⟨2, .data⟩ (by simp) rfl)
      go_simp
      refine (plus_any x (-y) hf2 _).mono ?_
      rintro e w1 ⟨rfl, hb⟩
      exact hK _ _ ⟨u5, _, u7, _, _, rfl, hA.keeps hb, hB.keeps hb, below_on hBe hBe.size hb, fun _ => rfl, h1, fun _ => rfl, fun _ => rfl, fun h => by
        obtain ⟨b, e1, e2, e3⟩ := h4 h
        exact ⟨b, e1, e2, e3.keeps hb⟩, h54⟩
    · obtain rfl := Option.some.inj (show some _ = some o from hi)
      rw [if_pos (by rfl)]
      have h5 : L 5 = false := by
        cases h : L 5 with
        | false => rfl
        | true => rw [h54 h] at hL; cases hL
      go_simp
      exact hK _ _ ⟨_, u6, u7, u8, u9, rfl, hA.alloc _, hB.alloc _, hBe.alloc hBe.size _, h0, h1, h2, h3, fun _ => ⟨w'.heap.size, rfl, by have := hB.lt; omega, by
        show Blk _ _ _ (nl (if L 5 = true then x + -y else 0))
        rw [h5]
        exact Blk.new w' _ (nl 0)⟩, fun _ => rfl⟩
    · obtain rfl := Option.some.inj (show some _ = some o from hi)
      rw [if_pos (by rfl)]
      obtain ⟨b, rfl, e2, e3⟩ := h4 (hd ⟨4, .data⟩ (by simp) rfl)
      obtain rfl := h3 (hd ⟨3, .data⟩ (by simp) rfl)
      rw [hL] at e3
      refine wp_store_mid _ _ _ rfl b 0 (N (x + -y)) rfl rfl (by rw [N_size]; exact e3.thereMid 0 11 (by rw [nl_len]; decide)) (info_N _) (nl_one _) (hK _ _ ⟨_, u6, u7, u8, _, rfl, hA.otherCells _ _ (by omega), hB.otherCells _ _ (by omega), below_setCells _ _ hBe (by omega), h0, h1, h2, fun _ => rfl, fun _ => ⟨b, rfl, e2, e3.setAll (nl (x + -y)) (by rw [nl_len, nl_len])⟩, fun _ => hd ⟨4, .data⟩ (by simp) rfl⟩)
    · omega
  · intro L a w' hall hI
    obtain ⟨u5, u6, u7, u8, u9, rfl, hA, hB, hBe, h0, h1, h2, h3, h4, h54⟩ := hI
    obtain ⟨b, rfl, e2, e3⟩ := h4 (hall 4 (by decide))
    rw [hall 5 (by decide), if_pos rfl] at e3
    clear hall h0 h1 h2 h3 h4 h54 hA hB
    generalize hz : x + -y = z at *
    have HZ := Lib.hid hz
    have hzb : absI z < TOP := by rw [← hz]; unfold absI at *; split at hf <;> split at hf <;> split <;> omega
    have c0 := e3.cell 0 (.bool (decide (z < 0))) rfl
    have HG := Lib.hid (show w'.rangeAt b 1 (du (dg 10 (absI z))) from e3.digits (len10 _))
    have HLN := Lib.hid (len10 (absI z))
    have HQ : EqZ (absI z) (decide (absI z = 0)) := eqz _ (absI_nonneg z) hzb _ rfl
    clear hz hf hzb
    rcases Int.lt_trichotomy z 0 with h | h | h
    · have HC : Hid (cmpI x y = -1) := cmpI_lt (by have := HZ.out; omega)
      rw [decide_eq_true h] at c0
      clear HQ
      go_wp2
      go_ret
      exact ⟨ret_int HC.out.symm, hBe⟩
    · have HC : Hid (cmpI x y = 0) := cmpI_eq (by have := HZ.out; omega)
      rw [decide_eq_false (show ¬ z < 0 by omega)] at c0
      rw [decide_eq_true (show absI z = 0 by rw [h]; rfl)] at HQ
      clear h
      have hq : ∀ w : World, (Op.equalIn 10000 67 (.agg (ds (dg 10 (absI z)))) (.agg #[.int .u64 0, .int .u64 0, .int .u64 0, .int .u64 0, .int .u64 0, .int .u64 0, .int .u64 0, .int .u64 0, .int .u64 0, .int .u64 0])).run Try.prog w = .ok true w := HQ
      clear HQ
      go_wp2_with (first | (refine ld_arr rfl _ rfl b 1 rfl (dg 10 (absI z)) HLN.out ?_ ?_; exact HG.out))
      go_ret
      exact ⟨ret_int HC.out.symm, hBe⟩
    · have HC : Hid (cmpI x y = 1) := cmpI_gt (by have := HZ.out; omega)
      rw [decide_eq_false (show ¬ z < 0 by omega)] at c0
      rw [decide_eq_false (show ¬ absI z = 0 by rw [absI_pos (by omega)]; omega)] at HQ
      clear h
      have hq : ∀ w : World, (Op.equalIn 10000 67 (.agg (ds (dg 10 (absI z)))) (.agg #[.int .u64 0, .int .u64 0, .int .u64 0, .int .u64 0, .int .u64 0, .int .u64 0, .int .u64 0, .int .u64 0, .int .u64 0, .int .u64 0])).run Try.prog w = .ok false w := HQ
      clear HQ
      go_wp2_with (first | (refine ld_arr rfl _ rfl b 1 rfl (dg 10 (absI z)) HLN.out ?_ ?_; exact HG.out))
      go_ret
      exact ⟨ret_int HC.out.symm, hBe⟩
end Go.Proofs.Yteghjdmalbcdfaa
