/-
  The walks of the next float: the reference's, and the reader's.
-/
import Derived.Test.YtoafkjilkfohjaaRefTake2
set_option linter.unusedVariables false
set_option linter.unusedSimpArgs false
namespace Go.Proofs.Ytoafkjilkfohjaa
open Go.RowKit

theorem rdTk8 {L : List UInt8} {f : Bool} (h : 8 ≤ L.length) : rdTk 8 L f = (L.take 8, L.drop 8, f) := by unfold rdTk; rw [if_pos h]
/-- The number of some bytes, the lowest first. -/
def v256 : List UInt8 → Nat
  | [] => 0
  | c :: r => v256 r * 256 + c.toNat
theorem v256_lt : ∀ L, v256 L < 256 ^ L.length
  | [] => by decide
  | c :: r => by
    have := v256_lt r
    have := c.toNat_lt
    rw [v256, List.length_cons, Nat.pow_succ]; omega
theorem v256_on : ∀ (A : List UInt8) (c : UInt8), v256 (A ++ [c]) = v256 A + c.toNat * 256 ^ A.length
  | [], c => by simp [v256]
  | a :: A, c => by
    rw [List.cons_append, v256, v256_on A c, v256, List.length_cons, Nat.pow_succ, Nat.add_mul, Nat.mul_assoc]; omega
theorem pow256 {n : Nat} (h : n ≤ 7) : 256 ^ n ≤ 72057594037927936 := by
  have : (256 : Nat) ^ n ≤ 256 ^ 7 := Nat.pow_le_pow_right (by decide) h
  simpa using this
theorem v256_in {L : List UInt8} (h : L.length ≤ 8) : v256 L < 18446744073709551616 := by
  have h1 := v256_lt L
  have : (256 : Nat) ^ L.length ≤ 256 ^ 8 := Nat.pow_le_pow_right (by decide) h
  have e : (256 : Nat) ^ 8 = 18446744073709551616 := by decide
  omega
theorem or_byte {k acc : Nat} {c : UInt8} (ha : acc < 256 ^ k) (hk : k ≤ 7) :
    bits .or .u64 (acc : Int) (IntKind.u64.wrap (IntKind.u64.wrap (c.toNat : Int) * 2 ^ (8 * k))) = ((acc + c.toNat * 256 ^ k : Nat) : Int) := by
  have hc := c.toNat_lt
  have hp := pow256 hk
  have e2 : (2 : Int) ^ (8 * k) = ((256 ^ k : Nat) : Int) := by rw [Int.pow_mul]; simp
  have hb : c.toNat * 256 ^ k ≤ 255 * 256 ^ k := Nat.mul_le_mul_right _ (by omega)
  rw [e2, IntKind.wrap_u64 (c.toNat : Int), show ((c.toNat : Nat) : Int) % 18446744073709551616 = (c.toNat : Int) from by omega, ← Int.natCast_mul, IntKind.wrap_u64, show ((c.toNat * 256 ^ k : Nat) : Int) % 18446744073709551616 = ((c.toNat * 256 ^ k : Nat) : Int) from by omega]
  rw [bits_join_low .u64 64 (by decide) wraps_u64 (8 * k) (acc : Int) _ (by omega) (by rw [e2]; omega) (by omega) (by omega) (by rw [e2, ← Int.natCast_emod, Nat.mul_mod_left]; rfl) (by omega)]
  omega
set_option maxRecDepth 8000 in
set_option maxHeartbeats 1600000 in
theorem tfloat_any (w : World) (v : Value) (L : List UInt8) (f : Bool) (h : RV w v L f) (hf : f = true → L = []) :
    Calls Try.prog 29 #[v] w fun e w' => ∃ v', e = .returned (.tuple #[v', .int .u64 (v256 (rdTk 8 L f).1)]) ∧ RV w' v' (rdTk 8 L f).2.1 (rdTk 8 L f).2.2 ∧ Below w.heap.size w w' := by
  obtain ⟨ao, cap, rfl, hs⟩ := h
  have hB1 := (Blk.new w 49 [.slice ao L.length cap, .bool f]).alloc (.cells #[.slice none 0 0, .bool false] 49)
  have hB2 := Blk.new2 w (.cells #[.slice ao L.length cap, .bool f] 49) 49 [.slice none 0 0, .bool false]
  have hBe := below_new2 w (.cells #[.slice ao L.length cap, .bool f] 49) (.cells #[.slice none 0 0, .bool false] 49)
  have R0 := hB1.cell 0 _ rfl; have R1 := hB1.cell 1 _ rfl
  have HB2 := Lib.hid hB2
  have HBe := Lib.hid hBe
  have HS := Lib.hid (hs.keeps hBe)
  have HS0 := Lib.hid hs
  clear hs hB1 hB2 hBe
  by_cases h8 : 8 ≤ L.length
  · have HK : Hid (rdTk 8 L f = (L.take 8, L.drop 8, f)) := by show _ = _; unfold rdTk; rw [if_pos h8]
    have Z0 := HB2.out.cell 0 _ rfl; have Z1 := HB2.out.cell 1 _ rfl; have Zf := HB2.out.frozen; have Zn := HB2.out.lt
    have hl8 : (L.take 8).length = 8 := by rw [List.length_take]; omega
    go_enter Try.func29, Try.ntmps29
    go_wp2
    go_loop [4, 5] (fun n i => ∃ j : Nat, j ≤ 8 ∧ i = .int .i64 ((j : Int) - 1) ∧ n = .int .u64 (v256 ((L.take 8).drop j) : Nat)) (fun _ i => (intOf i + 1).toNat)
    case atStart => exact ⟨8, Nat.le_refl _, rfl, by rw [List.drop_of_length_le (by omega)]; rfl⟩
    case round =>
      obtain ⟨j, hj, rfl, rfl⟩ := hrel
      rcases j with _ | j
      · rw [List.drop_zero]
        have hf0 : f = false := by
          cases f with
          | false => rfl
          | true => exact absurd (hf rfl) (by rintro rfl; simp at h8)
        subst hf0
        have h1 := from_sl HS0.out 8 h8
        rw [List.length_drop] at h1
        have H1 := Lib.hid h1
        clear h1
        go_wp2
        · have hc8 : cap = 8 := by assumption
          have h1 := H1.out
          unfold fromA at h1
          rw [if_pos hc8, hc8] at h1
          have hZ := Blk.new2 w (.cells #[.slice ao L.length 8, .bool false] 49) 49 [.slice ao (L.length - 8) 0, .bool false]
          have Y0 := hZ.cell 0 _ rfl; have Y1 := hZ.cell 1 _ rfl
          refine bodyPost_ret (v := .tuple #[.agg #[.slice ao (L.length - 8) 0, .bool false], .int .u64 (v256 (L.take 8))]) (by simp [results, Try.results29, go_sem, Y0, Y1]) rfl ⟨_, by rw [rdTk8 h8], ?_, below_new2 w _ _⟩
          rw [rdTk8 h8]
          exact ⟨ao, 0, by rw [List.length_drop], by rw [List.length_drop]; exact h1.keeps (below_new2 w _ _)⟩
        · have hc8 : ¬ cap = 8 := by assumption
          have h1 := H1.out
          unfold fromA at h1
          rw [if_neg hc8, show (fun x : Addr => x.add (8 * 1)) = fun x => ⟨x.block, x.off + 8, none⟩ from by funext x; simp [Addr.add]] at h1
          have hZ := Blk.new2 w (.cells #[.slice ao L.length cap, .bool false] 49) 49 [.slice (ao.map fun x => ⟨x.block, x.off + 8, none⟩) (L.length - 8) (cap - 8), .bool false]
          have Y0 := hZ.cell 0 _ rfl; have Y1 := hZ.cell 1 _ rfl
          refine bodyPost_ret (v := .tuple #[.agg #[.slice (ao.map fun x => ⟨x.block, x.off + 8, none⟩) (L.length - 8) (cap - 8), .bool false], .int .u64 (v256 (L.take 8))]) (by simp [results, Try.results29, go_sem, Y0, Y1]) rfl ⟨_, by rw [rdTk8 h8], ?_, below_new2 w _ _⟩
          rw [rdTk8 h8]
          exact ⟨_, _, by rw [List.length_drop], by rw [List.length_drop]; exact h1.keeps (below_new2 w _ _)⟩
      · obtain ⟨c, hc⟩ : ∃ c, L[j]? = some c := ⟨_, List.getElem?_eq_getElem (by omega)⟩
        have HV1 : Hid (v256 ((L.take 8).drop j) = v256 ((L.take 8).drop (j + 1)) * 256 + c.toNat) := by
          show _ = _
          have hlt : j < (L.take 8).length := by omega
          rw [List.drop_eq_getElem_cons hlt, v256]
          rw [List.getElem?_eq_getElem (by omega)] at hc
          rw [List.getElem_take, Option.some.inj hc]
        have hq0 := v256_lt ((L.take 8).drop (j + 1))
        have hq1 := pow256 (n := ((L.take 8).drop (j + 1)).length) (by rw [List.length_drop]; omega)
        obtain ⟨q, hq⟩ : ∃ q, v256 ((L.take 8).drop (j + 1)) = q := ⟨_, rfl⟩
        rw [hq] at HV1 hq0 ⊢
        have HQ1 : Hid (q < 72057594037927936) := Nat.lt_of_lt_of_le hq0 hq1
        have hcl := c.toNat_lt
        rw [show (((j + 1 : Nat) : Int) - 1) = (j : Int) from by omega]
        have HC := Lib.hid hc
        clear hq hc hq0 hq1
        go_wp2_with (refine ix_by rfl _ _ rfl _ rfl L ⟨_, _, rfl, HS.out⟩ j (by omega) rfl ?_; intro b off c' hck hcell; obtain rfl := Option.some.inj (HC.out.symm.trans hck))
        go_round
        · exact ⟨j, by omega, rfl, by rw [HV1.out]; exact congrArg (Value.int .u64) (by have := HQ1.out; simp only [IntKind.wrap_u64]; omega)⟩
        · simp [intOf]
  · have HK : Hid (rdTk 8 L f = ([], [], true)) := by show _ = _; unfold rdTk; rw [if_neg h8]
    go_enter Try.func29, Try.ntmps29
    go_wp2_with fail
    refine (failed6_any _).mono ?_
    rintro e w5 ⟨rfl, hb5⟩
    have HB2 := Lib.hid (HB2.out.keeps hb5)
    have Z0 := HB2.out.cell 0 _ rfl; have Z1 := HB2.out.cell 1 _ rfl; have Zf := HB2.out.frozen; have Zn := HB2.out.lt
    have HBW := Lib.hid (below_on HBe.out HBe.out.size hb5)
    clear hb5
    go_wp2
    have hZ := (HB2.out.set 0 (.slice none 0 0)).set 1 (.bool true)
    have Y0 := hZ.cell 0 _ rfl; have Y1 := hZ.cell 1 _ rfl
    refine bodyPost_ret (v := .tuple #[.agg #[.slice none 0 0, .bool true], .int .u64 0]) (by simp [results, Try.results29, go_sem, Y0, Y1]) rfl ⟨_, by rw [HK.out]; rfl, ?_, ?_⟩
    · rw [HK.out]
      exact ⟨none, 0, rfl, Sl.of_nil _⟩
    · exact (HBW.out.setCell (p := ⟨w.heap.size + 1, 0, none⟩) (by simp) _).setCell (p := ⟨w.heap.size + 1, 1, none⟩) (by simp) _
set_option maxRecDepth 8000 in
set_option maxHeartbeats 1600000 in
theorem rfloat_any (w : World) (r : Nat) (L : List UInt8) (f : Bool) (h : RdAt w r L f) :
    Calls Try.prog 31 #[.pointer (some ⟨r, 0, none⟩)] w fun e w' => e = .returned (.float .f64 (v256 (rdTk 8 L f).1)) ∧ RdAt w' r (rdTk 8 L f).2.1 (rdTk 8 L f).2.2 ∧ w.grownBy w' (some r) := by
  have HT := Lib.hid (take_any 8 (by decide) w r L f h)
  have hl8 : (rdTk 8 L f).1.length ≤ 8 := by unfold rdTk; split <;> simp <;> omega
  obtain ⟨q, hq⟩ : ∃ q, rdTk 8 L f = q := ⟨_, rfl⟩
  rw [hq] at HT hl8 ⊢
  clear hq h
  obtain ⟨M, R, g⟩ := q
  simp only at HT hl8 ⊢
  go_enter Try.func31, Try.ntmps31
  go_wp2_with fail
  refine HT.out.mono ?_
  rintro e w1 ⟨v, rfl, ⟨ao, cap, rfl, hs⟩, h1, h2⟩
  have HS := Lib.hid hs
  have HR := Lib.hid h1
  have HG := Lib.hid h2
  clear hs h1 h2 HT
  go_wp2
  go_loop [3, 9] (fun n i => ∃ k : Nat, k ≤ M.length ∧ i = .int .i64 k ∧ n = .int .u64 (v256 (M.take k) : Nat)) (fun _ i => M.length - (intOf i).toNat)
  case atStart => exact ⟨0, by omega, rfl, rfl⟩
  case round =>
    obtain ⟨k, hk, rfl, rfl⟩ := hrel
    by_cases hkl : k < M.length
    · obtain ⟨c, hc⟩ : ∃ c, M[k]? = some c := ⟨_, List.getElem?_eq_getElem hkl⟩
      have hv : v256 (M.take (k + 1)) = v256 (M.take k) + c.toNat * 256 ^ k := by
        obtain ⟨hk', hc'⟩ := List.getElem?_eq_some_iff.1 hc
        rw [List.take_succ_eq_append_getElem hk', hc', v256_on, List.length_take, show min k M.length = k from by omega]
      have hlt := v256_lt (M.take k)
      rw [List.length_take, show min k M.length = k from by omega] at hlt
      obtain ⟨q, hq⟩ : ∃ q, v256 (M.take k) = q := ⟨_, rfl⟩
      rw [hq] at hv hlt ⊢
      have HE := Lib.hid (or_byte (c := c) hlt (by omega))
      have HV := Lib.hid hv
      have HC := Lib.hid hc
      clear hq hv hlt hc
      go_wp2_with (refine ix_by rfl _ _ rfl _ rfl M ⟨_, _, rfl, HS.out⟩ k hkl rfl ?_; intro b off c' hck hcell; obtain rfl := Option.some.inj (HC.out.symm.trans hck))
      go_round
      · exact ⟨k + 1, by omega, by go_num, by rw [HV.out]; exact congrArg (Value.int .u64) HE.out⟩
      · simp [intOf]; omega
    · rw [List.take_of_length_le (by omega)]
      have hd := fun w => frombits_run (v256 M) w
      go_wp2
      go_ret
      exact ⟨rfl, HR.out, HG.out⟩
end Go.Proofs.Ytoafkjilkfohjaa
