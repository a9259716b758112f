/-
  The walk of pack.Float.
-/
import Derived.Test.YtoafkjilkfohjaaRefPut
set_option linter.unusedVariables false
set_option linter.unusedSimpArgs false
namespace Go.Proofs.Ytoafkjilkfohjaa
open Go.RowKit

/-- Floats as cells. -/
def fc (N : List Nat) : List Value := N.map fun n : Nat => Value.float .f64 n
theorem fc_len (N : List Nat) : (fc N).length = N.length := by simp [fc]
def fls (N : List Nat) : List UInt8 := N.flatMap fun n => fl n 8
theorem fls_take {N : List Nat} {k n : Nat} (h : N[k]? = some n) : fls (N.take (k + 1)) = fls (N.take k) ++ fl n 8 := by
  obtain ⟨hk, rfl⟩ := List.getElem?_eq_some_iff.1 h
  rw [List.take_succ_eq_append_getElem hk, fls, fls, List.flatMap_append]; simp
theorem fls_len (N : List Nat) : (fls N).length = 8 * N.length := by
  induction N with
  | nil => simp [fls]
  | cons n r ih =>
    simp only [fls, List.flatMap_cons, List.length_append, List.length_cons, fl_len] at ih ⊢
    omega
theorem info_f64 : (Try.prog.info? 38).map (fun i => (i.zero, i.size, i.bytes)) = some (some (.float .f64 0), 1, 8) := by kernel_rfl
theorem size_f64 (w : World) : (sizeOf 38).run Try.prog w = .ok 1 w := by
  obtain ⟨i, hi, _, hs, _⟩ := info_parts info_f64
  simp [sizeOf, typeInfo, hi, hs]
theorem shr_word (n k : Nat) : IntKind.u8.wrap ((n : Int) / 2 ^ (8 * k)) = ((UInt8.ofNat (n / 256 ^ k)).toNat : Int) := by
  have e : (2 : Int) ^ (8 * k) = ((256 ^ k : Nat) : Int) := by rw [Int.pow_mul]; simp
  rw [e, IntKind.wrap_u8, ← Int.natCast_ediv]
  simp
set_option maxRecDepth 8000 in
set_option maxHeartbeats 1600000 in
theorem pfloat_any (w : World) (v : Value) (B : List UInt8) (hB : SlB w v B) (ao : Option Addr) (cap : Nat) (N : List Nat) (hN : Sl w ao N.length cap (fc N)) (h64 : ∀ n ∈ N, n < 18446744073709551616) (hl : B.length + 10 * N.length ≤ 10000000000000) :
    Calls Try.prog 21 #[v, .slice ao N.length cap] w fun e w' => ∃ v', e = .returned v' ∧ OwB w' w.heap.size v' (B ++ fls N) ∧ Below w.heap.size w w' := by
  have HC := Lib.hid (clone_any w v B hB (by omega))
  clear hB
  go_enter Try.func21, Try.ntmps21
  go_wp2_with fail
  refine HC.out.mono ?_
  rintro e w1 ⟨v1, rfl, ho1, hb1⟩
  go_wp2
  go_loopw [5, 14] (fun x i wr => ∃ k : Nat, k ≤ N.length ∧ i = .int .i64 k ∧ OwB wr w.heap.size x (B ++ fls (N.take k)) ∧ Below w.heap.size w wr) (fun _ i _ => N.length - (intOf i).toNat)
  case atStart => exact ⟨0, by omega, rfl, by simpa [fls] using ho1, hb1⟩
  case round =>
    obtain ⟨k, hk, rfl, ho, hb⟩ := hrel
    by_cases hkl : k < N.length
    · obtain ⟨n, hn⟩ : ∃ n, N[k]? = some n := ⟨_, List.getElem?_eq_getElem hkl⟩
      have hn64 : n < 18446744073709551616 := h64 n (List.mem_of_getElem? hn)
      have HNk := Lib.hid hn
      have hlen : (fls (N.take k)).length ≤ 8 * k := by rw [fls_len, List.length_take]; omega
      have hNw := hN.keeps (hb.mono (Nat.le_refl _))
      have hd := fun w => bits_run n w
      have HO := Lib.hid ho
      have HB := Lib.hid hb
      clear hn ho hb
      go_wp2_with (first | (refine wpList_ix_sl rfl 37 38 _ _ rfl Try.underlying37 size_f64 ao N.length cap rfl (fc N) hNw k hkl rfl ?_; intro b off u hu hcell; obtain rfl : u = .float .f64 n := by (simp [fc, HNk.out] at hu; exact hu.symm)))
      go_loopw [5, 20] (fun x i wr2 => ∃ j : Nat, j ≤ 8 ∧ i = .int .i64 j ∧ OwB wr2 w.heap.size x (B ++ fls (N.take k) ++ fl n j) ∧ Below w.heap.size w wr2) (fun _ i _ => 8 - (intOf i).toNat)
      case atStart => exact ⟨0, by omega, rfl, by simpa [fl] using HO.out, HB.out⟩
      case round =>
        obtain ⟨j, hj, rfl, ho2, hb2⟩ := hrel
        by_cases hj8 : j < 8
        · go_wp2_with (refine ap_sl rfl _ _ rfl w.heap.size _ rfl _ (ho2.alloc _) [UInt8.ofNat (n / 256 ^ j)] _ rfl (sl_one' _ _ _ (by exact shr_word n j)) (by simp [fl_len]; omega) (by have := hb2.size; simp; omega) ?_; intro v' w' h1 h2 h3)
          go_roundw
          · exact ⟨j + 1, by omega, by go_num, by rw [fl_on, ← List.append_assoc]; exact h1, grown_below (ho2.alloc _) h2 (Nat.le_refl _) (Nat.le_refl _) (hb2.alloc hb2.size _)⟩
          · simp [intOf]; omega
        · have hj : j = 8 := by omega
          subst hj
          have HX : Hid (OwB wr w.heap.size u5 (B ++ fls (N.take (k + 1))) ∧ Below w.heap.size w wr) := ⟨by rw [fls_take HNk.out, ← List.append_assoc]; exact ho2, hb2⟩
          clear ho2 hb2
          go_wp2
          go_roundw
          · exact ⟨k + 1, by omega, by go_num, HX.out⟩
          · simp [intOf]; omega
    · go_wp2
      go_ret
      exact ⟨_, rfl, by rw [List.take_of_length_le (by omega)] at ho; exact ho, hb⟩
end Go.Proofs.Ytoafkjilkfohjaa
