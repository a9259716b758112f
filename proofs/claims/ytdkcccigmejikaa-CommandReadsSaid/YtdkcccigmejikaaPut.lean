/-
  The walks of what puts bytes: slices.Clone, pack.Num.
-/
import Derived.Test.YtdkcccigmejikaaRd
import Derived.Lib.SliceRun
set_option linter.unusedVariables false
set_option linter.unusedSimpArgs false
namespace Go.Proofs.Ytdkcccigmejikaa
open Go.RowKit

theorem own_empty (w : World) : OwB (w.alloc (.cells #[] 5)) w.heap.size (.slice (some ⟨w.heap.size, 0, none⟩) 0 0) [] :=
  ⟨rfl, .inr ⟨_, 0, #[], rfl, Nat.le_refl _, heap_alloc_new w _, Nat.le_refl _, by decide, rfl, rfl⟩⟩
theorem own_nil (w : World) (base : Nat) : OwB w base (.slice none 0 0) [] := World.ownsRow_nil w base _ 1
theorem clone_any (w : World) (v : Value) (L : List UInt8) (h : SlB w v L) (hl : L.length ≤ 100000000000000) :
    Calls Try.prog 45 #[v] w fun e w' => ∃ v', e = .returned v' ∧ OwB w' w.heap.size v' L ∧ Below w.heap.size w w' := by
  have hv := h
  obtain ⟨ao, cap, rfl, hs⟩ := h
  cases ao with
  | none =>
    have hcap := hs.nil rfl
    have hr := hs.room
    have hL : L = [] := List.eq_nil_of_length_eq_zero (by omega)
    subst hL; subst hcap
    clear hs hv
    have hq := fun w => _root_.Go.Lib.run_eql_slice_nil (P := Try.prog) w 27 5 none 0 0 0 0 Try.underlying27
    go_enter Try.func45, Try.ntmps45
    go_wp2
    go_ret
    exact ⟨_, rfl, own_nil w _, Below.refl _ _⟩
  | some ad =>
    have HV := Lib.hid (SlB.keeps hv (below_new1 w (.cells #[] 5)))
    have HO := Lib.hid (own_empty w)
    have HB := Lib.hid (below_new1 w (.cells #[] 5))
    clear hs hv
    have hq := fun w => _root_.Go.Lib.run_eql_slice_nil (P := Try.prog) w 27 5 (some ad) L.length cap 0 0 Try.underlying27
    go_enter Try.func45, Try.ntmps45
    go_wp2_with (refine ap_sl rfl _ _ rfl w.heap.size _ rfl [] HO.out L _ rfl HV.out (by simp; omega) (by simp) ?_; intro v' w' h1 h2 h3)
    go_ret
    exact ⟨_, rfl, h1, grown_below HO.out h2 (Nat.le_refl _) (Nat.le_refl _) HB.out⟩
/-- Numbers as cells. -/
def uc (N : List Nat) : List Value := N.map fun n : Nat => Value.int .u64 n
theorem uc_len (N : List Nat) : (uc N).length = N.length := by simp [uc]
/-- The bytes of some numbers. -/
def encs (N : List Nat) : List UInt8 := N.flatMap enc
theorem encs_take {N : List Nat} {k n : Nat} (h : N[k]? = some n) : encs (N.take (k + 1)) = encs (N.take k) ++ enc n := by
  obtain ⟨hk, rfl⟩ := List.getElem?_eq_some_iff.1 h
  rw [List.take_succ_eq_append_getElem hk, encs, encs, List.flatMap_append]; simp
theorem encs_len {N : List Nat} (h : ∀ n ∈ N, n < 18446744073709551616) : (encs N).length ≤ 10 * N.length := by
  induction N with
  | nil => simp [encs]
  | cons n r ih =>
    have h1 := enc_len64 n (h n (by simp))
    have h2 := ih fun m hm => h m (by simp [hm])
    simp only [encs, List.flatMap_cons, List.length_append, List.length_cons] at h2 ⊢
    omega
theorem info_u64 : (Try.prog.info? 62).map (fun i => (i.zero, i.size, i.bytes)) = some (some (.int .u64 0), 1, 8) := by kernel_rfl
theorem size_u64 (w : World) : (sizeOf 62).run Try.prog w = .ok 1 w := by
  obtain ⟨i, hi, _, hs, _⟩ := info_parts info_u64
  simp [sizeOf, typeInfo, hi, hs]
theorem sl_one' (w : World) (x : Int) (b : UInt8) (h : x = b.toNat) : SlB (w.alloc (.cells #[.int .u8 x] 5)) (.slice (some ⟨w.heap.size, 0, none⟩) 1 1) [b] := by
  subst h; exact sl_one w b
theorem wrap_last {n : Nat} (h : n < 128) : IntKind.u8.wrap (n : Int) = ((UInt8.ofNat n).toNat : Int) := by
  rw [IntKind.wrap_u8]; simp
set_option maxRecDepth 8000 in
set_option maxHeartbeats 1600000 in
theorem pnum_any (w : World) (v : Value) (B : List UInt8) (hB : SlB w v B) (ao : Option Addr) (cap : Nat) (N : List Nat) (hN : Sl w ao N.length cap (uc N)) (h64 : ∀ n ∈ N, n < 18446744073709551616) (hl : B.length + 10 * N.length ≤ 10000000000000) :
    Calls Try.prog 27 #[v, .slice ao N.length cap] w fun e w' => ∃ v', e = .returned v' ∧ OwB w' w.heap.size v' (B ++ encs N) ∧ Below w.heap.size w w' := by
  have HC := Lib.hid (clone_any w v B hB (by omega))
  clear hB
  go_enter Try.func27, Try.ntmps27
  go_wp2_with fail
  refine HC.out.mono ?_
  rintro e w1 ⟨v1, rfl, ho1, hb1⟩
  go_wp2
  go_loopw [5, 12] (fun x i wr => ∃ k : Nat, k ≤ N.length ∧ i = .int .i64 k ∧ OwB wr w.heap.size x (B ++ encs (N.take k)) ∧ Below w.heap.size w wr) (fun _ i _ => N.length - (intOf i).toNat)
  case atStart => exact ⟨0, by omega, rfl, by simpa [encs] using ho1, hb1⟩
  case round =>
    obtain ⟨k, hk, rfl, ho, hb⟩ := hrel
    by_cases hkl : k < N.length
    · obtain ⟨n, hn⟩ : ∃ n, N[k]? = some n := ⟨_, List.getElem?_eq_getElem hkl⟩
      have hn64 : n < 18446744073709551616 := h64 n (List.mem_of_getElem? hn)
      have HNk := Lib.hid hn
      have hlen : (encs (N.take k)).length ≤ 10 * k := Nat.le_trans (encs_len fun m hm => h64 m (List.mem_of_mem_take hm)) (by rw [List.length_take]; omega)
      have hNw := hN.keeps (hb.mono (Nat.le_refl _))
      go_wp2_with (first | (refine wpList_ix_sl rfl 84 62 _ _ rfl Try.underlying84 size_u64 ao N.length cap rfl (uc N) hNw k hkl rfl ?_; intro b off u hu hcell; obtain rfl : u = .int .u64 n := by (simp [uc, HNk.out] at hu; exact hu.symm)))
      go_loopw [5, 7] (fun x n' wr2 => ∃ m : Nat, ∃ D : List UInt8, n' = .int .u64 m ∧ m < 18446744073709551616 ∧ OwB wr2 w.heap.size x (B ++ encs (N.take k) ++ D) ∧ D ++ enc m = enc n ∧ Below w.heap.size w wr2) (fun _ n' _ => (intOf n').toNat)
      case atStart => exact ⟨n, [], rfl, hn64, by simpa using ho, rfl, hb⟩
      case round =>
        obtain ⟨m, D, rfl, hm, ho2, hD, hb2⟩ := hrel
        have hDl : D.length ≤ 10 := by
          have := enc_len64 n hn64
          rw [← hD, List.length_append] at this; omega
        by_cases h128 : m < 128
        · go_wp2_with (refine ap_sl rfl _ _ rfl w.heap.size _ rfl _ (ho2.alloc _) [UInt8.ofNat m] _ rfl (sl_one' _ _ _ (by first | exact wrap_last h128 | (simp; omega))) (by simp; omega) (by have := hb2.size; simp; omega) ?_; intro v' w' h1 h2 h3)
          go_roundw
          · exact ⟨k + 1, by omega, by go_num, by rw [encs_take HNk.out, ← List.append_assoc, ← hD, enc_small h128, ← List.append_assoc]; simpa using h1, grown_below (ho2.alloc _) h2 (Nat.le_refl _) (Nat.le_refl _) (hb2.alloc hb2.size _)⟩
          · simp [intOf]; omega
        · go_wp2_with (refine ap_sl rfl _ _ rfl w.heap.size _ rfl _ (ho2.alloc _) [UInt8.ofNat (128 + m % 128)] _ rfl (sl_one' _ _ _ (by exact or_more m)) (by simp; omega) (by have := hb2.size; simp; omega) ?_; intro v' w' h1 h2 h3)
          go_roundw
          · exact ⟨m / 128, D ++ [UInt8.ofNat (128 + m % 128)], by go_num, by omega, by rw [← List.append_assoc]; exact h1, by rw [← hD, enc_more h128]; simp, grown_below (ho2.alloc _) h2 (Nat.le_refl _) (Nat.le_refl _) (hb2.alloc hb2.size _)⟩
          · simp [intOf]; omega
    · go_wp2
      go_ret
      exact ⟨_, rfl, by rw [List.take_of_length_le (by omega)] at ho; exact ho, hb⟩
end Go.Proofs.Ytdkcccigmejikaa
