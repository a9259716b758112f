/-
  The walks of the reference's bytes of numbers, texts and floats; of pack.Float.
-/
import Derived.Test.YtoafkjilkfohjaaText
import Derived.Laws.Externs
set_option linter.unusedVariables false
set_option linter.unusedSimpArgs false
namespace Go.Proofs.Ytoafkjilkfohjaa
open Go.RowKit

theorem frombits_run (n : Nat) (w : World) : (callFunc 15 #[.int .u64 n]).run Try.prog w = .ok (.value (.float .f64 n)) w := by
  rw [run_callFunc_extern Try.func15 (by kernel_rfl) (by kernel_rfl) (by kernel_rfl) (e := Extern.MathFloatBits.float64frombits) (by kernel_rfl)]
  rfl
theorem bits_run (n : Nat) (w : World) : (callFunc 30 #[.float .f64 n]).run Try.prog w = .ok (.value (.int .u64 n)) w := by
  rw [run_callFunc_extern Try.func30 (by kernel_rfl) (by kernel_rfl) (by kernel_rfl) (e := Extern.MathFloatBits.float64bits) (by kernel_rfl)]
  rfl
theorem own_one (w : World) (x : Int) (b : UInt8) (h : x = b.toNat) : OwB (w.alloc (.cells #[.int .u8 x] 5)) w.heap.size (.slice (some ⟨w.heap.size, 0, none⟩) 1 1) [b] := by
  subst h
  exact ⟨rfl, .inr ⟨_, 1, #[.int .u8 b.toNat], rfl, Nat.le_refl _, heap_alloc_new w _, Nat.le_refl _, by decide, rfl, rfl⟩⟩
theorem wrap_more (n : Nat) : IntKind.u8.wrap (128 + (n : Int) % 128) = ((UInt8.ofNat (128 + n % 128)).toNat : Int) := by
  rw [IntKind.wrap_u8]; simp
set_option maxRecDepth 8000 in
theorem rnum6_any (n : Nat) : ∀ (hn : n < 18446744073709551616) (w : World),
    Calls Try.prog 16 #[.int .u64 n] w fun e w' => ∃ v', e = .returned v' ∧ OwB w' w.heap.size v' (enc n) ∧ Below w.heap.size w w' := by
  induction n using Nat.strongRecOn with
  | ind n ih =>
    intro hn w
    by_cases h : n < 128
    · have HO := Lib.hid (fun x h => own_one w x (UInt8.ofNat n) h)
      rw [enc_small h]
      go_enter Try.func16, Try.ntmps16
      go_wp2
      go_ret
      exact ⟨_, rfl, HO.out _ (by first | (simp; done) | (simp; omega)), below_new1 w _⟩
    · have IH := Lib.hid (fun W => ih (n / 128) (by omega) (by omega) W)
      have HO := Lib.hid (fun x h => own_one w x (UInt8.ofNat (128 + n % 128)) h)
      have hen := enc_len64 (n / 128) (by omega)
      have HE := Lib.hid (enc_more h)
      clear ih
      go_enter Try.func16, Try.ntmps16
      go_wp2_with fail
      rw [show ((n : Int) / 128) = ((n / 128 : Nat) : Int) from by omega]
      refine (IH.out _).mono ?_
      rintro e w1 ⟨v1, rfl, ho1, hb1⟩
      have HO1 := Lib.hid (OwB.below (B := 0) (HO.out (128 + (n : Int) % 128) (by first | (simp; done) | (simp; omega))) hb1)
      have HB1 := Lib.hid (below_on (below_new1 w (.cells #[.int .u8 (128 + (n : Int) % 128)] 5)) (by simp) hb1)
      have HS := Lib.hid ho1.sl
      clear ho1 hb1 HO IH
      go_wp2_with (refine ap_sl rfl _ _ rfl w.heap.size _ rfl _ HO1.out _ _ rfl HS.out (by simp; omega) HB1.out.size ?_; intro v' w' h1 h2 h3)
      go_ret
      exact ⟨_, rfl, by rw [HE.out]; exact h1, grown_below HO1.out h2 (Nat.le_refl _) (Nat.le_refl _) HB1.out⟩
set_option maxRecDepth 8000 in
theorem rturn6_any (n : Int) (h0 : -9223372036854775808 ≤ n) (h1 : n ≤ 9223372036854775807) (w : World) :
    Calls Try.prog 34 #[.int .i64 n] w fun e w' => e = .returned (.int .u64 (zig n)) ∧ w' = w := by
  by_cases h : 0 ≤ n
  · have HZ : Hid (((zig n : Nat) : Int) = 2 * n) := by show _ = _; unfold zig; rw [if_pos h]; omega
    go_enter Try.func34, Try.ntmps34
    go_wp2
    go_ret
    exact ⟨by rw [HZ.out]; rfl, rfl⟩
  · have HZ : Hid (((zig n : Nat) : Int) = -2 * n - 1) := by show _ = _; unfold zig; rw [if_neg h]; omega
    go_enter Try.func34, Try.ntmps34
    go_wp2
    go_ret
    exact ⟨by rw [HZ.out]; exact congrArg (fun z => Ending.returned (.int .u64 z)) (by omega), rfl⟩
set_option maxRecDepth 8000 in
theorem rint6_any (n : Int) (h0 : -9223372036854775808 ≤ n) (h1 : n ≤ 9223372036854775807) (w : World) :
    Calls Try.prog 17 #[.int .i64 n] w fun e w' => ∃ v', e = .returned v' ∧ OwB w' w.heap.size v' (enc (zig n)) ∧ Below w.heap.size w w' := by
  have HT := Lib.hid (rturn6_any n h0 h1 w)
  have HN := Lib.hid (rnum6_any (zig n) (zig_lt h0 h1) w)
  go_enter Try.func17, Try.ntmps17
  go_wp2_with fail
  refine HT.out.mono ?_
  rintro e w1 ⟨rfl, rfl⟩
  go_wp2_with fail
  refine HN.out.mono ?_
  rintro e w2 ⟨v', rfl, ho, hb⟩
  go_wp2
  go_ret
  exact ⟨_, rfl, ho, hb⟩
set_option maxRecDepth 8000 in
theorem rtext6_any (s : ByteArray) (hs : s.size ≤ 1000000) (w : World) :
    Calls Try.prog 19 #[.string s] w fun e w' => ∃ v', e = .returned v' ∧ OwB w' w.heap.size v' (txt s) ∧ Below w.heap.size w w' := by
  have HN := Lib.hid (rnum6_any s.size (by omega) w)
  have h10 := enc_len64 s.size (by omega)
  go_enter Try.func19, Try.ntmps19
  go_wp2_with fail
  refine HN.out.mono ?_
  rintro e w2 ⟨v', rfl, ho, hb⟩
  have HO := Lib.hid ho
  have HB := Lib.hid hb
  clear ho hb
  go_wp2_with (refine ap_src rfl _ _ 9 rfl w.heap.size _ rfl _ HO.out _ rfl s.data.toList (by rw [data_len, ← byteCells_bc]; exact Src.ofString _ Try.underlying9 s) (by rw [data_len]; omega) HB.out.size ?_; intro v' w' h1 h2 h3)
  go_ret
  exact ⟨_, rfl, h1, grown_below HO.out h2 (Nat.le_refl _) (Nat.le_refl _) HB.out⟩
/-- The first k bytes of a float's bits, the lowest first. -/
def fl (n k : Nat) : List UInt8 := (List.range k).map fun i => UInt8.ofNat (n / 256 ^ i)
theorem fl_len (n k : Nat) : (fl n k).length = k := by simp [fl]
theorem fl_on (n k : Nat) : fl n (k + 1) = fl n k ++ [UInt8.ofNat (n / 256 ^ k)] := by simp [fl, List.range_succ]
set_option maxRecDepth 8000 in
theorem rfloat6_any (n : Nat) (hn : n < 18446744073709551616) (w : World) :
    Calls Try.prog 18 #[.float .f64 n] w fun e w' => ∃ v', e = .returned v' ∧ OwB w' w.heap.size v' (fl n 8) ∧ Below w.heap.size w w' := by
  have hd := fun w => bits_run n w
  have HO := Lib.hid (own_empty w)
  have HB := Lib.hid (below_new1 w (.cells #[] 5))
  go_enter Try.func18, Try.ntmps18
  go_wp2
  clear hd
  go_loopw [3, 4, 5] (fun m x i wr => ∃ k : Nat, k ≤ 8 ∧ i = .int .i64 k ∧ m = .int .u64 ((n / 256 ^ k : Nat) : Int) ∧ OwB wr w.heap.size x (fl n k) ∧ Below w.heap.size w wr) (fun _ _ i _ => 8 - (intOf i).toNat)
  case atStart => exact ⟨0, by omega, rfl, by simp, HO.out, HB.out⟩
  case round =>
    obtain ⟨k, hk, rfl, rfl, ho, hb⟩ := hrel
    have hlt : n / 256 ^ k < 18446744073709551616 := Nat.lt_of_le_of_lt (Nat.div_le_self _ _) hn
    obtain ⟨q, hq⟩ : ∃ q, n / 256 ^ k = q := ⟨_, rfl⟩
    rw [hq] at hlt ⊢
    have HQ := Lib.hid hq
    clear hq
    by_cases hk8 : k < 8
    · go_wp2_with (refine ap_sl rfl _ _ rfl w.heap.size _ rfl _ (ho.alloc _) [UInt8.ofNat q] _ rfl (sl_one' _ _ _ (by first | (simp; done) | (simp; omega))) (by rw [fl_len]; simp; omega) (by have := hb.size; simp; omega) ?_; intro v' w' h1 h2 h3)
      go_roundw
      · refine ⟨k + 1, by omega, by go_num, ?_, by rw [fl_on, HQ.out]; exact h1, grown_below (ho.alloc _) h2 (Nat.le_refl _) (Nat.le_refl _) (hb.alloc hb.size _)⟩
        rw [Nat.pow_succ, ← Nat.div_div_eq_div_mul, HQ.out]; go_num
      · simp [intOf]; omega
    · go_wp2
      go_ret
      have : k = 8 := by omega
      subst this
      exact ⟨_, rfl, ho, hb⟩
end Go.Proofs.Ytoafkjilkfohjaa
