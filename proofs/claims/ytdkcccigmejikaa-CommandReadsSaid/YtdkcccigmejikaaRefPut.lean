/-
  The walks of the reference's bytes of numbers, texts and floats; of pack.Float.
-/
import Derived.Test.YtdkcccigmejikaaText
import Derived.Laws.Externs
set_option linter.unusedVariables false
set_option linter.unusedSimpArgs false
namespace Go.Proofs.Ytdkcccigmejikaa
open Go.RowKit

theorem own_one (w : World) (x : Int) (b : UInt8) (h : x = b.toNat) : OwB (w.alloc (.cells #[.int .u8 x] 5)) w.heap.size (.slice (some ⟨w.heap.size, 0, none⟩) 1 1) [b] := by
  subst h
  exact ⟨rfl, .inr ⟨_, 1, #[.int .u8 b.toNat], rfl, Nat.le_refl _, heap_alloc_new w _, Nat.le_refl _, by decide, rfl, rfl⟩⟩
theorem wrap_more (n : Nat) : IntKind.u8.wrap (128 + (n : Int) % 128) = ((UInt8.ofNat (128 + n % 128)).toNat : Int) := by
  rw [IntKind.wrap_u8]; simp
set_option maxRecDepth 8000 in
theorem rnum6_any (n : Nat) : ∀ (hn : n < 18446744073709551616) (w : World),
    Calls Try.prog 28 #[.int .u64 n] w fun e w' => ∃ v', e = .returned v' ∧ OwB w' w.heap.size v' (enc n) ∧ Below w.heap.size w w' := by
  induction n using Nat.strongRecOn with
  | ind n ih =>
    intro hn w
    by_cases h : n < 128
    · have HO := Lib.hid (fun x h => own_one w x (UInt8.ofNat n) h)
      rw [enc_small h]
      go_enter Try.func28, Try.ntmps28
      go_wp2
      go_ret
      exact ⟨_, rfl, HO.out _ (by first | (simp; done) | (simp; omega)), below_new1 w _⟩
    · have IH := Lib.hid (fun W => ih (n / 128) (by omega) (by omega) W)
      have HO := Lib.hid (fun x h => own_one w x (UInt8.ofNat (128 + n % 128)) h)
      have hen := enc_len64 (n / 128) (by omega)
      have HE := Lib.hid (enc_more h)
      clear ih
      go_enter Try.func28, Try.ntmps28
      go_wp2_with fail
      rw [show ((n : Int) / 128) = ((n / 128 : Nat) : Int) from by omega]
      refine (IH.out _).mono ?_
      rintro e w1 ⟨v1, rfl, ho1, hb1⟩
      have HO1 := Lib.hid (OwB.below (B := 0) (HO.out (128 + (n : Int) % 128) (by first | (simp; done) | (simp; omega))) hb1)
      have HB1 := Lib.hid (below_on (below_new1 w (.cells #[.int .u8 (128 + (n : Int) % 128)] 5)) (by simp) hb1)
      have HS := Lib.hid ho1.sl
      clear ho1 hb1 HO IH
      go_wp2_with (refine ap_sl rfl _ _ rfl w.heap.size _ rfl _ HO1.out _ _ rfl HS.out (by simp; omega) HB1.out.size ?_; intro v' w' h1 h2 h3)
      go_ret
      exact ⟨_, rfl, by rw [HE.out]; exact h1, grown_below HO1.out h2 (Nat.le_refl _) (Nat.le_refl _) HB1.out⟩
set_option maxRecDepth 8000 in
theorem rturn6_any (n : Int) (h0 : -9223372036854775808 ≤ n) (h1 : n ≤ 9223372036854775807) (w : World) :
    Calls Try.prog 56 #[.int .i64 n] w fun e w' => e = .returned (.int .u64 (zig n)) ∧ w' = w := by
  by_cases h : 0 ≤ n
  · have HZ : Hid (((zig n : Nat) : Int) = 2 * n) := by show _ = _; unfold zig; rw [if_pos h]; omega
    go_enter Try.func56, Try.ntmps56
    go_wp2
    go_ret
    exact ⟨by rw [HZ.out]; rfl, rfl⟩
  · have HZ : Hid (((zig n : Nat) : Int) = -2 * n - 1) := by show _ = _; unfold zig; rw [if_neg h]; omega
    go_enter Try.func56, Try.ntmps56
    go_wp2
    go_ret
    exact ⟨by rw [HZ.out]; exact congrArg (fun z => Ending.returned (.int .u64 z)) (by omega), rfl⟩
set_option maxRecDepth 8000 in
theorem rint6_any (n : Int) (h0 : -9223372036854775808 ≤ n) (h1 : n ≤ 9223372036854775807) (w : World) :
    Calls Try.prog 46 #[.int .i64 n] w fun e w' => ∃ v', e = .returned v' ∧ OwB w' w.heap.size v' (enc (zig n)) ∧ Below w.heap.size w w' := by
  have HT := Lib.hid (rturn6_any n h0 h1 w)
  have HN := Lib.hid (rnum6_any (zig n) (zig_lt h0 h1) w)
  go_enter Try.func46, Try.ntmps46
  go_wp2_with fail
  refine HT.out.mono ?_
  rintro e w1 ⟨rfl, rfl⟩
  go_wp2_with fail
  refine HN.out.mono ?_
  rintro e w2 ⟨v', rfl, ho, hb⟩
  go_wp2
  go_ret
  exact ⟨_, rfl, ho, hb⟩
/-- The first k bytes of a float's bits, the lowest first. -/
def fl (n k : Nat) : List UInt8 := (List.range k).map fun i => UInt8.ofNat (n / 256 ^ i)
theorem fl_len (n k : Nat) : (fl n k).length = k := by simp [fl]
theorem fl_on (n k : Nat) : fl n (k + 1) = fl n k ++ [UInt8.ofNat (n / 256 ^ k)] := by simp [fl, List.range_succ]
end Go.Proofs.Ytdkcccigmejikaa
