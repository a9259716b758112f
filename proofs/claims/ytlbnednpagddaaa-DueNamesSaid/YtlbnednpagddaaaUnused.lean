/-
  The walk of due.Unused: a fee on what isn't used, day by day.
-/
import Derived.Test.YtlbnednpagddaaaDue
set_option linter.unusedVariables false
set_option linter.unusedSimpArgs false
namespace Go.Proofs.Ytlbnednpagddaaa
open Go.RowKit

/-- Can a fee be asked for? -/
structure Asks (a p d r : Int) : Prop where
  a0 : 0 ≤ a
  a1 : a ≤ 20000000000000
  p0 : 0 ≤ p
  p1 : p ≤ 10000
  d0 : 0 ≤ d
  d1 : d ≤ 366
  r0 : 0 ≤ r
  r1 : r < 3600000
/-- Which is the first that can't be. -/
def BadAsk (a p d r : Int) : Prop :=
  okM a = false ∨ (okM a = true ∧ p < 0) ∨ (okM a = true ∧ 0 ≤ p ∧ 10000 < p) ∨ (okM a = true ∧ 0 ≤ p ∧ p ≤ 10000 ∧ d < 0) ∨ (okM a = true ∧ 0 ≤ p ∧ p ≤ 10000 ∧ 0 ≤ d ∧ 366 < d) ∨
    (okM a = true ∧ 0 ≤ p ∧ p ≤ 10000 ∧ 0 ≤ d ∧ d ≤ 366 ∧ r < 0) ∨ (okM a = true ∧ 0 ≤ p ∧ p ≤ 10000 ∧ 0 ≤ d ∧ d ≤ 366 ∧ 0 ≤ r ∧ 3600000 ≤ r)
theorem ask_or (a p d r : Int) : Asks a p d r ∨ BadAsk a p d r := by
  unfold BadAsk
  cases h : okM a with
  | false => exact .inr (.inl rfl)
  | true =>
    obtain ⟨a0, a1⟩ := okM_true h
    by_cases hp : 0 ≤ p ∧ p ≤ 10000
    · by_cases hd : 0 ≤ d ∧ d ≤ 366
      · by_cases hr : 0 ≤ r ∧ r < 3600000
        · exact .inl ⟨a0, a1, hp.1, hp.2, hd.1, hd.2, hr.1, hr.2⟩
        · right; simp only [true_and]; omega
      · right; simp only [true_and]; omega
    · right; simp only [true_and]; omega
/-- Behind k days: what is charged, what is left. -/
structure Days (A r0 : Int) (k : Nat) (c r : Int) : Prop where
  all : c * 3600000 + r = r0 + k * A
  lo : 0 ≤ r
  hi : r < 3600000
  nn : 0 ≤ c
theorem Days.step {A r0 : Int} {k : Nat} {c r : Int} (h : Days A r0 k c r) (hA : 0 ≤ A) : Days A r0 (k + 1) (c + (r + A) / 3600000) ((r + A) % 3600000) := by
  have h1 := h.all; have h2 := h.lo; have h3 := h.hi; have h4 := h.nn
  have e : ((k + 1 : Nat) : Int) * A = k * A + A := by rw [Int.natCast_add, Int.add_mul]; omega
  refine ⟨?_, by omega, by omega, by omega⟩
  rw [e]; omega
theorem Days.le {A r0 : Int} {k : Nat} {c r : Int} (h : Days A r0 k c r) (hA : 0 ≤ A) (hA2 : A ≤ 200000000000000000) (hr : r0 < 3600000) (hk : k ≤ 366) : c ≤ 30000000000000 := by
  have h1 := h.all; have h2 := h.lo
  have h3 : (k : Int) * A ≤ 366 * A := Int.mul_le_mul_of_nonneg_right (by omega) hA
  omega
theorem Days.fin {A r0 : Int} {k : Nat} {c r : Int} (h : Days A r0 k c r) : c = (r0 + k * A) / 3600000 ∧ r = (r0 + k * A) % 3600000 := by
  have h1 := h.all; have h2 := h.lo; have h3 := h.hi
  omega
/-- What a fee is answered. -/
theorem feeA {a p : Int} (a0 : 0 ≤ a) (a1 : a ≤ 20000000000000) (p0 : 0 ≤ p) (p1 : p ≤ 10000) : 0 ≤ a * p ∧ a * p ≤ 200000000000000000 := by
  have h1 := Int.mul_nonneg a0 p0
  have h2 : a * p ≤ 20000000000000 * p := Int.mul_le_mul_of_nonneg_right a1 p0
  omega
set_option maxRecDepth 8000 in
set_option maxHeartbeats 1600000 in
theorem unused_bad (a p d r : Int) (h : BadAsk a p d r) (w : World) :
    Calls Try.prog 18 #[.int .i64 a, .int .i64 p, .int .i64 d, .int .i64 r] w fun e w' => e = .returned (.tuple #[.int .i64 0, .int .i64 0, .int .i64 142]) ∧ Below w.heap.size w w' := by
  rcases h with h | ⟨h, h1⟩ | ⟨h, h1, h2⟩ | ⟨h, h1, h2, h3⟩ | ⟨h, h1, h2, h3, h4⟩ | ⟨h, h1, h2, h3, h4, h5⟩ | ⟨h, h1, h2, h3, h4, h5, h6⟩
  all_goals
    have HM := Lib.hid (fun w b T hb => money_one w b T a _ h hb)
    clear h
    go_enter Try.func18, Try.ntmps18
    go_wp2_with fail
    refine (HM.out _ _ _ (Blk.new w _ (di [a]))).mono ?_
    rintro e w1 ⟨rfl, rfl⟩
    go_wp2
    exact bodyPost_ret (v := .tuple #[.int .i64 0, .int .i64 0, .int .i64 142]) (by simp [results, Try.results18, go_sem]) rfl ⟨rfl, below_new1 _ _⟩
set_option maxRecDepth 8000 in
set_option maxHeartbeats 1600000 in
theorem unused_good (a p d r : Int) (h : Asks a p d r) (w : World) :
    Calls Try.prog 18 #[.int .i64 a, .int .i64 p, .int .i64 d, .int .i64 r] w fun e w' => e = .returned (.tuple #[.int .i64 ((r + d * (a * p)) / 3600000), .int .i64 ((r + d * (a * p)) % 3600000), .int .i64 0]) ∧ Below w.heap.size w w' := by
  obtain ⟨a0, a1, p0, p1, d0, d1, r0, r1⟩ := h
  have HM := Lib.hid (fun w b T hb => money_one w b T a true (okM_mk a0 a1) hb)
  obtain ⟨hA0, hA1⟩ := feeA a0 a1 p0 p1
  obtain ⟨A, hA⟩ : ∃ A, a * p = A := ⟨_, rfl⟩
  rw [hA] at hA0 hA1 ⊢
  obtain ⟨n, rfl⟩ : ∃ n : Nat, d = n := ⟨d.toNat, by omega⟩
  have H0 : Hid (Days A r 0 0 r) := (⟨by omega, r0, r1, by omega⟩ : Days A r 0 0 r)
  have HR := Lib.hid r1
  go_enter Try.func18, Try.ntmps18
  go_wp2_with fail
  refine (HM.out _ _ _ (Blk.new w _ (di [a]))).mono ?_
  rintro e w1 ⟨rfl, rfl⟩
  go_wp2_with fail
  go_loop [3, 11, 42] (fun rs ct i => ∃ (k : Nat) (c t : Int), k ≤ n ∧ i = .int .i64 k ∧ rs = .int .i64 t ∧ ct = .int .i64 c ∧ Hid (Days A r k c t)) (fun _ _ i => n - (intOf i).toNat)
  case atStart => exact ⟨0, 0, r, by omega, rfl, rfl, rfl, H0.out⟩
  case round =>
    obtain ⟨k, c, t, hk, rfl, rfl, rfl, HK⟩ := hrel
    have t0 := HK.out.lo
    have t1 := HK.out.hi
    have c0 := HK.out.nn
    have c1 := HK.out.le hA0 hA1 HR.out (by omega)
    by_cases hlt : k < n
    · have HN := Lib.hid (HK.out.step hA0)
      clear HK H0
      go_wp2
      exact ⟨⟨k + 1, _, _, by omega, by go_num, rfl, rfl, HN⟩, by simp [intOf]; omega⟩
    · obtain rfl : k = n := by omega
      have HF := Lib.hid (HK.out.fin)
      clear HK H0
      go_wp2
      exact bodyPost_ret (v := .tuple #[.int .i64 c, .int .i64 t, .int .i64 0]) (by simp [results, Try.results18, go_sem]) rfl ⟨by rw [← HF.out.1, ← HF.out.2], below_new1 _ _⟩
end Go.Proofs.Ytlbnednpagddaaa
