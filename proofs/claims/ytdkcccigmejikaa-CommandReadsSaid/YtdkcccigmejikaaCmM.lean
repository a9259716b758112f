/-
  Answers, plain: what is read is what is written.
-/
import Derived.Test.YtdkcccigmejikaaCmL
set_option linter.unusedVariables false
set_option linter.unusedSimpArgs false
set_option maxRecDepth 20000
namespace Go.Proofs.Ytdkcccigmejikaa
open Go.RowKit

theorem zig_back (m : Nat) : zig (back m) = m := by
  unfold back
  split
  · unfold zig; rw [if_pos (by omega)]; omega
  · unfold zig; rw [if_neg (by omega)]; omega
theorem back_in64 {m : Nat} (h : m < 18446744073709551616) : in64 (back m) := by
  unfold in64 back
  split <;> omega
theorem rdN_inv {L R : List UInt8} {f : Bool} {n : Nat} (h : rdN L f = (n, R, false)) : f = false ∧ L = enc n ++ R ∧ n < 18446744073709551616 := by
  cases hs : rdS 0 0 L with
  | none => rw [rdN_none hs] at h; simp at h
  | some x =>
    obtain ⟨n', r⟩ := x
    rw [rdN_some hs] at h
    simp only [Prod.mk.injEq] at h
    obtain ⟨rfl, rfl, rfl⟩ := h
    exact ⟨rfl, rdS_enc0 hs⟩
theorem rdN_of (n : Nat) (h : n < 18446744073709551616) (R : List UInt8) (f : Bool) : rdN (enc n ++ R) f = (n, R, f) := rdN_some (rdS_of_enc0 n h R)
theorem rdSm_inv {lim n : Nat} {L R : List UInt8} {f : Bool} (h : rdSm lim L f = (n, R, false)) : f = false ∧ L = enc n ++ R ∧ n ≤ lim ∧ n < 18446744073709551616 := by
  unfold rdSm at h
  split at h
  · rename_i h1
    obtain ⟨a, b, c⟩ := rdN_inv h
    rw [h] at h1
    exact ⟨a, b, Nat.le_trans h1 (Nat.min_le_left _ _), c⟩
  · simp at h
theorem rdSm_of {lim n : Nat} (h : n ≤ lim) (h2 : n ≤ 2147483648) (R : List UInt8) (f : Bool) : rdSm lim (enc n ++ R) f = (n, R, f) := by
  unfold rdSm
  rw [rdN_of n (by omega) R f, if_pos (by show n ≤ min lim 2147483648; omega)]
theorem rdIs_inv : ∀ (m : Nat) {L R : List UInt8} {f : Bool} {N : List Int}, rdIs m L f = (N, R, false) → f = false ∧ L = encs (N.map zig) ++ R
  | 0, L, R, f, N, h => by
    simp only [rdIs, Prod.mk.injEq] at h
    obtain ⟨rfl, rfl, rfl⟩ := h
    exact ⟨rfl, rfl⟩
  | m + 1, L, R, f, N, h => by
    rw [rdIs] at h
    obtain ⟨q, hq⟩ : ∃ q, rdN L f = q := ⟨_, rfl⟩
    rw [hq] at h
    obtain ⟨n, R1, f1⟩ := q
    obtain ⟨q2, hq2⟩ : ∃ q, rdIs m R1 f1 = q := ⟨_, rfl⟩
    simp only [hq2] at h
    obtain ⟨N2, R2, f2⟩ := q2
    simp only [Prod.mk.injEq] at h
    obtain ⟨rfl, rfl, rfl⟩ := h
    obtain ⟨rfl, e2⟩ := rdIs_inv m hq2
    obtain ⟨rfl, e1, _⟩ := rdN_inv hq
    refine ⟨rfl, ?_⟩
    rw [e1, e2, List.map_cons, zig_back]
    simp [encs]
theorem rdIs_of : ∀ (N : List Int) (_ : ∀ x ∈ N, in64 x) (R : List UInt8) (f : Bool), rdIs N.length (encs (N.map zig) ++ R) f = (N, R, f)
  | [], _, R, f => rfl
  | x :: N, h, R, f => by
    have hx := h x (by simp)
    have e : encs ((x :: N).map zig) ++ R = enc (zig x) ++ (encs (N.map zig) ++ R) := by simp [encs]
    rw [List.length_cons, rdIs, e, rdN_of _ (zig_lt hx.1 hx.2), rdIs_of N (fun y hy => h y (by simp [hy])) R f, back_zig]
theorem rdIs_in : ∀ (m : Nat) (L : List UInt8) (f : Bool), ∀ x ∈ (rdIs m L f).1, in64 x
  | 0, L, f => by simp [rdIs]
  | m + 1, L, f => by
    intro x hx
    rw [rdIs, List.mem_cons] at hx
    rcases hx with rfl | hx
    · exact back_in64 (rdN_lt L f)
    · exact rdIs_in m _ _ x hx
/-- What the reference's Open answers. -/
def ropenA (L : List UInt8) : (Int × List Int) × Int :=
  if (packA (rdSm 65535 L false).1 (rdIs (rdSm 64 (rdSm 65535 L false).2.1 (rdSm 65535 L false).2.2).1 (rdSm 64 (rdSm 65535 L false).2.1 (rdSm 65535 L false).2.2).2.1 (rdSm 64 (rdSm 65535 L false).2.1 (rdSm 65535 L false).2.2).2.2).1) = (L, 0)
  then (((rdSm 65535 L false).1, (rdIs (rdSm 64 (rdSm 65535 L false).2.1 (rdSm 65535 L false).2.2).1 (rdSm 64 (rdSm 65535 L false).2.1 (rdSm 65535 L false).2.2).2.1 (rdSm 64 (rdSm 65535 L false).2.1 (rdSm 65535 L false).2.2).2.2).1), 0)
  else ((0, []), 221)
theorem open_pack (e : Nat) (N : List Int) (hw : ∀ x ∈ N, in64 x) {B : List UInt8} (h : packA e N = (B, 0)) : openA B = (((e : Int), N), (0 : Int)) := by
  unfold packA at h
  split at h
  · rename_i hr
    obtain ⟨r0, r1, r2, r3⟩ := rightA_true hr
    simp only [Prod.mk.injEq, and_true, Int.toNat_natCast] at h
    have hB : B = enc e ++ (enc N.length ++ (encs (N.map zig) ++ [])) := by rw [← h]; simp [encs]
    unfold openA
    rw [hB, rdSm_of (by omega) (by omega)]
    simp only
    rw [rdSm_of r2 (by omega)]
    simp only
    rw [rdIs_of N hw]
    simp [hr]
  · simp at h
theorem open_eq (L : List UInt8) : openA L = ropenA L := by
  by_cases h : (packA (rdSm 65535 L false).1 (rdIs (rdSm 64 (rdSm 65535 L false).2.1 (rdSm 65535 L false).2.2).1 (rdSm 64 (rdSm 65535 L false).2.1 (rdSm 65535 L false).2.2).2.1 (rdSm 64 (rdSm 65535 L false).2.1 (rdSm 65535 L false).2.2).2.2).1) = (L, 0)
  · rw [open_pack _ _ (rdIs_in _ _ _) h, ropenA, if_pos h]
  · rw [ropenA, if_neg h]
    unfold openA
    rw [if_neg]
    intro hc
    apply h
    obtain ⟨q1, h1⟩ : ∃ q, rdSm 65535 L false = q := ⟨_, rfl⟩
    rw [h1] at hc ⊢
    obtain ⟨e, L1, f1⟩ := q1
    simp only at hc ⊢
    obtain ⟨q2, h2⟩ : ∃ q, rdSm 64 L1 f1 = q := ⟨_, rfl⟩
    rw [h2] at hc ⊢
    obtain ⟨m, L2, f2⟩ := q2
    simp only at hc ⊢
    have hml := rdIs_len m L2 f2
    obtain ⟨q3, h3⟩ : ∃ q, rdIs m L2 f2 = q := ⟨_, rfl⟩
    rw [h3] at hc hml ⊢
    obtain ⟨N, L3, f3⟩ := q3
    simp only [Bool.and_eq_true, Bool.not_eq_true', List.isEmpty_iff] at hc hml ⊢
    obtain ⟨⟨rfl, rfl⟩, hr⟩ := hc
    obtain ⟨rfl, e3⟩ := rdIs_inv m h3
    obtain ⟨rfl, e2, _⟩ := rdSm_inv h2
    obtain ⟨_, e1, _⟩ := rdSm_inv h1
    unfold packA
    rw [hml, if_pos hr, e1, e2, e3, Int.toNat_natCast]
    simp [encs]
end Go.Proofs.Ytdkcccigmejikaa
