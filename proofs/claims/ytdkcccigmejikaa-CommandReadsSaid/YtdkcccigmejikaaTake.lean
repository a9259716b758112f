/-
  The walks of a reader's small numbers, parts, texts.
-/
import Derived.Test.YtdkcccigmejikaaText
set_option linter.unusedVariables false
set_option linter.unusedSimpArgs false
namespace Go.Proofs.Ytdkcccigmejikaa
open Go.RowKit

/-- A small number, what is left, whether it has failed. -/
def rdSm (lim : Nat) (L : List UInt8) (f : Bool) : Nat × List UInt8 × Bool := if (rdN L f).1 ≤ min lim 2147483648 then rdN L f else (0, [], true)
/-- The next n bytes. -/
def rdTk (n : Nat) (L : List UInt8) (f : Bool) : List UInt8 × List UInt8 × Bool := if n ≤ L.length then (L.take n, L.drop n, f) else ([], [], true)
/-- A text. -/
def rdT (L : List UInt8) (f : Bool) : List UInt8 × List UInt8 × Bool := rdTk (rdSm 65536 L f).1 (rdSm 65536 L f).2.1 (rdSm 65536 L f).2.2
theorem rdSm_le (lim : Nat) (L : List UInt8) (f : Bool) : (rdSm lim L f).1 ≤ 2147483648 := by
  unfold rdSm; split <;> omega
set_option maxRecDepth 8000 in
theorem small_any (lim : Nat) (hlim : lim < 18446744073709551616) (w : World) (r : Nat) (L : List UInt8) (f : Bool) (h : RdAt w r L f) :
    Calls Try.prog 31 #[.pointer (some ⟨r, 0, none⟩), .int .u64 lim] w fun e w' => e = .returned (.int .i64 (rdSm lim L f).1) ∧ RdAt w' r (rdSm lim L f).2.1 (rdSm lim L f).2.2 ∧ w.grownBy w' (some r) := by
  have HR := Lib.hid (rnum_any w r L f h)
  have hlt := rdN_lt L f
  by_cases hs : (rdN L f).1 ≤ min lim 2147483648
  · have e : rdSm lim L f = rdN L f := by unfold rdSm; rw [if_pos hs]
    rw [e]
    clear h e
    obtain ⟨q, hq⟩ : ∃ q, rdN L f = q := ⟨_, rfl⟩
    rw [hq] at HR hs hlt ⊢
    clear hq
    obtain ⟨n, R, g⟩ := q
    simp only at hs hlt HR
    go_enter Try.func31, Try.ntmps31
    go_wp2_with fail
    refine HR.out.mono ?_
    rintro e w1 ⟨rfl, h1, h2⟩
    have HK : Hid (RdAt w1 r R g ∧ w.grownBy w1 (some r)) := ⟨h1, h2⟩
    clear h1 h2
    go_wp2
    go_ret
    exact ⟨rfl, HK.out⟩
  · have e : rdSm lim L f = (0, [], true) := by unfold rdSm; rw [if_neg hs]
    rw [e]
    clear h e
    obtain ⟨q, hq⟩ : ∃ q, rdN L f = q := ⟨_, rfl⟩
    rw [hq] at HR hs hlt
    clear hq
    obtain ⟨n, R, g⟩ := q
    simp only at hs hlt HR
    go_enter Try.func31, Try.ntmps31
    go_wp2_with fail
    refine HR.out.mono ?_
    rintro e w1 ⟨rfl, h1, h2⟩
    have HF := Lib.hid (fail_any w1 r _ _ h1)
    have HK := Lib.hid h2
    clear h1 h2
    go_wp2_with fail
    refine HF.out.mono ?_
    rintro e w2 ⟨rfl, h1, h2⟩
    go_wp2
    go_ret
    exact ⟨rfl, h1, grown_trans HK.out h2⟩
theorem rdT_txt {s : ByteArray} (h : s.size ≤ 65536) (rest : List UInt8) (f : Bool) : rdT (txt s ++ rest) f = (s.data.toList, rest, f) := by
  have e : rdN (txt s ++ rest) f = (s.size, s.data.toList ++ rest, f) := by
    rw [txt, List.append_assoc]; exact rdN_some (rdS_of_enc0 _ (by omega) _)
  have e2 : rdSm 65536 (txt s ++ rest) f = (s.size, s.data.toList ++ rest, f) := by unfold rdSm; rw [e, if_pos (by omega)]
  unfold rdT
  rw [e2]
  unfold rdTk
  rw [if_pos (by rw [List.length_append, data_len]; omega)]
  show (List.take s.size _, List.drop s.size _, f) = _
  rw [List.take_append_of_le_length (by rw [data_len]; omega), List.take_of_length_le (by rw [data_len]; omega), List.drop_append_of_le_length (by rw [data_len]; omega), List.drop_of_length_le (by rw [data_len]; omega), List.nil_append]
/-- A cut stream: what is left of it, or it has failed. -/
def Cut (P : List UInt8) (f : Bool) (R : List UInt8) : Prop := (P = [] ∧ f = true) ∨ (f = false ∧ ∃ X, X ≠ [] ∧ P ++ X = R)
theorem cut_num {P R : List UInt8} {f : Bool} {n : Nat} (hn : n < 18446744073709551616) (h : Cut P f (enc n ++ R)) : (rdN P f = (0, [], true)) ∨ ∃ r, rdN P f = (n, r, f) ∧ Cut r f R := by
  rcases h with ⟨rfl, rfl⟩ | ⟨rfl, X, hX, hP⟩
  · exact .inl rfl
  · cases hr : rdS 0 0 P with
    | none => exact .inl (rdN_none hr)
    | some x =>
      obtain ⟨m, r⟩ := x
      right
      obtain ⟨hPe, hm⟩ := rdS_enc0 hr
      have h1 := rdS_of_enc0 m hm (r ++ X)
      have h2 := rdS_of_enc0 n hn R
      rw [← List.append_assoc, ← hPe, hP, h2] at h1
      simp only [Option.some.injEq, Prod.mk.injEq] at h1
      obtain ⟨rfl, h3⟩ := h1
      exact ⟨r, rdN_some hr, .inr ⟨rfl, X, hX, h3.symm⟩⟩
theorem cut_int {P R : List UInt8} {f : Bool} {n : Nat} (hn : n < 18446744073709551616) (h : Cut P f (enc n ++ R)) : Cut (rdN P f).2.1 (rdN P f).2.2 R := by
  rcases cut_num hn h with e | ⟨r, e, h2⟩
  · rw [e]; exact .inl ⟨rfl, rfl⟩
  · rw [e]; exact h2
theorem cut_text {P R : List UInt8} {f : Bool} {s : ByteArray} (hs : s.size ≤ 65536) (h : Cut P f (txt s ++ R)) : Cut (rdT P f).2.1 (rdT P f).2.2 R := by
  rw [txt, List.append_assoc] at h
  unfold rdT rdSm
  rcases cut_num (by omega) h with e | ⟨r, e, h2⟩
  · rw [e, if_pos (by simp)]
    exact .inl ⟨rfl, rfl⟩
  · rw [e, if_pos (by show s.size ≤ _; omega)]
    unfold rdTk
    by_cases hl : s.size ≤ r.length
    · rw [if_pos hl]
      rcases h2 with ⟨rfl, rfl⟩ | ⟨rfl, X, hX, hr⟩
      · refine .inl ⟨by simp, rfl⟩
      · refine .inr ⟨rfl, X, hX, ?_⟩
        have h3 := congrArg (List.drop s.size) hr
        have e3 : List.drop s.size s.data.toList = [] := List.drop_of_length_le (by rw [data_len]; omega)
        rw [List.drop_append_of_le_length hl, List.drop_append_of_le_length (by rw [data_len]; omega), e3, List.nil_append] at h3
        exact h3
    · rw [if_neg hl]
      exact .inl ⟨rfl, rfl⟩
theorem cut_end {P : List UInt8} {f : Bool} (h : Cut P f []) : P = [] ∧ f = true := by
  rcases h with h | ⟨_, X, hX, hP⟩
  · exact h
  · exact absurd (List.append_eq_nil_iff.1 hP).2 hX
end Go.Proofs.Ytdkcccigmejikaa
