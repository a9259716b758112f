/-
  The walk of pack.Text.
-/
import Derived.Test.YtoafkjilkfohjaaInts
set_option linter.unusedVariables false
set_option linter.unusedSimpArgs false
namespace Go.Proofs.Ytoafkjilkfohjaa
open Go.RowKit

theorem RdAt.keeps {w w' : World} {r : Nat} {L : List UInt8} {f : Bool} (h : RdAt w r L f) (hb : Below w.heap.size w w') : RdAt w' r L f := by
  obtain ⟨ao, cap, hB, hs⟩ := h
  exact ⟨ao, cap, hB.keeps hb, hs.keeps hb⟩
/-- A text's bytes: its length, itself. -/
def txt (s : ByteArray) : List UInt8 := enc s.size ++ s.data.toList
/-- Texts as cells. -/
def sc (N : List ByteArray) : List Value := N.map Value.string
theorem sc_len (N : List ByteArray) : (sc N).length = N.length := by simp [sc]
theorem data_len (s : ByteArray) : s.data.toList.length = s.size := by rw [Array.length_toList]; rfl
theorem byteCells_bc (s : ByteArray) : byteCells s = bc s.data.toList := rfl
theorem txt_len {s : ByteArray} (h : s.size ≤ 65536) : (txt s).length ≤ 65546 := by
  have := enc_len64 s.size (by omega)
  rw [txt, List.length_append, data_len]; omega
def txts (N : List ByteArray) : List UInt8 := N.flatMap txt
theorem txts_len {N : List ByteArray} (h : ∀ s ∈ N, s.size ≤ 65536) : (txts N).length ≤ 65546 * N.length := by
  induction N with
  | nil => simp [txts]
  | cons s r ih =>
    have h1 := txt_len (h s (by simp))
    have h2 := ih fun m hm => h m (by simp [hm])
    simp only [txts, List.flatMap_cons, List.length_append, List.length_cons] at h2 ⊢
    omega
theorem txts_take {N : List ByteArray} {k : Nat} {s : ByteArray} (h : N[k]? = some s) : txts (N.take (k + 1)) = txts (N.take k) ++ txt s := by
  obtain ⟨hk, rfl⟩ := List.getElem?_eq_some_iff.1 h
  rw [List.take_succ_eq_append_getElem hk, txts, txts, List.flatMap_append]; simp
/-- What pack.Text answers: bytes, and the error's number. -/
def putT (B : List UInt8) (N : List ByteArray) : List UInt8 × Int := if N.all (fun s => decide (s.size ≤ 65536)) = true then (B ++ txts N, 0) else ([], 61)
theorem putT_ok {B : List UInt8} {N : List ByteArray} (h : ∀ s ∈ N, s.size ≤ 65536) : putT B N = (B ++ txts N, 0) := by
  unfold putT; rw [if_pos (by simpa using h)]
theorem putT_bad {B : List UInt8} {N : List ByteArray} {s : ByteArray} (hs : s ∈ N) (h : ¬ s.size ≤ 65536) : putT B N = ([], 61) := by
  unfold putT; rw [if_neg (by simp; exact ⟨s, hs, by omega⟩)]
theorem info_str : (Try.prog.info? 9).map (fun i => (i.zero, i.size, i.bytes)) = some (some (.string ByteArray.empty), 1, 16) := by kernel_rfl
theorem size_str (w : World) : (sizeOf 9).run Try.prog w = .ok 1 w := by
  obtain ⟨i, hi, _, hs, _⟩ := info_parts info_str
  simp [sizeOf, typeInfo, hi, hs]
theorem pnum_on (n : Nat) (hn : n < 18446744073709551616) (g : Nat) (w : World) (v : Value) (B : List UInt8) (hB : SlB w v B) (h : Sl w (some ⟨g, 0, none⟩) 1 1 [.int .u64 n]) (hl : B.length ≤ 1000000000000) :
    Calls Try.prog 12 #[v, .slice (some ⟨g, 0, none⟩) 1 1] w fun e w' => ∃ v', e = .returned v' ∧ OwB w' w.heap.size v' (B ++ enc n) ∧ Below w.heap.size w w' := by
  have := pnum_any w v B hB (some ⟨g, 0, none⟩) 1 [n] h (by simpa using hn) (by simp; omega)
  simpa [encs] using this
set_option maxRecDepth 8000 in
set_option maxHeartbeats 1600000 in
theorem ptext_any (w : World) (v : Value) (B : List UInt8) (hB : SlB w v B) (ao : Option Addr) (cap : Nat) (N : List ByteArray) (hN : Sl w ao N.length cap (sc N)) (hl : B.length + 65546 * N.length ≤ 100000000000) :
    Calls Try.prog 14 #[v, .slice ao N.length cap] w fun e w' => ∃ v', e = .returned (.tuple #[v', .int .i64 (putT B N).2]) ∧ OwB w' w.heap.size v' (putT B N).1 ∧ Below w.heap.size w w' := by
  have HC := Lib.hid (clone_any w v B hB (by omega))
  obtain ⟨q, hq⟩ : ∃ q, putT B N = q := ⟨_, rfl⟩
  rw [hq]
  have HQ := Lib.hid hq
  clear hB hq
  go_enter Try.func14, Try.ntmps14
  go_wp2_with fail
  refine HC.out.mono ?_
  rintro e w1 ⟨v1, rfl, ho1, hb1⟩
  go_wp2
  go_loopw [6, 13] (fun x i wr => ∃ k : Nat, k ≤ N.length ∧ i = .int .i64 k ∧ (∀ s ∈ N.take k, s.size ≤ 65536) ∧ OwB wr w.heap.size x (B ++ txts (N.take k)) ∧ Below w.heap.size w wr) (fun _ i _ => N.length - (intOf i).toNat)
  case atStart => exact ⟨0, by omega, rfl, by simp, by simpa [txts] using ho1, hb1⟩
  case round =>
    obtain ⟨k, hk, rfl, hall, ho, hb⟩ := hrel
    by_cases hkl : k < N.length
    · obtain ⟨s, hs⟩ : ∃ s, N[k]? = some s := ⟨_, List.getElem?_eq_getElem hkl⟩
      have hlen : (txts (N.take k)).length ≤ 65546 * k := Nat.le_trans (txts_len hall) (by rw [List.length_take]; omega)
      have HNk := Lib.hid hs
      have HA := Lib.hid hall
      have hNw := hN.keeps (hb.mono (Nat.le_refl _))
      clear hs hall
      by_cases h65 : s.size ≤ 65536
      · go_wp2_with (first | (refine wpList_ix_sl rfl 35 9 _ _ rfl Try.underlying35 size_str ao N.length cap rfl (sc N) hNw k hkl rfl ?_; intro b off u hu hcell; obtain rfl : u = .string s := by (simp [sc, HNk.out] at hu; exact hu.symm)))
        have HP := Lib.hid (pnum_on s.size (by omega) wr.heap.size (wr.alloc (.cells #[.int .u64 s.size] 26)) _ _ (SlB.keeps ho.sl (below_new1 wr _)) (sl_unit wr _ _ _ rfl) (by simp; omega))
        have HB := Lib.hid (hb.alloc hb.size (.cells #[.int .u64 s.size] 26))
        refine HP.out.mono ?_
        rintro e w2 ⟨v2, rfl, ho2, hb2⟩
        have HB2 := Lib.hid (below_on HB.out HB.out.size hb2)
        have HO2 := Lib.hid (OwB.up ho2 HB.out.size)
        have h10 := enc_len64 s.size (by omega)
        clear ho2 hb2 HP ho hb
        go_wp2_with (refine ap_src rfl _ _ 9 rfl w.heap.size _ rfl _ HO2.out _ rfl s.data.toList (by rw [data_len, ← byteCells_bc]; exact Src.ofString _ Try.underlying9 s) (by rw [data_len]; simp; omega) HB2.out.size ?_; intro v' w' h1 h2 h3)
        go_roundw
        · refine ⟨k + 1, by omega, by go_num, ?_, by rw [txts_take HNk.out, show txt s = enc s.size ++ s.data.toList from rfl, ← List.append_assoc, ← List.append_assoc]; exact h1, grown_below HO2.out h2 (Nat.le_refl _) (Nat.le_refl _) HB2.out⟩
          obtain ⟨hk', hn'⟩ := List.getElem?_eq_some_iff.1 HNk.out
          intro x hx
          rw [List.take_succ_eq_append_getElem hk', List.mem_append] at hx
          rcases hx with hx | hx
          · exact HA.out x hx
          · rw [List.mem_singleton] at hx; rw [hx, hn']; exact h65
        · simp [intOf]; omega
      · have HX : Hid (q = ([], 61)) := by rw [← HQ.out]; exact putT_bad (List.mem_of_getElem? HNk.out) h65
        go_wp2_with (first | (refine wpList_ix_sl rfl 35 9 _ _ rfl Try.underlying35 size_str ao N.length cap rfl (sc N) hNw k hkl rfl ?_; intro b off u hu hcell; obtain rfl : u = .string s := by (simp [sc, HNk.out] at hu; exact hu.symm)))
        exact bodyPost_ret (v := .tuple #[.slice none 0 0, .int .i64 61]) (by simp [results, Try.results14, go_sem]) rfl ⟨_, by rw [HX.out], by rw [HX.out]; exact own_nil _ _, hb⟩
    · rw [List.take_of_length_le (by omega)] at ho hall
      have HX : Hid (q = (B ++ txts N, 0)) := by rw [← HQ.out]; exact putT_ok hall
      go_wp2
      refine bodyPost_ret (v := .tuple #[_, .int .i64 0]) (by simp [results, Try.results14, go_sem]; rfl) rfl ⟨_, by rw [HX.out], by rw [HX.out]; exact ho, hb⟩
end Go.Proofs.Ytoafkjilkfohjaa
