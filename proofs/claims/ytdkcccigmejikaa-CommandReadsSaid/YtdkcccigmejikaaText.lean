/-
  The walk of pack.Text.
-/
import Derived.Test.YtdkcccigmejikaaInts
set_option linter.unusedVariables false
set_option linter.unusedSimpArgs false
namespace Go.Proofs.Ytdkcccigmejikaa
open Go.RowKit

theorem RdAt.keeps {w w' : World} {r : Nat} {L : List UInt8} {f : Bool} (h : RdAt w r L f) (hb : Below w.heap.size w w') : RdAt w' r L f := by
  obtain ⟨ao, cap, hB, hs⟩ := h
  exact ⟨ao, cap, hB.keeps hb, hs.keeps hb⟩
/-- A text's bytes: its length, itself. -/
def txt (s : ByteArray) : List UInt8 := enc s.size ++ s.data.toList
/-- Texts as cells. -/
def sc (N : List ByteArray) : List Value := N.map Value.string
theorem sc_len (N : List ByteArray) : (sc N).length = N.length := by simp [sc]
theorem data_len (s : ByteArray) : s.data.toList.length = s.size := by rw [Array.length_toList]; rfl
theorem byteCells_bc (s : ByteArray) : byteCells s = bc s.data.toList := rfl
theorem txt_len {s : ByteArray} (h : s.size ≤ 65536) : (txt s).length ≤ 65546 := by
  have := enc_len64 s.size (by omega)
  rw [txt, List.length_append, data_len]; omega
def txts (N : List ByteArray) : List UInt8 := N.flatMap txt
theorem txts_len {N : List ByteArray} (h : ∀ s ∈ N, s.size ≤ 65536) : (txts N).length ≤ 65546 * N.length := by
  induction N with
  | nil => simp [txts]
  | cons s r ih =>
    have h1 := txt_len (h s (by simp))
    have h2 := ih fun m hm => h m (by simp [hm])
    simp only [txts, List.flatMap_cons, List.length_append, List.length_cons] at h2 ⊢
    omega
theorem txts_take {N : List ByteArray} {k : Nat} {s : ByteArray} (h : N[k]? = some s) : txts (N.take (k + 1)) = txts (N.take k) ++ txt s := by
  obtain ⟨hk, rfl⟩ := List.getElem?_eq_some_iff.1 h
  rw [List.take_succ_eq_append_getElem hk, txts, txts, List.flatMap_append]; simp
/-- What pack.Text answers: bytes, and the error's number. -/
def putT (B : List UInt8) (N : List ByteArray) : List UInt8 × Int := if N.all (fun s => decide (s.size ≤ 65536)) = true then (B ++ txts N, 0) else ([], 61)
theorem putT_ok {B : List UInt8} {N : List ByteArray} (h : ∀ s ∈ N, s.size ≤ 65536) : putT B N = (B ++ txts N, 0) := by
  unfold putT; rw [if_pos (by simpa using h)]
theorem putT_bad {B : List UInt8} {N : List ByteArray} {s : ByteArray} (hs : s ∈ N) (h : ¬ s.size ≤ 65536) : putT B N = ([], 61) := by
  unfold putT; rw [if_neg (by simp; exact ⟨s, hs, by omega⟩)]
theorem info_str : (Try.prog.info? 9).map (fun i => (i.zero, i.size, i.bytes)) = some (some (.string ByteArray.empty), 1, 16) := by kernel_rfl
theorem size_str (w : World) : (sizeOf 9).run Try.prog w = .ok 1 w := by
  obtain ⟨i, hi, _, hs, _⟩ := info_parts info_str
  simp [sizeOf, typeInfo, hi, hs]
theorem pnum_on (n : Nat) (hn : n < 18446744073709551616) (g : Nat) (w : World) (v : Value) (B : List UInt8) (hB : SlB w v B) (h : Sl w (some ⟨g, 0, none⟩) 1 1 [.int .u64 n]) (hl : B.length ≤ 1000000000000) :
    Calls Try.prog 27 #[v, .slice (some ⟨g, 0, none⟩) 1 1] w fun e w' => ∃ v', e = .returned v' ∧ OwB w' w.heap.size v' (B ++ enc n) ∧ Below w.heap.size w w' := by
  have := pnum_any w v B hB (some ⟨g, 0, none⟩) 1 [n] h (by simpa using hn) (by simp; omega)
  simpa [encs] using this
end Go.Proofs.Ytdkcccigmejikaa
