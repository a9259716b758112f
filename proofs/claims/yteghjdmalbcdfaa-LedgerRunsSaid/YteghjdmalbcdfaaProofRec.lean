/-
  Words for the proofs of the rows: slices of records of whole numbers opened.
-/
import Derived.Test.YteghjdmalbcdfaaProofKit
import Derived.Test.YteghjdmalbcdfaaRec
import Derived.Deep.Slices
import Derived.Deep.Fields
import Derived.ChangeSame
import Derived.ChangeSlices
set_option linter.unusedVariables false
set_option linter.unusedSimpArgs false
namespace Go.Proofs.Yteghjdmalbcdfaa
open Go.ChangeShapes Go.WideShapes Go.ChangeAt Go.RowKit Go.Deep

/-- A record's numbers. -/
def ints2 (t : Int × Int) : List Int := [t.1, t.2]
def ints3 (t : Int × Int × Int) : List Int := [t.1, t.2.1, t.2.2]
def ints4 (t : Int × Int × Int × Int) : List Int := [t.1, t.2.1, t.2.2.1, t.2.2.2]
def ints5 (t : Int × Int × Int × Int × Int) : List Int := [t.1, t.2.1, t.2.2.1, t.2.2.2.1, t.2.2.2.2]
theorem ints2_ex : ∀ x : List Int, x.length = 2 → ∃ a, ints2 a = x
  | [a, b], _ => ⟨(a, b), rfl⟩
theorem ints3_ex : ∀ x : List Int, x.length = 3 → ∃ a, ints3 a = x
  | [a, b, c], _ => ⟨(a, b, c), rfl⟩
theorem ints4_ex : ∀ x : List Int, x.length = 4 → ∃ a, ints4 a = x
  | [a, b, c, d], _ => ⟨(a, b, c, d), rfl⟩
theorem ints5_ex : ∀ x : List Int, x.length = 5 → ∃ a, ints5 a = x
  | [a, b, c, d, e], _ => ⟨(a, b, c, d, e), rfl⟩
theorem ints2_len (a : Int × Int) : (ints2 a).length = 2 := rfl
theorem ints3_len (a : Int × Int × Int) : (ints3 a).length = 3 := rfl
theorem ints4_len (a : Int × Int × Int × Int) : (ints4 a).length = 4 := rfl
theorem ints5_len (a : Int × Int × Int × Int × Int) : (ints5 a).length = 5 := rfl
/-- Is a field a whole number of 64 bits with a sign? -/
def isI64 (P : Program) (f : Field) : Bool := match P.underlying f.type with | some (.int .i64) => true | _ => false
theorem kinds_i64 {P : Program} {fs : Array Field} (h : fs.all (isI64 P) = true) (j : Nat) (f : Field) (hj : fs[j]? = some f) : P.underlying f.type = some (.int .i64) := by
  have h1 := (Array.all_eq_true'.1 h) f (Array.mem_of_getElem? hj)
  unfold isI64 at h1
  split at h1
  · assumption
  · cases h1
section
variable {H : Type} {enc : TypeId × Value → H} {P : Program} {w : World} {base : Nat} {spare : Nat → Bool} {held : Bool}
/-- A slice of records: each field's cell and reading. -/
theorem open_slice_fields {t e : TypeId} {fs : Array Field} {fuel : Nat} {cs : List Value} {x : DataW H × List MemPlace} (ht : P.underlying t = some (.slice e)) (he : P.underlying e = some (.struct fs))
    (hone : oneCellFields P fs = true) (hC : P.cellsOf e = fs.size) (h : DataW.trod enc P w base spare held fuel t cs = some x) :
    (cs = [.slice none 0 0] ∧ x = (.nil, [])) ∨
    ∃ (a : Addr) (len cap m : Nat), cs = [.slice (some a) len cap] ∧ base ≤ a.block ∧ len ≤ cap ∧ cap ≤ maxLen ∧ m = (if spare a.block then cap else len) ∧
      ∀ i, i < m → ∀ (j : Nat) (f : Field), fs[j]? = some f → ∃ (n : Nat) (v : Value) (y : DataW H × List MemPlace), w.cell? (a.add (i * fs.size + j)) = some v ∧ DataW.trod enc P w base spare held n f.type [v] = some y := by
  rcases open_slice ht h with h0 | ⟨a, len, cap, m, n, D, Pl, hcs, hb, hl, hm, hmm, hx, hi⟩
  · exact .inl h0
  · refine .inr ⟨a, len, cap, m, hcs, hb, hl, hm, hmm, fun i him => ?_⟩
    obtain ⟨cs', hc, ht'⟩ := hi i him
    rw [hC] at hc
    obtain ⟨ys, n', hn', hy, hlen, hyl, hf⟩ := DataW.trod_struct he ht'
    obtain ⟨_, hcl, hat⟩ := World.cells?_some hc
    intro j f hj
    obtain ⟨ho, hk⟩ := hone_of hone j f hj
    have hjl : j < fs.size := (Array.getElem?_eq_some_iff.1 hj).1
    have hcell := hat j hjl
    have hv : cs'[j]? = some (cs'[j]'(by omega)) := List.getElem?_eq_getElem (by omega)
    have h1 := hf j f hj
    rw [ho, hk] at h1
    have hone' : (cs'.drop j).take 1 = [cs'[j]'(by omega)] := by
      rw [List.drop_eq_getElem_cons (by omega)]
      rfl
    rw [hone'] at h1
    have hys : ys[j]? = some (ys[j]'(by omega)) := List.getElem?_eq_getElem (by omega)
    refine ⟨_, _, _, ?_, h1.trans hys⟩
    rw [← Go.Deep.add_add, hcell, hv]
/-- A slice of records of whole numbers, opened. -/
theorem open_rec {α : Type} {S : Nat} (g : α → List Int) (hg : ∀ x : List Int, x.length = S → ∃ a, g a = x) (hgl : ∀ a, (g a).length = S) {W : World} {r : Reach} {b0 : Nat} {t e : TypeId} {fs : Array Field} {v : Value} {d : DataW H} {p : List MemPlace}
    (ht : P.underlying t = some (.slice e)) (he : P.underlying e = some (.struct fs)) (hone : oneCellFields P fs = true) (hC : P.cellsOf e = fs.size) (hS : fs.size = S)
    (hI : ∀ (j : Nat) (f : Field), fs[j]? = some f → P.underlying f.type = some (.int .i64)) (hv : Value.okWide P W r b0 t v) (h : DataW.Trod enc P W 0 (fun _ => true) true t v d p) :
    ∃ (ao : Option Addr) (cap : Nat) (L : List α), v = .slice ao L.length cap ∧ Rk W S ao L.length cap (rc (fun a => (g a).map (Value.int .i64)) L) ∧ ∀ a ∈ L, ∀ z ∈ g a, (Lit.int .i64 z).wf = true := by
  obtain ⟨ao, n, cap, rfl⟩ := okWide_slice ht hv
  obtain ⟨fuel, hf⟩ := h
  rcases open_slice_fields ht he hone hC hf with ⟨hcs, hx⟩ | ⟨a, len', cap', m, hcs, _, hl, hm, hmm, hi⟩
  · simp [Value.cells] at hcs
    obtain ⟨rfl, rfl, rfl⟩ := hcs
    exact ⟨none, 0, [], rfl, Rk.of_nil W S, by simp⟩
  · simp [Value.cells] at hcs
    obtain ⟨rfl, rfl, rfl⟩ := hcs
    simp only [if_true] at hmm
    subst hmm
    have hz : ∀ i j, i < n → j < S → ∃ z, W.cell? (a.add (i * S + j)) = some (.int .i64 z) ∧ (Lit.int .i64 z).wf = true := by
      intro i j hin hjS
      have hj : fs[j]? = some (fs[j]'(by omega)) := Array.getElem?_eq_getElem (by omega)
      obtain ⟨k, v, y, hcell, hy⟩ := hi i (by omega) j _ hj
      obtain ⟨z, hzv, _, wz⟩ := DataW.trod_int (hI j _ hj) hy
      simp at hzv
      subst hzv
      rw [hS] at hcell
      exact ⟨z, hcell, wz⟩
    have hrow : ∀ i, i < n → ∃ al, (∀ j, j < S → ∃ z, (g al)[j]? = some z ∧ W.cell? (a.add (i * S + j)) = some (.int .i64 z) ∧ (Lit.int .i64 z).wf = true) := by
      intro i hin
      let f : Nat → Int := fun j => match W.cell? (a.add (i * S + j)) with | some (.int _ z) => z | _ => 0
      obtain ⟨al, hal⟩ := hg ((List.range S).map f) (by simp)
      refine ⟨al, fun j hj => ?_⟩
      obtain ⟨z, hc, wz⟩ := hz i j hin hj
      refine ⟨z, ?_, hc, wz⟩
      rw [hal, List.getElem?_map, List.getElem?_range hj]
      simp [f, hc]
    have hL : ∀ k, k ≤ n → ∃ L : List α, L.length = k ∧ ∀ i, i < k → ∃ al, L[i]? = some al ∧ (∀ j, j < S → ∃ z, (g al)[j]? = some z ∧ W.cell? (a.add (i * S + j)) = some (.int .i64 z) ∧ (Lit.int .i64 z).wf = true) := by
      intro k hk
      induction k with
      | zero => exact ⟨[], rfl, fun i hi => absurd hi (Nat.not_lt_zero _)⟩
      | succ k ih =>
        obtain ⟨L, hLl, hLi⟩ := ih (by omega)
        obtain ⟨al, hal⟩ := hrow k (by omega)
        refine ⟨L ++ [al], by simp [hLl], fun i hik => ?_⟩
        by_cases h : i < k
        · obtain ⟨b, hb, hb2⟩ := hLi i h
          exact ⟨b, by rw [List.getElem?_append_left (by omega)]; exact hb, hb2⟩
        · obtain rfl : i = k := by omega
          exact ⟨al, by rw [List.getElem?_append_right (by omega), hLl]; simp, hal⟩
    obtain ⟨L, hLl, hLi⟩ := hL n (Nat.le_refl _)
    subst hLl
    have hfl : ∀ x : α, ((fun a => (g a).map (Value.int .i64)) x).length = S := fun x => by simp [hgl]
    refine ⟨some a, _, L, rfl, ⟨rc_len hfl L, hl, by simp, fun hne => ?_⟩, fun al hal z hzm => ?_⟩
    · have hlen := rc_len hfl L
      have hpos : 0 < L.length * S := by
        rw [← hlen]; exact List.length_pos_iff.2 hne
      have hn0 : 0 < L.length := Nat.pos_of_mul_pos_right hpos
      have hS0 : 0 < S := Nat.pos_of_mul_pos_left hpos
      obtain ⟨b, off, spot⟩ := a
      obtain ⟨z, h0, _⟩ := hz 0 0 hn0 hS0
      have hspot : spot = none := by simpa [Addr.add] using World.cell?_spot h0
      subst hspot
      refine ⟨b, off, rfl, fun j u hu => ?_⟩
      have hj : j < L.length * S := by
        have := (List.getElem?_eq_some_iff.1 hu).1
        rw [hlen] at this; exact this
      have hi2 : j / S < L.length := Nat.div_lt_of_lt_mul (by rw [Nat.mul_comm]; exact hj)
      have hj2 : j % S < S := Nat.mod_lt _ hS0
      obtain ⟨al, hal, hall⟩ := hLi _ hi2
      obtain ⟨z, hgz, hc, _⟩ := hall _ hj2
      have e : j / S * S + j % S = j := Nat.div_add_mod' j S
      have := rc_at hfl hal (j % S) (.int .i64 z) (by simp [hgz])
      rw [e] at this hc
      rw [this] at hu
      obtain rfl := Option.some.inj hu
      rw [← hc]
      congr 1
      unfold Addr.add; split <;> simp_all
    · obtain ⟨i, hi1⟩ := List.mem_iff_getElem?.1 hal
      have hil := (List.getElem?_eq_some_iff.1 hi1).1
      obtain ⟨al', hal', hall⟩ := hLi i hil
      rw [hi1] at hal'
      obtain rfl := Option.some.inj hal'
      obtain ⟨j, hj1⟩ := List.mem_iff_getElem?.1 hzm
      have hjS : j < S := by have := (List.getElem?_eq_some_iff.1 hj1).1; rw [hgl] at this; exact this
      obtain ⟨z', hz', _, wz⟩ := hall j hjS
      rw [hj1] at hz'
      obtain rfl := Option.some.inj hz'
      exact wz
end
end Go.Proofs.Yteghjdmalbcdfaa
