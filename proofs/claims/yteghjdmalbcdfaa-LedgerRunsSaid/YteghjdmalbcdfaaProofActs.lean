/-
  Words for the proofs of the rows: slices of acts with legs opened.
-/
import Derived.Test.YteghjdmalbcdfaaProofRec
import Derived.Test.YteghjdmalbcdfaaLgK
set_option linter.unusedVariables false
set_option linter.unusedSimpArgs false
namespace Go.Proofs.Yteghjdmalbcdfaa
open Go.ChangeShapes Go.WideShapes Go.ChangeAt Go.RowKit Go.Deep

section
variable {H : Type} {enc : TypeId × Value → H} {P : Program}
/-- A slice of records of whole numbers, opened. -/
theorem open_rec_cs {α : Type} {S : Nat} (g : α → List Int) (hg : ∀ x : List Int, x.length = S → ∃ a, g a = x) (hgl : ∀ a, (g a).length = S) {W : World} {t e : TypeId} {fs : Array Field} {v : Value} {fuel : Nat} {x : DataW H × List MemPlace}
    (ht : P.underlying t = some (.slice e)) (he : P.underlying e = some (.struct fs)) (hone : oneCellFields P fs = true) (hC : P.cellsOf e = fs.size) (hS : fs.size = S)
    (hI : ∀ (j : Nat) (f : Field), fs[j]? = some f → P.underlying f.type = some (.int .i64)) (h : DataW.trod enc P W 0 (fun _ => true) true fuel t [v] = some x) :
    ∃ (ao : Option Addr) (cap : Nat) (L : List α), v = .slice ao L.length cap ∧ Rk W S ao L.length cap (rc (fun a => (g a).map (Value.int .i64)) L) ∧ ∀ a ∈ L, ∀ z ∈ g a, (Lit.int .i64 z).wf = true := by
  rcases open_slice_fields ht he hone hC h with ⟨hcs, hx⟩ | ⟨a, n, cap, m, hcs, _, hl, hm, hmm, hi⟩
  · obtain rfl : v = .slice none 0 0 := by simpa using hcs
    exact ⟨none, 0, [], rfl, Rk.of_nil W S, by simp⟩
  · obtain rfl : v = .slice (some a) n cap := by simpa using hcs
    simp only [if_true] at hmm
    subst hmm
    have hz : ∀ i j, i < n → j < S → ∃ z, W.cell? (a.add (i * S + j)) = some (.int .i64 z) ∧ (Lit.int .i64 z).wf = true := by
      intro i j hin hjS
      have hj : fs[j]? = some (fs[j]'(by omega)) := Array.getElem?_eq_getElem (by omega)
      obtain ⟨k, v, y, hcell, hy⟩ := hi i (by omega) j _ hj
      obtain ⟨z, hzv, _, wz⟩ := DataW.trod_int (hI j _ hj) hy
      simp at hzv
      subst hzv
      rw [hS] at hcell
      exact ⟨z, hcell, wz⟩
    have hrow : ∀ i, i < n → ∃ al, (∀ j, j < S → ∃ z, (g al)[j]? = some z ∧ W.cell? (a.add (i * S + j)) = some (.int .i64 z) ∧ (Lit.int .i64 z).wf = true) := by
      intro i hin
      let f : Nat → Int := fun j => match W.cell? (a.add (i * S + j)) with | some (.int _ z) => z | _ => 0
      obtain ⟨al, hal⟩ := hg ((List.range S).map f) (by simp)
      refine ⟨al, fun j hj => ?_⟩
      obtain ⟨z, hc, wz⟩ := hz i j hin hj
      refine ⟨z, ?_, hc, wz⟩
      rw [hal, List.getElem?_map, List.getElem?_range hj]
      simp [f, hc]
    have hL : ∀ k, k ≤ n → ∃ L : List α, L.length = k ∧ ∀ i, i < k → ∃ al, L[i]? = some al ∧ (∀ j, j < S → ∃ z, (g al)[j]? = some z ∧ W.cell? (a.add (i * S + j)) = some (.int .i64 z) ∧ (Lit.int .i64 z).wf = true) := by
      intro k hk
      induction k with
      | zero => exact ⟨[], rfl, fun i hi => absurd hi (Nat.not_lt_zero _)⟩
      | succ k ih =>
        obtain ⟨L, hLl, hLi⟩ := ih (by omega)
        obtain ⟨al, hal⟩ := hrow k (by omega)
        refine ⟨L ++ [al], by simp [hLl], fun i hik => ?_⟩
        by_cases h : i < k
        · obtain ⟨b, hb, hb2⟩ := hLi i h
          exact ⟨b, by rw [List.getElem?_append_left (by omega)]; exact hb, hb2⟩
        · obtain rfl : i = k := by omega
          exact ⟨al, by rw [List.getElem?_append_right (by omega), hLl]; simp, hal⟩
    obtain ⟨L, hLl, hLi⟩ := hL n (Nat.le_refl _)
    subst hLl
    have hfl : ∀ x : α, ((fun a => (g a).map (Value.int .i64)) x).length = S := fun x => by simp [hgl]
    refine ⟨some a, _, L, rfl, ⟨rc_len hfl L, hl, by simp, fun hne => ?_⟩, fun al hal z hzm => ?_⟩
    · have hlen := rc_len hfl L
      have hpos : 0 < L.length * S := by
        rw [← hlen]; exact List.length_pos_iff.2 hne
      have hn0 : 0 < L.length := Nat.pos_of_mul_pos_right hpos
      have hS0 : 0 < S := Nat.pos_of_mul_pos_left hpos
      obtain ⟨b, off, spot⟩ := a
      obtain ⟨z, h0, _⟩ := hz 0 0 hn0 hS0
      have hspot : spot = none := by simpa [Addr.add] using World.cell?_spot h0
      subst hspot
      refine ⟨b, off, rfl, fun j u hu => ?_⟩
      have hj : j < L.length * S := by
        have := (List.getElem?_eq_some_iff.1 hu).1
        rw [hlen] at this; exact this
      have hi2 : j / S < L.length := Nat.div_lt_of_lt_mul (by rw [Nat.mul_comm]; exact hj)
      have hj2 : j % S < S := Nat.mod_lt _ hS0
      obtain ⟨al, hal, hall⟩ := hLi _ hi2
      obtain ⟨z, hgz, hc, _⟩ := hall _ hj2
      have e : j / S * S + j % S = j := Nat.div_add_mod' j S
      have := rc_at hfl hal (j % S) (.int .i64 z) (by simp [hgz])
      rw [e] at this hc
      rw [this] at hu
      obtain rfl := Option.some.inj hu
      rw [← hc]
      congr 1
      unfold Addr.add; split <;> simp_all
    · obtain ⟨i, hi1⟩ := List.mem_iff_getElem?.1 hal
      have hil := (List.getElem?_eq_some_iff.1 hi1).1
      obtain ⟨al', hal', hall⟩ := hLi i hil
      rw [hi1] at hal'
      obtain rfl := Option.some.inj hal'
      obtain ⟨j, hj1⟩ := List.mem_iff_getElem?.1 hzm
      have hjS : j < S := by have := (List.getElem?_eq_some_iff.1 hj1).1; rw [hgl] at this; exact this
      obtain ⟨z', hz', _, wz⟩ := hall j hjS
      rw [hj1] at hz'
      obtain rfl := Option.some.inj hz'
      exact wz
theorem wf_rng {x : Int} (h : (Lit.int .i64 x).wf = true) : -9223372036854775808 ≤ x ∧ x ≤ 9223372036854775807 := by
  simp [Lit.wf, IntKind.min, IntKind.max, IntKind.signed, IntKind.bits] at h; omega
/-- A slice of acts, opened. -/
theorem open_acts {W : World} {r : Reach} {b0 : Nat} {t e ge : TypeId} {fs gfs : Array Field} {f0 f1 f2 : Field} {v : Value} {d : DataW H} {p : List MemPlace}
    (ht : P.underlying t = some (.slice e)) (he : P.underlying e = some (.struct fs)) (hone : oneCellFields P fs = true) (hC : P.cellsOf e = fs.size) (hS : fs.size = 3)
    (hf0 : fs[0]? = some f0) (hf1 : fs[1]? = some f1) (hf2 : fs[2]? = some f2) (k0 : P.underlying f0.type = some (.int .i64)) (k1 : P.underlying f1.type = some (.int .i64)) (k2 : P.underlying f2.type = some (.slice ge))
    (hge : P.underlying ge = some (.struct gfs)) (honeg : oneCellFields P gfs = true) (hCg : P.cellsOf ge = gfs.size) (hSg : gfs.size = 2)
    (hI : ∀ (j : Nat) (f : Field), gfs[j]? = some f → P.underlying f.type = some (.int .i64)) (hv : Value.okWide P W r b0 t v) (h : DataW.Trod enc P W 0 (fun _ => true) true t v d p) :
    ∃ (ao : Option Addr) (cap : Nat) (L : List Ak), v = .slice ao L.length cap ∧ SlK W ao cap L ∧ ∀ a ∈ L, LegsAt W a := by
  obtain ⟨ao, n, cap, rfl⟩ := okWide_slice ht hv
  obtain ⟨fuel, hf⟩ := h
  rcases open_slice_fields ht he hone hC hf with ⟨hcs, hx⟩ | ⟨a, len', cap', m, hcs, _, hl, hm, hmm, hi⟩
  · simp [Value.cells] at hcs
    obtain ⟨rfl, rfl, rfl⟩ := hcs
    exact ⟨none, 0, [], rfl, Rk.of_nil W 3, by simp⟩
  · simp [Value.cells] at hcs
    obtain ⟨rfl, rfl, rfl⟩ := hcs
    simp only [if_true] at hmm
    subst hmm
    rw [hS] at hi
    have hrow : ∀ i, i < n → ∃ al : Ak, LegsAt W al ∧ ∀ j u, (akc al)[j]? = some u → W.cell? (a.add (i * 3 + j)) = some u := by
      intro i hin
      obtain ⟨n0, v0, y0, c0, t0⟩ := hi i (by omega) 0 f0 hf0
      obtain ⟨n1, v1, y1, c1, t1⟩ := hi i (by omega) 1 f1 hf1
      obtain ⟨n2, v2, y2, c2, t2⟩ := hi i (by omega) 2 f2 hf2
      obtain ⟨z0, e0, _, w0⟩ := DataW.trod_int k0 t0
      obtain ⟨z1, e1, _, w1⟩ := DataW.trod_int k1 t1
      simp at e0 e1
      subst e0; subst e1
      obtain ⟨lo, lc, L, rfl, hL, wL⟩ := open_rec_cs ints2 ints2_ex ints2_len k2 hge honeg hCg hSg hI t2
      refine ⟨(z0, z1, .slice lo L.length lc, L), ⟨lo, lc, rfl, hL, fun x hx => wf_rng (wL x hx x.2 (by simp [ints2]))⟩, fun j u hu => ?_⟩
      match j, hu with
      | 0, hu => obtain rfl := Option.some.inj hu; exact c0
      | 1, hu => obtain rfl := Option.some.inj hu; exact c1
      | 2, hu => obtain rfl := Option.some.inj hu; exact c2
      | j + 3, hu => simp [akc] at hu
    have hL : ∀ k, k ≤ n → ∃ L : List Ak, L.length = k ∧ ∀ i, i < k → ∃ al : Ak, L[i]? = some al ∧ LegsAt W al ∧ ∀ j u, (akc al)[j]? = some u → W.cell? (a.add (i * 3 + j)) = some u := by
      intro k hk
      induction k with
      | zero => exact ⟨[], rfl, fun i hi => absurd hi (Nat.not_lt_zero _)⟩
      | succ k ih =>
        obtain ⟨L, hLl, hLi⟩ := ih (by omega)
        obtain ⟨al, hal⟩ := hrow k (by omega)
        refine ⟨L ++ [al], by simp [hLl], fun i hik => ?_⟩
        by_cases h : i < k
        · obtain ⟨b, hb, hb2⟩ := hLi i h
          exact ⟨b, by rw [List.getElem?_append_left (by omega)]; exact hb, hb2⟩
        · obtain rfl : i = k := by omega
          exact ⟨al, by rw [List.getElem?_append_right (by omega), hLl]; simp, hal⟩
    obtain ⟨L, hLl, hLi⟩ := hL n (Nat.le_refl _)
    subst hLl
    refine ⟨some a, _, L, rfl, ⟨rc_len akc_len L, hl, by simp, fun hne => ?_⟩, fun al hal => ?_⟩
    · have hlen := rc_len akc_len L
      have hpos : 0 < L.length * 3 := by
        rw [← hlen]; exact List.length_pos_iff.2 hne
      obtain ⟨b, off, spot⟩ := a
      obtain ⟨al, _, _, hc0⟩ := hLi 0 (by omega)
      have h0 := hc0 0 _ rfl
      have hspot : spot = none := by simpa [Addr.add] using World.cell?_spot h0
      subst hspot
      refine ⟨b, off, rfl, fun j u hu => ?_⟩
      have hj : j < L.length * 3 := by
        have := (List.getElem?_eq_some_iff.1 hu).1
        rw [hlen] at this; exact this
      have hi2 : j / 3 < L.length := Nat.div_lt_of_lt_mul (by rw [Nat.mul_comm]; exact hj)
      have hj2 : j % 3 < 3 := Nat.mod_lt _ (by decide)
      obtain ⟨al, hal, _, hall⟩ := hLi _ hi2
      have hk : (akc al)[j % 3]? = some ((akc al)[j % 3]'(by rw [akc_len]; exact hj2)) := List.getElem?_eq_getElem _
      have hc := hall _ _ hk
      have e : j / 3 * 3 + j % 3 = j := Nat.div_add_mod' j 3
      have := rc_at akc_len hal (j % 3) _ hk
      rw [e] at this hc
      rw [this] at hu
      obtain rfl := Option.some.inj hu
      rw [← hc]
      congr 1
      unfold Addr.add; split <;> simp_all
    · obtain ⟨i, hi1⟩ := List.mem_iff_getElem?.1 hal
      have hil := (List.getElem?_eq_some_iff.1 hi1).1
      obtain ⟨al', hal', hleg, _⟩ := hLi i hil
      rw [hi1] at hal'
      obtain rfl := Option.some.inj hal'
      exact hleg
end
end Go.Proofs.Yteghjdmalbcdfaa
