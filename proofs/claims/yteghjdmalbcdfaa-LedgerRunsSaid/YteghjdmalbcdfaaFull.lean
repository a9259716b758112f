/-
  append onto a slice that is full (an empty literal; one cut to its length): whatever was there stays.
-/
import Derived.Test.YteghjdmalbcdfaaRec
set_option linter.unusedVariables false
set_option linter.unusedSimpArgs false
namespace Go.Proofs.Yteghjdmalbcdfaa
open Go.RowKit

section
variable {P : Program} {ops : Array Oper} {rest : List Oper} {o : Oper} {a : Act} {w : World} {Q : Exit → Act → World → Prop} {K : Act → World → Prop}
theorem run_append_full (w : World) (t tx ty e : TypeId) (i : TypeInfo) (z : Value) (bytes S : Nat) (ht : P.underlying t = some (.slice e)) (hi : P.info? e = some i) (hz : i.zero = some z)
    (hsize : i.size = S) (hS : 0 < S) (hby : i.bytes = bytes) (hzs : z.cells.size = S) (ao : Option Addr) (n : Nat) (xs : List Value) (hxs : Rk w S ao n n xs)
    (x : Value) (m : Nat) (news : List Value) (hs : Src P S tx x m news w) (h63 : n + m ≤ maxLen) (hbytes : (n + m) * bytes ≤ 140737488355328) :
    ∃ ao' cap' w', (Builtin.append_ #[t, tx] ty #[.slice ao n n, x]).run P w = .ok (.slice ao' (n + m) cap') w' ∧ Rk w' S ao' (n + m) cap' (xs ++ news) ∧ Below w.heap.size w w' ∧ (m = 0 ∧ ao' = ao ∧ cap' = n ∧ w' = w ∨ w'.ownsRow w.heap.size e S (.slice ao' (n + m) cap') (n + m) (xs ++ news)) := by
  subst hby
  have hl := hs.newsLen
  have hlen : (xs ++ news).length = (n + m) * S := by rw [List.length_append, hxs.len, hl, Nat.add_mul]
  have h63' : ((n + m : Nat) : Int) ≤ 9223372036854775807 := by simp only [maxLen] at h63; omega
  by_cases hm : m = 0
  · subst hm
    have hn : news = [] := List.eq_nil_of_length_eq_zero (by simpa using hl)
    subst hn
    cases ao with
    | none =>
      have h0 := hxs.nil rfl
      subst h0
      have hx0 : xs = [] := List.eq_nil_of_length_eq_zero (by simpa using hxs.len)
      subst hx0
      refine ⟨none, 0, w, ?_, Rk.of_nil w S, Below.refl _ _, .inl ⟨rfl, rfl, rfl, rfl⟩⟩
      have hlen0 := hs.len
      have hc0 := hs.cells
      rcases hs.kind with ⟨e', hk⟩ | hk <;> simp [Builtin.append_, run_underlying ht, run_underlying hk, sizeOf, typeInfo, hi, hlen0, hsize, hc0]
    | some ad =>
      obtain ⟨g, off, pth, had⟩ : ∃ g off p, ad = ⟨g, off, p⟩ := ⟨_, _, _, rfl⟩
      by_cases hne : xs = []
      · subst hne
        have hn0 : n = 0 := by
          have h2 : 0 = n * S := hxs.len
          rcases Nat.mul_eq_zero.1 h2.symm with h | h <;> omega
        subst hn0
        have hlen0 := hs.len
        have hc0 := hs.cells
        refine ⟨some ad, 0, w, ?_, ⟨by simp, Nat.le_refl _, by simp, fun h => absurd rfl h⟩, Below.refl _ _, .inl ⟨rfl, rfl, rfl, rfl⟩⟩
        rcases hs.kind with ⟨e', hk⟩ | hk <;> simp [Builtin.append_, run_underlying ht, run_underlying hk, sizeOf, typeInfo, hi, hlen0, hsize, hc0]
        all_goals (first | rfl | simp [storeCells])
      · obtain ⟨g', off', e1, hc⟩ := hxs.cells hne
        obtain rfl := Option.some.inj e1
        have hr := run_append_room_src (P := P) w t tx ty e i ht hi g' off' n n x 0 [] (by rw [hsize]; exact hs) (by omega) (fun j hj => by simp at hj) (fun j hj => by simp at hj)
        exact ⟨_, _, _, hr, by simpa [World.setCells] using hxs, by simpa [World.setCells] using Below.refl _ _, .inl ⟨rfl, rfl, rfl, by simp [World.setCells]⟩⟩
  · have hfc : (Builtin.firstCells i.size n (.slice ao n n)).run P w.drew = .ok xs.toArray w.drew := by
      rw [hsize]
      cases ao with
      | none =>
        have h0 := hxs.nil rfl
        subst h0
        have hx0 : xs = [] := List.eq_nil_of_length_eq_zero (by simpa using hxs.len)
        subst hx0
        exact run_firstCells_none w.drew S 0 0 0
      | some ad =>
        refine run_firstCells_some w.drew S n ad n n xs hxs.len (fun j u hu => ?_)
        obtain ⟨g', off', e1, hc⟩ := hxs.cells (by rintro rfl; simp at hu)
        obtain rfl := Option.some.inj e1
        have := hc j u hu
        show w.cell? _ = _
        rw [show (⟨g', off', none⟩ : Addr).add j = ⟨g', off' + j, none⟩ from by
          by_cases hj : j = 0
          · subst hj; rfl
          · simp [Addr.add, hj]]
        exact this
    have hr := run_append_grow_src (P := P) w t tx ty e i z ht hi hz ao n n xs hfc x m news (by rw [hsize]; exact hs) (by omega) h63' (growslice_fits (by omega) hbytes)
    have hge := grownCap_ge w (n + m) n e
    have hcm : grownCap w (n + m) n e ≤ maxLen := grownCap_le_maxLen w (n + m) n e h63
    refine ⟨_, _, _, hr, ⟨hlen, hge, by simp, fun _ => ⟨w.heap.size, 0, rfl, fun j u hu => ?_⟩⟩, (Below.refl _ _).drew.alloc (Nat.le_refl _) _, .inr ⟨hlen, .inr ⟨w.heap.size, _, _, rfl, Nat.le_refl _, heap_alloc_new w.drew _, hge, hcm, ?_, ?_⟩⟩⟩
    · have hj := (List.getElem?_eq_some_iff.1 hu).1
      rw [Nat.zero_add, cell_of_row _ w.heap.size j _ _ _ (heap_alloc_new w.drew _)]
      rw [Array.getElem?_append_left (by simpa using hj)]
      simpa using hu
    · simp only [Array.size_append, List.size_toArray, size_zeroCells, hzs, hlen]
      rw [← Nat.add_mul, Nat.add_sub_cancel' hge]
    · simp only [Array.toList_append]
      rw [← hlen]
      exact List.take_left
theorem wp_append_full (s x : Operand) (t tx : TypeId) (ho : o.op = .call { callee := .builtin .append, args := #[s, x], argTypes := #[t, tx] })
    (e : TypeId) (z : Value) (bytes S : Nat) (hS : 0 < S) (ht : P.underlying t = some (.slice e)) (hi : (P.info? e).map (fun i => (i.zero, i.size, i.bytes)) = some (some z, S, bytes)) (hzs : z.cells.size = S)
    (ao : Option Addr) (n : Nat) (hv : a.eval s = .slice ao n n) (xs : List Value) (hxs : Rk w S ao n n xs) (vx : Value) (hx : a.eval x = vx) (m : Nat) (news : List Value) (hs : Src P S tx vx m news w)
    (hb0 : 0 < bytes) (hbytes : (n + m) * bytes ≤ 140737488355328) (N : Nat) (hN : n + m = N)
    (h : ∀ ao' cap' w', Rk w' S ao' N cap' (xs ++ news) → Below w.heap.size w w' → (m = 0 ∧ ao' = ao ∧ cap' = n ∧ w' = w ∨ w'.ownsRow w.heap.size e S (.slice ao' N cap') N (xs ++ news)) → K (a.put o.dst (.slice ao' N cap')) w') : Oper.wp P o a w K Q := by
  subst hN
  obtain ⟨i, hi, hz, hsize, hby⟩ := info_parts hi
  have hm : n + m ≤ maxLen := by
    have := Nat.le_mul_of_pos_right (n + m) hb0
    simp only [maxLen]; omega
  obtain ⟨ao', cap', w', hrun, h1, h2, h3⟩ := run_append_full (P := P) w t tx o.type e i z bytes S ht hi hz hsize hS hby hzs ao n xs hxs vx m news hs hm hbytes
  unfold Oper.wp
  simp [execOp, ho, resolve, invoke, builtin, hv, hx, hrun, Result.andThen]
  exact h ao' cap' w' h1 h2 h3
theorem wpList_append_full (hw : Region.wanted o (yielded ops a.tmps) = true) (s x : Operand) (t tx : TypeId) (ho : o.op = .call { callee := .builtin .append, args := #[s, x], argTypes := #[t, tx] })
    (e : TypeId) (z : Value) (bytes S : Nat) (hS : 0 < S) (ht : P.underlying t = some (.slice e)) (hi : (P.info? e).map (fun i => (i.zero, i.size, i.bytes)) = some (some z, S, bytes)) (hzs : z.cells.size = S)
    (ao : Option Addr) (n : Nat) (hv : a.eval s = .slice ao n n) (xs : List Value) (hxs : Rk w S ao n n xs) (vx : Value) (hx : a.eval x = vx) (m : Nat) (news : List Value) (hs : Src P S tx vx m news w)
    (hb0 : 0 < bytes) (hbytes : (n + m) * bytes ≤ 140737488355328) (N : Nat) (hN : n + m = N)
    (h : ∀ ao' cap' w', Rk w' S ao' N cap' (xs ++ news) → Below w.heap.size w w' → (m = 0 ∧ ao' = ao ∧ cap' = n ∧ w' = w ∨ w'.ownsRow w.heap.size e S (.slice ao' N cap') N (xs ++ news)) → wpList P ops Q rest (a.put o.dst (.slice ao' N cap')) w') : wpList P ops Q (o :: rest) a w :=
  wpList_step fun _ hK => by
    rw [if_pos hw]
    exact wp_append_full s x t tx ho e z bytes S hS ht hi hzs ao n hv xs hxs vx hx m news hs hb0 hbytes N hN fun ao' cap' w' h1 h2 h3 => hK _ _ (h ao' cap' w' h1 h2 h3)
end
end Go.Proofs.Yteghjdmalbcdfaa
