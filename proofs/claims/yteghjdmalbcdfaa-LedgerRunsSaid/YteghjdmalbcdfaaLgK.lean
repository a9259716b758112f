/-
  What is done with a ledger, as cells; the walk of great.
-/
import Derived.Test.YteghjdmalbcdfaaLgJ
set_option linter.unusedVariables false
set_option linter.unusedSimpArgs false
namespace Go.Proofs.Yteghjdmalbcdfaa
open Go.RowKit Dg

/-- What is done: kind, place, the legs' slice, the legs. -/
abbrev Ak := Int × Int × Value × List Lg
def akc (t : Ak) : List Value := [.int .i64 t.1, .int .i64 t.2.1, t.2.2.1]
theorem akc_len (t : Ak) : (akc t).length = 3 := rfl
abbrev SlK (w : World) (ao : Option Addr) (cap : Nat) (L : List Ak) : Prop := Rk w 3 ao L.length cap (rc akc L)
/-- Its legs lie where its slice says. -/
def LegsAt (w : World) (t : Ak) : Prop := ∃ ao cap, t.2.2.1 = .slice ao t.2.2.2.length cap ∧ SlG w ao cap t.2.2.2 ∧ ∀ x ∈ t.2.2.2, -9223372036854775808 ≤ x.2 ∧ x.2 ≤ 9223372036854775807
theorem info_ak : (Try.prog.info? 36).map (fun i => (i.zero, i.size, i.bytes)) = some (some (.agg #[.int .i64 0, .int .i64 0, .slice none 0 0]), 3, 40) := by kernel_rfl
theorem size_ak (w : World) : (sizeOf 36).run Try.prog w = .ok 3 w := by
  obtain ⟨i, hi, _, hs, _⟩ := info_parts info_ak
  simp [sizeOf, typeInfo, hi, hs]
section
variable {ops : Array Oper} {rest : List Oper} {o : Oper} {a : Act} {w : World} {Q : Exit → Act → World → Prop}
theorem ix_ak (hw : Region.wanted o (yielded ops a.tmps) = true) (s x : Operand) (ho : o.op = .indexAddr 31 s x) (ao : Option Addr) (cap : Nat) (L : List Ak) (hc : SlK w ao cap L) (hs : a.eval s = .slice ao L.length cap) (k : Nat) (t : Ak) (ht : L[k]? = some t) (hx : a.eval x = .int .i64 k)
    (h : ∀ b off, w.cell? ⟨b, off, none⟩ = some (.int .i64 t.1) → w.cell? ⟨b, off + 1, none⟩ = some (.int .i64 t.2.1) → w.cell? ⟨b, off + 2, none⟩ = some t.2.2.1 → wpList Try.prog ops Q rest (a.put o.dst (.pointer (some ⟨b, off, none⟩))) w) : wpList Try.prog ops Q (o :: rest) a w := by
  refine wpList_ix_rec hw 31 36 s x ho Try.underlying31 3 (by decide) size_ak ao L.length cap hs (rc akc L) hc k (List.getElem?_eq_some_iff.1 ht).1 hx fun b off _ hcell => ?_
  have g : ∀ j u, (akc t)[j]? = some u → w.cell? ⟨b, off + k * 3 + j, none⟩ = some u := fun j u hu => by
    have := hcell _ _ (rc_at akc_len ht j u hu)
    rw [← Nat.add_assoc] at this; exact this
  exact h b (off + k * 3) (g 0 _ rfl) (g 1 _ rfl) (g 2 _ rfl)
end
theorem LegsAt.keeps {w w' : World} {t : Ak} (h : LegsAt w t) (hb : Below w.heap.size w w') : LegsAt w' t := by
  obtain ⟨ao, cap, h1, h2, h3⟩ := h
  exact ⟨ao, cap, h1, h2.keeps hb, h3⟩
def greatA (A : List Ak) : Bool := decide (60 < A.length) || A.any (fun t => decide (40 < t.2.2.2.length))
theorem great_take {A : List Ak} {k : Nat} {t : Ak} (h : A[k]? = some t) (h1 : (A.take k).any (fun t => decide (40 < t.2.2.2.length)) = false) (h2 : ¬ 40 < t.2.2.2.length) : (A.take (k + 1)).any (fun t => decide (40 < t.2.2.2.length)) = false := by
  obtain ⟨hk, rfl⟩ := List.getElem?_eq_some_iff.1 h
  rw [List.take_succ_eq_append_getElem hk, List.any_append, h1]; simp; omega
theorem great_at {A : List Ak} {t : Ak} (h : t ∈ A) (h2 : 40 < t.2.2.2.length) : greatA A = true := by
  unfold greatA
  rw [Bool.or_eq_true]
  exact .inr (List.any_eq_true.2 ⟨t, h, by simpa using h2⟩)
set_option maxRecDepth 8000 in
theorem great_any (w : World) (ao : Option Addr) (cap : Nat) (A : List Ak) (h : SlK w ao cap A) (hl : ∀ t ∈ A, LegsAt w t) (v : Bool) (hv : greatA A = v) :
    Calls Try.prog 10 #[.slice ao A.length cap] w fun e w' => e = .returned (.bool v) ∧ Below w.heap.size w w' := by
  have HV := Lib.hid hv
  have HL := Lib.hid hl
  have H := Lib.hid h
  by_cases h6 : 60 < A.length
  · obtain rfl : v = true := by rw [← hv]; unfold greatA; simp [h6]
    have h6' : (60 : Int) < A.length := by omega
    clear hv h6 HL hl H h HV
    go_enter Try.func10, Try.ntmps10
    go_wp2
    go_ret
    exact ⟨rfl, Below.refl _ _⟩
  · have h6' : ¬ (60 : Int) < A.length := by omega
    have HV2 : Hid (v = A.any (fun t => decide (40 < t.2.2.2.length))) := by show _ = _; rw [← hv]; unfold greatA; simp [h6]
    clear hv hl h
    go_enter Try.func10, Try.ntmps10
    go_wp2
    go_loopw [10] (fun i wr => ∃ k : Nat, k ≤ A.length ∧ i = .int .i64 k ∧ Hid ((A.take k).any (fun t => decide (40 < t.2.2.2.length)) = false) ∧ Below w.heap.size w wr) (fun i _ => A.length - (intOf i).toNat)
    case atStart => exact ⟨0, by omega, rfl, Lib.hid rfl, Below.refl _ _⟩
    case round =>
      obtain ⟨k, hk, rfl, HA, hb⟩ := hrel
      by_cases hkl : k < A.length
      · obtain ⟨⟨kd, at_, u, M⟩, ht⟩ : ∃ t, A[k]? = some t := ⟨_, List.getElem?_eq_getElem hkl⟩
        obtain ⟨mo, mc, hu, hm, _⟩ := HL.out _ (List.mem_of_getElem? ht)
        obtain rfl : u = .slice mo M.length mc := hu
        have HT := Lib.hid ht
        have hwA := H.out.keeps hb
        have HBx := Lib.hid (hb.alloc hb.size (.cells #[.int .i64 kd, .int .i64 at_, .slice mo M.length mc] 36))
        clear hm hb
        by_cases h4 : 40 < M.length
        · obtain rfl : v = true := by rw [← HV.out]; exact great_at (List.mem_of_getElem? ht) h4
          have h4' : (40 : Int) < M.length := by omega
          clear ht h4
          go_wp2_with (first | (refine ix_ak rfl _ _ rfl ao cap A hwA rfl k _ HT.out rfl ?_; intro bb off k0 k1 k2) | fail)
          go_ret
          exact ⟨rfl, HBx.out⟩
        · have HN := Lib.hid (great_take ht HA.out h4)
          have h4' : ¬ (40 : Int) < M.length := by omega
          clear ht h4
          go_wp2_with (first | (refine ix_ak rfl _ _ rfl ao cap A hwA rfl k _ HT.out rfl ?_; intro bb off k0 k1 k2) | fail)
          go_roundw
          · exact ⟨k + 1, by omega, by go_num, HN, HBx.out⟩
          · simp [intOf]; omega
      · obtain rfl : k = A.length := by omega
        have hA := HA.out
        rw [List.take_length] at hA
        obtain rfl : v = false := by rw [HV2.out, hA]
        clear hA
        go_wp2
        go_ret
        exact ⟨rfl, hb⟩
end Go.Proofs.Yteghjdmalbcdfaa
