/-
  Resets: the walk of the reference's Same; which terms can be.
-/
import Derived.Test.YtaineoceiciloaaRt
set_option linter.unusedVariables false
set_option linter.unusedSimpArgs false
namespace Go.Proofs.Ytaineoceiciloaa
open Go.RowKit

theorem same_take {α : Type} {L M : List α} {k : Nat} {x y : α} (hx : L[k]? = some x) (hy : M[k]? = some y) (h : L.take k = M.take k) (he : x = y) : L.take (k + 1) = M.take (k + 1) := by
  obtain ⟨h1, rfl⟩ := List.getElem?_eq_some_iff.1 hx
  obtain ⟨h2, e2⟩ := List.getElem?_eq_some_iff.1 hy
  rw [List.take_succ_eq_append_getElem h1, List.take_succ_eq_append_getElem h2, h, e2, ← he]
theorem same_not {α : Type} {L M : List α} {k : Nat} {x y : α} (hx : L[k]? = some x) (hy : M[k]? = some y) (he : x ≠ y) : L ≠ M := by
  rintro rfl
  rw [hx] at hy
  exact he (Option.some.inj hy)
set_option maxRecDepth 8000 in
set_option maxHeartbeats 1600000 in
theorem rsame_any (w : World) (ao : Option Addr) (cap : Nat) (L : List Rt) (bo : Option Addr) (dap : Nat) (M : List Rt) (h : SlR w ao cap L) (hm : SlR w bo dap M) (v : Bool) (hv : decide (L = M) = v) (hl0 : L.length ≤ 1000000000) :
    Calls Try.prog 24 #[.slice ao L.length cap, .slice bo M.length dap] w fun e w' => e = .returned (.bool v) ∧ Below w.heap.size w w' := by
  by_cases hl : L.length = M.length
  · have HV := Lib.hid hv
    clear hv
    have HL := Lib.hid hl
    have hl1 : (L.length : Int) ≤ M.length := by omega
    have hl2 : (M.length : Int) ≤ L.length := by omega
    have hne : ((L.length : Int) != M.length) = false := by simp; omega
    clear hl
    go_enter Try.func24, Try.ntmps24
    go_wp2
    go_loopw [13] (fun i wr => ∃ k : Nat, k ≤ L.length ∧ i = .int .i64 k ∧ Hid (L.take k = M.take k) ∧ Below w.heap.size w wr) (fun i _ => L.length - (intOf i).toNat)
    case atStart => exact ⟨0, by omega, rfl, by show _ = _; simp, Below.refl _ _⟩
    case round =>
      obtain ⟨k, hk, rfl, HK, hb⟩ := hrel
      by_cases hkl : k < L.length
      · obtain ⟨x, hx⟩ : ∃ x, L[k]? = some x := ⟨_, List.getElem?_eq_getElem hkl⟩
        obtain ⟨y, hy⟩ : ∃ y, M[k]? = some y := ⟨_, List.getElem?_eq_getElem (by rw [← HL.out]; exact hkl)⟩
        have hw := h.keeps hb
        have hm2 := hm.keeps hb
        have hx3 := hw
        obtain ⟨b, off, rfl, hc⟩ := hw.cells (by intro e; have := rc_at rtc_len hx 0 _ rfl; rw [e] at this; simp at this)
        obtain ⟨b2, off2, rfl, hc2⟩ := hm2.cells (by intro e; have := rc_at rtc_len hy 0 _ rfl; rw [e] at this; simp at this)
        obtain ⟨c0, c1⟩ := rt_cells hc hx
        obtain ⟨d0, d1⟩ := rt_cells hc2 hy
        have HX := Lib.hid hx
        have HY := Lib.hid hy
        clear hx hy hc hc2 hw hm2 hx3
        by_cases he : x = y
        · have HN : Hid (L.take (k + 1) = M.take (k + 1)) := same_take HX.out HY.out HK.out he
          subst he
          go_wp2
          go_quiet (fail)
          go_wp2
          go_roundw
          · exact ⟨k + 1, by omega, by go_num, HN, pw_belowN hb _⟩
          · simp [intOf]; omega
        · have HF : Hid (v = false) := by
            show _ = _
            rw [← HV.out]; simp; exact same_not HX.out HY.out he
          have h3 : ¬ x.1 = y.1 ∨ (x.1 = y.1 ∧ ¬ x.2 = y.2) := by
            by_cases e1 : x.1 = y.1
            · exact .inr ⟨e1, fun e2 => he (Prod.ext e1 e2)⟩
            · exact .inl e1
          have hkm : (k : Int) < M.length := by omega
          clear he
          rcases h3 with e1 | ⟨e1, e2⟩
          all_goals
            go_wp2
            go_quiet (fail)
            go_wp2
            go_ret
            exact ⟨by rw [HF.out]; rfl, pw_belowN hb _⟩
      · obtain rfl : k = L.length := by omega
        have HF : Hid (v = true) := by
          show _ = _
          rw [← HV.out]
          have := HK.out
          rw [List.take_length, HL.out, List.take_length] at this
          simpa using this
        go_wp2
        go_ret
        exact ⟨by rw [HF.out]; rfl, hb⟩
  · have HF : Hid (v = false) := by
      show _ = _
      rw [← hv]; simp
      intro e; exact hl (by rw [e])
    have hne : ((L.length : Int) != M.length) = true := by simp; omega
    have hlen := h.room
    have hlen2 := hm.room
    clear hv h hl hm
    go_enter Try.func24, Try.ntmps24
    go_wp2
    go_ret
    exact ⟨by rw [HF.out]; rfl, Below.refl _ _⟩
theorem ret_boolR {a b : Bool} (h : a = b) : Ending.returned (.bool a) = .returned (.bool b) := by rw [h]
/-- Can terms be? Margin, floor, cap. -/
def okTm (m f c : Int) : Bool := decide (-10000 ≤ m) && (decide (m ≤ 10000) && (decide (0 ≤ f) && (decide (f ≤ c) && decide (c ≤ 10000))))
set_option maxRecDepth 8000 in
theorem tright_any (m f c : Int) (w : World) :
    Calls Try.prog 21 #[.agg #[.int .i64 m, .int .i64 f, .int .i64 c]] w fun e w' => e = .returned (.bool (okTm m f c)) ∧ Below w.heap.size w w' := by
  obtain ⟨v, hv⟩ : ∃ v, okTm m f c = v := ⟨_, rfl⟩
  rw [hv]
  have HV := Lib.hid hv
  clear hv
  go_enter Try.func21, Try.ntmps21
  go_wp2
  all_goals
    go_ret
    exact ⟨ret_boolR (by rw [← HV.out, okTm, Bool.eq_iff_iff]; simp only [Bool.and_eq_true, decide_eq_true_eq, Bool.false_eq_true, false_iff, true_iff]; omega), below_new1 _ _⟩
set_option maxRecDepth 8000 in
theorem rtright_any (m f c : Int) (w : World) :
    Calls Try.prog 22 #[.agg #[.int .i64 m, .int .i64 f, .int .i64 c]] w fun e w' => e = .returned (.bool (okTm m f c)) ∧ Below w.heap.size w w' := by
  obtain ⟨v, hv⟩ : ∃ v, okTm m f c = v := ⟨_, rfl⟩
  rw [hv]
  have HV := Lib.hid hv
  clear hv
  go_enter Try.func22, Try.ntmps22
  go_wp2
  all_goals
    go_ret
    exact ⟨ret_boolR (by rw [← HV.out, okTm, Bool.eq_iff_iff]; simp only [Bool.and_eq_true, decide_eq_true_eq, Bool.false_eq_true, false_iff, true_iff]; omega), below_new1 _ _⟩
end Go.Proofs.Ytaineoceiciloaa
