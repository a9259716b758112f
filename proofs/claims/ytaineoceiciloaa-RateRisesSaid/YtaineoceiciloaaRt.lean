/-
  Resets: as cells; which tables can be; the walks of Table (both), of the reference's Same.
-/
import Derived.Test.YtaineoceiciloaaRec
import Derived.Test.YtaineoceiciloaaBlk
import Derived.Lib.SliceRun
set_option linter.unusedVariables false
set_option linter.unusedSimpArgs false
namespace Go.Proofs.Ytaineoceiciloaa
open Go.RowKit

/-- A reset: day, index. -/
abbrev Rt := Int × Int
def rtc (t : Rt) : List Value := [.int .i64 t.1, .int .i64 t.2]
theorem rtc_len (t : Rt) : (rtc t).length = 2 := rfl
abbrev SlR (w : World) (ao : Option Addr) (cap : Nat) (L : List Rt) : Prop := Rk w 2 ao L.length cap (rc rtc L)
theorem rt_cells {w : World} {L : List Rt} {b off : Nat} (hc : ∀ j u, (rc rtc L)[j]? = some u → w.cell? ⟨b, off + j, none⟩ = some u) {k : Nat} {t : Rt} (ht : L[k]? = some t) :
    w.cell? ⟨b, off + k * 2, none⟩ = some (.int .i64 t.1) ∧ w.cell? ⟨b, off + k * 2 + 1, none⟩ = some (.int .i64 t.2) :=
  ⟨by have := hc _ _ (rc_at rtc_len ht 0 _ rfl); simpa using this, by have := hc _ _ (rc_at rtc_len ht 1 _ rfl); rw [← Nat.add_assoc] at this; exact this⟩
/-- Can the first k resets be a table? -/
def okI (x : Int) : Bool := decide (-10000 ≤ x) && decide (x ≤ 10000)
def okAt (L : List Rt) (i : Nat) : Bool := okI (L.getD i (0, 0)).2 && (decide (i = 0) || decide ((L.getD (i - 1) (0, 0)).1 < (L.getD i (0, 0)).1))
def tabK (L : List Rt) (k : Nat) : Bool := (List.range k).all (okAt L)
def tabS (L : List Rt) : Bool := decide (L.length ≤ 64) && tabK L L.length
theorem tab_step {L : List Rt} {k : Nat} (h : tabK L k = true) (hk : okAt L k = true) : tabK L (k + 1) = true := by
  unfold tabK at *
  rw [List.range_succ, List.all_append, h]
  simp [hk]
theorem tab_not {L : List Rt} {k : Nat} (hkl : k < L.length) (hk : okAt L k = false) : tabK L L.length = false := by
  unfold tabK
  rw [List.all_eq_false]
  exact ⟨k, by simpa using hkl, by simp [hk]⟩
theorem getD_of {L : List Rt} {k : Nat} {t : Rt} (h : L[k]? = some t) : L.getD k (0, 0) = t := by
  rw [List.getD_eq_getElem?_getD, h]; rfl
set_option maxRecDepth 8000 in
set_option maxHeartbeats 1600000 in
theorem rtable_any (w : World) (ao : Option Addr) (cap : Nat) (L : List Rt) (h : SlR w ao cap L) (v : Bool) (hv : tabS L = v) (hl0 : L.length ≤ 1000000000) :
    Calls Try.prog 12 #[.slice ao L.length cap] w fun e w' => e = .returned (.bool v) ∧ Below w.heap.size w w' := by
  have HV := Lib.hid hv
  clear hv
  go_enter Try.func12, Try.ntmps12
  go_wp2
  go_loopw [7] (fun i wr => ∃ k : Nat, k ≤ L.length ∧ i = .int .i64 k ∧ Hid (tabK L k = true) ∧ Below w.heap.size w wr) (fun i _ => L.length - (intOf i).toNat)
  case atStart => exact ⟨0, by omega, rfl, rfl, Below.refl _ _⟩
  case round =>
    obtain ⟨k, hk, rfl, HK, hb⟩ := hrel
    by_cases hkl : k < L.length
    · obtain ⟨⟨d, x⟩, hx⟩ : ∃ x, L[k]? = some x := ⟨_, List.getElem?_eq_getElem hkl⟩
      have HX := Lib.hid hx
      have hw := h.keeps hb
      have hwa := hw.alloc (.cells #[.int .i64 d, .int .i64 x] 46)
      obtain ⟨b, off, rfl, hc⟩ := hw.cells (by intro e; have := rc_at rtc_len hx 0 _ rfl; rw [e] at this; simp at this)
      obtain ⟨b', off', eb, hca⟩ := hwa.cells (by intro e; have := rc_at rtc_len hx 0 _ rfl; rw [e] at this; simp at this)
      obtain ⟨rfl, rfl, _⟩ : b = b' ∧ off = off' ∧ True := by simpa using eb
      obtain ⟨c0, c1⟩ := rt_cells hc hx
      obtain ⟨d0, d1⟩ := rt_cells hca hx
      have HB := Lib.hid (hb.alloc hb.size (.cells #[.int .i64 d, .int .i64 x] 46))
      have gx := getD_of hx
      by_cases hi : x < -10000 ∨ (-10000 ≤ x ∧ 10000 < x)
      · have HF : Hid (v = false) := by
          show _ = _
          rw [← HV.out, tabS, tab_not hkl (by unfold okAt; rw [gx]; simp [okI]; omega), Bool.and_false]
        clear hx eb hca hc hw hwa gx
        rcases hi with hi | ⟨hi, hi2⟩
        all_goals
          go_wp2
          go_ret
          exact ⟨by rw [HF.out]; rfl, HB.out⟩
      · have i1 : -10000 ≤ x := by omega
        have i2 : x ≤ 10000 := by omega
        clear hi
        by_cases k0 : k = 0
        · subst k0
          have HN : Hid (tabK L (0 + 1) = true) := tab_step HK.out (by unfold okAt; rw [gx]; simp [okI]; omega)
          simp only [Nat.zero_mul, Nat.add_zero] at c0 c1 d0 d1
          clear hx eb hca hc hw hwa gx
          go_wp2
          go_quiet (fail)
          go_wp2
          go_roundw
          · exact ⟨0 + 1, by omega, by go_num, HN, pw_belowN HB.out _⟩
          · simp [intOf]; omega
        · obtain ⟨⟨d', x'⟩, hx'⟩ : ∃ x, L[k - 1]? = some x := ⟨_, List.getElem?_eq_getElem (by omega)⟩
          obtain ⟨f0, f1⟩ := rt_cells hca hx'
          have gx' := getD_of hx'
          by_cases hd : d' < d
          · have HN : Hid (tabK L (k + 1) = true) := tab_step HK.out (by unfold okAt; rw [gx, gx']; simp [okI]; omega)
            have hd2 : ¬ d ≤ d' := by omega
            clear hx hx' eb hca hc hw hwa gx gx'
            obtain ⟨j, rfl⟩ : ∃ j, k = j + 1 := ⟨k - 1, by omega⟩
            rw [Nat.add_sub_cancel] at f0 f1
            have hj : ((j + 1 : Nat) : Int) - 1 = (j : Int) := by omega
            go_wp2
            go_quiet (fail)
            go_wp2
            go_roundw
            · exact ⟨j + 1 + 1, by omega, by go_num, HN, pw_belowN HB.out _⟩
            · simp [intOf]; omega
          · have HF : Hid (v = false) := by
              show _ = _
              rw [← HV.out, tabS, tab_not hkl (by unfold okAt; rw [gx, gx']; simp [okI]; omega), Bool.and_false]
            have hd2 : d ≤ d' := by omega
            clear hx hx' eb hca hc hw hwa gx gx'
            obtain ⟨j, rfl⟩ : ∃ j, k = j + 1 := ⟨k - 1, by omega⟩
            rw [Nat.add_sub_cancel] at f0 f1
            have hj : ((j + 1 : Nat) : Int) - 1 = (j : Int) := by omega
            go_wp2
            go_quiet (fail)
            go_wp2
            go_ret
            exact ⟨by rw [HF.out]; rfl, pw_belowN HB.out _⟩
    · obtain rfl : k = L.length := by omega
      have HT : Hid (v = decide (L.length ≤ 64)) := by show _ = _; rw [← HV.out, tabS, HK.out, Bool.and_true]
      clear HV HK
      by_cases h64 : L.length ≤ 64
      all_goals
        go_wp2
        go_ret
        exact ⟨by rw [HT.out]; simp [h64]; try omega, hb⟩
end Go.Proofs.Ytaineoceiciloaa
