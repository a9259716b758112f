/-
  Commands: the walks of command.numbers, values, small, slices.Equal and the reference's Same over whole numbers.
-/
import Derived.Test.YtdkcccigmejikaaCmI
import Derived.BigQuiet
import Derived.BigRegion
set_option linter.unusedVariables false
set_option linter.unusedSimpArgs false
set_option maxRecDepth 20000
namespace Go.Proofs.Ytdkcccigmejikaa
open Go.RowKit

theorem cm_take {α : Type} {L M : List α} {k : Nat} {x y : α} (hx : L[k]? = some x) (hy : M[k]? = some y) (h : L.take k = M.take k) (he : x = y) : L.take (k + 1) = M.take (k + 1) := by
  obtain ⟨h1, rfl⟩ := List.getElem?_eq_some_iff.1 hx
  obtain ⟨h2, e2⟩ := List.getElem?_eq_some_iff.1 hy
  rw [List.take_succ_eq_append_getElem h1, List.take_succ_eq_append_getElem h2, h, e2, ← he]
theorem cm_not {α : Type} {L M : List α} {k : Nat} {x y : α} (hx : L[k]? = some x) (hy : M[k]? = some y) (he : x ≠ y) : L ≠ M := by
  rintro rfl
  rw [hx] at hy
  exact he (Option.some.inj hy)
theorem size_int (w : World) : (sizeOf 3).run Try.prog w = .ok 1 w := by
  obtain ⟨i, hi, _, hs, _⟩ := info_parts (show (Try.prog.info? 3).map (fun i => (i.zero, i.size, i.bytes)) = some (some (.int .i64 0), 1, 8) by kernel_rfl)
  simp [sizeOf, typeInfo, hi, hs]
theorem size_ptr (w : World) : (sizeOf 91).run Try.prog w = .ok 1 w := by
  obtain ⟨i, hi, _, hs, _⟩ := info_parts (show (Try.prog.info? 91).map (fun i => (i.zero, i.size, i.bytes)) = some (some (.pointer none), 1, 8) by kernel_rfl)
  simp [sizeOf, typeInfo, hi, hs]
set_option maxRecDepth 8000 in
set_option maxHeartbeats 1600000 in
theorem eqI_any (w : World) (ao : Option Addr) (cap : Nat) (L : List Int) (bo : Option Addr) (dap : Nat) (M : List Int) (h : Sl w ao L.length cap (ic L)) (hm : Sl w bo M.length dap (ic M)) (v : Bool) (hv : decide (L = M) = v) (hl0 : L.length ≤ 1000000000) :
    Calls Try.prog 41 #[.slice ao L.length cap, .slice bo M.length dap] w fun e w' => e = .returned (.bool v) ∧ Below w.heap.size w w' := by
  by_cases hl : L.length = M.length
  · have HV := Lib.hid hv
    clear hv
    have HL := Lib.hid hl
    have hl1 : (L.length : Int) ≤ M.length := by omega
    have hl2 : (M.length : Int) ≤ L.length := by omega
    have hne : ((L.length : Int) != M.length) = false := by simp; omega
    clear hl
    go_enter Try.func41, Try.ntmps41
    go_wp2
    go_loopw [13] (fun i wr => ∃ k : Nat, k ≤ L.length ∧ i = .int .i64 k ∧ Hid (L.take k = M.take k) ∧ Below w.heap.size w wr) (fun i _ => L.length - (intOf i).toNat)
    case atStart => exact ⟨0, by omega, rfl, by show _ = _; simp, Below.refl _ _⟩
    case round =>
      obtain ⟨k, hk, rfl, HK, hb⟩ := hrel
      by_cases hkl : k < L.length
      · obtain ⟨x, hx⟩ : ∃ x, L[k]? = some x := ⟨_, List.getElem?_eq_getElem hkl⟩
        obtain ⟨y, hy⟩ : ∃ y, M[k]? = some y := ⟨_, List.getElem?_eq_getElem (by rw [← HL.out]; exact hkl)⟩
        have hw := h.keeps hb
        have hm2 := hm.keeps hb
        obtain ⟨b, off, rfl, hc⟩ := hw.cells (by intro e; have := ic_at hx; rw [e] at this; simp at this)
        obtain ⟨b2, off2, rfl, hc2⟩ := hm2.cells (by intro e; have := ic_at hy; rw [e] at this; simp at this)
        have c0 := hc k _ (ic_at hx)
        have d0 := hc2 k _ (ic_at hy)
        have HX := Lib.hid hx
        have HY := Lib.hid hy
        clear hx hy hc hc2 hw hm2
        have hkm : (k : Int) < M.length := by omega
        by_cases he : x = y
        · have HN : Hid (L.take (k + 1) = M.take (k + 1)) := cm_take HX.out HY.out HK.out he
          subst he
          go_wp2
          go_quiet (fail)
          go_wp2
          go_roundw
          · exact ⟨k + 1, by omega, by go_num, HN, pw_belowN hb _⟩
          · simp [intOf]; omega
        · have HF : Hid (v = false) := by
            show _ = _
            rw [← HV.out]; simp; exact cm_not HX.out HY.out he
          go_wp2
          go_quiet (fail)
          go_wp2
          go_ret
          exact ⟨by rw [HF.out]; rfl, pw_belowN hb _⟩
      · obtain rfl : k = L.length := by omega
        have HF : Hid (v = true) := by
          show _ = _
          have h1 := HK.out
          rw [List.take_length, HL.out, List.take_length] at h1
          rw [← HV.out, h1]; simp
        go_wp2
        go_ret
        exact ⟨by rw [HF.out]; rfl, hb⟩
  · have HF : Hid (v = false) := by
      show _ = _
      rw [← hv]; simp; intro e; exact hl (by rw [e])
    have hne : ((L.length : Int) != M.length) = true := by simp; omega
    have hl3 : ¬ (L.length : Int) = M.length := by omega
    clear hv hl h hm
    go_enter Try.func41, Try.ntmps41
    go_wp2
    go_ret
    exact ⟨by rw [HF.out]; rfl, Below.refl _ _⟩
set_option maxRecDepth 8000 in
set_option maxHeartbeats 1600000 in
theorem sameI_any (w : World) (ao : Option Addr) (cap : Nat) (L : List Int) (bo : Option Addr) (dap : Nat) (M : List Int) (h : Sl w ao L.length cap (ic L)) (hm : Sl w bo M.length dap (ic M)) (v : Bool) (hv : decide (L = M) = v) (hl0 : L.length ≤ 1000000000) :
    Calls Try.prog 34 #[.slice ao L.length cap, .slice bo M.length dap] w fun e w' => e = .returned (.bool v) ∧ Below w.heap.size w w' := by
  by_cases hl : L.length = M.length
  · have HV := Lib.hid hv
    clear hv
    have HL := Lib.hid hl
    have hl1 : (L.length : Int) ≤ M.length := by omega
    have hl2 : (M.length : Int) ≤ L.length := by omega
    have hne : ((L.length : Int) != M.length) = false := by simp; omega
    clear hl
    go_enter Try.func34, Try.ntmps34
    go_wp2
    go_loopw [13] (fun i wr => ∃ k : Nat, k ≤ L.length ∧ i = .int .i64 k ∧ Hid (L.take k = M.take k) ∧ Below w.heap.size w wr) (fun i _ => L.length - (intOf i).toNat)
    case atStart => exact ⟨0, by omega, rfl, by show _ = _; simp, Below.refl _ _⟩
    case round =>
      obtain ⟨k, hk, rfl, HK, hb⟩ := hrel
      by_cases hkl : k < L.length
      · obtain ⟨x, hx⟩ : ∃ x, L[k]? = some x := ⟨_, List.getElem?_eq_getElem hkl⟩
        obtain ⟨y, hy⟩ : ∃ y, M[k]? = some y := ⟨_, List.getElem?_eq_getElem (by rw [← HL.out]; exact hkl)⟩
        have hw := h.keeps hb
        have hm2 := hm.keeps hb
        obtain ⟨b, off, rfl, hc⟩ := hw.cells (by intro e; have := ic_at hx; rw [e] at this; simp at this)
        obtain ⟨b2, off2, rfl, hc2⟩ := hm2.cells (by intro e; have := ic_at hy; rw [e] at this; simp at this)
        have c0 := hc k _ (ic_at hx)
        have d0 := hc2 k _ (ic_at hy)
        have HX := Lib.hid hx
        have HY := Lib.hid hy
        clear hx hy hc hc2 hw hm2
        have hkm : (k : Int) < M.length := by omega
        by_cases he : x = y
        · have HN : Hid (L.take (k + 1) = M.take (k + 1)) := cm_take HX.out HY.out HK.out he
          subst he
          go_wp2
          go_quiet (fail)
          go_wp2
          go_roundw
          · exact ⟨k + 1, by omega, by go_num, HN, pw_belowN hb _⟩
          · simp [intOf]; omega
        · have HF : Hid (v = false) := by
            show _ = _
            rw [← HV.out]; simp; exact cm_not HX.out HY.out he
          go_wp2
          go_quiet (fail)
          go_wp2
          go_ret
          exact ⟨by rw [HF.out]; rfl, pw_belowN hb _⟩
      · obtain rfl : k = L.length := by omega
        have HF : Hid (v = true) := by
          show _ = _
          have h1 := HK.out
          rw [List.take_length, HL.out, List.take_length] at h1
          rw [← HV.out, h1]; simp
        go_wp2
        go_ret
        exact ⟨by rw [HF.out]; rfl, hb⟩
  · have HF : Hid (v = false) := by
      show _ = _
      rw [← hv]; simp; intro e; exact hl (by rw [e])
    have hne : ((L.length : Int) != M.length) = true := by simp; omega
    have hl3 : ¬ (L.length : Int) = M.length := by omega
    clear hv hl h hm
    go_enter Try.func34, Try.ntmps34
    go_wp2
    go_ret
    exact ⟨by rw [HF.out]; rfl, Below.refl _ _⟩
/-- Is a number none of 32 bits? -/
def big32 (x : Int) : Bool := decide (x < -2147483648) || decide (2147483647 < x)
def isnz (x : Int) : Bool := x != 0
set_option maxRecDepth 8000 in
theorem big1_any (x : Int) (w : World) : Calls Try.prog 50 #[.int .i64 x] w fun e w' => e = .returned (.bool (big32 x)) ∧ w' = w := by
  obtain ⟨v, hv⟩ : ∃ v, big32 x = v := ⟨_, rfl⟩
  rw [hv]
  have HV := Lib.hid hv
  clear hv
  go_enter Try.func50, Try.ntmps50
  go_wp2
  all_goals
    go_ret
    exact ⟨by rw [← HV.out]; first | rfl | (simp [big32] <;> omega), rfl⟩
set_option maxRecDepth 8000 in
set_option maxHeartbeats 1600000 in
theorem bigi_any (w : World) (ao : Option Addr) (cap : Nat) (L : List Int) (h : Sl w ao L.length cap (ic L)) (hl : L.length ≤ 100000) :
    Calls Try.prog 57 #[.slice ao L.length cap, .func (.func 50) #[] #[]] w fun e w' => (∃ i : Int, e = .returned (.int .i64 i) ∧ decide (0 ≤ i) = L.any big32) ∧ Below w.heap.size w w' := by
  have H := Lib.hid h
  clear h
  go_enter Try.func57, Try.ntmps57
  go_wp2
  go_loopw [8] (fun i wr => ∃ k : Nat, k ≤ L.length ∧ i = .int .i64 k ∧ Hid ((L.take k).any big32 = false) ∧ Below w.heap.size w wr) (fun i _ => L.length - (intOf i).toNat)
  case atStart => exact ⟨0, by omega, rfl, by show _ = _; simp, Below.refl _ _⟩
  case round =>
    obtain ⟨k, hk, rfl, HK, hb⟩ := hrel
    by_cases hkl : k < L.length
    · obtain ⟨x, hx⟩ : ∃ t, L[k]? = some t := ⟨_, List.getElem?_eq_getElem hkl⟩
      have HX := Lib.hid hx
      have hw := H.out.keeps hb
      have HR := Lib.hid (big1_any x wr)
      clear hx
      go_wp2_with (refine wpList_ix_sl rfl 92 3 _ _ rfl Try.underlying92 size_int ao L.length cap rfl (ic L) hw k hkl rfl ?_; intro b off u hu hcell; obtain rfl : u = .int .i64 x := by (rw [ic_at HX.out] at hu; exact (Option.some.inj hu).symm))
      refine HR.out.mono ?_
      rintro e w1 ⟨rfl, rfl⟩
      cases hv : big32 x with
      | false =>
        have HN : Hid ((L.take (k + 1)).any big32 = false) := by
          show _ = _
          obtain ⟨hk2, e⟩ := List.getElem?_eq_some_iff.1 HX.out
          rw [List.take_succ_eq_append_getElem hk2, List.any_append, HK.out, e]; simp [hv]
        clear hv
        go_wp2
        go_roundw
        · exact ⟨k + 1, by omega, by go_num, HN, hb⟩
        · simp [intOf]; omega
      | true =>
        have HN : Hid (L.any big32 = true) := by
          show _ = _
          rw [List.any_eq_true]
          exact ⟨x, List.mem_of_getElem? HX.out, hv⟩
        clear hv
        go_wp2
        go_ret
        exact ⟨⟨k, rfl, by rw [HN.out]; simp⟩, hb⟩
    · have HN : Hid (L.any big32 = false) := by
        have := HK.out
        rw [List.take_of_length_le (by omega)] at this
        exact this
      go_wp2
      go_ret
      exact ⟨⟨-1, rfl, by rw [HN.out]; decide⟩, hb⟩
theorem big_any (w : World) (ao : Option Addr) (cap : Nat) (L : List Int) (h : Sl w ao L.length cap (ic L)) (hl : L.length ≤ 100000) (v : Bool) (hv : L.any big32 = v) :
    Calls Try.prog 49 #[.slice ao L.length cap, .func (.func 50) #[] #[]] w fun e w' => e = .returned (.bool v) ∧ Below w.heap.size w w' := by
  have H := Lib.hid (bigi_any w ao cap L h hl)
  rw [hv] at H
  clear hv h
  go_enter Try.func49, Try.ntmps49
  go_wp2_with fail
  refine H.out.mono ?_
  rintro e w1 ⟨⟨i, rfl, hi⟩, hb⟩
  have HI := Lib.hid hi
  clear hi
  go_wp2
  all_goals
    go_ret
    exact ⟨by rw [← HI.out]; simp; try omega, hb⟩
set_option maxRecDepth 8000 in
theorem nz1_any (x : Int) (w : World) : Calls Try.prog 52 #[.int .i64 x] w fun e w' => e = .returned (.bool (isnz x)) ∧ w' = w := by
  obtain ⟨v, hv⟩ : ∃ v, isnz x = v := ⟨_, rfl⟩
  rw [hv]
  have HV := Lib.hid hv
  clear hv
  go_enter Try.func52, Try.ntmps52
  go_wp2
  all_goals
    go_ret
    exact ⟨by rw [← HV.out]; first | rfl | (simp [isnz] <;> omega), rfl⟩
set_option maxRecDepth 8000 in
set_option maxHeartbeats 1600000 in
theorem nzi_any (w : World) (ao : Option Addr) (cap : Nat) (L : List Int) (h : Sl w ao L.length cap (ic L)) (hl : L.length ≤ 100000) :
    Calls Try.prog 58 #[.slice ao L.length cap, .func (.func 52) #[] #[]] w fun e w' => (∃ i : Int, e = .returned (.int .i64 i) ∧ decide (0 ≤ i) = L.any isnz) ∧ Below w.heap.size w w' := by
  have H := Lib.hid h
  clear h
  go_enter Try.func58, Try.ntmps58
  go_wp2
  go_loopw [8] (fun i wr => ∃ k : Nat, k ≤ L.length ∧ i = .int .i64 k ∧ Hid ((L.take k).any isnz = false) ∧ Below w.heap.size w wr) (fun i _ => L.length - (intOf i).toNat)
  case atStart => exact ⟨0, by omega, rfl, by show _ = _; simp, Below.refl _ _⟩
  case round =>
    obtain ⟨k, hk, rfl, HK, hb⟩ := hrel
    by_cases hkl : k < L.length
    · obtain ⟨x, hx⟩ : ∃ t, L[k]? = some t := ⟨_, List.getElem?_eq_getElem hkl⟩
      have HX := Lib.hid hx
      have hw := H.out.keeps hb
      have HR := Lib.hid (nz1_any x wr)
      clear hx
      go_wp2_with (refine wpList_ix_sl rfl 23 2 _ _ rfl Try.underlying23 size_i64 ao L.length cap rfl (ic L) hw k hkl rfl ?_; intro b off u hu hcell; obtain rfl : u = .int .i64 x := by (rw [ic_at HX.out] at hu; exact (Option.some.inj hu).symm))
      refine HR.out.mono ?_
      rintro e w1 ⟨rfl, rfl⟩
      cases hv : isnz x with
      | false =>
        have HN : Hid ((L.take (k + 1)).any isnz = false) := by
          show _ = _
          obtain ⟨hk2, e⟩ := List.getElem?_eq_some_iff.1 HX.out
          rw [List.take_succ_eq_append_getElem hk2, List.any_append, HK.out, e]; simp [hv]
        clear hv
        go_wp2
        go_roundw
        · exact ⟨k + 1, by omega, by go_num, HN, hb⟩
        · simp [intOf]; omega
      | true =>
        have HN : Hid (L.any isnz = true) := by
          show _ = _
          rw [List.any_eq_true]
          exact ⟨x, List.mem_of_getElem? HX.out, hv⟩
        clear hv
        go_wp2
        go_ret
        exact ⟨⟨k, rfl, by rw [HN.out]; simp⟩, hb⟩
    · have HN : Hid (L.any isnz = false) := by
        have := HK.out
        rw [List.take_of_length_le (by omega)] at this
        exact this
      go_wp2
      go_ret
      exact ⟨⟨-1, rfl, by rw [HN.out]; decide⟩, hb⟩
theorem nz_any (w : World) (ao : Option Addr) (cap : Nat) (L : List Int) (h : Sl w ao L.length cap (ic L)) (hl : L.length ≤ 100000) (v : Bool) (hv : L.any isnz = v) :
    Calls Try.prog 51 #[.slice ao L.length cap, .func (.func 52) #[] #[]] w fun e w' => e = .returned (.bool v) ∧ Below w.heap.size w w' := by
  have H := Lib.hid (nzi_any w ao cap L h hl)
  rw [hv] at H
  clear hv h
  go_enter Try.func51, Try.ntmps51
  go_wp2_with fail
  refine H.out.mono ?_
  rintro e w1 ⟨⟨i, rfl, hi⟩, hb⟩
  have HI := Lib.hid hi
  clear hi
  go_wp2
  all_goals
    go_ret
    exact ⟨by rw [← HI.out]; simp; try omega, hb⟩
theorem small_any2 (w : World) (ao : Option Addr) (cap : Nat) (L : List Int) (h : Sl w ao L.length cap (ic L)) (hl : L.length ≤ 100000) (v : Bool) (hv : L.any big32 = v) :
    Calls Try.prog 38 #[.slice ao L.length cap] w fun e w' => e = .returned (.bool (!v)) ∧ Below w.heap.size w w' := by
  have H := Lib.hid (big_any w ao cap L h hl v hv)
  clear hv h
  go_enter Try.func38, Try.ntmps38
  go_wp2_with fail
  refine H.out.mono ?_
  rintro e w1 ⟨rfl, hb⟩
  cases v
  all_goals
    go_wp2
    go_ret
    exact ⟨rfl, hb⟩
/-- The pointers to the numbers of an opening that stands at a place. -/
def ptrs (g o : Nat) : List Value := [.pointer (some ⟨g, o + 1, none⟩), .pointer (some ⟨g, o + 2, none⟩), .pointer (some ⟨g, o + 3, none⟩), .pointer (some ⟨g, o + 4, none⟩), .pointer (some ⟨g, o + 5, none⟩), .pointer (some ⟨g, o + 6, none⟩), .pointer (some ⟨g, o + 7, none⟩), .pointer (some ⟨g, o + 8, none⟩), .pointer (some ⟨g, o + 9, none⟩), .pointer (some ⟨g, o + 10, none⟩), .pointer (some ⟨g, o + 11, none⟩)]
set_option maxRecDepth 8000 in
set_option maxHeartbeats 1600000 in
theorem numbers_any (w : World) (g o : Nat) :
    Calls Try.prog 36 #[.pointer (some ⟨g, o, none⟩)] w fun e w' => ∃ q, e = .returned (.slice (some ⟨q, 0, none⟩) 11 11) ∧ Blk w' q 91 (ptrs g o) ∧ w.heap.size ≤ q ∧ Below w.heap.size w w' := by
  have HG := Lib.hid (Blk.new w 91 (ptrs g o))
  have HB := Lib.hid (below_new1 w (.cells (ptrs g o).toArray 91))
  go_enter Try.func36, Try.ntmps36
  go_wp2
  go_region
  go_wp2
  go_ret
  exact ⟨_, rfl, HG.out.drew, Nat.le_refl _, HB.out.drew⟩
end Go.Proofs.Ytdkcccigmejikaa
