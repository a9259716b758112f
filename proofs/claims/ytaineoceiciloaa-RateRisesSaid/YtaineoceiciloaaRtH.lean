/-
  Resets: the walks of rate.At, rate.Rate.
-/
import Derived.Test.YtaineoceiciloaaRtG
set_option linter.unusedVariables false
set_option linter.unusedSimpArgs false
namespace Go.Proofs.Ytaineoceiciloaa
open Go.RowKit

theorem rises_of {L : List Rt} (h : tabS L = true) : Rises L := by
  have h2 : tabK L L.length = true := by simp [tabS] at h; exact h.2
  have step : ∀ k, k + 1 < L.length → dyR L k < dyR L (k + 1) := fun k hk => by
    have := tab_at h2 hk
    simp [okAt] at this
    exact this.2
  intro a b hab hb
  induction b with
  | zero => omega
  | succ b ih =>
    have := step b hb
    by_cases e : a = b
    · subst e; exact this
    · have := ih (by omega) (by omega)
      omega
theorem ret_at {s : Int × Bool} {a : Int} {b : Bool} (h : s = (a, b)) : Ending.returned (.tuple #[.int .i64 a, .bool b]) = .returned (.tuple #[.int .i64 s.1, .bool s.2]) := by rw [h]
set_option maxRecDepth 8000 in
set_option maxHeartbeats 1600000 in
theorem at_any (w : World) (ao : Option Addr) (cap : Nat) (L : List Rt) (day : Int) (h : SlR w ao cap L) (s : Int × Bool) (hs : atS L day = s) (hl : L.length ≤ 1000000000) (hm : Rises L) :
    Calls Try.prog 13 #[.slice ao L.length cap, .int .i64 day] w fun e w' => e = .returned (.tuple #[.int .i64 s.1, .bool s.2]) ∧ Below w.heap.size w w' := by
  have HB := Lib.hid (bsf_any w ao cap L day h hl hm)
  go_enter Try.func13, Try.ntmps13
  go_wp2_with fail
  refine HB.out.mono ?_
  rintro e w1 ⟨⟨i, hf, he⟩, hb⟩
  obtain ⟨q1, q2, q3⟩ := at_found hf hm
  rw [hs] at q1 q2 q3
  have hw := h.keeps hb
  have hil := hf.1
  by_cases hfd : i < L.length ∧ dyR L i = day
  · obtain ⟨⟨d, x⟩, hx⟩ : ∃ x, L[i]? = some x := ⟨_, List.getElem?_eq_getElem hfd.1⟩
    have HS := Lib.hid (q1 _ hx (by have := hfd.2; unfold dyR at this; rw [getD_of hx] at this; exact this))
    have HX := Lib.hid hx
    have hk := hfd.1
    rw [decide_eq_true hfd] at he
    subst he
    clear hf q1 q2 q3 hfd hx hs
    go_wp2_with (refine ix_rt rfl _ _ rfl ao cap L hw rfl i _ HX.out rfl ?_; intro b off c0 c1)
    go_ret2
    exact ⟨ret_at HS.out, hb⟩
  · rw [decide_eq_false hfd] at he
    subst he
    have q2' := Lib.hid (q2 hfd)
    have q3' := Lib.hid (q3 hfd)
    clear hf q1 q2 q3 hfd hs
    rcases i with _ | j
    · have HS := Lib.hid (q2'.out rfl)
      go_wp2
      go_ret2
      exact ⟨ret_at HS.out, hb⟩
    · obtain ⟨⟨d, x⟩, hx⟩ : ∃ x, L[j]? = some x := ⟨_, List.getElem?_eq_getElem (by omega)⟩
      have HS := Lib.hid (q3'.out j rfl _ hx)
      have HX := Lib.hid hx
      have hj : ((j + 1 : Nat) : Int) - 1 = (j : Int) := by omega
      have hj0 : ¬ ((j + 1 : Nat) : Int) = 0 := by omega
      clear hx
      go_wp2_with (refine ix_rt rfl _ _ rfl ao cap L hw rfl j _ HX.out (by show Value.int _ _ = _; congr 1) ?_; intro b off c0 c1)
      go_ret2
      exact ⟨ret_at HS.out, hb⟩
set_option maxRecDepth 8000 in
set_option maxHeartbeats 1600000 in
theorem rate_any (w : World) (m f c : Int) (ao : Option Addr) (cap : Nat) (L : List Rt) (day : Int) (h : SlR w ao cap L) (s : Int × Int) (hs : rateS m f c L day = s) (hl : L.length ≤ 1000000000) :
    Calls Try.prog 10 #[.agg #[.int .i64 m, .int .i64 f, .int .i64 c], .slice ao L.length cap, .int .i64 day] w fun e w' => e = .returned (.tuple #[.int .i64 s.1, .int .i64 s.2]) ∧ Below w.heap.size w w' := by
  have HB := Lib.hid (below_new1 w (.cells #[.int .i64 m, .int .i64 f, .int .i64 c] 23))
  have HT := Lib.hid (Blk.new w 23 [.int .i64 m, .int .i64 f, .int .i64 c])
  have HA := fun (ht : tabS L = true) U (hu : Below w.heap.size w U) => at_any U ao cap L day (h.keeps hu) _ rfl hl (rises_of ht)
  have HR := fun U => tright_any m f c U
  have HTb := fun U (hu : Below w.heap.size w U) => table_any U ao cap L (h.keeps hu) _ rfl hl
  have hin := fun ht => at_in (L := L) (day := day) ht
  unfold rateS at hs
  obtain ⟨x, hx⟩ : ∃ x, (atS L day).1 = x := ⟨_, rfl⟩
  obtain ⟨ok, hok⟩ : ∃ x, (atS L day).2 = x := ⟨_, rfl⟩
  obtain ⟨t1, ht1⟩ : ∃ x, okTm m f c = x := ⟨_, rfl⟩
  obtain ⟨t2, ht2⟩ : ∃ x, tabS L = x := ⟨_, rfl⟩
  have htm := fun h => okTm_true (m := m) (f := f) (c := c) h
  rw [hx, hok] at HA hs; rw [hx] at hin
  rw [ht1] at HR hs htm; rw [ht2] at HTb hs hin HA
  have K1 := Lib.hid HA; have K2 := Lib.hid HR; have K3 := Lib.hid HTb
  have HE := Lib.hid hs
  clear HA HR HTb hs hx hok ht1 ht2 h
  go_enter Try.func10, Try.ntmps10
  have hT := HT.out
  have a0 := hT.cell 0 _ rfl; have a1 := hT.cell 1 _ rfl; have a2 := hT.cell 2 _ rfl
  clear hT
  go_wp2_with fail
  refine (K2.out _).mono ?_
  rintro e w2 ⟨rfl, hb2⟩
  have HB2 := Lib.hid (below_on HB.out HB.out.size hb2)
  have HT2 := Lib.hid (HT.out.keeps hb2)
  clear a0 a1 a2 hb2
  cases t1 with
  | false =>
    go_wp2
    go_ret2
    exact ⟨by rw [← HE.out]; rfl, HB2.out⟩
  | true =>
    go_wp2_with fail
    refine (K3.out _ HB2.out).mono ?_
    rintro e w3 ⟨rfl, hb3⟩
    have HB3 := Lib.hid (below_on HB2.out HB2.out.size hb3)
    have HT3 := Lib.hid (HT2.out.keeps hb3)
    clear hb3
    cases t2 with
    | false =>
      go_wp2
      go_ret2
      exact ⟨by rw [← HE.out]; rfl, HB3.out⟩
    | true =>
      have hm := htm (by trivial)
      obtain ⟨m0, m1, f0, fc, c1⟩ := hm
      obtain ⟨x0, x1⟩ := hin (by trivial)
      clear htm hin
      go_wp2_with fail
      refine (K1.out (by trivial) _ HB3.out).mono ?_
      rintro e w4 ⟨rfl, hb4⟩
      have HB4 := Lib.hid (below_on HB3.out HB3.out.size hb4)
      have hT := HT3.out.keeps hb4
      have a0 := hT.cell 0 _ rfl; have a1 := hT.cell 1 _ rfl; have a2 := hT.cell 2 _ rfl
      clear hT hb4
      cases ok with
      | false =>
        go_wp2
        go_ret2
        exact ⟨by rw [← HE.out]; rfl, HB4.out⟩
      | true =>
        go_wp2
        all_goals
          go_ret2
          exact ⟨by rw [← HE.out]; exact ret_two' (by simp; try omega) rfl, HB4.out⟩
end Go.Proofs.Ytaineoceiciloaa
