/-
  Rates: what is answered at a day; the reference's walk.
-/
import Derived.Test.YtaineoceiciloaaRtD
set_option linter.unusedVariables false
set_option linter.unusedSimpArgs false
namespace Go.Proofs.Ytaineoceiciloaa
open Go.RowKit

theorem tab_at {L : List Rt} {n k : Nat} (h : tabK L n = true) (hk : k < n) : okAt L k = true := by
  unfold tabK at h
  exact List.all_eq_true.1 h k (by simpa using hk)
theorem atR_in {L : List Rt} {day x : Int} : ∀ k, k ≤ L.length → tabK L L.length = true → atR L day k = some x → -10000 ≤ x ∧ x ≤ 10000
  | 0, _, _, h => by simp [atR] at h
  | k + 1, hk, ht, h => by
    rw [atR] at h
    split at h
    · have := tab_at ht (show k < L.length by omega)
      simp [okAt, okI] at this
      simp at h
      omega
    · exact atR_in k (by omega) ht h
/-- What Rate answers. -/
def rateS (m f c : Int) (L : List Rt) (day : Int) : Int × Int :=
  if okTm m f c = true ∧ tabS L = true ∧ (atS L day).2 = true then (max f (min c ((atS L day).1 + m)), 0) else (0, 52)
theorem okTm_true {m f c : Int} (h : okTm m f c = true) : -10000 ≤ m ∧ m ≤ 10000 ∧ 0 ≤ f ∧ f ≤ c ∧ c ≤ 10000 := by
  simpa [okTm] using h
theorem at_in {L : List Rt} {day : Int} (ht : tabS L = true) : -10000 ≤ (atS L day).1 ∧ (atS L day).1 ≤ 10000 := by
  have h2 : tabK L L.length = true := by simp [tabS] at ht; exact ht.2
  unfold atS
  split
  · rename_i x hx
    exact atR_in _ (Nat.le_refl _) h2 hx
  · simp
theorem ret_two' {a b c d : Int} (h : a = b) (h' : c = d) : Ending.returned (.tuple #[.int .i64 a, .int .i64 c]) = .returned (.tuple #[.int .i64 b, .int .i64 d]) := by rw [h, h']
set_option maxRecDepth 8000 in
set_option maxHeartbeats 1600000 in
theorem rrate_any (w : World) (m f c : Int) (ao : Option Addr) (cap : Nat) (L : List Rt) (day : Int) (h : SlR w ao cap L) (s : Int × Int) (hs : rateS m f c L day = s) (hl : L.length ≤ 1000000000) :
    Calls Try.prog 11 #[.agg #[.int .i64 m, .int .i64 f, .int .i64 c], .slice ao L.length cap, .int .i64 day] w fun e w' => e = .returned (.tuple #[.int .i64 s.1, .int .i64 s.2]) ∧ Below w.heap.size w w' := by
  have HS := Lib.hid hs
  have HB := Lib.hid (below_new1 w (.cells #[.int .i64 m, .int .i64 f, .int .i64 c] 23))
  have HT := Lib.hid (Blk.new w 23 [.int .i64 m, .int .i64 f, .int .i64 c])
  have HA := fun U (hu : Below w.heap.size w U) => rat_any U ao cap L day (h.keeps hu) _ rfl hl
  have HR := fun U => rtright_any m f c U
  have HTb := fun U (hu : Below w.heap.size w U) => rtable_any U ao cap L (h.keeps hu) _ rfl hl
  have hin := fun ht => at_in (L := L) (day := day) ht
  unfold rateS at hs
  obtain ⟨x, hx⟩ : ∃ x, (atS L day).1 = x := ⟨_, rfl⟩
  obtain ⟨ok, hok⟩ : ∃ x, (atS L day).2 = x := ⟨_, rfl⟩
  obtain ⟨t1, ht1⟩ : ∃ x, okTm m f c = x := ⟨_, rfl⟩
  obtain ⟨t2, ht2⟩ : ∃ x, tabS L = x := ⟨_, rfl⟩
  have htm := fun h => okTm_true (m := m) (f := f) (c := c) h
  rw [hx, hok] at HA hs; rw [hx] at hin
  rw [ht1] at HR hs htm; rw [ht2] at HTb hs hin
  have K1 := Lib.hid HA; have K2 := Lib.hid HR; have K3 := Lib.hid HTb
  have HE := Lib.hid hs
  clear HA HR HTb hs HS hx hok ht1 ht2 h
  go_enter Try.func11, Try.ntmps11
  go_wp2_with fail
  refine (K1.out _ HB.out).mono ?_
  rintro e w1 ⟨rfl, hb1⟩
  have HB1 := Lib.hid (below_on HB.out HB.out.size hb1)
  have hT := HT.out.keeps hb1
  have a0 := hT.cell 0 _ rfl; have a1 := hT.cell 1 _ rfl; have a2 := hT.cell 2 _ rfl
  have HT1 := Lib.hid hT
  clear hT hb1
  go_wp2_with fail
  refine (K2.out _).mono ?_
  rintro e w2 ⟨rfl, hb2⟩
  have HB2 := Lib.hid (below_on HB1.out HB1.out.size hb2)
  have HT2 := Lib.hid (HT1.out.keeps hb2)
  clear a0 a1 a2 hb2
  cases t1 with
  | false =>
    go_wp2
    go_ret2
    exact ⟨by rw [← HE.out]; rfl, HB2.out⟩
  | true =>
    go_wp2_with fail
    refine (K3.out _ HB2.out).mono ?_
    rintro e w3 ⟨rfl, hb3⟩
    have HB3 := Lib.hid (below_on HB2.out HB2.out.size hb3)
    have hT := HT2.out.keeps hb3
    have a0 := hT.cell 0 _ rfl; have a1 := hT.cell 1 _ rfl; have a2 := hT.cell 2 _ rfl
    clear hT hb3
    cases t2 with
    | false =>
      go_wp2
      go_ret2
      exact ⟨by rw [← HE.out]; rfl, HB3.out⟩
    | true =>
      have hm := htm (by trivial)
      obtain ⟨m0, m1, f0, fc, c1⟩ := hm
      obtain ⟨x0, x1⟩ := hin (by trivial)
      clear htm hin
      cases ok with
      | false =>
        go_wp2
        go_ret2
        exact ⟨by rw [← HE.out]; rfl, HB3.out⟩
      | true =>
        go_wp2
        all_goals
          go_ret2
          exact ⟨by rw [← HE.out]; exact ret_two' (by simp; omega) rfl, HB3.out⟩
end Go.Proofs.Ytaineoceiciloaa
