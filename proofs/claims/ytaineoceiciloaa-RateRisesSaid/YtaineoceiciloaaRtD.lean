/-
  Resets: the index at a day; the reference's walk.
-/
import Derived.Test.YtaineoceiciloaaRtC
set_option linter.unusedVariables false
set_option linter.unusedSimpArgs false
namespace Go.Proofs.Ytaineoceiciloaa
open Go.RowKit

/-- Of the first k resets, the last one's index that is not after a day. -/
def atR (L : List Rt) (day : Int) : Nat → Option Int
  | 0 => none
  | k + 1 => if (L.getD k (0, 0)).1 ≤ day then some (L.getD k (0, 0)).2 else atR L day k
def atS (L : List Rt) (day : Int) : Int × Bool := match atR L day L.length with | some x => (x, true) | none => (0, false)
set_option maxRecDepth 8000 in
set_option maxHeartbeats 1600000 in
theorem rat_any (w : World) (ao : Option Addr) (cap : Nat) (L : List Rt) (day : Int) (h : SlR w ao cap L) (s : Int × Bool) (hs : atS L day = s) (hl : L.length ≤ 1000000000) :
    Calls Try.prog 14 #[.slice ao L.length cap, .int .i64 day] w fun e w' => e = .returned (.tuple #[.int .i64 s.1, .bool s.2]) ∧ Below w.heap.size w w' := by
  have HS := Lib.hid hs
  clear hs
  go_enter Try.func14, Try.ntmps14
  go_wp2
  go_loopw [6] (fun i wr => ∃ k : Nat, k ≤ L.length ∧ i = .int .i64 ((k : Int) - 1) ∧ Hid (atR L day k = atR L day L.length) ∧ Below w.heap.size w wr) (fun i _ => (intOf i + 1).toNat)
  case atStart => exact ⟨L.length, by omega, rfl, rfl, Below.refl _ _⟩
  case round =>
    obtain ⟨k, hk, rfl, HK, hb⟩ := hrel
    rcases k with _ | k
    · have HN : Hid (s = (0, false)) := by
        show _ = _
        rw [← HS.out, atS, ← HK.out]; rfl
      go_wp2
      go_ret2
      exact ⟨by rw [HN.out]; rfl, hb⟩
    · obtain ⟨⟨d, x⟩, hx⟩ : ∃ x, L[k]? = some x := ⟨_, List.getElem?_eq_getElem (by omega)⟩
      have hw := h.keeps hb
      obtain ⟨b, off, rfl, hc⟩ := hw.cells (by intro e; have := rc_at rtc_len hx 0 _ rfl; rw [e] at this; simp at this)
      obtain ⟨c0, c1⟩ := rt_cells hc hx
      have gx := getD_of hx
      have hj : ((k + 1 : Nat) : Int) - 1 = (k : Int) := by omega
      have hkl : k < L.length := by omega
      rw [hj]
      by_cases hd : d ≤ day
      · have HN : Hid (s = (x, true)) := by
          show _ = _
          rw [← HS.out, atS, ← HK.out, atR, gx, if_pos hd]
        clear hx hc hw gx
        go_wp2
        go_ret2
        exact ⟨by rw [HN.out]; rfl, hb⟩
      · have HN : Hid (atR L day k = atR L day L.length) := by
          show _ = _
          rw [← HK.out, atR, gx, if_neg hd]
        clear hx hc hw gx
        go_wp2
        go_roundw
        · exact ⟨k, by omega, by go_num, HN, hb⟩
        · first | (simp [intOf]; done) | (simp [intOf]; omega)
end Go.Proofs.Ytaineoceiciloaa
