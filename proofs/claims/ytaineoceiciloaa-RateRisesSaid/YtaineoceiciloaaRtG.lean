/-
  Resets: the search for a day; the walk of rate.At.
-/
import Derived.Test.YtaineoceiciloaaRtF
import Derived.Test.YtaineoceiciloaaRtE
import Derived.Test.YtaineoceiciloaaRtB
set_option linter.unusedVariables false
set_option linter.unusedSimpArgs false
namespace Go.Proofs.Ytaineoceiciloaa
open Go.RowKit

def dyR (L : List Rt) (k : Nat) : Int := (L.getD k (0, 0)).1
/-- The days rise. -/
def Rises (L : List Rt) : Prop := ∀ a b, a < b → b < L.length → dyR L a < dyR L b
theorem cmp3_lt (a b : Int) : (cmp3 a b < 0) ↔ a < b := by unfold cmp3; split <;> (try split) <;> omega
theorem cmp3_eq (a b : Int) : (cmp3 a b = 0) ↔ a = b := by unfold cmp3; split <;> (try split) <;> omega
/-- What the search finds. -/
def FoundD (L : List Rt) (day : Int) (i : Nat) : Prop := i ≤ L.length ∧ (∀ k, k < i → dyR L k < day) ∧ (∀ k, i ≤ k → k < L.length → day ≤ dyR L k)
set_option maxRecDepth 8000 in
set_option maxHeartbeats 3200000 in
theorem bsf_any (w : World) (ao : Option Addr) (cap : Nat) (L : List Rt) (day : Int) (h : SlR w ao cap L) (hl : L.length ≤ 1000000000) (hm : Rises L) :
    Calls Try.prog 28 #[.slice ao L.length cap, .int .i64 day, .func (.func 29) #[] #[]] w fun e w' => (∃ i : Nat, FoundD L day i ∧ e = .returned (.tuple #[.int .i64 i, .bool (decide (i < L.length ∧ dyR L i = day))])) ∧ Below w.heap.size w w' := by
  have HM := Lib.hid hm
  clear hm
  go_enter Try.func28, Try.ntmps28
  go_wp2
  go_loopw [9, 10] (fun i j wr => ∃ a b : Nat, a ≤ b ∧ b ≤ L.length ∧ i = .int .i64 a ∧ j = .int .i64 b ∧ Hid (∀ k, k < a → dyR L k < day) ∧ Hid (∀ k, b ≤ k → k < L.length → day ≤ dyR L k) ∧ Below w.heap.size w wr) (fun i j _ => (intOf j - intOf i).toNat)
  case atStart => exact ⟨0, L.length, by omega, by omega, rfl, rfl, fun k hk => by omega, fun k h1 h2 => by omega, Below.refl _ _⟩
  case round =>
    obtain ⟨a, b, hab, hbl, rfl, rfl, HA, HB, hb⟩ := hrel
    by_cases hlt : a < b
    · obtain ⟨m, hm⟩ : ∃ m, m = (a + b) / 2 := ⟨_, rfl⟩
      have hmb : m < b := by omega
      have ham : a ≤ m := by omega
      have hml : m < L.length := by omega
      obtain ⟨⟨d, x⟩, hx⟩ : ∃ x, L[m]? = some x := ⟨_, List.getElem?_eq_getElem hml⟩
      have gd : Hid (dyR L m = d) := by show _ = _; unfold dyR; rw [getD_of hx]
      have HX := Lib.hid hx
      have hw := h.keeps (hb.mono (Nat.le_refl _))
      have HC := Lib.hid (fun W => at1_any d x day W)
      have hc := cmp3_lt d day
      obtain ⟨q, hq⟩ : ∃ q, cmp3 d day = q := ⟨_, rfl⟩
      rw [hq] at HC hc
      have e1 : ((a : Int) + b) / 2 = m := by omega
      have e2 : ((a : Int) + b) % 18446744073709551616 = (a : Int) + b := by omega
      clear hx hq hm
      go_wp2_with (first | (refine ix_rt rfl _ _ rfl ao cap L hw rfl m _ HX.out rfl ?_; intro bb off c0 c1) | fail)
      refine (HC.out _).mono ?_
      rintro e w1 ⟨rfl, hb1⟩
      have HB1 := Lib.hid (below_on hb hb.size hb1)
      clear hb1
      by_cases hd : d < day
      · have hq0 : q < 0 := hc.2 hd
        have HA2 : Hid (∀ k, k < m + 1 → dyR L k < day) := by
          intro k hk
          by_cases e : k = m
          · rw [e, gd.out]; exact hd
          · have := HM.out k m (by omega) hml
            rw [gd.out] at this; omega
        go_wp2
        go_roundw
        · exact ⟨m + 1, b, by omega, by omega, by go_num, rfl, HA2, HB, HB1.out⟩
        · simp [intOf]; omega
      · have hq0 : ¬ q < 0 := fun h => hd (hc.1 h)
        have HB2 : Hid (∀ k, m ≤ k → k < L.length → day ≤ dyR L k) := by
          intro k h1 h2
          by_cases e : k = m
          · rw [e, gd.out]; omega
          · have := HM.out m k (by omega) h2
            rw [gd.out] at this; omega
        go_wp2
        go_roundw
        · exact ⟨a, m, by omega, by omega, rfl, by go_num, HA, HB2, HB1.out⟩
        · simp [intOf]; omega
    · obtain rfl : a = b := by omega
      by_cases han : a < L.length
      · obtain ⟨⟨d, x⟩, hx⟩ : ∃ x, L[a]? = some x := ⟨_, List.getElem?_eq_getElem han⟩
        have gd : Hid (dyR L a = d) := by show _ = _; unfold dyR; rw [getD_of hx]
        have HX := Lib.hid hx
        have hw := h.keeps (hb.mono (Nat.le_refl _))
        have HC := Lib.hid (fun W => at1_any d x day W)
        have hc := cmp3_eq d day
        obtain ⟨q, hq⟩ : ∃ q, cmp3 d day = q := ⟨_, rfl⟩
        rw [hq] at HC hc
        have HE : Hid (decide (a < L.length ∧ dyR L a = day) = decide (q = 0)) := by
          show _ = _
          rw [gd.out, decide_eq_decide]; exact ⟨fun h => hc.2 h.2, fun h => ⟨han, hc.1 h⟩⟩
        have HQ : Hid ((q == 0) = decide (q = 0)) := by show _ = _; rw [Bool.eq_iff_iff]; simp
        clear hx hq hc
        go_wp2_with (first | (refine ix_rt rfl _ _ rfl ao cap L hw rfl a _ HX.out rfl ?_; intro bb off c0 c1) | fail)
        refine (HC.out _).mono ?_
        rintro e w1 ⟨rfl, hb1⟩
        have HB1 := Lib.hid (below_on hb hb.size hb1)
        clear hb1
        go_wp2
        all_goals
          go_ret2
          exact ⟨⟨a, ⟨hbl, HA.out, HB.out⟩, by rw [HE.out]; simp [HQ.out]; try omega⟩, HB1.out⟩
      · have HE : Hid (decide (a < L.length ∧ dyR L a = day) = false) := decide_eq_false (fun h => han h.1)
        go_wp2
        go_ret2
        exact ⟨⟨a, ⟨hbl, HA.out, HB.out⟩, by rw [HE.out]; simp [han]⟩, hb⟩
/-- The index at a day: by the search. -/
theorem atR_up {L : List Rt} {day : Int} : ∀ n i, i ≤ n → (∀ k, i ≤ k → k < n → day < dyR L k) → atR L day n = atR L day i
  | 0, i, hi, _ => by obtain rfl : i = 0 := by omega
                      rfl
  | n + 1, i, hi, h => by
    by_cases e : i = n + 1
    · rw [e]
    · rw [atR, if_neg (by have := h n (by omega) (by omega); unfold dyR at this; omega)]
      exact atR_up n i (by omega) (fun k h1 h2 => h k h1 (by omega))
theorem at_found {L : List Rt} {day : Int} {i : Nat} (h : FoundD L day i) (hm : Rises L) :
    (∀ t, L[i]? = some t → t.1 = day → atS L day = (t.2, true)) ∧ ((¬ (i < L.length ∧ dyR L i = day)) → i = 0 → atS L day = (0, false)) ∧ ((¬ (i < L.length ∧ dyR L i = day)) → ∀ j, i = j + 1 → ∀ t, L[j]? = some t → atS L day = (t.2, true)) := by
  obtain ⟨h0, h1, h2⟩ := h
  refine ⟨fun t ht hd => ?_, fun hn h3 => ?_, fun hn j h3 t ht => ?_⟩
  · have hil := (List.getElem?_eq_some_iff.1 ht).1
    have hdi : dyR L i = day := by unfold dyR; rw [getD_of ht]; exact hd
    have e : atR L day L.length = atR L day (i + 1) := atR_up _ _ (by omega) (fun k k1 k2 => by have := hm i k (by omega) k2; omega)
    unfold atS
    rw [e, atR, getD_of ht, if_pos (by omega)]
  · subst h3
    have e : atR L day L.length = atR L day 0 := atR_up _ _ (by omega) (fun k k1 k2 => by
      have := h2 k k1 k2
      by_cases k0 : k = 0
      · subst k0
        have : dyR L 0 ≠ day := fun hh => hn ⟨k2, hh⟩
        omega
      · have := hm 0 k (by omega) k2
        have := h2 0 (by omega) (by omega)
        omega)
    unfold atS
    rw [e]; rfl
  · subst h3
    have e : atR L day L.length = atR L day (j + 1) := atR_up _ _ (by omega) (fun k k1 k2 => by
      have := h2 k k1 k2
      by_cases k0 : k = j + 1
      · subst k0
        have : dyR L (j + 1) ≠ day := fun hh => hn ⟨k2, hh⟩
        omega
      · have := hm (j + 1) k (by omega) k2
        have := h2 (j + 1) (by omega) (by omega)
        omega)
    have hj := h1 j (by omega)
    unfold dyR at hj
    unfold atS
    rw [getD_of ht] at hj
    rw [e, atR, getD_of ht, if_pos (by omega)]
end Go.Proofs.Ytaineoceiciloaa
