/-
  The walk of the law DueReserve: it answers true at every input.
-/
import Derived.Test.YtlbnednpagddaaaAlive
set_option linter.unusedVariables false
set_option linter.unusedSimpArgs false
namespace Go.Proofs.Ytlbnednpagddaaa
open Go.RowKit

/-- What a bill without a fee is, in the law's own words. -/
theorem billS_reserve {a b c i r : Int} {s : (Int × Int × Int) × Int × Int} (hs : billS a b c i 0 r = s) :
    (s.2.2 ≠ 0 ∧ s = ((0, 0, 0), 0, s.2.2)) ∨
    (∃ p, s = ((a, b, c + (i - p)), p, 0) ∧ 0 ≤ p ∧ p ≤ i ∧ p ≤ r ∧ (p = i ∨ p = r) ∧ (0 ≤ c ∧ c ≤ 20000000000000) ∧ (0 ≤ i ∧ i ≤ 20000000000000)) := by
  unfold billS at hs
  cases h1 : okD a b c with
  | false => rw [h1] at hs; left; rw [← hs]; exact ⟨by simp, rfl⟩
  | true =>
    cases h2 : okD i 0 r with
    | false => rw [h1, h2] at hs; left; rw [← hs]; exact ⟨by simp, rfl⟩
    | true =>
      obtain ⟨⟨i0, i1⟩, _, ⟨r0, r1⟩⟩ := okD_true h2
      obtain ⟨_, _, hc⟩ := okD_true h1
      rw [h1, h2] at hs
      obtain ⟨p, hp⟩ : ∃ p, p = if r < i then r else i := ⟨_, rfl⟩
      rw [← hp] at hs
      cases h3 : okD a (b + 0) (c + (i - p)) with
      | false => rw [h3] at hs; left; rw [← hs]; exact ⟨by simp, rfl⟩
      | true =>
        rw [h3] at hs
        right
        refine ⟨p, ?_, ?_, ?_, ?_, ?_, hc, ⟨i0, i1⟩⟩
        · rw [← hs]; simp
        all_goals (rw [hp]; split <;> omega)

set_option maxRecDepth 8000 in
set_option maxHeartbeats 1600000 in
theorem reserve_law (a b c i r : Int) (w : World) :
    Calls Try.prog 5 #[.agg #[.int .i64 a, .int .i64 b, .int .i64 c], .int .i64 i, .int .i64 r] w fun e w' => e = .returned (.bool true) ∧ Below w.heap.size w w' := by
  obtain ⟨s, hs⟩ : ∃ s, billS a b c i 0 r = s := ⟨_, rfl⟩
  have H1 := Lib.hid (fun W => bill_any a b c i 0 r s hs W)
  have hc := billS_reserve hs
  clear hs
  rcases hc with ⟨hne, hs⟩ | ⟨p, hs, p0, p1, p2, p3, ⟨c0, c1⟩, ⟨i0, i1⟩⟩
  · obtain ⟨⟨x, y, z⟩, q, n⟩ := s
    simp only [Prod.mk.injEq] at hs hne
    obtain ⟨⟨rfl, rfl, rfl⟩, rfl, _⟩ := hs
    simp only [dv] at H1
    go_enter Try.func5, Try.ntmps5
    go_wp2_with fail
    refine (alive_any _).mono ?_
    rintro e w1 ⟨rfl, hb⟩
    have hD := (Blk.new w 23 [.int .i64 a, .int .i64 b, .int .i64 c]).keeps hb
    have hB := below_on (below_new1 w _) (by simp) hb
    have D0 := hD.cell 0 _ rfl; have D1 := hD.cell 1 _ rfl; have D2 := hD.cell 2 _ rfl; have Df := hD.frozen; have Dn := hD.lt
    clear hb
    go_wp2_with fail
    refine (H1.out _).mono ?_
    rintro e w2 ⟨rfl, hb⟩
    have hB2 := below_on hB (by omega) hb
    have hs2 := hB2.size
    clear D0 D1 D2 Df hb hB hD H1
    go_wp2
    go_ret
    exact ⟨rfl, hB2.alloc (by omega) _⟩
  · obtain rfl := hs
    simp only [dv] at H1
    go_enter Try.func5, Try.ntmps5
    go_wp2_with fail
    refine (alive_any _).mono ?_
    rintro e w1 ⟨rfl, hb⟩
    have hD := (Blk.new w 23 [.int .i64 a, .int .i64 b, .int .i64 c]).keeps hb
    have hB := below_on (below_new1 w _) (by simp) hb
    have D0 := hD.cell 0 _ rfl; have D1 := hD.cell 1 _ rfl; have D2 := hD.cell 2 _ rfl; have Df := hD.frozen; have Dn := hD.lt
    clear hb
    go_wp2_with fail
    refine (H1.out _).mono ?_
    rintro e w2 ⟨rfl, hb⟩
    have hD2 := hD.keeps hb
    have hB2 := below_on hB (by omega) hb
    have hs2 := hB2.size
    clear D0 D1 D2 Df Dn hb hB hD H1
    have D0 := hD2.cell 0 _ rfl; have D1 := hD2.cell 1 _ rfl; have D2 := hD2.cell 2 _ rfl; have Df := hD2.frozen; have Dn := hD2.lt
    clear hD2
    have e1 : c + (i - p) - c = i - p := by omega
    rcases p3 with p3 | p3
    · subst p3
      go_wp2
      all_goals
        go_ret
        exact ⟨rfl, hB2.alloc (by omega) _⟩
    · subst p3
      go_wp2
      all_goals
        go_ret
        exact ⟨rfl, hB2.alloc (by omega) _⟩
end Go.Proofs.Ytlbnednpagddaaa
