/-
  Lines of a budget: the walks of the reference's change, first.
-/
import Derived.Test.YtikfclioplploaaBgR
import Derived.Test.YtikfclioplploaaBgBk
import Derived.Test.YtikfclioplploaaBgO
import Derived.BigRegion
set_option linter.unusedVariables false
set_option linter.unusedSimpArgs false
namespace Go.Proofs.Ytikfclioplploaa
open Go.RowKit Dg

theorem Blk.grownB {w w' : World} {b T : Nat} {C : List Value} {ob : Option Nat} (h : Blk w b T C) (hg : w.grownBy w' ob) (hne : ∀ g, ob = some g → b < g) : Blk w' b T C := by
  refine ⟨?_⟩
  have := hg.block b h.lt (fun e => by have := hne b e.symm; omega)
  rw [this]; exact h.at_
theorem own_ltB {w : World} {base e S n : Nat} {v : Value} {C : List Value} (h : w.ownsRow base e S v n C) {b : Nat} (hb : b < base) : ∀ g, v.ownBlock = some g → b < g := fun g hg => by
  have := (World.ownsRow.lt h g hg).1; omega
theorem set_same {α : Type} {L : List α} {n : Nat} {t : α} (h : L[n]? = some t) : L.set n t = L := by
  obtain ⟨hn, rfl⟩ := List.getElem?_eq_some_iff.1 h
  exact List.set_getElem_self hn
/-- A line's cell among all cells. -/
theorem set_at {L : List Ln} {n : Nat} (hn : n < L.length) (t : Ln) (tl : List Value) (j : Nat) (u : Value) (hu : (lnc t)[j]? = some u) : (rc lnc (L.set n t) ++ tl)[n * 4 + j]? = some u := by
  have hs : (L.set n t)[n]? = some t := by rw [List.getElem?_set_self hn]
  have hj : j < 4 := by have := (List.getElem?_eq_some_iff.1 hu).1; rw [lnc_len] at this; exact this
  rw [List.getElem?_append_left (by rw [rc_len lnc_len, List.length_set]; omega)]
  exact rc_at lnc_len hs j u hu
theorem rc_setJ (j : Nat) (hj : j < 4) (v : Value) (t t' : Ln) (he : (lnc t).set j v = lnc t') : ∀ (L : List Ln) (n : Nat), n < L.length → (rc lnc (L.set n t)).set (n * 4 + j) v = rc lnc (L.set n t')
  | [], n, h => by simp at h
  | u :: L, 0, _ => by
    show (lnc t ++ rc lnc L).set (0 * 4 + j) v = lnc t' ++ rc lnc L
    rw [Nat.zero_mul, Nat.zero_add, List.set_append_left _ _ (by rw [lnc_len]; exact hj), he]
  | u :: L, n + 1, h => by
    show (lnc u ++ rc lnc (L.set n t)).set ((n + 1) * 4 + j) v = lnc u ++ rc lnc (L.set n t')
    rw [List.set_append_right _ _ (by rw [lnc_len]; omega), lnc_len, show (n + 1) * 4 + j - 4 = n * 4 + j by omega, rc_setJ j hj v t t' he L n (by simpa using h)]
theorem set_lnJ {L : List Ln} {n : Nat} (hn : n < L.length) (t t' : Ln) (tl : List Value) (j : Nat) (hj : j < 4) (v : Value) (he : (lnc t).set j v = lnc t') : (rc lnc (L.set n t) ++ tl).set (n * 4 + j) v = rc lnc (L.set n t') ++ tl := by
  rw [List.set_append_left _ _ (by rw [rc_len lnc_len, List.length_set]; omega), rc_setJ j hj v t t' he L n hn]
set_option maxRecDepth 8000 in
set_option maxHeartbeats 4000000 in
theorem change_any (w : World) (ao : Option Addr) (cap : Nat) (L : List Ln) (h : SlL w ao cap L) (hl : L.length ≤ 16) (n : Nat) (hn : n < L.length) (b p x y : Int) (ht : L[n]? = some (b, p, x, y)) (db dp dx dy : Int)
    (h0 : -9223372036854775808 ≤ b + db ∧ b + db ≤ 9223372036854775807) (h1 : -9223372036854775808 ≤ p + dp ∧ p + dp ≤ 9223372036854775807) (h2 : -9223372036854775808 ≤ x + dx ∧ x + dx ≤ 9223372036854775807) (h3 : -9223372036854775808 ≤ y + dy ∧ y + dy ≤ 9223372036854775807) :
    Calls Try.prog 43 #[.slice ao L.length cap, .int .i64 n, .agg #[.int .i64 db, .int .i64 dp, .int .i64 dx, .int .i64 dy]] w fun e w' => ∃ v', e = .returned v' ∧ OwL w' w.heap.size v' (L.set n (b + db, p + dp, x + dx, y + dy)) ∧ Below w.heap.size w w' := by
  obtain ⟨h00, h01⟩ := h0
  obtain ⟨h10, h11⟩ := h1
  obtain ⟨h20, h21⟩ := h2
  obtain ⟨h30, h31⟩ := h3
  have HB1 := Lib.hid (below_new2 w (.cells #[.int .i64 db, .int .i64 dp, .int .i64 dx, .int .i64 dy] 23) (.cells #[] 23))
  have HG1 := Lib.hid ((Blk.new w 23 [.int .i64 db, .int .i64 dp, .int .i64 dx, .int .i64 dy]).alloc (.cells #[] 23))
  have HS1 := Lib.hid (h.keeps HB1.out)
  have HO := ownL_empty (w.alloc (.cells #[.int .i64 db, .int .i64 dp, .int .i64 dx, .int .i64 dy] 23))
  rw [show (w.alloc (.cells #[.int .i64 db, .int .i64 dp, .int .i64 dx, .int .i64 dy] 23)).heap.size = w.heap.size + 1 from by simp] at HO
  have HO1 := Lib.hid HO
  have HT := Lib.hid (show L = L.set n (b, p, x, y) from (set_same ht).symm)
  have HN := Lib.hid hn
  have hnI : (n : Int) < L.length := by omega
  clear h HO ht
  go_enter Try.func43, Try.ntmps43
  go_wp2_with (refine ap_ln rfl _ _ rfl (w.heap.size + 1) _ rfl [] HO1.out _ cap L rfl HS1.out (by simp; omega) (by simp) ?_; intro v2 w2 h1 h2 h3)
  have HB2 := Lib.hid (below_grown HO1.out h2 (Nat.le_succ _) (Nat.le_refl _) HB1.out)
  have HG2 := Lib.hid (HG1.out.grownB h2 (own_ltB HO1.out (Nat.lt_succ_self _)))
  rw [List.nil_append] at h1
  obtain ⟨g, cap2, tl, rfl, hg, g1, g2, g3, hblk⟩ := OwL.blk h1 (by omega)
  rw [HT.out] at hblk
  have HBk := Lib.hid hblk
  have HT1 := Lib.hid g1; have HT2 := Lib.hid g2; have HT3 := Lib.hid g3; have HGB := Lib.hid hg
  clear h1 h2 h3 hblk g1 g2 g3
  have hgw : w.heap.size < g := by have := HGB.out; omega
  have kc : w2.cell? ⟨g, n * 4, none⟩ = some (.int .i64 b) := HBk.out.cell (n * 4) _ (set_at HN.out _ tl 0 _ rfl)
  have kf := HBk.out.frozen (n * 4)
  have kd := HG2.out.cell 0 (.int .i64 db) rfl
  go_region
  generalize hw : World.drew (w2.setCell ⟨g, n * 4, none⟩ (.int .i64 (b + db))) = w3
  have HBk' : Hid (Blk w3 g 23 (rc lnc (L.set n (b + db, p, x, y)) ++ tl)) := by
    show Blk _ _ _ _
    rw [← hw]
    have := HBk.out.set (n * 4) (.int .i64 (b + db))
    have hs := set_lnJ HN.out (b, p, x, y) (b + db, p, x, y) tl 0 (by decide) (.int .i64 (b + db)) rfl
    rw [Nat.add_zero] at hs
    rw [hs] at this
    exact this.drew
  have HG2' : Hid (Blk w3 w.heap.size 23 [.int .i64 db, .int .i64 dp, .int .i64 dx, .int .i64 dy]) := by
    show Blk _ _ _ _
    rw [← hw]
    exact (HG2.out.other ⟨g, n * 4, none⟩ (.int .i64 (b + db)) (by show w.heap.size ≠ g; omega)).drew
  have HB2' : Hid (Below w.heap.size w w3) := by
    show Below _ _ _
    rw [← hw]
    exact (HB2.out.setCell (p := ⟨g, n * 4, none⟩) (Nat.le_of_lt hgw) (.int .i64 (b + db))).drew
  clear kc kf kd hw HBk HG2 HB2
  have HBk := HBk'; have HG2 := HG2'; have HB2 := HB2'
  clear HBk' HG2' HB2'
  have kc : w3.cell? ⟨g, n * 4 + 1, none⟩ = some (.int .i64 p) := HBk.out.cell (n * 4 + 1) _ (set_at HN.out _ tl 1 _ rfl)
  have kf := HBk.out.frozen (n * 4 + 1)
  have kd := HG2.out.cell 1 (.int .i64 dp) rfl
  go_wp2
  go_region
  generalize hw : World.drew (w3.setCell ⟨g, n * 4 + 1, none⟩ (.int .i64 (p + dp))) = w4
  have HBk' : Hid (Blk w4 g 23 (rc lnc (L.set n (b + db, p + dp, x, y)) ++ tl)) := by
    show Blk _ _ _ _
    rw [← hw]
    have := HBk.out.set (n * 4 + 1) (.int .i64 (p + dp))
    have hs := set_lnJ HN.out (b + db, p, x, y) (b + db, p + dp, x, y) tl 1 (by decide) (.int .i64 (p + dp)) rfl
    skip
    rw [hs] at this
    exact this.drew
  have HG2' : Hid (Blk w4 w.heap.size 23 [.int .i64 db, .int .i64 dp, .int .i64 dx, .int .i64 dy]) := by
    show Blk _ _ _ _
    rw [← hw]
    exact (HG2.out.other ⟨g, n * 4 + 1, none⟩ (.int .i64 (p + dp)) (by show w.heap.size ≠ g; omega)).drew
  have HB2' : Hid (Below w.heap.size w w4) := by
    show Below _ _ _
    rw [← hw]
    exact (HB2.out.setCell (p := ⟨g, n * 4 + 1, none⟩) (Nat.le_of_lt hgw) (.int .i64 (p + dp))).drew
  clear kc kf kd hw HBk HG2 HB2
  have HBk := HBk'; have HG2 := HG2'; have HB2 := HB2'
  clear HBk' HG2' HB2'
  have kc : w4.cell? ⟨g, n * 4 + 2, none⟩ = some (.int .i64 x) := HBk.out.cell (n * 4 + 2) _ (set_at HN.out _ tl 2 _ rfl)
  have kf := HBk.out.frozen (n * 4 + 2)
  have kd := HG2.out.cell 2 (.int .i64 dx) rfl
  go_wp2
  go_region
  generalize hw : World.drew (w4.setCell ⟨g, n * 4 + 2, none⟩ (.int .i64 (x + dx))) = w5
  have HBk' : Hid (Blk w5 g 23 (rc lnc (L.set n (b + db, p + dp, x + dx, y)) ++ tl)) := by
    show Blk _ _ _ _
    rw [← hw]
    have := HBk.out.set (n * 4 + 2) (.int .i64 (x + dx))
    have hs := set_lnJ HN.out (b + db, p + dp, x, y) (b + db, p + dp, x + dx, y) tl 2 (by decide) (.int .i64 (x + dx)) rfl
    skip
    rw [hs] at this
    exact this.drew
  have HG2' : Hid (Blk w5 w.heap.size 23 [.int .i64 db, .int .i64 dp, .int .i64 dx, .int .i64 dy]) := by
    show Blk _ _ _ _
    rw [← hw]
    exact (HG2.out.other ⟨g, n * 4 + 2, none⟩ (.int .i64 (x + dx)) (by show w.heap.size ≠ g; omega)).drew
  have HB2' : Hid (Below w.heap.size w w5) := by
    show Below _ _ _
    rw [← hw]
    exact (HB2.out.setCell (p := ⟨g, n * 4 + 2, none⟩) (Nat.le_of_lt hgw) (.int .i64 (x + dx))).drew
  clear kc kf kd hw HBk HG2 HB2
  have HBk := HBk'; have HG2 := HG2'; have HB2 := HB2'
  clear HBk' HG2' HB2'
  have kc : w5.cell? ⟨g, n * 4 + 3, none⟩ = some (.int .i64 y) := HBk.out.cell (n * 4 + 3) _ (set_at HN.out _ tl 3 _ rfl)
  have kf := HBk.out.frozen (n * 4 + 3)
  have kd := HG2.out.cell 3 (.int .i64 dy) rfl
  go_wp2
  go_region
  generalize hw : World.drew (w5.setCell ⟨g, n * 4 + 3, none⟩ (.int .i64 (y + dy))) = w6
  have HBk' : Hid (Blk w6 g 23 (rc lnc (L.set n (b + db, p + dp, x + dx, y + dy)) ++ tl)) := by
    show Blk _ _ _ _
    rw [← hw]
    have := HBk.out.set (n * 4 + 3) (.int .i64 (y + dy))
    have hs := set_lnJ HN.out (b + db, p + dp, x + dx, y) (b + db, p + dp, x + dx, y + dy) tl 3 (by decide) (.int .i64 (y + dy)) rfl
    skip
    rw [hs] at this
    exact this.drew
  have HG2' : Hid (Blk w6 w.heap.size 23 [.int .i64 db, .int .i64 dp, .int .i64 dx, .int .i64 dy]) := by
    show Blk _ _ _ _
    rw [← hw]
    exact (HG2.out.other ⟨g, n * 4 + 3, none⟩ (.int .i64 (y + dy)) (by show w.heap.size ≠ g; omega)).drew
  have HB2' : Hid (Below w.heap.size w w6) := by
    show Below _ _ _
    rw [← hw]
    exact (HB2.out.setCell (p := ⟨g, n * 4 + 3, none⟩) (Nat.le_of_lt hgw) (.int .i64 (y + dy))).drew
  clear kc kf kd hw HBk HG2 HB2
  have HBk := HBk'; have HG2 := HG2'; have HB2 := HB2'
  clear HBk' HG2' HB2'
  have hlN : (L.set n (b + db, p + dp, x + dx, y + dy)).length = L.length := List.length_set
  have HO := Lib.hid (OwL.of (L := L.set n (b + db, p + dp, x + dx, y + dy)) (Nat.le_of_lt hgw) (by rw [hlN]; exact HT1.out) HT2.out (by rw [hlN]; exact HT3.out) HBk.out)
  rw [hlN] at HO
  clear hlN
  go_wp2
  go_ret
  exact ⟨_, rfl, HO.out, HB2.out⟩
def firstS (L : List Ln) (a b : Int) (f : Bool) : Int := if thereS L [a, b] = true then (if f = true then 0 else 142) else 141
set_option maxRecDepth 8000 in
set_option maxHeartbeats 1600000 in
theorem rfirst_any (w : World) (ao : Option Addr) (cap : Nat) (L : List Ln) (h : SlL w ao cap L) (hl : L.length ≤ 1000000000) (a b : Int) (f : Bool) (v : Int) (hv : firstS L a b f = v) :
    Calls Try.prog 42 #[.slice ao L.length cap, .int .i64 a, .int .i64 b, .bool f] w fun e w' => e = .returned (.int .i64 v) ∧ Below w.heap.size w w' := by
  obtain ⟨r, hr⟩ : ∃ r, rightL L = r := ⟨_, rfl⟩
  have HR := Lib.hid (rright_any w ao cap L h r hr hl)
  have hv2 : (if (r && (inN L.length a && inN L.length b)) = true then (if f = true then 0 else 142) else 141) = v := by
    rw [← hv]; unfold firstS thereS; rw [hr]; simp
  have HV := Lib.hid hv2
  clear h hv hr hv2
  go_enter Try.func42, Try.ntmps42
  go_wp2_with fail
  refine HR.out.mono ?_
  rintro e w1 ⟨rfl, hb⟩
  have HB := Lib.hid hb
  clear hb HR
  cases r with
  | false =>
    obtain rfl : v = 141 := by rw [← HV.out]; simp
    clear HV
    go_wp2
    go_ret
    exact ⟨rfl, HB.out⟩
  | true =>
    by_cases a0 : a < 0
    · have hv3 : v = 141 := by rw [← HV.out]; simp [inN]; omega
      subst hv3
      clear HV
      go_wp2
      go_ret
      exact ⟨rfl, HB.out⟩
    · by_cases a1 : (L.length : Int) ≤ a
      · have hv3 : v = 141 := by rw [← HV.out]; simp [inN]; omega
        subst hv3
        clear HV
        go_wp2
        go_ret
        exact ⟨rfl, HB.out⟩
      · by_cases b0 : b < 0
        · have hv3 : v = 141 := by rw [← HV.out]; simp [inN]; omega
          subst hv3
          clear HV
          go_wp2
          go_ret
          exact ⟨rfl, HB.out⟩
        · by_cases b1 : (L.length : Int) ≤ b
          · have hv3 : v = 141 := by rw [← HV.out]; simp [inN]; omega
            subst hv3
            clear HV
            go_wp2
            go_ret
            exact ⟨rfl, HB.out⟩
          · cases f with
            | false =>
              have hv3 : v = 142 := by rw [← HV.out]; simp [inN]; omega
              subst hv3
              clear HV
              go_wp2
              go_ret
              exact ⟨rfl, HB.out⟩
            | true =>
              have hv3 : v = 0 := by rw [← HV.out]; simp [inN]; omega
              subst hv3
              clear HV
              go_wp2
              go_ret
              exact ⟨rfl, HB.out⟩
end Go.Proofs.Ytikfclioplploaa
