/-
  Draws: as cells; which can be; the walks of draw.money, draw, Right, there, Pending, turned, find.
-/
import Derived.Test.YtikfclioplploaaBgO
set_option linter.unusedVariables false
set_option linter.unusedSimpArgs false
namespace Go.Proofs.Ytikfclioplploaa
open Go.RowKit Dg

/-- A draw: line, amount, state. -/
abbrev Dw := Int × Int × Int
def dwc (t : Dw) : List Value := [.int .i64 t.1, .int .i64 t.2.1, .int .i64 t.2.2]
theorem dwc_len (t : Dw) : (dwc t).length = 3 := rfl
theorem dwc_one (t : Dw) : ∀ u ∈ dwc t, u.oneCell' = true := by
  intro u hu
  simp only [dwc, List.mem_cons, List.not_mem_nil, or_false] at hu
  rcases hu with rfl | rfl | rfl <;> rfl
abbrev SlW (w : World) (ao : Option Addr) (cap : Nat) (L : List Dw) : Prop := Rk w 3 ao L.length cap (rc dwc L)
abbrev OwW (w : World) (base : Nat) (v : Value) (L : List Dw) : Prop := w.ownsRow base 33 3 v L.length (rc dwc L)
theorem info_dw : (Try.prog.info? 33).map (fun i => (i.zero, i.size, i.bytes)) = some (some (.agg #[.int .i64 0, .int .i64 0, .int .i64 0]), 3, 24) := by kernel_rfl
theorem size_dw (w : World) : (sizeOf 33).run Try.prog w = .ok 3 w := by
  obtain ⟨i, hi, _, hs, _⟩ := info_parts info_dw
  simp [sizeOf, typeInfo, hi, hs]
theorem dw_cells {w : World} {L : List Dw} {b off : Nat} (hc : ∀ j u, (rc dwc L)[j]? = some u → w.cell? ⟨b, off + j, none⟩ = some u) {k : Nat} {t : Dw} (ht : L[k]? = some t) :
    w.cell? ⟨b, off + k * 3, none⟩ = some (.int .i64 t.1) ∧ w.cell? ⟨b, off + k * 3 + 1, none⟩ = some (.int .i64 t.2.1) ∧ w.cell? ⟨b, off + k * 3 + 2, none⟩ = some (.int .i64 t.2.2) :=
  ⟨by have := hc _ _ (rc_at dwc_len ht 0 _ rfl); simpa using this, by have := hc _ _ (rc_at dwc_len ht 1 _ rfl); rw [← Nat.add_assoc] at this; exact this, by have := hc _ _ (rc_at dwc_len ht 2 _ rfl); rw [← Nat.add_assoc] at this; exact this⟩
section
variable {ops : Array Oper} {rest : List Oper} {o : Oper} {a : Act} {w : World} {Q : Exit → Act → World → Prop}
theorem ix_dw (hw : Region.wanted o (yielded ops a.tmps) = true) (s x : Operand) (ho : o.op = .indexAddr 25 s x) (ao : Option Addr) (cap : Nat) (L : List Dw) (hc : SlW w ao cap L) (hs : a.eval s = .slice ao L.length cap) (k : Nat) (t : Dw) (ht : L[k]? = some t) (hx : a.eval x = .int .i64 k)
    (h : ∀ b off, w.cell? ⟨b, off, none⟩ = some (.int .i64 t.1) → w.cell? ⟨b, off + 1, none⟩ = some (.int .i64 t.2.1) → w.cell? ⟨b, off + 2, none⟩ = some (.int .i64 t.2.2) → wpList Try.prog ops Q rest (a.put o.dst (.pointer (some ⟨b, off, none⟩))) w) : wpList Try.prog ops Q (o :: rest) a w := by
  refine wpList_ix_rec hw 25 33 s x ho Try.underlying25 3 (by decide) size_dw ao L.length cap hs (rc dwc L) hc k (List.getElem?_eq_some_iff.1 ht).1 hx fun b off _ hcell => ?_
  obtain ⟨h0, h1, h2⟩ := dw_cells hcell ht
  exact h b (off + k * 3) h0 h1 h2
/-- append of draws. -/
theorem ap_dw (hw : Region.wanted o (yielded ops a.tmps) = true) (s x : Operand) (ho : o.op = .call { callee := .builtin .append, args := #[s, x], argTypes := #[25, 25] })
    (base : Nat) (v : Value) (hv : a.eval s = v) (L : List Dw) (hown : OwW w base v L)
    (ao : Option Addr) (cap : Nat) (M : List Dw) (hx : a.eval x = .slice ao M.length cap) (hs : SlW w ao cap M) (hbytes : L.length + M.length ≤ 1000000000000) (hbase : base ≤ w.heap.size)
    (h : ∀ v' w', OwW w' base v' (L ++ M) → w.grownBy w' v.ownBlock → (∀ g, v'.ownBlock = some g → v.ownBlock = some g ∨ w.heap.size ≤ g) → wpList Try.prog ops Q rest (a.put o.dst v') w') : wpList Try.prog ops Q (o :: rest) a w := by
  refine wpList_append_rec hw s x 25 25 ho base 33 _ 24 3 Try.underlying25 info_dw rfl v hv L.length (rc dwc L) hown _ hx M.length (rc dwc M) (Rk.src Try.underlying25 (by decide) hs (rc_cell dwc_one M)) (by omega) (by decide) hbase ?_
  intro v' w' h1 h2 h3
  exact h v' w' (by show World.ownsRow _ _ _ _ _ _ _; rw [rc_app, List.length_append]; exact h1) h2 h3
end
theorem ownW_empty (w : World) : OwW (w.alloc (.cells #[] 33)) w.heap.size (.slice (some ⟨w.heap.size, 0, none⟩) 0 0) [] :=
  ⟨rfl, .inr ⟨_, 0, #[], rfl, Nat.le_refl _, heap_alloc_new w _, Nat.le_refl _, by decide, rfl, rfl⟩⟩
theorem ownW_nil (w : World) (base : Nat) : OwW w base (.slice none 0 0) [] := World.ownsRow_nil w base _ 3
theorem OwW.sl {w : World} {base : Nat} {v : Value} {L : List Dw} (h : OwW w base v L) : ∃ ao cap, v = .slice ao L.length cap ∧ SlW w ao cap L := by
  obtain ⟨ao, cap, e, hs, _⟩ := Rk.own h
  exact ⟨ao, cap, e, hs⟩
set_option maxRecDepth 8000 in
theorem dclone_any (w : World) (ao : Option Addr) (cap : Nat) (L : List Dw) (h : SlW w ao cap L) (hl : L.length ≤ 1000000000) :
    Calls Try.prog 26 #[.slice ao L.length cap] w fun e w' => ∃ v', e = .returned v' ∧ OwW w' w.heap.size v' L ∧ Below w.heap.size w w' := by
  cases ao with
  | none =>
    have hcap := h.nil rfl
    have hr := h.room
    have hL : L = [] := List.eq_nil_of_length_eq_zero (by omega)
    subst hL; subst hcap
    clear h
    have hq := fun w => _root_.Go.Lib.run_eql_slice_nil (P := Try.prog) w 25 33 none 0 0 0 0 Try.underlying25
    go_enter Try.func26, Try.ntmps26
    go_wp2
    go_ret
    exact ⟨_, rfl, ownW_nil w _, Below.refl _ _⟩
  | some ad =>
    have HV := Lib.hid (h.alloc (.cells #[] 33))
    have HO := Lib.hid (ownW_empty w)
    have HB := Lib.hid (below_new1 w (.cells #[] 33))
    clear h
    have hq := fun w => _root_.Go.Lib.run_eql_slice_nil (P := Try.prog) w 25 33 (some ad) L.length cap 0 0 Try.underlying25
    go_enter Try.func26, Try.ntmps26
    go_wp2_with (refine ap_dw rfl _ _ rfl w.heap.size _ rfl [] HO.out _ cap L rfl HV.out (by simp; omega) (by simp) ?_; intro v' w' h1 h2 h3)
    go_ret
    exact ⟨_, rfl, h1, below_grown HO.out h2 (Nat.le_refl _) (Nat.le_refl _) HB.out⟩
theorem OwW.blk {w : World} {base : Nat} {v : Value} {L : List Dw} (h : OwW w base v L) (hl : 1 ≤ L.length) : ∃ g cap tl, v = .slice (some ⟨g, 0, none⟩) L.length cap ∧ base ≤ g ∧ L.length ≤ cap ∧ cap ≤ maxLen ∧ tl.length = (cap - L.length) * 3 ∧ Blk w g 33 (rc dwc L ++ tl) := by
  rcases h.2 with ⟨_, h0⟩ | ⟨g, cap, cur, rfl, h1, h2, h3, h5, h6, h4⟩
  · omega
  · refine ⟨g, cap, cur.toList.drop (L.length * 3), rfl, h1, h3, h5, ?_, ⟨?_⟩⟩
    · rw [List.length_drop, Array.length_toList, h6, Nat.sub_mul]
    · rw [← h4, List.take_append_drop]
      simpa using h2
theorem OwW.of {w : World} {base g cap : Nat} {L : List Dw} {tl : List Value} (hb : base ≤ g) (h1 : L.length ≤ cap) (h2 : cap ≤ maxLen) (ht : tl.length = (cap - L.length) * 3) (h : Blk w g 33 (rc dwc L ++ tl)) : OwW w base (.slice (some ⟨g, 0, none⟩) L.length cap) L := by
  have hlen := rc_len dwc_len L
  refine ⟨hlen, .inr ⟨g, cap, _, rfl, hb, h.at_, h1, h2, ?_, ?_⟩⟩
  · simp only [List.size_toArray, List.length_append, hlen, ht]
    rw [← Nat.add_mul, Nat.add_sub_cancel' h1]
  · show List.take (L.length * 3) (rc dwc L ++ tl) = _
    rw [← hlen, List.take_left]
theorem rc_setJ3 (j : Nat) (hj : j < 3) (v : Value) (t t' : Dw) (he : (dwc t).set j v = dwc t') : ∀ (L : List Dw) (n : Nat), L[n]? = some t → (rc dwc L).set (n * 3 + j) v = rc dwc (L.set n t')
  | [], n, h => by simp at h
  | u :: L, 0, h => by
    obtain rfl : u = t := by simpa using h
    show (dwc u ++ rc dwc L).set (0 * 3 + j) v = dwc t' ++ rc dwc L
    rw [Nat.zero_mul, Nat.zero_add, List.set_append_left _ _ (by rw [dwc_len]; exact hj), he]
  | u :: L, n + 1, h => by
    show (dwc u ++ rc dwc L).set ((n + 1) * 3 + j) v = dwc u ++ rc dwc (L.set n t')
    rw [List.set_append_right _ _ (by rw [dwc_len]; omega), dwc_len, show (n + 1) * 3 + j - 3 = n * 3 + j by omega, rc_setJ3 j hj v t t' he L n (by simpa using h)]
theorem set_dwJ {L : List Dw} {n : Nat} {t : Dw} (ht : L[n]? = some t) (t' : Dw) (tl : List Value) (j : Nat) (hj : j < 3) (v : Value) (he : (dwc t).set j v = dwc t') : (rc dwc L ++ tl).set (n * 3 + j) v = rc dwc (L.set n t') ++ tl := by
  have hn := (List.getElem?_eq_some_iff.1 ht).1
  rw [List.set_append_left _ _ (by rw [rc_len dwc_len]; omega), rc_setJ3 j hj v t t' he L n ht]
theorem dw_at {L : List Dw} {n : Nat} {t : Dw} (ht : L[n]? = some t) (tl : List Value) (j : Nat) (u : Value) (hu : (dwc t)[j]? = some u) : (rc dwc L ++ tl)[n * 3 + j]? = some u := by
  have hn := (List.getElem?_eq_some_iff.1 ht).1
  have hj : j < 3 := by have := (List.getElem?_eq_some_iff.1 hu).1; rw [dwc_len] at this; exact this
  rw [List.getElem?_append_left (by rw [rc_len dwc_len]; omega)]
  exact rc_at dwc_len ht j u hu
/-! ### Which draws can be -/
def okA (n : Int) : Bool := decide (1 ≤ n) && decide (n ≤ 1000000000000)
def okDw (t : Dw) : Bool := decide (0 ≤ t.1) && decide (t.1 ≤ 15) && okA t.2.1 && decide (0 ≤ t.2.2) && decide (t.2.2 ≤ 3)
def rightW (D : List Dw) : Bool := decide (D.length ≤ 64) && D.all okDw
theorem okA_iff (n : Int) : okA n = true ↔ 1 ≤ n ∧ n ≤ 1000000000000 := by simp [okA]
theorem okDw_nums {t : Dw} (h : okDw t = true) : (0 ≤ t.1 ∧ t.1 ≤ 15) ∧ (1 ≤ t.2.1 ∧ t.2.1 ≤ 1000000000000) ∧ (0 ≤ t.2.2 ∧ t.2.2 ≤ 3) := by
  simp only [okDw, okA, Bool.and_eq_true, decide_eq_true_eq] at h
  omega
theorem rightW_true {D : List Dw} (h : rightW D = true) : D.length ≤ 64 ∧ D.all okDw = true := by
  simpa [rightW] using h
theorem dmoney_any (n : Int) (w : World) : Calls Try.prog 25 #[.int .i64 n] w fun e w' => e = .returned (.bool (okA n)) ∧ w' = w := by
  obtain ⟨v, hv⟩ : ∃ v, okA n = v := ⟨_, rfl⟩
  rw [hv]
  have HV := Lib.hid hv
  clear hv
  go_enter Try.func25, Try.ntmps25
  go_wp2
  all_goals
    go_ret
    exact ⟨by rw [← HV.out]; simp [okA]; try omega, rfl⟩
end Go.Proofs.Ytikfclioplploaa
