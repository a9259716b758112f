/-
  Lines of a budget: as cells; which can be; the walks of share.Strip, budget.money, Used, Cap.
-/
import Derived.Test.YtikfclioplploaaFull
import Derived.Test.YtikfclioplploaaFloor
import Derived.Test.YtikfclioplploaaSlI
import Derived.Lib.SliceRun
set_option linter.unusedVariables false
set_option linter.unusedSimpArgs false
namespace Go.Proofs.Ytikfclioplploaa
open Go.RowKit Dg

/-- A line: budget, points, paid, held. -/
abbrev Ln := Int × Int × Int × Int
def lnc (t : Ln) : List Value := [.int .i64 t.1, .int .i64 t.2.1, .int .i64 t.2.2.1, .int .i64 t.2.2.2]
theorem lnc_len (t : Ln) : (lnc t).length = 4 := rfl
theorem lnc_one (t : Ln) : ∀ u ∈ lnc t, u.oneCell' = true := by
  intro u hu
  simp only [lnc, List.mem_cons, List.not_mem_nil, or_false] at hu
  rcases hu with rfl | rfl | rfl | rfl <;> rfl
abbrev SlL (w : World) (ao : Option Addr) (cap : Nat) (L : List Ln) : Prop := Rk w 4 ao L.length cap (rc lnc L)
abbrev OwL (w : World) (base : Nat) (v : Value) (L : List Ln) : Prop := w.ownsRow base 23 4 v L.length (rc lnc L)
theorem info_ln : (Try.prog.info? 23).map (fun i => (i.zero, i.size, i.bytes)) = some (some (.agg #[.int .i64 0, .int .i64 0, .int .i64 0, .int .i64 0]), 4, 32) := by kernel_rfl
theorem size_ln (w : World) : (sizeOf 23).run Try.prog w = .ok 4 w := by
  obtain ⟨i, hi, _, hs, _⟩ := info_parts info_ln
  simp [sizeOf, typeInfo, hi, hs]
theorem ln_cells {w : World} {L : List Ln} {b off : Nat} (hc : ∀ j u, (rc lnc L)[j]? = some u → w.cell? ⟨b, off + j, none⟩ = some u) {k : Nat} {t : Ln} (ht : L[k]? = some t) :
    w.cell? ⟨b, off + k * 4, none⟩ = some (.int .i64 t.1) ∧ w.cell? ⟨b, off + k * 4 + 1, none⟩ = some (.int .i64 t.2.1) ∧ w.cell? ⟨b, off + k * 4 + 2, none⟩ = some (.int .i64 t.2.2.1) ∧ w.cell? ⟨b, off + k * 4 + 3, none⟩ = some (.int .i64 t.2.2.2) :=
  ⟨by have := hc _ _ (rc_at lnc_len ht 0 _ rfl); simpa using this, by have := hc _ _ (rc_at lnc_len ht 1 _ rfl); rw [← Nat.add_assoc] at this; exact this, by have := hc _ _ (rc_at lnc_len ht 2 _ rfl); rw [← Nat.add_assoc] at this; exact this, by have := hc _ _ (rc_at lnc_len ht 3 _ rfl); rw [← Nat.add_assoc] at this; exact this⟩
theorem own_kp {w w' : World} {B e S n : Nat} {v : Value} {C : List Value} (h : w.ownsRow B e S v n C) (hb : Below w.heap.size w w') : w'.ownsRow B e S v n C := by
  refine ⟨h.1, ?_⟩
  rcases h.2 with h2 | ⟨g, cap, cur, e, hb2, hg, r⟩
  · exact .inl h2
  · refine .inr ⟨g, cap, cur, e, hb2, ?_, r⟩
    rw [hb.block g ((Array.getElem?_eq_some_iff.1 hg).1)]; exact hg
theorem own_dn {w : World} {B B' e S n : Nat} {v : Value} {C : List Value} (h : w.ownsRow B' e S v n C) (hB : B ≤ B') : w.ownsRow B e S v n C := by
  refine ⟨h.1, ?_⟩
  rcases h.2 with h2 | ⟨g, cap, cur, e, hb2, r⟩
  · exact .inl h2
  · exact .inr ⟨g, cap, cur, e, Nat.le_trans hB hb2, r⟩
theorem below_grown {w w' w0 : World} {B base S n : Nat} {e : TypeId} {v : Value} {C : List Value} (h : w.ownsRow base e S v n C) (hg : w.grownBy w' v.ownBlock) (hB : B ≤ base) (hB0 : B ≤ w0.heap.size) (hb : Below B w0 w) : Below B w0 w' :=
  hb.grown hg (Nat.le_trans hB0 hb.size) (fun k hk => Nat.le_trans hB (World.ownsRow.lt h k hk).1)
section
variable {ops : Array Oper} {rest : List Oper} {o : Oper} {a : Act} {w : World} {Q : Exit → Act → World → Prop}
theorem ix_ln (hw : Region.wanted o (yielded ops a.tmps) = true) (s x : Operand) (ho : o.op = .indexAddr 24 s x) (ao : Option Addr) (cap : Nat) (L : List Ln) (hc : SlL w ao cap L) (hs : a.eval s = .slice ao L.length cap) (k : Nat) (t : Ln) (ht : L[k]? = some t) (hx : a.eval x = .int .i64 k)
    (h : ∀ b off, w.cell? ⟨b, off, none⟩ = some (.int .i64 t.1) → w.cell? ⟨b, off + 1, none⟩ = some (.int .i64 t.2.1) → w.cell? ⟨b, off + 2, none⟩ = some (.int .i64 t.2.2.1) → w.cell? ⟨b, off + 3, none⟩ = some (.int .i64 t.2.2.2) → wpList Try.prog ops Q rest (a.put o.dst (.pointer (some ⟨b, off, none⟩))) w) : wpList Try.prog ops Q (o :: rest) a w := by
  refine wpList_ix_rec hw 24 23 s x ho Try.underlying24 4 (by decide) size_ln ao L.length cap hs (rc lnc L) hc k (List.getElem?_eq_some_iff.1 ht).1 hx fun b off _ hcell => ?_
  obtain ⟨h0, h1, h2, h3⟩ := ln_cells hcell ht
  exact h b (off + k * 4) h0 h1 h2 h3
/-- append of lines. -/
theorem ap_ln (hw : Region.wanted o (yielded ops a.tmps) = true) (s x : Operand) (ho : o.op = .call { callee := .builtin .append, args := #[s, x], argTypes := #[24, 24] })
    (base : Nat) (v : Value) (hv : a.eval s = v) (L : List Ln) (hown : OwL w base v L)
    (ao : Option Addr) (cap : Nat) (M : List Ln) (hx : a.eval x = .slice ao M.length cap) (hs : SlL w ao cap M) (hbytes : L.length + M.length ≤ 1000000000000) (hbase : base ≤ w.heap.size)
    (h : ∀ v' w', OwL w' base v' (L ++ M) → w.grownBy w' v.ownBlock → (∀ g, v'.ownBlock = some g → v.ownBlock = some g ∨ w.heap.size ≤ g) → wpList Try.prog ops Q rest (a.put o.dst v') w') : wpList Try.prog ops Q (o :: rest) a w := by
  refine wpList_append_rec hw s x 24 24 ho base 23 _ 32 4 Try.underlying24 info_ln rfl v hv L.length (rc lnc L) hown _ hx M.length (rc lnc M) (Rk.src Try.underlying24 (by decide) hs (rc_cell lnc_one M)) (by omega) (by decide) hbase ?_
  intro v' w' h1 h2 h3
  exact h v' w' (by show World.ownsRow _ _ _ _ _ _ _; rw [rc_app, List.length_append]; exact h1) h2 h3
end
theorem ownL_empty (w : World) : OwL (w.alloc (.cells #[] 23)) w.heap.size (.slice (some ⟨w.heap.size, 0, none⟩) 0 0) [] :=
  ⟨rfl, .inr ⟨_, 0, #[], rfl, Nat.le_refl _, heap_alloc_new w _, Nat.le_refl _, by decide, rfl, rfl⟩⟩
theorem ownL_nil (w : World) (base : Nat) : OwL w base (.slice none 0 0) [] := World.ownsRow_nil w base _ 4
theorem OwL.sl {w : World} {base : Nat} {v : Value} {L : List Ln} (h : OwL w base v L) : ∃ ao cap, v = .slice ao L.length cap ∧ SlL w ao cap L := by
  obtain ⟨ao, cap, e, hs, _⟩ := Rk.own h
  exact ⟨ao, cap, e, hs⟩
set_option maxRecDepth 8000 in
theorem bclone_any (w : World) (ao : Option Addr) (cap : Nat) (L : List Ln) (h : SlL w ao cap L) (hl : L.length ≤ 1000000000) :
    Calls Try.prog 63 #[.slice ao L.length cap] w fun e w' => ∃ v', e = .returned v' ∧ OwL w' w.heap.size v' L ∧ Below w.heap.size w w' := by
  cases ao with
  | none =>
    have hcap := h.nil rfl
    have hr := h.room
    have hL : L = [] := List.eq_nil_of_length_eq_zero (by omega)
    subst hL; subst hcap
    clear h
    have hq := fun w => _root_.Go.Lib.run_eql_slice_nil (P := Try.prog) w 24 23 none 0 0 0 0 Try.underlying24
    go_enter Try.func63, Try.ntmps63
    go_wp2
    go_ret
    exact ⟨_, rfl, ownL_nil w _, Below.refl _ _⟩
  | some ad =>
    have HV := Lib.hid (h.alloc (.cells #[] 23))
    have HO := Lib.hid (ownL_empty w)
    have HB := Lib.hid (below_new1 w (.cells #[] 23))
    clear h
    have hq := fun w => _root_.Go.Lib.run_eql_slice_nil (P := Try.prog) w 24 23 (some ad) L.length cap 0 0 Try.underlying24
    go_enter Try.func63, Try.ntmps63
    go_wp2_with (refine ap_ln rfl _ _ rfl w.heap.size _ rfl [] HO.out _ cap L rfl HV.out (by simp; omega) (by simp) ?_; intro v' w' h1 h2 h3)
    go_ret
    exact ⟨_, rfl, h1, below_grown HO.out h2 (Nat.le_refl _) (Nat.le_refl _) HB.out⟩
/-! ### Which lines can be -/
def okM (n : Int) : Bool := decide (0 ≤ n) && decide (n ≤ 1000000000000)
def capS (b p : Int) : Int := b * p / 10000
theorem okM_iff (n : Int) : okM n = true ↔ 0 ≤ n ∧ n ≤ 1000000000000 := by simp [okM]
theorem prod_in {b p : Int} (hb0 : 0 ≤ b) (hb1 : b ≤ 1000000000000) (hp0 : 0 ≤ p) (hp1 : p ≤ 10000) : 0 ≤ b * p ∧ b * p ≤ 10000000000000000 := by
  refine ⟨Int.mul_nonneg hb0 hp0, ?_⟩
  have h1 : b * p ≤ 1000000000000 * p := Int.mul_le_mul_of_nonneg_right hb1 hp0
  omega
theorem cap_in {b p : Int} (hb0 : 0 ≤ b) (hb1 : b ≤ 1000000000000) (hp0 : 0 ≤ p) (hp1 : p ≤ 10000) : 0 ≤ capS b p ∧ capS b p ≤ b := by
  have h := prod_in hb0 hb1 hp0 hp1
  have h1 : b * p ≤ b * 10000 := Int.mul_le_mul_of_nonneg_left hp1 hb0
  unfold capS
  generalize b * p = z at *
  omega
theorem money_any (n : Int) (w : World) : Calls Try.prog 50 #[.int .i64 n] w fun e w' => e = .returned (.bool (okM n)) ∧ w' = w := by
  obtain ⟨v, hv⟩ : ∃ v, okM n = v := ⟨_, rfl⟩
  rw [hv]
  have HV := Lib.hid hv
  clear hv
  go_enter Try.func50, Try.ntmps50
  go_wp2
  all_goals
    go_ret
    exact ⟨by rw [← HV.out]; simp [okM]; try omega, rfl⟩
/-- What Strip answers: the part, what is left, the error's number. -/
def stripS (a p : Int) : Int × Int × Int := if 0 ≤ p ∧ p ≤ 10000 then (capS a p, a - capS a p, 0) else (0, 0, 21)
set_option maxRecDepth 8000 in
set_option maxHeartbeats 1600000 in
theorem strip_any (a p : Int) (h0 : 0 ≤ a) (h1 : a ≤ 1000000000000) (w : World) :
    Calls Try.prog 38 #[.int .i64 a, .int .i64 p] w fun e w' => e = .returned (.tuple #[.int .i64 (stripS a p).1, .int .i64 (stripS a p).2.1, .int .i64 (stripS a p).2.2]) ∧ Below w.heap.size w w' := by
  by_cases hp : 0 ≤ p ∧ p ≤ 10000
  · unfold stripS
    rw [if_pos hp]
    obtain ⟨p0, p1⟩ := hp
    have hz := prod_in h0 h1 p0 p1
    have hc := cap_in h0 h1 p0 p1
    have e1 : (a * p).natAbs / 18446744073709551616 % 10000 = 0 := by
      have : (a * p).natAbs < 18446744073709551616 := by generalize a * p = z at *; omega
      rw [Nat.div_eq_of_lt this]
    have H := wfloor_any a p 10000 (by omega) (by omega) (by omega) (by omega) (by decide) (by decide) (by rw [e1]; exact div64_0 _ 10000 (Nat.mod_lt _ (by decide)) (by decide) (by decide)) w
    rw [show a * p / ((10000 : Nat) : Int) = capS a p from rfl, cutI_in (z := capS a p) (by omega) (by omega)] at H
    have HF := Lib.hid H
    obtain ⟨q, hq⟩ : ∃ q, capS a p = q := ⟨_, rfl⟩
    rw [hq] at HF hc ⊢
    clear e1 H hz hq
    go_enter Try.func38, Try.ntmps38
    go_wp2_with fail
    refine HF.out.mono ?_
    rintro e w1 ⟨rfl, hb⟩
    go_wp2
    exact bodyPost_ret (v := .tuple #[.int .i64 q, .int .i64 (a - q), .int .i64 0]) (by simp [results, Try.results38, go_sem]) rfl ⟨rfl, hb⟩
  · unfold stripS
    rw [if_neg hp]
    have h2 : p < 0 ∨ (0 ≤ p ∧ 10000 < p) := by omega
    clear hp
    rcases h2 with h2 | ⟨h2, h3⟩
    all_goals
      go_enter Try.func38, Try.ntmps38
      go_wp2
      exact bodyPost_ret (v := .tuple #[.int .i64 0, .int .i64 0, .int .i64 21]) (by simp [results, Try.results38, go_sem]) rfl ⟨rfl, Below.refl _ _⟩
set_option maxRecDepth 8000 in
theorem used_any (b p x y : Int) (hx : okM x = true) (hy : okM y = true) (w : World) : Calls Try.prog 28 #[.agg #[.int .i64 b, .int .i64 p, .int .i64 x, .int .i64 y]] w fun e w' => e = .returned (.int .i64 (x + y)) ∧ Below w.heap.size w w' := by
  rw [okM_iff] at hx hy
  obtain ⟨x0, x1⟩ := hx; obtain ⟨y0, y1⟩ := hy
  go_enter Try.func28, Try.ntmps28
  go_wp2
  go_ret
  exact ⟨rfl, below_new1 _ _⟩
set_option maxRecDepth 8000 in
theorem cap_any (b p x y : Int) (hb : okM b = true) (hp0 : 0 ≤ p) (hp1 : p ≤ 10000) (w : World) : Calls Try.prog 29 #[.agg #[.int .i64 b, .int .i64 p, .int .i64 x, .int .i64 y]] w fun e w' => e = .returned (.int .i64 (capS b p)) ∧ Below w.heap.size w w' := by
  rw [okM_iff] at hb
  have HS := Lib.hid (fun W => strip_any b p hb.1 hb.2 W)
  rw [show stripS b p = (capS b p, b - capS b p, 0) from if_pos ⟨hp0, hp1⟩] at HS
  have HB := Lib.hid (below_new1 w (.cells #[.int .i64 b, .int .i64 p, .int .i64 x, .int .i64 y] 23))
  obtain ⟨q, hq⟩ : ∃ q, capS b p = q := ⟨_, rfl⟩
  rw [hq] at HS ⊢
  clear hq hb
  go_enter Try.func29, Try.ntmps29
  go_wp2_with fail
  refine (HS.out _).mono ?_
  rintro e w1 ⟨rfl, hb⟩
  have HB1 := Lib.hid (below_on HB.out HB.out.size hb)
  go_wp2
  go_ret
  exact ⟨rfl, HB1.out⟩
end Go.Proofs.Ytikfclioplploaa
