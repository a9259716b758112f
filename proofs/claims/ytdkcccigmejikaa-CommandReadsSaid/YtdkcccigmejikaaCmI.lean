/-
  Slices of integers, upon the pack's texts: the call's own, appended.
-/
import Derived.Test.YtdkcccigmejikaaInts
import Derived.Lib.SliceRun
set_option linter.unusedVariables false
set_option linter.unusedSimpArgs false
set_option maxRecDepth 20000
namespace Go.Proofs.Ytdkcccigmejikaa
open Go.RowKit

theorem ic_at {L : List Int} {k : Nat} {x : Int} (h : L[k]? = some x) : (ic L)[k]? = some (.int .i64 x) := by simp [ic, h]
theorem ic_one (L : List Int) : ∀ u ∈ ic L, u.oneCell' = true := by
  intro u hu
  obtain ⟨b, _, rfl⟩ := List.mem_map.1 hu
  rfl
theorem ic_app (L M : List Int) : ic (L ++ M) = ic L ++ ic M := by simp [ic]
/-- A call's own row of integers. -/
abbrev OwI (w : World) (base : Nat) (v : Value) (L : List Int) : Prop := w.ownsRow base 2 1 v L.length (ic L)
theorem OwI.sl {w : World} {base : Nat} {v : Value} {L : List Int} (h : OwI w base v L) : ∃ ao cap, v = .slice ao L.length cap ∧ Sl w ao L.length cap (ic L) := by
  have h2 : w.ownsRow base 2 1 v (ic L).length (ic L) := by rw [ic_len]; exact h
  obtain ⟨ao, cap, e, hs, _⟩ := Sl.own h2
  rw [ic_len] at e hs
  exact ⟨ao, cap, e, hs⟩
theorem sl_i1 (w : World) (x : Int) : Sl (w.alloc (.cells #[.int .i64 x] 2)) (some ⟨w.heap.size, 0, none⟩) 1 1 (ic [x]) :=
  ⟨rfl, Nat.le_refl _, by simp, fun _ => ⟨_, _, rfl, fun j u hu => by
    rw [Nat.zero_add]
    exact (Blk.new w 2 [.int .i64 x]).cell j u hu⟩⟩
theorem own_i0 (w : World) : OwI (w.alloc (.cells #[] 2)) w.heap.size (.slice (some ⟨w.heap.size, 0, none⟩) 0 0) [] :=
  ⟨rfl, .inr ⟨_, 0, #[], rfl, Nat.le_refl _, heap_alloc_new w _, Nat.le_refl _, by decide, rfl, rfl⟩⟩
theorem owi_nil (w : World) (base : Nat) : OwI w base (.slice none 0 0) [] := World.ownsRow_nil w base _ 1
section
variable {ops : Array Oper} {rest : List Oper} {o : Oper} {a : Act} {w : World} {Q : Exit → Act → World → Prop} {K : Act → World → Prop}
/-- append of integers. -/
theorem ap_i (hw : Region.wanted o (yielded ops a.tmps) = true) (s x : Operand) (ho : o.op = .call { callee := .builtin .append, args := #[s, x], argTypes := #[23, 23] })
    (base : Nat) (v : Value) (hv : a.eval s = v) (L : List Int) (hown : OwI w base v L)
    (ao : Option Addr) (cap : Nat) (M : List Int) (hx : a.eval x = .slice ao M.length cap) (hs : Sl w ao M.length cap (ic M)) (hbytes : L.length + M.length ≤ 1000000000000) (hbase : base ≤ w.heap.size)
    (h : ∀ v' w', OwI w' base v' (L ++ M) → w.grownBy w' v.ownBlock → (∀ g, v'.ownBlock = some g → v.ownBlock = some g ∨ w.heap.size ≤ g) → wpList Try.prog ops Q rest (a.put o.dst v') w') : wpList Try.prog ops Q (o :: rest) a w := by
  obtain ⟨i, hi, h0, h1, h2⟩ := info_parts info_i64
  have hsrc := Sl.src Try.underlying23 hs (ic_one M)
  refine wpList_append_src hw s x 23 23 ho base 2 i (.int .i64 0) 8 Try.underlying23 hi h0 h1 h2 rfl v hv (ic L) (by rw [ic_len]; exact hown) _ hx (ic M) (by rw [ic_len] at hsrc ⊢; exact hsrc) (by rw [ic_len, ic_len]; omega) (by decide) hbase ?_
  intro v' w' h1 h2 h3
  exact h v' w' (by rw [← ic_app, ic_len] at h1; exact h1) h2 h3
/-- The same, of an operation that stands by itself. -/
theorem ap_i_op (s x : Operand) (ho : o.op = .call { callee := .builtin .append, args := #[s, x], argTypes := #[23, 23] }) (hty : o.type = 23)
    (base : Nat) (v : Value) (hv : a.eval s = v) (L : List Int) (hown : OwI w base v L)
    (ao : Option Addr) (cap : Nat) (M : List Int) (hx : a.eval x = .slice ao M.length cap) (hs : Sl w ao M.length cap (ic M)) (hbytes : L.length + M.length ≤ 1000000000000) (hbase : base ≤ w.heap.size)
    (h : ∀ v' w', OwI w' base v' (L ++ M) → w.grownBy w' v.ownBlock → K (a.put o.dst v') w') : Oper.wp Try.prog o a w K Q := by
  obtain ⟨i, hi, h0, h1, h2⟩ := info_parts info_i64
  have hsrc := Sl.src Try.underlying23 hs (ic_one M)
  rw [ic_len] at hsrc
  obtain ⟨v', w', hrun, k1, k2, k3⟩ := run_append_own_src (P := Try.prog) w base 23 23 o.type 2 i (.int .i64 0) 8 Try.underlying23 hi h0 h1 h2 rfl v L.length (ic L) hown (.slice ao M.length cap) M.length (ic M) hsrc (by simp only [maxLen]; omega) (by omega) hbase
  unfold Oper.wp
  simp [execOp, ho, resolve, invoke, builtin, hv, hx, hrun, Result.andThen]
  exact h v' w' (by show World.ownsRow _ _ _ _ _ _ _; rw [List.length_append, ic_app]; exact k1) k2
end
theorem below_grownI {w w' w0 : World} {B base : Nat} {v : Value} {L : List Int} (h : OwI w base v L) (hg : w.grownBy w' v.ownBlock) (hB : B ≤ base) (hB0 : B ≤ w0.heap.size) (hb : Below B w0 w) : Below B w0 w' :=
  hb.grown hg (Nat.le_trans hB0 hb.size) (fun k hk => Nat.le_trans hB (World.ownsRow.lt h k hk).1)
theorem owi_kp {w w' : World} {B : Nat} {v : Value} {L : List Int} (h : OwI w B v L) (hb : Below w.heap.size w w') : OwI w' B v L := by
  rcases h.2 with h0 | ⟨g, cap, cur, e, h1, h2, h3⟩
  · exact ⟨h.1, .inl h0⟩
  · have hl := (World.ownsRow.lt h g (by rw [e]; rfl)).2
    exact ⟨h.1, .inr ⟨g, cap, cur, e, h1, by rw [hb.block g hl]; exact h2, h3⟩⟩
theorem owi_dn {w : World} {B B' : Nat} {v : Value} {L : List Int} (h : OwI w B' v L) (hB : B ≤ B') : OwI w B v L := by
  rcases h.2 with h0 | ⟨g, cap, cur, e, h1, h2, h3⟩
  · exact ⟨h.1, .inl h0⟩
  · exact ⟨h.1, .inr ⟨g, cap, cur, e, Nat.le_trans hB h1, h2, h3⟩⟩
end Go.Proofs.Ytdkcccigmejikaa
