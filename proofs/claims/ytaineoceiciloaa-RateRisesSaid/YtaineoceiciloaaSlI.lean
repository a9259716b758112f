/-
  Slices of integers: the call's own, appended, parts.
-/
import Derived.Test.YtaineoceiciloaaIc
import Derived.Lib.SliceRun
set_option linter.unusedVariables false
set_option linter.unusedSimpArgs false
namespace Go.Proofs.Ytaineoceiciloaa
open Go.RowKit

theorem info_i64 : (Try.prog.info? 2).map (fun i => (i.zero, i.size, i.bytes)) = some (some (.int .i64 0), 1, 8) := by kernel_rfl
theorem ic_one (L : List Int) : ∀ u ∈ ic L, u.oneCell' = true := by
  intro u hu
  obtain ⟨b, _, rfl⟩ := List.mem_map.1 hu
  rfl
theorem ic_app (L M : List Int) : ic (L ++ M) = ic L ++ ic M := by simp [ic]
/-- A call's own row of integers. -/
abbrev OwI (w : World) (base : Nat) (v : Value) (L : List Int) : Prop := w.ownsRow base 2 1 v L.length (ic L)
theorem OwI.sl {w : World} {base : Nat} {v : Value} {L : List Int} (h : OwI w base v L) : ∃ ao cap, v = .slice ao L.length cap ∧ Sl w ao L.length cap (ic L) := by
  have h2 : w.ownsRow base 2 1 v (ic L).length (ic L) := by rw [ic_len]; exact h
  obtain ⟨ao, cap, e, hs, _⟩ := Sl.own h2
  rw [ic_len] at e hs
  exact ⟨ao, cap, e, hs⟩
theorem sl_i1 (w : World) (x : Int) : Sl (w.alloc (.cells #[.int .i64 x] 2)) (some ⟨w.heap.size, 0, none⟩) 1 1 (ic [x]) :=
  ⟨rfl, Nat.le_refl _, by simp, fun _ => ⟨_, _, rfl, fun j u hu => by
    rw [Nat.zero_add]
    exact (Blk.new w 2 [.int .i64 x]).cell j u hu⟩⟩
theorem own_i0 (w : World) : OwI (w.alloc (.cells #[] 2)) w.heap.size (.slice (some ⟨w.heap.size, 0, none⟩) 0 0) [] :=
  ⟨rfl, .inr ⟨_, 0, #[], rfl, Nat.le_refl _, heap_alloc_new w _, Nat.le_refl _, by decide, rfl, rfl⟩⟩
theorem owi_nil (w : World) (base : Nat) : OwI w base (.slice none 0 0) [] := World.ownsRow_nil w base _ 1
section
variable {ops : Array Oper} {rest : List Oper} {o : Oper} {a : Act} {w : World} {Q : Exit → Act → World → Prop} {K : Act → World → Prop}
/-- append of integers. -/
theorem ap_i (hw : Region.wanted o (yielded ops a.tmps) = true) (s x : Operand) (ho : o.op = .call { callee := .builtin .append, args := #[s, x], argTypes := #[65, 65] })
    (base : Nat) (v : Value) (hv : a.eval s = v) (L : List Int) (hown : OwI w base v L)
    (ao : Option Addr) (cap : Nat) (M : List Int) (hx : a.eval x = .slice ao M.length cap) (hs : Sl w ao M.length cap (ic M)) (hbytes : L.length + M.length ≤ 1000000000000) (hbase : base ≤ w.heap.size)
    (h : ∀ v' w', OwI w' base v' (L ++ M) → w.grownBy w' v.ownBlock → (∀ g, v'.ownBlock = some g → v.ownBlock = some g ∨ w.heap.size ≤ g) → wpList Try.prog ops Q rest (a.put o.dst v') w') : wpList Try.prog ops Q (o :: rest) a w := by
  obtain ⟨i, hi, h0, h1, h2⟩ := info_parts info_i64
  have hsrc := Sl.src Try.underlying65 hs (ic_one M)
  refine wpList_append_src hw s x 65 65 ho base 2 i (.int .i64 0) 8 Try.underlying65 hi h0 h1 h2 rfl v hv (ic L) (by rw [ic_len]; exact hown) _ hx (ic M) (by rw [ic_len] at hsrc ⊢; exact hsrc) (by rw [ic_len, ic_len]; omega) (by decide) hbase ?_
  intro v' w' h1 h2 h3
  exact h v' w' (by rw [← ic_app, ic_len] at h1; exact h1) h2 h3
/-- The same, of an operation that stands by itself. -/
theorem ap_i_op (s x : Operand) (ho : o.op = .call { callee := .builtin .append, args := #[s, x], argTypes := #[65, 65] }) (hty : o.type = 65)
    (base : Nat) (v : Value) (hv : a.eval s = v) (L : List Int) (hown : OwI w base v L)
    (ao : Option Addr) (cap : Nat) (M : List Int) (hx : a.eval x = .slice ao M.length cap) (hs : Sl w ao M.length cap (ic M)) (hbytes : L.length + M.length ≤ 1000000000000) (hbase : base ≤ w.heap.size)
    (h : ∀ v' w', OwI w' base v' (L ++ M) → w.grownBy w' v.ownBlock → K (a.put o.dst v') w') : Oper.wp Try.prog o a w K Q := by
  obtain ⟨i, hi, h0, h1, h2⟩ := info_parts info_i64
  have hsrc := Sl.src Try.underlying65 hs (ic_one M)
  rw [ic_len] at hsrc
  obtain ⟨v', w', hrun, k1, k2, k3⟩ := run_append_own_src (P := Try.prog) w base 65 65 o.type 2 i (.int .i64 0) 8 Try.underlying65 hi h0 h1 h2 rfl v L.length (ic L) hown (.slice ao M.length cap) M.length (ic M) hsrc (by simp only [maxLen]; omega) (by omega) hbase
  unfold Oper.wp
  simp [execOp, ho, resolve, invoke, builtin, hv, hx, hrun, Result.andThen]
  exact h v' w' (by show World.ownsRow _ _ _ _ _ _ _; rw [List.length_append, ic_app]; exact k1) k2
/-- Where a part from k on begins. -/
def fromA (ao : Option Addr) (cap k : Nat) : Option Addr := if cap = k then ao else ao.map (·.add (k * 1))
theorem ic_drop (L : List Int) (k : Nat) : (ic L).drop k = ic (L.drop k) := by simp [ic, List.map_drop]
theorem ic_take (L : List Int) (k : Nat) : (ic L).take k = ic (L.take k) := by simp [ic, List.map_take]
theorem from_sl {ao : Option Addr} {cap : Nat} {L : List Int} (hsl : Sl w ao L.length cap (ic L)) (k : Nat) (hk : k ≤ L.length) : Sl w (fromA ao cap k) (L.drop k).length (cap - k) (ic (L.drop k)) := by
  have hcut := hsl.cut k L.length hk (Nat.le_refl _)
  rw [ic_drop, ic_take, List.take_of_length_le (by simp)] at hcut
  rw [show (L.drop k).length = L.length - k from List.length_drop]
  exact hcut
theorem to_sl {ao : Option Addr} {cap : Nat} {L : List Int} (hsl : Sl w ao L.length cap (ic L)) (k : Nat) (hk : k ≤ L.length) : Sl w (fromA ao cap 0) (L.take k).length cap (ic (L.take k)) := by
  have hcut := hsl.cut 0 k (Nat.zero_le _) hk
  rw [List.drop_zero, ic_take, Nat.sub_zero, Nat.sub_zero] at hcut
  rw [show (L.take k).length = k from by rw [List.length_take]; omega]
  exact hcut
theorem size_i64' (w : World) : (sizeOf 2).run Try.prog w = .ok 1 w := size_i64 w
theorem run_from (w : World) (ao : Option Addr) (cap : Nat) (L : List Int) (hr : L.length ≤ cap) (k : Nat) (hk : k ≤ L.length) : (Instr.slice 65 (.slice ao L.length cap) (some (.int .i64 k)) none none).run Try.prog w = .ok (.slice (fromA ao cap k) (L.drop k).length (cap - k)) w := by
  rw [run_slice_l w 65 ao L.length cap (by simp [Program.elem]) .i64 k (by omega) (by omega), show Try.prog.elem 65 = 2 from by simp [Program.elem], size_i64]
  simp [Result.andThen, sliced, fromA]
theorem run_to (w : World) (ao : Option Addr) (cap : Nat) (L : List Int) (hr : L.length ≤ cap) (k : Nat) (hk : k ≤ L.length) : (Instr.slice 65 (.slice ao L.length cap) none (some (.int .i64 k)) none).run Try.prog w = .ok (.slice (fromA ao cap 0) (L.take k).length cap) w := by
  rw [run_slice_h w 65 ao L.length cap (by simp [Program.elem]) .i64 k (by omega) (by omega), show Try.prog.elem 65 = 2 from by simp [Program.elem], size_i64, show (L.take k).length = k from by rw [List.length_take]; omega]
  simp [Result.andThen, sliced, fromA]
theorem cut_from_op (s x : Operand) (ho : o.op = .slice 65 s (some x) none none) (ao : Option Addr) (cap : Nat) (L : List Int) (hr : L.length ≤ cap) (hs : a.eval s = .slice ao L.length cap) (k : Nat) (hk : k ≤ L.length) (hx : a.eval x = .int .i64 k)
    (h : K (a.put o.dst (.slice (fromA ao cap k) (L.drop k).length (cap - k))) w) : Oper.wp Try.prog o a w K Q := by
  have hrun := run_from w ao cap L hr k hk
  generalize Value.slice (fromA ao cap k) (L.drop k).length (cap - k) = V at hrun h
  unfold Oper.wp
  simp [execOp, ho, run_sliceAt_slice, hs, hx, hrun, Result.andThen, Program.elem]
  exact h
theorem cut_to_op (s x : Operand) (ho : o.op = .slice 65 s none (some x) none) (ao : Option Addr) (cap : Nat) (L : List Int) (hr : L.length ≤ cap) (hs : a.eval s = .slice ao L.length cap) (k : Nat) (hk : k ≤ L.length) (hx : a.eval x = .int .i64 k)
    (h : K (a.put o.dst (.slice (fromA ao cap 0) (L.take k).length cap)) w) : Oper.wp Try.prog o a w K Q := by
  have hrun := run_to w ao cap L hr k hk
  generalize Value.slice (fromA ao cap 0) (L.take k).length cap = V at hrun h
  unfold Oper.wp
  simp [execOp, ho, run_sliceAt_slice, hs, hx, hrun, Result.andThen, Program.elem]
  exact h
theorem cut_from (hw : Region.wanted o (yielded ops a.tmps) = true) (s x : Operand) (ho : o.op = .slice 65 s (some x) none none) (ao : Option Addr) (cap : Nat) (L : List Int) (hr : L.length ≤ cap) (hs : a.eval s = .slice ao L.length cap) (k : Nat) (hk : k ≤ L.length) (hx : a.eval x = .int .i64 k)
    (h : wpList Try.prog ops Q rest (a.put o.dst (.slice (fromA ao cap k) (L.drop k).length (cap - k))) w) : wpList Try.prog ops Q (o :: rest) a w :=
  wpList_step fun _ hK => by
    rw [if_pos hw]
    exact cut_from_op s x ho ao cap L hr hs k hk hx (hK _ _ h)
theorem cut_to (hw : Region.wanted o (yielded ops a.tmps) = true) (s x : Operand) (ho : o.op = .slice 65 s none (some x) none) (ao : Option Addr) (cap : Nat) (L : List Int) (hr : L.length ≤ cap) (hs : a.eval s = .slice ao L.length cap) (k : Nat) (hk : k ≤ L.length) (hx : a.eval x = .int .i64 k)
    (h : wpList Try.prog ops Q rest (a.put o.dst (.slice (fromA ao cap 0) (L.take k).length cap)) w) : wpList Try.prog ops Q (o :: rest) a w :=
  wpList_step fun _ hK => by
    rw [if_pos hw]
    exact cut_to_op s x ho ao cap L hr hs k hk hx (hK _ _ h)
end
end Go.Proofs.Ytaineoceiciloaa
