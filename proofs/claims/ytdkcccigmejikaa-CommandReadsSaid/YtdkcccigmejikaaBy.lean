/-
  Bytes: as cells, appended, as a text.
-/
import Derived.Test.YtdkcccigmejikaaSl
set_option linter.unusedVariables false
set_option linter.unusedSimpArgs false
set_option maxRecDepth 20000
namespace Go.Proofs.Ytdkcccigmejikaa
open Go.RowKit

/-- Bytes as cells. -/
def bc (L : List UInt8) : List Value := L.map fun b => Value.int .u8 b.toNat
theorem bc_len (L : List UInt8) : (bc L).length = L.length := by simp [bc]
theorem bc_app (L M : List UInt8) : bc (L ++ M) = bc L ++ bc M := by simp [bc]
theorem bc_one (L : List UInt8) : ∀ u ∈ bc L, u.oneCell' = true := by
  intro u hu
  obtain ⟨b, _, rfl⟩ := List.mem_map.1 hu
  rfl
theorem bc_at (L : List UInt8) (k : Nat) (u : Value) (h : (bc L)[k]? = some u) : ∃ b, L[k]? = some b ∧ u = .int .u8 b.toNat := by
  rw [bc, List.getElem?_map] at h
  cases hb : L[k]? with
  | none => rw [hb] at h; simp at h
  | some b => rw [hb] at h; exact ⟨b, rfl, by simpa using h.symm⟩
theorem bc_cut (L : List UInt8) (l k : Nat) : ((bc L).drop l).take k = bc ((L.drop l).take k) := by simp [bc]
/-- Bytes as a text. -/
def str (L : List UInt8) : ByteArray := ⟨L.toArray⟩
theorem str_size (L : List UInt8) : (str L).size = L.length := rfl
theorem str_inj {L M : List UInt8} (h : str L = str M) : L = M := by
  have := congrArg (fun b => b.data.toList) h
  simpa [str] using this
theorem byteCells_str (L : List UInt8) : byteCells (str L) = bc L := by simp [byteCells, str, bc]
theorem str_toList (s : ByteArray) : str s.data.toList = s := by
  cases s; simp [str]
/-- A slice of bytes reads as L. -/
abbrev SlB (w : World) (v : Value) (L : List UInt8) : Prop := ∃ ao cap, v = .slice ao L.length cap ∧ Sl w ao L.length cap (bc L)
/-- A call's own slice holds L. -/
abbrev OwB (w : World) (base : Nat) (v : Value) (L : List UInt8) : Prop := w.ownsRow base 5 1 v L.length (bc L)
theorem OwB.sl {w : World} {base : Nat} {v : Value} {L : List UInt8} (h : OwB w base v L) : SlB w v L := by
  have h' : w.ownsRow base 5 1 v (bc L).length (bc L) := by rw [bc_len]; exact h
  obtain ⟨ao, cap, e, hs, _⟩ := Sl.own h'
  rw [bc_len] at e hs
  exact ⟨ao, cap, e, hs⟩
theorem SlB.keeps {w w' : World} {v : Value} {L : List UInt8} (h : SlB w v L) (hb : Below w.heap.size w w') : SlB w' v L := by
  obtain ⟨ao, cap, e, hs⟩ := h
  exact ⟨ao, cap, e, hs.keeps hb⟩
theorem OwB.below {w w' : World} {base B : Nat} {v : Value} {L : List UInt8} (h : OwB w base v L) (hb : Below w.heap.size w w') : OwB w' base v L := by
  refine ⟨h.1, ?_⟩
  rcases h.2 with h2 | ⟨g, cap, cur, e, hb2, hg, r⟩
  · exact .inl h2
  · refine .inr ⟨g, cap, cur, e, hb2, ?_, r⟩
    rw [hb.block g ((Array.getElem?_eq_some_iff.1 hg).1)]; exact hg
theorem OwB.up {w : World} {base base' : Nat} {v : Value} {L : List UInt8} (h : OwB w base v L) (hb : base' ≤ base) : OwB w base' v L := by
  refine ⟨h.1, ?_⟩
  rcases h.2 with h2 | ⟨g, cap, cur, e, hb2, r⟩
  · exact .inl h2
  · exact .inr ⟨g, cap, cur, e, Nat.le_trans hb hb2, r⟩
theorem info_u8 : (Try.prog.info? 5).map (fun i => (i.zero, i.size, i.bytes)) = some (some (.int .u8 0), 1, 1) := by kernel_rfl
theorem size_u8 (w : World) : (sizeOf 5).run Try.prog w = .ok 1 w := by
  obtain ⟨i, hi, _, hs, _⟩ := info_parts info_u8
  simp [sizeOf, typeInfo, hi, hs]

section
variable {ops : Array Oper} {rest : List Oper} {o : Oper} {a : Act} {w : World} {Q : Exit → Act → World → Prop}
/-- append of bytes, from a slice or a text. -/
theorem ap_src (hw : Region.wanted o (yielded ops a.tmps) = true) (s x : Operand) (tx : TypeId) (ho : o.op = .call { callee := .builtin .append, args := #[s, x], argTypes := #[27, tx] })
    (base : Nat) (v : Value) (hv : a.eval s = v) (L : List UInt8) (hown : OwB w base v L)
    (vx : Value) (hx : a.eval x = vx) (M : List UInt8) (hs : Src Try.prog 1 tx vx M.length (bc M) w) (hbytes : L.length + M.length ≤ 140737488355328) (hbase : base ≤ w.heap.size)
    (h : ∀ v' w', OwB w' base v' (L ++ M) → w.grownBy w' v.ownBlock → (∀ g, v'.ownBlock = some g → v.ownBlock = some g ∨ w.heap.size ≤ g) → wpList Try.prog ops Q rest (a.put o.dst v') w') : wpList Try.prog ops Q (o :: rest) a w := by
  obtain ⟨i, hi, h0, h1, h2⟩ := info_parts info_u8
  refine wpList_append_src hw s x 27 tx ho base 5 i (.int .u8 0) 1 Try.underlying27 hi h0 h1 h2 rfl v hv (bc L) (by rw [bc_len]; exact hown) vx hx (bc M) (by rw [bc_len]; exact hs) (by rw [bc_len, bc_len]; omega) (by decide) hbase ?_
  intro v' w' h1 h2 h3
  exact h v' w' (by rw [← bc_app, bc_len] at h1; exact h1) h2 h3
theorem ap_sl (hw : Region.wanted o (yielded ops a.tmps) = true) (s x : Operand) (ho : o.op = .call { callee := .builtin .append, args := #[s, x], argTypes := #[27, 27] })
    (base : Nat) (v : Value) (hv : a.eval s = v) (L : List UInt8) (hown : OwB w base v L)
    (M : List UInt8) (vx : Value) (hx : a.eval x = vx) (hs : SlB w vx M) (hbytes : L.length + M.length ≤ 140737488355328) (hbase : base ≤ w.heap.size)
    (h : ∀ v' w', OwB w' base v' (L ++ M) → w.grownBy w' v.ownBlock → (∀ g, v'.ownBlock = some g → v.ownBlock = some g ∨ w.heap.size ≤ g) → wpList Try.prog ops Q rest (a.put o.dst v') w') : wpList Try.prog ops Q (o :: rest) a w := by
  obtain ⟨ao, cap, rfl, hsl⟩ := hs
  refine ap_src hw s x 27 ho base v hv L hown _ hx M ?_ hbytes hbase h
  have := Sl.src Try.underlying27 hsl (bc_one M)
  rwa [bc_len] at this
/-- One byte's slice, as append's own block. -/
theorem sl_one (w : World) (b : UInt8) : SlB (w.alloc (.cells #[.int .u8 b.toNat] 5)) (.slice (some ⟨w.heap.size, 0, none⟩) 1 1) [b] :=
  ⟨_, _, rfl, rfl, Nat.le_refl _, by simp, fun _ => ⟨_, _, rfl, fun j u hu => by
    rw [Nat.zero_add]
    exact (Blk.new w 5 [.int .u8 b.toNat]).cell j u hu⟩⟩
theorem OwB.alloc {w : World} {base : Nat} {v : Value} {L : List UInt8} (h : OwB w base v L) (ob : Obj) : OwB (w.alloc ob) base v L := World.ownsRow.alloc h ob
theorem grown_below {w w' : World} {B : Nat} {v : Value} {L : List UInt8} {base : Nat} {w0 : World} (h : OwB w base v L) (hg : w.grownBy w' v.ownBlock) (hB : B ≤ base) (hB0 : B ≤ w0.heap.size) (hb : Below B w0 w) : Below B w0 w' := by
  exact hb.grown hg (Nat.le_trans hB0 hb.size) (fun k hk => Nat.le_trans hB (World.ownsRow.lt h k hk).1)
/-- An element's place, of bytes. -/
theorem ix_by (hw : Region.wanted o (yielded ops a.tmps) = true) (s x : Operand) (ho : o.op = .indexAddr 27 s x) (v : Value) (hs : a.eval s = v) (L : List UInt8) (hc : SlB w v L) (k : Nat) (hk : k < L.length) (hx : a.eval x = .int .i64 k)
    (h : ∀ b off c, L[k]? = some c → w.cell? ⟨b, off + k, none⟩ = some (.int .u8 c.toNat) → wpList Try.prog ops Q rest (a.put o.dst (.pointer (some ⟨b, off + k, none⟩))) w) : wpList Try.prog ops Q (o :: rest) a w := by
  obtain ⟨ao, cap, rfl, hsl⟩ := hc
  refine wpList_ix_sl hw 27 5 s x ho Try.underlying27 size_u8 ao L.length cap hs (bc L) hsl k hk hx fun b off u hu hcell => ?_
  obtain ⟨c, hc, rfl⟩ := bc_at L k u hu
  exact h b off c hc hcell
/-- The text of bytes. -/
theorem run_text (w : World) {ao cap} (L : List UInt8) (h : Sl w ao L.length cap (bc L)) : (convert 27 9 (.slice ao L.length cap)).run Try.prog w = .ok (.string (str L)) w := by
  by_cases hne : L = []
  · subst hne
    cases ao with
    | none => exact run_convert_bytes_nil w _ _ Try.underlying27 Try.underlying5 _ _ _ Try.underlying9
    | some ad =>
      obtain ⟨b, off, sp⟩ := ad
      have hl : (loadCells ⟨b, off, sp⟩ 0).run Try.prog w = .ok #[] w := by simp [loadCells, loadCellsFrom]
      show Sem.run _ (convert 27 9 (.slice (some ⟨b, off, sp⟩) 0 cap)) w = _
      rw [run_convert_bytes_string w 27 9 5 _ 0 cap Try.underlying27 Try.underlying5 Try.underlying9, run_bytesToString w _ 0 cap [] (by simpa using hl)]
      rfl
  · obtain ⟨b, off, rfl, hc⟩ := h.cells (by intro h0; apply hne; exact List.eq_nil_of_length_eq_zero (by rw [← bc_len, h0]; rfl))
    have := run_convert_bytes_arg w 27 5 Try.underlying27 Try.underlying5 b off L.length cap (L.map fun x => (x.toNat : Int)) (by simp) (fun i hi => by
      rw [hc i (.int .u8 (L[i]).toNat) (by simp [bc, hi])]
      simp [hi]) 9 Try.underlying9
    rw [this]
    congr 2
    apply ByteArray.ext
    apply Array.toList_inj.1
    rw [strOfNums_data, List.map_map]
    show _ = (str L).data.toList
    simp only [str]
    conv => rhs; rw [← List.map_id L]
    apply List.map_congr_left
    intro x _
    simp
theorem to_text_op {K : Act → World → Prop} (x : Operand) (ho : o.op = .convert 27 9 x) (v : Value) (hx : a.eval x = v) (L : List UInt8) (hs : SlB w v L)
    (h : K (a.put o.dst (.string (str L))) w) : Oper.wp Try.prog o a w K Q := by
  obtain ⟨ao, cap, rfl, hsl⟩ := hs
  have hrun := run_text w L hsl
  unfold Oper.wp
  simp [execOp, ho, hx, hrun, Result.andThen]
  exact h
theorem to_text (hw : Region.wanted o (yielded ops a.tmps) = true) (x : Operand) (ho : o.op = .convert 27 9 x) (v : Value) (hx : a.eval x = v) (L : List UInt8) (hs : SlB w v L)
    (h : wpList Try.prog ops Q rest (a.put o.dst (.string (str L))) w) : wpList Try.prog ops Q (o :: rest) a w :=
  wpList_step fun _ hK => by
    rw [if_pos hw]
    obtain ⟨ao, cap, rfl, hsl⟩ := hs
    have hrun := run_text w L hsl
    unfold Oper.wp
    simp [execOp, ho, hx, hrun, Result.andThen]
    exact hK _ _ h
/-- A part from k on, of bytes. -/
theorem cut_from (hw : Region.wanted o (yielded ops a.tmps) = true) (s x : Operand) (ho : o.op = .slice 27 s (some x) none none) (v : Value) (hs : a.eval s = v) (L : List UInt8) (hc : SlB w v L) (k : Nat) (hk : k ≤ L.length) (hx : a.eval x = .int .i64 k)
    (h : ∀ ao' cap', Sl w ao' (L.drop k).length cap' (bc (L.drop k)) → wpList Try.prog ops Q rest (a.put o.dst (.slice ao' (L.drop k).length cap')) w) : wpList Try.prog ops Q (o :: rest) a w :=
  wpList_step fun _ hK => by
    rw [if_pos hw]
    obtain ⟨ao, cap, rfl, hsl⟩ := hc
    have hcut := hsl.cut k L.length hk (Nat.le_refl _)
    rw [bc_cut, List.take_of_length_le (by simp)] at hcut
    have e : (L.drop k).length = L.length - k := List.length_drop
    rw [← e] at hcut
    have hrun : (Instr.slice 27 (.slice ao L.length cap) (some (.int .i64 k)) none none).run Try.prog w = .ok (.slice (if cap = k then ao else ao.map (·.add (k * 1))) (L.drop k).length (cap - k)) w := by
      rw [run_slice_l w 27 ao L.length cap (by simp [Program.elem]) .i64 k (by omega) (by omega), show Try.prog.elem 27 = 5 from by simp [Program.elem], size_u8]
      simp [Result.andThen, sliced]
    have h' := h _ _ hcut
    generalize Value.slice (if cap = k then ao else ao.map (·.add (k * 1))) (L.drop k).length (cap - k) = V at hrun h'
    unfold Oper.wp
    simp [execOp, ho, run_sliceAt_slice, hs, hx, hrun, Result.andThen, Program.elem]
    exact hK _ _ h'
/-- A part up to k, of bytes. -/
theorem cut_to_op {K : Act → World → Prop} (s x : Operand) (ho : o.op = .slice 27 s none (some x) none) (v : Value) (hs : a.eval s = v) (L : List UInt8) (hc : SlB w v L) (k : Nat) (hk : k ≤ L.length) (hx : a.eval x = .int .i64 k)
    (h : ∀ ao' cap', Sl w ao' (L.take k).length cap' (bc (L.take k)) → K (a.put o.dst (.slice ao' (L.take k).length cap')) w) : Oper.wp Try.prog o a w K Q := by
    obtain ⟨ao, cap, rfl, hsl⟩ := hc
    have hr := hsl.room
    have hcut := hsl.cut 0 k (Nat.zero_le _) hk
    rw [bc_cut, List.drop_zero, Nat.sub_zero] at hcut
    have e : (L.take k).length = k := by rw [List.length_take]; omega
    have hrun : (Instr.slice 27 (.slice ao L.length cap) none (some (.int .i64 k)) none).run Try.prog w = .ok (.slice (if cap = 0 then ao else ao.map (·.add (0 * 1))) (L.take k).length (cap - 0)) w := by
      rw [run_slice_h w 27 ao L.length cap (by simp [Program.elem]) .i64 k (by omega) (by omega), show Try.prog.elem 27 = 5 from by simp [Program.elem], size_u8, e]
      simp [Result.andThen, sliced]
    have h' := h _ _ (by rw [e]; exact hcut)
    generalize Value.slice (if cap = 0 then ao else ao.map (·.add (0 * 1))) (L.take k).length (cap - 0) = V at hrun h'
    unfold Oper.wp
    simp [execOp, ho, run_sliceAt_slice, hs, hx, hrun, Result.andThen, Program.elem]
    exact h'
theorem cut_to (hw : Region.wanted o (yielded ops a.tmps) = true) (s x : Operand) (ho : o.op = .slice 27 s none (some x) none) (v : Value) (hs : a.eval s = v) (L : List UInt8) (hc : SlB w v L) (k : Nat) (hk : k ≤ L.length) (hx : a.eval x = .int .i64 k)
    (h : ∀ ao' cap', Sl w ao' (L.take k).length cap' (bc (L.take k)) → wpList Try.prog ops Q rest (a.put o.dst (.slice ao' (L.take k).length cap')) w) : wpList Try.prog ops Q (o :: rest) a w :=
  wpList_step fun _ hK => by
    rw [if_pos hw]
    exact cut_to_op s x ho v hs L hc k hk hx fun ao' cap' h' => hK _ _ (h ao' cap' h')
end
end Go.Proofs.Ytdkcccigmejikaa
