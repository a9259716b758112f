/-
  Commands read: the walk of command.read.
-/
import Derived.Test.YtdkcccigmejikaaCmR
set_option linter.unusedVariables false
set_option linter.unusedSimpArgs false
set_option maxRecDepth 20000
namespace Go.Proofs.Ytdkcccigmejikaa
open Go.RowKit

section
variable {ops : Array Oper} {rest : List Oper} {op : Oper} {a : Act} {w : World} {Q : Exit → Act → World → Prop} {P : Program}
/-- A value of one cell into a cell. -/
theorem st_c (hgd : op.guard = none) (ty : TypeId) (x y : Operand) (ho : op.op = .store ty x y) (b o : Nat) (v : Value) (hx : a.eval x = .pointer (some ⟨b, o, none⟩)) (hy : a.eval y = v) (h1 : v.oneCell' = true) (hc : w.there b o 1)
    (hi : (P.info? ty).map (·.size) = some 1) (h : ∀ W, Hid (W = w.setCell ⟨b, o, none⟩ v) → wpList P ops Q rest (a.put op.dst undef) W) : wpList P ops Q (op :: rest) a w :=
  wpList_plain hgd fun _ hK => by
    have := run_storeCells_cells (P := P) b o [v] 0 w (fun j hj => by simpa using (hc j (by simpa using hj)).1) (fun j hj => by simpa using (hc j (by simpa using hj)).2) (fun u hu => by simp at hu; subst hu; exact h1)
    have hcs : v.cells = #[v] := by cases v <;> first | rfl | cases h1
    have hrun : (storeVar ty ⟨b, o, none⟩ v).run P w = .ok () (w.setCell ⟨b, o, none⟩ v) := by
      cases hq : P.info? ty with
      | none => simp [hq] at hi
      | some i =>
        have hs : i.size = 1 := by simpa [hq] using hi
        simp only [Nat.add_zero] at this
        simp [storeVar, sizeOf, typeInfo, hq, hcs, hs, this, World.setCells]
    unfold Oper.wp execOp
    simp only [ho, hx, hy, Instr.storeAt, Instr.sureAddr, Sem.run_bind, Sem.run_pure, Result.andThen_ok, hrun]
    exact hK _ _ (h _ (Lib.hid rfl))
end
end Go.Proofs.Ytdkcccigmejikaa
