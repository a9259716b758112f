/-
  Words for the walks: digits as cells, a block that holds them, what stays as it was.
-/
import Derived.Test.YteghjdmalbcdfaaBlk
import Derived.Test.YteghjdmalbcdfaaDg
set_option linter.unusedVariables false
set_option linter.unusedSimpArgs false
namespace Go.Proofs.Yteghjdmalbcdfaa
open Go.RowKit Dg

/-- Digits as cells. -/
def du (L : List Int) : List Value := L.map (Value.int .u64)
def ds (L : List Int) : Array Value := (du L).toArray
/-- A number as cells: its sign, its digits. -/
def nu (m : Bool) (L : List Int) : List Value := .bool m :: du L
def ns (m : Bool) (L : List Int) : Array Value := (nu m L).toArray
theorem du_len (L : List Int) : (du L).length = L.length := by simp [du]
theorem nu_len (m : Bool) (L : List Int) : (nu m L).length = L.length + 1 := by simp [nu, du]
theorem ds_size (L : List Int) : (ds L).size = L.length := by simp [ds, du]
theorem ns_size (m : Bool) (L : List Int) : (ns m L).size = L.length + 1 := by simp [ns, nu, du]
theorem du_one (L : List Int) : ∀ v ∈ du L, v.oneCell' = true := by
  intro v hv
  obtain ⟨x, _, rfl⟩ := List.mem_map.1 hv
  rfl
theorem nu_one (m : Bool) (L : List Int) : ∀ v ∈ nu m L, v.oneCell' = true := by
  intro v hv
  rcases List.mem_cons.1 hv with rfl | hv
  · rfl
  · exact du_one L v hv
theorem ds_all (L : List Int) : (ds L).all (·.oneCell') = true := all_oneCell_toArray (du_one L)
theorem ns_all (m : Bool) (L : List Int) : (ns m L).all (·.oneCell') = true := all_oneCell_toArray (nu_one m L)
theorem du_at (L : List Int) (j : Nat) (h : j < L.length) : (du L)[j]? = some (.int .u64 (Dg.at_ L j)) := by simp [du, Dg.at_, h]
theorem nu_at (m : Bool) (L : List Int) (j : Nat) (h : j < L.length) : (nu m L)[j + 1]? = some (.int .u64 (Dg.at_ L j)) := by simp [nu, du, Dg.at_, h]
theorem du_set (L : List Int) (j : Nat) (v : Int) : (du L).set j (.int .u64 v) = du (L.set j v) := by simp [du]
theorem nu_set (m : Bool) (L : List Int) (j : Nat) (v : Int) : (nu m L).set (j + 1) (.int .u64 v) = nu m (L.set j v) := by simp [nu, du]
theorem nu_sign (m m' : Bool) (L : List Int) : (nu m L).set 0 (.bool m') = nu m' L := by simp [nu]

@[go_sem] theorem ns_get0 (m : Bool) (L : List Int) (h : 0 < (ns m L).size) : (ns m L)[0]'h = .bool m := rfl
@[go_sem] theorem ns_getq0 (m : Bool) (L : List Int) : (ns m L)[0]? = some (.bool m) := rfl
/-! ### Whole digits and numbers, read and stored -/
section
variable {ops : Array Oper} {rest : List Oper} {op : Oper} {a : Act} {w : World} {Q : Exit → Act → World → Prop}
theorem info_arr : (Try.prog.info? 67).map (·.size) = some 10 := by kernel_rfl
theorem info_num : (Try.prog.info? 69).map (·.size) = some 11 := by kernel_rfl
theorem ld_arr (hgd : op.guard = none) (x : Operand) (ho : op.op = .load 67 x) (b o : Nat) (hx : a.eval x = .pointer (some ⟨b, o, none⟩)) (M : List Int) (hl : M.length = 10) (hc : w.rangeAt b o (du M))
    (h : wpList Try.prog ops Q rest (a.put op.dst (.agg (ds M))) w) : wpList Try.prog ops Q (op :: rest) a w :=
  wpList_load_mid hgd _ x ho b o hx (du M) _ hc Try.underlying67 rfl (by rw [du_len, hl]; exact info_arr) h
theorem ld_num (hgd : op.guard = none) (x : Operand) (ho : op.op = .load 69 x) (b o : Nat) (hx : a.eval x = .pointer (some ⟨b, o, none⟩)) (m : Bool) (M : List Int) (hl : M.length = 10) (hc : w.rangeAt b o (nu m M))
    (h : wpList Try.prog ops Q rest (a.put op.dst (.agg (ns m M))) w) : wpList Try.prog ops Q (op :: rest) a w :=
  wpList_load_mid hgd _ x ho b o hx (nu m M) _ hc Try.underlying69 rfl (by rw [nu_len, hl]; exact info_num) h
theorem st_arr (hgd : op.guard = none) (x y : Operand) (ho : op.op = .store 67 x y) (b o : Nat) (hx : a.eval x = .pointer (some ⟨b, o, none⟩)) (M : List Int) (hy : a.eval y = .agg (ds M)) (hl : M.length = 10) (hc : w.there b o 10)
    (h : wpList Try.prog ops Q rest (a.put op.dst undef) (w.setCells b o (du M))) : wpList Try.prog ops Q (op :: rest) a w :=
  wpList_store_mid hgd _ x y ho b o (ds M) hx hy (by rw [ds_size, hl]; exact hc) (by rw [ds_size, hl]; exact info_arr) (ds_all M) (by simpa [ds] using h)
theorem st_num (hgd : op.guard = none) (x y : Operand) (ho : op.op = .store 69 x y) (b o : Nat) (hx : a.eval x = .pointer (some ⟨b, o, none⟩)) (m : Bool) (M : List Int) (hy : a.eval y = .agg (ns m M)) (hl : M.length = 10) (hc : w.there b o 11)
    (h : wpList Try.prog ops Q rest (a.put op.dst undef) (w.setCells b o (nu m M))) : wpList Try.prog ops Q (op :: rest) a w :=
  wpList_store_mid hgd _ x y ho b o (ns m M) hx hy (by rw [ns_size, hl]; exact hc) (by rw [ns_size, hl]; exact info_num) (ns_all m M) (by simpa [ns] using h)
/-- Digits in the middle of a block are read, as the walk meets it. -/
theorem at_arr (w : World) (b o : Nat) (M : List Int) (hl : M.length = 10) (hc : w.rangeAt b o (du M)) : (Instr.loadAt 67 (.pointer (some ⟨b, o, none⟩))).run Try.prog w = .ok (.agg (ds M)) w :=
  run_loadAt_mid w b o _ (du M) _ hc Try.underlying67 rfl (by rw [du_len, hl]; exact info_arr)
theorem Blk.digits {w : World} {b T : Nat} {m : Bool} {M : List Int} (h : Blk w b T (nu m M)) (hl : M.length = 10) : w.rangeAt b 1 (du M) := by
  have := h.rangeMid 1 10
  rwa [show ((nu m M).drop 1).take 10 = du M from by simp [nu, List.take_of_length_le, du_len, hl]] at this
theorem Blk.digits_there {w : World} {b T : Nat} {m : Bool} {M : List Int} (h : Blk w b T (nu m M)) (hl : M.length = 10) : w.there b 1 10 := h.thereMid 1 10 (by rw [nu_len, hl]; decide)
theorem Blk.setDigits {w : World} {b T : Nat} {m : Bool} {M L : List Int} (h : Blk w b T (nu m M)) (hl : M.length = 10) (hL : L.length = 10) : Blk (w.setCells b 1 (du L)) b T (nu m L) := by
  have := Blk.setCells (du L) 1 h (by rw [nu_len, hl, du_len, hL]; decide)
  rwa [show (nu m M).take 1 ++ du L ++ (nu m M).drop (1 + (du L).length) = nu m L from by
    rw [List.drop_of_length_le (by rw [nu_len, hl, du_len, hL]; decide)]; simp [nu]] at this
theorem Blk.setSign {w : World} {b T : Nat} {m : Bool} {M : List Int} (h : Blk w b T (nu m M)) (m' : Bool) : Blk (w.setCell ⟨b, 0, none⟩ (.bool m')) b T (nu m' M) := by
  rw [← nu_sign m m' M]; exact h.set 0 _
theorem res_arr {fn : Func} {p : Tmp} (h : fn.results = #[.cell p 67]) (tmps : Array Value) (w : World) (g : Nat) (M : List Int) (hl : M.length = 10)
    (hp : tmps.getD p undef = .pointer (some ⟨g, 0, none⟩)) (hg : Blk w g 67 (du M)) : (results fn tmps).run Try.prog w = .ok (.agg (ds M)) w :=
  results_cell_row h tmps w g _ (ds M) _ _ hp hg.at_ Try.underlying67 rfl (by rw [ds_size, hl]; exact info_arr)
theorem res_num {fn : Func} {p : Tmp} (h : fn.results = #[.cell p 69]) (tmps : Array Value) (w : World) (g : Nat) (m : Bool) (M : List Int) (hl : M.length = 10)
    (hp : tmps.getD p undef = .pointer (some ⟨g, 0, none⟩)) (hg : Blk w g 69 (nu m M)) : (results fn tmps).run Try.prog w = .ok (.agg (ns m M)) w :=
  results_cell_row h tmps w g _ (ns m M) _ _ hp hg.at_ Try.underlying69 rfl (by rw [ns_size, hl]; exact info_num)
end
theorem Blk.du_set {w : World} {b T : Nat} {M : List Int} (h : Blk w b T (du M)) (k : Nat) (v : Int) : Blk (w.setCell ⟨b, k, none⟩ (.int .u64 v)) b T (du (M.set k v)) := by
  rw [← Go.Proofs.Yteghjdmalbcdfaa.du_set]; exact h.set k _
theorem Blk.nu_set {w : World} {b T : Nat} {m : Bool} {M : List Int} (h : Blk w b T (nu m M)) (k : Nat) (v : Int) : Blk (w.setCell ⟨b, k + 1, none⟩ (.int .u64 v)) b T (nu m (M.set k v)) := by
  rw [← Go.Proofs.Yteghjdmalbcdfaa.nu_set]; exact h.set (k + 1) _
theorem Blk.nu_set' {w : World} {b T : Nat} {m : Bool} {M : List Int} (h : Blk w b T (nu m M)) (k : Nat) (v : Int) : Blk (w.setCell ⟨b, 1 + k, none⟩ (.int .u64 v)) b T (nu m (M.set k v)) := by
  rw [Nat.add_comm]; exact h.nu_set k v
theorem nu_at' (m : Bool) (L : List Int) (j : Nat) (h : j < L.length) : (nu m L)[1 + j]? = some (.int .u64 (Dg.at_ L j)) := by rw [Nat.add_comm]; exact nu_at m L j h
/-- Ten noughts. -/
def z10 : List Int := [0, 0, 0, 0, 0, 0, 0, 0, 0, 0]
theorem z10_len : z10.length = 10 := rfl
end Go.Proofs.Yteghjdmalbcdfaa
