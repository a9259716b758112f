/-
  Words for the proofs of the rows: a command by value, opened.
-/
import Derived.Test.YtdkcccigmejikaaProofAns
import Derived.Test.YtdkcccigmejikaaCmF
set_option linter.unusedVariables false
set_option linter.unusedSimpArgs false
set_option maxRecDepth 20000
namespace Go.Proofs.Ytdkcccigmejikaa
open Go.ChangeShapes Go.WideShapes Go.ChangeAt Go.RowKit Go.Deep

section
variable {H : Type} {enc : TypeId × Value → H} {P : Program} {W : World} {base : Nat} {spare : Nat → Bool} {held : Bool}
theorem fld_at {fs : Array Field} {t : TypeId} {fuel : Nat} {cs : List Value} {x : DataW H × List MemPlace} (hs : P.underlying t = some (.struct fs)) (h : DataW.trod enc P W base spare held fuel t cs = some x) (i : Nat) (f : Field) (hi : fs[i]? = some f) :
    ∃ n y, DataW.trod enc P W base spare held n f.type ((cs.drop f.offset).take (P.cellsOf f.type)) = some y := by
  obtain ⟨xs, n, _, _, _, hlen, hf⟩ := DataW.trod_struct hs h
  have hlt : i < fs.size := (Array.getElem?_eq_some_iff.1 hi).1
  exact ⟨n, xs[i]'(by omega), (hf i f hi).trans (List.getElem?_eq_getElem (by omega))⟩
theorem int_at {fs : Array Field} {t : TypeId} {fuel : Nat} {cs : List Value} {x : DataW H × List MemPlace} (hs : P.underlying t = some (.struct fs)) (h : DataW.trod enc P W base spare held fuel t cs = some x) (i : Nat) (f : Field) (hi : fs[i]? = some f) (v : Value)
    (hc : (cs.drop f.offset).take (P.cellsOf f.type) = [v]) (k : P.underlying f.type = some (.int .i64)) : ∃ z, v = .int .i64 z ∧ (Lit.int .i64 z).wf = true := by
  obtain ⟨n, y, hy⟩ := fld_at hs h i f hi
  rw [hc] at hy
  obtain ⟨z, hz, _, wz⟩ := DataW.trod_int k hy
  exact ⟨z, by simpa using hz, wz⟩
theorem in64_wf {z : Int} (h : (Lit.int .i64 z).wf = true) : in64 z := by
  simp [Lit.wf, IntKind.min, IntKind.max, IntKind.signed, IntKind.bits] at h
  exact h
end
theorem list23 {α : Type} (l : List α) (h : l.length = 23) : ∃ v0 v1 v2 v3 v4 v5 v6 v7 v8 v9 v10 v11 v12 v13 v14 v15 v16 v17 v18 v19 v20 v21 v22, l = [v0, v1, v2, v3, v4, v5, v6, v7, v8, v9, v10, v11, v12, v13, v14, v15, v16, v17, v18, v19, v20, v21, v22] := by
  obtain ⟨v0, l, rfl⟩ := List.exists_cons_of_length_eq_add_one h
  replace h : l.length = 22 := by simpa using h
  obtain ⟨v1, l, rfl⟩ := List.exists_cons_of_length_eq_add_one h
  replace h : l.length = 21 := by simpa using h
  obtain ⟨v2, l, rfl⟩ := List.exists_cons_of_length_eq_add_one h
  replace h : l.length = 20 := by simpa using h
  obtain ⟨v3, l, rfl⟩ := List.exists_cons_of_length_eq_add_one h
  replace h : l.length = 19 := by simpa using h
  obtain ⟨v4, l, rfl⟩ := List.exists_cons_of_length_eq_add_one h
  replace h : l.length = 18 := by simpa using h
  obtain ⟨v5, l, rfl⟩ := List.exists_cons_of_length_eq_add_one h
  replace h : l.length = 17 := by simpa using h
  obtain ⟨v6, l, rfl⟩ := List.exists_cons_of_length_eq_add_one h
  replace h : l.length = 16 := by simpa using h
  obtain ⟨v7, l, rfl⟩ := List.exists_cons_of_length_eq_add_one h
  replace h : l.length = 15 := by simpa using h
  obtain ⟨v8, l, rfl⟩ := List.exists_cons_of_length_eq_add_one h
  replace h : l.length = 14 := by simpa using h
  obtain ⟨v9, l, rfl⟩ := List.exists_cons_of_length_eq_add_one h
  replace h : l.length = 13 := by simpa using h
  obtain ⟨v10, l, rfl⟩ := List.exists_cons_of_length_eq_add_one h
  replace h : l.length = 12 := by simpa using h
  obtain ⟨v11, l, rfl⟩ := List.exists_cons_of_length_eq_add_one h
  replace h : l.length = 11 := by simpa using h
  obtain ⟨v12, l, rfl⟩ := List.exists_cons_of_length_eq_add_one h
  replace h : l.length = 10 := by simpa using h
  obtain ⟨v13, l, rfl⟩ := List.exists_cons_of_length_eq_add_one h
  replace h : l.length = 9 := by simpa using h
  obtain ⟨v14, l, rfl⟩ := List.exists_cons_of_length_eq_add_one h
  replace h : l.length = 8 := by simpa using h
  obtain ⟨v15, l, rfl⟩ := List.exists_cons_of_length_eq_add_one h
  replace h : l.length = 7 := by simpa using h
  obtain ⟨v16, l, rfl⟩ := List.exists_cons_of_length_eq_add_one h
  replace h : l.length = 6 := by simpa using h
  obtain ⟨v17, l, rfl⟩ := List.exists_cons_of_length_eq_add_one h
  replace h : l.length = 5 := by simpa using h
  obtain ⟨v18, l, rfl⟩ := List.exists_cons_of_length_eq_add_one h
  replace h : l.length = 4 := by simpa using h
  obtain ⟨v19, l, rfl⟩ := List.exists_cons_of_length_eq_add_one h
  replace h : l.length = 3 := by simpa using h
  obtain ⟨v20, l, rfl⟩ := List.exists_cons_of_length_eq_add_one h
  replace h : l.length = 2 := by simpa using h
  obtain ⟨v21, l, rfl⟩ := List.exists_cons_of_length_eq_add_one h
  replace h : l.length = 1 := by simpa using h
  obtain ⟨v22, l, rfl⟩ := List.exists_cons_of_length_eq_add_one h
  replace h : l.length = 0 := by simpa using h
  obtain rfl := List.length_eq_zero_iff.1 h
  exact ⟨_, _, _, _, _, _, _, _, _, _, _, _, _, _, _, _, _, _, _, _, _, _, _, rfl⟩
theorem open_cmd {H : Type} {enc : TypeId × Value → H} {W : World} {r : Reach} {b0 : Nat} {v : Value} {d : DataW H} {p : List MemPlace} (hv : Value.okWide Try.prog W r b0 45 v) (h : DataW.Trod enc Try.prog W 0 (fun _ => true) true 45 v d p) :
    ∃ (c : Cm) (ao : Option Addr) (cap : Nat), v = .agg (c.C (.slice ao c.L.length cap)).toArray ∧ Sl W ao c.L.length cap (ic c.L) ∧ c.wf := by
  obtain ⟨cs, rfl, hsz⟩ := okWide_struct Try.underlying45 hv
  obtain ⟨fuel, hf⟩ := h
  obtain ⟨l⟩ := cs
  have hk : Try.prog.cellsOf 45 = 23 := by kernel_rfl
  have hl : l.length = 23 := by simpa [hk] using hsz
  obtain ⟨v0, v1, v2, v3, v4, v5, v6, v7, v8, v9, v10, v11, v12, v13, v14, v15, v16, v17, v18, v19, v20, v21, v22, rfl⟩ := list23 l hl
  replace hf : DataW.trod enc Try.prog W 0 (fun _ => true) true fuel 45 [v0, v1, v2, v3, v4, v5, v6, v7, v8, v9, v10, v11, v12, v13, v14, v15, v16, v17, v18, v19, v20, v21, v22] = some (d, p) := hf
  clear hsz hl hv
  obtain ⟨z0, rfl, w0⟩ := int_at Try.underlying45 hf 0 _ rfl v0 (by kernel_rfl) (by kernel_rfl)
  obtain ⟨z1, rfl, w1⟩ := int_at Try.underlying45 hf 1 _ rfl v1 (by kernel_rfl) (by kernel_rfl)
  obtain ⟨z2, rfl, w2⟩ := int_at Try.underlying45 hf 2 _ rfl v2 (by kernel_rfl) (by kernel_rfl)
  obtain ⟨z3, rfl, w3⟩ := int_at Try.underlying45 hf 3 _ rfl v3 (by kernel_rfl) (by kernel_rfl)
  obtain ⟨z4, rfl, w4⟩ := int_at Try.underlying45 hf 4 _ rfl v4 (by kernel_rfl) (by kernel_rfl)
  obtain ⟨z5, rfl, w5⟩ := int_at Try.underlying45 hf 5 _ rfl v5 (by kernel_rfl) (by kernel_rfl)
  obtain ⟨n6, y6, h6⟩ := fld_at Try.underlying45 hf 6 _ rfl
  replace h6 : DataW.trod enc Try.prog W 0 (fun _ => true) true n6 41 [v6, v7, v8, v9, v10, v11, v12, v13, v14, v15, v16, v17] = some y6 := h6
  obtain ⟨n7, y7, h7⟩ := fld_at Try.underlying45 hf 7 _ rfl
  replace h7 : DataW.trod enc Try.prog W 0 (fun _ => true) true n7 43 [v18, v19, v20, v21, v22] = some y7 := h7
  obtain ⟨m0, u0, g0⟩ := fld_at Try.underlying41 h6 0 _ rfl
  replace g0 : DataW.trod enc Try.prog W 0 (fun _ => true) true m0 23 [v6] = some u0 := g0
  obtain ⟨z7, rfl, w7⟩ := int_at Try.underlying41 h6 1 _ rfl v7 (by kernel_rfl) (by kernel_rfl)
  obtain ⟨z8, rfl, w8⟩ := int_at Try.underlying41 h6 2 _ rfl v8 (by kernel_rfl) (by kernel_rfl)
  obtain ⟨z9, rfl, w9⟩ := int_at Try.underlying41 h6 3 _ rfl v9 (by kernel_rfl) (by kernel_rfl)
  obtain ⟨z10, rfl, w10⟩ := int_at Try.underlying41 h6 4 _ rfl v10 (by kernel_rfl) (by kernel_rfl)
  obtain ⟨z11, rfl, w11⟩ := int_at Try.underlying41 h6 5 _ rfl v11 (by kernel_rfl) (by kernel_rfl)
  obtain ⟨m6, u6, g6⟩ := fld_at Try.underlying41 h6 6 _ rfl
  replace g6 : DataW.trod enc Try.prog W 0 (fun _ => true) true m6 37 [v12, v13, v14] = some u6 := g6
  obtain ⟨z12, rfl, w12⟩ := int_at Try.underlying37 g6 0 _ rfl v12 (by kernel_rfl) (by kernel_rfl)
  obtain ⟨z13, rfl, w13⟩ := int_at Try.underlying37 g6 1 _ rfl v13 (by kernel_rfl) (by kernel_rfl)
  obtain ⟨z14, rfl, w14⟩ := int_at Try.underlying37 g6 2 _ rfl v14 (by kernel_rfl) (by kernel_rfl)
  obtain ⟨m7, u7, g7⟩ := fld_at Try.underlying41 h6 7 _ rfl
  replace g7 : DataW.trod enc Try.prog W 0 (fun _ => true) true m7 39 [v15, v16, v17] = some u7 := g7
  obtain ⟨z15, rfl, w15⟩ := int_at Try.underlying39 g7 0 _ rfl v15 (by kernel_rfl) (by kernel_rfl)
  obtain ⟨z16, rfl, w16⟩ := int_at Try.underlying39 g7 1 _ rfl v16 (by kernel_rfl) (by kernel_rfl)
  obtain ⟨z17, rfl, w17⟩ := int_at Try.underlying39 g7 2 _ rfl v17 (by kernel_rfl) (by kernel_rfl)
  obtain ⟨z18, rfl, w18⟩ := int_at Try.underlying43 h7 0 _ rfl v18 (by kernel_rfl) (by kernel_rfl)
  obtain ⟨z19, rfl, w19⟩ := int_at Try.underlying43 h7 1 _ rfl v19 (by kernel_rfl) (by kernel_rfl)
  obtain ⟨z20, rfl, w20⟩ := int_at Try.underlying43 h7 2 _ rfl v20 (by kernel_rfl) (by kernel_rfl)
  obtain ⟨z21, rfl, w21⟩ := int_at Try.underlying43 h7 3 _ rfl v21 (by kernel_rfl) (by kernel_rfl)
  obtain ⟨z22, rfl, w22⟩ := int_at Try.underlying43 h7 4 _ rfl v22 (by kernel_rfl) (by kernel_rfl)
  obtain ⟨ao, cap, L, rfl, hL, wL⟩ := open_sl_cs Try.underlying23 Try.underlying2 (by kernel_rfl) g0
  refine ⟨⟨z0, z1, z2, z3, z4, z5, L, z7, z8, z9, z10, z11, z12, z13, z14, z15, z16, z17, z18, z19, z20, z21, z22⟩, ao, cap, rfl, hL, ?_, fun x hx => in64_wf (wL x hx), ?_, ?_⟩
  · intro x hx
    simp only [Cm.H, List.mem_cons, List.not_mem_nil, or_false] at hx
    rcases hx with rfl | rfl | rfl | rfl | rfl | rfl
    · exact in64_wf w0
    · exact in64_wf w1
    · exact in64_wf w2
    · exact in64_wf w3
    · exact in64_wf w4
    · exact in64_wf w5
  · intro x hx
    simp only [Cm.N, List.mem_cons, List.not_mem_nil, or_false] at hx
    rcases hx with rfl | rfl | rfl | rfl | rfl | rfl | rfl | rfl | rfl | rfl | rfl
    · exact in64_wf w7
    · exact in64_wf w8
    · exact in64_wf w9
    · exact in64_wf w10
    · exact in64_wf w11
    · exact in64_wf w12
    · exact in64_wf w13
    · exact in64_wf w14
    · exact in64_wf w15
    · exact in64_wf w16
    · exact in64_wf w17
  · intro x hx
    simp only [Cm.F, List.mem_cons, List.not_mem_nil, or_false] at hx
    rcases hx with rfl | rfl | rfl | rfl | rfl
    · exact in64_wf w18
    · exact in64_wf w19
    · exact in64_wf w20
    · exact in64_wf w21
    · exact in64_wf w22
end Go.Proofs.Ytdkcccigmejikaa
