/-
  Covenants: the reference's Broken.
-/
import Derived.Test.YtleeifknicilhaaCovH
set_option linter.unusedVariables false
set_option linter.unusedSimpArgs false
namespace Go.Proofs.Ytleeifknicilhaa
open Go.RowKit Dg

theorem ix3_0 (x y z : Bool) (W : World) : (Instr.index 34 (.agg #[.bool x, .bool y, .bool z]) (.int .i64 0)).run Try.prog W = .ok (.bool x) W := by kernel_rfl
theorem ix3_1 (x y z : Bool) (W : World) : (Instr.index 34 (.agg #[.bool x, .bool y, .bool z]) (.int .i64 1)).run Try.prog W = .ok (.bool y) W := by kernel_rfl
theorem ix3_2 (x y z : Bool) (W : World) : (Instr.index 34 (.agg #[.bool x, .bool y, .bool z]) (.int .i64 2)).run Try.prog W = .ok (.bool z) W := by kernel_rfl
set_option maxRecDepth 8000 in
set_option maxHeartbeats 1600000 in
theorem rbroken_fff (o c v i s l t d : Int) (hR : rightF o c v i s l t d = true) (h1 : i64 o) (h2 : i64 c) (h3 : i64 v) (h4 : i64 i) (h5 : i64 s) (h6 : i64 l) (h7 : i64 t) (h8 : i64 d)
    (e1 : ltcB o c l = false) (e2 : ltcB o v t = false) (e3 : dscrB i s d = false) (w : World) :
    Calls Try.prog 11 #[.agg #[.int .i64 o, .int .i64 c, .int .i64 v, .int .i64 i, .int .i64 s], .agg #[.int .i64 l, .int .i64 t, .int .i64 d]] w fun e w' => e = .returned (.tuple #[.int .i64 7, .int .i64 0]) ∧ Below w.heap.size w w' := by
  have K1 := Lib.hid (fun W => rright_any o c v i s l t d true hR W)
  have H2 := fun W => holds_any o c v i s l t d h1 h2 h3 h4 h5 h6 h7 h8 W
  rw [e1, e2, e3] at H2
  have K2 := Lib.hid H2
  have i0 := ix3_0 false false false; have i1 := ix3_1 false false false; have i2 := ix3_2 false false false
  clear H2 hR e1 e2 e3 h1 h2 h3 h4 h5 h6 h7 h8
  have HB := Lib.hid (below_new2 w (.cells #[.int .i64 o, .int .i64 c, .int .i64 v, .int .i64 i, .int .i64 s] 26) (.cells #[.int .i64 l, .int .i64 t, .int .i64 d] 28))
  have HA := Lib.hid ((Blk.new w 26 [.int .i64 o, .int .i64 c, .int .i64 v, .int .i64 i, .int .i64 s]).alloc (.cells #[.int .i64 l, .int .i64 t, .int .i64 d] 28))
  have HC := Lib.hid (Blk.new2 w (.cells #[.int .i64 o, .int .i64 c, .int .i64 v, .int .i64 i, .int .i64 s] 26) 28 [.int .i64 l, .int .i64 t, .int .i64 d])
  go_enter Try.func11, Try.ntmps11
  have hA := HA.out; have hC := HC.out
  have a0 := hA.cell 0 _ rfl; have a1 := hA.cell 1 _ rfl; have a2 := hA.cell 2 _ rfl; have a3 := hA.cell 3 _ rfl; have a4 := hA.cell 4 _ rfl; have c0 := hC.cell 0 _ rfl; have c1 := hC.cell 1 _ rfl; have c2 := hC.cell 2 _ rfl
  go_wp2_with fail
  refine (K1.out _).mono ?_
  rintro e w1 ⟨rfl, hb⟩
  have HB1 := Lib.hid (below_on HB.out HB.out.size hb)
  have HA1 := Lib.hid (HA.out.keeps hb); have HC1 := Lib.hid (HC.out.keeps hb)
  clear hb a0 a1 a2 a3 a4 c0 c1 c2 hA hC
  have hA := HA1.out; have hC := HC1.out
  have a0 := hA.cell 0 _ rfl; have a1 := hA.cell 1 _ rfl; have a2 := hA.cell 2 _ rfl; have a3 := hA.cell 3 _ rfl; have a4 := hA.cell 4 _ rfl; have c0 := hC.cell 0 _ rfl; have c1 := hC.cell 1 _ rfl; have c2 := hC.cell 2 _ rfl
  go_wp2_with fail
  refine (K2.out _).mono ?_
  rintro e w2 ⟨rfl, hb⟩
  have HB2 := Lib.hid (below_on HB1.out HB1.out.size hb)
  have HA2 := Lib.hid (HA1.out.keeps hb); have HC2 := Lib.hid (HC1.out.keeps hb)
  clear hb a0 a1 a2 a3 a4 c0 c1 c2 hA hC
  go_wp2
  go_loop [6, 7, 17] (fun o b j => (o = .int .i64 0 ∧ b = .int .i64 1 ∧ j = .int .i64 0) ∨ (o = .int .i64 1 ∧ b = .int .i64 2 ∧ j = .int .i64 1) ∨ (o = .int .i64 3 ∧ b = .int .i64 4 ∧ j = .int .i64 2) ∨ (o = .int .i64 7 ∧ b = .int .i64 8 ∧ j = .int .i64 3)) (fun _ _ j => 3 - (intOf j).toNat)
  case atStart => exact .inl ⟨rfl, rfl, rfl⟩
  case round =>
    rcases hrel with ⟨rfl, rfl, rfl⟩ | ⟨rfl, rfl, rfl⟩ | ⟨rfl, rfl, rfl⟩ | ⟨rfl, rfl, rfl⟩
    · go_wp2
      exact ⟨.inr (.inl ⟨rfl, rfl, rfl⟩), by simp [intOf]⟩
    · go_wp2
      exact ⟨.inr (.inr (.inl ⟨rfl, rfl, rfl⟩)), by simp [intOf]⟩
    · go_wp2
      exact ⟨.inr (.inr (.inr ⟨rfl, rfl, rfl⟩)), by simp [intOf]⟩
    · go_wp2
      go_ret2
      exact ⟨rfl, HB2.out⟩
set_option maxRecDepth 8000 in
set_option maxHeartbeats 1600000 in
theorem rbroken_fft (o c v i s l t d : Int) (hR : rightF o c v i s l t d = true) (h1 : i64 o) (h2 : i64 c) (h3 : i64 v) (h4 : i64 i) (h5 : i64 s) (h6 : i64 l) (h7 : i64 t) (h8 : i64 d)
    (e1 : ltcB o c l = false) (e2 : ltcB o v t = false) (e3 : dscrB i s d = true) (w : World) :
    Calls Try.prog 11 #[.agg #[.int .i64 o, .int .i64 c, .int .i64 v, .int .i64 i, .int .i64 s], .agg #[.int .i64 l, .int .i64 t, .int .i64 d]] w fun e w' => e = .returned (.tuple #[.int .i64 3, .int .i64 0]) ∧ Below w.heap.size w w' := by
  have K1 := Lib.hid (fun W => rright_any o c v i s l t d true hR W)
  have H2 := fun W => holds_any o c v i s l t d h1 h2 h3 h4 h5 h6 h7 h8 W
  rw [e1, e2, e3] at H2
  have K2 := Lib.hid H2
  have i0 := ix3_0 false false true; have i1 := ix3_1 false false true; have i2 := ix3_2 false false true
  clear H2 hR e1 e2 e3 h1 h2 h3 h4 h5 h6 h7 h8
  have HB := Lib.hid (below_new2 w (.cells #[.int .i64 o, .int .i64 c, .int .i64 v, .int .i64 i, .int .i64 s] 26) (.cells #[.int .i64 l, .int .i64 t, .int .i64 d] 28))
  have HA := Lib.hid ((Blk.new w 26 [.int .i64 o, .int .i64 c, .int .i64 v, .int .i64 i, .int .i64 s]).alloc (.cells #[.int .i64 l, .int .i64 t, .int .i64 d] 28))
  have HC := Lib.hid (Blk.new2 w (.cells #[.int .i64 o, .int .i64 c, .int .i64 v, .int .i64 i, .int .i64 s] 26) 28 [.int .i64 l, .int .i64 t, .int .i64 d])
  go_enter Try.func11, Try.ntmps11
  have hA := HA.out; have hC := HC.out
  have a0 := hA.cell 0 _ rfl; have a1 := hA.cell 1 _ rfl; have a2 := hA.cell 2 _ rfl; have a3 := hA.cell 3 _ rfl; have a4 := hA.cell 4 _ rfl; have c0 := hC.cell 0 _ rfl; have c1 := hC.cell 1 _ rfl; have c2 := hC.cell 2 _ rfl
  go_wp2_with fail
  refine (K1.out _).mono ?_
  rintro e w1 ⟨rfl, hb⟩
  have HB1 := Lib.hid (below_on HB.out HB.out.size hb)
  have HA1 := Lib.hid (HA.out.keeps hb); have HC1 := Lib.hid (HC.out.keeps hb)
  clear hb a0 a1 a2 a3 a4 c0 c1 c2 hA hC
  have hA := HA1.out; have hC := HC1.out
  have a0 := hA.cell 0 _ rfl; have a1 := hA.cell 1 _ rfl; have a2 := hA.cell 2 _ rfl; have a3 := hA.cell 3 _ rfl; have a4 := hA.cell 4 _ rfl; have c0 := hC.cell 0 _ rfl; have c1 := hC.cell 1 _ rfl; have c2 := hC.cell 2 _ rfl
  go_wp2_with fail
  refine (K2.out _).mono ?_
  rintro e w2 ⟨rfl, hb⟩
  have HB2 := Lib.hid (below_on HB1.out HB1.out.size hb)
  have HA2 := Lib.hid (HA1.out.keeps hb); have HC2 := Lib.hid (HC1.out.keeps hb)
  clear hb a0 a1 a2 a3 a4 c0 c1 c2 hA hC
  go_wp2
  go_loop [6, 7, 17] (fun o b j => (o = .int .i64 0 ∧ b = .int .i64 1 ∧ j = .int .i64 0) ∨ (o = .int .i64 1 ∧ b = .int .i64 2 ∧ j = .int .i64 1) ∨ (o = .int .i64 3 ∧ b = .int .i64 4 ∧ j = .int .i64 2) ∨ (o = .int .i64 3 ∧ b = .int .i64 8 ∧ j = .int .i64 3)) (fun _ _ j => 3 - (intOf j).toNat)
  case atStart => exact .inl ⟨rfl, rfl, rfl⟩
  case round =>
    rcases hrel with ⟨rfl, rfl, rfl⟩ | ⟨rfl, rfl, rfl⟩ | ⟨rfl, rfl, rfl⟩ | ⟨rfl, rfl, rfl⟩
    · go_wp2
      exact ⟨.inr (.inl ⟨rfl, rfl, rfl⟩), by simp [intOf]⟩
    · go_wp2
      exact ⟨.inr (.inr (.inl ⟨rfl, rfl, rfl⟩)), by simp [intOf]⟩
    · go_wp2
      exact ⟨.inr (.inr (.inr ⟨rfl, rfl, rfl⟩)), by simp [intOf]⟩
    · go_wp2
      go_ret2
      exact ⟨rfl, HB2.out⟩
set_option maxRecDepth 8000 in
set_option maxHeartbeats 1600000 in
theorem rbroken_ftf (o c v i s l t d : Int) (hR : rightF o c v i s l t d = true) (h1 : i64 o) (h2 : i64 c) (h3 : i64 v) (h4 : i64 i) (h5 : i64 s) (h6 : i64 l) (h7 : i64 t) (h8 : i64 d)
    (e1 : ltcB o c l = false) (e2 : ltcB o v t = true) (e3 : dscrB i s d = false) (w : World) :
    Calls Try.prog 11 #[.agg #[.int .i64 o, .int .i64 c, .int .i64 v, .int .i64 i, .int .i64 s], .agg #[.int .i64 l, .int .i64 t, .int .i64 d]] w fun e w' => e = .returned (.tuple #[.int .i64 5, .int .i64 0]) ∧ Below w.heap.size w w' := by
  have K1 := Lib.hid (fun W => rright_any o c v i s l t d true hR W)
  have H2 := fun W => holds_any o c v i s l t d h1 h2 h3 h4 h5 h6 h7 h8 W
  rw [e1, e2, e3] at H2
  have K2 := Lib.hid H2
  have i0 := ix3_0 false true false; have i1 := ix3_1 false true false; have i2 := ix3_2 false true false
  clear H2 hR e1 e2 e3 h1 h2 h3 h4 h5 h6 h7 h8
  have HB := Lib.hid (below_new2 w (.cells #[.int .i64 o, .int .i64 c, .int .i64 v, .int .i64 i, .int .i64 s] 26) (.cells #[.int .i64 l, .int .i64 t, .int .i64 d] 28))
  have HA := Lib.hid ((Blk.new w 26 [.int .i64 o, .int .i64 c, .int .i64 v, .int .i64 i, .int .i64 s]).alloc (.cells #[.int .i64 l, .int .i64 t, .int .i64 d] 28))
  have HC := Lib.hid (Blk.new2 w (.cells #[.int .i64 o, .int .i64 c, .int .i64 v, .int .i64 i, .int .i64 s] 26) 28 [.int .i64 l, .int .i64 t, .int .i64 d])
  go_enter Try.func11, Try.ntmps11
  have hA := HA.out; have hC := HC.out
  have a0 := hA.cell 0 _ rfl; have a1 := hA.cell 1 _ rfl; have a2 := hA.cell 2 _ rfl; have a3 := hA.cell 3 _ rfl; have a4 := hA.cell 4 _ rfl; have c0 := hC.cell 0 _ rfl; have c1 := hC.cell 1 _ rfl; have c2 := hC.cell 2 _ rfl
  go_wp2_with fail
  refine (K1.out _).mono ?_
  rintro e w1 ⟨rfl, hb⟩
  have HB1 := Lib.hid (below_on HB.out HB.out.size hb)
  have HA1 := Lib.hid (HA.out.keeps hb); have HC1 := Lib.hid (HC.out.keeps hb)
  clear hb a0 a1 a2 a3 a4 c0 c1 c2 hA hC
  have hA := HA1.out; have hC := HC1.out
  have a0 := hA.cell 0 _ rfl; have a1 := hA.cell 1 _ rfl; have a2 := hA.cell 2 _ rfl; have a3 := hA.cell 3 _ rfl; have a4 := hA.cell 4 _ rfl; have c0 := hC.cell 0 _ rfl; have c1 := hC.cell 1 _ rfl; have c2 := hC.cell 2 _ rfl
  go_wp2_with fail
  refine (K2.out _).mono ?_
  rintro e w2 ⟨rfl, hb⟩
  have HB2 := Lib.hid (below_on HB1.out HB1.out.size hb)
  have HA2 := Lib.hid (HA1.out.keeps hb); have HC2 := Lib.hid (HC1.out.keeps hb)
  clear hb a0 a1 a2 a3 a4 c0 c1 c2 hA hC
  go_wp2
  go_loop [6, 7, 17] (fun o b j => (o = .int .i64 0 ∧ b = .int .i64 1 ∧ j = .int .i64 0) ∨ (o = .int .i64 1 ∧ b = .int .i64 2 ∧ j = .int .i64 1) ∨ (o = .int .i64 1 ∧ b = .int .i64 4 ∧ j = .int .i64 2) ∨ (o = .int .i64 5 ∧ b = .int .i64 8 ∧ j = .int .i64 3)) (fun _ _ j => 3 - (intOf j).toNat)
  case atStart => exact .inl ⟨rfl, rfl, rfl⟩
  case round =>
    rcases hrel with ⟨rfl, rfl, rfl⟩ | ⟨rfl, rfl, rfl⟩ | ⟨rfl, rfl, rfl⟩ | ⟨rfl, rfl, rfl⟩
    · go_wp2
      exact ⟨.inr (.inl ⟨rfl, rfl, rfl⟩), by simp [intOf]⟩
    · go_wp2
      exact ⟨.inr (.inr (.inl ⟨rfl, rfl, rfl⟩)), by simp [intOf]⟩
    · go_wp2
      exact ⟨.inr (.inr (.inr ⟨rfl, rfl, rfl⟩)), by simp [intOf]⟩
    · go_wp2
      go_ret2
      exact ⟨rfl, HB2.out⟩
set_option maxRecDepth 8000 in
set_option maxHeartbeats 1600000 in
theorem rbroken_ftt (o c v i s l t d : Int) (hR : rightF o c v i s l t d = true) (h1 : i64 o) (h2 : i64 c) (h3 : i64 v) (h4 : i64 i) (h5 : i64 s) (h6 : i64 l) (h7 : i64 t) (h8 : i64 d)
    (e1 : ltcB o c l = false) (e2 : ltcB o v t = true) (e3 : dscrB i s d = true) (w : World) :
    Calls Try.prog 11 #[.agg #[.int .i64 o, .int .i64 c, .int .i64 v, .int .i64 i, .int .i64 s], .agg #[.int .i64 l, .int .i64 t, .int .i64 d]] w fun e w' => e = .returned (.tuple #[.int .i64 1, .int .i64 0]) ∧ Below w.heap.size w w' := by
  have K1 := Lib.hid (fun W => rright_any o c v i s l t d true hR W)
  have H2 := fun W => holds_any o c v i s l t d h1 h2 h3 h4 h5 h6 h7 h8 W
  rw [e1, e2, e3] at H2
  have K2 := Lib.hid H2
  have i0 := ix3_0 false true true; have i1 := ix3_1 false true true; have i2 := ix3_2 false true true
  clear H2 hR e1 e2 e3 h1 h2 h3 h4 h5 h6 h7 h8
  have HB := Lib.hid (below_new2 w (.cells #[.int .i64 o, .int .i64 c, .int .i64 v, .int .i64 i, .int .i64 s] 26) (.cells #[.int .i64 l, .int .i64 t, .int .i64 d] 28))
  have HA := Lib.hid ((Blk.new w 26 [.int .i64 o, .int .i64 c, .int .i64 v, .int .i64 i, .int .i64 s]).alloc (.cells #[.int .i64 l, .int .i64 t, .int .i64 d] 28))
  have HC := Lib.hid (Blk.new2 w (.cells #[.int .i64 o, .int .i64 c, .int .i64 v, .int .i64 i, .int .i64 s] 26) 28 [.int .i64 l, .int .i64 t, .int .i64 d])
  go_enter Try.func11, Try.ntmps11
  have hA := HA.out; have hC := HC.out
  have a0 := hA.cell 0 _ rfl; have a1 := hA.cell 1 _ rfl; have a2 := hA.cell 2 _ rfl; have a3 := hA.cell 3 _ rfl; have a4 := hA.cell 4 _ rfl; have c0 := hC.cell 0 _ rfl; have c1 := hC.cell 1 _ rfl; have c2 := hC.cell 2 _ rfl
  go_wp2_with fail
  refine (K1.out _).mono ?_
  rintro e w1 ⟨rfl, hb⟩
  have HB1 := Lib.hid (below_on HB.out HB.out.size hb)
  have HA1 := Lib.hid (HA.out.keeps hb); have HC1 := Lib.hid (HC.out.keeps hb)
  clear hb a0 a1 a2 a3 a4 c0 c1 c2 hA hC
  have hA := HA1.out; have hC := HC1.out
  have a0 := hA.cell 0 _ rfl; have a1 := hA.cell 1 _ rfl; have a2 := hA.cell 2 _ rfl; have a3 := hA.cell 3 _ rfl; have a4 := hA.cell 4 _ rfl; have c0 := hC.cell 0 _ rfl; have c1 := hC.cell 1 _ rfl; have c2 := hC.cell 2 _ rfl
  go_wp2_with fail
  refine (K2.out _).mono ?_
  rintro e w2 ⟨rfl, hb⟩
  have HB2 := Lib.hid (below_on HB1.out HB1.out.size hb)
  have HA2 := Lib.hid (HA1.out.keeps hb); have HC2 := Lib.hid (HC1.out.keeps hb)
  clear hb a0 a1 a2 a3 a4 c0 c1 c2 hA hC
  go_wp2
  go_loop [6, 7, 17] (fun o b j => (o = .int .i64 0 ∧ b = .int .i64 1 ∧ j = .int .i64 0) ∨ (o = .int .i64 1 ∧ b = .int .i64 2 ∧ j = .int .i64 1) ∨ (o = .int .i64 1 ∧ b = .int .i64 4 ∧ j = .int .i64 2) ∨ (o = .int .i64 1 ∧ b = .int .i64 8 ∧ j = .int .i64 3)) (fun _ _ j => 3 - (intOf j).toNat)
  case atStart => exact .inl ⟨rfl, rfl, rfl⟩
  case round =>
    rcases hrel with ⟨rfl, rfl, rfl⟩ | ⟨rfl, rfl, rfl⟩ | ⟨rfl, rfl, rfl⟩ | ⟨rfl, rfl, rfl⟩
    · go_wp2
      exact ⟨.inr (.inl ⟨rfl, rfl, rfl⟩), by simp [intOf]⟩
    · go_wp2
      exact ⟨.inr (.inr (.inl ⟨rfl, rfl, rfl⟩)), by simp [intOf]⟩
    · go_wp2
      exact ⟨.inr (.inr (.inr ⟨rfl, rfl, rfl⟩)), by simp [intOf]⟩
    · go_wp2
      go_ret2
      exact ⟨rfl, HB2.out⟩
set_option maxRecDepth 8000 in
set_option maxHeartbeats 1600000 in
theorem rbroken_tff (o c v i s l t d : Int) (hR : rightF o c v i s l t d = true) (h1 : i64 o) (h2 : i64 c) (h3 : i64 v) (h4 : i64 i) (h5 : i64 s) (h6 : i64 l) (h7 : i64 t) (h8 : i64 d)
    (e1 : ltcB o c l = true) (e2 : ltcB o v t = false) (e3 : dscrB i s d = false) (w : World) :
    Calls Try.prog 11 #[.agg #[.int .i64 o, .int .i64 c, .int .i64 v, .int .i64 i, .int .i64 s], .agg #[.int .i64 l, .int .i64 t, .int .i64 d]] w fun e w' => e = .returned (.tuple #[.int .i64 6, .int .i64 0]) ∧ Below w.heap.size w w' := by
  have K1 := Lib.hid (fun W => rright_any o c v i s l t d true hR W)
  have H2 := fun W => holds_any o c v i s l t d h1 h2 h3 h4 h5 h6 h7 h8 W
  rw [e1, e2, e3] at H2
  have K2 := Lib.hid H2
  have i0 := ix3_0 true false false; have i1 := ix3_1 true false false; have i2 := ix3_2 true false false
  clear H2 hR e1 e2 e3 h1 h2 h3 h4 h5 h6 h7 h8
  have HB := Lib.hid (below_new2 w (.cells #[.int .i64 o, .int .i64 c, .int .i64 v, .int .i64 i, .int .i64 s] 26) (.cells #[.int .i64 l, .int .i64 t, .int .i64 d] 28))
  have HA := Lib.hid ((Blk.new w 26 [.int .i64 o, .int .i64 c, .int .i64 v, .int .i64 i, .int .i64 s]).alloc (.cells #[.int .i64 l, .int .i64 t, .int .i64 d] 28))
  have HC := Lib.hid (Blk.new2 w (.cells #[.int .i64 o, .int .i64 c, .int .i64 v, .int .i64 i, .int .i64 s] 26) 28 [.int .i64 l, .int .i64 t, .int .i64 d])
  go_enter Try.func11, Try.ntmps11
  have hA := HA.out; have hC := HC.out
  have a0 := hA.cell 0 _ rfl; have a1 := hA.cell 1 _ rfl; have a2 := hA.cell 2 _ rfl; have a3 := hA.cell 3 _ rfl; have a4 := hA.cell 4 _ rfl; have c0 := hC.cell 0 _ rfl; have c1 := hC.cell 1 _ rfl; have c2 := hC.cell 2 _ rfl
  go_wp2_with fail
  refine (K1.out _).mono ?_
  rintro e w1 ⟨rfl, hb⟩
  have HB1 := Lib.hid (below_on HB.out HB.out.size hb)
  have HA1 := Lib.hid (HA.out.keeps hb); have HC1 := Lib.hid (HC.out.keeps hb)
  clear hb a0 a1 a2 a3 a4 c0 c1 c2 hA hC
  have hA := HA1.out; have hC := HC1.out
  have a0 := hA.cell 0 _ rfl; have a1 := hA.cell 1 _ rfl; have a2 := hA.cell 2 _ rfl; have a3 := hA.cell 3 _ rfl; have a4 := hA.cell 4 _ rfl; have c0 := hC.cell 0 _ rfl; have c1 := hC.cell 1 _ rfl; have c2 := hC.cell 2 _ rfl
  go_wp2_with fail
  refine (K2.out _).mono ?_
  rintro e w2 ⟨rfl, hb⟩
  have HB2 := Lib.hid (below_on HB1.out HB1.out.size hb)
  have HA2 := Lib.hid (HA1.out.keeps hb); have HC2 := Lib.hid (HC1.out.keeps hb)
  clear hb a0 a1 a2 a3 a4 c0 c1 c2 hA hC
  go_wp2
  go_loop [6, 7, 17] (fun o b j => (o = .int .i64 0 ∧ b = .int .i64 1 ∧ j = .int .i64 0) ∨ (o = .int .i64 0 ∧ b = .int .i64 2 ∧ j = .int .i64 1) ∨ (o = .int .i64 2 ∧ b = .int .i64 4 ∧ j = .int .i64 2) ∨ (o = .int .i64 6 ∧ b = .int .i64 8 ∧ j = .int .i64 3)) (fun _ _ j => 3 - (intOf j).toNat)
  case atStart => exact .inl ⟨rfl, rfl, rfl⟩
  case round =>
    rcases hrel with ⟨rfl, rfl, rfl⟩ | ⟨rfl, rfl, rfl⟩ | ⟨rfl, rfl, rfl⟩ | ⟨rfl, rfl, rfl⟩
    · go_wp2
      exact ⟨.inr (.inl ⟨rfl, rfl, rfl⟩), by simp [intOf]⟩
    · go_wp2
      exact ⟨.inr (.inr (.inl ⟨rfl, rfl, rfl⟩)), by simp [intOf]⟩
    · go_wp2
      exact ⟨.inr (.inr (.inr ⟨rfl, rfl, rfl⟩)), by simp [intOf]⟩
    · go_wp2
      go_ret2
      exact ⟨rfl, HB2.out⟩
set_option maxRecDepth 8000 in
set_option maxHeartbeats 1600000 in
theorem rbroken_tft (o c v i s l t d : Int) (hR : rightF o c v i s l t d = true) (h1 : i64 o) (h2 : i64 c) (h3 : i64 v) (h4 : i64 i) (h5 : i64 s) (h6 : i64 l) (h7 : i64 t) (h8 : i64 d)
    (e1 : ltcB o c l = true) (e2 : ltcB o v t = false) (e3 : dscrB i s d = true) (w : World) :
    Calls Try.prog 11 #[.agg #[.int .i64 o, .int .i64 c, .int .i64 v, .int .i64 i, .int .i64 s], .agg #[.int .i64 l, .int .i64 t, .int .i64 d]] w fun e w' => e = .returned (.tuple #[.int .i64 2, .int .i64 0]) ∧ Below w.heap.size w w' := by
  have K1 := Lib.hid (fun W => rright_any o c v i s l t d true hR W)
  have H2 := fun W => holds_any o c v i s l t d h1 h2 h3 h4 h5 h6 h7 h8 W
  rw [e1, e2, e3] at H2
  have K2 := Lib.hid H2
  have i0 := ix3_0 true false true; have i1 := ix3_1 true false true; have i2 := ix3_2 true false true
  clear H2 hR e1 e2 e3 h1 h2 h3 h4 h5 h6 h7 h8
  have HB := Lib.hid (below_new2 w (.cells #[.int .i64 o, .int .i64 c, .int .i64 v, .int .i64 i, .int .i64 s] 26) (.cells #[.int .i64 l, .int .i64 t, .int .i64 d] 28))
  have HA := Lib.hid ((Blk.new w 26 [.int .i64 o, .int .i64 c, .int .i64 v, .int .i64 i, .int .i64 s]).alloc (.cells #[.int .i64 l, .int .i64 t, .int .i64 d] 28))
  have HC := Lib.hid (Blk.new2 w (.cells #[.int .i64 o, .int .i64 c, .int .i64 v, .int .i64 i, .int .i64 s] 26) 28 [.int .i64 l, .int .i64 t, .int .i64 d])
  go_enter Try.func11, Try.ntmps11
  have hA := HA.out; have hC := HC.out
  have a0 := hA.cell 0 _ rfl; have a1 := hA.cell 1 _ rfl; have a2 := hA.cell 2 _ rfl; have a3 := hA.cell 3 _ rfl; have a4 := hA.cell 4 _ rfl; have c0 := hC.cell 0 _ rfl; have c1 := hC.cell 1 _ rfl; have c2 := hC.cell 2 _ rfl
  go_wp2_with fail
  refine (K1.out _).mono ?_
  rintro e w1 ⟨rfl, hb⟩
  have HB1 := Lib.hid (below_on HB.out HB.out.size hb)
  have HA1 := Lib.hid (HA.out.keeps hb); have HC1 := Lib.hid (HC.out.keeps hb)
  clear hb a0 a1 a2 a3 a4 c0 c1 c2 hA hC
  have hA := HA1.out; have hC := HC1.out
  have a0 := hA.cell 0 _ rfl; have a1 := hA.cell 1 _ rfl; have a2 := hA.cell 2 _ rfl; have a3 := hA.cell 3 _ rfl; have a4 := hA.cell 4 _ rfl; have c0 := hC.cell 0 _ rfl; have c1 := hC.cell 1 _ rfl; have c2 := hC.cell 2 _ rfl
  go_wp2_with fail
  refine (K2.out _).mono ?_
  rintro e w2 ⟨rfl, hb⟩
  have HB2 := Lib.hid (below_on HB1.out HB1.out.size hb)
  have HA2 := Lib.hid (HA1.out.keeps hb); have HC2 := Lib.hid (HC1.out.keeps hb)
  clear hb a0 a1 a2 a3 a4 c0 c1 c2 hA hC
  go_wp2
  go_loop [6, 7, 17] (fun o b j => (o = .int .i64 0 ∧ b = .int .i64 1 ∧ j = .int .i64 0) ∨ (o = .int .i64 0 ∧ b = .int .i64 2 ∧ j = .int .i64 1) ∨ (o = .int .i64 2 ∧ b = .int .i64 4 ∧ j = .int .i64 2) ∨ (o = .int .i64 2 ∧ b = .int .i64 8 ∧ j = .int .i64 3)) (fun _ _ j => 3 - (intOf j).toNat)
  case atStart => exact .inl ⟨rfl, rfl, rfl⟩
  case round =>
    rcases hrel with ⟨rfl, rfl, rfl⟩ | ⟨rfl, rfl, rfl⟩ | ⟨rfl, rfl, rfl⟩ | ⟨rfl, rfl, rfl⟩
    · go_wp2
      exact ⟨.inr (.inl ⟨rfl, rfl, rfl⟩), by simp [intOf]⟩
    · go_wp2
      exact ⟨.inr (.inr (.inl ⟨rfl, rfl, rfl⟩)), by simp [intOf]⟩
    · go_wp2
      exact ⟨.inr (.inr (.inr ⟨rfl, rfl, rfl⟩)), by simp [intOf]⟩
    · go_wp2
      go_ret2
      exact ⟨rfl, HB2.out⟩
set_option maxRecDepth 8000 in
set_option maxHeartbeats 1600000 in
theorem rbroken_ttf (o c v i s l t d : Int) (hR : rightF o c v i s l t d = true) (h1 : i64 o) (h2 : i64 c) (h3 : i64 v) (h4 : i64 i) (h5 : i64 s) (h6 : i64 l) (h7 : i64 t) (h8 : i64 d)
    (e1 : ltcB o c l = true) (e2 : ltcB o v t = true) (e3 : dscrB i s d = false) (w : World) :
    Calls Try.prog 11 #[.agg #[.int .i64 o, .int .i64 c, .int .i64 v, .int .i64 i, .int .i64 s], .agg #[.int .i64 l, .int .i64 t, .int .i64 d]] w fun e w' => e = .returned (.tuple #[.int .i64 4, .int .i64 0]) ∧ Below w.heap.size w w' := by
  have K1 := Lib.hid (fun W => rright_any o c v i s l t d true hR W)
  have H2 := fun W => holds_any o c v i s l t d h1 h2 h3 h4 h5 h6 h7 h8 W
  rw [e1, e2, e3] at H2
  have K2 := Lib.hid H2
  have i0 := ix3_0 true true false; have i1 := ix3_1 true true false; have i2 := ix3_2 true true false
  clear H2 hR e1 e2 e3 h1 h2 h3 h4 h5 h6 h7 h8
  have HB := Lib.hid (below_new2 w (.cells #[.int .i64 o, .int .i64 c, .int .i64 v, .int .i64 i, .int .i64 s] 26) (.cells #[.int .i64 l, .int .i64 t, .int .i64 d] 28))
  have HA := Lib.hid ((Blk.new w 26 [.int .i64 o, .int .i64 c, .int .i64 v, .int .i64 i, .int .i64 s]).alloc (.cells #[.int .i64 l, .int .i64 t, .int .i64 d] 28))
  have HC := Lib.hid (Blk.new2 w (.cells #[.int .i64 o, .int .i64 c, .int .i64 v, .int .i64 i, .int .i64 s] 26) 28 [.int .i64 l, .int .i64 t, .int .i64 d])
  go_enter Try.func11, Try.ntmps11
  have hA := HA.out; have hC := HC.out
  have a0 := hA.cell 0 _ rfl; have a1 := hA.cell 1 _ rfl; have a2 := hA.cell 2 _ rfl; have a3 := hA.cell 3 _ rfl; have a4 := hA.cell 4 _ rfl; have c0 := hC.cell 0 _ rfl; have c1 := hC.cell 1 _ rfl; have c2 := hC.cell 2 _ rfl
  go_wp2_with fail
  refine (K1.out _).mono ?_
  rintro e w1 ⟨rfl, hb⟩
  have HB1 := Lib.hid (below_on HB.out HB.out.size hb)
  have HA1 := Lib.hid (HA.out.keeps hb); have HC1 := Lib.hid (HC.out.keeps hb)
  clear hb a0 a1 a2 a3 a4 c0 c1 c2 hA hC
  have hA := HA1.out; have hC := HC1.out
  have a0 := hA.cell 0 _ rfl; have a1 := hA.cell 1 _ rfl; have a2 := hA.cell 2 _ rfl; have a3 := hA.cell 3 _ rfl; have a4 := hA.cell 4 _ rfl; have c0 := hC.cell 0 _ rfl; have c1 := hC.cell 1 _ rfl; have c2 := hC.cell 2 _ rfl
  go_wp2_with fail
  refine (K2.out _).mono ?_
  rintro e w2 ⟨rfl, hb⟩
  have HB2 := Lib.hid (below_on HB1.out HB1.out.size hb)
  have HA2 := Lib.hid (HA1.out.keeps hb); have HC2 := Lib.hid (HC1.out.keeps hb)
  clear hb a0 a1 a2 a3 a4 c0 c1 c2 hA hC
  go_wp2
  go_loop [6, 7, 17] (fun o b j => (o = .int .i64 0 ∧ b = .int .i64 1 ∧ j = .int .i64 0) ∨ (o = .int .i64 0 ∧ b = .int .i64 2 ∧ j = .int .i64 1) ∨ (o = .int .i64 0 ∧ b = .int .i64 4 ∧ j = .int .i64 2) ∨ (o = .int .i64 4 ∧ b = .int .i64 8 ∧ j = .int .i64 3)) (fun _ _ j => 3 - (intOf j).toNat)
  case atStart => exact .inl ⟨rfl, rfl, rfl⟩
  case round =>
    rcases hrel with ⟨rfl, rfl, rfl⟩ | ⟨rfl, rfl, rfl⟩ | ⟨rfl, rfl, rfl⟩ | ⟨rfl, rfl, rfl⟩
    · go_wp2
      exact ⟨.inr (.inl ⟨rfl, rfl, rfl⟩), by simp [intOf]⟩
    · go_wp2
      exact ⟨.inr (.inr (.inl ⟨rfl, rfl, rfl⟩)), by simp [intOf]⟩
    · go_wp2
      exact ⟨.inr (.inr (.inr ⟨rfl, rfl, rfl⟩)), by simp [intOf]⟩
    · go_wp2
      go_ret2
      exact ⟨rfl, HB2.out⟩
set_option maxRecDepth 8000 in
set_option maxHeartbeats 1600000 in
theorem rbroken_ttt (o c v i s l t d : Int) (hR : rightF o c v i s l t d = true) (h1 : i64 o) (h2 : i64 c) (h3 : i64 v) (h4 : i64 i) (h5 : i64 s) (h6 : i64 l) (h7 : i64 t) (h8 : i64 d)
    (e1 : ltcB o c l = true) (e2 : ltcB o v t = true) (e3 : dscrB i s d = true) (w : World) :
    Calls Try.prog 11 #[.agg #[.int .i64 o, .int .i64 c, .int .i64 v, .int .i64 i, .int .i64 s], .agg #[.int .i64 l, .int .i64 t, .int .i64 d]] w fun e w' => e = .returned (.tuple #[.int .i64 0, .int .i64 0]) ∧ Below w.heap.size w w' := by
  have K1 := Lib.hid (fun W => rright_any o c v i s l t d true hR W)
  have H2 := fun W => holds_any o c v i s l t d h1 h2 h3 h4 h5 h6 h7 h8 W
  rw [e1, e2, e3] at H2
  have K2 := Lib.hid H2
  have i0 := ix3_0 true true true; have i1 := ix3_1 true true true; have i2 := ix3_2 true true true
  clear H2 hR e1 e2 e3 h1 h2 h3 h4 h5 h6 h7 h8
  have HB := Lib.hid (below_new2 w (.cells #[.int .i64 o, .int .i64 c, .int .i64 v, .int .i64 i, .int .i64 s] 26) (.cells #[.int .i64 l, .int .i64 t, .int .i64 d] 28))
  have HA := Lib.hid ((Blk.new w 26 [.int .i64 o, .int .i64 c, .int .i64 v, .int .i64 i, .int .i64 s]).alloc (.cells #[.int .i64 l, .int .i64 t, .int .i64 d] 28))
  have HC := Lib.hid (Blk.new2 w (.cells #[.int .i64 o, .int .i64 c, .int .i64 v, .int .i64 i, .int .i64 s] 26) 28 [.int .i64 l, .int .i64 t, .int .i64 d])
  go_enter Try.func11, Try.ntmps11
  have hA := HA.out; have hC := HC.out
  have a0 := hA.cell 0 _ rfl; have a1 := hA.cell 1 _ rfl; have a2 := hA.cell 2 _ rfl; have a3 := hA.cell 3 _ rfl; have a4 := hA.cell 4 _ rfl; have c0 := hC.cell 0 _ rfl; have c1 := hC.cell 1 _ rfl; have c2 := hC.cell 2 _ rfl
  go_wp2_with fail
  refine (K1.out _).mono ?_
  rintro e w1 ⟨rfl, hb⟩
  have HB1 := Lib.hid (below_on HB.out HB.out.size hb)
  have HA1 := Lib.hid (HA.out.keeps hb); have HC1 := Lib.hid (HC.out.keeps hb)
  clear hb a0 a1 a2 a3 a4 c0 c1 c2 hA hC
  have hA := HA1.out; have hC := HC1.out
  have a0 := hA.cell 0 _ rfl; have a1 := hA.cell 1 _ rfl; have a2 := hA.cell 2 _ rfl; have a3 := hA.cell 3 _ rfl; have a4 := hA.cell 4 _ rfl; have c0 := hC.cell 0 _ rfl; have c1 := hC.cell 1 _ rfl; have c2 := hC.cell 2 _ rfl
  go_wp2_with fail
  refine (K2.out _).mono ?_
  rintro e w2 ⟨rfl, hb⟩
  have HB2 := Lib.hid (below_on HB1.out HB1.out.size hb)
  have HA2 := Lib.hid (HA1.out.keeps hb); have HC2 := Lib.hid (HC1.out.keeps hb)
  clear hb a0 a1 a2 a3 a4 c0 c1 c2 hA hC
  go_wp2
  go_loop [6, 7, 17] (fun o b j => (o = .int .i64 0 ∧ b = .int .i64 1 ∧ j = .int .i64 0) ∨ (o = .int .i64 0 ∧ b = .int .i64 2 ∧ j = .int .i64 1) ∨ (o = .int .i64 0 ∧ b = .int .i64 4 ∧ j = .int .i64 2) ∨ (o = .int .i64 0 ∧ b = .int .i64 8 ∧ j = .int .i64 3)) (fun _ _ j => 3 - (intOf j).toNat)
  case atStart => exact .inl ⟨rfl, rfl, rfl⟩
  case round =>
    rcases hrel with ⟨rfl, rfl, rfl⟩ | ⟨rfl, rfl, rfl⟩ | ⟨rfl, rfl, rfl⟩ | ⟨rfl, rfl, rfl⟩
    · go_wp2
      exact ⟨.inr (.inl ⟨rfl, rfl, rfl⟩), by simp [intOf]⟩
    · go_wp2
      exact ⟨.inr (.inr (.inl ⟨rfl, rfl, rfl⟩)), by simp [intOf]⟩
    · go_wp2
      exact ⟨.inr (.inr (.inr ⟨rfl, rfl, rfl⟩)), by simp [intOf]⟩
    · go_wp2
      go_ret2
      exact ⟨rfl, HB2.out⟩
theorem rbroken_any (o c v i s l t d : Int) (h1 : i64 o) (h2 : i64 c) (h3 : i64 v) (h4 : i64 i) (h5 : i64 s) (h6 : i64 l) (h7 : i64 t) (h8 : i64 d) (w : World) :
    Calls Try.prog 11 #[.agg #[.int .i64 o, .int .i64 c, .int .i64 v, .int .i64 i, .int .i64 s], .agg #[.int .i64 l, .int .i64 t, .int .i64 d]] w fun e w' => e = .returned (.tuple #[.int .i64 (brS o c v i s l t d).1, .int .i64 (brS o c v i s l t d).2]) ∧ Below w.heap.size w w' := by
  unfold brS
  cases hR : rightF o c v i s l t d with
  | true =>
    rw [if_pos rfl]
    cases e1 : ltcB o c l
    all_goals cases e2 : ltcB o v t
    all_goals cases e3 : dscrB i s d
    · exact rbroken_fff o c v i s l t d hR h1 h2 h3 h4 h5 h6 h7 h8 e1 e2 e3 w
    · exact rbroken_fft o c v i s l t d hR h1 h2 h3 h4 h5 h6 h7 h8 e1 e2 e3 w
    · exact rbroken_ftf o c v i s l t d hR h1 h2 h3 h4 h5 h6 h7 h8 e1 e2 e3 w
    · exact rbroken_ftt o c v i s l t d hR h1 h2 h3 h4 h5 h6 h7 h8 e1 e2 e3 w
    · exact rbroken_tff o c v i s l t d hR h1 h2 h3 h4 h5 h6 h7 h8 e1 e2 e3 w
    · exact rbroken_tft o c v i s l t d hR h1 h2 h3 h4 h5 h6 h7 h8 e1 e2 e3 w
    · exact rbroken_ttf o c v i s l t d hR h1 h2 h3 h4 h5 h6 h7 h8 e1 e2 e3 w
    · exact rbroken_ttt o c v i s l t d hR h1 h2 h3 h4 h5 h6 h7 h8 e1 e2 e3 w
  | false =>
    rw [if_neg (by decide)]
    have K1 := Lib.hid (fun W => rright_any o c v i s l t d false hR W)
    clear hR h1 h2 h3 h4 h5 h6 h7 h8
    have HB := Lib.hid (below_new2 w (.cells #[.int .i64 o, .int .i64 c, .int .i64 v, .int .i64 i, .int .i64 s] 26) (.cells #[.int .i64 l, .int .i64 t, .int .i64 d] 28))
    have HA := Lib.hid ((Blk.new w 26 [.int .i64 o, .int .i64 c, .int .i64 v, .int .i64 i, .int .i64 s]).alloc (.cells #[.int .i64 l, .int .i64 t, .int .i64 d] 28))
    have HC := Lib.hid (Blk.new2 w (.cells #[.int .i64 o, .int .i64 c, .int .i64 v, .int .i64 i, .int .i64 s] 26) 28 [.int .i64 l, .int .i64 t, .int .i64 d])
    go_enter Try.func11, Try.ntmps11
    have hA := HA.out; have hC := HC.out
    have a0 := hA.cell 0 _ rfl; have a1 := hA.cell 1 _ rfl; have a2 := hA.cell 2 _ rfl; have a3 := hA.cell 3 _ rfl; have a4 := hA.cell 4 _ rfl; have c0 := hC.cell 0 _ rfl; have c1 := hC.cell 1 _ rfl; have c2 := hC.cell 2 _ rfl
    go_wp2_with fail
    refine (K1.out _).mono ?_
    rintro e w1 ⟨rfl, hb⟩
    have HB1 := Lib.hid (below_on HB.out HB.out.size hb)
    have HA1 := Lib.hid (HA.out.keeps hb); have HC1 := Lib.hid (HC.out.keeps hb)
    clear hb a0 a1 a2 a3 a4 c0 c1 c2 hA hC
    go_wp2
    go_ret2
    exact ⟨rfl, HB1.out⟩
end Go.Proofs.Ytleeifknicilhaa
