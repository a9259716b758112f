/-
  The end of a round of the law PackTakes: the same number of bytes is left, the same is told of the end.
-/
import Derived.Test.YtoafkjilkfohjaaFloats
set_option linter.unusedVariables false
set_option linter.unusedSimpArgs false
namespace Go.Proofs.Ytoafkjilkfohjaa
open Go.RowKit

/-- The reader at r and the document's at bw have the same bytes, and have failed or not. -/
structure St (w : World) (r bw : Nat) (L : List UInt8) (f : Bool) : Prop where
  rd : RdAt w r L f
  ref : ∃ ao cap, Blk w bw 49 [.slice ao L.length cap, .bool f] ∧ Sl w ao L.length cap (bc L)
theorem St.keeps {w w' : World} {r bw : Nat} {L : List UInt8} {f : Bool} (h : St w r bw L f) (hb : Below w.heap.size w w') : St w' r bw L f := by
  obtain ⟨h1, ao, cap, h2, h3⟩ := h
  exact ⟨h1.keeps hb, ao, cap, h2.keeps hb, h3.keeps hb⟩
abbrev ops41 : Array Oper := #[{ dst := some 128, op := Op.move (Operand.tmp 13), type := 4, pos := "law.go:99", after := #[], guard := none },
  { dst := some 129, op := Op.unOp UnOp.not 4 (Operand.tmp 128), type := 4, pos := "law.go:99", after := #[{ on := 0, ground := Ground.data }], guard := none },
  { dst := some 130, op := Op.move (Operand.tmp 129), type := 4, pos := "law.go:99", after := #[{ on := 1, ground := Ground.data }], guard := none },
  { dst := some 131, op := Op.move (Operand.tmp 8), type := 24, pos := "law.go:99", after := #[{ on := 2, ground := Ground.guard }], guard := some (2, false) },
  { dst := some 132, op := Op.call { callee := Callee.value (Operand.func 13), args := #[Operand.tmp 131], argTypes := #[24] }, type := 3, pos := "law.go:99", after := #[{ on := 3, ground := Ground.data }, { on := 2, ground := Ground.chain }, { on := 2, ground := Ground.guard }], guard := some (2, false) },
  { dst := some 133, op := Op.fieldAddr 49 (Operand.tmp 10) 0, type := 0, pos := "law.go:99", after := #[{ on := 2, ground := Ground.guard }], guard := some (2, false) },
  { dst := some 134, op := Op.load 22 (Operand.tmp 133), type := 22, pos := "law.go:99", after := #[{ on := 5, ground := Ground.data }, { on := 2, ground := Ground.guard }], guard := some (2, false) },
  { dst := some 135, op := Op.call { callee := Callee.builtin Builtin.len, args := #[Operand.tmp 134], argTypes := #[22] }, type := 3, pos := "law.go:99", after := #[{ on := 6, ground := Ground.data }, { on := 2, ground := Ground.guard }], guard := some (2, false) },
  { dst := some 136, op := Op.binOp BinOp.neq 3 (Operand.tmp 132) (Operand.tmp 135) 3, type := 4, pos := "law.go:99", after := #[{ on := 4, ground := Ground.data }, { on := 7, ground := Ground.data }, { on := 2, ground := Ground.guard }], guard := some (2, false) },
  { dst := some 137, op := Op.pick (Operand.tmp 130) (Operand.const (Value.bool true)) (Operand.tmp 136), type := 4, pos := "law.go:99", after := #[{ on := 2, ground := Ground.data }, { on := 8, ground := Ground.data }], guard := none },
  { dst := some 138, op := Op.move (Operand.tmp 137), type := 4, pos := "law.go:99", after := #[{ on := 9, ground := Ground.data }, { on := 4, ground := Ground.chain }], guard := none },
  { dst := some 139, op := Op.move (Operand.tmp 8), type := 24, pos := "law.go:99", after := #[{ on := 10, ground := Ground.guard }], guard := some (10, false) },
  { dst := some 140, op := Op.call { callee := Callee.value (Operand.func 11), args := #[Operand.tmp 139], argTypes := #[24] }, type := 4, pos := "law.go:99", after := #[{ on := 11, ground := Ground.data }, { on := 10, ground := Ground.chain }, { on := 10, ground := Ground.guard }], guard := some (10, false) },
  { dst := some 141, op := Op.fieldAddr 49 (Operand.tmp 10) 1, type := 0, pos := "law.go:99", after := #[{ on := 10, ground := Ground.guard }], guard := some (10, false) },
  { dst := some 142, op := Op.load 4 (Operand.tmp 141), type := 4, pos := "law.go:99", after := #[{ on := 13, ground := Ground.data }, { on := 10, ground := Ground.guard }], guard := some (10, false) },
  { dst := some 143, op := Op.unOp UnOp.not 4 (Operand.tmp 142), type := 4, pos := "law.go:99", after := #[{ on := 14, ground := Ground.data }, { on := 10, ground := Ground.guard }], guard := some (10, false) },
  { dst := some 144, op := Op.move (Operand.tmp 143), type := 4, pos := "law.go:99", after := #[{ on := 15, ground := Ground.data }, { on := 12, ground := Ground.chain }, { on := 10, ground := Ground.guard }], guard := some (10, false) },
  { dst := some 145, op := Op.fieldAddr 49 (Operand.tmp 10) 0, type := 0, pos := "law.go:99", after := #[{ on := 16, ground := Ground.guard }], guard := some (16, true) },
  { dst := some 146, op := Op.load 22 (Operand.tmp 145), type := 22, pos := "law.go:99", after := #[{ on := 17, ground := Ground.data }, { on := 16, ground := Ground.guard }], guard := some (16, true) },
  { dst := some 147, op := Op.call { callee := Callee.builtin Builtin.len, args := #[Operand.tmp 146], argTypes := #[22] }, type := 3, pos := "law.go:99", after := #[{ on := 18, ground := Ground.data }, { on := 16, ground := Ground.guard }], guard := some (16, true) },
  { dst := some 148, op := Op.binOp BinOp.eql 3 (Operand.tmp 147) (Operand.const (Value.int IntKind.i64 0)) 3, type := 4, pos := "law.go:99", after := #[{ on := 19, ground := Ground.data }, { on := 16, ground := Ground.guard }], guard := some (16, true) },
  { dst := some 149, op := Op.pick (Operand.tmp 144) (Operand.tmp 148) (Operand.const (Value.bool false)), type := 4, pos := "law.go:99", after := #[{ on := 16, ground := Ground.data }, { on := 20, ground := Ground.data }, { on := 10, ground := Ground.guard }], guard := some (10, false) },
  { dst := some 150, op := Op.binOp BinOp.neq 4 (Operand.tmp 140) (Operand.tmp 149) 4, type := 4, pos := "law.go:99", after := #[{ on := 12, ground := Ground.data }, { on := 21, ground := Ground.data }, { on := 10, ground := Ground.guard }], guard := some (10, false) },
  { dst := some 151, op := Op.pick (Operand.tmp 138) (Operand.const (Value.bool true)) (Operand.tmp 150), type := 4, pos := "law.go:99", after := #[{ on := 10, ground := Ground.data }, { on := 22, ground := Ground.data }], guard := none }]
set_option maxRecDepth 8000 in
set_option maxHeartbeats 1600000 in
theorem tail_on {fr : Array Value} {Q : Exit → Act → World → Prop} {r bw : Nat} {L : List UInt8} {b : Bool} {ao : Option Addr} {cap : Nat} (w : World) (hst : St w r bw L false) (hblk : Blk w bw 49 [.slice ao L.length cap, .bool false]) (hb1 : ((L.length : Int) == 0) = b) (hb2 : (!false && L.isEmpty) = b) (hsz : fr.size = 153)
    (h13 : fr.getD 13 undef = .bool true) (h8 : fr.getD 8 undef = .pointer (some ⟨r, 0, none⟩)) (h10 : fr.getD 10 undef = .pointer (some ⟨bw, 0, none⟩))
    (hQ : ∀ WW, Below w.heap.size w WW → Q .normal ⟨laid fr [(128, .bool true), (129, .bool false), (130, .bool false), (131, .pointer (some ⟨r, 0, none⟩)), (132, .int .i64 L.length), (133, .pointer (some ⟨bw, 0, none⟩)), (134, .slice ao L.length cap), (135, .int .i64 L.length), (136, .bool false), (137, .bool false), (138, .bool false), (139, .pointer (some ⟨r, 0, none⟩)), (140, .bool b), (141, .pointer (some ⟨bw, 1, none⟩)), (142, .bool false), (143, .bool true), (144, .bool true), (145, .pointer (some ⟨bw, 0, none⟩)), (146, .slice ao L.length cap), (147, .int .i64 L.length), (148, .bool b), (149, .bool b), (150, .bool false), (151, .bool false)], []⟩ WW) : (Code.region 41 ops41 true).wp Try.prog Q ⟨fr, []⟩ w := by
  refine region_mono (by kernel_rfl) (by kernel_rfl) [some 128, some 129, some 130, some 131, some 132, some 133, some 134, some 135, some 136, some 137, some 138, some 139, some 140, some 141, some 142, some 143, some 144, some 145, some 146, some 147, some 148, some 149, some 150, some 151] (by rw [hsz]; kernel_rfl) w.heap.size w (Below.refl w.heap.size w) (Nat.le_refl _) (fun i v WW => match i with | 0 => v = .bool true | 1 => v = .bool false | 2 => v = .bool false | 3 => v = .pointer (some ⟨r, 0, none⟩) | 4 => v = .int .i64 L.length | 5 => v = .pointer (some ⟨bw, 0, none⟩) | 6 => v = .slice ao L.length cap | 7 => v = .int .i64 L.length | 8 => v = .bool false | 9 => v = .bool false | 10 => v = .bool false | 11 => v = .pointer (some ⟨r, 0, none⟩) | 12 => v = .bool b | 13 => v = .pointer (some ⟨bw, 1, none⟩) | 14 => v = .bool false | 15 => v = .bool true | 16 => v = .bool true | 17 => v = .pointer (some ⟨bw, 0, none⟩) | 18 => v = .slice ao L.length cap | 19 => v = .int .i64 L.length | 20 => v = .bool b | 21 => v = .bool b | 22 => v = .bool false | 23 => v = .bool false | _ => True) ?_ ?_ ?_
  · intro i v WW WX h hbx
    rcases i with _ | _ | _ | _ | _ | _ | _ | _ | _ | _ | _ | _ | _ | _ | _ | _ | _ | _ | _ | _ | _ | _ | _ | _ | i
    · exact h
    · exact h
    · exact h
    · exact h
    · exact h
    · exact h
    · exact h
    · exact h
    · exact h
    · exact h
    · exact h
    · exact h
    · exact h
    · exact h
    · exact h
    · exact h
    · exact h
    · exact h
    · exact h
    · exact h
    · exact h
    · exact h
    · exact h
    · exact h
    · trivial
  · intro iI oO V AC WW ho hf hbw K hK
    have hlt : iI < 24 := (Array.getElem?_eq_some_iff.1 ho).1
    rcases iI with _ | _ | _ | _ | _ | _ | _ | _ | _ | _ | _ | _ | _ | _ | _ | _ | _ | _ | _ | _ | _ | _ | _ | _ | iI
    · obtain rfl := Option.some.inj (show some _ = some oO from ho)
      rw [if_pos (by rfl)]
      have q13 : AC.tmps.getD 13 undef = .bool true := (hf.rest 13 (by kernel_rfl)).trans h13
      go_simp
      exact hK _ _ (Below.refl _ _) rfl
    · obtain rfl := Option.some.inj (show some _ = some oO from ho)
      rw [if_pos (by rfl)]
      have q128 : AC.tmps.getD 128 undef = .bool true := ((hf.dep ⟨0, .data⟩ (by simp) rfl).2 128 rfl).trans (hf.dep ⟨0, .data⟩ (by simp) rfl).1
      go_simp
      exact hK _ _ (Below.refl _ _) rfl
    · obtain rfl := Option.some.inj (show some _ = some oO from ho)
      rw [if_pos (by rfl)]
      have q129 : AC.tmps.getD 129 undef = .bool false := ((hf.dep ⟨1, .data⟩ (by simp) rfl).2 129 rfl).trans (hf.dep ⟨1, .data⟩ (by simp) rfl).1
      go_simp
      exact hK _ _ (Below.refl _ _) rfl
    · obtain rfl := Option.some.inj (show some _ = some oO from ho)
      rw [if_pos (wanted_yes (s := 130) rfl rfl rfl (by rw [hf.size, hsz]; decide) (((hf.dep ⟨2, .guard⟩ (by simp) rfl).2 130 rfl).trans (hf.dep ⟨2, .guard⟩ (by simp) rfl).1))]
      have q8 : AC.tmps.getD 8 undef = .pointer (some ⟨r, 0, none⟩) := (hf.rest 8 (by kernel_rfl)).trans h8
      go_simp
      exact hK _ _ (Below.refl _ _) rfl
    · obtain rfl := Option.some.inj (show some _ = some oO from ho)
      rw [if_pos (wanted_yes (s := 130) rfl rfl rfl (by rw [hf.size, hsz]; decide) (((hf.dep ⟨2, .guard⟩ (by simp) rfl).2 130 rfl).trans (hf.dep ⟨2, .guard⟩ (by simp) rfl).1))]
      have q131 : AC.tmps.getD 131 undef = .pointer (some ⟨r, 0, none⟩) := ((hf.dep ⟨3, .data⟩ (by simp) rfl).2 131 rfl).trans (hf.dep ⟨3, .data⟩ (by simp) rfl).1
      go_simp
      refine (left_any WW r L false (hst.rd.keeps hbw)).mono ?_
      rintro e w6 ⟨rfl, rfl⟩
      exact hK _ _ (Below.refl _ _) rfl
    · obtain rfl := Option.some.inj (show some _ = some oO from ho)
      rw [if_pos (wanted_yes (s := 130) rfl rfl rfl (by rw [hf.size, hsz]; decide) (((hf.dep ⟨2, .guard⟩ (by simp) rfl).2 130 rfl).trans (hf.dep ⟨2, .guard⟩ (by simp) rfl).1))]
      have q10 : AC.tmps.getD 10 undef = .pointer (some ⟨bw, 0, none⟩) := (hf.rest 10 (by kernel_rfl)).trans h10
      go_simp
      exact hK _ _ (Below.refl _ _) rfl
    · obtain rfl := Option.some.inj (show some _ = some oO from ho)
      rw [if_pos (wanted_yes (s := 130) rfl rfl rfl (by rw [hf.size, hsz]; decide) (((hf.dep ⟨2, .guard⟩ (by simp) rfl).2 130 rfl).trans (hf.dep ⟨2, .guard⟩ (by simp) rfl).1))]
      have q133 : AC.tmps.getD 133 undef = .pointer (some ⟨bw, 0, none⟩) := ((hf.dep ⟨5, .data⟩ (by simp) rfl).2 133 rfl).trans (hf.dep ⟨5, .data⟩ (by simp) rfl).1
      have z0 := (hblk.keeps hbw).cell 0 _ rfl
      go_simp
      exact hK _ _ (Below.refl _ _) rfl
    · obtain rfl := Option.some.inj (show some _ = some oO from ho)
      rw [if_pos (wanted_yes (s := 130) rfl rfl rfl (by rw [hf.size, hsz]; decide) (((hf.dep ⟨2, .guard⟩ (by simp) rfl).2 130 rfl).trans (hf.dep ⟨2, .guard⟩ (by simp) rfl).1))]
      have q134 : AC.tmps.getD 134 undef = .slice ao L.length cap := ((hf.dep ⟨6, .data⟩ (by simp) rfl).2 134 rfl).trans (hf.dep ⟨6, .data⟩ (by simp) rfl).1
      go_simp
      exact hK _ _ (Below.refl _ _) rfl
    · obtain rfl := Option.some.inj (show some _ = some oO from ho)
      rw [if_pos (wanted_yes (s := 130) rfl rfl rfl (by rw [hf.size, hsz]; decide) (((hf.dep ⟨2, .guard⟩ (by simp) rfl).2 130 rfl).trans (hf.dep ⟨2, .guard⟩ (by simp) rfl).1))]
      have q132 : AC.tmps.getD 132 undef = .int .i64 L.length := ((hf.dep ⟨4, .data⟩ (by simp) rfl).2 132 rfl).trans (hf.dep ⟨4, .data⟩ (by simp) rfl).1
      have q135 : AC.tmps.getD 135 undef = .int .i64 L.length := ((hf.dep ⟨7, .data⟩ (by simp) rfl).2 135 rfl).trans (hf.dep ⟨7, .data⟩ (by simp) rfl).1
      go_simp
      exact hK _ _ (Below.refl _ _) rfl
    · obtain rfl := Option.some.inj (show some _ = some oO from ho)
      rw [if_pos (by rfl)]
      have q130 : AC.tmps.getD 130 undef = .bool false := ((hf.dep ⟨2, .data⟩ (by simp) rfl).2 130 rfl).trans (hf.dep ⟨2, .data⟩ (by simp) rfl).1
      have q136 : AC.tmps.getD 136 undef = .bool false := ((hf.dep ⟨8, .data⟩ (by simp) rfl).2 136 rfl).trans (hf.dep ⟨8, .data⟩ (by simp) rfl).1
      go_simp
      exact hK _ _ (Below.refl _ _) rfl
    · obtain rfl := Option.some.inj (show some _ = some oO from ho)
      rw [if_pos (by rfl)]
      have q137 : AC.tmps.getD 137 undef = .bool false := ((hf.dep ⟨9, .data⟩ (by simp) rfl).2 137 rfl).trans (hf.dep ⟨9, .data⟩ (by simp) rfl).1
      go_simp
      exact hK _ _ (Below.refl _ _) rfl
    · obtain rfl := Option.some.inj (show some _ = some oO from ho)
      rw [if_pos (wanted_yes (s := 138) rfl rfl rfl (by rw [hf.size, hsz]; decide) (((hf.dep ⟨10, .guard⟩ (by simp) rfl).2 138 rfl).trans (hf.dep ⟨10, .guard⟩ (by simp) rfl).1))]
      have q8 : AC.tmps.getD 8 undef = .pointer (some ⟨r, 0, none⟩) := (hf.rest 8 (by kernel_rfl)).trans h8
      go_simp
      exact hK _ _ (Below.refl _ _) rfl
    · obtain rfl := Option.some.inj (show some _ = some oO from ho)
      rw [if_pos (wanted_yes (s := 138) rfl rfl rfl (by rw [hf.size, hsz]; decide) (((hf.dep ⟨10, .guard⟩ (by simp) rfl).2 138 rfl).trans (hf.dep ⟨10, .guard⟩ (by simp) rfl).1))]
      have q139 : AC.tmps.getD 139 undef = .pointer (some ⟨r, 0, none⟩) := ((hf.dep ⟨11, .data⟩ (by simp) rfl).2 139 rfl).trans (hf.dep ⟨11, .data⟩ (by simp) rfl).1
      go_simp
      refine (ended_any WW r L false (hst.rd.keeps hbw)).mono ?_
      rintro e w6 ⟨rfl, rfl⟩
      rw [hb2]
      exact hK _ _ (Below.refl _ _) rfl
    · obtain rfl := Option.some.inj (show some _ = some oO from ho)
      rw [if_pos (wanted_yes (s := 138) rfl rfl rfl (by rw [hf.size, hsz]; decide) (((hf.dep ⟨10, .guard⟩ (by simp) rfl).2 138 rfl).trans (hf.dep ⟨10, .guard⟩ (by simp) rfl).1))]
      have q10 : AC.tmps.getD 10 undef = .pointer (some ⟨bw, 0, none⟩) := (hf.rest 10 (by kernel_rfl)).trans h10
      go_simp
      exact hK _ _ (Below.refl _ _) rfl
    · obtain rfl := Option.some.inj (show some _ = some oO from ho)
      rw [if_pos (wanted_yes (s := 138) rfl rfl rfl (by rw [hf.size, hsz]; decide) (((hf.dep ⟨10, .guard⟩ (by simp) rfl).2 138 rfl).trans (hf.dep ⟨10, .guard⟩ (by simp) rfl).1))]
      have q141 : AC.tmps.getD 141 undef = .pointer (some ⟨bw, 1, none⟩) := ((hf.dep ⟨13, .data⟩ (by simp) rfl).2 141 rfl).trans (hf.dep ⟨13, .data⟩ (by simp) rfl).1
      have z1 := (hblk.keeps hbw).cell 1 _ rfl
      go_simp
      exact hK _ _ (Below.refl _ _) rfl
    · obtain rfl := Option.some.inj (show some _ = some oO from ho)
      rw [if_pos (wanted_yes (s := 138) rfl rfl rfl (by rw [hf.size, hsz]; decide) (((hf.dep ⟨10, .guard⟩ (by simp) rfl).2 138 rfl).trans (hf.dep ⟨10, .guard⟩ (by simp) rfl).1))]
      have q142 : AC.tmps.getD 142 undef = .bool false := ((hf.dep ⟨14, .data⟩ (by simp) rfl).2 142 rfl).trans (hf.dep ⟨14, .data⟩ (by simp) rfl).1
      go_simp
      exact hK _ _ (Below.refl _ _) rfl
    · obtain rfl := Option.some.inj (show some _ = some oO from ho)
      rw [if_pos (wanted_yes (s := 138) rfl rfl rfl (by rw [hf.size, hsz]; decide) (((hf.dep ⟨10, .guard⟩ (by simp) rfl).2 138 rfl).trans (hf.dep ⟨10, .guard⟩ (by simp) rfl).1))]
      have q143 : AC.tmps.getD 143 undef = .bool true := ((hf.dep ⟨15, .data⟩ (by simp) rfl).2 143 rfl).trans (hf.dep ⟨15, .data⟩ (by simp) rfl).1
      go_simp
      exact hK _ _ (Below.refl _ _) rfl
    · obtain rfl := Option.some.inj (show some _ = some oO from ho)
      rw [if_pos (wanted_yes (s := 144) rfl rfl rfl (by rw [hf.size, hsz]; decide) (((hf.dep ⟨16, .guard⟩ (by simp) rfl).2 144 rfl).trans (hf.dep ⟨16, .guard⟩ (by simp) rfl).1))]
      have q10 : AC.tmps.getD 10 undef = .pointer (some ⟨bw, 0, none⟩) := (hf.rest 10 (by kernel_rfl)).trans h10
      go_simp
      exact hK _ _ (Below.refl _ _) rfl
    · obtain rfl := Option.some.inj (show some _ = some oO from ho)
      rw [if_pos (wanted_yes (s := 144) rfl rfl rfl (by rw [hf.size, hsz]; decide) (((hf.dep ⟨16, .guard⟩ (by simp) rfl).2 144 rfl).trans (hf.dep ⟨16, .guard⟩ (by simp) rfl).1))]
      have q145 : AC.tmps.getD 145 undef = .pointer (some ⟨bw, 0, none⟩) := ((hf.dep ⟨17, .data⟩ (by simp) rfl).2 145 rfl).trans (hf.dep ⟨17, .data⟩ (by simp) rfl).1
      have z0 := (hblk.keeps hbw).cell 0 _ rfl
      go_simp
      exact hK _ _ (Below.refl _ _) rfl
    · obtain rfl := Option.some.inj (show some _ = some oO from ho)
      rw [if_pos (wanted_yes (s := 144) rfl rfl rfl (by rw [hf.size, hsz]; decide) (((hf.dep ⟨16, .guard⟩ (by simp) rfl).2 144 rfl).trans (hf.dep ⟨16, .guard⟩ (by simp) rfl).1))]
      have q146 : AC.tmps.getD 146 undef = .slice ao L.length cap := ((hf.dep ⟨18, .data⟩ (by simp) rfl).2 146 rfl).trans (hf.dep ⟨18, .data⟩ (by simp) rfl).1
      go_simp
      exact hK _ _ (Below.refl _ _) rfl
    · obtain rfl := Option.some.inj (show some _ = some oO from ho)
      rw [if_pos (wanted_yes (s := 144) rfl rfl rfl (by rw [hf.size, hsz]; decide) (((hf.dep ⟨16, .guard⟩ (by simp) rfl).2 144 rfl).trans (hf.dep ⟨16, .guard⟩ (by simp) rfl).1))]
      have q147 : AC.tmps.getD 147 undef = .int .i64 L.length := ((hf.dep ⟨19, .data⟩ (by simp) rfl).2 147 rfl).trans (hf.dep ⟨19, .data⟩ (by simp) rfl).1
      go_simp
      exact hK _ _ (Below.refl _ _) rfl
    · obtain rfl := Option.some.inj (show some _ = some oO from ho)
      rw [if_pos (wanted_yes (s := 138) rfl rfl rfl (by rw [hf.size, hsz]; decide) (((hf.dep ⟨10, .guard⟩ (by simp) rfl).2 138 rfl).trans (hf.dep ⟨10, .guard⟩ (by simp) rfl).1))]
      have q144 : AC.tmps.getD 144 undef = .bool true := ((hf.dep ⟨16, .data⟩ (by simp) rfl).2 144 rfl).trans (hf.dep ⟨16, .data⟩ (by simp) rfl).1
      have q148 : AC.tmps.getD 148 undef = .bool b := ((hf.dep ⟨20, .data⟩ (by simp) rfl).2 148 rfl).trans (hf.dep ⟨20, .data⟩ (by simp) rfl).1
      go_simp
      exact hK _ _ (Below.refl _ _) rfl
    · obtain rfl := Option.some.inj (show some _ = some oO from ho)
      rw [if_pos (wanted_yes (s := 138) rfl rfl rfl (by rw [hf.size, hsz]; decide) (((hf.dep ⟨10, .guard⟩ (by simp) rfl).2 138 rfl).trans (hf.dep ⟨10, .guard⟩ (by simp) rfl).1))]
      have q140 : AC.tmps.getD 140 undef = .bool b := ((hf.dep ⟨12, .data⟩ (by simp) rfl).2 140 rfl).trans (hf.dep ⟨12, .data⟩ (by simp) rfl).1
      have q149 : AC.tmps.getD 149 undef = .bool b := ((hf.dep ⟨21, .data⟩ (by simp) rfl).2 149 rfl).trans (hf.dep ⟨21, .data⟩ (by simp) rfl).1
      go_simp
      exact hK _ _ (Below.refl _ _) rfl
    · obtain rfl := Option.some.inj (show some _ = some oO from ho)
      rw [if_pos (by rfl)]
      have q138 : AC.tmps.getD 138 undef = .bool false := ((hf.dep ⟨10, .data⟩ (by simp) rfl).2 138 rfl).trans (hf.dep ⟨10, .data⟩ (by simp) rfl).1
      have q150 : AC.tmps.getD 150 undef = .bool false := ((hf.dep ⟨22, .data⟩ (by simp) rfl).2 150 rfl).trans (hf.dep ⟨22, .data⟩ (by simp) rfl).1
      go_simp
      exact hK _ _ (Below.refl _ _) rfl
    · omega
  · intro V WW hall hbw hBW
    have vv0 : V 0 = .bool true := hall 0 (by decide)
    have vv1 : V 1 = .bool false := hall 1 (by decide)
    have vv2 : V 2 = .bool false := hall 2 (by decide)
    have vv3 : V 3 = .pointer (some ⟨r, 0, none⟩) := hall 3 (by decide)
    have vv4 : V 4 = .int .i64 L.length := hall 4 (by decide)
    have vv5 : V 5 = .pointer (some ⟨bw, 0, none⟩) := hall 5 (by decide)
    have vv6 : V 6 = .slice ao L.length cap := hall 6 (by decide)
    have vv7 : V 7 = .int .i64 L.length := hall 7 (by decide)
    have vv8 : V 8 = .bool false := hall 8 (by decide)
    have vv9 : V 9 = .bool false := hall 9 (by decide)
    have vv10 : V 10 = .bool false := hall 10 (by decide)
    have vv11 : V 11 = .pointer (some ⟨r, 0, none⟩) := hall 11 (by decide)
    have vv12 : V 12 = .bool b := hall 12 (by decide)
    have vv13 : V 13 = .pointer (some ⟨bw, 1, none⟩) := hall 13 (by decide)
    have vv14 : V 14 = .bool false := hall 14 (by decide)
    have vv15 : V 15 = .bool true := hall 15 (by decide)
    have vv16 : V 16 = .bool true := hall 16 (by decide)
    have vv17 : V 17 = .pointer (some ⟨bw, 0, none⟩) := hall 17 (by decide)
    have vv18 : V 18 = .slice ao L.length cap := hall 18 (by decide)
    have vv19 : V 19 = .int .i64 L.length := hall 19 (by decide)
    have vv20 : V 20 = .bool b := hall 20 (by decide)
    have vv21 : V 21 = .bool b := hall 21 (by decide)
    have vv22 : V 22 = .bool false := hall 22 (by decide)
    have vv23 : V 23 = .bool false := hall 23 (by decide)
    clear hall
    simp only [pairsOf, Nat.zero_add, Nat.reduceAdd, vv0, vv1, vv2, vv3, vv4, vv5, vv6, vv7, vv8, vv9, vv10, vv11, vv12, vv13, vv14, vv15, vv16, vv17, vv18, vv19, vv20, vv21, vv22, vv23]
    exact hQ WW hbw
set_option maxRecDepth 8000 in
set_option maxHeartbeats 1600000 in
theorem tail_off {fr : Array Value} {Q : Exit → Act → World → Prop} {r bw : Nat} {L : List UInt8} {ao : Option Addr} {cap : Nat} (w : World) (hst : St w r bw L true) (hblk : Blk w bw 49 [.slice ao L.length cap, .bool true])  (hsz : fr.size = 153)
    (h13 : fr.getD 13 undef = .bool true) (h8 : fr.getD 8 undef = .pointer (some ⟨r, 0, none⟩)) (h10 : fr.getD 10 undef = .pointer (some ⟨bw, 0, none⟩))
    (hQ : ∀ WW, Below w.heap.size w WW → Q .normal ⟨laid fr [(128, .bool true), (129, .bool false), (130, .bool false), (131, .pointer (some ⟨r, 0, none⟩)), (132, .int .i64 L.length), (133, .pointer (some ⟨bw, 0, none⟩)), (134, .slice ao L.length cap), (135, .int .i64 L.length), (136, .bool false), (137, .bool false), (138, .bool false), (139, .pointer (some ⟨r, 0, none⟩)), (140, .bool false), (141, .pointer (some ⟨bw, 1, none⟩)), (142, .bool true), (143, .bool false), (144, .bool false), (145, undef), (146, undef), (147, undef), (148, undef), (149, .bool false), (150, .bool false), (151, .bool false)], []⟩ WW) : (Code.region 41 ops41 true).wp Try.prog Q ⟨fr, []⟩ w := by
  refine region_mono (by kernel_rfl) (by kernel_rfl) [some 128, some 129, some 130, some 131, some 132, some 133, some 134, some 135, some 136, some 137, some 138, some 139, some 140, some 141, some 142, some 143, some 144, some 145, some 146, some 147, some 148, some 149, some 150, some 151] (by rw [hsz]; kernel_rfl) w.heap.size w (Below.refl w.heap.size w) (Nat.le_refl _) (fun i v WW => match i with | 0 => v = .bool true | 1 => v = .bool false | 2 => v = .bool false | 3 => v = .pointer (some ⟨r, 0, none⟩) | 4 => v = .int .i64 L.length | 5 => v = .pointer (some ⟨bw, 0, none⟩) | 6 => v = .slice ao L.length cap | 7 => v = .int .i64 L.length | 8 => v = .bool false | 9 => v = .bool false | 10 => v = .bool false | 11 => v = .pointer (some ⟨r, 0, none⟩) | 12 => v = .bool false | 13 => v = .pointer (some ⟨bw, 1, none⟩) | 14 => v = .bool true | 15 => v = .bool false | 16 => v = .bool false | 17 => v = undef | 18 => v = undef | 19 => v = undef | 20 => v = undef | 21 => v = .bool false | 22 => v = .bool false | 23 => v = .bool false | _ => True) ?_ ?_ ?_
  · intro i v WW WX h hbx
    rcases i with _ | _ | _ | _ | _ | _ | _ | _ | _ | _ | _ | _ | _ | _ | _ | _ | _ | _ | _ | _ | _ | _ | _ | _ | i
    · exact h
    · exact h
    · exact h
    · exact h
    · exact h
    · exact h
    · exact h
    · exact h
    · exact h
    · exact h
    · exact h
    · exact h
    · exact h
    · exact h
    · exact h
    · exact h
    · exact h
    · exact h
    · exact h
    · exact h
    · exact h
    · exact h
    · exact h
    · exact h
    · trivial
  · intro iI oO V AC WW ho hf hbw K hK
    have hlt : iI < 24 := (Array.getElem?_eq_some_iff.1 ho).1
    rcases iI with _ | _ | _ | _ | _ | _ | _ | _ | _ | _ | _ | _ | _ | _ | _ | _ | _ | _ | _ | _ | _ | _ | _ | _ | iI
    · obtain rfl := Option.some.inj (show some _ = some oO from ho)
      rw [if_pos (by rfl)]
      have q13 : AC.tmps.getD 13 undef = .bool true := (hf.rest 13 (by kernel_rfl)).trans h13
      go_simp
      exact hK _ _ (Below.refl _ _) rfl
    · obtain rfl := Option.some.inj (show some _ = some oO from ho)
      rw [if_pos (by rfl)]
      have q128 : AC.tmps.getD 128 undef = .bool true := ((hf.dep ⟨0, .data⟩ (by simp) rfl).2 128 rfl).trans (hf.dep ⟨0, .data⟩ (by simp) rfl).1
      go_simp
      exact hK _ _ (Below.refl _ _) rfl
    · obtain rfl := Option.some.inj (show some _ = some oO from ho)
      rw [if_pos (by rfl)]
      have q129 : AC.tmps.getD 129 undef = .bool false := ((hf.dep ⟨1, .data⟩ (by simp) rfl).2 129 rfl).trans (hf.dep ⟨1, .data⟩ (by simp) rfl).1
      go_simp
      exact hK _ _ (Below.refl _ _) rfl
    · obtain rfl := Option.some.inj (show some _ = some oO from ho)
      rw [if_pos (wanted_yes (s := 130) rfl rfl rfl (by rw [hf.size, hsz]; decide) (((hf.dep ⟨2, .guard⟩ (by simp) rfl).2 130 rfl).trans (hf.dep ⟨2, .guard⟩ (by simp) rfl).1))]
      have q8 : AC.tmps.getD 8 undef = .pointer (some ⟨r, 0, none⟩) := (hf.rest 8 (by kernel_rfl)).trans h8
      go_simp
      exact hK _ _ (Below.refl _ _) rfl
    · obtain rfl := Option.some.inj (show some _ = some oO from ho)
      rw [if_pos (wanted_yes (s := 130) rfl rfl rfl (by rw [hf.size, hsz]; decide) (((hf.dep ⟨2, .guard⟩ (by simp) rfl).2 130 rfl).trans (hf.dep ⟨2, .guard⟩ (by simp) rfl).1))]
      have q131 : AC.tmps.getD 131 undef = .pointer (some ⟨r, 0, none⟩) := ((hf.dep ⟨3, .data⟩ (by simp) rfl).2 131 rfl).trans (hf.dep ⟨3, .data⟩ (by simp) rfl).1
      go_simp
      refine (left_any WW r L true (hst.rd.keeps hbw)).mono ?_
      rintro e w6 ⟨rfl, rfl⟩
      exact hK _ _ (Below.refl _ _) rfl
    · obtain rfl := Option.some.inj (show some _ = some oO from ho)
      rw [if_pos (wanted_yes (s := 130) rfl rfl rfl (by rw [hf.size, hsz]; decide) (((hf.dep ⟨2, .guard⟩ (by simp) rfl).2 130 rfl).trans (hf.dep ⟨2, .guard⟩ (by simp) rfl).1))]
      have q10 : AC.tmps.getD 10 undef = .pointer (some ⟨bw, 0, none⟩) := (hf.rest 10 (by kernel_rfl)).trans h10
      go_simp
      exact hK _ _ (Below.refl _ _) rfl
    · obtain rfl := Option.some.inj (show some _ = some oO from ho)
      rw [if_pos (wanted_yes (s := 130) rfl rfl rfl (by rw [hf.size, hsz]; decide) (((hf.dep ⟨2, .guard⟩ (by simp) rfl).2 130 rfl).trans (hf.dep ⟨2, .guard⟩ (by simp) rfl).1))]
      have q133 : AC.tmps.getD 133 undef = .pointer (some ⟨bw, 0, none⟩) := ((hf.dep ⟨5, .data⟩ (by simp) rfl).2 133 rfl).trans (hf.dep ⟨5, .data⟩ (by simp) rfl).1
      have z0 := (hblk.keeps hbw).cell 0 _ rfl
      go_simp
      exact hK _ _ (Below.refl _ _) rfl
    · obtain rfl := Option.some.inj (show some _ = some oO from ho)
      rw [if_pos (wanted_yes (s := 130) rfl rfl rfl (by rw [hf.size, hsz]; decide) (((hf.dep ⟨2, .guard⟩ (by simp) rfl).2 130 rfl).trans (hf.dep ⟨2, .guard⟩ (by simp) rfl).1))]
      have q134 : AC.tmps.getD 134 undef = .slice ao L.length cap := ((hf.dep ⟨6, .data⟩ (by simp) rfl).2 134 rfl).trans (hf.dep ⟨6, .data⟩ (by simp) rfl).1
      go_simp
      exact hK _ _ (Below.refl _ _) rfl
    · obtain rfl := Option.some.inj (show some _ = some oO from ho)
      rw [if_pos (wanted_yes (s := 130) rfl rfl rfl (by rw [hf.size, hsz]; decide) (((hf.dep ⟨2, .guard⟩ (by simp) rfl).2 130 rfl).trans (hf.dep ⟨2, .guard⟩ (by simp) rfl).1))]
      have q132 : AC.tmps.getD 132 undef = .int .i64 L.length := ((hf.dep ⟨4, .data⟩ (by simp) rfl).2 132 rfl).trans (hf.dep ⟨4, .data⟩ (by simp) rfl).1
      have q135 : AC.tmps.getD 135 undef = .int .i64 L.length := ((hf.dep ⟨7, .data⟩ (by simp) rfl).2 135 rfl).trans (hf.dep ⟨7, .data⟩ (by simp) rfl).1
      go_simp
      exact hK _ _ (Below.refl _ _) rfl
    · obtain rfl := Option.some.inj (show some _ = some oO from ho)
      rw [if_pos (by rfl)]
      have q130 : AC.tmps.getD 130 undef = .bool false := ((hf.dep ⟨2, .data⟩ (by simp) rfl).2 130 rfl).trans (hf.dep ⟨2, .data⟩ (by simp) rfl).1
      have q136 : AC.tmps.getD 136 undef = .bool false := ((hf.dep ⟨8, .data⟩ (by simp) rfl).2 136 rfl).trans (hf.dep ⟨8, .data⟩ (by simp) rfl).1
      go_simp
      exact hK _ _ (Below.refl _ _) rfl
    · obtain rfl := Option.some.inj (show some _ = some oO from ho)
      rw [if_pos (by rfl)]
      have q137 : AC.tmps.getD 137 undef = .bool false := ((hf.dep ⟨9, .data⟩ (by simp) rfl).2 137 rfl).trans (hf.dep ⟨9, .data⟩ (by simp) rfl).1
      go_simp
      exact hK _ _ (Below.refl _ _) rfl
    · obtain rfl := Option.some.inj (show some _ = some oO from ho)
      rw [if_pos (wanted_yes (s := 138) rfl rfl rfl (by rw [hf.size, hsz]; decide) (((hf.dep ⟨10, .guard⟩ (by simp) rfl).2 138 rfl).trans (hf.dep ⟨10, .guard⟩ (by simp) rfl).1))]
      have q8 : AC.tmps.getD 8 undef = .pointer (some ⟨r, 0, none⟩) := (hf.rest 8 (by kernel_rfl)).trans h8
      go_simp
      exact hK _ _ (Below.refl _ _) rfl
    · obtain rfl := Option.some.inj (show some _ = some oO from ho)
      rw [if_pos (wanted_yes (s := 138) rfl rfl rfl (by rw [hf.size, hsz]; decide) (((hf.dep ⟨10, .guard⟩ (by simp) rfl).2 138 rfl).trans (hf.dep ⟨10, .guard⟩ (by simp) rfl).1))]
      have q139 : AC.tmps.getD 139 undef = .pointer (some ⟨r, 0, none⟩) := ((hf.dep ⟨11, .data⟩ (by simp) rfl).2 139 rfl).trans (hf.dep ⟨11, .data⟩ (by simp) rfl).1
      go_simp
      refine (ended_any WW r L true (hst.rd.keeps hbw)).mono ?_
      rintro e w6 ⟨rfl, rfl⟩
      exact hK _ _ (Below.refl _ _) rfl
    · obtain rfl := Option.some.inj (show some _ = some oO from ho)
      rw [if_pos (wanted_yes (s := 138) rfl rfl rfl (by rw [hf.size, hsz]; decide) (((hf.dep ⟨10, .guard⟩ (by simp) rfl).2 138 rfl).trans (hf.dep ⟨10, .guard⟩ (by simp) rfl).1))]
      have q10 : AC.tmps.getD 10 undef = .pointer (some ⟨bw, 0, none⟩) := (hf.rest 10 (by kernel_rfl)).trans h10
      go_simp
      exact hK _ _ (Below.refl _ _) rfl
    · obtain rfl := Option.some.inj (show some _ = some oO from ho)
      rw [if_pos (wanted_yes (s := 138) rfl rfl rfl (by rw [hf.size, hsz]; decide) (((hf.dep ⟨10, .guard⟩ (by simp) rfl).2 138 rfl).trans (hf.dep ⟨10, .guard⟩ (by simp) rfl).1))]
      have q141 : AC.tmps.getD 141 undef = .pointer (some ⟨bw, 1, none⟩) := ((hf.dep ⟨13, .data⟩ (by simp) rfl).2 141 rfl).trans (hf.dep ⟨13, .data⟩ (by simp) rfl).1
      have z1 := (hblk.keeps hbw).cell 1 _ rfl
      go_simp
      exact hK _ _ (Below.refl _ _) rfl
    · obtain rfl := Option.some.inj (show some _ = some oO from ho)
      rw [if_pos (wanted_yes (s := 138) rfl rfl rfl (by rw [hf.size, hsz]; decide) (((hf.dep ⟨10, .guard⟩ (by simp) rfl).2 138 rfl).trans (hf.dep ⟨10, .guard⟩ (by simp) rfl).1))]
      have q142 : AC.tmps.getD 142 undef = .bool true := ((hf.dep ⟨14, .data⟩ (by simp) rfl).2 142 rfl).trans (hf.dep ⟨14, .data⟩ (by simp) rfl).1
      go_simp
      exact hK _ _ (Below.refl _ _) rfl
    · obtain rfl := Option.some.inj (show some _ = some oO from ho)
      rw [if_pos (wanted_yes (s := 138) rfl rfl rfl (by rw [hf.size, hsz]; decide) (((hf.dep ⟨10, .guard⟩ (by simp) rfl).2 138 rfl).trans (hf.dep ⟨10, .guard⟩ (by simp) rfl).1))]
      have q143 : AC.tmps.getD 143 undef = .bool false := ((hf.dep ⟨15, .data⟩ (by simp) rfl).2 143 rfl).trans (hf.dep ⟨15, .data⟩ (by simp) rfl).1
      go_simp
      exact hK _ _ (Below.refl _ _) rfl
    · obtain rfl := Option.some.inj (show some _ = some oO from ho)
      rw [if_neg (wanted_no (s := 144) rfl rfl rfl (by rw [hf.size, hsz]; decide) (((hf.dep ⟨16, .guard⟩ (by simp) rfl).2 144 rfl).trans (hf.dep ⟨16, .guard⟩ (by simp) rfl).1) rfl)]
      exact hK _ _ (Below.refl _ _) rfl
    · obtain rfl := Option.some.inj (show some _ = some oO from ho)
      rw [if_neg (wanted_no (s := 144) rfl rfl rfl (by rw [hf.size, hsz]; decide) (((hf.dep ⟨16, .guard⟩ (by simp) rfl).2 144 rfl).trans (hf.dep ⟨16, .guard⟩ (by simp) rfl).1) rfl)]
      exact hK _ _ (Below.refl _ _) rfl
    · obtain rfl := Option.some.inj (show some _ = some oO from ho)
      rw [if_neg (wanted_no (s := 144) rfl rfl rfl (by rw [hf.size, hsz]; decide) (((hf.dep ⟨16, .guard⟩ (by simp) rfl).2 144 rfl).trans (hf.dep ⟨16, .guard⟩ (by simp) rfl).1) rfl)]
      exact hK _ _ (Below.refl _ _) rfl
    · obtain rfl := Option.some.inj (show some _ = some oO from ho)
      rw [if_neg (wanted_no (s := 144) rfl rfl rfl (by rw [hf.size, hsz]; decide) (((hf.dep ⟨16, .guard⟩ (by simp) rfl).2 144 rfl).trans (hf.dep ⟨16, .guard⟩ (by simp) rfl).1) rfl)]
      exact hK _ _ (Below.refl _ _) rfl
    · obtain rfl := Option.some.inj (show some _ = some oO from ho)
      rw [if_pos (wanted_yes (s := 138) rfl rfl rfl (by rw [hf.size, hsz]; decide) (((hf.dep ⟨10, .guard⟩ (by simp) rfl).2 138 rfl).trans (hf.dep ⟨10, .guard⟩ (by simp) rfl).1))]
      have q144 : AC.tmps.getD 144 undef = .bool false := ((hf.dep ⟨16, .data⟩ (by simp) rfl).2 144 rfl).trans (hf.dep ⟨16, .data⟩ (by simp) rfl).1
      have q148 : AC.tmps.getD 148 undef = undef := ((hf.dep ⟨20, .data⟩ (by simp) rfl).2 148 rfl).trans (hf.dep ⟨20, .data⟩ (by simp) rfl).1
      go_simp
      exact hK _ _ (Below.refl _ _) rfl
    · obtain rfl := Option.some.inj (show some _ = some oO from ho)
      rw [if_pos (wanted_yes (s := 138) rfl rfl rfl (by rw [hf.size, hsz]; decide) (((hf.dep ⟨10, .guard⟩ (by simp) rfl).2 138 rfl).trans (hf.dep ⟨10, .guard⟩ (by simp) rfl).1))]
      have q140 : AC.tmps.getD 140 undef = .bool false := ((hf.dep ⟨12, .data⟩ (by simp) rfl).2 140 rfl).trans (hf.dep ⟨12, .data⟩ (by simp) rfl).1
      have q149 : AC.tmps.getD 149 undef = .bool false := ((hf.dep ⟨21, .data⟩ (by simp) rfl).2 149 rfl).trans (hf.dep ⟨21, .data⟩ (by simp) rfl).1
      go_simp
      exact hK _ _ (Below.refl _ _) rfl
    · obtain rfl := Option.some.inj (show some _ = some oO from ho)
      rw [if_pos (by rfl)]
      have q138 : AC.tmps.getD 138 undef = .bool false := ((hf.dep ⟨10, .data⟩ (by simp) rfl).2 138 rfl).trans (hf.dep ⟨10, .data⟩ (by simp) rfl).1
      have q150 : AC.tmps.getD 150 undef = .bool false := ((hf.dep ⟨22, .data⟩ (by simp) rfl).2 150 rfl).trans (hf.dep ⟨22, .data⟩ (by simp) rfl).1
      go_simp
      exact hK _ _ (Below.refl _ _) rfl
    · omega
  · intro V WW hall hbw hBW
    have vv0 : V 0 = .bool true := hall 0 (by decide)
    have vv1 : V 1 = .bool false := hall 1 (by decide)
    have vv2 : V 2 = .bool false := hall 2 (by decide)
    have vv3 : V 3 = .pointer (some ⟨r, 0, none⟩) := hall 3 (by decide)
    have vv4 : V 4 = .int .i64 L.length := hall 4 (by decide)
    have vv5 : V 5 = .pointer (some ⟨bw, 0, none⟩) := hall 5 (by decide)
    have vv6 : V 6 = .slice ao L.length cap := hall 6 (by decide)
    have vv7 : V 7 = .int .i64 L.length := hall 7 (by decide)
    have vv8 : V 8 = .bool false := hall 8 (by decide)
    have vv9 : V 9 = .bool false := hall 9 (by decide)
    have vv10 : V 10 = .bool false := hall 10 (by decide)
    have vv11 : V 11 = .pointer (some ⟨r, 0, none⟩) := hall 11 (by decide)
    have vv12 : V 12 = .bool false := hall 12 (by decide)
    have vv13 : V 13 = .pointer (some ⟨bw, 1, none⟩) := hall 13 (by decide)
    have vv14 : V 14 = .bool true := hall 14 (by decide)
    have vv15 : V 15 = .bool false := hall 15 (by decide)
    have vv16 : V 16 = .bool false := hall 16 (by decide)
    have vv17 : V 17 = undef := hall 17 (by decide)
    have vv18 : V 18 = undef := hall 18 (by decide)
    have vv19 : V 19 = undef := hall 19 (by decide)
    have vv20 : V 20 = undef := hall 20 (by decide)
    have vv21 : V 21 = .bool false := hall 21 (by decide)
    have vv22 : V 22 = .bool false := hall 22 (by decide)
    have vv23 : V 23 = .bool false := hall 23 (by decide)
    clear hall
    simp only [pairsOf, Nat.zero_add, Nat.reduceAdd, vv0, vv1, vv2, vv3, vv4, vv5, vv6, vv7, vv8, vv9, vv10, vv11, vv12, vv13, vv14, vv15, vv16, vv17, vv18, vv19, vv20, vv21, vv22, vv23]
    exact hQ WW hbw
end Go.Proofs.Ytoafkjilkfohjaa
