/-
  One number read and appended to a field: what stands between the operations of such a region.
-/
import Derived.Test.YtdkcccigmejikaaCmC
import Derived.Test.YtdkcccigmejikaaRdB
import Derived.Test.YtdkcccigmejikaaRel
set_option linter.unusedVariables false
set_option linter.unusedSimpArgs false
set_option maxRecDepth 20000
namespace Go.Proofs.Ytdkcccigmejikaa
open Go.RowKit

/-- Below g all stays, but for the reader r. -/
structure Keep (g r : Nat) (w W : World) : Prop where
  os : W.os = w.os
  tape : W.tape = w.tape
  output : W.output = w.output
  size : w.heap.size ≤ W.heap.size
  block : ∀ k, k < g → k ≠ r → W.heap[k]? = w.heap[k]?
theorem Keep.refl (g r : Nat) (w : World) : Keep g r w w := ⟨rfl, rfl, rfl, Nat.le_refl _, fun _ _ _ => rfl⟩
theorem Keep.trans {g r : Nat} {w W X : World} (h : Keep g r w W) (k : Keep g r W X) : Keep g r w X :=
  ⟨k.os.trans h.os, k.tape.trans h.tape, k.output.trans h.output, Nat.le_trans h.size k.size, fun b h1 h2 => (k.block b h1 h2).trans (h.block b h1 h2)⟩
theorem Keep.below {g r : Nat} {w W : World} (h : Below w.heap.size w W) (hg : g ≤ w.heap.size) : Keep g r w W := ⟨h.os, h.tape, h.output, h.size, fun k h1 _ => h.block k (by omega)⟩
theorem Keep.rd {g r : Nat} {w W : World} (h : w.grownBy W (some r)) (hg : g ≤ w.heap.size) : Keep g r w W := ⟨h.os, h.tape, h.output, h.size, fun k h1 h2 => h.block k (by omega) (fun e => h2 (Option.some.inj e))⟩
theorem Keep.row {g r : Nat} {w W : World} {row : Option Nat} (h : w.grownBy W row) (hg : g ≤ w.heap.size) (hr : ∀ k, row = some k → g ≤ k) : Keep g r w W := ⟨h.os, h.tape, h.output, h.size, fun k h1 h2 => h.block k (by omega) (fun e => by have := hr k e.symm; omega)⟩
theorem Keep.set {g r : Nat} {w : World} (b j : Nat) (v : Value) (hb : g ≤ b) : Keep g r w (w.setCell ⟨b, j, none⟩ v) := ⟨rfl, rfl, rfl, by simp, fun k h1 _ => heap_setCell_other w ⟨b, j, none⟩ k v (by show k ≠ b; omega)⟩
theorem Keep.mono {g g' r : Nat} {w W : World} (h : Keep g r w W) (hg : g' ≤ g) : Keep g' r w W := ⟨h.os, h.tape, h.output, h.size, fun k h1 h2 => h.block k (by omega) h2⟩
/-- Seen from where neither is. -/
theorem Keep.gb {g r : Nat} {w W : World} (h : Keep g r w W) (hg : w.heap.size ≤ g) : w.grownBy W (some r) := ⟨h.os, h.tape, h.output, h.size, fun k h1 h2 => h.block k (by omega) (fun e => h2 (by rw [e]))⟩
theorem owi_set {w : World} {B g o : Nat} {v u : Value} {M : List Int} (h : OwI w B v M) (hg : g < B) : OwI (w.setCell ⟨g, o, none⟩ u) B v M := by
  rcases h.2 with h0 | ⟨q, cap, cur, e, h1, h2, h3⟩
  · exact ⟨h.1, .inl h0⟩
  · exact ⟨h.1, .inr ⟨q, cap, cur, e, h1, by rw [heap_setCell_other w ⟨g, o, none⟩ q u (by show q ≠ g; omega)]; exact h2, h3⟩⟩
theorem owi_rd {w W : World} {B r : Nat} {v : Value} {M : List Int} (h : OwI w B v M) (hg : w.grownBy W (some r)) (hr : r < B) : OwI W B v M := by
  rcases h.2 with h0 | ⟨q, cap, cur, e, h1, h2, h3⟩
  · exact ⟨h.1, .inl h0⟩
  · have hl := (World.ownsRow.lt h q (by rw [e]; rfl)).2
    exact ⟨h.1, .inr ⟨q, cap, cur, e, h1, by rw [hg.block q hl (fun e => by have := Option.some.inj e; omega)]; exact h2, h3⟩⟩
theorem Blk.rd {w W : World} {b T r : Nat} {C : List Value} (h : Blk w b T C) (hg : w.grownBy W (some r)) (hne : b ≠ r) : Blk W b T C := ⟨by rw [hg.block b h.lt (fun e => hne (Option.some.inj e))]; exact h.at_⟩
theorem Blk.rw_ {w W : World} {b T : Nat} {C : List Value} {row : Option Nat} (h : Blk w b T C) (hg : w.grownBy W row) (hne : ∀ k, row = some k → b < k) : Blk W b T C := ⟨by rw [hg.block b h.lt (fun e => by have := hne b e.symm; omega)]; exact h.at_⟩
theorem owi_shape {w : World} {B : Nat} {v : Value} {M : List Int} (h : OwI w B v M) : ∃ ao cap, v = .slice ao M.length cap := by
  obtain ⟨ao, cap, e, _⟩ := OwI.sl h
  exact ⟨ao, cap, e⟩
/-- What holds between the operations: c calls, b makes the slice, p appends, s stores. -/
structure AppR (w : World) (r g T o : Nat) (C : List Value) (v : Value) (M : List Int) (x : Int) (L' : List UInt8) (f' : Bool) (PR : Nat → Value → Prop) (l c b p s : Nat) (Ld : Nat → Bool) (V : Nat → Value) (W : World) : Prop where
  pure : ∀ i, Ld i = true → PR i (V i)
  fr : Keep g r w W
  pa : Ld c = false → Below w.heap.size w W
  pb : Ld c = true → RdQ W r L' f'
  pv : Ld c = true → V c = .int .i64 x
  ow : Ld p = false → OwI W (g + 1) v M
  bl : Ld s = false → Blk W g T C
  bs : Ld b = true → Ld p = false → ∃ q, V b = .slice (some ⟨q, 0, none⟩) 1 1 ∧ Blk W q 2 [.int .i64 x]
  ap : Ld p = true → OwI W (g + 1) (V p) (M ++ [x])
  st : Ld s = true → Blk W g T (C.set o (V p))
  d1 : Ld b = true → Ld c = true
  d2 : Ld p = true → Ld b = true
  d3 : Ld s = true → Ld p = true
  dl : Ld p = true → Ld l = true
section
variable {w : World} {r g T o : Nat} {C : List Value} {v : Value} {M : List Int} {x : Int} {L' : List UInt8} {f' : Bool} {PR : Nat → Value → Prop} {l c b p s : Nat} {Ld : Nat → Bool} {V : Nat → Value} {W : World}
theorem AppR.pureL {i : Nat} {u : Value} (h : ∀ j, Ld j = true → PR j (V j)) (hu : PR i u) : ∀ j, (if j = i then true else Ld j) = true → PR j (if j = i then u else V j) := by
  intro j hj
  by_cases e : j = i
  · subst e; rw [if_pos rfl]; exact hu
  · rw [if_neg e] at hj ⊢; exact h j hj
theorem AppR.set (h : AppR w r g T o C v M x L' f' PR l c b p s Ld V W) (i : Nat) (u : Value) (h1 : c ≠ i) (h2 : b ≠ i) (h3 : p ≠ i) (h4 : s ≠ i) (hu : PR i u) : AppR w r g T o C v M x L' f' PR l c b p s (fun j => if j = i then true else Ld j) (fun j => if j = i then u else V j) W := by
  refine ⟨AppR.pureL h.pure hu, h.fr, ?_, ?_, ?_, ?_, ?_, ?_, ?_, ?_, ?_, ?_, ?_, ?_⟩ <;> simp only [if_neg h1, if_neg h2, if_neg h3, if_neg h4]
  · exact h.pa
  · exact h.pb
  · exact h.pv
  · exact h.ow
  · exact h.bl
  · exact h.bs
  · exact h.ap
  · exact h.st
  · exact h.d1
  · exact h.d2
  · exact h.d3
  · intro a
    by_cases e : l = i
    · simp [e]
    · rw [if_neg e]; exact h.dl a
/-- Which stand before the call .. -/
theorem AppR.noB (h : AppR w r g T o C v M x L' f' PR l c b p s Ld V W) (hc : Ld c = false) : Ld b = false := by
  cases e : Ld b with
  | false => rfl
  | true => rw [h.d1 e] at hc; cases hc
theorem AppR.noP (h : AppR w r g T o C v M x L' f' PR l c b p s Ld V W) (hb : Ld b = false) : Ld p = false := by
  cases e : Ld p with
  | false => rfl
  | true => rw [h.d2 e] at hb; cases hb
theorem AppR.noL (h : AppR w r g T o C v M x L' f' PR l c b p s Ld V W) (hl : Ld l = false) : Ld p = false := by
  cases e : Ld p with
  | false => rfl
  | true => rw [h.dl e] at hl; cases hl
theorem AppR.noS (h : AppR w r g T o C v M x L' f' PR l c b p s Ld V W) (hp : Ld p = false) : Ld s = false := by
  cases e : Ld s with
  | false => rfl
  | true => rw [h.d3 e] at hp; cases hp
theorem AppR.start (hO : OwI w (g + 1) v M) (hB : Blk w g T C) : AppR w r g T o C v M x L' f' PR l c b p s (fun _ => false) (fun _ => undef) w.drew :=
  ⟨nofun, Keep.below (Below.refl _ _).drew (Nat.le_of_lt hB.lt), fun _ => (Below.refl _ _).drew, nofun, nofun, fun _ => hO, fun _ => hB.drew, nofun, nofun, nofun, nofun, nofun, nofun, nofun⟩
/-- .. the call .. -/
theorem AppR.called (h : AppR w r g T o C v M x L' f' PR l c b p s Ld V W) (hc : Ld c = false) (hcb : c ≠ b) (hcp : c ≠ p) (hcs : c ≠ s) (hg : r < g) (hgw : g < w.heap.size) (W' : World) (hr : RdQ W' r L' f') (hgb : W.grownBy W' (some r)) (hpr : PR c (.int .i64 x)) :
    AppR w r g T o C v M x L' f' PR l c b p s (fun j => if j = c then true else Ld j) (fun j => if j = c then .int .i64 x else V j) W' := by
  have nb := h.noB hc
  have np := h.noP nb
  have ns := h.noS np
  refine ⟨AppR.pureL h.pure hpr, h.fr.trans (Keep.rd hgb (by have := h.fr.size; omega)), fun a => ?_, fun _ => hr, fun _ => by simp, fun _ => owi_rd (h.ow np) hgb (by omega), fun _ => (h.bl ns).rd hgb (by omega), fun a => ?_, fun a => ?_, fun a => ?_, fun _ => by simp, fun a => ?_, fun a => ?_, fun a => ?_⟩
  · simp at a
  · simp only [if_neg hcb.symm] at a; rw [nb] at a; cases a
  · simp only [if_neg hcp.symm] at a; rw [np] at a; cases a
  · simp only [if_neg hcs.symm] at a; rw [ns] at a; cases a
  · simp only [if_neg hcp.symm] at a; rw [np] at a; cases a
  · simp only [if_neg hcs.symm] at a; rw [ns] at a; cases a
  · simp only [if_neg hcp.symm] at a; rw [np] at a; cases a
/-- .. the slice of one .. -/
theorem AppR.made (h : AppR w r g T o C v M x L' f' PR l c b p s Ld V W) (hb : Ld b = false) (hc : Ld c = true) (hcb : c ≠ b) (hbp : b ≠ p) (hbs : b ≠ s) (hgw : g < w.heap.size) (hpr : PR b (.slice (some ⟨W.heap.size, 0, none⟩) 1 1)) :
    AppR w r g T o C v M x L' f' PR l c b p s (fun j => if j = b then true else Ld j) (fun j => if j = b then .slice (some ⟨W.heap.size, 0, none⟩) 1 1 else V j) (W.alloc (.cells #[.int .i64 x] 2)) := by
  have np := h.noP hb
  have ns := h.noS np
  refine ⟨AppR.pureL h.pure hpr, h.fr.trans (Keep.below (below_new1 W _) (by have := h.fr.size; omega)), fun a => ?_, fun _ => (h.pb hc).alloc _, fun _ => ?_, fun _ => owi_kp (h.ow np) (below_new1 W _), fun _ => (h.bl ns).alloc _, fun _ _ => ⟨W.heap.size, by simp, Blk.new W _ [.int .i64 x]⟩, fun a => ?_, fun a => ?_, fun _ => ?_, fun a => ?_, fun a => ?_, fun a => ?_⟩
  · simp only [if_neg hcb] at a; rw [hc] at a; cases a
  · simp only [if_neg hcb]; exact h.pv hc
  · simp only [if_neg hbp.symm] at a; rw [np] at a; cases a
  · simp only [if_neg hbs.symm] at a; rw [ns] at a; cases a
  · simp only [if_neg hcb]; exact hc
  · simp only [if_neg hbp.symm] at a; rw [np] at a; cases a
  · simp only [if_neg hbs.symm] at a; rw [ns] at a; cases a
  · simp only [if_neg hbp.symm] at a; rw [np] at a; cases a
/-- .. appended .. -/
theorem AppR.grew (h : AppR w r g T o C v M x L' f' PR l c b p s Ld V W) (hp : Ld p = false) (hb : Ld b = true) (hcp : c ≠ p) (hbp : b ≠ p) (hps : p ≠ s) (hg : r < g) (hgw : g < w.heap.size) (v' : Value) (W' : World) (ho : OwI W' (g + 1) v' (M ++ [x])) (hgr : W.grownBy W' v.ownBlock) (hpr : PR p v') (hll : Ld l = true) :
    AppR w r g T o C v M x L' f' PR l c b p s (fun j => if j = p then true else Ld j) (fun j => if j = p then v' else V j) W' := by
  have hc := h.d1 hb
  have ns := h.noS hp
  have hlt := World.ownsRow.lt (h.ow hp)
  refine ⟨AppR.pureL h.pure hpr, h.fr.trans (Keep.row hgr (by have := h.fr.size; omega) (fun k hk => by have := (hlt k hk).1; omega)), fun a => ?_, fun _ => (h.pb hc).grown hgr (fun k hk => by have := (hlt k hk).1; omega), fun _ => ?_, fun a => ?_, fun _ => (h.bl ns).rw_ hgr (fun k hk => by have := (hlt k hk).1; omega), fun _ a => ?_, fun _ => by simp; exact ho, fun a => ?_, fun _ => ?_, fun _ => ?_, fun a => ?_, fun _ => by simp [hll]⟩
  · simp only [if_neg hcp] at a; rw [hc] at a; cases a
  · simp only [if_neg hcp]; exact h.pv hc
  · simp at a
  · simp at a
  · simp only [if_neg hps.symm] at a; rw [ns] at a; cases a
  · simp only [if_neg hcp]; exact hc
  · simp only [if_neg hbp]; exact hb
  · simp only [if_neg hps.symm] at a; rw [ns] at a; cases a
/-- .. and stored. -/
theorem AppR.put (h : AppR w r g T o C v M x L' f' PR l c b p s Ld V W) (hs : Ld s = false) (hp : Ld p = true) (hcs : c ≠ s) (hbs : b ≠ s) (hps : p ≠ s) (hg : r < g) (hpr : PR s undef) :
    AppR w r g T o C v M x L' f' PR l c b p s (fun j => if j = s then true else Ld j) (fun j => if j = s then undef else V j) (W.setCell ⟨g, o, none⟩ (V p)) := by
  have hb := h.d2 hp
  have hc := h.d1 hb
  refine ⟨AppR.pureL h.pure hpr, h.fr.trans (Keep.set g o _ (Nat.le_refl _)), fun a => ?_, fun _ => (h.pb hc).set g o _ hg, fun _ => ?_, fun a => ?_, fun a => ?_, fun _ a => ?_, fun _ => ?_, fun _ => ?_, fun _ => ?_, fun _ => ?_, fun _ => ?_, fun _ => by simp [h.dl hp]⟩
  · simp only [if_neg hcs] at a; rw [hc] at a; cases a
  · simp only [if_neg hcs]; exact h.pv hc
  · simp only [if_neg hps] at a; rw [hp] at a; cases a
  · simp at a
  · simp only [if_neg hps] at a; rw [hp] at a; cases a
  · simp only [if_neg hps]; exact owi_set (h.ap hp) (by omega)
  · simp only [if_neg hps]; exact (h.bl hs).set o _
  · simp only [if_neg hcs]; exact hc
  · simp only [if_neg hbs]; exact hb
  · simp only [if_neg hps]; exact hp
end
end Go.Proofs.Ytdkcccigmejikaa
