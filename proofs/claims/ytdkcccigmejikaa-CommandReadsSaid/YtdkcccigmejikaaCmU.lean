/-
  Commands read: what holds while the bytes are read into a command's block.
-/
import Derived.Test.YtdkcccigmejikaaCmS
set_option linter.unusedVariables false
set_option linter.unusedSimpArgs false
set_option maxRecDepth 20000
namespace Go.Proofs.Ytdkcccigmejikaa
open Go.RowKit

theorem info_int : (Try.prog.info? 3).map (·.size) = some 1 := by kernel_rfl
theorem info_int64 : (Try.prog.info? 2).map (·.size) = some 1 := by kernel_rfl
theorem OwI.up {w : World} {B B' : Nat} {v : Value} {L : List Int} (h : OwI w B v L) (hb : B' ≤ B) : OwI w B' v L := by
  refine ⟨h.1, ?_⟩
  rcases h.2 with h2 | ⟨g, cap, cur, e, hb2, r⟩
  · exact .inl h2
  · exact .inr ⟨g, cap, cur, e, Nat.le_trans hb hb2, r⟩
/-- The next number of any sign, what is left, whether it failed. -/
def rdI (L : List UInt8) (f : Bool) : Int × List UInt8 × Bool := (back (rdN L f).1, (rdN L f).2)
theorem rdIs_cons (m : Nat) (L : List UInt8) (f : Bool) (y : Int) (L' : List UInt8) (f' : Bool) (h : rdI L f = (y, L', f')) : rdIs (m + 1) L f = (y :: (rdIs m L' f').1, (rdIs m L' f').2) := by
  unfold rdI at h
  have h1 := (Prod.mk.inj h).1
  have h2 := (Prod.mk.inj h).2
  rw [rdIs, h1, h2]
theorem rdIs_last (m : Nat) (L : List UInt8) (f : Bool) (M : List Int) (L' : List UInt8) (f' : Bool) (h : rdIs m L f = (M, L', f')) (y : Int) (L'' : List UInt8) (f'' : Bool) (h2 : rdI L' f' = (y, L'', f'')) : rdIs (m + 1) L f = (M ++ [y], L'', f'') := by
  unfold rdI at h2
  rw [rdIs_snoc, h]
  rw [(Prod.mk.inj h2).1, (Prod.mk.inj h2).2]
/-- Nothing. -/
def zC : Cm := ⟨0, 0, 0, 0, 0, 0, [], 0, 0, 0, 0, 0, 0, 0, 0, 0, 0, 0, 0, 0, 0, 0, 0⟩
/-- While a command is read: the reader, the result's cell (nothing yet), the command's block. -/
structure RS (w0 w : World) (r g0 ga : Nat) (c : Cm) (v : Value) (L : List UInt8) (f : Bool) : Prop where
  rd : RdQ w r L f
  gb : w0.grownBy w (some r)
  lt0 : r < w0.heap.size
  le0 : w0.heap.size ≤ g0
  lt1 : g0 < ga
  z : Blk w g0 45 (zC.C (.slice none 0 0))
  bl : Blk w ga 45 (c.C v)
  ow : OwI w (ga + 1) v c.L
section
variable {w0 w : World} {r g0 ga : Nat} {c : Cm} {v : Value} {L : List UInt8} {f : Bool}
theorem RS.ld (h : RS w0 w r g0 ga c v L f) {w' : World} {L' : List UInt8} {f' : Bool} (hr : RdQ w' r L' f') (hg : w.grownBy w' (some r)) : RS w0 w' r g0 ga c v L' f' :=
  ⟨hr, ⟨hg.os.trans h.gb.os, hg.tape.trans h.gb.tape, hg.output.trans h.gb.output, Nat.le_trans h.gb.size hg.size, fun k h1 h2 => (hg.block k (by have := h.gb.size; omega) h2).trans (h.gb.block k h1 h2)⟩, h.lt0, h.le0, h.lt1,
    h.z.rd hg (by have := h.lt0; have := h.le0; omega), h.bl.rd hg (by have := h.lt0; have := h.le0; have := h.lt1; omega), owi_rd h.ow hg (by have := h.lt0; have := h.le0; have := h.lt1; omega)⟩
theorem RS.set (h : RS w0 w r g0 ga c v L f) (k : Nat) (u : Value) (c' : Cm) (hc : (c.C v).set k u = c'.C v) (hL : c.L = c'.L) : RS w0 (w.setCell ⟨ga, k, none⟩ u) r g0 ga c' v L f := by
  have h1 := h.lt0; have h2 := h.le0; have h3 := h.lt1
  refine ⟨h.rd.set ga k u (by omega), ⟨h.gb.os, h.gb.tape, h.gb.output, by simpa using h.gb.size, fun k' a b => ?_⟩, h1, h2, h3, h.z.other _ u (show g0 ≠ ga by omega), ?_, ?_⟩
  · rw [heap_setCell_other w ⟨ga, k, none⟩ k' u (show k' ≠ ga by omega)]; exact h.gb.block k' a b
  · rw [← hc]; exact h.bl.set k u
  · rw [← hL]; exact owi_set h.ow (by omega)
theorem RS.keep (h : RS w0 w r g0 ga c v L f) {w' : World} {L' : List UInt8} {f' : Bool} {c' : Cm} {v' : Value} (hk : Keep ga r w w') (hr : RdQ w' r L' f') (hb : Blk w' ga 45 (c'.C v')) (ho : OwI w' (ga + 1) v' c'.L) : RS w0 w' r g0 ga c' v' L' f' := by
  have h1 := h.lt0; have h2 := h.le0; have h3 := h.lt1
  refine ⟨hr, ⟨hk.os.trans h.gb.os, hk.tape.trans h.gb.tape, hk.output.trans h.gb.output, Nat.le_trans h.gb.size hk.size, fun k a b => ?_⟩, h1, h2, h3, ⟨?_⟩, hb, ho⟩
  · exact (hk.block k (by omega) (fun e => b (by rw [e]))).trans (h.gb.block k a b)
  · rw [hk.block g0 (by omega) (by omega)]; exact h.z.at_
theorem RS.below (h : RS w0 w r g0 ga c v L f) {w' : World} (hb : Below w.heap.size w w') : RS w0 w' r g0 ga c v L f := by
  have h3 := h.bl.lt
  exact h.keep (Keep.below hb (by omega)) (h.rd.below hb) (h.bl.keeps hb) (owi_kp h.ow hb)
theorem RS.int (h : RS w0 w r g0 ga c v L f) (y : Int) (L' : List UInt8) (f' : Bool) (hq : rdI L f = (y, L', f')) : Calls Try.prog 32 #[.pointer (some ⟨r, 0, none⟩)] w fun e w' => e = .returned (.int .i64 y) ∧ RS w0 w' r g0 ga c v L' f' ∧ w.grownBy w' (some r) :=
  (rint_q w r L f h.rd).mono fun e w' ⟨h1, h2, h3⟩ => by
    unfold rdI at hq
    obtain ⟨e1, e2, e3⟩ : back (rdN L f).1 = y ∧ (rdN L f).2.1 = L' ∧ (rdN L f).2.2 = f' := by
      refine ⟨(Prod.mk.inj hq).1, ?_, ?_⟩ <;> rw [(Prod.mk.inj hq).2]
    rw [e1] at h1
    rw [e2, e3] at h2
    exact ⟨h1, h.ld h2 h3, h3⟩
theorem RS.small (h : RS w0 w r g0 ga c v L f) (lim : Nat) (hlim : lim < 18446744073709551616) (y : Nat) (L' : List UInt8) (f' : Bool) (hq : rdSm lim L f = (y, L', f')) : Calls Try.prog 31 #[.pointer (some ⟨r, 0, none⟩), .int .u64 lim] w fun e w' => e = .returned (.int .i64 y) ∧ RS w0 w' r g0 ga c v L' f' :=
  (small_q lim hlim w r L f h.rd).mono fun e w' ⟨h1, h2, h3⟩ => by
    rw [hq] at h1 h2
    exact ⟨h1, h.ld h2 h3⟩
theorem RS.there (h : RS w0 w r g0 ga c v L f) (k : Nat) (hk : k < 23) : w.there ga k 1 := h.bl.thereMid k 1 (by show k + 1 ≤ 23; omega)
theorem rdq_setCells : ∀ (vs : List Value) {w : World} {r g : Nat} {L : List UInt8} {f : Bool} (_ : RdQ w r L f) (_ : r < g) (o : Nat), RdQ (w.setCells g o vs) r L f
  | [], _, _, _, _, _, h, _, _ => h
  | u :: r, w, _, g, _, _, h, hg, o => rdq_setCells r (h.set g o u hg) hg (o + 1)
theorem gb_setCells : ∀ (vs : List Value) {w0 w : World} {r g : Nat} (_ : w0.grownBy w (some r)) (_ : w0.heap.size ≤ g) (o : Nat), w0.grownBy (w.setCells g o vs) (some r)
  | [], _, _, _, _, h, _, _ => h
  | u :: r, w0, w, _, g, h, hg, o => gb_setCells r (w := w.setCell ⟨g, o, none⟩ u) ⟨h.os, h.tape, h.output, by simpa using h.size, fun k a b => by rw [heap_setCell_other w ⟨g, o, none⟩ k u (show k ≠ g by omega)]; exact h.block k a b⟩ hg (o + 1)
theorem RS.fin (h : RS w0 w r g0 ga c v L f) : RdQ (w.setCells g0 0 (c.C v)) r L f ∧ w0.grownBy (w.setCells g0 0 (c.C v)) (some r) ∧ Blk (w.setCells g0 0 (c.C v)) g0 45 (c.C v) ∧ OwI (w.setCells g0 0 (c.C v)) (ga + 1) v c.L := by
  have h1 := h.lt0; have h2 := h.le0; have h3 := h.lt1
  exact ⟨rdq_setCells _ h.rd (by omega) 0, gb_setCells _ h.gb h2 0, h.z.setAll _ rfl, owi_setCells _ h.ow (by omega) 0⟩
theorem RS.start {w w2 : World} {r : Nat} {B L0 : List UInt8} {f f0 : Bool} (hr : RdQ w r B f) (hr2 : RdQ w2 r L0 f0) (hg : (w.alloc (.cells (zC.C (.slice none 0 0)).toArray 45)).grownBy w2 (some r)) (c : Cm) (hc : c.L = []) :
    RS w (w2.alloc (.cells (c.C (.slice none 0 0)).toArray 45)) r w.heap.size w2.heap.size c (.slice none 0 0) L0 f0 := by
  have hlt := hr.lt
  have hsz : (w.alloc (.cells (zC.C (.slice none 0 0)).toArray 45)).heap.size = w.heap.size + 1 := by simp
  have h2 := hg.size
  rw [hsz] at h2
  refine ⟨hr2.alloc _, ⟨?_, ?_, ?_, ?_, fun k a b => ?_⟩, hlt, Nat.le_refl _, by omega, ?_, Blk.new _ _ _, ?_⟩
  · exact hg.os
  · exact hg.tape
  · exact hg.output
  · simp; omega
  · rw [Below.heap_alloc w2 _ k (by omega), hg.block k (by omega) b, Below.heap_alloc w _ k a]
  · exact ((Blk.new w _ (zC.C (.slice none 0 0))).rd hg (by omega)).alloc _
  · rw [hc]; exact owi_nil _ _
end
theorem RS.setAll {w0 w : World} {r g0 ga : Nat} {c : Cm} {v : Value} {L : List UInt8} {f : Bool} (h : RS w0 w r g0 ga c v L f) (c' : Cm) (hL : c.L = c'.L) : RS w0 (w.setCells ga 0 (c'.C v)) r g0 ga c' v L f := by
  have h1 := h.lt0; have h2 := h.le0; have h3 := h.lt1
  exact ⟨rdq_setCells _ h.rd (by omega) 0, gb_setCells _ h.gb (by omega) 0, h1, h2, h3, h.z.otherCells _ 0 (by omega), h.bl.setAll _ rfl, by rw [← hL]; exact owi_setCells _ h.ow (by omega) 0⟩
theorem nth_snoc (l : List Int) (x : Int) (k : Nat) : nth (l ++ [x]) k = if k = l.length then x else nth l k := by
  unfold nth
  rw [List.getElem?_append]
  split
  · rename_i h; rw [if_neg (by omega)]
  · split
    · rename_i h1 h2; subst h2; simp
    · rename_i h1 h2
      rw [List.getElem?_eq_none (by simp; omega), List.getElem?_eq_none (by omega)]
/-- A command with these numbers. -/
def Cm.wN (c : Cm) (l : List Int) : Cm := { c with x0 := nth l 0, x1 := nth l 1, x2 := nth l 2, x3 := nth l 3, x4 := nth l 4, x5 := nth l 5, x6 := nth l 6, x7 := nth l 7, x8 := nth l 8, x9 := nth l 9, x10 := nth l 10 }
theorem wN_snoc (c : Cm) (v : Value) (l : List Int) (x : Int) (h : l.length < 11) : ((c.wN l).C v).set (7 + l.length) (.int .i64 x) = (c.wN (l ++ [x])).C v := by
  obtain ⟨k, hk⟩ : ∃ k, l.length = k := ⟨_, rfl⟩
  rw [hk] at h ⊢
  rcases (show k = 0 ∨ k = 1 ∨ k = 2 ∨ k = 3 ∨ k = 4 ∨ k = 5 ∨ k = 6 ∨ k = 7 ∨ k = 8 ∨ k = 9 ∨ k = 10 by omega) with rfl | rfl | rfl | rfl | rfl | rfl | rfl | rfl | rfl | rfl | rfl <;> simp [Cm.wN, Cm.C, nth_snoc, hk, List.set]
theorem parseC_other {lim kn : Nat} {B L0 L5 : List UInt8} {f0 f5 : Bool} {y0 y1 y2 y3 y4 : Int} (e0 : rdSm lim B false = (kn, L0, f0)) (e5 : rdIs 5 L0 f0 = ([y0, y1, y2, y3, y4], L5, f5)) (h1 : kn ≠ 1) (h15 : kn ≠ 15) :
    parseC lim B = (⟨kn, y0, y1, y2, y3, y4, [], 0, 0, 0, 0, 0, 0, 0, 0, 0, 0, 0, 0, 0, 0, 0, 0⟩, L5, f5) := by
  unfold parseC
  simp only [e0, e5, if_neg h1, if_neg h15]
  rfl
theorem parseC_15 {lim : Nat} {B L0 L5 L8 : List UInt8} {f0 f5 f8 : Bool} {y0 y1 y2 y3 y4 z0 z1 z2 : Int} (e0 : rdSm lim B false = (15, L0, f0)) (e5 : rdIs 5 L0 f0 = ([y0, y1, y2, y3, y4], L5, f5)) (e8 : rdIs 3 L5 f5 = ([z0, z1, z2], L8, f8)) :
    parseC lim B = (⟨15, y0, y1, y2, y3, y4, [], 0, 0, 0, 0, 0, 0, 0, 0, 0, 0, 0, 0, z0, z1, z2, 0⟩, L8, f8) := by
  unfold parseC
  simp only [e0, e5, e8, if_neg (show (15 : Nat) ≠ 1 by decide)]
  rfl
theorem parseC_1 {lim m : Nat} {B L0 L5 L6 L7 L8 : List UInt8} {f0 f5 f6 f7 f8 : Bool} {y0 y1 y2 y3 y4 : Int} {M N : List Int} (e0 : rdSm lim B false = (1, L0, f0)) (e5 : rdIs 5 L0 f0 = ([y0, y1, y2, y3, y4], L5, f5)) (e6 : rdSm 16 L5 f5 = (m, L6, f6)) (e7 : rdIs m L6 f6 = (M, L7, f7)) (e8 : rdIs 11 L7 f7 = (N, L8, f8)) :
    parseC lim B = ((⟨1, y0, y1, y2, y3, y4, M, 0, 0, 0, 0, 0, 0, 0, 0, 0, 0, 0, 0, 0, 0, 0, 0⟩ : Cm).wN N, L8, f8) := by
  unfold parseC
  simp only [e0, e5, e6, e7, e8, if_true]
  rfl
theorem res_cm1 {fn : Func} {p : Tmp} (h : fn.results = #[.cell p 45]) (tmps : Array Value) (w : World) (g : Nat) (c : Cm) (v : Value)
    (hp : tmps.getD p undef = .pointer (some ⟨g, 0, none⟩)) (hg : Blk w g 45 (c.C v)) : (results fn tmps).run Try.prog w = .ok (.agg (c.C v).toArray) w := by
  have hp' : tmps[p]?.getD undef = .pointer (some ⟨g, 0, none⟩) := by simpa using hp
  have hr := run_loadVar_mid (P := Try.prog) w g 0 45 (c.C v) _ hg.range Try.underlying45 rfl info_cm
  simp [results, h, hp', asAddr, hr]
theorem res_cm2 {fn : Func} {p q : Tmp} (h : fn.results = #[.cell p 45, .tmp q]) (tmps : Array Value) (w : World) (g : Nat) (c : Cm) (v u : Value)
    (hp : tmps.getD p undef = .pointer (some ⟨g, 0, none⟩)) (hq : tmps.getD q undef = u) (hg : Blk w g 45 (c.C v)) : (results fn tmps).run Try.prog w = .ok (.tuple #[.agg (c.C v).toArray, u]) w := by
  have hp' : tmps[p]?.getD undef = .pointer (some ⟨g, 0, none⟩) := by simpa using hp
  have hq' : tmps[q]?.getD undef = u := by simpa using hq
  have hr := run_loadVar_mid (P := Try.prog) w g 0 45 (c.C v) _ hg.range Try.underlying45 rfl info_cm
  simp [results, h, hp', hq', asAddr, hr]
section
variable {ops : Array Oper} {rest : List Oper} {op : Oper} {a : Act} {w : World} {Q : Exit → Act → World → Prop}
theorem st_cm (hgd : op.guard = none) (x y : Operand) (ho : op.op = .store 45 x y) (b : Nat) (hx : a.eval x = .pointer (some ⟨b, 0, none⟩)) (c : Cm) (v : Value) (hv : v.oneCell' = true) (hy : a.eval y = .agg (c.C v).toArray) (hc : w.there b 0 23)
    (h : ∀ W, Hid (W = w.setCells b 0 (c.C v)) → wpList Try.prog ops Q rest (a.put op.dst undef) W) : wpList Try.prog ops Q (op :: rest) a w :=
  wpList_store_mid hgd _ x y ho b 0 (c.C v).toArray hx hy hc info_cm (by simp only [Cm.C, List.all_toArray, List.all_cons, List.all_nil, hv, show ∀ z, (Value.int IntKind.i64 z).oneCell' = true from fun _ => rfl, Bool.and_self, Bool.true_and]; try simp) (h _ (Lib.hid (by simp)))
end
end Go.Proofs.Ytdkcccigmejikaa
