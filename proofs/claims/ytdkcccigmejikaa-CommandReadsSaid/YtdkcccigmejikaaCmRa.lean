/-
  Commands read by the reference: what holds while the bytes are read into a command's block.
-/
import Derived.Test.YtdkcccigmejikaaCmX
import Derived.Test.YtdkcccigmejikaaCmN
set_option linter.unusedVariables false
set_option linter.unusedSimpArgs false
set_option maxRecDepth 20000
namespace Go.Proofs.Ytdkcccigmejikaa
open Go.RowKit

/-- A row of whole numbers at the start of a block. -/
def NC (w : World) (g : Nat) (N : List Int) : Prop := ∀ (j : Nat) (x : Int), N[j]? = some x → w.cell? ⟨g, j, none⟩ = some (.int .i64 x)
theorem OwI.cells {w : World} {B : Nat} {v : Value} {N : List Int} (h : OwI w B v N) (hne : N ≠ []) : ∃ g cap, v = .slice (some ⟨g, 0, none⟩) N.length cap ∧ B ≤ g ∧ g < w.heap.size ∧ NC w g N := by
  rcases h.2 with ⟨_, h0⟩ | ⟨g, cap, cur, e, h1, h2, h3⟩
  · exact absurd (List.length_eq_zero_iff.1 h0) hne
  · have hlt := (World.ownsRow.lt h g (by rw [e]; rfl)).2
    obtain ⟨ao, cap', e', hs⟩ := OwI.sl h
    rw [e] at e'
    simp only [Value.slice.injEq] at e'
    obtain ⟨rfl, _, _⟩ := e'
    refine ⟨g, cap, e, h1, hlt, fun j x hx => ?_⟩
    obtain ⟨b, off, e2, hc⟩ := hs.cells (by intro e; apply hne; cases N with | nil => rfl | cons a l => simp [ic] at e)
    simp only [Option.some.injEq, Addr.mk.injEq] at e2
    obtain ⟨rfl, rfl, _⟩ := e2
    have := hc j _ (ic_at hx)
    rwa [Nat.zero_add] at this
theorem NC.set {w : World} {g ga k : Nat} {u : Value} {N : List Int} (h : NC w g N) (hne : g ≠ ga) : NC (w.setCell ⟨ga, k, none⟩ u) g N := fun j x hx => by
  rw [World.cell?_of_block (w := w) (heap_setCell_other w ⟨ga, k, none⟩ g u hne)]; exact h j x hx
theorem NC.setCells {w : World} {g ga o : Nat} {vs : List Value} {N : List Int} (h : NC w g N) (hne : g ≠ ga) : NC (w.setCells ga o vs) g N := fun j x hx => by
  rw [World.cell?_of_block (w := w) (heap_setCells_at vs o w ga g hne)]; exact h j x hx
theorem NC.keep {w W : World} {g : Nat} {N : List Int} (h : NC w g N) (hb : Below w.heap.size w W) : NC W g N := fun j x hx => by
  have h0 := h j x hx
  have hlt : g < w.heap.size := World.block_lt_of_cell? w _ h0
  rw [World.cell?_of_block (w := w) (hb.block g hlt)]; exact h0
/-- While the reference reads a command. -/
structure RT (w0 w : World) (r g0 ga : Nat) (c : Cm) (v : Value) (L : List UInt8) (f : Bool) : Prop where
  rd : RdR w r w0.heap.size L f
  fl : f = true → L = []
  ln : L.length ≤ 1000000
  bw : Below w0.heap.size w0 w
  l0 : w0.heap.size ≤ g0
  l1 : g0 < r
  l2 : r < ga
  z : Blk w g0 45 (zC.C (.slice none 0 0))
  bl : Blk w ga 45 (c.C v)
  ow : OwI w (ga + 1) v c.L
section
variable {w0 w : World} {r g0 ga : Nat} {c : Cm} {v : Value} {L : List UInt8} {f : Bool}
theorem RT.set (h : RT w0 w r g0 ga c v L f) (k : Nat) (u : Value) (c' : Cm) (v' : Value) (hc : (c.C v).set k u = c'.C v') (ho : OwI w (ga + 1) v' c'.L) : RT w0 (w.setCell ⟨ga, k, none⟩ u) r g0 ga c' v' L f := by
  have h0 := h.l0; have h1 := h.l1; have h2 := h.l2
  exact ⟨h.rd.row (grown_set w ga k u) (fun q hq => by obtain rfl := Option.some.inj hq; omega), h.fl, h.ln, h.bw.setCell (p := ⟨ga, k, none⟩) (by show w0.heap.size ≤ ga; omega) u, h0, h1, h2, h.z.other _ u (show g0 ≠ ga by omega), by rw [← hc]; exact h.bl.set k u, owi_set ho (by omega)⟩
theorem RT.setI (h : RT w0 w r g0 ga c v L f) (k : Nat) (u : Value) (c' : Cm) (hc : (c.C v).set k u = c'.C v) (hL : c.L = c'.L) : RT w0 (w.setCell ⟨ga, k, none⟩ u) r g0 ga c' v L f :=
  h.set k u c' v hc (by rw [← hL]; exact h.ow)
theorem RT.many (h : RT w0 w r g0 ga c v L f) (o : Nat) (vs : List Value) (c' : Cm) (hc : (c.C v).take o ++ vs ++ (c.C v).drop (o + vs.length) = c'.C v) (hl : o + vs.length ≤ 23) (hL : c.L = c'.L) : RT w0 (w.setCells ga o vs) r g0 ga c' v L f := by
  have h0 := h.l0; have h1 := h.l1; have h2 := h.l2
  exact ⟨h.rd.row (grown_setCells w ga o vs) (fun q hq => by obtain rfl := Option.some.inj hq; omega), h.fl, h.ln, below_setCells _ _ h.bw (by omega), h0, h1, h2, h.z.otherCells _ o (by omega), by rw [← hc]; exact h.bl.setCells vs o hl, by rw [← hL]; exact owi_setCells _ h.ow (by omega) o⟩
theorem RT.below (h : RT w0 w r g0 ga c v L f) {W : World} (hb : Below w.heap.size w W) : RT w0 W r g0 ga c v L f :=
  ⟨h.rd.keeps hb, h.fl, h.ln, below_on h.bw h.bw.size hb, h.l0, h.l1, h.l2, h.z.keeps hb, h.bl.keeps hb, owi_kp h.ow hb⟩
theorem RT.there (h : RT w0 w r g0 ga c v L f) (k : Nat) (hk : k < 23) : w.there ga k 1 := h.bl.thereMid k 1 (by show k + 1 ≤ 23; omega)
theorem RT.ints (h : RT w0 w r g0 ga c v L f) (m : Nat) (hm : m ≤ 1000) (N : List Int) (L' : List UInt8) (f' : Bool) (hq : rdIs m L f = (N, L', f')) :
    Calls Try.prog 44 #[.pointer (some ⟨r, 0, none⟩), .int .i64 m] w fun e w' => ∃ u, e = .returned u ∧ OwI w' (ga + 1) u N ∧ RT w0 w' r g0 ga c v L' f' := by
  have hfl := rdIs_flag m L f h.fl
  have hle := rdIs_le m L f
  refine (rrints_any w r w0.heap.size h.bw.size L f m h.rd h.fl h.ln hm).mono ?_
  rintro e w' ⟨u, e1, ho, hr, hg⟩
  rw [hq] at ho hr hfl hle
  have h0 := h.l0; have h1 := h.l1; have h2 := h.l2
  have h3 := h.bl.lt
  exact ⟨u, e1, OwI.up ho (by omega), hr, hfl, Nat.le_trans hle h.ln, h.bw.grown hg h.bw.size (fun q hq => by obtain rfl := Option.some.inj hq; omega), h0, h1, h2, h.z.rd hg (by omega), h.bl.rd hg (by omega), owi_rd h.ow hg (by omega)⟩
theorem RT.take (h : RT w0 w r g0 ga c v L f) (lim : Nat) (hlim : lim < 18446744073709551616) (y : Nat) (L' : List UInt8) (f' : Bool) (hq : rdSm lim L f = (y, L', f')) :
    ∃ ao cap, Blk w r 80 [.slice ao L.length cap, .bool f] ∧ Calls Try.prog 43 #[.agg #[.slice ao L.length cap, .bool f], .int .u64 lim] w fun e w' => ∃ a' p', e = .returned (.tuple #[.agg #[.slice a' L'.length p', .bool f'], .int .i64 y]) ∧
      (w'.alloc (.cells #[.slice a' L'.length p', .bool f'] 80)).there r 0 2 ∧ ∀ W, W = (w'.alloc (.cells #[.slice a' L'.length p', .bool f'] 80)).setCells r 0 [.slice a' L'.length p', .bool f'] → RT w0 W r g0 ga c v L' f' := by
  have hfl := rdSm_flag (lim := lim) (L := L) (f := f) h.fl
  have hle := rdSm_le2 lim L f
  obtain ⟨ao, cap, hB, hs, hlo⟩ := h.rd
  refine ⟨ao, cap, hB, ?_⟩
  refine (tsmall_q lim hlim w (.agg #[.slice ao L.length cap, .bool f]) w0.heap.size L f ⟨ao, cap, rfl, hs, hlo⟩ h.fl h.ln).mono ?_
  rintro e w' ⟨v', e1, hv, hb⟩
  rw [hq] at e1 hv hfl hle
  obtain ⟨a', p', rfl, hs', hlo'⟩ := hv
  have hbx : Below w.heap.size w (w'.alloc (.cells #[.slice a' L'.length p', .bool f'] 80)) := hb.alloc hb.size _
  have h5 := h.below hbx
  have h0 := h.l0; have h1 := h.l1; have h2 := h.l2
  have hB5 := hB.keeps hbx
  refine ⟨a', p', e1, hB5.thereMid 0 2 (by simp), ?_⟩
  rintro W rfl
  refine ⟨⟨a', p', hB5.setAll _ rfl, sl_setR hB5 (hs'.keeps (below_new1 w' _)) _, hlo'⟩, hfl, Nat.le_trans hle h.ln, below_setCells _ _ h5.bw (by omega), h0, h1, h2, h5.z.otherCells _ 0 (by omega), h5.bl.otherCells _ 0 (by omega), owi_setCells _ h5.ow (by omega) 0⟩
theorem RT.start {a3 : Option Addr} {p3 : Nat} {B : List UInt8} (h : Sl w a3 B.length p3 (bc B)) (hlo : ∀ a, a3 = some a → a.block < w.heap.size) (hl : B.length ≤ 1000000) (W : World)
    (hW : W = (((w.alloc (.cells (zC.C (.slice none 0 0)).toArray 45)).alloc (.cells #[.slice a3 B.length p3, .bool false] 80)).alloc (.cells (zC.C (.slice none 0 0)).toArray 45)).setCells (w.heap.size + 2) 0 (zC.C (.slice none 0 0))) :
    RT w W (w.heap.size + 1) w.heap.size (w.heap.size + 2) zC (.slice none 0 0) B false := by
  have hb := below_new3 w (.cells (zC.C (.slice none 0 0)).toArray 45) (.cells #[.slice a3 B.length p3, .bool false] 80) (.cells (zC.C (.slice none 0 0)).toArray 45)
  have hB : Blk (((w.alloc (.cells (zC.C (.slice none 0 0)).toArray 45)).alloc (.cells #[.slice a3 B.length p3, .bool false] 80)).alloc (.cells (zC.C (.slice none 0 0)).toArray 45)) (w.heap.size + 1) 80 [.slice a3 B.length p3, .bool false] := (Blk.new2 w _ 80 [.slice a3 B.length p3, .bool false]).alloc _
  have hZ : Blk (((w.alloc (.cells (zC.C (.slice none 0 0)).toArray 45)).alloc (.cells #[.slice a3 B.length p3, .bool false] 80)).alloc (.cells (zC.C (.slice none 0 0)).toArray 45)) w.heap.size 45 (zC.C (.slice none 0 0)) := ((Blk.new w 45 (zC.C (.slice none 0 0))).alloc _).alloc _
  have hC := Blk.new3 w (.cells (zC.C (.slice none 0 0)).toArray 45) (.cells #[.slice a3 B.length p3, .bool false] 80) 45 (zC.C (.slice none 0 0))
  subst hW
  refine ⟨RdR.row ⟨a3, p3, hB, h.keeps hb, hlo⟩ (grown_setCells _ (w.heap.size + 2) 0 _) (fun q hq => by obtain rfl := Option.some.inj hq; omega), nofun, hl, below_setCells _ _ hb (by omega), Nat.le_refl _, by omega, by omega, hZ.otherCells _ 0 (by omega), hC.setAll _ rfl, owi_nil _ _⟩
theorem RT.fin (h : RT w0 w r g0 ga c v L f) : Below w0.heap.size w0 (w.setCells g0 0 (c.C v)) ∧ Blk (w.setCells g0 0 (c.C v)) g0 45 (c.C v) ∧ OwI (w.setCells g0 0 (c.C v)) w0.heap.size v c.L := by
  have h0 := h.l0; have h1 := h.l1; have h2 := h.l2
  exact ⟨below_setCells _ _ h.bw h0, h.z.setAll _ rfl, OwI.up (owi_setCells _ h.ow (by omega) 0) (by omega)⟩
end
end Go.Proofs.Ytdkcccigmejikaa
