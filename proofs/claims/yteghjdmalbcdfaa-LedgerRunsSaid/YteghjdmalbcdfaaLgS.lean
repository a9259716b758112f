/-
  What stands between the rounds of LedgerRuns.
-/
import Derived.Test.YteghjdmalbcdfaaLgQ
set_option linter.unusedVariables false
set_option linter.unusedSimpArgs false
namespace Go.Proofs.Yteghjdmalbcdfaa
open Go.RowKit Dg

theorem Led.fr {w w' : World} {B b go : Nat} {v : Value} {C : List Value} {T : List Int} {E : List (List Lg)} {row : Option Nat} (h : Led w B b v C T E) (hf : Fr go row w w') (hN : ∀ k, (k = b ∨ v.ownBlock = some k ∨ ∃ u ∈ C, u.ownBlock = some k) → k ≠ go ∧ some k ≠ row) : Led w' B b v C T E := by
  refine ⟨h.blk.fr hf (hN b (.inl rfl)).1 (hN b (.inl rfl)).2, h.len, own_fr h.row hf (fun e => (hN go (.inr (.inl e))).1 rfl) ?_, h.bb, h.vb, fun i L hi => ?_⟩
  · cases e : v.ownBlock with
    | none => exact .inl rfl
    | some q => exact .inr (hN q (.inr (.inl e))).2
  · obtain ⟨ao, cap, h1, h2, h3⟩ := h.ent i L hi
    refine ⟨ao, cap, h1, h2.fr hf (fun a ha => hN a.block (.inr (.inr ⟨_, List.mem_of_getElem? h1, by rw [ha]; rfl⟩))), fun a ha => ⟨Nat.lt_of_lt_of_le (h3 a ha).1 hf.size, (h3 a ha).2⟩⟩
theorem Led.down {w : World} {B B' b : Nat} {v : Value} {C : List Value} {T : List Int} {E : List (List Lg)} (h : Led w B b v C T E) (hB : B' ≤ B) : Led w B' b v C T E :=
  ⟨h.blk, h.len, own_down h.row hB, Nat.le_trans hB h.bb, h.vb, h.ent⟩
theorem Led.clen {w : World} {B b : Nat} {v : Value} {C : List Value} {T : List Int} {E : List (List Lg)} (h : Led w B b v C T E) : C.length = E.length := by
  have := h.row.1; simpa using this
/-- Its entries' blocks are there, and are neither its own nor its row's. -/
theorem Led.cblk {w : World} {B b : Nat} {v : Value} {C : List Value} {T : List Int} {E : List (List Lg)} (h : Led w B b v C T E) {u : Value} (hu : u ∈ C) {g : Nat} (hg : u.ownBlock = some g) : g < w.heap.size ∧ g ≠ b ∧ some g ≠ v.ownBlock := by
  obtain ⟨i, hi, rfl⟩ := List.mem_iff_getElem.1 hu
  have hiE : i < E.length := by rw [← h.clen]; exact hi
  obtain ⟨ao, cap, h1, _, h3⟩ := h.ent i _ (List.getElem?_eq_getElem hiE)
  rw [List.getElem?_eq_getElem hi] at h1
  rw [Option.some.inj h1] at hg
  cases ao with
  | none => simp [Value.ownBlock] at hg
  | some a =>
    have : a.block = g := by simpa [Value.ownBlock] using hg
    rw [← this]
    exact h3 a rfl
/-- Between two rounds. -/
structure St (w0 w : World) (k b : Nat) (v : Value) (C : List Value) (ao : Option Addr) (cap : Nat) (T : List Int) (E : List (List Lg)) : Prop where
  led : Led w w0.heap.size b v C T E
  okb : OkB T
  oke : OkE E k
  okt : OkT T E
  nil : E = [] → v = .slice none 0 0
  re : REs w (fun g => g = b ∨ v.ownBlock = some g) ao cap E
  below : Below w0.heap.size w0 w
theorem REs.keeps {w w' : World} {N : Nat → Prop} {ao : Option Addr} {cap : Nat} {E : List (List Lg)} (h : REs w N ao cap E) (hb : Below w.heap.size w w') : REs w' N ao cap E := by
  obtain ⟨C, h⟩ := h; exact ⟨C, h.keeps hb⟩
theorem REs.fr {w w' : World} {N : Nat → Prop} {ao : Option Addr} {cap : Nat} {E : List (List Lg)} {b : Nat} {row : Option Nat} (h : REs w N ao cap E) (hf : Fr b row w w') (hb : N b) (hr : ∀ g, row = some g → N g) : REs w' N ao cap E := by
  obtain ⟨C, h⟩ := h; exact ⟨C, h.fr hf hb hr⟩
theorem REs.to {w : World} {N M : Nat → Prop} {ao : Option Addr} {cap : Nat} {E : List (List Lg)} (h : REs w N ao cap E) (hM : ∀ k, k < w.heap.size → ¬ N k → ¬ M k) : REs w M ao cap E := by
  obtain ⟨C, h⟩ := h; exact ⟨C, h.to hM⟩
section
variable {w0 w wr w1 w2 w3 w4 : World} {k b : Nat} {v v' : Value} {C C' : List Value} {ao ao' : Option Addr} {cap cap' : Nat} {T T8 : List Int} {E E8 : List (List Lg)}
theorem St.keeps (h : St w0 w k b v C ao cap T E) (hb : Below w.heap.size w w1) : St w0 w1 k b v C ao cap T E :=
  ⟨h.led.keeps hb, h.okb, h.oke, h.okt, h.nil, h.re.keeps hb, below_on h.below h.below.size hb⟩
theorem St.next (h : St w0 w k b v C ao cap T E) : St w0 w (k + 1) b v C ao cap T E :=
  ⟨h.led, h.okb, h.oke.more (by omega), h.okt, h.nil, h.re, h.below⟩
/-- What the document's entries keep away from while a ledger works. -/
def NN (wr w2 : World) (b : Nat) (v : Value) (g : Nat) : Prop := g = b ∨ v.ownBlock = some g ∨ (wr.heap.size ≤ g ∧ g < w2.heap.size)
theorem St.re2 (h : St w0 wr k b v C ao cap T E) (hb1 : Below wr.heap.size wr w1) (hf2 : Fr b v.ownBlock w1 w2) : REs w2 (NN wr w2 b v) ao cap E := by
  have h1 : REs wr (fun g => g = b ∨ v.ownBlock = some g ∨ wr.heap.size ≤ g) ao cap E := h.re.to (fun q hq hn hm => by
    rcases hm with hm | hm | hm
    · exact hn (.inl hm)
    · exact hn (.inr hm)
    · omega)
  refine ((h1.keeps hb1).fr hf2 (.inl rfl) (fun g hg => .inr (.inl hg))).to (fun q _ hn hm => hn ?_)
  rcases hm with hm | hm | hm
  · exact .inl hm
  · exact .inr (.inl hm)
  · exact .inr (.inr hm.1)
theorem St.nn (h : St w0 wr k b v C ao cap T E) (hs : wr.heap.size ≤ w2.heap.size) : ∀ g, NN wr w2 b v g → g < w2.heap.size := by
  rintro g (rfl | hg | hg)
  · have := h.led.blk.lt; omega
  · have := (own_base h.led.row g hg).2; omega
  · exact hg.2
theorem St.bel2 (h : St w0 wr k b v C ao cap T E) (hb1 : Below wr.heap.size wr w1) (hf2 : Fr b v.ownBlock w1 w2) : Below w0.heap.size w0 w2 :=
  hf2.below (below_on h.below h.below.size hb1) (Nat.le_refl _) h.led.bb (fun g hg => (own_base h.led.row g hg).1)
/-- An entry posted, what was handed in written over. -/
theorem St.case0 (h : St w0 wr k b v C ao cap T E) (hb1 : Below wr.heap.size wr w1) (hl2 : Led w2 w0.heap.size b v' C' T8 E8) (hv2 : ∀ g, v'.ownBlock = some g → v.ownBlock = some g ∨ w1.heap.size ≤ g) (hc2 : ∀ u ∈ C', u ∈ C ∨ ∀ g, u.ownBlock = some g → w1.heap.size ≤ g) (hn2 : E8 = [] → v' = v) (hn0 : E8 = [] → E = [])
    (hf2 : Fr b v.ownBlock w1 w2) (hr3 : REs w3 (NN wr w2 b v) ao' cap' E8) (hb3 : Below w2.heap.size w2 w3) {go : Nat} (hf4 : Fr go none w3 w4) (hg1 : wr.heap.size ≤ go) (hg2 : go < w1.heap.size) (hB : OkB T8) (hE : OkE E8 (k + 1)) (hO : OkT T8 E8) : St w0 w4 (k + 1) b v' C' ao' cap' T8 E8 := by
  have hbl := h.led.blk.lt
  have hs1 := hb1.size
  have hs2 := hf2.size
  have hrow : ∀ g, v'.ownBlock = some g → NN wr w2 b v g ∧ g ≠ go := fun g hg => by
    have h1 := (own_base hl2.row g hg).2
    rcases hv2 g hg with h2 | h2
    · have h3 := (own_base h.led.row g h2).2
      exact ⟨.inr (.inl h2), by omega⟩
    · exact ⟨.inr (.inr ⟨by omega, h1⟩), by omega⟩
  refine ⟨(hl2.keeps hb3).fr hf4 ?_, hB, hE, hO, fun h0 => by rw [hn2 h0]; exact h.nil (hn0 h0), ?_, ?_⟩
  · rintro q (rfl | hq | ⟨u, hu, hq⟩)
    · exact ⟨by omega, by simp⟩
    · exact ⟨(hrow q hq).2, by simp⟩
    · refine ⟨?_, by simp⟩
      rcases hc2 u hu with h1 | h1
      · have := (h.led.cblk h1 hq).1; omega
      · have := h1 q hq; omega
  · refine (hr3.fr hf4 (.inr (.inr ⟨hg1, by omega⟩)) (fun g hg => by cases hg)).to (fun q _ hn hm => hn ?_)
    rcases hm with rfl | hm
    · exact .inl rfl
    · exact (hrow q hm).1
  · have h3 : Below w0.heap.size w0 w3 := below_on (h.bel2 hb1 hf2) (h.bel2 hb1 hf2).size hb3
    exact hf4.below h3 (Nat.le_refl _) (Nat.le_trans h.below.size hg1) (fun g hg => by cases hg)
theorem St.case1 (h : St w0 wr k b v C ao cap T E) (hb1 : Below wr.heap.size wr w1) (hl2 : Led w2 w0.heap.size b v' C' T8 E8) (hv2 : ∀ g, v'.ownBlock = some g → v.ownBlock = some g ∨ w1.heap.size ≤ g) (hn2 : E8 = [] → v' = v) (hn0 : E8 = [] → E = [])
    (hf2 : Fr b v.ownBlock w1 w2) (hr3 : REs w3 (NN wr w2 b v) ao' cap' E8) (hb3 : Below w2.heap.size w2 w3) (hB : OkB T8) (hE : OkE E8 (k + 1)) (hO : OkT T8 E8) : St w0 w3 (k + 1) b v' C' ao' cap' T8 E8 := by
  have hs1 := hb1.size
  refine ⟨hl2.keeps hb3, hB, hE, hO, fun h0 => by rw [hn2 h0]; exact h.nil (hn0 h0), hr3.to (fun q _ hn hm => hn ?_), below_on (h.bel2 hb1 hf2) (h.bel2 hb1 hf2).size hb3⟩
  rcases hm with rfl | hm
  · exact .inl rfl
  · rcases hv2 q hm with h2 | h2
    · exact .inr (.inl h2)
    · exact .inr (.inr ⟨by omega, (own_base hl2.row q hm).2⟩)
/-- A clone made, the elder one at work. -/
theorem St.case2 (h : St w0 wr k b v C ao cap T E) (hb1 : Below wr.heap.size wr w1) {g : Nat} (hc : LClo w1 w2 b g C T E) (hf3 : Fr b v.ownBlock w2 w3) : ∃ v2, St w0 w3 (k + 1) g v2 C ao cap T E := by
  obtain ⟨v2, hl, hg, hv, hn, hb2⟩ := hc
  have hbl := h.led.blk.lt
  have hs1 := hb1.size
  have hs2 := hb2.size
  have hb12 := below_on hb1 hb1.size hb2
  refine ⟨v2, (hl.down (Nat.le_trans h.below.size hs1)).fr hf3 ?_, h.okb, h.oke.more (by omega), h.okt, hn, ?_, h.bel2 hb12 hf3⟩
  · rintro q (rfl | hq | ⟨u, hu, hq⟩)
    · exact ⟨by omega, fun e => by have := (own_base h.led.row q e.symm).2; omega⟩
    · have h1 := hv q hq
      exact ⟨by omega, fun e => by have := (own_base h.led.row q e.symm).2; omega⟩
    · have := h.led.cblk hu hq
      exact ⟨this.2.1, this.2.2⟩
  · refine (h.re2 hb12 hf3).to (fun q hq hn2 hm => hn2 ?_)
    have h2 := hl.blk.lt
    have h3 := hf3.size
    rcases hm with rfl | hm
    · exact .inr (.inr ⟨by omega, by omega⟩)
    · have h1 := own_base hl.row q hm
      exact .inr (.inr ⟨by omega, by omega⟩)
end
/-- The own copy, whatever its amounts have become. -/
def OWN (w : World) (go : Nat) (ao : Option Addr) (n : Nat) : Prop := n = 0 ∨ (ao = some ⟨go, 0, none⟩ ∧ ∃ (M : List Lg) (tl : List Value), M.length = n ∧ Blk w go 48 (rc lgc M ++ tl))
theorem own_of {w : World} {B : Nat} {ao : Option Addr} {cap : Nat} {L : List Lg} (h : OwG w B (.slice ao L.length cap) L) (hB : B < w.heap.size) : ∃ go, B ≤ go ∧ go < w.heap.size ∧ OWN w go ao L.length := by
  rcases h.2 with ⟨_, h0⟩ | ⟨g, cap', cur, e, h1, h2, h3, _, _, h4⟩
  · exact ⟨B, Nat.le_refl _, hB, .inl h0⟩
  · simp only [Value.slice.injEq] at e
    obtain ⟨rfl, _, _⟩ := e
    refine ⟨g, h1, (Array.getElem?_eq_some_iff.1 h2).1, .inr ⟨rfl, L, cur.toList.drop (L.length * 2), rfl, ⟨?_⟩⟩⟩
    rw [← h4, List.take_append_drop]
    simpa using h2
theorem OWN.fr {w w' : World} {go : Nat} {ao : Option Addr} {n b : Nat} {row : Option Nat} (h : OWN w go ao n) (hf : Fr b row w w') (h1 : go ≠ b) (h2 : some go ≠ row) : OWN w' go ao n := by
  rcases h with h | ⟨h, M, tl, hM, hB⟩
  · exact .inl h
  · exact .inr ⟨h, M, tl, hM, hB.fr hf h1 h2⟩
theorem OWN.keeps {w w' : World} {go : Nat} {ao : Option Addr} {n : Nat} (h : OWN w go ao n) (hb : Below w.heap.size w w') : OWN w' go ao n := by
  rcases h with h | ⟨h, M, tl, hM, hB⟩
  · exact .inl h
  · exact .inr ⟨h, M, tl, hM, hB.keeps hb⟩
end Go.Proofs.Yteghjdmalbcdfaa
