/-
  A ledger: what is read of it; what stays while an entry is posted.
-/
import Derived.Test.YteghjdmalbcdfaaLgC
import Derived.Test.YteghjdmalbcdfaaRel
set_option linter.unusedVariables false
set_option linter.unusedSimpArgs false
namespace Go.Proofs.Yteghjdmalbcdfaa
open Go.RowKit Dg

/-- All blocks but two are as they were. -/
structure Fr (b : Nat) (row : Option Nat) (w w' : World) : Prop where
  os : w'.os = w.os
  tape : w'.tape = w.tape
  output : w'.output = w.output
  size : w.heap.size ≤ w'.heap.size
  block : ∀ k, k < w.heap.size → k ≠ b → some k ≠ row → w'.heap[k]? = w.heap[k]?
theorem Fr.of_below {b : Nat} {row : Option Nat} {w w' : World} (h : Below w.heap.size w w') : Fr b row w w' := ⟨h.os, h.tape, h.output, h.size, fun k hk _ _ => h.block k hk⟩
theorem Fr.trans {b : Nat} {row : Option Nat} {w w1 w2 : World} (h : Fr b row w w1) (h2 : Fr b row w1 w2) : Fr b row w w2 :=
  ⟨h2.os.trans h.os, h2.tape.trans h.tape, h2.output.trans h.output, Nat.le_trans h.size h2.size, fun k hk h3 h4 => (h2.block k (Nat.lt_of_lt_of_le hk h.size) h3 h4).trans (h.block k hk h3 h4)⟩
theorem Fr.grown {b : Nat} {row : Option Nat} {w w1 w2 : World} (h : Fr b row w w1) (h2 : w1.grownBy w2 row) : Fr b row w w2 :=
  ⟨h2.os.trans h.os, h2.tape.trans h.tape, h2.output.trans h.output, Nat.le_trans h.size h2.size, fun k hk h3 h4 => (h2.block k (Nat.lt_of_lt_of_le hk h.size) h4).trans (h.block k hk h3 h4)⟩
theorem Fr.setCell {b : Nat} {row : Option Nat} {w w1 : World} (h : Fr b row w w1) (a : Addr) (ha : a.block = b) (u : Value) : Fr b row w (w1.setCell a u) :=
  ⟨h.os, h.tape, h.output, by simpa using h.size, fun k hk h3 h4 => (heap_setCell_other w1 a k u (by rw [ha]; exact h3)).trans (h.block k hk h3 h4)⟩
theorem Fr.setCells {b : Nat} {row : Option Nat} {w w1 : World} (h : Fr b row w w1) (o : Nat) (vs : List Value) : Fr b row w (w1.setCells b o vs) := by
  refine ⟨(setCells_os b vs o w1).1.trans h.os, (setCells_os b vs o w1).2.1.trans h.tape, (setCells_os b vs o w1).2.2.trans h.output, by rw [heap_size_setCells]; exact h.size, fun k hk h3 h4 => (heap_setCells_other b k vs o w1 h3).trans (h.block k hk h3 h4)⟩
theorem Fr.below {b : Nat} {row : Option Nat} {w0 w w' : World} {B : Nat} (h : Fr b row w w') (hb : Below B w0 w) (hB : B ≤ w0.heap.size) (h1 : B ≤ b) (h2 : ∀ k, row = some k → B ≤ k) : Below B w0 w' :=
  ⟨h.os.trans hb.os, h.tape.trans hb.tape, h.output.trans hb.output, Nat.le_trans hb.size h.size, fun k hk => (h.block k (Nat.lt_of_lt_of_le (Nat.lt_of_lt_of_le hk hB) hb.size) (by omega) (fun e => by have := h2 k e.symm; omega)).trans (hb.block k hk)⟩
theorem Blk.fr {w w' : World} {b B T : Nat} {C : List Value} {row : Option Nat} (h : Blk w B T C) (hf : Fr b row w w') (h1 : B ≠ b) (h2 : some B ≠ row) : Blk w' B T C := ⟨by rw [hf.block B h.lt h1 h2]; exact h.at_⟩
theorem Rk.fr {w w' : World} {S n cap b : Nat} {ao : Option Addr} {C : List Value} {row : Option Nat} (h : Rk w S ao n cap C) (hf : Fr b row w w') (hne : ∀ a, ao = some a → a.block ≠ b ∧ some a.block ≠ row) : Rk w' S ao n cap C :=
  ⟨h.len, h.room, h.nil, fun hn => by
    obtain ⟨g, off, e, hc⟩ := h.cells hn
    obtain ⟨n1, n2⟩ := hne _ e
    exact ⟨g, off, e, fun j u hu => by
      have h1 := hc j u hu
      have hlt : g < w.heap.size := World.block_lt_of_cell? w _ h1
      rw [World.cell?_of_block (hf.block g hlt n1 n2)]; exact h1⟩⟩
theorem Rk.fr' {w w' : World} {S n cap b : Nat} {ao : Option Addr} {C : List Value} {row : Option Nat} (h : Rk w S ao n cap C) (hf : Fr b row w w') (hne : C ≠ [] → ∀ a, ao = some a → a.block ≠ b ∧ some a.block ≠ row) : Rk w' S ao n cap C :=
  ⟨h.len, h.room, h.nil, fun hn => by
    obtain ⟨g, off, e, hc⟩ := h.cells hn
    obtain ⟨n1, n2⟩ := hne hn _ e
    exact ⟨g, off, e, fun j u hu => by
      have h1 := hc j u hu
      have hlt : g < w.heap.size := World.block_lt_of_cell? w _ h1
      rw [World.cell?_of_block (hf.block g hlt n1 n2)]; exact h1⟩⟩
theorem own_fr {w w' : World} {base e S n b : Nat} {v : Value} {C : List Value} {row : Option Nat} (h : w.ownsRow base e S v n C) (hf : Fr b row w w') (h1 : v.ownBlock ≠ some b) (h2 : v.ownBlock = none ∨ v.ownBlock ≠ row) : w'.ownsRow base e S v n C := by
  refine ⟨h.1, ?_⟩
  rcases h.2 with hn | ⟨g, cap, cur, rfl, hb, hgg, rest⟩
  · exact .inl hn
  · refine .inr ⟨g, cap, cur, rfl, hb, ?_, rest⟩
    have hlt : g < w.heap.size := by
      by_cases hb : g < w.heap.size
      · exact hb
      · rw [Array.getElem?_eq_none (by omega)] at hgg; simp at hgg
    rw [hf.block g hlt (fun e => h1 (by rw [e]; rfl)) (fun e => by rcases h2 with h2 | h2 <;> simp [Value.ownBlock] at h2 <;> exact h2 e)]
    exact hgg
/-- A ledger at block b, whose entries' row is v: balances T, entries E. -/
structure Led (w : World) (B b : Nat) (v : Value) (C : List Value) (T : List Int) (E : List (List Lg)) : Prop where
  blk : Blk w b 64 (v :: ic T)
  len : T.length = 8
  row : w.ownsRow B 23 1 v E.length C
  bb : B ≤ b
  vb : v.ownBlock ≠ some b
  ent : ∀ (i : Nat) (L : List Lg), E[i]? = some L → ∃ (ao : Option Addr) (cap : Nat), C[i]? = some (Value.slice ao L.length cap) ∧ SlG w ao cap L ∧ (∀ a, ao = some a → a.block < w.heap.size ∧ a.block ≠ b ∧ some a.block ≠ v.ownBlock)
theorem Led.keeps {w w' : World} {B b : Nat} {v : Value} {C : List Value} {T : List Int} {E : List (List Lg)} (h : Led w B b v C T E) (hb : Below w.heap.size w w') : Led w' B b v C T E :=
  ⟨h.blk.keeps hb, h.len, own_keeps h.row hb, h.bb, h.vb, fun i L hi => by
    obtain ⟨ao, cap, h1, h2, h3⟩ := h.ent i L hi
    exact ⟨ao, cap, h1, h2.keeps hb, fun a ha => ⟨Nat.lt_of_lt_of_le (h3 a ha).1 hb.size, (h3 a ha).2⟩⟩⟩
/-- What Post answers: balances, entries, the number, the error's number. -/
def postS (T : List Int) (E : List (List Lg)) (L : List Lg) : List Int × List (List Lg) × Int × Int :=
  if (addS T L).2 = 131 then (T, E, 0, 131) else if 4096 ≤ E.length then (T, E, 0, 132) else if (addS T L).2 = 0 then ((addS T L).1, E ++ [L], E.length, 0) else (T, E, 0, (addS T L).2)
theorem info_legs : (Try.prog.info? 23).map (fun i => (i.zero, i.size, i.bytes)) = some (some (.slice none 0 0), 1, 24) := by kernel_rfl
/-- What stands while an entry is appended. -/
structure RP (w0 : World) (B b n : Nat) (v : Value) (C : List Value) (T : List Int) (L : List Lg) (PR : Nat → Value → Prop) (Ld : Nat → Bool) (V : Nat → Value) (W : World) : Prop where
  pure : ∀ i, Ld i = true → PR i (V i)
  pre : Ld 8 = false → Below w0.heap.size w0 W
  fr : Fr b v.ownBlock w0 W
  l6 : Ld 6 = true → Ld 8 = false → OwG W w0.heap.size (V 6) L
  l7 : Ld 7 = true → Ld 8 = false → ∃ g, V 7 = .slice (some ⟨g, 0, none⟩) 1 1 ∧ Blk W g 23 [V 6] ∧ w0.heap.size ≤ g
  l8 : Ld 8 = true → W.ownsRow B 23 1 (V 8) (n + 1) (C ++ [V 6]) ∧ OwG W w0.heap.size (V 6) L ∧ (∀ g, (V 8).ownBlock = some g → v.ownBlock = some g ∨ w0.heap.size ≤ g) ∧ (∀ g, (V 6).ownBlock = some g → (V 8).ownBlock ≠ some g)
  led : Ld 8 = true → Ld 11 = false → Blk W b 64 (v :: ic T)
  l11 : Ld 11 = true → Blk W b 64 (V 8 :: ic T)
  d7 : Ld 7 = true → Ld 6 = true
  d8 : Ld 8 = true → Ld 7 = true
  d84 : Ld 8 = true → Ld 4 = true
  d11 : Ld 11 = true → Ld 8 = true
theorem pure_extL {PR : Nat → Value → Prop} {Ld : Nat → Bool} {V : Nat → Value} (h : ∀ i, Ld i = true → PR i (V i)) (i : Nat) (v : Value) (hv : PR i v) : ∀ j, (if j = i then true else Ld j) = true → PR j (if j = i then v else V j) := by
  intro j hj
  by_cases e : j = i
  · rw [if_pos e, e]; exact hv
  · rw [if_neg e] at hj ⊢
    exact h j hj
theorem RP.set {w0 : World} {B b n : Nat} {v : Value} {C : List Value} {T : List Int} {L : List Lg} {PR : Nat → Value → Prop} {Ld : Nat → Bool} {V : Nat → Value} {W : World} (h : RP w0 B b n v C T L PR Ld V W) (i : Nat) (u : Value) (h6 : i ≠ 6) (h7 : i ≠ 7) (h8 : i ≠ 8) (h11 : i ≠ 11) (hp : PR i u) :
    RP w0 B b n v C T L PR (fun j => if j = i then true else Ld j) (fun j => if j = i then u else V j) W := by
  refine ⟨pure_extL h.pure i u hp, ?_, h.fr, ?_, ?_, ?_, ?_, ?_, ?_, ?_, ?_, ?_⟩
  all_goals simp only [if_neg h6.symm, if_neg h7.symm, if_neg h8.symm, if_neg h11.symm]
  · exact h.pre
  · exact h.l6
  · exact h.l7
  · exact h.l8
  · exact h.led
  · exact h.l11
  · exact h.d7
  · exact h.d8
  · intro a
    by_cases e : 4 = i
    · rw [if_pos e]
    · rw [if_neg e]; exact h.d84 a
  · exact h.d11
end Go.Proofs.Yteghjdmalbcdfaa
