/-
  The walk of Ledger.Post.
-/
import Derived.Test.YteghjdmalbcdfaaLgD
set_option linter.unusedVariables false
set_option linter.unusedSimpArgs false
namespace Go.Proofs.Yteghjdmalbcdfaa
open Go.RowKit Dg

section
variable {ops : Array Oper} {rest : List Oper} {o : Oper} {a : Act} {w : World} {Q : Exit → Act → World → Prop} {K : Act → World → Prop}
/-- append of one entry, of an operation that stands by itself. -/
theorem ap_e_op (s x : Operand) (ho : o.op = .call { callee := .builtin .append, args := #[s, x], argTypes := #[52, 52] }) (hty : o.type = 52)
    (base : Nat) (v : Value) (hv : a.eval s = v) (n : Nat) (C : List Value) (hown : w.ownsRow base 23 1 v n C)
    (g : Nat) (u : Value) (hu : u.oneCell' = true) (hx : a.eval x = .slice (some ⟨g, 0, none⟩) 1 1) (hs : Blk w g 23 [u]) (hn : n ≤ 1000000) (hbase : base ≤ w.heap.size)
    (h : ∀ v' w', w'.ownsRow base 23 1 v' (n + 1) (C ++ [u]) → w.grownBy w' v.ownBlock → (∀ g, v'.ownBlock = some g → v.ownBlock = some g ∨ w.heap.size ≤ g) → K (a.put o.dst v') w') : Oper.wp Try.prog o a w K Q := by
  obtain ⟨i, hi, h0, h1, h2⟩ := info_parts info_legs
  have hsl : Sl w (some ⟨g, 0, none⟩) 1 1 [u] := ⟨rfl, Nat.le_refl _, by simp, fun _ => ⟨_, _, rfl, fun j u' hu' => by
    rw [Nat.zero_add]; exact hs.cell j u' hu'⟩⟩
  have hsrc := Sl.src Try.underlying52 hsl (by simpa using hu)
  obtain ⟨v', w', hrun, k1, k2, k3⟩ := run_append_own_src (P := Try.prog) w base 52 52 o.type 23 i (.slice none 0 0) 24 Try.underlying52 hi h0 h1 h2 rfl v n C hown (.slice (some ⟨g, 0, none⟩) 1 1) 1 [u] hsrc (by simp only [maxLen]; omega) (by omega) hbase
  unfold Oper.wp
  simp [execOp, ho, resolve, invoke, builtin, hv, hx, hrun, Result.andThen]
  exact h v' w' k1 k2 k3
end
theorem OwG.one {w : World} {base : Nat} {u : Value} {L : List Lg} (h : OwG w base u L) : u.oneCell' = true := by
  obtain ⟨ao, cap, rfl, _⟩ := Rk.own h
  rfl
theorem own_shape {w : World} {B e S n : Nat} {v : Value} {C : List Value} (h : w.ownsRow B e S v n C) : ∃ ao cap, v = .slice ao n cap := by
  rcases h.2 with ⟨rfl, hn⟩ | ⟨g, cap, cur, rfl, _⟩
  · exact ⟨none, 0, by rw [hn]⟩
  · exact ⟨_, _, rfl⟩
theorem own_base {w : World} {B e S n : Nat} {v : Value} {C : List Value} (h : w.ownsRow B e S v n C) : ∀ g, v.ownBlock = some g → B ≤ g ∧ g < w.heap.size := World.ownsRow.lt h
theorem Fr.one (w : World) (b o : Nat) (u : Value) : Fr b none w (w.setCell ⟨b, o, none⟩ u) := (Fr.of_below (b := b) (Below.refl _ _)).setCell ⟨b, o, none⟩ rfl u
/-- What each operation yields. -/
def PRp (b : Nat) (v arg : Value) : Nat → Value → Prop := fun i u => match i with | 0 => u = .pointer (some ⟨b, 0, none⟩) | 1 => u = .pointer (some ⟨b, 0, none⟩) | 2 => u = .pointer (some ⟨b, 0, none⟩) | 3 => u = .pointer (some ⟨b, 0, none⟩) | 4 => u = v | 5 => u = arg | 9 => u = .pointer (some ⟨b, 0, none⟩) | 10 => u = .pointer (some ⟨b, 0, none⟩) | _ => True
/-- Behind a posted entry. -/
theorem Led.post {w0 W : World} {B b : Nat} {v v8 : Value} {C : List Value} {T T2 : List Int} {E : List (List Lg)} {L : List Lg} (h : Led w0 B b v C T E) (hB : B ≤ w0.heap.size) (h2 : T2.length = 8) (hf : Fr b v.ownBlock w0 W) (hl : Blk W b 64 (v8 :: ic T2)) (ao : Option Addr) (cap : Nat)
    (hr : W.ownsRow B 23 1 v8 (E.length + 1) (C ++ [.slice ao L.length cap])) (hs : SlG W ao cap L) (hb6 : ∀ g, (Value.slice ao L.length cap).ownBlock = some g → w0.heap.size ≤ g ∧ g < W.heap.size) (h8 : ∀ g, v8.ownBlock = some g → v.ownBlock = some g ∨ w0.heap.size ≤ g) (hne : ∀ g, (Value.slice ao L.length cap).ownBlock = some g → v8.ownBlock ≠ some g) :
    Led W B b v8 (C ++ [.slice ao L.length cap]) T2 (E ++ [L]) := by
  have hlt := h.blk.lt
  have hown : ∀ a, ao = some a → (Value.slice ao L.length cap).ownBlock = some a.block := fun a e => by rw [e]; rfl
  refine ⟨hl, h2, by rw [List.length_append]; exact hr, h.bb, fun e => ?_, fun i L' hi => ?_⟩
  · rcases h8 b e with e | e
    · exact h.vb e
    · omega
  · have hC := h.row.1
    rw [Nat.mul_one] at hC
    by_cases hil : i < E.length
    · rw [List.getElem?_append_left hil] at hi
      obtain ⟨ao', cap', e1, e2, e3⟩ := h.ent i L' hi
      refine ⟨ao', cap', by rw [List.getElem?_append_left (by omega)]; exact e1, e2.fr hf (fun a ha => ⟨(e3 a ha).2.1, (e3 a ha).2.2⟩), fun a ha => ⟨Nat.lt_of_lt_of_le (e3 a ha).1 hf.size, (e3 a ha).2.1, fun e => ?_⟩⟩
      rcases h8 _ e.symm with h3 | h3
      · exact (e3 a ha).2.2 h3.symm
      · have := (e3 a ha).1; omega
    · rw [List.getElem?_append_right (by omega)] at hi
      have hi0 : i - E.length = 0 := by
        have := (List.getElem?_eq_some_iff.1 hi).1; simp at this; omega
      rw [hi0] at hi
      obtain rfl : L = L' := by simpa using hi
      refine ⟨ao, cap, by rw [List.getElem?_append_right (by omega), show i - C.length = 0 by omega]; rfl, hs, fun a ha => ⟨?_, ?_, ?_⟩⟩
      · have := hb6 _ (hown a ha); omega
      · have := hb6 _ (hown a ha); omega
      · exact fun e => hne _ (hown a ha) e.symm
end Go.Proofs.Yteghjdmalbcdfaa
