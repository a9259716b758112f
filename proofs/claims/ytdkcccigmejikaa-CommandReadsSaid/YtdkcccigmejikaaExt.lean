/-
  A region that draws its order: what each operation yields is told of its value and of every world that comes behind it, in whatever sense of 'behind'.
-/
import Derived.Test.YtdkcccigmejikaaMono
import Derived.Test.YtdkcccigmejikaaRefTake
set_option linter.unusedVariables false
set_option linter.unusedSimpArgs false
namespace Go.Proofs.Ytdkcccigmejikaa
open Go.RowKit
/-- Nothing below B turns; two blocks of two cells, a slice and a truth each: the one stays, the other keeps what is laid in it; what bytes read stays. -/
structure Two (T B b4 : Nat) (C4 : List Value) (b2 : Nat) (C2 : List Value) (W W' : World) : Prop where
  below : Below B W W'
  keep : Blk W b4 T C4 → Blk W' b4 T C4
  two : (∃ x n c f, Blk W b2 T [.slice x n c, .bool f]) → ∃ x n c f, Blk W' b2 T [.slice x n c, .bool f]
  laid : Blk W b2 T C2 → Blk W' b2 T C2
  rd : (∃ x n c f, Blk W b2 T [.slice x n c, .bool f]) → ∀ ao n cap (L : List UInt8), Sl W ao n cap (bc L) → Sl W' ao n cap (bc L)
theorem Two.refl (T B b4 : Nat) (C4 : List Value) (b2 : Nat) (C2 : List Value) (W : World) : Two T B b4 C4 b2 C2 W W := ⟨Below.refl _ _, id, id, id, fun _ _ _ _ _ h => h⟩
theorem Two.drew (T B b4 : Nat) (C4 : List Value) (b2 : Nat) (C2 : List Value) (W : World) : Two T B b4 C4 b2 C2 W W.drew := ⟨(Below.refl _ _).drew, fun h => h.drew, fun ⟨x, n, c, f, h⟩ => ⟨x, n, c, f, h.drew⟩, fun h => h.drew, fun _ _ _ _ _ h => h.drew⟩
theorem Two.trans {T B b4 : Nat} {C4 : List Value} {b2 : Nat} {C2 : List Value} (a b c : World) (h : Two T B b4 C4 b2 C2 a b) (k : Two T B b4 C4 b2 C2 b c) : Two T B b4 C4 b2 C2 a c :=
  ⟨h.below.trans k.below, fun x => k.keep (h.keep x), fun x => k.two (h.two x), fun x => k.laid (h.laid x), fun t ao n cap L x => k.rd (h.two t) ao n cap L (h.rd t ao n cap L x)⟩
theorem Two.call {T B b4 : Nat} {C4 : List Value} {b2 : Nat} {C2 : List Value} {W W' : World} (h : Below W.heap.size W W') (hB : B ≤ W.heap.size) : Two T B b4 C4 b2 C2 W W' :=
  ⟨h.mono hB, fun x => x.keeps h, fun ⟨x, n, c, f, z⟩ => ⟨x, n, c, f, z.keeps h⟩, fun x => x.keeps h, fun _ _ _ _ _ x => x.keeps h⟩
theorem Two.store {T B b4 : Nat} {C4 : List Value} {b2 : Nat} {x : Option Addr} {n c : Nat} {f : Bool} {W : World} (hB : B ≤ b2) (hne : b4 ≠ b2) (h : ∃ x n c f, Blk W b2 T [.slice x n c, .bool f]) :
    Two T B b4 C4 b2 [.slice x n c, .bool f] W ((W.setCell ⟨b2, 0, none⟩ (.slice x n c)).setCell ⟨b2, 1, none⟩ (.bool f)) ∧ Blk ((W.setCell ⟨b2, 0, none⟩ (.slice x n c)).setCell ⟨b2, 1, none⟩ (.bool f)) b2 T [.slice x n c, .bool f] := by
  obtain ⟨x0, n0, c0, f0, hb⟩ := h
  have h2 : Blk ((W.setCell ⟨b2, 0, none⟩ (.slice x n c)).setCell ⟨b2, 1, none⟩ (.bool f)) b2 T [.slice x n c, .bool f] := (hb.set 0 _).set 1 _
  exact ⟨⟨((Below.refl _ _).setCell (p := ⟨b2, 0, none⟩) hB _).setCell (p := ⟨b2, 1, none⟩) hB _, fun h4 => (h4.other _ _ hne).other _ _ hne, fun _ => ⟨_, _, _, _, h2⟩, fun _ => h2,
    fun _ ao n cap L h => sl_set6 (x := x) (m := _) (cap := _) (f := f0) (hb.set 0 _) (sl_set6 hb h 0 _) 1 _⟩, h2⟩
end Go.Proofs.Ytdkcccigmejikaa
