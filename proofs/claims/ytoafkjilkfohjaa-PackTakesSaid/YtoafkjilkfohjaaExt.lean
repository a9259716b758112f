/-
  A region that draws its order: what each operation yields is told of its value and of every world that comes behind it, in whatever sense of 'behind'.
-/
import Derived.Test.YtoafkjilkfohjaaMono
import Derived.Test.YtoafkjilkfohjaaRefTake
set_option linter.unusedVariables false
set_option linter.unusedSimpArgs false
namespace Go.Proofs.Ytoafkjilkfohjaa
open Go.RowKit
theorem region_ext {P : Program} {ops : Array Oper} {Q : Exit → Act → World → Prop} {id : Nat} {fr : Array Value} {w : World} (hm : P.follows .mixedOrders = true) (hb : edgesBack ops = true) (S : List (Option Nat)) (hS : apartS ops S fr.size = true)
    (E : World → World → Prop) (hEt : ∀ a b c, E a b → E b c → E a c) (hEd : E w w.drew) (T : Nat → Value → World → Prop) (hT : ∀ i v W W', T i v W → E W W' → T i v W')
    (hstep : ∀ (i : Nat) (o : Oper) (V : Nat → Value) (a : Act) (W : World), ops[i]? = some o → FoundM S fr T o V a W → E w W →
      ∀ K : Act → World → Prop, (∀ v W', E W W' → T i v W' → K (a.put o.dst v) W') → if Region.wanted o (yielded ops a.tmps) = true then Oper.wp P o a W K Q else K (a.put o.dst undef) W)
    (hend : ∀ (V : Nat → Value) (W : World), (∀ i, i < ops.size → T i (V i) W) → E w W → Q .normal ⟨laid fr (pairsOf V 0 S), []⟩ W) : (Code.region id ops true).wp P Q ⟨fr, []⟩ w := by
  refine region_rel hm hb S hS (fun L V W => E w W ∧ ∀ i, L i = true → T i (V i) W) ?_ ?_ ?_
  · exact ⟨hEd, nofun⟩
  · rintro i o L V a W ho hL hf ⟨hbw, hall⟩ K hK
    refine hstep i o V a W ho ⟨fun e he hbd => ⟨hall _ (hf.up e he hbd), hf.dep e he hbd⟩, hf.rest, hf.size⟩ hbw K (fun v W' hb' ht => hK v W' ⟨hEt _ _ _ hbw hb', fun j hj => ?_⟩)
    by_cases hji : j = i
    · subst hji
      show T j (if j = j then v else V j) W'
      rw [if_pos rfl]; exact ht
    · replace hj : (if j = i then true else L j) = true := hj
      rw [if_neg hji] at hj
      show T j (if j = i then v else V j) W'
      rw [if_neg hji]
      exact hT j _ W W' (hall j hj) hb'
  · rintro L V W hall ⟨hbw, ht⟩
    exact hend V W (fun i hi => ht i (hall i hi)) hbw
/-- Nothing below B turns; two blocks of two cells, a slice and a truth each: the one stays, the other keeps what is laid in it; what bytes read stays. -/
structure Two (T B b4 : Nat) (C4 : List Value) (b2 : Nat) (C2 : List Value) (W W' : World) : Prop where
  below : Below B W W'
  keep : Blk W b4 T C4 → Blk W' b4 T C4
  two : (∃ x n c f, Blk W b2 T [.slice x n c, .bool f]) → ∃ x n c f, Blk W' b2 T [.slice x n c, .bool f]
  laid : Blk W b2 T C2 → Blk W' b2 T C2
  rd : (∃ x n c f, Blk W b2 T [.slice x n c, .bool f]) → ∀ ao n cap (L : List UInt8), Sl W ao n cap (bc L) → Sl W' ao n cap (bc L)
theorem Two.refl (T B b4 : Nat) (C4 : List Value) (b2 : Nat) (C2 : List Value) (W : World) : Two T B b4 C4 b2 C2 W W := ⟨Below.refl _ _, id, id, id, fun _ _ _ _ _ h => h⟩
theorem Two.drew (T B b4 : Nat) (C4 : List Value) (b2 : Nat) (C2 : List Value) (W : World) : Two T B b4 C4 b2 C2 W W.drew := ⟨(Below.refl _ _).drew, fun h => h.drew, fun ⟨x, n, c, f, h⟩ => ⟨x, n, c, f, h.drew⟩, fun h => h.drew, fun _ _ _ _ _ h => h.drew⟩
theorem Two.trans {T B b4 : Nat} {C4 : List Value} {b2 : Nat} {C2 : List Value} (a b c : World) (h : Two T B b4 C4 b2 C2 a b) (k : Two T B b4 C4 b2 C2 b c) : Two T B b4 C4 b2 C2 a c :=
  ⟨h.below.trans k.below, fun x => k.keep (h.keep x), fun x => k.two (h.two x), fun x => k.laid (h.laid x), fun t ao n cap L x => k.rd (h.two t) ao n cap L (h.rd t ao n cap L x)⟩
theorem Two.call {T B b4 : Nat} {C4 : List Value} {b2 : Nat} {C2 : List Value} {W W' : World} (h : Below W.heap.size W W') (hB : B ≤ W.heap.size) : Two T B b4 C4 b2 C2 W W' :=
  ⟨h.mono hB, fun x => x.keeps h, fun ⟨x, n, c, f, z⟩ => ⟨x, n, c, f, z.keeps h⟩, fun x => x.keeps h, fun _ _ _ _ _ x => x.keeps h⟩
theorem Two.store {T B b4 : Nat} {C4 : List Value} {b2 : Nat} {x : Option Addr} {n c : Nat} {f : Bool} {W : World} (hB : B ≤ b2) (hne : b4 ≠ b2) (h : ∃ x n c f, Blk W b2 T [.slice x n c, .bool f]) :
    Two T B b4 C4 b2 [.slice x n c, .bool f] W ((W.setCell ⟨b2, 0, none⟩ (.slice x n c)).setCell ⟨b2, 1, none⟩ (.bool f)) ∧ Blk ((W.setCell ⟨b2, 0, none⟩ (.slice x n c)).setCell ⟨b2, 1, none⟩ (.bool f)) b2 T [.slice x n c, .bool f] := by
  obtain ⟨x0, n0, c0, f0, hb⟩ := h
  have h2 : Blk ((W.setCell ⟨b2, 0, none⟩ (.slice x n c)).setCell ⟨b2, 1, none⟩ (.bool f)) b2 T [.slice x n c, .bool f] := (hb.set 0 _).set 1 _
  exact ⟨⟨((Below.refl _ _).setCell (p := ⟨b2, 0, none⟩) hB _).setCell (p := ⟨b2, 1, none⟩) hB _, fun h4 => (h4.other _ _ hne).other _ _ hne, fun _ => ⟨_, _, _, _, h2⟩, fun _ => h2,
    fun _ ao n cap L h => sl_set6 (x := x) (m := _) (cap := _) (f := f0) (hb.set 0 _) (sl_set6 hb h 0 _) 1 _⟩, h2⟩
end Go.Proofs.Ytoafkjilkfohjaa
