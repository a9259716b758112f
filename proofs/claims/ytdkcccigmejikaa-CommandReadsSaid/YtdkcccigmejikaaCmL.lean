/-
  The reference's reader of several numbers: the walk of its ints.
-/
import Derived.Test.YtdkcccigmejikaaCmK
import Derived.Test.YtdkcccigmejikaaRdV
set_option linter.unusedVariables false
set_option linter.unusedSimpArgs false
set_option maxRecDepth 20000
namespace Go.Proofs.Ytdkcccigmejikaa
open Go.RowKit

/-- The reference's reader in memory. -/
def RdR (w : World) (r BB : Nat) (L : List UInt8) (f : Bool) : Prop := ∃ ao cap, Blk w r 80 [.slice ao L.length cap, .bool f] ∧ Sl w ao L.length cap (bc L) ∧ ∀ a, ao = some a → a.block < BB
theorem bytes_apart {w : World} {r T : Nat} {ao x : Option Addr} {n cap m : Nat} {f : Bool} {L : List UInt8} {cap' : Nat} (hB : Blk w r T [.slice x m cap, .bool f]) (hs : Sl w ao n cap' (bc L)) (hne : bc L ≠ []) :
    ∃ b off, ao = some ⟨b, off, none⟩ ∧ b ≠ r ∧ ∀ j u, (bc L)[j]? = some u → w.cell? ⟨b, off + j, none⟩ = some u := by
  obtain ⟨b, off, e, hc⟩ := hs.cells hne
  refine ⟨b, off, e, ?_, hc⟩
  rintro rfl
  have hl : 0 < (bc L).length := List.length_pos_iff.2 hne
  obtain ⟨c, _, hu⟩ := bc_at L 0 _ (List.getElem?_eq_getElem hl)
  have h0 := hc 0 _ (List.getElem?_eq_getElem hl)
  rw [hu, cell_of_row w b _ _ _ _ hB.at_] at h0
  rcases off with _ | _ | off <;> simp at h0
theorem heap_setCells_at : ∀ (vs : List Value) (o : Nat) (w : World) (b g : Nat), g ≠ b → (w.setCells b o vs).heap[g]? = w.heap[g]?
  | [], _, _, _, _, _ => rfl
  | v :: r, o, w, b, g, h => by
    rw [World.setCells, heap_setCells_at r (o + 1) _ b g h, heap_setCell_other w ⟨b, o, none⟩ g v h]
theorem sl_setR {w : World} {r T : Nat} {ao x : Option Addr} {n cap m : Nat} {f : Bool} {L : List UInt8} {cap' : Nat} (hB : Blk w r T [.slice x m cap, .bool f]) (hs : Sl w ao n cap' (bc L)) (vs : List Value) : Sl (w.setCells r 0 vs) ao n cap' (bc L) :=
  ⟨hs.len, hs.room, hs.nil, fun hne => by
    obtain ⟨b, off, e, hbr, hc⟩ := bytes_apart hB hs hne
    refine ⟨b, off, e, fun j' u hu => ?_⟩
    rw [World.cell?_of_block (w := w) (heap_setCells_at vs 0 w r b hbr)]
    exact hc j' u hu⟩
theorem grown_setCells (w : World) (r o : Nat) (vs : List Value) : w.grownBy (w.setCells r o vs) (some r) := by
  induction vs generalizing o w with
  | nil => exact ⟨rfl, rfl, rfl, Nat.le_refl _, fun _ _ _ => rfl⟩
  | cons v l ih => exact grown_trans (grown_set w r o v) (ih _ _)
theorem grown_of_below {w w1 W : World} {row : Option Nat} (h : w.grownBy w1 row) (k : Below w1.heap.size w1 W) : w.grownBy W row :=
  ⟨k.os.trans h.os, k.tape.trans h.tape, k.output.trans h.output, Nat.le_trans h.size k.size, fun b hb hne => (k.block b (Nat.lt_of_lt_of_le hb h.size)).trans (h.block b hb hne)⟩
theorem grown_row {w w1 W : World} {r : Nat} {B : Nat} {v : Value} {M : List Int} (h : w.grownBy w1 (some r)) (ho : OwI w1 w.heap.size v M) (k : w1.grownBy W v.ownBlock) : w.grownBy W (some r) :=
  ⟨k.os.trans h.os, k.tape.trans h.tape, k.output.trans h.output, Nat.le_trans h.size k.size, fun b hb hne => (k.block b (Nat.lt_of_lt_of_le hb h.size) (fun e => by have := (World.ownsRow.lt ho b e.symm).1; omega)).trans (h.block b hb hne)⟩
theorem rdIs_flag : ∀ (m : Nat) (L : List UInt8) (f : Bool), (f = true → L = []) → ((rdIs m L f).2.2 = true → (rdIs m L f).2.1 = [])
  | 0, L, f, h => h
  | m + 1, L, f, h => rdIs_flag m _ _ (rdN_flag h)
theorem rdIs_le : ∀ (m : Nat) (L : List UInt8) (f : Bool), (rdIs m L f).2.1.length ≤ L.length
  | 0, L, f => Nat.le_refl _
  | m + 1, L, f => Nat.le_trans (rdIs_le m _ _) (rdN_le L f)
theorem RdR.keeps {w W : World} {r BB : Nat} {L : List UInt8} {f : Bool} (h : RdR w r BB L f) (hb : Below w.heap.size w W) : RdR W r BB L f := by
  obtain ⟨ao, cap, h1, h2, h3⟩ := h
  exact ⟨ao, cap, h1.keeps hb, h2.keeps hb, h3⟩
theorem RdR.row {w W : World} {r BB : Nat} {L : List UInt8} {f : Bool} {row : Option Nat} (h : RdR w r BB L f) (hg : w.grownBy W row) (hr : ∀ k, row = some k → r < k ∧ BB ≤ k) : RdR W r BB L f := by
  obtain ⟨ao, cap, h1, h2, h3⟩ := h
  refine ⟨ao, cap, ⟨by rw [hg.block r h1.lt (fun e => by have := (hr r e.symm).1; omega)]; exact h1.at_⟩, ⟨h2.len, h2.room, h2.nil, fun hne => ?_⟩, h3⟩
  obtain ⟨b, off, e, hc⟩ := h2.cells hne
  have hb : b < BB := h3 _ e
  refine ⟨b, off, e, fun j u hu => ?_⟩
  have h0 := hc j u hu
  have hlt : b < w.heap.size := World.block_lt_of_cell? w _ h0
  rw [World.cell?_of_block (w := w) (hg.block b hlt (fun e => by have := (hr b e.symm).2; omega))]
  exact h0
theorem info_rr : (Try.prog.info? 80).map (·.size) = some 2 := by kernel_rfl
section
variable {ops : Array Oper} {rest : List Oper} {op : Oper} {a : Act} {w : World} {Q : Exit → Act → World → Prop}
theorem st_rr (hgd : op.guard = none) (x y : Operand) (ho : op.op = .store 80 x y) (b o : Nat) (hx : a.eval x = .pointer (some ⟨b, o, none⟩)) (p q : Value) (hp : p.oneCell' = true) (hq : q.oneCell' = true) (hy : a.eval y = .agg #[p, q]) (hc : w.there b o 2)
    (h : ∀ W, Hid (W = w.setCells b o [p, q]) → wpList Try.prog ops Q rest (a.put op.dst undef) W) : wpList Try.prog ops Q (op :: rest) a w :=
  wpList_store_mid hgd _ x y ho b o #[p, q] hx hy hc info_rr (by simp [hp, hq]) (h _ (Lib.hid (by simp)))
end
set_option maxHeartbeats 3200000 in
theorem rrints_any (w : World) (r BB : Nat) (hBB : BB ≤ w.heap.size) (L : List UInt8) (f : Bool) (m : Nat) (h : RdR w r BB L f) (hf : f = true → L = []) (hl : L.length ≤ 1000000) (hm : m ≤ 1000) :
    Calls Try.prog 44 #[.pointer (some ⟨r, 0, none⟩), .int .i64 m] w fun e w' => ∃ v', e = .returned v' ∧ OwI w' w.heap.size v' (rdIs m L f).1 ∧ RdR w' r BB (rdIs m L f).2.1 (rdIs m L f).2.2 ∧ w.grownBy w' (some r) := by
  have hrl : r < w.heap.size := by obtain ⟨ao, cap, h1, _⟩ := h; exact h1.lt
  have HR0 := Lib.hid (h.keeps (below_new1 w (.cells #[] 2)))
  have HO0 := Lib.hid (own_i0 w)
  have HB0 := Lib.hid (grown_of_below (row := some r) (⟨rfl, rfl, rfl, Nat.le_refl _, fun _ _ _ => rfl⟩ : w.grownBy w (some r)) (below_new1 w (.cells #[] 2)))
  have HF := Lib.hid hf
  have HRL := Lib.hid hrl
  clear h hf hrl
  go_enter Try.func44, Try.ntmps44
  go_wp2
  go_loopw [5, 6] (fun u i wr => ∃ k : Nat, k ≤ m ∧ i = .int .i64 k ∧ Hid (OwI wr w.heap.size u (rdIs k L f).1) ∧ Hid (RdR wr r BB (rdIs k L f).2.1 (rdIs k L f).2.2) ∧ Hid (w.grownBy wr (some r))) (fun _ i _ => m - (intOf i).toNat)
  case atStart => exact ⟨0, by omega, rfl, HO0.out, HR0.out, HB0.out⟩
  case round =>
    obtain ⟨k, hk, rfl, HO, HR, HB⟩ := hrel
    by_cases hkl : k < m
    · have HT := Lib.hid (rdIs_snoc k L f)
      have HML : Hid ((rdIs k L f).1.length ≤ 1000) := by show _ ≤ _; rw [rdIs_len]; omega
      have HFl := Lib.hid (rdIs_flag k L f HF.out)
      have HLe := Lib.hid (Nat.le_trans (rdIs_le k L f) hl)
      obtain ⟨M, Lk, fk, hq⟩ : ∃ M Lk fk, rdIs k L f = (M, Lk, fk) := ⟨_, _, _, rfl⟩
      rw [hq] at HO HR HT HML HFl HLe
      replace HO : Hid (OwI wr w.heap.size u5 M) := HO
      replace HML : Hid (M.length ≤ 1000) := HML
      obtain ⟨ao, cap, hB, hs, hlo⟩ := HR.out
      replace hB : Blk wr r 80 [.slice ao Lk.length cap, .bool fk] := hB
      replace hs : Sl wr ao Lk.length cap (bc Lk) := hs
      have HT1 := Lib.hid (tint_q wr (.agg #[.slice ao Lk.length cap, .bool fk]) BB Lk fk ⟨ao, cap, rfl, hs, hlo⟩ HFl.out HLe.out)
      have c0 := hB.cell 0 _ rfl
      have c1 := hB.cell 1 _ rfl
      have HBk := Lib.hid hB
      clear hq hB hs HR hlo
      go_wp2_with fail
      refine HT1.out.mono ?_
      rintro e w1 ⟨v1, rfl, ⟨a1, p1, rfl, hs1, hlo1⟩, hb1⟩
      have hbx := hb1.alloc hb1.size (.cells #[.slice a1 (rdN Lk fk).2.1.length p1, .bool (rdN Lk fk).2.2] 80)
      have HBx := Lib.hid (grown_of_below HB.out hbx)
      have HOx := Lib.hid (owi_kp HO.out hbx)
      have HBkx := Lib.hid (HBk.out.keeps hbx)
      have HSx := Lib.hid (hs1.keeps (below_new1 w1 (.cells #[.slice a1 (rdN Lk fk).2.1.length p1, .bool (rdN Lk fk).2.2] 80)))
      have HTH := Lib.hid (HBkx.out.thereMid 0 2 (by simp))
      have HLo1 := Lib.hid hlo1
      clear c0 c1 hb1 hbx hs1 hlo1 HT1 HB HO HBk
      go_wp2_with (first | (refine st_rr rfl _ _ rfl r 0 rfl (.slice a1 (rdN Lk fk).2.1.length p1) (.bool (rdN Lk fk).2.2) rfl rfl rfl HTH.out ?_) | fail)
      intro W hW
      have HBn : Hid (w.grownBy W (some r)) := by show World.grownBy _ _ _; rw [hW.out]; exact grown_trans HBx.out (grown_setCells _ r 0 _)
      have HOn : Hid (OwI W w.heap.size u5 M) := by show OwI _ _ _ _; rw [hW.out]; exact owi_setCells _ HOx.out HRL.out 0
      have HRn : Hid (RdR W r BB (rdN Lk fk).2.1 (rdN Lk fk).2.2) := by
        show RdR _ _ _ _ _
        rw [hW.out]
        exact ⟨a1, p1, HBkx.out.setAll _ rfl, sl_setR HBkx.out HSx.out _, HLo1.out⟩
      clear hW HBx HOx HBkx HSx HTH
      obtain ⟨x, hx⟩ : ∃ x, back (rdN Lk fk).1 = x := ⟨_, rfl⟩
      have hE1 : rdIs (k + 1) L f = (M ++ [x], (rdN Lk fk).2) := by rw [HT.out, hx]
      have HO1 := Lib.hid (owi_kp HOn.out (below_new1 W (.cells #[.int .i64 x] 2)))
      have HR1 := Lib.hid (HRn.out.keeps (below_new1 W (.cells #[.int .i64 x] 2)))
      have HB1 := Lib.hid (grown_of_below HBn.out (below_new1 W (.cells #[.int .i64 x] 2)))
      have HSL := Lib.hid (sl_i1 W x)
      have HE1 := Lib.hid hE1
      simp only [hx]
      clear hx hE1 HOn HRn HBn
      go_wp2_with (refine ap_i rfl _ _ rfl w.heap.size _ rfl M ?_ _ 1 [x] rfl ?_ ?_ ?_ ?_)
      · exact HO1.out
      · exact HSL.out
      · have := HML.out; simp; omega
      · exact HB1.out.size
      intro v' w' h1 h2 h3
      have HB2 := Lib.hid (grown_row (B := 0) HB1.out HO1.out h2)
      have HR2 : Hid (RdR w' r BB (rdN Lk fk).2.1 (rdN Lk fk).2.2) := HR1.out.row h2 (fun k hk => by
        have := (World.ownsRow.lt HO1.out k hk).1
        have := HRL.out
        omega)
      have HO2 := Lib.hid h1
      clear h1 h2 h3
      go_wp2
      go_roundw
      · exact ⟨k + 1, by omega, by go_num, by rw [HE1.out]; exact HO2.out, by rw [HE1.out]; exact HR2.out, HB2.out⟩
      · simp [intOf]; omega
    · obtain rfl : k = m := by omega
      go_wp2
      go_ret
      exact ⟨_, rfl, HO.out, HR.out, HB.out⟩
end Go.Proofs.Ytdkcccigmejikaa
