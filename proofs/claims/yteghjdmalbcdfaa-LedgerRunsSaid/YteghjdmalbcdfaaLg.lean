/-
  Legs of an entry: as cells; which can be; the walks of ledger.amounts, slices.Clone of legs.
-/
import Derived.Test.YteghjdmalbcdfaaRec
import Derived.Test.YteghjdmalbcdfaaSlI
import Derived.Lib.SliceRun
set_option linter.unusedVariables false
set_option linter.unusedSimpArgs false
namespace Go.Proofs.Yteghjdmalbcdfaa
open Go.RowKit

/-- A leg: account, amount. -/
abbrev Lg := Int × Int
def lgc (t : Lg) : List Value := [.int .i64 t.1, .int .i64 t.2]
theorem lgc_len (t : Lg) : (lgc t).length = 2 := rfl
theorem lgc_one (t : Lg) : ∀ u ∈ lgc t, u.oneCell' = true := by
  intro u hu
  simp only [lgc, List.mem_cons, List.not_mem_nil, or_false] at hu
  rcases hu with rfl | rfl <;> rfl
abbrev SlG (w : World) (ao : Option Addr) (cap : Nat) (L : List Lg) : Prop := Rk w 2 ao L.length cap (rc lgc L)
abbrev OwG (w : World) (base : Nat) (v : Value) (L : List Lg) : Prop := w.ownsRow base 48 2 v L.length (rc lgc L)
theorem info_lg : (Try.prog.info? 48).map (fun i => (i.zero, i.size, i.bytes)) = some (some (.agg #[.int .i64 0, .int .i64 0]), 2, 16) := by kernel_rfl
theorem size_lg (w : World) : (sizeOf 48).run Try.prog w = .ok 2 w := by
  obtain ⟨i, hi, _, hs, _⟩ := info_parts info_lg
  simp [sizeOf, typeInfo, hi, hs]
theorem lg_cells {w : World} {L : List Lg} {b off : Nat} (hc : ∀ j u, (rc lgc L)[j]? = some u → w.cell? ⟨b, off + j, none⟩ = some u) {k : Nat} {t : Lg} (ht : L[k]? = some t) :
    w.cell? ⟨b, off + k * 2, none⟩ = some (.int .i64 t.1) ∧ w.cell? ⟨b, off + k * 2 + 1, none⟩ = some (.int .i64 t.2) :=
  ⟨by have := hc _ _ (rc_at lgc_len ht 0 _ rfl); simpa using this, by have := hc _ _ (rc_at lgc_len ht 1 _ rfl); rw [← Nat.add_assoc] at this; exact this⟩
theorem below_grown {w w' w0 : World} {B base S n : Nat} {e : TypeId} {v : Value} {C : List Value} (h : w.ownsRow base e S v n C) (hg : w.grownBy w' v.ownBlock) (hB : B ≤ base) (hB0 : B ≤ w0.heap.size) (hb : Below B w0 w) : Below B w0 w' :=
  hb.grown hg (Nat.le_trans hB0 hb.size) (fun k hk => Nat.le_trans hB (World.ownsRow.lt h k hk).1)
theorem own_keeps {w w' : World} {B e S n : Nat} {v : Value} {C : List Value} (h : w.ownsRow B e S v n C) (hb : Below w.heap.size w w') : w'.ownsRow B e S v n C := by
  refine ⟨h.1, ?_⟩
  rcases h.2 with h2 | ⟨g, cap, cur, e, hb2, hg, r⟩
  · exact .inl h2
  · refine .inr ⟨g, cap, cur, e, hb2, ?_, r⟩
    rw [hb.block g ((Array.getElem?_eq_some_iff.1 hg).1)]; exact hg
theorem own_down {w : World} {B B' e S n : Nat} {v : Value} {C : List Value} (h : w.ownsRow B' e S v n C) (hB : B ≤ B') : w.ownsRow B e S v n C := by
  refine ⟨h.1, ?_⟩
  rcases h.2 with h2 | ⟨g, cap, cur, e, hb2, r⟩
  · exact .inl h2
  · exact .inr ⟨g, cap, cur, e, Nat.le_trans hB hb2, r⟩
section
variable {ops : Array Oper} {rest : List Oper} {o : Oper} {a : Act} {w : World} {Q : Exit → Act → World → Prop}
theorem ix_lg (hw : Region.wanted o (yielded ops a.tmps) = true) (s x : Operand) (ho : o.op = .indexAddr 23 s x) (ao : Option Addr) (cap : Nat) (L : List Lg) (hc : SlG w ao cap L) (hs : a.eval s = .slice ao L.length cap) (k : Nat) (t : Lg) (ht : L[k]? = some t) (hx : a.eval x = .int .i64 k)
    (h : ∀ b off, w.cell? ⟨b, off, none⟩ = some (.int .i64 t.1) → w.cell? ⟨b, off + 1, none⟩ = some (.int .i64 t.2) → wpList Try.prog ops Q rest (a.put o.dst (.pointer (some ⟨b, off, none⟩))) w) : wpList Try.prog ops Q (o :: rest) a w := by
  refine wpList_ix_rec hw 23 48 s x ho Try.underlying23 2 (by decide) size_lg ao L.length cap hs (rc lgc L) hc k (List.getElem?_eq_some_iff.1 ht).1 hx fun b off _ hcell => ?_
  obtain ⟨h0, h1⟩ := lg_cells hcell ht
  exact h b (off + k * 2) h0 h1
/-- append of legs. -/
theorem ap_lg (hw : Region.wanted o (yielded ops a.tmps) = true) (s x : Operand) (ho : o.op = .call { callee := .builtin .append, args := #[s, x], argTypes := #[23, 23] })
    (base : Nat) (v : Value) (hv : a.eval s = v) (L : List Lg) (hown : OwG w base v L)
    (ao : Option Addr) (cap : Nat) (M : List Lg) (hx : a.eval x = .slice ao M.length cap) (hs : SlG w ao cap M) (hbytes : L.length + M.length ≤ 1000000000000) (hbase : base ≤ w.heap.size)
    (h : ∀ v' w', OwG w' base v' (L ++ M) → w.grownBy w' v.ownBlock → (∀ g, v'.ownBlock = some g → v.ownBlock = some g ∨ w.heap.size ≤ g) → wpList Try.prog ops Q rest (a.put o.dst v') w') : wpList Try.prog ops Q (o :: rest) a w := by
  refine wpList_append_rec hw s x 23 23 ho base 48 _ 16 2 Try.underlying23 info_lg rfl v hv L.length (rc lgc L) hown _ hx M.length (rc lgc M) (Rk.src Try.underlying23 (by decide) hs (rc_cell lgc_one M)) (by omega) (by decide) hbase ?_
  intro v' w' h1 h2 h3
  exact h v' w' (by show World.ownsRow _ _ _ _ _ _ _; rw [rc_app, List.length_append]; exact h1) h2 h3
end
theorem ownG_empty (w : World) : OwG (w.alloc (.cells #[] 48)) w.heap.size (.slice (some ⟨w.heap.size, 0, none⟩) 0 0) [] :=
  ⟨rfl, .inr ⟨_, 0, #[], rfl, Nat.le_refl _, heap_alloc_new w _, Nat.le_refl _, by decide, rfl, rfl⟩⟩
theorem ownG_nil (w : World) (base : Nat) : OwG w base (.slice none 0 0) [] := World.ownsRow_nil w base _ 2
set_option maxRecDepth 8000 in
theorem lclone_any (w : World) (ao : Option Addr) (cap : Nat) (L : List Lg) (h : SlG w ao cap L) (hl : L.length ≤ 1000000000) :
    Calls Try.prog 28 #[.slice ao L.length cap] w fun e w' => ∃ v', e = .returned v' ∧ OwG w' w.heap.size v' L ∧ Below w.heap.size w w' := by
  cases ao with
  | none =>
    have hcap := h.nil rfl
    have hr := h.room
    have hL : L = [] := List.eq_nil_of_length_eq_zero (by omega)
    subst hL; subst hcap
    clear h
    have hq := fun w => _root_.Go.Lib.run_eql_slice_nil (P := Try.prog) w 23 48 none 0 0 0 0 Try.underlying23
    go_enter Try.func28, Try.ntmps28
    go_wp2
    go_ret
    exact ⟨_, rfl, ownG_nil w _, Below.refl _ _⟩
  | some ad =>
    have HV := Lib.hid (h.alloc (.cells #[] 48))
    have HO := Lib.hid (ownG_empty w)
    have HB := Lib.hid (below_new1 w (.cells #[] 48))
    clear h
    have hq := fun w => _root_.Go.Lib.run_eql_slice_nil (P := Try.prog) w 23 48 (some ad) L.length cap 0 0 Try.underlying23
    go_enter Try.func28, Try.ntmps28
    go_wp2_with (refine ap_lg rfl _ _ rfl w.heap.size _ rfl [] HO.out _ cap L rfl HV.out (by simp; omega) (by simp) ?_; intro v' w' h1 h2 h3)
    go_ret
    exact ⟨_, rfl, h1, below_grown HO.out h2 (Nat.le_refl _) (Nat.le_refl _) HB.out⟩
theorem map_take {α β : Type} (f : α → β) {L : List α} {k : Nat} {t : α} (h : L[k]? = some t) : (L.take (k + 1)).map f = (L.take k).map f ++ [f t] := by
  obtain ⟨hk, rfl⟩ := List.getElem?_eq_some_iff.1 h
  rw [List.take_succ_eq_append_getElem hk, List.map_append]; rfl
set_option maxRecDepth 8000 in
set_option maxHeartbeats 1600000 in
theorem amounts_any (w : World) (ao : Option Addr) (cap : Nat) (L : List Lg) (h : SlG w ao cap L) (hl : L.length ≤ 1000000000) :
    Calls Try.prog 33 #[.slice ao L.length cap] w fun e w' => ∃ v', e = .returned v' ∧ OwI w' w.heap.size v' (L.map (·.2)) ∧ Below w.heap.size w w' := by
  go_enter Try.func33, Try.ntmps33
  go_wp2
  go_loopw [3, 8] (fun o i wr => ∃ k : Nat, k ≤ L.length ∧ i = .int .i64 k ∧ Hid (OwI wr w.heap.size o ((L.take k).map (·.2))) ∧ Below w.heap.size w wr) (fun _ i _ => L.length - (intOf i).toNat)
  case atStart => exact ⟨0, by omega, rfl, owi_nil _ _, Below.refl _ _⟩
  case round =>
    obtain ⟨k, hk, rfl, HO, hb⟩ := hrel
    by_cases hkl : k < L.length
    · obtain ⟨⟨a, x⟩, ht⟩ : ∃ t, L[k]? = some t := ⟨_, List.getElem?_eq_getElem hkl⟩
      have HM := Lib.hid (map_take (fun t : Lg => t.2) ht)
      have HT := Lib.hid ht
      clear ht
      have hw := h.keeps hb
      have hb1 := hb.alloc hb.size (.cells #[.int .i64 a, .int .i64 x] 48)
      have HB1 := Lib.hid (hb1.alloc hb1.size (.cells #[.int .i64 x] 2))
      have HO1 : Hid (OwI ((wr.alloc (.cells #[.int .i64 a, .int .i64 x] 48)).alloc (.cells #[.int .i64 x] 2)) w.heap.size _ ((L.take k).map (·.2))) := own_keeps HO.out (below_new2 wr (.cells #[.int .i64 a, .int .i64 x] 48) (.cells #[.int .i64 x] 2))
      have hsl := sl_i1 (wr.alloc (.cells #[.int .i64 a, .int .i64 x] 48)) x
      rw [show (wr.alloc (.cells #[.int .i64 a, .int .i64 x] 48)).heap.size = wr.heap.size + 1 from by simp] at hsl
      have HSL := Lib.hid hsl
      clear hsl
      have hlen : ((L.take k).map (fun t : Lg => t.2)).length = k := by simp; omega
      obtain ⟨M, hM⟩ : ∃ M, (L.take k).map (fun t : Lg => t.2) = M := ⟨_, rfl⟩
      rw [hM] at hlen HM HO1
      have HL := Lib.hid hlen
      clear hb hb1 hlen hM HO
      go_wp2_with (first | (refine ix_lg rfl _ _ rfl ao cap L hw rfl k _ HT.out rfl ?_; intro b off c0 c1) | (refine ap_i rfl _ _ rfl w.heap.size _ rfl M ?_ _ 1 [x] rfl ?_ ?_ ?_ ?_))
      · exact HO1.out
      · exact HSL.out
      · have := HL.out; first | omega | (simp; omega)
      · exact (by simpa using HB1.out.size)
      · intro v' w' h1 h2 h3
        go_wp2
        go_roundw
        · exact ⟨k + 1, by omega, by go_num, by rw [HM.out]; exact h1, below_grown HO1.out h2 (Nat.le_refl _) (Nat.le_refl _) HB1.out⟩
        · simp [intOf]; omega
    · obtain rfl : k = L.length := by omega
      rw [List.take_length] at HO
      go_wp2
      go_ret
      exact ⟨_, rfl, HO.out, hb⟩
end Go.Proofs.Yteghjdmalbcdfaa
