/-
  The walks of the reference's tranches: Sums, Right.
-/
import Derived.Test.YthcimllkcaknhaaRefSum
import Derived.Test.YthcimllkcaknhaaOwnAll
import Derived.Test.YthcimllkcaknhaaTrDays
set_option linter.unusedVariables false
set_option linter.unusedSimpArgs false
namespace Go.Proofs.Ythcimllkcaknhaa
open Go.RowKit Dg

theorem info_i64 : (Try.prog.info? 2).map (fun i => (i.zero, i.size, i.bytes)) = some (some (.int .i64 0), 1, 8) := by kernel_rfl
theorem ic_one (L : List Int) : ∀ u ∈ ic L, u.oneCell' = true := by
  intro u hu
  obtain ⟨b, _, rfl⟩ := List.mem_map.1 hu
  rfl
theorem ic_app (L M : List Int) : ic (L ++ M) = ic L ++ ic M := by simp [ic]
theorem OwnAll.swap {w : World} {B : Nat} {x y : TypeId × Value × List Value} (h : OwnAll w B [x, y]) : OwnAll w B [y, x] := by
  refine ⟨fun i z hz => ?_, fun i j u v g hi hj hu hv => ?_⟩
  · rcases i with _ | _ | i
    · exact h.1 1 z hz
    · exact h.1 0 z hz
    · simp at hz
  · rcases i with _ | _ | i
    · rcases j with _ | _ | j
      · rfl
      · have := h.2 1 0 u v g hi hj hu hv; omega
      · simp at hj
    · rcases j with _ | _ | j
      · have := h.2 0 1 u v g hi hj hu hv; omega
      · rfl
      · simp at hj
    · simp at hi
/-- A call's own row of integers. -/
abbrev OwI (w : World) (base : Nat) (v : Value) (L : List Int) : Prop := w.ownsRow base 2 1 v L.length (ic L)
theorem OwI.sl {w : World} {base : Nat} {v : Value} {L : List Int} (h : OwI w base v L) : ∃ ao cap, v = .slice ao L.length cap ∧ Sl w ao L.length cap (ic L) := by
  have h2 : w.ownsRow base 2 1 v (ic L).length (ic L) := by rw [ic_len]; exact h
  obtain ⟨ao, cap, e, hs, _⟩ := Sl.own h2
  rw [ic_len] at e hs
  exact ⟨ao, cap, e, hs⟩
theorem OwnAll.ints {w : World} {B : Nat} {R : List (TypeId × Value × List Value)} (h : OwnAll w B R) (i : Nat) {v : Value} {L : List Int} (hi : R[i]? = some (2, v, ic L)) : OwI w B v L := by
  have := h.get i hi
  rw [ic_len] at this
  exact this
theorem Blk.grown {w w' : World} {b T : Nat} {C : List Value} {row : Option Nat} (h : Blk w b T C) (hg : w.grownBy w' row) (hne : row ≠ some b) : Blk w' b T C :=
  ⟨by
    obtain ⟨_, _, _, _, hk⟩ := hg
    rw [hk b h.lt (fun e => hne e.symm)]; exact h.at_⟩
theorem sl_i1 (w : World) (x : Int) : Sl (w.alloc (.cells #[.int .i64 x] 2)) (some ⟨w.heap.size, 0, none⟩) 1 1 (ic [x]) :=
  ⟨rfl, Nat.le_refl _, by simp, fun _ => ⟨_, _, rfl, fun j u hu => by
    rw [Nat.zero_add]
    exact (Blk.new w 2 [.int .i64 x]).cell j u hu⟩⟩
section
variable {ops : Array Oper} {rest : List Oper} {o : Oper} {a : Act} {w : World} {Q : Exit → Act → World → Prop}
/-- append of integers. -/
theorem ap_i (hw : Region.wanted o (yielded ops a.tmps) = true) (s x : Operand) (ho : o.op = .call { callee := .builtin .append, args := #[s, x], argTypes := #[66, 66] })
    (base : Nat) (v : Value) (hv : a.eval s = v) (L : List Int) (hown : OwI w base v L)
    (ao : Option Addr) (cap : Nat) (M : List Int) (hx : a.eval x = .slice ao M.length cap) (hs : Sl w ao M.length cap (ic M)) (hbytes : L.length + M.length ≤ 1000000000000) (hbase : base ≤ w.heap.size)
    (h : ∀ v' w', OwI w' base v' (L ++ M) → w.grownBy w' v.ownBlock → (∀ g, v'.ownBlock = some g → v.ownBlock = some g ∨ w.heap.size ≤ g) → wpList Try.prog ops Q rest (a.put o.dst v') w') : wpList Try.prog ops Q (o :: rest) a w := by
  obtain ⟨i, hi, h0, h1, h2⟩ := info_parts info_i64
  have hsrc := Sl.src Try.underlying66 hs (ic_one M)
  refine wpList_append_src hw s x 66 66 ho base 2 i (.int .i64 0) 8 Try.underlying66 hi h0 h1 h2 rfl v hv (ic L) (by rw [ic_len]; exact hown) _ hx (ic M) (by rw [ic_len] at hsrc ⊢; exact hsrc) (by rw [ic_len, ic_len]; omega) (by decide) hbase ?_
  intro v' w' h1 h2 h3
  exact h v' w' (by rw [← ic_app, ic_len] at h1; exact h1) h2 h3
end
theorem own_i0 (w : World) : OwI (w.alloc (.cells #[] 2)) w.heap.size (.slice (some ⟨w.heap.size, 0, none⟩) 0 0) [] :=
  ⟨rfl, .inr ⟨_, 0, #[], rfl, Nat.le_refl _, heap_alloc_new w _, Nat.le_refl _, by decide, rfl, rfl⟩⟩
theorem sumI_owed (L : List Tr) : sumI (L.map (·.1)) = owedT L := by
  induction L with
  | nil => rfl
  | cons t l ih => simp only [List.map_cons, sumI, owedT, ih]
theorem sumI_post (L : List Tr) : sumI (L.map (·.2.2)) = postT L := by
  induction L with
  | nil => rfl
  | cons t l ih => simp only [List.map_cons, sumI, postT, ih]
theorem take_mapI {L : List Tr} {k : Nat} {t : Tr} (h : L[k]? = some t) (f : Tr → Int) : (L.take (k + 1)).map f = (L.take k).map f ++ [f t] := by
  obtain ⟨hk, rfl⟩ := List.getElem?_eq_some_iff.1 h
  rw [List.take_succ_eq_append_getElem hk, List.map_append]; rfl
set_option maxRecDepth 8000 in
set_option maxHeartbeats 1600000 in
theorem sums_any (w : World) (ao : Option Addr) (cap : Nat) (L : List Tr) (h : SlT w ao cap L) (hall : L.all okT = true) (hl : L.length ≤ 300) :
    Calls Try.prog 18 #[.slice ao L.length cap] w fun e w' => e = .returned (.tuple #[.int .i64 (owedT L), .int .i64 (postT L)]) ∧ Below w.heap.size w w' := by
  go_enter Try.func18, Try.ntmps18
  go_wp2
  go_loopw [4, 5, 16] (fun v4 v5 i wr => ∃ (k : Nat), k ≤ L.length ∧ i = .int .i64 k ∧ Hid (OwnAll wr w.heap.size [(2, v4, ic ((L.take k).map (·.1))), (2, v5, ic ((L.take k).map (·.2.2)))]) ∧ Below w.heap.size w wr) (fun _ _ i _ => L.length - (intOf i).toNat)
  case atStart =>
    refine ⟨0, by omega, rfl, ?_, below_new2 w _ _⟩
    show OwnAll _ _ _
    have h1 := (OwnAll.none (w.alloc (.cells #[] 2)) w.heap.size).add (w' := (w.alloc (.cells #[] 2)).alloc (.cells #[] 2)) (below_new1 _ _) (by simp) (own_i0 (w.alloc (.cells #[] 2)))
    have h0 := (OwnAll.none w w.heap.size).add (below_new1 w (.cells #[] 2)) (Nat.le_refl _) (own_i0 w)
    have h2 := h0.add (below_new1 _ (.cells #[] 2)) (by simp) (own_i0 (w.alloc (.cells #[] 2)))
    have h3 := h2.swap
    simpa using h3
  case round =>
    obtain ⟨k, hk, rfl, HO, hb⟩ := hrel
    by_cases hkl : k < L.length
    · obtain ⟨t, ht⟩ : ∃ t, L[k]? = some t := ⟨_, List.getElem?_eq_getElem hkl⟩
      have HT := Lib.hid ht
      clear ht
      have hw := h.keeps hb
      have l1 : ((L.take k).map (·.1)).length = k := by simp; omega
      have l2 : ((L.take k).map (·.2.2)).length = k := by simp; omega
      have L1 := Lib.hid l1; have L2 := Lib.hid l2
      clear l1 l2
      have HO1 := Lib.hid (HO.out.keeps (below_new2 wr (.cells #[.int .i64 t.1, .int .i64 t.2.1, .int .i64 t.2.2] 56) (.cells #[.int .i64 t.1] 2)))
      have HB1 := Lib.hid (below_on hb hb.size (below_new2 wr (.cells #[.int .i64 t.1, .int .i64 t.2.1, .int .i64 t.2.2] 56) (.cells #[.int .i64 t.1] 2)))
      have hsl := sl_i1 (wr.alloc (.cells #[.int .i64 t.1, .int .i64 t.2.1, .int .i64 t.2.2] 56)) t.1
      rw [show (wr.alloc (.cells #[.int .i64 t.1, .int .i64 t.2.1, .int .i64 t.2.2] 56)).heap.size = wr.heap.size + 1 from by simp] at hsl
      have HSL := Lib.hid hsl
      clear hsl
      go_upto_region 7 with (first | (refine ix_tr rfl _ _ rfl ao cap L hw rfl k t HT.out rfl ?_; intro b off c0 c1 c2) | (refine ap_i rfl _ _ rfl w.heap.size _ rfl ((L.take k).map (·.1)) (HO1.out.ints 0 rfl) _ 1 [t.1] rfl HSL.out (by rw [L1.out]; simp; omega) HB1.out.size ?_; intro u4 w2 ho4 hg4 hf4))
      have HO2 := Lib.hid (HO1.out.grow 0 rfl (show w2.ownsRow _ _ _ _ _ _ from by rw [ic_len]; exact ho4) hg4 hf4)
      have HB2 := Lib.hid (HO1.out.below 0 rfl hg4 (Nat.le_refl _) HB1.out)
      rw [← take_mapI HT.out] at HO2
      have hX := ((Blk.new wr 56 [.int .i64 t.1, .int .i64 t.2.1, .int .i64 t.2.2]).alloc (.cells #[.int .i64 t.1] 2)).grown hg4 (fun e => by have := (World.ownsRow.lt (HO.out.ints 0 rfl) _ e).2; omega)
      have x2 := hX.cell 2 _ rfl
      have HO3 := Lib.hid (HO2.out.keeps (below_new1 w2 (.cells #[.int .i64 t.2.2] 2)))
      have HB3 := Lib.hid (below_on HB2.out HB2.out.size (below_new1 w2 (.cells #[.int .i64 t.2.2] 2)))
      have HSL2 := Lib.hid (sl_i1 w2 t.2.2)
      clear ho4 hg4 hf4 HO1 HB1 hX HSL HO
      go_wp2_with (refine ap_i rfl _ _ rfl w.heap.size _ rfl ((L.take k).map (·.2.2)) (HO3.out.ints 1 rfl) _ 1 [t.2.2] rfl HSL2.out (by rw [L2.out]; simp; omega) HB3.out.size ?_; intro u5 w3 ho5 hg5 hf5)
      have HO4 := Lib.hid (HO3.out.grow 1 rfl (show w3.ownsRow _ _ _ _ _ _ from by rw [ic_len]; exact ho5) hg5 hf5)
      have HB4 := Lib.hid (HO3.out.below 1 rfl hg5 (Nat.le_refl _) HB3.out)
      rw [← take_mapI HT.out] at HO4
      clear ho5 hg5 hf5 HO3 HB3 HO2 HB2 HSL2 x2
      go_wp2
      go_roundw
      · exact ⟨k + 1, by omega, by go_num, HO4, HB4.out⟩
      · simp [intOf]; omega
    · obtain rfl : k = L.length := by omega
      obtain ⟨s1, s2⟩ := sums_in hall
      have hO := HO.out
      rw [List.take_length] at hO
      have b1 : ∀ x ∈ L.map (·.1), -9223372036854775808 ≤ x ∧ x ≤ 9223372036854775807 := by
        intro x hx
        obtain ⟨t, ht, rfl⟩ := List.mem_map.1 hx
        have := okT_true (List.all_eq_true.1 hall t ht)
        omega
      have b2 : ∀ x ∈ L.map (·.2.2), -9223372036854775808 ≤ x ∧ x ≤ 9223372036854775807 := by
        intro x hx
        obtain ⟨t, ht, rfl⟩ := List.mem_map.1 hx
        have := okT_true (List.all_eq_true.1 hall t ht)
        omega
      obtain ⟨a4, c4, rfl, hs4⟩ := (hO.ints 0 rfl).sl
      obtain ⟨a5, c5, rfl, hs5⟩ := (hO.ints 1 rfl).sl
      have H4 := rsum_any wr a4 c4 _ hs4 (by simp; omega) b1
      have H5 := fun W (hb : Below wr.heap.size wr W) => rsum_any W a5 c5 _ (hs5.keeps hb) (by simp; omega) b2
      rw [sumI_owed, cutI_in (by omega) (by omega)] at H4
      rw [sumI_post, cutI_in (by omega) (by omega)] at H5
      rw [List.length_map] at H4
      simp only [List.length_map] at H5
      have K4 := Lib.hid H4; have K5 := Lib.hid H5
      clear H4 H5 hs4 hs5 b1 b2 hO HO s1 s2
      go_wp2_with fail
      refine K4.out.mono ?_
      rintro e w2 ⟨rfl, hb2⟩
      have HB2 := Lib.hid (below_on hb hb.size hb2)
      go_wp2_with fail
      refine (K5.out _ hb2).mono ?_
      rintro e w3 ⟨rfl, hb3⟩
      have HB3 := Lib.hid (below_on HB2.out HB2.out.size hb3)
      clear hb2 hb3
      go_wp2
      exact bodyPost_ret (v := .tuple #[.int .i64 (owedT L), .int .i64 (postT L)]) (by simp [results, Try.results18, go_sem]) rfl ⟨rfl, HB3.out⟩
set_option maxRecDepth 8000 in
set_option maxHeartbeats 1600000 in
theorem trright_any (w : World) (ao : Option Addr) (cap : Nat) (L : List Tr) (h : SlT w ao cap L) (v : Bool) (hv : rightT L = v) :
    Calls Try.prog 17 #[.slice ao L.length cap] w fun e w' => e = .returned (.bool v) ∧ Below w.heap.size w w' := by
  by_cases hl : L.length ≤ 256
  · have HS := Lib.hid (fun W (hb : Below w.heap.size w W) ha => sums_any W ao cap L (h.keeps hb) ha (by omega))
    have HV := Lib.hid hv
    clear hv
    go_enter Try.func17, Try.ntmps17
    go_wp2
    go_loopw [12] (fun i wr => ∃ k : Nat, k ≤ L.length ∧ i = .int .i64 k ∧ Hid ((L.take k).all okT = true) ∧ Below w.heap.size w wr) (fun i _ => L.length - (intOf i).toNat)
    case atStart => exact ⟨0, by omega, rfl, by show _ = _; simp, Below.refl _ _⟩
    case round =>
      obtain ⟨k, hk, rfl, HK, hb⟩ := hrel
      by_cases hkl : k < L.length
      · obtain ⟨t, ht⟩ : ∃ t, L[k]? = some t := ⟨_, List.getElem?_eq_getElem hkl⟩
        have HT := Lib.hid ht
        clear ht
        have hw := h.keeps hb
        cases hv : okT t with
        | true =>
          have HN : Hid ((L.take (k + 1)).all okT = true) := by show _ = _; rw [all_take HT.out, HK.out, hv]; rfl
          obtain ⟨⟨b0, b1⟩, ⟨s0, s1⟩, ⟨p0, p1⟩⟩ := okT_true hv
          clear hv
          go_wp2_with (refine ix_tr rfl _ _ rfl ao cap L hw rfl k t HT.out rfl ?_; intro b off c0 c1 c2)
          go_roundw
          · exact ⟨k + 1, by omega, by go_num, HN, hb.alloc hb.size _⟩
          · simp [intOf]; omega
        | false =>
          have HN : Hid (v = false) := by
            show _ = _
            rw [← HV.out, rightT]
            rw [show L.all okT = false from by
              rw [List.all_eq_false]
              exact ⟨t, List.mem_of_getElem? HT.out, by rw [hv]; decide⟩]
            simp
          have HF := Lib.hid hv
          clear hv
          go_wp2_with (refine ix_tr rfl _ _ rfl ao cap L hw rfl k t HT.out rfl ?_; intro b off c0 c1 c2)
          all_goals first
            | (go_ret; exact ⟨by rw [HN.out]; rfl, hb.alloc hb.size _⟩)
            | (exfalso; have := HF.out; simp [okT] at this; omega)
      · have ha := HK.out
        rw [List.take_of_length_le (by omega)] at ha
        have HS1 := Lib.hid (HS.out wr hb ha)
        have HN : Hid (v = decide (owedT L ≤ 20000000000000)) := by show _ = _; rw [← HV.out, rightT, ha]; simp [hl]
        obtain ⟨s, hs⟩ : ∃ s, owedT L = s := ⟨_, rfl⟩
        rw [hs] at HS1 HN
        clear ha hs HS HK
        go_wp2_with fail
        refine HS1.out.mono ?_
        rintro e w2 ⟨rfl, hb2⟩
        have HB := Lib.hid (below_on hb hb.size hb2)
        clear hb2
        go_wp2
        all_goals
          go_ret
          exact ⟨by rw [HN.out]; simp; try omega, HB.out⟩
  · have HV : Hid (v = false) := by show _ = _; rw [← hv, rightT]; simp [hl]
    have hlen := h.room
    clear hv h
    go_enter Try.func17, Try.ntmps17
    go_wp2
    go_ret
    exact ⟨by rw [HV.out]; rfl, Below.refl _ _⟩
end Go.Proofs.Ythcimllkcaknhaa
