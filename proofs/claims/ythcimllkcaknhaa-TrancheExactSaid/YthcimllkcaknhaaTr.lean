/-
  Tranches: as cells; which can be; the walks of tranche.one, Right, Owed, Posted, Clone.
-/
import Derived.Test.YthcimllkcaknhaaRec
import Derived.Lib.SliceRun
set_option linter.unusedVariables false
set_option linter.unusedSimpArgs false
namespace Go.Proofs.Ythcimllkcaknhaa
open Go.RowKit

/-- A tranche: balance, rest, posted. -/
abbrev Tr := Int × Int × Int
def trc (t : Tr) : List Value := [.int .i64 t.1, .int .i64 t.2.1, .int .i64 t.2.2]
theorem trc_len (t : Tr) : (trc t).length = 3 := rfl
theorem trc_one (t : Tr) : ∀ u ∈ trc t, u.oneCell' = true := by
  intro u hu
  simp only [trc, List.mem_cons, List.not_mem_nil, or_false] at hu
  rcases hu with rfl | rfl | rfl <;> rfl
abbrev SlT (w : World) (ao : Option Addr) (cap : Nat) (L : List Tr) : Prop := Rk w 3 ao L.length cap (rc trc L)
abbrev OwT (w : World) (base : Nat) (v : Value) (L : List Tr) : Prop := w.ownsRow base 56 3 v L.length (rc trc L)
theorem info_tr : (Try.prog.info? 56).map (fun i => (i.zero, i.size, i.bytes)) = some (some (.agg #[.int .i64 0, .int .i64 0, .int .i64 0]), 3, 24) := by kernel_rfl
theorem size_tr (w : World) : (sizeOf 56).run Try.prog w = .ok 3 w := by
  obtain ⟨i, hi, _, hs, _⟩ := info_parts info_tr
  simp [sizeOf, typeInfo, hi, hs]
theorem tr_cells {w : World} {ao : Option Addr} {cap : Nat} {L : List Tr} {b off : Nat} (hc : ∀ j u, (rc trc L)[j]? = some u → w.cell? ⟨b, off + j, none⟩ = some u) {k : Nat} {t : Tr} (ht : L[k]? = some t) :
    w.cell? ⟨b, off + k * 3, none⟩ = some (.int .i64 t.1) ∧ w.cell? ⟨b, off + k * 3 + 1, none⟩ = some (.int .i64 t.2.1) ∧ w.cell? ⟨b, off + k * 3 + 2, none⟩ = some (.int .i64 t.2.2) :=
  ⟨by have := hc _ _ (rc_at trc_len ht 0 _ rfl); simpa using this, by have := hc _ _ (rc_at trc_len ht 1 _ rfl); rw [← Nat.add_assoc] at this; exact this, by have := hc _ _ (rc_at trc_len ht 2 _ rfl); rw [← Nat.add_assoc] at this; exact this⟩
section
variable {ops : Array Oper} {rest : List Oper} {o : Oper} {a : Act} {w : World} {Q : Exit → Act → World → Prop}
theorem ix_tr (hw : Region.wanted o (yielded ops a.tmps) = true) (s x : Operand) (ho : o.op = .indexAddr 22 s x) (ao : Option Addr) (cap : Nat) (L : List Tr) (hc : SlT w ao cap L) (hs : a.eval s = .slice ao L.length cap) (k : Nat) (t : Tr) (ht : L[k]? = some t) (hx : a.eval x = .int .i64 k)
    (h : ∀ b off, w.cell? ⟨b, off, none⟩ = some (.int .i64 t.1) → w.cell? ⟨b, off + 1, none⟩ = some (.int .i64 t.2.1) → w.cell? ⟨b, off + 2, none⟩ = some (.int .i64 t.2.2) → wpList Try.prog ops Q rest (a.put o.dst (.pointer (some ⟨b, off, none⟩))) w) : wpList Try.prog ops Q (o :: rest) a w := by
  refine wpList_ix_rec hw 22 56 s x ho Try.underlying22 3 (by decide) size_tr ao L.length cap hs (rc trc L) hc k (List.getElem?_eq_some_iff.1 ht).1 hx fun b off _ hcell => ?_
  obtain ⟨h0, h1, h2⟩ := tr_cells (ao := ao) (cap := cap) hcell ht
  exact h b (off + k * 3) h0 h1 h2
end
/-- Can a tranche be? -/
def okT (t : Tr) : Bool := decide (0 ≤ t.1) && decide (t.1 ≤ 20000000000000) && decide (0 ≤ t.2.1) && decide (t.2.1 < 3600000) && decide (0 ≤ t.2.2) && decide (t.2.2 ≤ 18014398509481984)
theorem one_any (a b c : Int) (w : World) :
    Calls Try.prog 31 #[.agg #[.int .i64 a, .int .i64 b, .int .i64 c]] w fun e w' => e = .returned (.bool (okT (a, b, c))) ∧ Below w.heap.size w w' := by
  obtain ⟨v, hv⟩ : ∃ v, okT (a, b, c) = v := ⟨_, rfl⟩
  rw [hv]
  have HV := Lib.hid hv
  clear hv
  go_enter Try.func31, Try.ntmps31
  go_wp2
  all_goals
    go_ret
    exact ⟨by rw [← HV.out]; simp [okT]; try omega, below_new1 _ _⟩
theorem right1_any (a b c : Int) (w : World) :
    Calls Try.prog 30 #[.agg #[.int .i64 a, .int .i64 b, .int .i64 c]] w fun e w' => e = .returned (.bool (!okT (a, b, c))) ∧ Below w.heap.size w w' := by
  have H := Lib.hid (fun W => one_any a b c W)
  obtain ⟨v, hv⟩ : ∃ v, okT (a, b, c) = v := ⟨_, rfl⟩
  rw [hv] at H ⊢
  clear hv
  go_enter Try.func30, Try.ntmps30
  go_wp2_with fail
  refine (H.out _).mono ?_
  rintro e w1 ⟨rfl, hb⟩
  have hB := below_on (below_new1 w _) (by simp) hb
  cases v
  all_goals
    go_wp2
    go_ret
    exact ⟨rfl, hB⟩
/-- All of them can be. -/
theorem all_take {L : List Tr} {k : Nat} {t : Tr} (h : L[k]? = some t) : (L.take (k + 1)).all okT = ((L.take k).all okT && okT t) := by
  obtain ⟨hk, rfl⟩ := List.getElem?_eq_some_iff.1 h
  rw [List.take_succ_eq_append_getElem hk, List.all_append]; simp
set_option maxRecDepth 8000 in
set_option maxHeartbeats 1600000 in
theorem index_any (w : World) (ao : Option Addr) (cap : Nat) (L : List Tr) (h : SlT w ao cap L) (hl : L.length ≤ 100000) :
    Calls Try.prog 39 #[.slice ao L.length cap, .func (.func 30) #[] #[]] w fun e w' => (∃ i : Int, e = .returned (.int .i64 i) ∧ decide (0 ≤ i) = !L.all okT) ∧ Below w.heap.size w w' := by
  go_enter Try.func39, Try.ntmps39
  go_wp2
  go_loopw [8] (fun i wr => ∃ k : Nat, k ≤ L.length ∧ i = .int .i64 k ∧ Hid ((L.take k).all okT = true) ∧ Below w.heap.size w wr) (fun i _ => L.length - (intOf i).toNat)
  case atStart => exact ⟨0, by omega, rfl, by show _ = _; simp, Below.refl _ _⟩
  case round =>
    obtain ⟨k, hk, rfl, HK, hb⟩ := hrel
    by_cases hkl : k < L.length
    · obtain ⟨t, ht⟩ : ∃ t, L[k]? = some t := ⟨_, List.getElem?_eq_getElem hkl⟩
      have HT := Lib.hid ht
      clear ht
      have hw := h.keeps hb
      have HR := Lib.hid (right1_any t.1 t.2.1 t.2.2 wr)
      go_wp2_with (refine ix_tr rfl _ _ rfl ao cap L hw rfl k t HT.out rfl ?_; intro b off c0 c1 c2)
      refine HR.out.mono ?_
      rintro e w1 ⟨rfl, hb1⟩
      have HB := Lib.hid (below_on hb hb.size hb1)
      clear hb hb1 HR
      cases hv : okT (t.1, t.2.1, t.2.2) with
      | true =>
        have HN : Hid ((L.take (k + 1)).all okT = true) := by show _ = _; rw [all_take HT.out, HK.out]; exact hv
        clear hv
        go_wp2
        go_roundw
        · exact ⟨k + 1, by omega, by go_num, HN, HB.out⟩
        · simp [intOf]; omega
      | false =>
        have HN : Hid (L.all okT = false) := by
          show _ = _
          rw [List.all_eq_false]
          exact ⟨t, List.mem_of_getElem? HT.out, by show ¬ okT (t.1, t.2.1, t.2.2) = true; rw [hv]; decide⟩
        clear hv
        go_wp2
        go_ret
        exact ⟨⟨k, rfl, by rw [HN.out]; simp⟩, HB.out⟩
    · have HN : Hid (L.all okT = true) := by
        have := HK.out
        rw [List.take_of_length_le (by omega)] at this
        exact this
      go_wp2
      go_ret
      exact ⟨⟨-1, rfl, by rw [HN.out]; decide⟩, hb⟩
theorem contains_any (w : World) (ao : Option Addr) (cap : Nat) (L : List Tr) (h : SlT w ao cap L) (hl : L.length ≤ 100000) :
    Calls Try.prog 29 #[.slice ao L.length cap, .func (.func 30) #[] #[]] w fun e w' => e = .returned (.bool (!L.all okT)) ∧ Below w.heap.size w w' := by
  have H := Lib.hid (index_any w ao cap L h hl)
  obtain ⟨v, hv⟩ : ∃ v, L.all okT = v := ⟨_, rfl⟩
  rw [hv] at H ⊢
  clear hv
  go_enter Try.func29, Try.ntmps29
  go_wp2_with fail
  refine H.out.mono ?_
  rintro e w1 ⟨⟨i, rfl, hi⟩, hb⟩
  have HI := Lib.hid hi
  clear hi
  go_wp2
  all_goals
    go_ret
    exact ⟨by rw [← HI.out]; simp; try omega, hb⟩
/-- All that is owed; all that was posted. -/
def owedT : List Tr → Int
  | [] => 0
  | t :: l => t.1 + owedT l
def postT : List Tr → Int
  | [] => 0
  | t :: l => t.2.2 + postT l
theorem owed_app (L M : List Tr) : owedT (L ++ M) = owedT L + owedT M := by
  induction L with
  | nil => simp [owedT]
  | cons t l ih => simp only [List.cons_append, owedT, ih]; omega
theorem post_app (L M : List Tr) : postT (L ++ M) = postT L + postT M := by
  induction L with
  | nil => simp [postT]
  | cons t l ih => simp only [List.cons_append, postT, ih]; omega
theorem owed_take {L : List Tr} {k : Nat} {t : Tr} (h : L[k]? = some t) : owedT (L.take (k + 1)) = owedT (L.take k) + t.1 := by
  obtain ⟨hk, rfl⟩ := List.getElem?_eq_some_iff.1 h
  rw [List.take_succ_eq_append_getElem hk, owed_app]; simp [owedT]
theorem post_take {L : List Tr} {k : Nat} {t : Tr} (h : L[k]? = some t) : postT (L.take (k + 1)) = postT (L.take k) + t.2.2 := by
  obtain ⟨hk, rfl⟩ := List.getElem?_eq_some_iff.1 h
  rw [List.take_succ_eq_append_getElem hk, post_app]; simp [postT]
theorem okT_true {t : Tr} (h : okT t = true) : (0 ≤ t.1 ∧ t.1 ≤ 20000000000000) ∧ (0 ≤ t.2.1 ∧ t.2.1 < 3600000) ∧ (0 ≤ t.2.2 ∧ t.2.2 ≤ 18014398509481984) := by
  simp [okT] at h; omega
theorem ok_take {L : List Tr} (h : L.all okT = true) (k : Nat) : (L.take k).all okT = true := by
  rw [List.all_eq_true] at h ⊢
  exact fun x hx => h x (List.mem_of_mem_take hx)
theorem sums_in {L : List Tr} (h : L.all okT = true) : (0 ≤ owedT L ∧ owedT L ≤ 20000000000000 * L.length) ∧ (0 ≤ postT L ∧ postT L ≤ 18014398509481984 * L.length) := by
  induction L with
  | nil => simp [owedT, postT]
  | cons t l ih =>
    simp only [List.all_cons, Bool.and_eq_true] at h
    obtain ⟨h1, _, h3⟩ := okT_true h.1
    have := ih h.2
    simp only [owedT, postT, List.length_cons]
    omega
set_option maxRecDepth 8000 in
set_option maxHeartbeats 1600000 in
theorem owed_any (w : World) (ao : Option Addr) (cap : Nat) (L : List Tr) (h : SlT w ao cap L) (hall : L.all okT = true) (hl : L.length ≤ 300) :
    Calls Try.prog 19 #[.slice ao L.length cap] w fun e w' => e = .returned (.int .i64 (owedT L)) ∧ Below w.heap.size w w' := by
  go_enter Try.func19, Try.ntmps19
  go_wp2
  go_loopw [3, 8] (fun s i wr => ∃ k : Nat, k ≤ L.length ∧ i = .int .i64 k ∧ s = .int .i64 (owedT (L.take k)) ∧ Below w.heap.size w wr) (fun _ i _ => L.length - (intOf i).toNat)
  case atStart => exact ⟨0, by omega, rfl, by simp [owedT], Below.refl _ _⟩
  case round =>
    obtain ⟨k, hk, rfl, rfl, hb⟩ := hrel
    by_cases hkl : k < L.length
    · obtain ⟨t, ht⟩ : ∃ t, L[k]? = some t := ⟨_, List.getElem?_eq_getElem hkl⟩
      have HT := Lib.hid ht
      have hw := h.keeps hb
      obtain ⟨⟨s0, s1⟩, _⟩ := sums_in (ok_take hall k)
      obtain ⟨⟨n0, n1⟩, _⟩ := sums_in (ok_take hall (k + 1))
      obtain ⟨⟨x0, x1⟩, _⟩ := okT_true (List.all_eq_true.1 hall t (List.mem_of_getElem? ht))
      have HN := Lib.hid (owed_take ht)
      rw [HN.out] at n0 n1
      rw [List.length_take] at s1 n1
      have s2 : owedT (L.take k) ≤ 6000000000000000 := by omega
      clear ht s1 n0 n1
      obtain ⟨S, hS⟩ : ∃ S, owedT (L.take k) = S := ⟨_, rfl⟩
      rw [hS] at s0 s2 HN ⊢
      clear hS
      go_wp2_with (refine ix_tr rfl _ _ rfl ao cap L hw rfl k t HT.out rfl ?_; intro b off c0 c1 c2)
      go_roundw
      · exact ⟨k + 1, by omega, by go_num, by rw [HN.out], hb.alloc hb.size _⟩
      · simp [intOf]; omega
    · rw [List.take_of_length_le (by omega)]
      go_wp2
      go_ret
      exact ⟨rfl, hb⟩
set_option maxRecDepth 8000 in
set_option maxHeartbeats 1600000 in
theorem posted_any (w : World) (ao : Option Addr) (cap : Nat) (L : List Tr) (h : SlT w ao cap L) (hall : L.all okT = true) (hl : L.length ≤ 300) :
    Calls Try.prog 25 #[.slice ao L.length cap] w fun e w' => e = .returned (.int .i64 (postT L)) ∧ Below w.heap.size w w' := by
  go_enter Try.func25, Try.ntmps25
  go_wp2
  go_loopw [3, 8] (fun s i wr => ∃ k : Nat, k ≤ L.length ∧ i = .int .i64 k ∧ s = .int .i64 (postT (L.take k)) ∧ Below w.heap.size w wr) (fun _ i _ => L.length - (intOf i).toNat)
  case atStart => exact ⟨0, by omega, rfl, by simp [postT], Below.refl _ _⟩
  case round =>
    obtain ⟨k, hk, rfl, rfl, hb⟩ := hrel
    by_cases hkl : k < L.length
    · obtain ⟨t, ht⟩ : ∃ t, L[k]? = some t := ⟨_, List.getElem?_eq_getElem hkl⟩
      have HT := Lib.hid ht
      have hw := h.keeps hb
      obtain ⟨_, ⟨s0, s1⟩⟩ := sums_in (ok_take hall k)
      obtain ⟨_, ⟨n0, n1⟩⟩ := sums_in (ok_take hall (k + 1))
      obtain ⟨_, _, ⟨x0, x1⟩⟩ := okT_true (List.all_eq_true.1 hall t (List.mem_of_getElem? ht))
      have HN := Lib.hid (post_take ht)
      rw [HN.out] at n0 n1
      rw [List.length_take] at s1 n1
      have s2 : postT (L.take k) ≤ 5404319552844595200 := by omega
      clear ht s1 n0 n1
      obtain ⟨S, hS⟩ : ∃ S, postT (L.take k) = S := ⟨_, rfl⟩
      rw [hS] at s0 s2 HN ⊢
      clear hS
      go_wp2_with (refine ix_tr rfl _ _ rfl ao cap L hw rfl k t HT.out rfl ?_; intro b off c0 c1 c2)
      go_roundw
      · exact ⟨k + 1, by omega, by go_num, by rw [HN.out], hb.alloc hb.size _⟩
      · simp [intOf]; omega
    · rw [List.take_of_length_le (by omega)]
      go_wp2
      go_ret
      exact ⟨rfl, hb⟩
/-- Can tranches be? -/
def rightT (L : List Tr) : Bool := decide (L.length ≤ 256) && (L.all okT && decide (owedT L ≤ 20000000000000))
theorem tright_any (w : World) (ao : Option Addr) (cap : Nat) (L : List Tr) (h : SlT w ao cap L) (v : Bool) (hv : rightT L = v) :
    Calls Try.prog 16 #[.slice ao L.length cap] w fun e w' => e = .returned (.bool v) ∧ Below w.heap.size w w' := by
  by_cases hl : L.length ≤ 256
  · have H := Lib.hid (contains_any w ao cap L h (by omega))
    cases ha : L.all okT with
    | false =>
      have HV : Hid (v = false) := by show _ = _; rw [← hv, rightT, ha]; simp
      rw [ha] at H
      clear ha hv h
      go_enter Try.func16, Try.ntmps16
      go_wp2_with fail
      refine H.out.mono ?_
      rintro e w1 ⟨rfl, hb⟩
      go_wp2
      go_ret
      exact ⟨by rw [HV.out]; rfl, hb⟩
    | true =>
      have HV : Hid (v = decide (owedT L ≤ 20000000000000)) := by show _ = _; rw [← hv, rightT, ha]; simp [hl]
      have HO := Lib.hid (fun W (hb : Below w.heap.size w W) => owed_any W ao cap L (h.keeps hb) ha (by omega))
      rw [ha] at H
      obtain ⟨s, hs⟩ : ∃ s, owedT L = s := ⟨_, rfl⟩
      rw [hs] at HV HO
      clear ha hv h hs
      go_enter Try.func16, Try.ntmps16
      go_wp2_with fail
      refine H.out.mono ?_
      rintro e w1 ⟨rfl, hb⟩
      go_wp2_with fail
      refine (HO.out _ hb).mono ?_
      rintro e w2 ⟨rfl, hb2⟩
      have HB := Lib.hid (below_on hb hb.size hb2)
      clear hb hb2 H HO
      go_wp2
      all_goals
        go_ret
        exact ⟨by rw [HV.out]; simp; try omega, HB.out⟩
  · have HV : Hid (v = false) := by show _ = _; rw [← hv, rightT]; simp [hl]
    have hlen := h.room
    clear hv h
    go_enter Try.func16, Try.ntmps16
    go_wp2
    go_ret
    exact ⟨by rw [HV.out]; rfl, Below.refl _ _⟩
theorem ownT_empty (w : World) : OwT (w.alloc (.cells #[] 56)) w.heap.size (.slice (some ⟨w.heap.size, 0, none⟩) 0 0) [] :=
  ⟨rfl, .inr ⟨_, 0, #[], rfl, Nat.le_refl _, heap_alloc_new w _, Nat.le_refl _, by decide, rfl, rfl⟩⟩
theorem ownT_nil (w : World) (base : Nat) : OwT w base (.slice none 0 0) [] := World.ownsRow_nil w base _ 3
theorem below_grown {w w' w0 : World} {B base S n : Nat} {e : TypeId} {v : Value} {C : List Value} (h : w.ownsRow base e S v n C) (hg : w.grownBy w' v.ownBlock) (hB : B ≤ base) (hB0 : B ≤ w0.heap.size) (hb : Below B w0 w) : Below B w0 w' :=
  hb.grown hg (Nat.le_trans hB0 hb.size) (fun k hk => Nat.le_trans hB (World.ownsRow.lt h k hk).1)
section
variable {ops : Array Oper} {rest : List Oper} {o : Oper} {a : Act} {w : World} {Q : Exit → Act → World → Prop}
/-- append of tranches. -/
theorem ap_tr (hw : Region.wanted o (yielded ops a.tmps) = true) (s x : Operand) (ho : o.op = .call { callee := .builtin .append, args := #[s, x], argTypes := #[22, 22] })
    (base : Nat) (v : Value) (hv : a.eval s = v) (L : List Tr) (hown : OwT w base v L)
    (ao : Option Addr) (cap : Nat) (M : List Tr) (hx : a.eval x = .slice ao M.length cap) (hs : SlT w ao cap M) (hbytes : L.length + M.length ≤ 1000000000000) (hbase : base ≤ w.heap.size)
    (h : ∀ v' w', OwT w' base v' (L ++ M) → w.grownBy w' v.ownBlock → (∀ g, v'.ownBlock = some g → v.ownBlock = some g ∨ w.heap.size ≤ g) → wpList Try.prog ops Q rest (a.put o.dst v') w') : wpList Try.prog ops Q (o :: rest) a w := by
  refine wpList_append_rec hw s x 22 22 ho base 56 _ 24 3 Try.underlying22 info_tr rfl v hv L.length (rc trc L) hown _ hx M.length (rc trc M) (Rk.src Try.underlying22 (by decide) hs (rc_cell trc_one M)) (by omega) (by decide) hbase ?_
  intro v' w' h1 h2 h3
  exact h v' w' (by show World.ownsRow _ _ _ _ _ _ _; rw [rc_app, List.length_append]; exact h1) h2 h3
end
theorem tclone_any (w : World) (ao : Option Addr) (cap : Nat) (L : List Tr) (h : SlT w ao cap L) (hl : L.length ≤ 1000000000) :
    Calls Try.prog 26 #[.slice ao L.length cap] w fun e w' => ∃ v', e = .returned v' ∧ OwT w' w.heap.size v' L ∧ Below w.heap.size w w' := by
  cases ao with
  | none =>
    have hcap := h.nil rfl
    have hr := h.room
    have hL : L = [] := List.eq_nil_of_length_eq_zero (by omega)
    subst hL; subst hcap
    clear h
    have hq := fun w => _root_.Go.Lib.run_eql_slice_nil (P := Try.prog) w 22 56 none 0 0 0 0 Try.underlying22
    go_enter Try.func26, Try.ntmps26
    go_wp2
    go_ret
    exact ⟨_, rfl, ownT_nil w _, Below.refl _ _⟩
  | some ad =>
    have HV := Lib.hid (h.alloc (.cells #[] 56))
    have HO := Lib.hid (ownT_empty w)
    have HB := Lib.hid (below_new1 w (.cells #[] 56))
    clear h
    have hq := fun w => _root_.Go.Lib.run_eql_slice_nil (P := Try.prog) w 22 56 (some ad) L.length cap 0 0 Try.underlying22
    go_enter Try.func26, Try.ntmps26
    go_wp2_with (refine ap_tr rfl _ _ rfl w.heap.size _ rfl [] HO.out _ cap L rfl HV.out (by simp; omega) (by simp) ?_; intro v' w' h1 h2 h3)
    go_ret
    exact ⟨_, rfl, h1, below_grown HO.out h2 (Nat.le_refl _) (Nat.le_refl _) HB.out⟩
end Go.Proofs.Ythcimllkcaknhaa
