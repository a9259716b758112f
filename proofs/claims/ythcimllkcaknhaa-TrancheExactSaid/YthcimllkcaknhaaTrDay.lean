/-
  The walks of tranche.day, Days, Day, Add, Repay.
-/
import Derived.Test.YthcimllkcaknhaaTr
set_option linter.unusedVariables false
set_option linter.unusedSimpArgs false
namespace Go.Proofs.Ythcimllkcaknhaa
open Go.RowKit

/-! ### a row that is worked through in place -/
theorem rc_setc {α : Type} {f : α → List Value} {S : Nat} (hf : ∀ x, (f x).length = S) {L : List α} {k : Nat} {x y : α} (h : L[k]? = some x) (j : Nat) (u : Value) (hj : j < S) (hy : f y = (f x).set j u) : rc f (L.set k y) = (rc f L).set (k * S + j) u := by
  induction L generalizing k with
  | nil => simp at h
  | cons z r ih =>
    cases k with
    | zero =>
      obtain rfl := Option.some.inj h
      rw [List.set_cons_zero, Nat.zero_mul, Nat.zero_add]
      show f y ++ rc f r = (f z ++ rc f r).set j u
      rw [List.set_append_left _ _ (by rw [hf]; exact hj), hy]
    | succ k =>
      have := ih (by simpa using h)
      rw [List.set_cons_succ]
      show f z ++ rc f (r.set k y) = (f z ++ rc f r).set ((k + 1) * S + j) u
      rw [this, List.set_append_right _ _ (by rw [hf, Nat.add_mul]; omega), hf, show (k + 1) * S + j - S = k * S + j from by rw [Nat.add_mul]; omega]
section
variable {α : Type} {O L : List α} {k : Nat} {x : α}
theorem next_at (hO : O.length = k) (h : L[k]? = some x) : (O ++ L.drop k)[k]? = some x := by
  rw [List.getElem?_append_right (by omega), hO, Nat.sub_self, List.getElem?_drop]; simpa using h
theorem next_set (hO : O.length = k) (h : L[k]? = some x) (y : α) : (O ++ L.drop k).set k y = (O ++ [y]) ++ L.drop (k + 1) := by
  obtain ⟨hk, rfl⟩ := List.getElem?_eq_some_iff.1 h
  rw [List.set_append_right _ _ (by omega), hO, Nat.sub_self, List.drop_eq_getElem_cons hk, List.set_cons_zero, List.append_assoc]; rfl
theorem next_len (hO : O.length = k) (hk : k ≤ L.length) : (O ++ L.drop k).length = L.length := by
  rw [List.length_append, List.length_drop]; omega
end
/-- One cell of a record of the call's own written. -/
theorem own_setc {α : Type} {f : α → List Value} {S : Nat} (hf : ∀ x, (f x).length = S) {w : World} {base e g n cap : Nat} {L : List α} (h : w.ownsRow base e S (.slice (some ⟨g, 0, none⟩) n cap) n (rc f L)) {k : Nat} {x y : α} (hk : L[k]? = some x) (j : Nat) (u : Value) (hj : j < S) (hy : f y = (f x).set j u) :
    (w.setCell ⟨g, k * S + j, none⟩ u).ownsRow base e S (.slice (some ⟨g, 0, none⟩) n cap) n (rc f (L.set k y)) := by
  rw [rc_setc hf hk j u hj hy]
  refine (h.stored (k * S + j) u).1
/-- A tranche of the call's own: its place. -/
theorem own_tr {w : World} {base : Nat} {ao : Option Addr} {n cap : Nat} {L : List Tr} (h : w.ownsRow base 56 3 (.slice ao n cap) n (rc trc L)) (hl : L.length = n) {k : Nat} {t : Tr} (ht : L[k]? = some t) :
    ∃ g, ao = some ⟨g, 0, none⟩ ∧ base ≤ g ∧ g < w.heap.size ∧ w.cell? ⟨g, k * 3, none⟩ = some (.int .i64 t.1) ∧ w.cell? ⟨g, k * 3 + 1, none⟩ = some (.int .i64 t.2.1) ∧ w.cell? ⟨g, k * 3 + 2, none⟩ = some (.int .i64 t.2.2) ∧ ∀ j, w.frozen? ⟨g, j, none⟩ = false := by
  have hk := (List.getElem?_eq_some_iff.1 ht).1
  rcases h.2 with ⟨h', h0⟩ | ⟨g, cap', cur, h', hb, hg, hnc, hcm, hcs, htake⟩
  · omega
  · simp only [Value.slice.injEq] at h'
    obtain ⟨rfl, _, rfl⟩ := h'
    have c : ∀ j, j < 3 → w.cell? ⟨g, k * 3 + j, none⟩ = (trc t)[j]? := by
      intro j hj
      rw [h.cellAt (k * 3 + j) (by omega)]
      have hj' : j < (trc t).length := by rw [trc_len]; exact hj
      rw [List.getElem?_eq_getElem hj']
      exact rc_at trc_len ht j _ (List.getElem?_eq_getElem hj')
    exact ⟨g, rfl, hb, (Array.getElem?_eq_some_iff.1 hg).1, c 0 (by omega), c 1 (by omega), c 2 (by omega), h.frozenAt⟩
section
variable {ops : Array Oper} {rest : List Oper} {o : Oper} {a : Act} {w : World} {Q : Exit → Act → World → Prop}
theorem ix_own_tr (hw : Region.wanted o (yielded ops a.tmps) = true) (s x : Operand) (ho : o.op = .indexAddr 22 s x) (g n cap : Nat) (hs : a.eval s = .slice (some ⟨g, 0, none⟩) n cap) (k : Nat) (hk : k < n) (hx : a.eval x = .int .i64 k)
    (h : wpList Try.prog ops Q rest (a.put o.dst (.pointer (some ⟨g, k * 3, none⟩))) w) : wpList Try.prog ops Q (o :: rest) a w :=
  wpList_step fun _ hK => by
    rw [if_pos hw]
    have hrun : (Instr.indexAt 22 (.slice (some ⟨g, 0, none⟩) n cap) (.int .i64 k)).run Try.prog w = .ok (.pointer (some ⟨g, k * 3, none⟩)) w := by
      have hkn : (k : Int) < n := by omega
      by_cases h0 : k * 3 = 0
      · simp [Instr.indexAt, asIntOf, run_underlying Try.underlying22, size_tr, hkn, Addr.add, h0]
        intro h; omega
      · simp [Instr.indexAt, asIntOf, run_underlying Try.underlying22, size_tr, hkn, Addr.add, h0]
        intro h; omega
    unfold Oper.wp
    simp [execOp, ho, hs, hx, hrun, Result.andThen]
    exact hK _ _ h
end
/-- A tranche behind a day. -/
def dayT (r : Int) (t : Tr) : Tr := (t.1, (t.2.1 + t.1 * r) % 3600000, t.2.2 + (t.2.1 + t.1 * r) / 3600000)
def dayL (r : Int) (L : List Tr) : List Tr := L.map (dayT r)
theorem rate_in {b r : Int} (b0 : 0 ≤ b) (b1 : b ≤ 20000000000000) (r0 : 0 ≤ r) (r1 : r ≤ 10000) : 0 ≤ b * r ∧ b * r ≤ 200000000000000000 := by
  have h1 := Int.mul_nonneg b0 r0
  have h2 : b * r ≤ b * 10000 := Int.mul_le_mul_of_nonneg_left r1 b0
  omega
theorem take_map {L : List Tr} {k : Nat} {t : Tr} (h : L[k]? = some t) (f : Tr → Tr) : (L.take (k + 1)).map f = (L.take k).map f ++ [f t] := by
  obtain ⟨hk, rfl⟩ := List.getElem?_eq_some_iff.1 h
  rw [List.take_succ_eq_append_getElem hk, List.map_append]; rfl
set_option maxRecDepth 8000 in
set_option maxHeartbeats 1600000 in
theorem day_any (w : World) (ao : Option Addr) (cap : Nat) (L : List Tr) (r : Int) (h : SlT w ao cap L) (hall : L.all okT = true) (hl : L.length ≤ 256) (r0 : 0 ≤ r) (r1 : r ≤ 10000) :
    Calls Try.prog 27 #[.slice ao L.length cap, .int .i64 r] w fun e w' => ∃ v', e = .returned (.tuple #[v', .int .i64 (postT (dayL r L) - postT L)]) ∧ OwT w' w.heap.size v' (dayL r L) ∧ Below w.heap.size w w' := by
  have HC := Lib.hid (tclone_any w ao cap L h (by omega))
  clear h
  go_enter Try.func27, Try.ntmps27
  go_wp2_with fail
  refine HC.out.mono ?_
  rintro e w1 ⟨v1, rfl, ho1, hb1⟩
  obtain ⟨ao1, cap1, rfl, _, _⟩ := Rk.own ho1
  clear HC
  go_wp2_with fail
  go_loopw [7, 15] (fun s i wr => ∃ (k : Nat) (x : Int), k ≤ L.length ∧ i = .int .i64 k ∧ s = .int .i64 x ∧ 0 ≤ x ∧ x ≤ 60000000000 * k ∧ Hid (x = postT ((L.take k).map (dayT r)) - postT (L.take k)) ∧ Hid (wr.ownsRow w.heap.size 56 3 (.slice ao1 L.length cap1) L.length (rc trc ((L.take k).map (dayT r) ++ L.drop k))) ∧ Below w.heap.size w wr) (fun _ i _ => L.length - (intOf i).toNat)
  case atStart => exact ⟨0, 0, by omega, rfl, rfl, by omega, by omega, by show _ = _; simp [postT], by show World.ownsRow _ _ _ _ _ _ _; simpa using ho1, hb1⟩
  case round =>
    obtain ⟨k, x, hk, rfl, rfl, x0, x1, HX, HO, hb⟩ := hrel
    by_cases hkl : k < L.length
    · obtain ⟨t, ht⟩ : ∃ t, L[k]? = some t := ⟨_, List.getElem?_eq_getElem hkl⟩
      have HT := Lib.hid ht
      have hO : ((L.take k).map (dayT r)).length = k := by simp; omega
      obtain ⟨g, rfl, hg1, hg2, c0, c1, c2, fz⟩ := own_tr HO.out (next_len hO hk) (next_at hO ht)
      obtain ⟨⟨b0, b1⟩, ⟨s0, s1⟩, ⟨p0, p1⟩⟩ := okT_true (List.all_eq_true.1 hall t (List.mem_of_getElem? ht))
      obtain ⟨hA0, hA1⟩ := rate_in b0 b1 r0 r1
      clear ht
      have HN := Lib.hid (show dayT r t = (t.1, (t.2.1 + t.1 * r) % 3600000, t.2.2 + (t.2.1 + t.1 * r) / 3600000) from rfl)
      obtain ⟨A, hA⟩ : ∃ A, t.1 * r = A := ⟨_, rfl⟩
      rw [hA] at hA0 hA1 HN
      go_wp2_with (refine ix_own_tr rfl _ _ rfl g L.length cap1 rfl k hkl rfl ?_)
      go_quiet (fail)
      go_wp2
      have hM := next_at hO HT.out
      have h1 : ((wr.drewN nq).setCell ⟨g, k * 3 + 1, none⟩ (.int .i64 ((t.2.1 + A) % 3600000))).ownsRow w.heap.size 56 3 (.slice (some ⟨g, 0, none⟩) L.length cap1) L.length _ :=
        own_setc trc_len (y := (t.1, (t.2.1 + A) % 3600000, t.2.2)) HO.out hM 1 (.int .i64 ((t.2.1 + A) % 3600000)) (by decide) rfl
      have hkM := (List.getElem?_eq_some_iff.1 hM).1
      have h2 := own_setc trc_len (x := (t.1, (t.2.1 + A) % 3600000, t.2.2)) (y := (t.1, (t.2.1 + A) % 3600000, t.2.2 + (t.2.1 + A) / 3600000)) h1 (List.getElem?_set_self hkM) 2 (.int .i64 (t.2.2 + (t.2.1 + A) / 3600000)) (by decide) rfl
      rw [List.set_set, next_set hO HT.out, ← HN.out, ← take_map HT.out] at h2
      have hd0 : 0 ≤ (t.2.1 + A) / 3600000 := by omega
      have hd1 : (t.2.1 + A) / 3600000 ≤ 60000000000 := by omega
      refine ⟨⟨k + 1, _, by omega, by go_num, rfl, by omega, by omega, ?_, h2, ((pw_belowN hb nq).setCell hg1 _).setCell hg1 _⟩, by simp [intOf]; omega⟩
      show _ = _
      rw [take_map HT.out, post_app, post_take HT.out, HN.out, HX.out]
      simp only [postT]
      omega
    · obtain rfl : k = L.length := by omega
      have hO := HO.out
      rw [List.drop_length, List.append_nil, List.take_length] at hO
      have hX := HX.out
      rw [List.take_length] at hX
      go_wp2
      exact bodyPost_ret (v := .tuple #[.slice ao1 L.length cap1, .int .i64 x]) (by simp [results, Try.results27, go_sem]) rfl ⟨_, by rw [hX]; rfl, by show World.ownsRow _ _ _ _ _ _ _; rw [show (dayL r L).length = L.length from List.length_map _]; exact hO, hb⟩
end Go.Proofs.Ythcimllkcaknhaa
