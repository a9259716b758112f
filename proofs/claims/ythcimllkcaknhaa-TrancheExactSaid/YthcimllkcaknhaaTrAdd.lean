/-
  The walks of tranche.Day, Add, Repay.
-/
import Derived.Test.YthcimllkcaknhaaTrDays
set_option linter.unusedVariables false
set_option linter.unusedSimpArgs false
namespace Go.Proofs.Ythcimllkcaknhaa
open Go.RowKit

theorem day1_any (w : World) (ao : Option Addr) (cap : Nat) (L : List Tr) (r : Int) (s : List Tr × Int × Int) (hs : daysS L r 1 = s) (h : SlT w ao cap L) :
    Calls Try.prog 8 #[.slice ao L.length cap, .int .i64 r] w fun e w' => ∃ v', e = .returned (.tuple #[v', .int .i64 s.2.1, .int .i64 s.2.2]) ∧ OwT w' w.heap.size v' s.1 ∧ Below w.heap.size w w' := by
  have H := Lib.hid (days_any w ao cap L r 1 s hs h)
  clear h hs
  go_enter Try.func8, Try.ntmps8
  go_wp2_with fail
  refine H.out.mono ?_
  rintro e w1 ⟨v1, rfl, ho, hb⟩
  go_wp2
  exact bodyPost_ret (v := .tuple #[v1, .int .i64 s.2.1, .int .i64 s.2.2]) (by simp [results, Try.results8, go_sem]) rfl ⟨_, rfl, ho, hb⟩
theorem daysS_ok' {L : List Tr} {r n : Int} (h : (daysS L r n).2.2 = 0) : rightT L = true ∧ 0 ≤ r ∧ r ≤ 10000 ∧ 0 ≤ n ∧ n ≤ 366 ∧ okDays r n.toNat L = true ∧ daysS L r n = (daysK r n.toNat L, postT (daysK r n.toNat L) - postT L, 0) := by
  unfold daysS at h ⊢
  split at h
  · split at h
    · split at h
      · split at h
        · rename_i h1 h2 h3 h4
          rw [if_pos h1, if_pos h2, if_pos h3, if_pos h4]
          exact ⟨h1, h2.1, h2.2, h3.1, h3.2, h4, rfl⟩
        · simp at h
      · simp at h
    · simp at h
  · simp at h
/-- What Add answers. -/
def addS (L : List Tr) (a : Int) : List Tr × Int :=
  if rightT L = true then
    if 1 ≤ a ∧ a ≤ 20000000000000 then
      if rightT (L ++ [(a, 0, 0)]) = true then (L ++ [(a, 0, 0)], 0) else ([], 161)
    else ([], 142)
  else ([], 161)
theorem sl_tr1 (w : World) (a : Int) : SlT (w.alloc (.cells #[.int .i64 a, .int .i64 0, .int .i64 0] 56)) (some ⟨w.heap.size, 0, none⟩) 1 [(a, 0, 0)] :=
  ⟨rfl, Nat.le_refl _, by simp, fun _ => ⟨_, _, rfl, fun j u hu => by
    rw [Nat.zero_add]
    exact (Blk.new w 56 [.int .i64 a, .int .i64 0, .int .i64 0]).cell j u (by simpa [rc, trc] using hu)⟩⟩
set_option maxRecDepth 8000 in
set_option maxHeartbeats 1600000 in
theorem tadd_any (w : World) (ao : Option Addr) (cap : Nat) (L : List Tr) (a : Int) (s : List Tr × Int) (hs : addS L a = s) (h : SlT w ao cap L) (hl : L.length ≤ 1000000) :
    Calls Try.prog 7 #[.slice ao L.length cap, .int .i64 a] w fun e w' => ∃ v', e = .returned (.tuple #[v', .int .i64 s.2]) ∧ OwT w' w.heap.size v' s.1 ∧ Below w.heap.size w w' := by
  have HC := Lib.hid (tclone_any w ao cap L h (by omega))
  have H := Lib.hid h
  have HS := Lib.hid hs
  clear h hs
  go_enter Try.func7, Try.ntmps7
  go_wp2_with fail
  refine HC.out.mono ?_
  rintro e w1 ⟨v1, rfl, ho1, hb1⟩
  have HB1 := Lib.hid (hb1.alloc hb1.size (.cells #[.int .i64 a, .int .i64 0, .int .i64 0] 56))
  have HO1 := Lib.hid (own_keeps ho1 (below_new1 w1 (.cells #[.int .i64 a, .int .i64 0, .int .i64 0] 56)))
  clear HC ho1 hb1
  go_wp2_with (refine ap_tr rfl _ _ rfl w.heap.size _ rfl L HO1.out _ 1 [(a, 0, 0)] rfl (sl_tr1 w1 a) (by simp; omega) HB1.out.size ?_; intro v2 w2 ho2 hg2 hf2)
  have HB2 := Lib.hid (below_grown HO1.out hg2 (Nat.le_refl _) (Nat.le_refl _) HB1.out)
  obtain ⟨M, hM⟩ : ∃ M, L ++ [(a, 0, 0)] = M := ⟨_, rfl⟩
  rw [hM] at ho2
  have HM := Lib.hid hM
  clear hM
  obtain ⟨ao2, cap2, rfl, hs2, _⟩ := Rk.own ho2
  have HO2 := Lib.hid ho2
  have HS2 := Lib.hid hs2
  clear ho2 hg2 hf2 hs2 HO1 HB1
  cases h1 : rightT L with
  | false =>
    have HF : Hid (s = ([], 161)) := by show _ = _; rw [← HS.out]; unfold addS; rw [h1]; rfl
    have HR := Lib.hid (tright_any w2 ao cap L (H.out.keeps (HB2.out.mono (Nat.le_refl _))) false h1)
    clear h1
    go_wp2_with fail
    refine HR.out.mono ?_
    rintro e w3 ⟨rfl, hb3⟩
    have HB3 := Lib.hid (below_on HB2.out HB2.out.size hb3)
    clear hb3
    go_wp2
    exact bodyPost_ret (v := .tuple #[.slice none 0 0, .int .i64 161]) (by simp [results, Try.results7, go_sem]) rfl ⟨_, by rw [HF.out], by rw [HF.out]; exact ownT_nil _ _, HB3.out⟩
  | true =>
    have HR := Lib.hid (tright_any w2 ao cap L (H.out.keeps (HB2.out.mono (Nat.le_refl _))) true h1)
    have H1 := Lib.hid h1
    clear h1
    by_cases h2 : 1 ≤ a ∧ a ≤ 20000000000000
    · obtain ⟨a0, a1⟩ := h2
      cases h3 : rightT M with
      | false =>
        have HF : Hid (s = ([], 161)) := by show _ = _; rw [← HS.out]; simp only [addS, H1.out, a0, a1, and_self, if_true, HM.out, h3]; rfl
        have HR2 := Lib.hid (fun W (hb : Below w2.heap.size w2 W) => tright_any W ao2 cap2 M (HS2.out.keeps hb) false h3)
        clear h3
        go_wp2_with fail
        refine HR.out.mono ?_
        rintro e w3 ⟨rfl, hb3⟩
        go_wp2_with fail
        refine (HR2.out _ hb3).mono ?_
        rintro e w4 ⟨rfl, hb4⟩
        have HB4 := Lib.hid (below_on (below_on HB2.out HB2.out.size hb3) (Nat.le_trans HB2.out.size hb3.size) hb4)
        clear hb3 hb4
        go_wp2
        exact bodyPost_ret (v := .tuple #[.slice none 0 0, .int .i64 161]) (by simp [results, Try.results7, go_sem]) rfl ⟨_, by rw [HF.out], by rw [HF.out]; exact ownT_nil _ _, HB4.out⟩
      | true =>
        have HF : Hid (s = (M, 0)) := by show _ = _; rw [← HS.out]; simp only [addS, H1.out, a0, a1, and_self, if_true, HM.out, h3]
        have HR2 := Lib.hid (fun W (hb : Below w2.heap.size w2 W) => tright_any W ao2 cap2 M (HS2.out.keeps hb) true h3)
        clear h3
        go_wp2_with fail
        refine HR.out.mono ?_
        rintro e w3 ⟨rfl, hb3⟩
        go_wp2_with fail
        refine (HR2.out _ hb3).mono ?_
        rintro e w4 ⟨rfl, hb4⟩
        have HB4 := Lib.hid (below_on (below_on HB2.out HB2.out.size hb3) (Nat.le_trans HB2.out.size hb3.size) hb4)
        have HO4 : Hid (OwT w4 w.heap.size (.slice ao2 M.length cap2) M) := own_keeps (own_keeps HO2.out hb3) hb4
        clear hb3 hb4
        go_wp2
        exact bodyPost_ret (v := .tuple #[.slice ao2 M.length cap2, .int .i64 0]) (by simp [results, Try.results7, go_sem]) rfl ⟨_, by rw [HF.out], by rw [HF.out]; exact HO4.out, HB4.out⟩
    · have HF : Hid (s = ([], 142)) := by show _ = _; rw [← HS.out]; unfold addS; rw [H1.out, if_pos rfl, if_neg h2]
      have h4 : a < 1 ∨ (1 ≤ a ∧ 20000000000000 < a) := by omega
      clear h2
      rcases h4 with h4 | ⟨h4, h5⟩
      all_goals
        go_wp2_with fail
        refine HR.out.mono ?_
        rintro e w3 ⟨rfl, hb3⟩
        have HB3 := Lib.hid (below_on HB2.out HB2.out.size hb3)
        clear hb3
        go_wp2
        exact bodyPost_ret (v := .tuple #[.slice none 0 0, .int .i64 142]) (by simp [results, Try.results7, go_sem]) rfl ⟨_, by rw [HF.out], by rw [HF.out]; exact ownT_nil _ _, HB3.out⟩
/-- What is left of a repayment, and the tranches behind it. -/
def repL : Int → List Tr → List Tr
  | _, [] => []
  | a, t :: l => (t.1 - min a t.1, t.2.1, t.2.2) :: repL (a - min a t.1) l
def repA : Int → List Tr → Int
  | a, [] => a
  | a, t :: l => repA (a - min a t.1) l
theorem rep_len (a : Int) (L : List Tr) : (repL a L).length = L.length := by
  induction L generalizing a with
  | nil => rfl
  | cons t l ih => simp only [repL, List.length_cons, ih]
/-- What Repay answers. -/
def repS (L : List Tr) (a : Int) : List Tr × Int × Int :=
  if rightT L = true then
    if 0 ≤ a ∧ a ≤ 20000000000000 then (repL a L, repA a L, 0) else ([], 0, 142)
  else ([], 0, 161)
/-- Behind k tranches. -/
structure Rep (a : Int) (L : List Tr) (k : Nat) (O : List Tr) (x : Int) : Prop where
  len : O.length = k
  list : O ++ repL x (L.drop k) = repL a L
  left : repA x (L.drop k) = repA a L
  lo : 0 ≤ x
  hi : x ≤ a
theorem Rep.start {a : Int} {L : List Tr} (h : 0 ≤ a) : Rep a L 0 [] a := ⟨rfl, by simp, by simp, h, Int.le_refl _⟩
theorem Rep.step {a : Int} {L : List Tr} {k : Nat} {O : List Tr} {x : Int} {t : Tr} (h : Rep a L k O x) (ht : L[k]? = some t) (h0 : 0 ≤ t.1) : Rep a L (k + 1) (O ++ [(t.1 - min x t.1, t.2.1, t.2.2)]) (x - min x t.1) := by
  obtain ⟨hk, rfl⟩ := List.getElem?_eq_some_iff.1 ht
  have e := List.drop_eq_getElem_cons hk
  have h1 := h.list; have h2 := h.left; have h3 := h.lo; have h4 := h.hi
  rw [e] at h1 h2
  exact ⟨by rw [List.length_append, h.len]; rfl, by rw [List.append_assoc]; exact h1, h2, by omega, by omega⟩
theorem Rep.fin {a : Int} {L O : List Tr} {x : Int} (h : Rep a L L.length O x) : O = repL a L ∧ x = repA a L := by
  have h1 := h.list; have h2 := h.left
  rw [List.drop_length] at h1 h2
  exact ⟨by rw [← h1]; simp [repL], h2⟩
set_option maxRecDepth 8000 in
set_option maxHeartbeats 1600000 in
theorem repay_any (w : World) (ao : Option Addr) (cap : Nat) (L : List Tr) (a : Int) (s : List Tr × Int × Int) (hs : repS L a = s) (h : SlT w ao cap L) :
    Calls Try.prog 13 #[.slice ao L.length cap, .int .i64 a] w fun e w' => ∃ v', e = .returned (.tuple #[v', .int .i64 s.2.1, .int .i64 s.2.2]) ∧ OwT w' w.heap.size v' s.1 ∧ Below w.heap.size w w' := by
  have HS := Lib.hid hs
  cases h1 : rightT L with
  | false =>
    have HF : Hid (s = ([], 0, 161)) := by show _ = _; rw [← hs]; unfold repS; rw [h1]; rfl
    have HR := Lib.hid (tright_any w ao cap L h false h1)
    clear h1 hs h
    go_enter Try.func13, Try.ntmps13
    go_wp2_with fail
    refine HR.out.mono ?_
    rintro e w1 ⟨rfl, hb⟩
    go_wp2
    exact bodyPost_ret (v := .tuple #[.slice none 0 0, .int .i64 0, .int .i64 161]) (by simp [results, Try.results13, go_sem]) rfl ⟨_, by rw [HF.out], by rw [HF.out]; exact ownT_nil _ _, hb⟩
  | true =>
    have HR := Lib.hid (tright_any w ao cap L h true h1)
    obtain ⟨l256, hall, _⟩ := rightT_true h1
    by_cases h2 : 0 ≤ a ∧ a ≤ 20000000000000
    · have HF : Hid (s = (repL a L, repA a L, 0)) := by show _ = _; rw [← hs]; unfold repS; rw [h1, if_pos rfl, if_pos h2]
      obtain ⟨a0, a1⟩ := h2
      have HC := Lib.hid (fun W (hb : Below w.heap.size w W) => tclone_any W ao cap L (h.keeps hb) (by omega))
      clear h1 hs h
      go_enter Try.func13, Try.ntmps13
      go_wp2_with fail
      refine HR.out.mono ?_
      rintro e w1 ⟨rfl, hb⟩
      go_wp2_with fail
      refine (HC.out _ hb).mono ?_
      rintro e w2 ⟨v2, rfl, ho2, hb2⟩
      obtain ⟨ao1, cap1, rfl, _, _⟩ := Rk.own ho2
      have HB2 := Lib.hid (below_on hb hb.size hb2)
      have HO2 : Hid (w2.ownsRow w.heap.size 56 3 (.slice ao1 L.length cap1) L.length (rc trc L)) := own_down ho2 hb.size
      clear ho2 hb2 hb HC HR
      go_wp2_with fail
      go_loopw [1, 25] (fun am i wr => ∃ (k : Nat) (O : List Tr) (x : Int), k ≤ L.length ∧ i = .int .i64 k ∧ am = .int .i64 x ∧ Hid (Rep a L k O x) ∧ Hid (wr.ownsRow w.heap.size 56 3 (.slice ao1 L.length cap1) L.length (rc trc (O ++ L.drop k))) ∧ Below w.heap.size w wr) (fun _ i _ => L.length - (intOf i).toNat)
      case atStart => exact ⟨0, [], a, by omega, rfl, rfl, Rep.start a0, HO2.out, HB2.out⟩
      case round =>
        obtain ⟨k, O, x, hk, rfl, rfl, HX, HO, hb⟩ := hrel
        have x0 := HX.out.lo
        have x1 := HX.out.hi
        by_cases hkl : k < L.length
        · obtain ⟨t, ht⟩ : ∃ t, L[k]? = some t := ⟨_, List.getElem?_eq_getElem hkl⟩
          have HT := Lib.hid ht
          obtain ⟨g, rfl, hg1, hg2, c0, c1, c2, fz⟩ := own_tr HO.out (next_len HX.out.len hk) (next_at HX.out.len ht)
          obtain ⟨⟨b0, b1⟩, ⟨s0, s1⟩, ⟨p0, p1⟩⟩ := okT_true (List.all_eq_true.1 hall t (List.mem_of_getElem? ht))
          clear ht
          have HN := Lib.hid (HX.out.step HT.out b0)
          have hM := next_at HX.out.len HT.out
          have HZ := Lib.hid (fun y => next_set HX.out.len HT.out y)
          have HM := Lib.hid hM
          clear HX hM
          have m0 : 0 ≤ min x t.1 := by omega
          have m1 : min x t.1 ≤ x := by omega
          have m2 : min x t.1 ≤ t.1 := by omega
          go_wp2_with (refine ix_own_tr rfl _ _ rfl g L.length cap1 rfl k hkl rfl ?_)
          have h1 := own_setc trc_len (y := (t.1 - min x t.1, t.2.1, t.2.2)) HO.out HM.out 0 (.int .i64 (t.1 - min x t.1)) (by decide) rfl
          rw [HZ.out, Nat.add_zero] at h1
          exact ⟨⟨k + 1, _, _, by omega, by go_num, rfl, HN, h1, hb.setCell hg1 _⟩, by simp [intOf]; omega⟩
        · obtain rfl : k = L.length := by omega
          obtain ⟨e1, e2⟩ := HX.out.fin
          have hO := HO.out
          rw [List.drop_length, List.append_nil, e1] at hO
          go_wp2
          exact bodyPost_ret (v := .tuple #[.slice ao1 L.length cap1, .int .i64 x, .int .i64 0]) (by simp [results, Try.results13, go_sem]) rfl ⟨_, by rw [HF.out, e2], by rw [HF.out]; show World.ownsRow _ _ _ _ _ _ _; rw [rep_len]; exact hO, hb⟩
    · have HF : Hid (s = ([], 0, 142)) := by show _ = _; rw [← hs]; unfold repS; rw [h1, if_pos rfl, if_neg h2]
      have h4 : a < 0 ∨ (0 ≤ a ∧ 20000000000000 < a) := by omega
      clear h1 hs h h2
      rcases h4 with h4 | ⟨h4, h5⟩
      all_goals
        go_enter Try.func13, Try.ntmps13
        go_wp2_with fail
        refine HR.out.mono ?_
        rintro e w1 ⟨rfl, hb⟩
        go_wp2
        exact bodyPost_ret (v := .tuple #[.slice none 0 0, .int .i64 0, .int .i64 142]) (by simp [results, Try.results13, go_sem]) rfl ⟨_, by rw [HF.out], by rw [HF.out]; exact ownT_nil _ _, hb⟩
end Go.Proofs.Ythcimllkcaknhaa
