/-
  The walks of tranche.Days, Day, Add, Repay.
-/
import Derived.Test.YthcimllkcaknhaaTrDay
set_option linter.unusedVariables false
set_option linter.unusedSimpArgs false
namespace Go.Proofs.Ythcimllkcaknhaa
open Go.RowKit

theorem day_len (r : Int) (L : List Tr) : (dayL r L).length = L.length := List.length_map _
theorem day_owed (r : Int) (L : List Tr) : owedT (dayL r L) = owedT L := by
  induction L with
  | nil => rfl
  | cons t l ih =>
    show t.1 + owedT (dayL r l) = t.1 + owedT l
    rw [ih]
theorem day_sum {r : Int} {L : List Tr} (h : L.all okT = true) (r0 : 0 ≤ r) (r1 : r ≤ 10000) : 0 ≤ postT (dayL r L) - postT L ∧ postT (dayL r L) - postT L ≤ 60000000000 * L.length := by
  induction L with
  | nil => simp [dayL, postT]
  | cons t l ih =>
    simp only [List.all_cons, Bool.and_eq_true] at h
    obtain ⟨⟨b0, b1⟩, ⟨s0, s1⟩, ⟨p0, p1⟩⟩ := okT_true h.1
    have := ih h.2
    obtain ⟨hA0, hA1⟩ := rate_in b0 b1 r0 r1
    have e : postT (dayL r (t :: l)) = t.2.2 + (t.2.1 + t.1 * r) / 3600000 + postT (dayL r l) := rfl
    have e2 : postT (t :: l) = t.2.2 + postT l := rfl
    rw [e, e2, List.length_cons]
    generalize t.1 * r = A at *
    omega
/-- Behind k days. -/
def daysK (r : Int) : Nat → List Tr → List Tr
  | 0, L => L
  | k + 1, L => dayL r (daysK r k L)
def okDays (r : Int) : Nat → List Tr → Bool
  | 0, _ => true
  | k + 1, L => okDays r k L && rightT (daysK r (k + 1) L)
theorem okDays_mono {r : Int} {L : List Tr} {k n : Nat} (h : k ≤ n) (hf : okDays r k L = false) : okDays r n L = false := by
  induction n with
  | zero => obtain rfl : k = 0 := by omega
            exact hf
  | succ n ih =>
    by_cases hk : k = n + 1
    · rw [← hk]; exact hf
    · rw [okDays, ih (by omega)]; rfl
theorem rightT_true {L : List Tr} (h : rightT L = true) : L.length ≤ 256 ∧ L.all okT = true ∧ owedT L ≤ 20000000000000 := by
  simp only [rightT, Bool.and_eq_true, decide_eq_true_eq] at h
  exact h
theorem okDays_right {r : Int} {L : List Tr} {k : Nat} (h0 : rightT L = true) (h : okDays r k L = true) : rightT (daysK r k L) = true := by
  cases k with
  | zero => exact h0
  | succ k =>
    rw [okDays, Bool.and_eq_true] at h
    exact h.2
theorem days_len (r : Int) (k : Nat) (L : List Tr) : (daysK r k L).length = L.length := by
  induction k with
  | zero => rfl
  | succ k ih => rw [daysK, day_len, ih]
theorem own_down {w : World} {B B' e S n : Nat} {v : Value} {C : List Value} (h : w.ownsRow B' e S v n C) (hB : B ≤ B') : w.ownsRow B e S v n C := by
  refine ⟨h.1, ?_⟩
  rcases h.2 with h2 | ⟨g, cap, cur, e, hb2, r⟩
  · exact .inl h2
  · exact .inr ⟨g, cap, cur, e, Nat.le_trans hB hb2, r⟩
theorem own_keeps {w w' : World} {B e S n : Nat} {v : Value} {C : List Value} (h : w.ownsRow B e S v n C) (hb : Below w.heap.size w w') : w'.ownsRow B e S v n C := by
  refine ⟨h.1, ?_⟩
  rcases h.2 with h2 | ⟨g, cap, cur, e, hb2, hg, r⟩
  · exact .inl h2
  · refine .inr ⟨g, cap, cur, e, hb2, ?_, r⟩
    rw [hb.block g ((Array.getElem?_eq_some_iff.1 hg).1)]; exact hg
/-- What Days answers: tranches, what is posted, the error's number. -/
def daysS (L : List Tr) (r n : Int) : List Tr × Int × Int :=
  if rightT L = true then
    if 0 ≤ r ∧ r ≤ 10000 then
      if 0 ≤ n ∧ n ≤ 366 then
        if okDays r n.toNat L = true then (daysK r n.toNat L, postT (daysK r n.toNat L) - postT L, 0) else ([], 0, 161)
      else ([], 0, 142)
    else ([], 0, 52)
  else ([], 0, 161)
set_option maxRecDepth 8000 in
set_option maxHeartbeats 1600000 in
theorem days_any (w : World) (ao : Option Addr) (cap : Nat) (L : List Tr) (r n : Int) (s : List Tr × Int × Int) (hs : daysS L r n = s) (h : SlT w ao cap L) :
    Calls Try.prog 9 #[.slice ao L.length cap, .int .i64 r, .int .i64 n] w fun e w' => ∃ v', e = .returned (.tuple #[v', .int .i64 s.2.1, .int .i64 s.2.2]) ∧ OwT w' w.heap.size v' s.1 ∧ Below w.heap.size w w' := by
  cases h1 : rightT L with
  | false =>
    have HS : Hid (s = ([], 0, 161)) := by show _ = _; rw [← hs]; unfold daysS; rw [h1]; rfl
    have HR := Lib.hid (tright_any w ao cap L h false h1)
    clear h1 hs h
    go_enter Try.func9, Try.ntmps9
    go_wp2_with fail
    refine HR.out.mono ?_
    rintro e w1 ⟨rfl, hb⟩
    go_wp2
    exact bodyPost_ret (v := .tuple #[.slice none 0 0, .int .i64 0, .int .i64 161]) (by simp [results, Try.results9, go_sem]) rfl ⟨_, by rw [HS.out], by rw [HS.out]; exact ownT_nil _ _, hb⟩
  | true =>
    have HR := Lib.hid (tright_any w ao cap L h true h1)
    obtain ⟨l256, hall, _⟩ := rightT_true h1
    by_cases h2 : 0 ≤ r ∧ r ≤ 10000
    · obtain ⟨r0, r1⟩ := h2
      by_cases h3 : 0 ≤ n ∧ n ≤ 366
      · obtain ⟨n0, n1⟩ := h3
        have hs' : (if okDays r n.toNat L = true then (daysK r n.toNat L, postT (daysK r n.toNat L) - postT L, 0) else ([], 0, 161)) = s := by
          rw [← hs]; simp only [daysS, h1, r0, r1, n0, n1, and_self, if_true]
        have HS := Lib.hid hs'
        have H1 := Lib.hid h1
        have HC := Lib.hid (fun W (hb : Below w.heap.size w W) => tclone_any W ao cap L (h.keeps hb) (by omega))
        obtain ⟨N, rfl⟩ := Int.eq_ofNat_of_zero_le n0
        have hp := (sums_in hall).2
        clear h1 hs hs' h
        go_enter Try.func9, Try.ntmps9
        go_wp2_with fail
        refine HR.out.mono ?_
        rintro e w1 ⟨rfl, hb⟩
        go_wp2_with fail
        refine (HC.out _ hb).mono ?_
        rintro e w2 ⟨v2, rfl, ho2, hb2⟩
        have HB2 := Lib.hid (below_on hb hb.size hb2)
        have HO2 := Lib.hid (show w2.ownsRow w.heap.size 56 3 v2 L.length (rc trc L) from own_down ho2 hb.size)
        clear ho2 hb2 hb HC HR
        go_wp2_with fail
        go_loopw [9, 10, 34] (fun o x i wr => ∃ (k : Nat), k ≤ N ∧ i = .int .i64 k ∧ x = .int .i64 (postT (daysK r k L) - postT L) ∧ Hid (okDays r k L = true) ∧ Hid (OwT wr w.heap.size o (daysK r k L)) ∧ Below w.heap.size w wr) (fun _ _ i _ => N - (intOf i).toNat)
        case atStart => exact ⟨0, by omega, rfl, by simp [daysK], rfl, HO2.out, HB2.out⟩
        case round =>
          obtain ⟨k, hk, rfl, rfl, HK, HO, hb⟩ := hrel
          obtain ⟨M, hM⟩ : ∃ M, daysK r k L = M := ⟨_, rfl⟩
          have hRM := okDays_right H1.out HK.out
          rw [hM] at hRM HO ⊢
          obtain ⟨m256, mall, _⟩ := rightT_true hRM
          have mp := (sums_in mall).2
          obtain ⟨ao3, cap3, rfl, hs3, _⟩ := Rk.own HO.out
          by_cases hkn : k < N
          · have HD := Lib.hid (day_any wr ao3 cap3 M r hs3 mall m256 r0 r1)
            have HM := Lib.hid hM
            obtain ⟨d0, d1⟩ := day_sum mall r0 r1
            obtain ⟨P, hP⟩ : ∃ P, postT M = P := ⟨_, rfl⟩
            obtain ⟨P2, hP2⟩ : ∃ P, postT (dayL r M) = P := ⟨_, rfl⟩
            obtain ⟨PL, hPL⟩ : ∃ P, postT L = P := ⟨_, rfl⟩
            rw [hP] at mp d0 d1 HD ⊢
            rw [hP2] at d0 d1 HD
            rw [hPL] at hp ⊢
            have HP2 := Lib.hid hP2
            have HPL := Lib.hid hPL
            clear hM hs3 hP hP2 hPL hRM
            go_wp2_with fail
            refine HD.out.mono ?_
            rintro e w3 ⟨v3, rfl, ho3, hb3⟩
            obtain ⟨ao4, cap4, rfl, hs4, _⟩ := Rk.own ho3
            have HB3 := Lib.hid (below_on hb hb.size hb3)
            cases hR : rightT (dayL r M) with
            | false =>
              have HR := Lib.hid (tright_any w3 ao4 cap4 _ hs4 false hR)
              have HF : Hid (s = ([], 0, 161)) := by
                show _ = _
                have : okDays r (k + 1) L = false := by rw [okDays, daysK, HM.out, hR]; simp
                have := okDays_mono (show k + 1 ≤ ((N : Int)).toNat by simp; omega) this
                rw [← HS.out, this]; rfl
              clear hR hs4 ho3 hb3 HD hb HO
              go_wp2_with fail
              refine HR.out.mono ?_
              rintro e w4 ⟨rfl, hb4⟩
              have HB4 := Lib.hid (below_on HB3.out HB3.out.size hb4)
              clear hb4
              go_wp2
              exact bodyPost_ret (v := .tuple #[.slice none 0 0, .int .i64 0, .int .i64 161]) (by simp [results, Try.results9, go_sem]) rfl ⟨_, by rw [HF.out], by rw [HF.out]; exact ownT_nil _ _, HB4.out⟩
            | true =>
              have HR := Lib.hid (tright_any w3 ao4 cap4 _ hs4 true hR)
              have HN : Hid (okDays r (k + 1) L = true) := by show _ = _; rw [okDays, daysK, HK.out, HM.out, hR]; rfl
              have HDK : Hid (daysK r (k + 1) L = dayL r M) := by show _ = _; rw [daysK, HM.out]
              have p2 := (sums_in (rightT_true hR).2.1).2
              have l2 := (rightT_true hR).1
              rw [HP2.out] at p2
              have HO4 := Lib.hid (show OwT w3 w.heap.size _ _ from own_down ho3 hb.size)
              clear hR hs4 ho3 hb3 HD hb HO
              go_wp2_with fail
              refine HR.out.mono ?_
              rintro e w4 ⟨rfl, hb4⟩
              have HB4 := Lib.hid (below_on HB3.out HB3.out.size hb4)
              have HO5 := Lib.hid (own_keeps HO4.out hb4)
              clear hb4 HO4 HR
              go_wp2
              go_roundw
              · exact ⟨k + 1, by omega, by go_num, by rw [HDK.out, HP2.out]; go_num, HN, by show OwT _ _ _ _; rw [HDK.out]; exact HO5.out, HB4.out⟩
              · simp [intOf]; omega
          · obtain rfl : k = N := by omega
            have HF : Hid (s = (M, postT M - postT L, 0)) := by
              show _ = _
              have e : ((k : Int)).toNat = k := by simp
              rw [← HS.out, e, HK.out, hM]; rfl
            clear hM hs3
            go_wp2
            exact bodyPost_ret (v := .tuple #[.slice ao3 M.length cap3, .int .i64 (postT M - postT L), .int .i64 0]) (by simp [results, Try.results9, go_sem]) rfl ⟨_, by rw [HF.out], by rw [HF.out]; exact HO.out, hb⟩
      · have HS : Hid (s = ([], 0, 142)) := by show _ = _; rw [← hs]; unfold daysS; rw [h1, if_pos rfl, if_pos ⟨r0, r1⟩, if_neg h3]
        have h4 : n < 0 ∨ (0 ≤ n ∧ 366 < n) := by omega
        clear h1 hs h h3
        rcases h4 with h4 | ⟨h4, h5⟩
        all_goals
          go_enter Try.func9, Try.ntmps9
          go_wp2_with fail
          refine HR.out.mono ?_
          rintro e w1 ⟨rfl, hb⟩
          go_wp2
          exact bodyPost_ret (v := .tuple #[.slice none 0 0, .int .i64 0, .int .i64 142]) (by simp [results, Try.results9, go_sem]) rfl ⟨_, by rw [HS.out], by rw [HS.out]; exact ownT_nil _ _, hb⟩
    · have HS : Hid (s = ([], 0, 52)) := by show _ = _; rw [← hs]; unfold daysS; rw [h1, if_pos rfl, if_neg h2]
      have h4 : r < 0 ∨ (0 ≤ r ∧ 10000 < r) := by omega
      clear h1 hs h h2
      rcases h4 with h4 | ⟨h4, h5⟩
      all_goals
        go_enter Try.func9, Try.ntmps9
        go_wp2_with fail
        refine HR.out.mono ?_
        rintro e w1 ⟨rfl, hb⟩
        go_wp2
        exact bodyPost_ret (v := .tuple #[.slice none 0 0, .int .i64 0, .int .i64 52]) (by simp [results, Try.results9, go_sem]) rfl ⟨_, by rw [HS.out], by rw [HS.out]; exact ownT_nil _ _, hb⟩
end Go.Proofs.Ythcimllkcaknhaa
