/-
  Lines of a budget: the walk of budget.Move; the example.
-/
import Derived.Test.YtdiejmokbmaejaaBgO
set_option linter.unusedVariables false
set_option linter.unusedSimpArgs false
namespace Go.Proofs.Ytdiejmokbmaejaa
open Go.RowKit Dg

theorem rc_setB : ∀ (M : List Ln) (k : Nat) (t : Ln) (z : Int), M[k]? = some t → (rc lnc M).set (k * 4) (.int .i64 z) = rc lnc (M.set k (z, t.2))
  | [], k, t, z, h => by simp at h
  | u :: M, 0, t, z, h => by
    have e : u = t := by simpa using h
    subst e
    rfl
  | u :: M, k + 1, t, z, h => by
    have := rc_setB M k t z (by simpa using h)
    show (Value.int .i64 u.1 :: Value.int .i64 u.2.1 :: Value.int .i64 u.2.2.1 :: Value.int .i64 u.2.2.2 :: rc lnc M).set ((k + 1) * 4) _ = Value.int .i64 u.1 :: Value.int .i64 u.2.1 :: Value.int .i64 u.2.2.1 :: Value.int .i64 u.2.2.2 :: rc lnc (M.set k (z, t.2))
    rw [show (k + 1) * 4 = k * 4 + 1 + 1 + 1 + 1 by omega, List.set_cons_succ, List.set_cons_succ, List.set_cons_succ, List.set_cons_succ, this]
theorem sl_k2 (w : World) (x y : Int) : Sl (w.alloc (.cells #[.int .i64 x, .int .i64 y] 3)) (some ⟨w.heap.size, 0, none⟩) 2 2 (ic [x, y]) :=
  ⟨rfl, Nat.le_refl _, by simp, fun _ => ⟨_, _, rfl, fun j u hu => by
    rw [Nat.zero_add]
    exact (Blk.new w 3 [.int .i64 x, .int .i64 y]).cell j u hu⟩⟩
theorem thereS_two {L : List Ln} {f t : Int} : thereS L [f, t] = true → thereS L [f] = true ∧ ∃ m : Nat, m < L.length ∧ t = m := by
  intro h
  simp only [thereS, inN, List.all_cons, List.all_nil, Bool.and_true, Bool.and_eq_true, decide_eq_true_eq] at h ⊢
  obtain ⟨h1, ⟨h2, h3⟩, h4, h5⟩ := h
  obtain ⟨m, rfl⟩ := Int.eq_ofNat_of_zero_le h4
  exact ⟨⟨h1, h2, h3⟩, m, by omega, rfl⟩
/-- What Cut says when it does. -/
theorem cutS_ok {L : List Ln} {f a : Int} (h : (cutS L f a).2 = 0) : 1 ≤ a ∧ a ≤ 1000000000000 ∧ rightL L = true ∧ ∃ n : Nat, n < L.length ∧ f = n ∧ okLn ((atL L f).1 - a, (atL L f).2) = true ∧ (cutS L f a).1 = L.set n ((atL L f).1 - a, (atL L f).2) := by
  unfold cutS at h ⊢
  split at h
  · rename_i h1
    rw [if_pos h1]
    obtain ⟨hr, n, hn, rfl⟩ := thereS_one h1
    split at h
    · rename_i h2
      rw [if_pos h2]
      unfold turnS at h ⊢
      split at h
      · rename_i h3
        rw [if_pos h3]
        exact ⟨h2.1, h2.2, hr, n, hn, rfl, h3, by rw [Int.toNat_natCast]⟩
      · simp at h
    · simp at h
  · simp at h
def moveS (L : List Ln) (f t a : Int) : List Ln × Int :=
  if thereS L [f, t] = true then
    if (cutS L f a).2 = 142 then ([], 142) else if f = t then ([], 141) else if (cutS L f a).2 = 0 then
      (if (atL (cutS L f a).1 t).1 + a ≤ 1000000000000 then ((cutS L f a).1.set t.toNat ((atL (cutS L f a).1 t).1 + a, (atL (cutS L f a).1 t).2), 0) else ([], 142))
    else ([], (cutS L f a).2)
  else ([], 141)
set_option maxRecDepth 8000 in
set_option maxHeartbeats 3200000 in
theorem bmove_any (w : World) (ao : Option Addr) (cap : Nat) (L : List Ln) (h : SlL w ao cap L) (f t a : Int) (s : List Ln × Int) (hs : moveS L f t a = s) :
    Calls Try.prog 19 #[.slice ao L.length cap, .int .i64 f, .int .i64 t, .int .i64 a] w fun e w' => ∃ v', e = .returned (.tuple #[v', .int .i64 s.2]) ∧ OwL w' w.heap.size v' s.1 ∧ Below w.heap.size w w' := by
  have HB0 := Lib.hid (below_new1 w (.cells #[.int .i64 f, .int .i64 t] 3))
  have HTh := Lib.hid (there_any _ ao cap L (h.keeps (below_new1 w (.cells #[.int .i64 f, .int .i64 t] 3))) _ 2 [f, t] (sl_k2 w f t) (by simp) _ rfl)
  have HCu := Lib.hid (fun W (hb : Below w.heap.size w W) => bcut_any W ao cap L (h.keeps hb) f a _ rfl)
  unfold moveS at hs
  have hth := thereS_two (L := L) (f := f) (t := t)
  have hcu := cutS_ok (L := L) (f := f) (a := a)
  obtain ⟨q, hq⟩ : ∃ q, thereS L [f, t] = q := ⟨_, rfl⟩
  rw [hq] at HTh hs hth
  obtain ⟨M, hM⟩ : ∃ M, (cutS L f a).1 = M := ⟨_, rfl⟩
  obtain ⟨er, her⟩ : ∃ M, (cutS L f a).2 = M := ⟨_, rfl⟩
  rw [hM, her] at HCu hs hcu
  clear hq h hM her
  cases q with
  | false =>
    have hS : ([], 141) = s := by rw [← hs]; rfl
    clear hs hth hcu
    go_enter Try.func19, Try.ntmps19
    go_wp2_with fail
    refine HTh.out.mono ?_
    rintro e w1 ⟨rfl, hb1⟩
    have HB1 := Lib.hid (below_on HB0.out HB0.out.size hb1)
    subst hS
    go_wp2
    exact bodyPost_ret (v := .tuple #[.slice none 0 0, .int .i64 141]) (by simp [results, Try.results19, go_sem]) rfl ⟨_, rfl, ownL_nil _ _, HB1.out⟩
  | true =>
    obtain ⟨hth1, m, hm, rfl⟩ := hth rfl
    have HS := Lib.hid hs
    clear hs hth
    go_enter Try.func19, Try.ntmps19
    go_wp2_with fail
    refine HTh.out.mono ?_
    rintro e w1 ⟨rfl, hb1⟩
    have HB1 := Lib.hid (below_on HB0.out HB0.out.size hb1)
    clear hb1
    go_wp2_with fail
    refine (HCu.out _ HB1.out).mono ?_
    rintro e w2 ⟨v2, rfl, ho2, hb2⟩
    have HB2 := Lib.hid (below_on HB1.out HB1.out.size hb2)
    have HO2 := Lib.hid ho2
    have HBs := Lib.hid HB1.out.size
    clear hb2 ho2 HCu
    by_cases e142 : er = 142
    · subst e142
      have hS : ([], 142) = s := by rw [← HS.out]; simp
      clear hcu
      subst hS
      go_wp2
      exact bodyPost_ret (v := .tuple #[.slice none 0 0, .int .i64 142]) (by simp [results, Try.results19, go_sem]) rfl ⟨_, rfl, ownL_nil _ _, HB2.out⟩
    · by_cases hft : f = m
      · have hS : ([], 141) = s := by rw [← HS.out]; simp [e142, hft]
        subst hft
        clear hcu
        subst hS
        go_wp2
        exact bodyPost_ret (v := .tuple #[.slice none 0 0, .int .i64 141]) (by simp [results, Try.results19, go_sem]) rfl ⟨_, rfl, ownL_nil _ _, HB2.out⟩
      · by_cases e0 : er = 0
        · subst e0
          obtain ⟨a1, a2, hr, n, hn, rfl, hok, hMe⟩ := hcu rfl
          obtain ⟨l1, l16, hall⟩ := rightL_true hr
          have hnm : n ≠ m := fun e => hft (by rw [e])
          obtain ⟨⟨b, p, x, y⟩, ht⟩ : ∃ t, L[m]? = some t := ⟨_, List.getElem?_eq_getElem hm⟩
          have htok := okLn_true (List.all_eq_true.1 hall _ (List.mem_of_getElem? ht))
          obtain ⟨⟨b0, b1⟩, _⟩ := htok
          replace b0 : 0 ≤ b := b0; replace b1 : b ≤ 1000000000000 := b1
          have htM : M[m]? = some (b, p, x, y) := by rw [hMe, List.getElem?_set_ne hnm]; exact ht
          have hML : M.length = L.length := by rw [hMe, List.length_set]
          have hat : atL M (m : Int) = (b, p, x, y) := by unfold atL; rw [Int.toNat_natCast, List.getD_eq_getElem?_getD, htM]; rfl
          obtain ⟨g, cap2, tl, rfl, hg, h1, h2, h3, hblk⟩ := OwL.blk HO2.out (by omega)
          have hlen := rc_len lnc_len M
          have c0 := hblk.cell (m * 4) (.int .i64 b) (by rw [List.getElem?_append_left (by rw [hlen]; omega)]; have := rc_at lnc_len htM 0 _ rfl; simpa using this)
          have f0 := hblk.frozen (m * 4)
          have HSb := Lib.hid (rc_setB M m (b, p, x, y) (b + a) htM)
          have HCL := Lib.hid (show m * 4 < (rc lnc M).length by rw [hlen]; omega)
          have HBk := Lib.hid (hblk.set (m * 4) (.int .i64 (b + a)))
          have HBn := Lib.hid (HB2.out.setCell (p := ⟨g, m * 4, none⟩) (Nat.le_trans HBs.out hg) (.int .i64 (b + a)))
          have HGB := Lib.hid (Nat.le_trans HBs.out hg)
          have HT1 := Lib.hid h1; have HT2 := Lib.hid h2; have HT3 := Lib.hid h3
          have hmI : (m : Int) < M.length := by omega
          by_cases hz : b + a ≤ 1000000000000
          · have hS : (M.set m (b + a, p, x, y), 0) = s := by
              rw [← HS.out]; simp only [if_true]
              rw [if_neg e142, if_neg hft, hat, if_pos hz, Int.toNat_natCast]
            subst hS
            have hz2 : ¬ 1000000000000 < b + a := by omega
            clear hok hMe hr hall ht htM hat hblk hlen hg h1 h2 h3 hz hnm HO2 e142 hML
            go_wp2
            refine bodyPost_ret (v := .tuple #[.slice (some ⟨g, 0, none⟩) M.length cap2, .int .i64 0]) (by simp [results, Try.results19, go_sem]) rfl ⟨_, rfl, ?_, HBn.out⟩
            have hb := HBk.out
            rw [List.set_append_left _ _ HCL.out, HSb.out] at hb
            have hlN : (M.set m (b + a, p, x, y)).length = M.length := List.length_set
            have := OwL.of (L := M.set m (b + a, p, x, y)) HGB.out (by rw [hlN]; exact HT1.out) HT2.out (by rw [hlN]; exact HT3.out) hb
            rw [hlN] at this
            exact this
          · have hS : ([], 142) = s := by
              rw [← HS.out]; simp only [if_true]
              rw [if_neg e142, if_neg hft, hat, if_neg hz]
            subst hS
            have hz2 : 1000000000000 < b + a := by omega
            clear hok hMe hr hall ht htM hat hblk hlen hg h1 h2 h3 hz hnm HO2 e142 hML
            go_wp2
            exact bodyPost_ret (v := .tuple #[.slice none 0 0, .int .i64 142]) (by simp [results, Try.results19, go_sem]) rfl ⟨_, rfl, ownL_nil _ _, HBn.out⟩
        · have hS : ([], er) = s := by rw [← HS.out]; simp [e142, hft, e0]
          clear hcu
          subst hS
          go_wp2
          exact bodyPost_ret (v := .tuple #[.slice none 0 0, .int .i64 er]) (by simp [results, Try.results19, go_sem]) rfl ⟨_, rfl, ownL_nil _ _, HB2.out⟩
end Go.Proofs.Ytdiejmokbmaejaa
