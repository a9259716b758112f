/-
  Draws: the walks of draw.draw, Right, there, Pending, turned, find.
-/
import Derived.Test.YtikfclioplploaaDw
set_option linter.unusedVariables false
set_option linter.unusedSimpArgs false
namespace Go.Proofs.Ytikfclioplploaa
open Go.RowKit Dg

set_option maxRecDepth 8000 in
theorem draw_any (l a s : Int) (v : Bool) (hv : okDw (l, a, s) = v) (w : World) :
    Calls Try.prog 33 #[.agg #[.int .i64 l, .int .i64 a, .int .i64 s]] w fun e w' => e = .returned (.bool v) ∧ Below w.heap.size w w' := by
  have hv2 : (decide (0 ≤ l) && decide (l ≤ 15) && okA a && decide (0 ≤ s) && decide (s ≤ 3)) = v := hv
  have HB := Lib.hid (below_new1 w (.cells #[.int .i64 l, .int .i64 a, .int .i64 s] 33))
  have HM := Lib.hid (fun W => dmoney_any a W)
  obtain ⟨m, hm⟩ : ∃ m, okA a = m := ⟨_, rfl⟩
  rw [hm] at hv2 HM
  have HV := Lib.hid hv2
  clear hv hv2 hm
  by_cases l0 : 0 ≤ l
  · by_cases l1 : l < 16
    · have l2 : l ≤ 15 := by omega
      by_cases s0 : 0 ≤ s
      · by_cases s1 : s ≤ 3
        · go_enter Try.func33, Try.ntmps33
          go_wp2_with fail
          refine (HM.out _).mono ?_
          rintro e w1 ⟨rfl, rfl⟩
          cases m
          all_goals
            go_wp2
            go_ret
            exact ⟨by rw [← HV.out]; simp [l0, l2, s0, s1] <;> (intros; omega), HB.out⟩
        · go_enter Try.func33, Try.ntmps33
          go_wp2_with fail
          refine (HM.out _).mono ?_
          rintro e w1 ⟨rfl, rfl⟩
          cases m
          all_goals
            go_wp2
            go_ret
            exact ⟨by rw [← HV.out]; simp [l0, l2, s0, s1] <;> (intros; omega), HB.out⟩
      · go_enter Try.func33, Try.ntmps33
        go_wp2_with fail
        refine (HM.out _).mono ?_
        rintro e w1 ⟨rfl, rfl⟩
        cases m
        all_goals
          go_wp2
          go_ret
          exact ⟨by rw [← HV.out]; simp [l0, l2, s0] <;> (intros; omega), HB.out⟩
    · have l2 : ¬ l ≤ 15 := by omega
      go_enter Try.func33, Try.ntmps33
      go_wp2
      go_ret
      exact ⟨by rw [← HV.out]; simp [l2] <;> (intros; omega), HB.out⟩
  · go_enter Try.func33, Try.ntmps33
    go_wp2
    go_ret
    exact ⟨by rw [← HV.out]; simp [l0] <;> (intros; omega), HB.out⟩
theorem dright1_any (t : Dw) (w : World) :
    Calls Try.prog 32 #[.agg #[.int .i64 t.1, .int .i64 t.2.1, .int .i64 t.2.2]] w fun e w' => e = .returned (.bool (!okDw t)) ∧ Below w.heap.size w w' := by
  obtain ⟨b, p, x⟩ := t
  have H := Lib.hid (fun W => draw_any b p x _ rfl W)
  obtain ⟨v, hv⟩ : ∃ v, okDw (b, p, x) = v := ⟨_, rfl⟩
  rw [hv] at H ⊢
  have HB := Lib.hid (below_new1 w (.cells #[.int .i64 b, .int .i64 p, .int .i64 x] 33))
  clear hv
  go_enter Try.func32, Try.ntmps32
  go_wp2_with fail
  refine (H.out _).mono ?_
  rintro e w1 ⟨rfl, hb⟩
  have HB1 := Lib.hid (below_on HB.out HB.out.size hb)
  cases v
  all_goals
    go_wp2
    go_ret
    exact ⟨rfl, HB1.out⟩
theorem all_takeW {L : List Dw} {k : Nat} {t : Dw} (h : L[k]? = some t) : (L.take (k + 1)).all okDw = ((L.take k).all okDw && okDw t) := by
  obtain ⟨hk, rfl⟩ := List.getElem?_eq_some_iff.1 h
  rw [List.take_succ_eq_append_getElem hk, List.all_append]; simp
set_option maxRecDepth 8000 in
set_option maxHeartbeats 1600000 in
theorem dindex_any (w : World) (ao : Option Addr) (cap : Nat) (L : List Dw) (h : SlW w ao cap L) (hl : L.length ≤ 100000) :
    Calls Try.prog 46 #[.slice ao L.length cap, .func (.func 32) #[] #[]] w fun e w' => (∃ i : Int, e = .returned (.int .i64 i) ∧ decide (0 ≤ i) = !L.all okDw) ∧ Below w.heap.size w w' := by
  go_enter Try.func46, Try.ntmps46
  go_wp2
  go_loopw [8] (fun i wr => ∃ k : Nat, k ≤ L.length ∧ i = .int .i64 k ∧ Hid ((L.take k).all okDw = true) ∧ Below w.heap.size w wr) (fun i _ => L.length - (intOf i).toNat)
  case atStart => exact ⟨0, by omega, rfl, by show _ = _; simp, Below.refl _ _⟩
  case round =>
    obtain ⟨k, hk, rfl, HK, hb⟩ := hrel
    by_cases hkl : k < L.length
    · obtain ⟨t, ht⟩ : ∃ t, L[k]? = some t := ⟨_, List.getElem?_eq_getElem hkl⟩
      have HT := Lib.hid ht
      clear ht
      have hw := h.keeps hb
      have HR := Lib.hid (dright1_any t wr)
      go_wp2_with (refine ix_dw rfl _ _ rfl ao cap L hw rfl k t HT.out rfl ?_; intro b off c0 c1 c2)
      refine HR.out.mono ?_
      rintro e w1 ⟨rfl, hb1⟩
      have HB := Lib.hid (below_on hb hb.size hb1)
      clear hb hb1 HR
      cases hv : okDw t with
      | true =>
        have HN : Hid ((L.take (k + 1)).all okDw = true) := by show _ = _; rw [all_takeW HT.out, HK.out]; exact hv
        clear hv
        go_wp2
        go_roundw
        · exact ⟨k + 1, by omega, by go_num, HN, HB.out⟩
        · simp [intOf]; omega
      | false =>
        have HN : Hid (L.all okDw = false) := by
          show _ = _
          rw [List.all_eq_false]
          exact ⟨t, List.mem_of_getElem? HT.out, by rw [hv]; decide⟩
        clear hv
        go_wp2
        go_ret
        exact ⟨⟨k, rfl, by rw [HN.out]; simp⟩, HB.out⟩
    · have HN : Hid (L.all okDw = true) := by
        have := HK.out
        rw [List.take_of_length_le (by omega)] at this
        exact this
      go_wp2
      go_ret
      exact ⟨⟨-1, rfl, by rw [HN.out]; decide⟩, hb⟩
theorem dcontains_any (w : World) (ao : Option Addr) (cap : Nat) (L : List Dw) (h : SlW w ao cap L) (hl : L.length ≤ 100000) :
    Calls Try.prog 31 #[.slice ao L.length cap, .func (.func 32) #[] #[]] w fun e w' => e = .returned (.bool (!L.all okDw)) ∧ Below w.heap.size w w' := by
  have H := Lib.hid (dindex_any w ao cap L h hl)
  obtain ⟨v, hv⟩ : ∃ v, L.all okDw = v := ⟨_, rfl⟩
  rw [hv] at H ⊢
  clear hv
  go_enter Try.func31, Try.ntmps31
  go_wp2_with fail
  refine H.out.mono ?_
  rintro e w1 ⟨⟨i, rfl, hi⟩, hb⟩
  have HI := Lib.hid hi
  clear hi
  go_wp2
  all_goals
    go_ret
    exact ⟨by rw [← HI.out]; simp; try omega, hb⟩
set_option maxRecDepth 8000 in
theorem dright_any (w : World) (ao : Option Addr) (cap : Nat) (L : List Dw) (h : SlW w ao cap L) (v : Bool) (hv : rightW L = v) :
    Calls Try.prog 10 #[.slice ao L.length cap] w fun e w' => e = .returned (.bool v) ∧ Below w.heap.size w w' := by
  by_cases h64 : L.length ≤ 64
  · have H := Lib.hid (dcontains_any w ao cap L h (by omega))
    have HE : Hid (v = L.all okDw) := by show _ = _; rw [← hv, rightW]; simp [h64]
    obtain ⟨q, hq⟩ : ∃ v, L.all okDw = v := ⟨_, rfl⟩
    rw [hq] at H HE
    have i16 : (L.length : Int) ≤ 64 := by omega
    clear hq hv h
    go_enter Try.func10, Try.ntmps10
    go_wp2_with fail
    refine H.out.mono ?_
    rintro e w1 ⟨rfl, hb⟩
    cases q
    all_goals
      go_wp2
      go_ret
      exact ⟨by rw [HE.out]; rfl, hb⟩
  · have HF : Hid (v = false) := by show _ = _; rw [← hv, rightW]; simp [h64]
    have i16 : ¬ (L.length : Int) ≤ 64 := by omega
    have hr := h.room
    clear hv h
    go_enter Try.func10, Try.ntmps10
    go_wp2
    go_ret
    exact ⟨by rw [HF.out]; rfl, Below.refl _ _⟩
set_option maxRecDepth 8000 in
theorem dthere_any (w : World) (ao : Option Addr) (cap : Nat) (L : List Ln) (h : SlL w ao cap L) (k : Int) (v : Bool) (hv : thereS L [k] = v) :
    Calls Try.prog 24 #[.slice ao L.length cap, .int .i64 k] w fun e w' => e = .returned (.bool v) ∧ Below w.heap.size w w' := by
  obtain ⟨r, hr⟩ : ∃ r, rightL L = r := ⟨_, rfl⟩
  have HR := Lib.hid (bright_any w ao cap L h r hr)
  have hv2 : (r && (decide (0 ≤ k) && decide (k < (L.length : Int)))) = v := by rw [← hv, ← hr]; simp [thereS, inN]
  have HV := Lib.hid hv2
  clear h hv hr hv2
  go_enter Try.func24, Try.ntmps24
  go_wp2_with fail
  refine HR.out.mono ?_
  rintro e w1 ⟨rfl, hb⟩
  have HB := Lib.hid hb
  clear hb HR
  cases r with
  | false =>
    go_wp2
    go_ret
    exact ⟨by rw [← HV.out]; rfl, HB.out⟩
  | true =>
    by_cases k0 : 0 ≤ k
    · by_cases k1 : k < (L.length : Int)
      · go_wp2
        go_ret
        exact ⟨by rw [← HV.out]; simp [k0, k1] <;> (intros; omega), HB.out⟩
      · go_wp2
        go_ret
        exact ⟨by rw [← HV.out]; simp [k0, k1] <;> (intros; omega), HB.out⟩
    · go_wp2
      go_ret
      exact ⟨by rw [← HV.out]; simp [k0] <;> (intros; omega), HB.out⟩
/-- What is approved on a line. -/
def pendS (k : Int) : List Dw → Int
  | [] => 0
  | t :: l => (if t.1 = k ∧ t.2.2 = 1 then t.2.1 else 0) + pendS k l
theorem pend_app (k : Int) (L M : List Dw) : pendS k (L ++ M) = pendS k L + pendS k M := by
  induction L with
  | nil => simp [pendS]
  | cons t l ih => simp only [List.cons_append, pendS, ih]; omega
theorem pend_take {L : List Dw} {n : Nat} {t : Dw} (h : L[n]? = some t) (k : Int) : pendS k (L.take (n + 1)) = pendS k (L.take n) + (if t.1 = k ∧ t.2.2 = 1 then t.2.1 else 0) := by
  obtain ⟨hk, rfl⟩ := List.getElem?_eq_some_iff.1 h
  rw [List.take_succ_eq_append_getElem hk, pend_app]; simp [pendS]
theorem pend_in {L : List Dw} (h : L.all okDw = true) (k : Int) : 0 ≤ pendS k L ∧ pendS k L ≤ 1000000000000 * L.length := by
  induction L with
  | nil => simp [pendS]
  | cons t l ih =>
    rw [List.all_cons, Bool.and_eq_true] at h
    have i1 := ih h.2
    have i2 := (okDw_nums h.1).2.1
    simp only [pendS, List.length_cons, Int.natCast_add, Int.natCast_one]
    split <;> omega
theorem pend_at {L : List Dw} (h : rightW L = true) (k : Int) (n : Nat) : 0 ≤ pendS k (L.take n) ∧ pendS k (L.take n) ≤ 64000000000000 := by
  obtain ⟨h1, h2⟩ := rightW_true h
  have h3 : (L.take n).all okDw = true := by
    rw [List.all_eq_true] at h2 ⊢
    exact fun t ht => h2 t (List.mem_of_mem_take ht)
  have := pend_in h3 k
  have : (L.take n).length ≤ 64 := by rw [List.length_take]; omega
  omega
set_option maxRecDepth 8000 in
set_option maxHeartbeats 1600000 in
theorem dpend_any (w : World) (ao : Option Addr) (cap : Nat) (L : List Dw) (h : SlW w ao cap L) (hr : rightW L = true) (k : Int) (v : Int) (hv : pendS k L = v) :
    Calls Try.prog 21 #[.slice ao L.length cap, .int .i64 k] w fun e w' => e = .returned (.int .i64 v) ∧ Below w.heap.size w w' := by
  have HR := Lib.hid hr
  have HV := Lib.hid hv
  have HW := Lib.hid h
  have hl := (rightW_true hr).1
  clear hv h hr
  go_enter Try.func21, Try.ntmps21
  go_wp2
  go_loopw [5, 10] (fun s i wr => ∃ n : Nat, n ≤ L.length ∧ i = .int .i64 n ∧ s = .int .i64 (pendS k (L.take n)) ∧ Below w.heap.size w wr) (fun _ i _ => L.length - (intOf i).toNat)
  case atStart => exact ⟨0, by omega, rfl, by simp [pendS], Below.refl _ _⟩
  case round =>
    obtain ⟨n, hn, rfl, rfl, hb⟩ := hrel
    by_cases hnl : n < L.length
    · obtain ⟨⟨l, a, s⟩, ht⟩ : ∃ t, L[n]? = some t := ⟨_, List.getElem?_eq_getElem hnl⟩
      have HT := Lib.hid ht
      have hp := pend_take ht k
      have hi := pend_at HR.out k n
      have ha := (okDw_nums (List.all_eq_true.1 (rightW_true HR.out).2 _ (List.mem_of_getElem? ht))).2.1
      replace ha : 1 ≤ a ∧ a ≤ 1000000000000 := ha
      obtain ⟨p, hpe⟩ : ∃ p, pendS k (L.take n) = p := ⟨_, rfl⟩
      obtain ⟨i0, i1⟩ := hi
      obtain ⟨a0, a1⟩ := ha
      rw [hpe] at hp i0 i1
      have hw := HW.out.keeps hb
      have HB := Lib.hid (hb.alloc hb.size (.cells #[.int .i64 l, .int .i64 a, .int .i64 s] 33))
      rw [hpe]
      clear ht hb hpe
      by_cases c1 : l = k
      · by_cases c2 : s = 1
        · have HP : Hid (pendS k (L.take (n + 1)) = p + a) := by show _ = _; rw [hp, if_pos ⟨c1, c2⟩]
          clear hp
          subst c1; subst c2
          go_wp2_with (refine ix_dw rfl _ _ rfl ao cap L hw rfl n _ HT.out rfl ?_; intro b off c0 c1 c2)
          go_roundw
          · exact ⟨n + 1, by omega, by go_num, by rw [HP.out], HB.out⟩
          · simp [intOf]; omega
        · have HP : Hid (pendS k (L.take (n + 1)) = p) := by show _ = _; rw [hp, if_neg (fun h => c2 h.2)]; omega
          clear hp
          subst c1
          go_wp2_with (refine ix_dw rfl _ _ rfl ao cap L hw rfl n _ HT.out rfl ?_; intro b off c0 c1 c2)
          go_roundw
          · exact ⟨n + 1, by omega, by go_num, by rw [HP.out], HB.out⟩
          · simp [intOf]; omega
      · have HP : Hid (pendS k (L.take (n + 1)) = p) := by show _ = _; rw [hp, if_neg (fun h => c1 h.1)]; omega
        clear hp
        go_wp2_with (refine ix_dw rfl _ _ rfl ao cap L hw rfl n _ HT.out rfl ?_; intro b off c0 c1 c2)
        go_roundw
        · exact ⟨n + 1, by omega, by go_num, by rw [HP.out], HB.out⟩
        · simp [intOf]; omega
    · obtain rfl : n = L.length := by omega
      have HP : Hid (pendS k (L.take L.length) = v) := by show _ = _; rw [List.take_length]; exact HV.out
      rw [HP.out]
      clear HP
      go_wp2
      go_ret
      exact ⟨rfl, hb⟩
set_option maxRecDepth 8000 in
set_option maxHeartbeats 1600000 in
theorem dturned_any (w : World) (ao : Option Addr) (cap : Nat) (L : List Dw) (h : SlW w ao cap L) (hl : L.length ≤ 100000) (n : Nat) (l a s : Int) (ht : L[n]? = some (l, a, s)) (z : Int) :
    Calls Try.prog 30 #[.slice ao L.length cap, .int .i64 n, .int .i64 z] w fun e w' => ∃ v', e = .returned v' ∧ OwW w' w.heap.size v' (L.set n (l, a, z)) ∧ Below w.heap.size w w' := by
  have HC := Lib.hid (dclone_any w ao cap L h (by omega))
  have hn := (List.getElem?_eq_some_iff.1 ht).1
  have HT := Lib.hid ht
  have HN := Lib.hid hn
  clear h ht
  go_enter Try.func30, Try.ntmps30
  go_wp2_with fail
  refine HC.out.mono ?_
  rintro e w1 ⟨v1, rfl, ho, hb⟩
  have HB1 := Lib.hid hb
  obtain ⟨g, cap2, tl, rfl, hg, h1, h2, h3, hblk⟩ := OwW.blk ho (by omega)
  have HBk := Lib.hid hblk
  have HT1 := Lib.hid h1; have HT2 := Lib.hid h2; have HT3 := Lib.hid h3; have HGB := Lib.hid hg
  have kc : w1.cell? ⟨g, n * 3 + 2, none⟩ = some (.int .i64 s) := HBk.out.cell (n * 3 + 2) _ (dw_at HT.out tl 2 _ rfl)
  have kf := HBk.out.frozen (n * 3 + 2)
  have hnI : (n : Int) < L.length := by omega
  clear ho hb hg h1 h2 h3 hblk HC
  go_wp2
  have HBn : Hid (Blk (w1.setCell ⟨g, n * 3 + 2, none⟩ (.int .i64 z)) g 33 (rc dwc (L.set n (l, a, z)) ++ tl)) := by
    show Blk _ _ _ _
    have h5 := HBk.out.set (n * 3 + 2) (.int .i64 z)
    rw [set_dwJ HT.out (l, a, z) tl 2 (by decide) (.int .i64 z) rfl] at h5
    exact h5
  have HBl : Hid (Below w.heap.size w (w1.setCell ⟨g, n * 3 + 2, none⟩ (.int .i64 z))) := HB1.out.setCell (p := ⟨g, n * 3 + 2, none⟩) HGB.out (.int .i64 z)
  have hlN : (L.set n (l, a, z)).length = L.length := List.length_set
  have HO := Lib.hid (OwW.of (L := L.set n (l, a, z)) HGB.out (by rw [hlN]; exact HT1.out) HT2.out (by rw [hlN]; exact HT3.out) HBn.out)
  rw [hlN] at HO
  clear hlN kc kf
  go_ret
  exact ⟨_, rfl, HO.out, HBl.out⟩
end Go.Proofs.Ytikfclioplploaa
