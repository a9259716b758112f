/-
  Lines of a budget: the walks of the reference's Move, New.
-/
import Derived.Test.YtikfclioplploaaBgF
set_option linter.unusedVariables false
set_option linter.unusedSimpArgs false
namespace Go.Proofs.Ytikfclioplploaa
open Go.RowKit Dg

theorem thereS_pair {L : List Ln} {f t : Int} (h : thereS L [f, t] = true) : rightL L = true ∧ ∃ n m : Nat, n < L.length ∧ m < L.length ∧ f = n ∧ t = m := by
  simp only [thereS, inN, List.all_cons, List.all_nil, Bool.and_true, Bool.and_eq_true, decide_eq_true_eq] at h
  obtain ⟨h1, ⟨h2, h3⟩, h4, h5⟩ := h
  obtain ⟨n, rfl⟩ := Int.eq_ofNat_of_zero_le h2
  obtain ⟨m, rfl⟩ := Int.eq_ofNat_of_zero_le h4
  exact ⟨h1, n, m, by omega, by omega, rfl, rfl⟩
theorem cut142 {L : List Ln} {f t a : Int} (h : thereS L [f, t] = true) (ha : ¬ (1 ≤ a ∧ a ≤ 1000000000000)) : (cutS L f a).2 = 142 := by
  obtain ⟨hr, n, m, hn, hm, rfl, rfl⟩ := thereS_pair h
  unfold cutS
  rw [if_pos (thereS_nat hr hn), if_neg ha]
theorem cut_turn {L : List Ln} {n : Nat} {a : Int} (hr : rightL L = true) (hn : n < L.length) (f1 : 1 ≤ a) (f2 : a ≤ 1000000000000) : cutS L n a = turnS L n ((atL L n).1 - a, (atL L n).2) := by
  unfold cutS
  rw [if_pos (thereS_nat hr hn), if_pos ⟨f1, f2⟩, Int.toNat_natCast]
theorem turn_code (L : List Ln) (n : Nat) (t : Ln) : (turnS L n t).2 = 0 ∨ (turnS L n t).2 = 143 := by
  unfold turnS; split
  · exact .inl rfl
  · exact .inr rfl
theorem cutnot {L : List Ln} {n : Nat} {a : Int} (hr : rightL L = true) (hn : n < L.length) (f1 : 1 ≤ a) (f2 : a ≤ 1000000000000) : ¬ (cutS L n a).2 = 142 := by
  rw [cut_turn hr hn f1 f2]
  rcases turn_code L n ((atL L n).1 - a, (atL L n).2) with h | h <;> rw [h] <;> decide
theorem move_eq {L : List Ln} {n m : Nat} {b p x y a : Int} (hth : thereS L [(n : Int), (m : Int)] = true) (hr : rightL L = true) (ht : L[n]? = some (b, p, x, y)) (f1 : 1 ≤ a) (f2 : a ≤ 1000000000000) (hnm : ¬ n = m) :
    moveS L n m a = if okLn (b - a, p, x, y) = true then (if (atL (L.set n (b - a, p, x, y)) m).1 + a ≤ 1000000000000 then ((L.set n (b - a, p, x, y)).set m ((atL (L.set n (b - a, p, x, y)) m).1 + a, (atL (L.set n (b - a, p, x, y)) m).2), 0) else ([], 142)) else ([], 143) := by
  have hn := (List.getElem?_eq_some_iff.1 ht).1
  unfold moveS
  rw [if_pos hth, if_neg (cutnot hr hn f1 f2), if_neg (by omega), cut_turn hr hn f1 f2, atL_nat ht]
  unfold turnS
  by_cases hok : okLn (b - a, p, x, y) = true
  · simp only [hok, if_true, Int.toNat_natCast]
  · simp only [hok, if_false, Bool.false_eq_true]; rfl
set_option maxRecDepth 8000 in
set_option maxHeartbeats 3200000 in
theorem rmove_any (w : World) (ao : Option Addr) (cap : Nat) (L : List Ln) (h : SlL w ao cap L) (hl : L.length ≤ 1000000000) (f t a : Int) (s : List Ln × Int) (hs : moveS L f t a = s) :
    Calls Try.prog 19 #[.slice ao L.length cap, .int .i64 f, .int .i64 t, .int .i64 a] w fun e w' => ∃ v', e = .returned (.tuple #[v', .int .i64 s.2]) ∧ OwL w' w.heap.size v' s.1 ∧ Below w.heap.size w w' := by
  by_cases hth : thereS L [f, t] = true
  · by_cases f1 : 1 ≤ a
    · by_cases f2 : a ≤ 1000000000000
      · obtain ⟨hr, n, m, hn, hm, rfl, rfl⟩ := thereS_pair hth
        have hnI : (n : Int) < L.length := by omega
        obtain ⟨⟨b, p, x, y⟩, ht⟩ : ∃ t, L[n]? = some t := ⟨_, List.getElem?_eq_getElem hn⟩
        have hat := atL_nat ht
        have hok : okLn (b, p, x, y) = true := List.all_eq_true.1 (rightL_true hr).2.2 _ (List.mem_of_getElem? ht)
        have hl16 : L.length ≤ 16 := (rightL_true hr).2.1
        have hnm := okLn_nums hok
        by_cases hft : n = m
        · subst hft
          have HF := Lib.hid (rfirst_any w ao cap L h hl n n true 0 (by unfold firstS; rw [hth]; rfl))
          have HS : Hid (s = ([], 141)) := by show _ = _; rw [← hs]; unfold moveS; rw [if_pos hth, if_neg (cutnot hr hn f1 f2), if_pos rfl]
          clear hs h hat hok ht hr hnm
          go_enter Try.func19, Try.ntmps19
          go_wp2_with fail
          refine HF.out.mono ?_
          rintro e w1 ⟨rfl, hb1⟩
          have HB1 := Lib.hid hb1
          clear HF
          clear hb1
          have hS := HS.out
          subst hS
          clear HS
          go_wp2
          exact bodyPost_ret (v := .tuple #[.slice none 0 0, .int .i64 141]) (by simp [results, Try.results19, go_sem]) rfl ⟨_, rfl, ownL_nil _ _, HB1.out⟩
        · have HF := Lib.hid (rfirst_any w ao cap L h hl n m true 0 (by unfold firstS; rw [hth]; rfl))
          have HC := Lib.hid (fun W (hb : Below w.heap.size w W) => change_any W ao cap L (h.keeps hb) hl16 n hn b p x y ht (-a) 0 0 0 (by omega) (by omega) (by omega) (by omega))
          rw [show ((b + (-a), p + 0, x + 0, y + 0) : Ln) = (b - a, p, x, y) from by refine Prod.ext ?_ (Prod.ext ?_ (Prod.ext ?_ ?_)) <;> (first | (dsimp only; omega) | rfl)] at HC
          have HS : Hid (s = if okLn (b - a, p, x, y) = true then (if (atL (L.set n (b - a, p, x, y)) m).1 + a ≤ 1000000000000 then ((L.set n (b - a, p, x, y)).set m ((atL (L.set n (b - a, p, x, y)) m).1 + a, (atL (L.set n (b - a, p, x, y)) m).2), 0) else ([], 142)) else ([], 143)) := by
            show _ = _; rw [← hs]; exact move_eq hth hr ht f1 f2 hft
          have HR := Lib.hid hr
          have hne : ¬ (n : Int) = m := by omega
          clear hs h hat hok ht hr hnm hth hft
          go_enter Try.func19, Try.ntmps19
          go_wp2_with fail
          refine HF.out.mono ?_
          rintro e w1 ⟨rfl, hb1⟩
          have HB1 := Lib.hid hb1
          clear HF
          go_wp2_with fail
          refine (HC.out _ HB1.out).mono ?_
          rintro e w2 ⟨v2, rfl, ho2, hb2⟩
          have HB2 := Lib.hid (below_on HB1.out HB1.out.size hb2)
          have hlN : (L.set n (b - a, p, x, y)).length = L.length := List.length_set
          obtain ⟨a2, c2, rfl, hs2⟩ := OwL.sl ho2
          have HRt := Lib.hid (rright_any w2 a2 c2 _ hs2 _ (right_set_eq hn (b - a, p, x, y) HR.out) (by rw [hlN]; omega))
          have HSL2 := Lib.hid hs2
          rw [hlN] at HRt ⊢
          obtain ⟨r, hr⟩ : ∃ r, okLn (b - a, p, x, y) = r := ⟨_, rfl⟩
          rw [hr] at HRt HS
          have HRe := Lib.hid hr
          clear hb2 ho2 hs2 HC hr hb1
          go_wp2_with fail
          refine HRt.out.mono ?_
          rintro e w3 ⟨rfl, hb3⟩
          have HB3 := Lib.hid (below_on HB2.out HB2.out.size hb3)
          have HSL3 := Lib.hid (HSL2.out.keeps hb3)
          clear hb3 HRt HSL2
          cases r with
          | false =>
            have hS : s = ([], 143) := HS.out
            subst hS
            clear HS hlN
            go_wp2
            exact bodyPost_ret (v := .tuple #[.slice none 0 0, .int .i64 143]) (by simp [results, Try.results19, go_sem]) rfl ⟨_, rfl, ownL_nil _ _, HB3.out⟩
          | true =>
            have hS : s = (if (atL (L.set n (b - a, p, x, y)) m).1 + a ≤ 1000000000000 then ((L.set n (b - a, p, x, y)).set m ((atL (L.set n (b - a, p, x, y)) m).1 + a, (atL (L.set n (b - a, p, x, y)) m).2), 0) else ([], 142)) := HS.out
            have hrK := right_set HR.out HRe.out (k := n)
            obtain ⟨K, hK⟩ : ∃ K, L.set n (b - a, p, x, y) = K := ⟨_, rfl⟩
            rw [hK] at hS hrK hlN HSL3
            clear hK HS HRe HR
            have hmK : m < K.length := by rw [hlN]; exact hm
            obtain ⟨⟨b2, p2, x2, y2⟩, ht2⟩ : ∃ t, K[m]? = some t := ⟨_, List.getElem?_eq_getElem hmK⟩
            rw [atL_nat ht2] at hS
            have hok2 : okLn (b2, p2, x2, y2) = true := List.all_eq_true.1 (rightL_true hrK).2.2 _ (List.mem_of_getElem? ht2)
            have hnm2 := okLn_nums hok2
            have HC := Lib.hid (fun W (hb : Below w3.heap.size w3 W) => change_any W a2 c2 K (HSL3.out.keeps hb) (by rw [hlN]; exact hl16) m hmK b2 p2 x2 y2 ht2 a 0 0 0 (by omega) (by omega) (by omega) (by omega))
            rw [show ((b2 + a, p2 + 0, x2 + 0, y2 + 0) : Ln) = (b2 + a, p2, x2, y2) from by refine Prod.ext ?_ (Prod.ext ?_ (Prod.ext ?_ ?_)) <;> (first | (dsimp only; omega) | rfl)] at HC
            have HE : Hid (okLn (b2 + a, p2, x2, y2) = decide (b2 + a ≤ 1000000000000)) := by
              show _ = _
              by_cases h5 : b2 + a ≤ 1000000000000
              · rw [decide_eq_true h5]; exact ok_more (y := (b2, p2, x2, y2)) hok2 f1 h5
              · rw [decide_eq_false h5]
                cases hh : okLn (b2 + a, p2, x2, y2) with
                | false => rfl
                | true => have := okLn_nums hh; omega
            have HSx := Lib.hid hS
            have HRK := Lib.hid hrK
            have HmK := Lib.hid hmK
            have HLN := Lib.hid hlN
            rw [hlN] at HC
            clear hS hrK hok2 hnm2 ht2 hmK hlN
            go_wp2_with fail
            refine (HC.out w3 (Below.refl _ _)).mono ?_
            rintro e w4 ⟨v4, rfl, ho4, hb4⟩
            have HB4 := Lib.hid (below_on HB3.out HB3.out.size hb4)
            have hl4 : (K.set m (b2 + a, p2, x2, y2)).length = L.length := by rw [List.length_set]; exact HLN.out
            obtain ⟨a4, c4, rfl, hs4⟩ := OwL.sl ho4
            have HO4 := Lib.hid (own_dn ho4 HB3.out.size)
            have HRt := Lib.hid (rright_any w4 a4 c4 _ hs4 _ (right_set_eq HmK.out (b2 + a, p2, x2, y2) HRK.out) (by rw [hl4]; omega))
            rw [hl4] at HRt HO4 ⊢
            rw [HE.out] at HRt
            clear hb4 ho4 hs4 HC HE
            by_cases h5 : b2 + a ≤ 1000000000000
            · have hS : s = (K.set m (b2 + a, p2, x2, y2), 0) := by rw [HSx.out]; exact if_pos h5
              rw [decide_eq_true h5] at HRt
              subst hS
              clear HSx
              have HL4 := Lib.hid hl4
              clear hl4
              go_wp2_with fail
              refine HRt.out.mono ?_
              rintro e w5 ⟨rfl, hb5⟩
              have HB5 := Lib.hid (below_on HB4.out HB4.out.size hb5)
              have HO5 := Lib.hid (own_kp HO4.out hb5)
              clear hb5 HRt
              go_wp2
              exact bodyPost_ret (v := .tuple #[.slice a4 L.length c4, .int .i64 0]) (by simp [results, Try.results19, go_sem]) rfl ⟨_, rfl, (by show World.ownsRow _ _ _ _ _ _ _; rw [HL4.out]; exact HO5.out), HB5.out⟩
            · have hS : s = ([], 142) := by rw [HSx.out]; exact if_neg h5
              rw [decide_eq_false h5] at HRt
              subst hS
              clear HSx hl4
              go_wp2_with fail
              refine HRt.out.mono ?_
              rintro e w5 ⟨rfl, hb5⟩
              have HB5 := Lib.hid (below_on HB4.out HB4.out.size hb5)
              clear hb5 HRt
              go_wp2
              exact bodyPost_ret (v := .tuple #[.slice none 0 0, .int .i64 142]) (by simp [results, Try.results19, go_sem]) rfl ⟨_, rfl, ownL_nil _ _, HB5.out⟩
      · have HF := Lib.hid (rfirst_any w ao cap L h hl f t false 142 (by unfold firstS; rw [hth]; rfl))
        have HS : Hid (s = ([], 142)) := by show _ = _; rw [← hs]; unfold moveS; rw [if_pos hth, if_pos (cut142 hth (by omega))]
        clear hs h
        go_enter Try.func19, Try.ntmps19
        go_wp2_with fail
        refine HF.out.mono ?_
        rintro e w1 ⟨rfl, hb1⟩
        have HB1 := Lib.hid hb1
        clear HF
        clear hb1
        have hS := HS.out
        subst hS
        clear HS
        go_wp2
        exact bodyPost_ret (v := .tuple #[.slice none 0 0, .int .i64 142]) (by simp [results, Try.results19, go_sem]) rfl ⟨_, rfl, ownL_nil _ _, HB1.out⟩
    · have HF := Lib.hid (rfirst_any w ao cap L h hl f t false 142 (by unfold firstS; rw [hth]; rfl))
      have HS : Hid (s = ([], 142)) := by show _ = _; rw [← hs]; unfold moveS; rw [if_pos hth, if_pos (cut142 hth (by omega))]
      clear hs h
      go_enter Try.func19, Try.ntmps19
      go_wp2_with fail
      refine HF.out.mono ?_
      rintro e w1 ⟨rfl, hb1⟩
      have HB1 := Lib.hid hb1
      clear HF
      clear hb1
      have hS := HS.out
      subst hS
      clear HS
      go_wp2
      exact bodyPost_ret (v := .tuple #[.slice none 0 0, .int .i64 142]) (by simp [results, Try.results19, go_sem]) rfl ⟨_, rfl, ownL_nil _ _, HB1.out⟩
  · by_cases f1 : 1 ≤ a
    · by_cases f2 : a ≤ 1000000000000
      · have HF := Lib.hid (rfirst_any w ao cap L h hl f t true 141 (by unfold firstS; rw [if_neg hth]))
        have HS : Hid (s = ([], 141)) := by show _ = _; rw [← hs]; unfold moveS; rw [if_neg hth]
        clear hs h
        go_enter Try.func19, Try.ntmps19
        go_wp2_with fail
        refine HF.out.mono ?_
        rintro e w1 ⟨rfl, hb1⟩
        have HB1 := Lib.hid hb1
        clear HF
        clear hb1
        have hS := HS.out
        subst hS
        clear HS
        go_wp2
        exact bodyPost_ret (v := .tuple #[.slice none 0 0, .int .i64 141]) (by simp [results, Try.results19, go_sem]) rfl ⟨_, rfl, ownL_nil _ _, HB1.out⟩
      · have HF := Lib.hid (rfirst_any w ao cap L h hl f t false 141 (by unfold firstS; rw [if_neg hth]))
        have HS : Hid (s = ([], 141)) := by show _ = _; rw [← hs]; unfold moveS; rw [if_neg hth]
        clear hs h
        go_enter Try.func19, Try.ntmps19
        go_wp2_with fail
        refine HF.out.mono ?_
        rintro e w1 ⟨rfl, hb1⟩
        have HB1 := Lib.hid hb1
        clear HF
        clear hb1
        have hS := HS.out
        subst hS
        clear HS
        go_wp2
        exact bodyPost_ret (v := .tuple #[.slice none 0 0, .int .i64 141]) (by simp [results, Try.results19, go_sem]) rfl ⟨_, rfl, ownL_nil _ _, HB1.out⟩
    · have HF := Lib.hid (rfirst_any w ao cap L h hl f t false 141 (by unfold firstS; rw [if_neg hth]))
      have HS : Hid (s = ([], 141)) := by show _ = _; rw [← hs]; unfold moveS; rw [if_neg hth]
      clear hs h
      go_enter Try.func19, Try.ntmps19
      go_wp2_with fail
      refine HF.out.mono ?_
      rintro e w1 ⟨rfl, hb1⟩
      have HB1 := Lib.hid hb1
      clear HF
      clear hb1
      have hS := HS.out
      subst hS
      clear HS
      go_wp2
      exact bodyPost_ret (v := .tuple #[.slice none 0 0, .int .i64 141]) (by simp [results, Try.results19, go_sem]) rfl ⟨_, rfl, ownL_nil _ _, HB1.out⟩
set_option maxRecDepth 8000 in
set_option maxHeartbeats 3200000 in
theorem rnew_any (w : World) (ao : Option Addr) (cap : Nat) (B : List Int) (h : Sl w ao B.length cap (ic B)) (s : List Ln × Int) (hs : newS B = s) (hl : B.length ≤ 1000000) :
    Calls Try.prog 23 #[.slice ao B.length cap] w fun e w' => ∃ v', e = .returned (.tuple #[v', .int .i64 s.2]) ∧ OwL w' w.heap.size v' s.1 ∧ Below w.heap.size w w' := by
  have HS := Lib.hid hs
  have H := Lib.hid h
  have HO0 := Lib.hid (ownL_empty w)
  have HB0 := Lib.hid (below_new1 w (.cells #[] 23))
  clear hs h
  go_enter Try.func23, Try.ntmps23
  go_wp2
  go_loopw [4, 10] (fun o i wr => ∃ k : Nat, k ≤ B.length ∧ i = .int .i64 k ∧ Hid (OwL wr w.heap.size o (bare (B.take k))) ∧ Below w.heap.size w wr) (fun _ i _ => B.length - (intOf i).toNat)
  case atStart => exact ⟨0, by omega, rfl, HO0.out, HB0.out⟩
  case round =>
    obtain ⟨k, hk, rfl, HO, hb⟩ := hrel
    by_cases hkl : k < B.length
    · obtain ⟨x, hx⟩ : ∃ x, B[k]? = some x := ⟨_, List.getElem?_eq_getElem hkl⟩
      have HM := Lib.hid (bare_take hx)
      have hlen : (bare (B.take k)).length = k := by unfold bare; rw [List.length_map, List.length_take]; omega
      obtain ⟨M, hM⟩ : ∃ M, bare (B.take k) = M := ⟨_, rfl⟩
      rw [hM] at hlen HM HO
      have hw := H.out.keeps hb
      have HX := Lib.hid hx
      have HB1 := Lib.hid (hb.alloc hb.size (.cells #[.int .i64 x, .int .i64 0, .int .i64 0, .int .i64 0] 23))
      have HO1 := Lib.hid (own_kp HO.out (below_new1 wr (.cells #[.int .i64 x, .int .i64 0, .int .i64 0, .int .i64 0] 23)))
      have HSL := Lib.hid (sl_ln1 wr x 0 0 0)
      have HL := Lib.hid hlen
      clear hM HO hb hlen hx
      go_wp2_with (first | (refine wpList_ix_sl rfl 55 2 _ _ rfl Try.underlying55 size_i64 ao B.length cap rfl (ic B) hw k hkl rfl ?_; intro b off u hu hcell; obtain rfl : u = .int .i64 x := by (rw [ic_at HX.out] at hu; exact (Option.some.inj hu).symm)) | (refine ap_ln rfl _ _ rfl w.heap.size _ rfl M ?_ _ 1 [(x, 0, 0, 0)] rfl ?_ ?_ ?_ ?_))
      · exact HO1.out
      · exact HSL.out
      · have := HL.out; simp; omega
      · exact (by simpa using HB1.out.size)
      · intro v' w' h1 h2 h3
        have HBn := Lib.hid (below_grown HO1.out h2 (Nat.le_refl _) (Nat.le_refl _) HB1.out)
        have HOn := Lib.hid h1
        clear h1 h2 h3
        go_wp2
        go_roundw
        · exact ⟨k + 1, by omega, by go_num, by rw [HM.out]; exact HOn.out, HBn.out⟩
        · simp [intOf]; omega
    · obtain rfl : k = B.length := by omega
      rw [List.take_length] at HO
      have hlB : (bare B).length = B.length := List.length_map _
      have hS := HS.out
      unfold newS at hS
      obtain ⟨M, hM⟩ : ∃ M, bare B = M := ⟨_, rfl⟩
      rw [hM] at hS HO hlB
      obtain ⟨r, hr⟩ : ∃ r, rightL M = r := ⟨_, rfl⟩
      rw [hr] at hS
      obtain ⟨a2, c2, rfl, hs2⟩ := OwL.sl HO.out
      have HRt := Lib.hid (rright_any wr a2 c2 M hs2 r hr (by rw [hlB]; omega))
      have HBB := Lib.hid hb
      clear hr hs2 hM hb HS hlB
      cases r with
      | false =>
        have hS2 : s = ([], 141) := hS.symm
        subst hS2
        clear hS
        go_wp2_with fail
        refine HRt.out.mono ?_
        rintro e w3 ⟨rfl, hb3⟩
        have HB3 := Lib.hid (below_on HBB.out HBB.out.size hb3)
        clear hb3 HRt
        go_wp2
        exact bodyPost_ret (v := .tuple #[.slice none 0 0, .int .i64 141]) (by simp [results, Try.results23, go_sem]) rfl ⟨_, rfl, ownL_nil _ _, HB3.out⟩
      | true =>
        have hS2 : s = (M, 0) := hS.symm
        subst hS2
        clear hS
        go_wp2_with fail
        refine HRt.out.mono ?_
        rintro e w3 ⟨rfl, hb3⟩
        have HB3 := Lib.hid (below_on HBB.out HBB.out.size hb3)
        have HO3 := Lib.hid (own_kp HO.out hb3)
        clear hb3 HRt
        go_wp2
        exact bodyPost_ret (v := .tuple #[.slice a2 M.length c2, .int .i64 0]) (by simp [results, Try.results23, go_sem]) rfl ⟨_, rfl, HO3.out, HB3.out⟩
end Go.Proofs.Ytikfclioplploaa
