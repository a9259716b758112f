/-
  Lines of a budget: the walks of the reference's Cut, Inspect, Pay, Release.
-/
import Derived.Test.YtikfclioplploaaBgC
import Derived.Test.YtikfclioplploaaBgM
set_option linter.unusedVariables false
set_option linter.unusedSimpArgs false
namespace Go.Proofs.Ytikfclioplploaa
open Go.RowKit Dg

theorem thereS_dup (L : List Ln) (k : Int) : thereS L [k, k] = thereS L [k] := by
  unfold thereS; simp
theorem okLn_nums {b p x y : Int} (h : okLn (b, p, x, y) = true) : (0 ≤ b ∧ b ≤ 1000000000000) ∧ (0 ≤ p ∧ p ≤ 10000) ∧ (0 ≤ x ∧ x ≤ 1000000000000) ∧ (0 ≤ y ∧ y ≤ 1000000000000) ∧ x + y ≤ capS b p := by
  simp only [okLn, okM, Bool.and_eq_true, decide_eq_true_eq] at h
  omega
theorem okLn_mk {b p x y : Int} (h : (0 ≤ b ∧ b ≤ 1000000000000) ∧ (0 ≤ p ∧ p ≤ 10000) ∧ (0 ≤ x ∧ x ≤ 1000000000000) ∧ (0 ≤ y ∧ y ≤ 1000000000000) ∧ x + y ≤ capS b p) : okLn (b, p, x, y) = true := by
  simp only [okLn, okM, Bool.and_eq_true, decide_eq_true_eq]
  omega
theorem right_set_eq {L : List Ln} {k : Nat} (hk : k < L.length) (t : Ln) (h : rightL L = true) : rightL (L.set k t) = okLn t := by
  cases ht : okLn t with
  | true => exact right_set h ht
  | false => exact right_none (t := t) (by obtain ⟨i, hi⟩ : ∃ i, (L.set k t)[i]? = some t := ⟨k, List.getElem?_set_self hk⟩; exact List.mem_of_getElem? hi) ht
theorem cap_mono2 {b p q : Int} (hb : 0 ≤ b) (h : p ≤ q) : capS b p ≤ capS b q := by
  have := Int.mul_le_mul_of_nonneg_left h hb
  unfold capS
  generalize b * p = z at *
  generalize b * q = z2 at *
  omega
theorem insp_ok {b p x y a : Int} (h : okLn (b, p, x, y) = true) (h1 : p ≤ a) (h2 : a ≤ 10000) : okLn (b, a, x, y) = true := by
  have := okLn_nums h
  have := cap_mono2 (b := b) (by omega) h1
  exact okLn_mk (by omega)
theorem rel_ok {b p x y : Int} (h : okLn (b, p, x, y) = true) (h1 : p = 10000) : okLn (b, p, x + y, 0) = true := by
  subst h1
  have := okLn_nums h
  have := cap_all b
  exact okLn_mk (by omega)
set_option maxRecDepth 8000 in
set_option maxHeartbeats 3200000 in
theorem rpay_any (w : World) (ao : Option Addr) (cap : Nat) (L : List Ln) (h : SlL w ao cap L) (hl : L.length ≤ 1000000000) (k a c : Int) (s : List Ln × Int) (hs : payS L k a c = s) :
    Calls Try.prog 41 #[.slice ao L.length cap, .int .i64 k, .int .i64 a, .int .i64 c] w fun e w' => ∃ v', e = .returned (.tuple #[v', .int .i64 s.2]) ∧ OwL w' w.heap.size v' s.1 ∧ Below w.heap.size w w' := by
  by_cases hth : thereS L [k] = true
  · obtain ⟨hr, n, hn, rfl⟩ := thereS_one hth
    have hnI : (n : Int) < L.length := by omega
    obtain ⟨⟨b, p, x, y⟩, ht⟩ : ∃ t, L[n]? = some t := ⟨_, List.getElem?_eq_getElem hn⟩
    have hat := atL_nat ht
    have hok : okLn (b, p, x, y) = true := List.all_eq_true.1 (rightL_true hr).2.2 _ (List.mem_of_getElem? ht)
    have hl16 : L.length ≤ 16 := (rightL_true hr).2.1
    by_cases f1 : 0 ≤ a
    · by_cases f2 : a ≤ 1000000000000
      · by_cases f3 : 0 ≤ c
        · by_cases f4 : c ≤ 1000000000000
          · by_cases g1 : 0 < a
            · have hnm := okLn_nums hok
              have HF := Lib.hid (rfirst_any w ao cap L h hl n n true 0 (by unfold firstS; rw [thereS_dup, hth]; rfl))
              have HC := Lib.hid (fun W (hb : Below w.heap.size w W) => change_any W ao cap L (h.keeps hb) hl16 n hn b p x y ht (0) (0) (a) (c) (by omega) (by omega) (by omega) (by omega))
              rw [show ((b + (0), p + (0), x + (a), y + (c)) : Ln) = (b, p, x + a, y + c) from by refine Prod.ext ?_ (Prod.ext ?_ (Prod.ext ?_ ?_)) <;> (first | (dsimp only; omega) | rfl)] at HC
              have HS : Hid (s = turnS L n (b, p, x + a, y + c)) := by show _ = _; rw [← hs]; unfold payS; rw [if_pos hth, if_pos (by (try simp only [okM, Bool.and_eq_true, decide_eq_true_eq]); omega), hat, Int.toNat_natCast]
              have HR := Lib.hid hr
              clear hs h hat hok ht hnm hr
              go_enter Try.func41, Try.ntmps41
              go_wp2_with fail
              refine HF.out.mono ?_
              rintro e w1 ⟨rfl, hb1⟩
              have HB1 := Lib.hid hb1
              clear HF
              go_wp2_with fail
              refine (HC.out _ HB1.out).mono ?_
              rintro e w2 ⟨v2, rfl, ho2, hb2⟩
              have HB2 := Lib.hid (below_on HB1.out HB1.out.size hb2)
              have hlN : (L.set n (b, p, x + a, y + c)).length = L.length := List.length_set
              obtain ⟨a2, c2, rfl, hs2⟩ := OwL.sl ho2
              have HO2 := Lib.hid (own_dn ho2 HB1.out.size)
              have HRt := Lib.hid (rright_any w2 a2 c2 _ hs2 _ (right_set_eq hn (b, p, x + a, y + c) HR.out) (by rw [hlN]; omega))
              rw [hlN] at HRt HO2 ⊢
              obtain ⟨r, hr⟩ : ∃ r, okLn (b, p, x + a, y + c) = r := ⟨_, rfl⟩
              rw [hr] at HRt
              have HRe := Lib.hid hr
              clear hb2 ho2 hs2 hlN HC hr hb1
              go_wp2_with fail
              refine HRt.out.mono ?_
              rintro e w3 ⟨rfl, hb3⟩
              have HB3 := Lib.hid (below_on HB2.out HB2.out.size hb3)
              have HO3 := Lib.hid (own_kp HO2.out hb3)
              clear hb3 HRt
              cases r with
              | false =>
                have HS2 : Hid (s = ([], 143)) := by show _ = _; rw [HS.out, turnS, HRe.out]; rfl
                have hS := HS2.out
                subst hS
                clear HS2 HS
                go_wp2
                exact bodyPost_ret (v := .tuple #[.slice none 0 0, .int .i64 143]) (by simp [results, Try.results41, go_sem]) rfl ⟨_, rfl, ownL_nil _ _, HB3.out⟩
              | true =>
                have HS2 : Hid (s = (L.set n (b, p, x + a, y + c), 0)) := by show _ = _; rw [HS.out, turnS, HRe.out]; rfl
                have hS := HS2.out
                subst hS
                clear HS2 HS
                go_wp2
                exact bodyPost_ret (v := .tuple #[.slice a2 L.length c2, .int .i64 0]) (by simp [results, Try.results41, go_sem]) rfl ⟨_, rfl, (by show World.ownsRow _ _ _ _ _ _ _; rw [List.length_set]; exact HO3.out), HB3.out⟩
            · by_cases g2 : 0 < c
              · have hnm := okLn_nums hok
                have HF := Lib.hid (rfirst_any w ao cap L h hl n n true 0 (by unfold firstS; rw [thereS_dup, hth]; rfl))
                have HC := Lib.hid (fun W (hb : Below w.heap.size w W) => change_any W ao cap L (h.keeps hb) hl16 n hn b p x y ht (0) (0) (a) (c) (by omega) (by omega) (by omega) (by omega))
                rw [show ((b + (0), p + (0), x + (a), y + (c)) : Ln) = (b, p, x + a, y + c) from by refine Prod.ext ?_ (Prod.ext ?_ (Prod.ext ?_ ?_)) <;> (first | (dsimp only; omega) | rfl)] at HC
                have HS : Hid (s = turnS L n (b, p, x + a, y + c)) := by show _ = _; rw [← hs]; unfold payS; rw [if_pos hth, if_pos (by (try simp only [okM, Bool.and_eq_true, decide_eq_true_eq]); omega), hat, Int.toNat_natCast]
                have HR := Lib.hid hr
                clear hs h hat hok ht hnm hr
                go_enter Try.func41, Try.ntmps41
                go_wp2_with fail
                refine HF.out.mono ?_
                rintro e w1 ⟨rfl, hb1⟩
                have HB1 := Lib.hid hb1
                clear HF
                go_wp2_with fail
                refine (HC.out _ HB1.out).mono ?_
                rintro e w2 ⟨v2, rfl, ho2, hb2⟩
                have HB2 := Lib.hid (below_on HB1.out HB1.out.size hb2)
                have hlN : (L.set n (b, p, x + a, y + c)).length = L.length := List.length_set
                obtain ⟨a2, c2, rfl, hs2⟩ := OwL.sl ho2
                have HO2 := Lib.hid (own_dn ho2 HB1.out.size)
                have HRt := Lib.hid (rright_any w2 a2 c2 _ hs2 _ (right_set_eq hn (b, p, x + a, y + c) HR.out) (by rw [hlN]; omega))
                rw [hlN] at HRt HO2 ⊢
                obtain ⟨r, hr⟩ : ∃ r, okLn (b, p, x + a, y + c) = r := ⟨_, rfl⟩
                rw [hr] at HRt
                have HRe := Lib.hid hr
                clear hb2 ho2 hs2 hlN HC hr hb1
                go_wp2_with fail
                refine HRt.out.mono ?_
                rintro e w3 ⟨rfl, hb3⟩
                have HB3 := Lib.hid (below_on HB2.out HB2.out.size hb3)
                have HO3 := Lib.hid (own_kp HO2.out hb3)
                clear hb3 HRt
                cases r with
                | false =>
                  have HS2 : Hid (s = ([], 143)) := by show _ = _; rw [HS.out, turnS, HRe.out]; rfl
                  have hS := HS2.out
                  subst hS
                  clear HS2 HS
                  go_wp2
                  exact bodyPost_ret (v := .tuple #[.slice none 0 0, .int .i64 143]) (by simp [results, Try.results41, go_sem]) rfl ⟨_, rfl, ownL_nil _ _, HB3.out⟩
                | true =>
                  have HS2 : Hid (s = (L.set n (b, p, x + a, y + c), 0)) := by show _ = _; rw [HS.out, turnS, HRe.out]; rfl
                  have hS := HS2.out
                  subst hS
                  clear HS2 HS
                  go_wp2
                  exact bodyPost_ret (v := .tuple #[.slice a2 L.length c2, .int .i64 0]) (by simp [results, Try.results41, go_sem]) rfl ⟨_, rfl, (by show World.ownsRow _ _ _ _ _ _ _; rw [List.length_set]; exact HO3.out), HB3.out⟩
              · clear hat hok ht
                have HF := Lib.hid (rfirst_any w ao cap L h hl n n false 142 (by unfold firstS; rw [thereS_dup, hth]; rfl))
                have HS : Hid (s = ([], 142)) := by show _ = _; rw [← hs]; unfold payS; rw [if_pos hth, if_neg (by (try simp only [okM, Bool.and_eq_true, decide_eq_true_eq]); omega)]
                clear hs h
                go_enter Try.func41, Try.ntmps41
                go_wp2_with fail
                refine HF.out.mono ?_
                rintro e w1 ⟨rfl, hb1⟩
                have HB1 := Lib.hid hb1
                clear hb1 HF
                have hS := HS.out
                subst hS
                clear HS
                go_wp2
                exact bodyPost_ret (v := .tuple #[.slice none 0 0, .int .i64 142]) (by simp [results, Try.results41, go_sem]) rfl ⟨_, rfl, ownL_nil _ _, HB1.out⟩
          · clear hat hok ht
            have HF := Lib.hid (rfirst_any w ao cap L h hl n n false 142 (by unfold firstS; rw [thereS_dup, hth]; rfl))
            have HS : Hid (s = ([], 142)) := by show _ = _; rw [← hs]; unfold payS; rw [if_pos hth, if_neg (by (try simp only [okM, Bool.and_eq_true, decide_eq_true_eq]); omega)]
            clear hs h
            go_enter Try.func41, Try.ntmps41
            go_wp2_with fail
            refine HF.out.mono ?_
            rintro e w1 ⟨rfl, hb1⟩
            have HB1 := Lib.hid hb1
            clear hb1 HF
            have hS := HS.out
            subst hS
            clear HS
            go_wp2
            exact bodyPost_ret (v := .tuple #[.slice none 0 0, .int .i64 142]) (by simp [results, Try.results41, go_sem]) rfl ⟨_, rfl, ownL_nil _ _, HB1.out⟩
        · clear hat hok ht
          have HF := Lib.hid (rfirst_any w ao cap L h hl n n false 142 (by unfold firstS; rw [thereS_dup, hth]; rfl))
          have HS : Hid (s = ([], 142)) := by show _ = _; rw [← hs]; unfold payS; rw [if_pos hth, if_neg (by (try simp only [okM, Bool.and_eq_true, decide_eq_true_eq]); omega)]
          clear hs h
          go_enter Try.func41, Try.ntmps41
          go_wp2_with fail
          refine HF.out.mono ?_
          rintro e w1 ⟨rfl, hb1⟩
          have HB1 := Lib.hid hb1
          clear hb1 HF
          have hS := HS.out
          subst hS
          clear HS
          go_wp2
          exact bodyPost_ret (v := .tuple #[.slice none 0 0, .int .i64 142]) (by simp [results, Try.results41, go_sem]) rfl ⟨_, rfl, ownL_nil _ _, HB1.out⟩
      · clear hat hok ht
        have HF := Lib.hid (rfirst_any w ao cap L h hl n n false 142 (by unfold firstS; rw [thereS_dup, hth]; rfl))
        have HS : Hid (s = ([], 142)) := by show _ = _; rw [← hs]; unfold payS; rw [if_pos hth, if_neg (by (try simp only [okM, Bool.and_eq_true, decide_eq_true_eq]); omega)]
        clear hs h
        go_enter Try.func41, Try.ntmps41
        go_wp2_with fail
        refine HF.out.mono ?_
        rintro e w1 ⟨rfl, hb1⟩
        have HB1 := Lib.hid hb1
        clear hb1 HF
        have hS := HS.out
        subst hS
        clear HS
        go_wp2
        exact bodyPost_ret (v := .tuple #[.slice none 0 0, .int .i64 142]) (by simp [results, Try.results41, go_sem]) rfl ⟨_, rfl, ownL_nil _ _, HB1.out⟩
    · clear hat hok ht
      have HF := Lib.hid (rfirst_any w ao cap L h hl n n false 142 (by unfold firstS; rw [thereS_dup, hth]; rfl))
      have HS : Hid (s = ([], 142)) := by show _ = _; rw [← hs]; unfold payS; rw [if_pos hth, if_neg (by (try simp only [okM, Bool.and_eq_true, decide_eq_true_eq]); omega)]
      clear hs h
      go_enter Try.func41, Try.ntmps41
      go_wp2_with fail
      refine HF.out.mono ?_
      rintro e w1 ⟨rfl, hb1⟩
      have HB1 := Lib.hid hb1
      clear hb1 HF
      have hS := HS.out
      subst hS
      clear HS
      go_wp2
      exact bodyPost_ret (v := .tuple #[.slice none 0 0, .int .i64 142]) (by simp [results, Try.results41, go_sem]) rfl ⟨_, rfl, ownL_nil _ _, HB1.out⟩
  · by_cases f1 : 0 ≤ a
    · by_cases f2 : a ≤ 1000000000000
      · by_cases f3 : 0 ≤ c
        · by_cases f4 : c ≤ 1000000000000
          · by_cases g1 : 0 < a
            · have HF := Lib.hid (rfirst_any w ao cap L h hl k k true 141 (by unfold firstS; rw [thereS_dup, if_neg hth]))
              have HS : Hid (s = ([], 141)) := by show _ = _; rw [← hs]; unfold payS; rw [if_neg hth]
              clear hs h
              go_enter Try.func41, Try.ntmps41
              go_wp2_with fail
              refine HF.out.mono ?_
              rintro e w1 ⟨rfl, hb1⟩
              have HB1 := Lib.hid hb1
              clear hb1 HF
              have hS := HS.out
              subst hS
              clear HS
              go_wp2
              exact bodyPost_ret (v := .tuple #[.slice none 0 0, .int .i64 141]) (by simp [results, Try.results41, go_sem]) rfl ⟨_, rfl, ownL_nil _ _, HB1.out⟩
            · by_cases g2 : 0 < c
              · have HF := Lib.hid (rfirst_any w ao cap L h hl k k true 141 (by unfold firstS; rw [thereS_dup, if_neg hth]))
                have HS : Hid (s = ([], 141)) := by show _ = _; rw [← hs]; unfold payS; rw [if_neg hth]
                clear hs h
                go_enter Try.func41, Try.ntmps41
                go_wp2_with fail
                refine HF.out.mono ?_
                rintro e w1 ⟨rfl, hb1⟩
                have HB1 := Lib.hid hb1
                clear hb1 HF
                have hS := HS.out
                subst hS
                clear HS
                go_wp2
                exact bodyPost_ret (v := .tuple #[.slice none 0 0, .int .i64 141]) (by simp [results, Try.results41, go_sem]) rfl ⟨_, rfl, ownL_nil _ _, HB1.out⟩
              · have HF := Lib.hid (rfirst_any w ao cap L h hl k k false 141 (by unfold firstS; rw [thereS_dup, if_neg hth]))
                have HS : Hid (s = ([], 141)) := by show _ = _; rw [← hs]; unfold payS; rw [if_neg hth]
                clear hs h
                go_enter Try.func41, Try.ntmps41
                go_wp2_with fail
                refine HF.out.mono ?_
                rintro e w1 ⟨rfl, hb1⟩
                have HB1 := Lib.hid hb1
                clear hb1 HF
                have hS := HS.out
                subst hS
                clear HS
                go_wp2
                exact bodyPost_ret (v := .tuple #[.slice none 0 0, .int .i64 141]) (by simp [results, Try.results41, go_sem]) rfl ⟨_, rfl, ownL_nil _ _, HB1.out⟩
          · have HF := Lib.hid (rfirst_any w ao cap L h hl k k false 141 (by unfold firstS; rw [thereS_dup, if_neg hth]))
            have HS : Hid (s = ([], 141)) := by show _ = _; rw [← hs]; unfold payS; rw [if_neg hth]
            clear hs h
            go_enter Try.func41, Try.ntmps41
            go_wp2_with fail
            refine HF.out.mono ?_
            rintro e w1 ⟨rfl, hb1⟩
            have HB1 := Lib.hid hb1
            clear hb1 HF
            have hS := HS.out
            subst hS
            clear HS
            go_wp2
            exact bodyPost_ret (v := .tuple #[.slice none 0 0, .int .i64 141]) (by simp [results, Try.results41, go_sem]) rfl ⟨_, rfl, ownL_nil _ _, HB1.out⟩
        · have HF := Lib.hid (rfirst_any w ao cap L h hl k k false 141 (by unfold firstS; rw [thereS_dup, if_neg hth]))
          have HS : Hid (s = ([], 141)) := by show _ = _; rw [← hs]; unfold payS; rw [if_neg hth]
          clear hs h
          go_enter Try.func41, Try.ntmps41
          go_wp2_with fail
          refine HF.out.mono ?_
          rintro e w1 ⟨rfl, hb1⟩
          have HB1 := Lib.hid hb1
          clear hb1 HF
          have hS := HS.out
          subst hS
          clear HS
          go_wp2
          exact bodyPost_ret (v := .tuple #[.slice none 0 0, .int .i64 141]) (by simp [results, Try.results41, go_sem]) rfl ⟨_, rfl, ownL_nil _ _, HB1.out⟩
      · have HF := Lib.hid (rfirst_any w ao cap L h hl k k false 141 (by unfold firstS; rw [thereS_dup, if_neg hth]))
        have HS : Hid (s = ([], 141)) := by show _ = _; rw [← hs]; unfold payS; rw [if_neg hth]
        clear hs h
        go_enter Try.func41, Try.ntmps41
        go_wp2_with fail
        refine HF.out.mono ?_
        rintro e w1 ⟨rfl, hb1⟩
        have HB1 := Lib.hid hb1
        clear hb1 HF
        have hS := HS.out
        subst hS
        clear HS
        go_wp2
        exact bodyPost_ret (v := .tuple #[.slice none 0 0, .int .i64 141]) (by simp [results, Try.results41, go_sem]) rfl ⟨_, rfl, ownL_nil _ _, HB1.out⟩
    · have HF := Lib.hid (rfirst_any w ao cap L h hl k k false 141 (by unfold firstS; rw [thereS_dup, if_neg hth]))
      have HS : Hid (s = ([], 141)) := by show _ = _; rw [← hs]; unfold payS; rw [if_neg hth]
      clear hs h
      go_enter Try.func41, Try.ntmps41
      go_wp2_with fail
      refine HF.out.mono ?_
      rintro e w1 ⟨rfl, hb1⟩
      have HB1 := Lib.hid hb1
      clear hb1 HF
      have hS := HS.out
      subst hS
      clear HS
      go_wp2
      exact bodyPost_ret (v := .tuple #[.slice none 0 0, .int .i64 141]) (by simp [results, Try.results41, go_sem]) rfl ⟨_, rfl, ownL_nil _ _, HB1.out⟩
set_option maxRecDepth 8000 in
set_option maxHeartbeats 3200000 in
theorem rinsp_any (w : World) (ao : Option Addr) (cap : Nat) (L : List Ln) (h : SlL w ao cap L) (hl : L.length ≤ 1000000000) (k a : Int) (s : List Ln × Int) (hs : inspS L k a = s) :
    Calls Try.prog 18 #[.slice ao L.length cap, .int .i64 k, .int .i64 a] w fun e w' => ∃ v', e = .returned (.tuple #[v', .int .i64 s.2]) ∧ OwL w' w.heap.size v' s.1 ∧ Below w.heap.size w w' := by
  by_cases hth : thereS L [k] = true
  · obtain ⟨hr, n, hn, rfl⟩ := thereS_one hth
    have hnI : (n : Int) < L.length := by omega
    obtain ⟨⟨b, p, x, y⟩, ht⟩ : ∃ t, L[n]? = some t := ⟨_, List.getElem?_eq_getElem hn⟩
    have hat := atL_nat ht
    have hok : okLn (b, p, x, y) = true := List.all_eq_true.1 (rightL_true hr).2.2 _ (List.mem_of_getElem? ht)
    have hl16 : L.length ≤ 16 := (rightL_true hr).2.1
    by_cases f1 : 0 ≤ a
    · by_cases f2 : a ≤ 10000
      · have hnm := okLn_nums hok
        by_cases g3 : a < p
        · have HF := Lib.hid (rfirst_any w ao cap L h hl n n true 0 (by unfold firstS; rw [thereS_dup, hth]; rfl))
          have HS : Hid (s = ([], 143)) := by show _ = _; rw [← hs]; unfold inspS; rw [if_pos hth, if_pos (by omega), hat, if_pos g3]
          have HSL := Lib.hid h
          have HTT := Lib.hid ht
          clear hs h hat hok ht hnm hr
          go_enter Try.func18, Try.ntmps18
          go_wp2_with fail
          refine HF.out.mono ?_
          rintro e w1 ⟨rfl, hb1⟩
          have HB1 := Lib.hid hb1
          clear HF
          have hS := HS.out
          subst hS
          clear HS
          have hw1 := HSL.out.keeps HB1.out
          clear hb1
          go_wp2_with (refine ix_ln rfl _ _ rfl ao cap L hw1 rfl n _ HTT.out rfl ?_; intro bb off d0 d1 d2 d3)
          exact bodyPost_ret (v := .tuple #[.slice none 0 0, .int .i64 143]) (by simp [results, Try.results18, go_sem]) rfl ⟨_, rfl, ownL_nil _ _, HB1.out⟩
        · have hok2 := insp_ok hok (by omega : p ≤ a) f2
          have HF := Lib.hid (rfirst_any w ao cap L h hl n n true 0 (by unfold firstS; rw [thereS_dup, hth]; rfl))
          have HC := Lib.hid (fun W (hb : Below w.heap.size w W) => change_any W ao cap L (h.keeps hb) hl16 n hn b p x y ht (0) (a - p) (0) (0) (by omega) (by omega) (by omega) (by omega))
          rw [show ((b + (0), p + (a - p), x + (0), y + (0)) : Ln) = (b, a, x, y) from by refine Prod.ext ?_ (Prod.ext ?_ (Prod.ext ?_ ?_)) <;> (first | (dsimp only; omega) | rfl)] at HC
          have HS : Hid (s = (L.set n (b, a, x, y), 0)) := by show _ = _; rw [← hs]; unfold inspS; rw [if_pos hth, if_pos (by omega), hat, if_neg g3, Int.toNat_natCast, turnS, if_pos hok2]
          have HSL := Lib.hid h
          have HTT := Lib.hid ht
          clear hs h hat hok ht hr hok2
          go_enter Try.func18, Try.ntmps18
          go_wp2_with fail
          refine HF.out.mono ?_
          rintro e w1 ⟨rfl, hb1⟩
          have HB1 := Lib.hid hb1
          clear HF
          have hS := HS.out
          subst hS
          clear HS
          have hw1 := HSL.out.keeps HB1.out
          clear hb1
          go_wp2_with (first | (refine ix_ln rfl _ _ rfl ao cap L hw1 rfl n _ HTT.out rfl ?_; intro bb off d0 d1 d2 d3) | fail)
          refine (HC.out _ HB1.out).mono ?_
          rintro e w2 ⟨v2, rfl, ho2, hb2⟩
          have HB2 := Lib.hid (below_on HB1.out HB1.out.size hb2)
          have HO2 := Lib.hid (own_dn ho2 HB1.out.size)
          clear hb2 ho2 HC hw1 d0 d1 d2 d3
          go_wp2
          exact bodyPost_ret (v := .tuple #[v2, .int .i64 0]) (by simp [results, Try.results18, go_sem]) rfl ⟨_, rfl, HO2.out, HB2.out⟩
      · clear hat hok ht
        have HF := Lib.hid (rfirst_any w ao cap L h hl n n false 142 (by unfold firstS; rw [thereS_dup, hth]; rfl))
        have HS : Hid (s = ([], 142)) := by show _ = _; rw [← hs]; unfold inspS; rw [if_pos hth, if_neg (by (try simp only [okM, Bool.and_eq_true, decide_eq_true_eq]); omega)]
        clear hs h
        go_enter Try.func18, Try.ntmps18
        go_wp2_with fail
        refine HF.out.mono ?_
        rintro e w1 ⟨rfl, hb1⟩
        have HB1 := Lib.hid hb1
        clear hb1 HF
        have hS := HS.out
        subst hS
        clear HS
        go_wp2
        exact bodyPost_ret (v := .tuple #[.slice none 0 0, .int .i64 142]) (by simp [results, Try.results18, go_sem]) rfl ⟨_, rfl, ownL_nil _ _, HB1.out⟩
    · clear hat hok ht
      have HF := Lib.hid (rfirst_any w ao cap L h hl n n false 142 (by unfold firstS; rw [thereS_dup, hth]; rfl))
      have HS : Hid (s = ([], 142)) := by show _ = _; rw [← hs]; unfold inspS; rw [if_pos hth, if_neg (by (try simp only [okM, Bool.and_eq_true, decide_eq_true_eq]); omega)]
      clear hs h
      go_enter Try.func18, Try.ntmps18
      go_wp2_with fail
      refine HF.out.mono ?_
      rintro e w1 ⟨rfl, hb1⟩
      have HB1 := Lib.hid hb1
      clear hb1 HF
      have hS := HS.out
      subst hS
      clear HS
      go_wp2
      exact bodyPost_ret (v := .tuple #[.slice none 0 0, .int .i64 142]) (by simp [results, Try.results18, go_sem]) rfl ⟨_, rfl, ownL_nil _ _, HB1.out⟩
  · by_cases f1 : 0 ≤ a
    · by_cases f2 : a ≤ 10000
      · have HF := Lib.hid (rfirst_any w ao cap L h hl k k true 141 (by unfold firstS; rw [thereS_dup, if_neg hth]))
        have HS : Hid (s = ([], 141)) := by show _ = _; rw [← hs]; unfold inspS; rw [if_neg hth]
        clear hs h
        go_enter Try.func18, Try.ntmps18
        go_wp2_with fail
        refine HF.out.mono ?_
        rintro e w1 ⟨rfl, hb1⟩
        have HB1 := Lib.hid hb1
        clear hb1 HF
        have hS := HS.out
        subst hS
        clear HS
        go_wp2
        exact bodyPost_ret (v := .tuple #[.slice none 0 0, .int .i64 141]) (by simp [results, Try.results18, go_sem]) rfl ⟨_, rfl, ownL_nil _ _, HB1.out⟩
      · have HF := Lib.hid (rfirst_any w ao cap L h hl k k false 141 (by unfold firstS; rw [thereS_dup, if_neg hth]))
        have HS : Hid (s = ([], 141)) := by show _ = _; rw [← hs]; unfold inspS; rw [if_neg hth]
        clear hs h
        go_enter Try.func18, Try.ntmps18
        go_wp2_with fail
        refine HF.out.mono ?_
        rintro e w1 ⟨rfl, hb1⟩
        have HB1 := Lib.hid hb1
        clear hb1 HF
        have hS := HS.out
        subst hS
        clear HS
        go_wp2
        exact bodyPost_ret (v := .tuple #[.slice none 0 0, .int .i64 141]) (by simp [results, Try.results18, go_sem]) rfl ⟨_, rfl, ownL_nil _ _, HB1.out⟩
    · have HF := Lib.hid (rfirst_any w ao cap L h hl k k false 141 (by unfold firstS; rw [thereS_dup, if_neg hth]))
      have HS : Hid (s = ([], 141)) := by show _ = _; rw [← hs]; unfold inspS; rw [if_neg hth]
      clear hs h
      go_enter Try.func18, Try.ntmps18
      go_wp2_with fail
      refine HF.out.mono ?_
      rintro e w1 ⟨rfl, hb1⟩
      have HB1 := Lib.hid hb1
      clear hb1 HF
      have hS := HS.out
      subst hS
      clear HS
      go_wp2
      exact bodyPost_ret (v := .tuple #[.slice none 0 0, .int .i64 141]) (by simp [results, Try.results18, go_sem]) rfl ⟨_, rfl, ownL_nil _ _, HB1.out⟩
end Go.Proofs.Ytikfclioplploaa
