/-
  Draws: the walks of the reference's Right, Pending, change, there, Ask, Refuse, Strip, Same.
-/
import Derived.Test.YtikfclioplploaaDwC
import Derived.Test.YtikfclioplploaaBgR
import Derived.Test.YtikfclioplploaaBgS
set_option linter.unusedVariables false
set_option linter.unusedSimpArgs false
namespace Go.Proofs.Ytikfclioplploaa
open Go.RowKit Dg

theorem rightW_none {L : List Dw} {t : Dw} (h : t ∈ L) (h2 : okDw t = false) : rightW L = false := by
  unfold rightW
  rw [List.all_eq_false.2 ⟨t, h, by rw [h2]; decide⟩, Bool.and_false]
set_option maxRecDepth 8000 in
set_option maxHeartbeats 3200000 in
theorem drright_any (w : World) (ao : Option Addr) (cap : Nat) (L : List Dw) (h : SlW w ao cap L) (v : Bool) (hv : rightW L = v) (hl : L.length ≤ 1000000000) :
    Calls Try.prog 11 #[.slice ao L.length cap] w fun e w' => e = .returned (.bool v) ∧ Below w.heap.size w w' := by
  have HV := Lib.hid hv
  have H := Lib.hid h
  by_cases h64 : L.length ≤ 64
  · have t2 : ¬ (64 : Int) < L.length := by omega
    have HL := Lib.hid h64
    clear hv h h64
    go_enter Try.func11, Try.ntmps11
    go_wp2
    go_loopw [10] (fun i wr => ∃ k : Nat, k ≤ L.length ∧ i = .int .i64 k ∧ Hid ((L.take k).all okDw = true) ∧ Below w.heap.size w wr) (fun i _ => L.length - (intOf i).toNat)
    case atStart => exact ⟨0, by omega, rfl, by show _ = _; simp, Below.refl _ _⟩
    case round =>
      obtain ⟨k, hk, rfl, HK, hb⟩ := hrel
      by_cases hkl : k < L.length
      · obtain ⟨⟨l, a, s⟩, ht⟩ : ∃ t, L[k]? = some t := ⟨_, List.getElem?_eq_getElem hkl⟩
        have HT := Lib.hid ht
        have hw := H.out.keeps hb
        have HB := Lib.hid (hb.alloc hb.size (.cells #[.int .i64 l, .int .i64 a, .int .i64 s] 33))
        obtain ⟨v2, hv2⟩ : ∃ v2, okDw (l, a, s) = v2 := ⟨_, rfl⟩
        have hd : v2 = (decide (0 ≤ l) && decide (l ≤ 15) && (decide (1 ≤ a) && decide (a ≤ 1000000000000)) && decide (0 ≤ s) && decide (s ≤ 3)) := hv2.symm
        clear ht hb
        cases v2 with
        | true =>
          have HN : Hid ((L.take (k + 1)).all okDw = true) := by show _ = _; rw [all_takeW HT.out, HK.out]; exact hv2
          have hnm := okDw_nums hv2
          replace hnm : (0 ≤ l ∧ l ≤ 15) ∧ (1 ≤ a ∧ a ≤ 1000000000000) ∧ (0 ≤ s ∧ s ≤ 3) := hnm
          have e0 : ¬ l < 0 := by omega
          have e1 : ¬ 15 < l := by omega
          have e2 : ¬ a < 1 := by omega
          have e3 : ¬ 1000000000000 < a := by omega
          have e4 : ¬ s < 0 := by omega
          have e5 : ¬ 3 < s := by omega
          clear hv2 hd hnm
          go_wp2_with (refine ix_dw rfl _ _ rfl ao cap L hw rfl k _ HT.out rfl ?_; intro b off c0 c1 c2)
          go_roundw
          · exact ⟨k + 1, by omega, by go_num, HN, HB.out⟩
          · simp [intOf]; omega
        | false =>
          have HF : Hid (v = false) := by show _ = _; rw [← HV.out]; exact rightW_none (List.mem_of_getElem? HT.out) hv2
          have h6 : (l < 0) ∨ (¬ l < 0 ∧ 15 < l) ∨ (¬ l < 0 ∧ ¬ 15 < l ∧ a < 1) ∨ (¬ l < 0 ∧ ¬ 15 < l ∧ ¬ a < 1 ∧ 1000000000000 < a) ∨ (¬ l < 0 ∧ ¬ 15 < l ∧ ¬ a < 1 ∧ ¬ 1000000000000 < a ∧ s < 0) ∨ (¬ l < 0 ∧ ¬ 15 < l ∧ ¬ a < 1 ∧ ¬ 1000000000000 < a ∧ ¬ s < 0 ∧ 3 < s) := by
            simp only [Bool.false_eq, Bool.and_eq_false_iff, decide_eq_false_iff_not] at hd
            omega
          clear hv2 hd
          rcases h6 with e0 | ⟨e0, e1⟩ | ⟨e0, e1, e2⟩ | ⟨e0, e1, e2, e3⟩ | ⟨e0, e1, e2, e3, e4⟩ | ⟨e0, e1, e2, e3, e4, e5⟩
          all_goals
            go_wp2_with (refine ix_dw rfl _ _ rfl ao cap L hw rfl k _ HT.out rfl ?_; intro b off c0 c1 c2)
            go_ret
            exact ⟨by rw [HF.out]; rfl, HB.out⟩
      · obtain rfl : k = L.length := by omega
        have HF : Hid (v = true) := by
          show _ = _
          have := HK.out
          rw [List.take_length] at this
          rw [← HV.out, rightW, this]; simp [HL.out]
        go_wp2
        go_ret
        exact ⟨by rw [HF.out]; rfl, hb⟩
  · have t2 : (64 : Int) < L.length := by omega
    have HF : Hid (v = false) := by show _ = _; rw [← HV.out, rightW]; simp [h64]
    clear hv h h64
    go_enter Try.func11, Try.ntmps11
    go_wp2
    go_ret
    exact ⟨by rw [HF.out]; rfl, Below.refl _ _⟩
set_option maxRecDepth 8000 in
set_option maxHeartbeats 1600000 in
theorem drpend_any (w : World) (ao : Option Addr) (cap : Nat) (L : List Dw) (h : SlW w ao cap L) (hr : rightW L = true) (k : Int) (v : Int) (hv : pendS k L = v) :
    Calls Try.prog 22 #[.slice ao L.length cap, .int .i64 k] w fun e w' => e = .returned (.int .i64 v) ∧ Below w.heap.size w w' := by
  have HR := Lib.hid hr
  have HV := Lib.hid hv
  have HW := Lib.hid h
  have hl := (rightW_true hr).1
  clear hv h hr
  go_enter Try.func22, Try.ntmps22
  go_wp2
  go_loopw [5, 10] (fun s i wr => ∃ n : Nat, n ≤ L.length ∧ i = .int .i64 n ∧ s = .int .i64 (pendS k (L.take n)) ∧ Below w.heap.size w wr) (fun _ i _ => L.length - (intOf i).toNat)
  case atStart => exact ⟨0, by omega, rfl, by simp [pendS], Below.refl _ _⟩
  case round =>
    obtain ⟨n, hn, rfl, rfl, hb⟩ := hrel
    by_cases hnl : n < L.length
    · obtain ⟨⟨l, a, s⟩, ht⟩ : ∃ t, L[n]? = some t := ⟨_, List.getElem?_eq_getElem hnl⟩
      have HT := Lib.hid ht
      have hp := pend_take ht k
      have hi := pend_at HR.out k n
      have ha := (okDw_nums (List.all_eq_true.1 (rightW_true HR.out).2 _ (List.mem_of_getElem? ht))).2.1
      replace ha : 1 ≤ a ∧ a ≤ 1000000000000 := ha
      obtain ⟨p, hpe⟩ : ∃ p, pendS k (L.take n) = p := ⟨_, rfl⟩
      obtain ⟨i0, i1⟩ := hi
      obtain ⟨a0, a1⟩ := ha
      rw [hpe] at hp i0 i1
      have hw := HW.out.keeps hb
      have HB := Lib.hid (hb.alloc hb.size (.cells #[.int .i64 l, .int .i64 a, .int .i64 s] 33))
      rw [hpe]
      clear ht hb hpe
      by_cases c1 : l = k
      · by_cases c2 : s = 1
        · have HP : Hid (pendS k (L.take (n + 1)) = p + a) := by show _ = _; rw [hp, if_pos ⟨c1, c2⟩]
          clear hp
          subst c1; subst c2
          go_wp2_with (refine ix_dw rfl _ _ rfl ao cap L hw rfl n _ HT.out rfl ?_; intro b off c0 c1 c2)
          go_roundw
          · exact ⟨n + 1, by omega, by go_num, by rw [HP.out], HB.out⟩
          · simp [intOf]; omega
        · have HP : Hid (pendS k (L.take (n + 1)) = p) := by show _ = _; rw [hp, if_neg (fun h => c2 h.2)]; omega
          clear hp
          subst c1
          go_wp2_with (refine ix_dw rfl _ _ rfl ao cap L hw rfl n _ HT.out rfl ?_; intro b off c0 c1 c2)
          go_roundw
          · exact ⟨n + 1, by omega, by go_num, by rw [HP.out], HB.out⟩
          · simp [intOf]; omega
      · have HP : Hid (pendS k (L.take (n + 1)) = p) := by show _ = _; rw [hp, if_neg (fun h => c1 h.1)]; omega
        clear hp
        go_wp2_with (refine ix_dw rfl _ _ rfl ao cap L hw rfl n _ HT.out rfl ?_; intro b off c0 c1 c2)
        go_roundw
        · exact ⟨n + 1, by omega, by go_num, by rw [HP.out], HB.out⟩
        · simp [intOf]; omega
    · obtain rfl : n = L.length := by omega
      have HP : Hid (pendS k (L.take L.length) = v) := by show _ = _; rw [List.take_length]; exact HV.out
      rw [HP.out]
      clear HP
      go_wp2
      go_ret
      exact ⟨rfl, hb⟩
set_option maxRecDepth 8000 in
set_option maxHeartbeats 1600000 in
theorem drchange_any (w : World) (ao : Option Addr) (cap : Nat) (L : List Dw) (h : SlW w ao cap L) (hl : L.length ≤ 100000) (n : Nat) (l a s : Int) (ht : L[n]? = some (l, a, s)) (z : Int) :
    Calls Try.prog 37 #[.slice ao L.length cap, .int .i64 n, .int .i64 z] w fun e w' => ∃ v', e = .returned v' ∧ OwW w' w.heap.size v' (L.set n (l, a, z)) ∧ Below w.heap.size w w' := by
  have HV := Lib.hid (h.alloc (.cells #[] 33))
  have HO0 := Lib.hid (ownW_empty w)
  have HB0 := Lib.hid (below_new1 w (.cells #[] 33))
  have hn := (List.getElem?_eq_some_iff.1 ht).1
  have HT := Lib.hid ht
  have HN := Lib.hid hn
  clear h ht
  go_enter Try.func37, Try.ntmps37
  go_wp2_with (first | (refine ap_dw rfl _ _ rfl w.heap.size _ rfl [] ?_ _ cap L rfl ?_ ?_ ?_ ?_) | fail)
  · exact HO0.out
  · exact HV.out
  · simp; omega
  · simp
  intro v1 w1 h1 h2 h3
  try rw [List.nil_append] at h1
  have HB1 := Lib.hid (below_grown HO0.out h2 (Nat.le_refl _) (Nat.le_refl _) HB0.out)
  obtain ⟨g, cap2, tl, rfl, hg, k1, k2, k3, hblk⟩ := OwW.blk h1 (by omega)
  have HBk := Lib.hid hblk
  have HT1 := Lib.hid k1; have HT2 := Lib.hid k2; have HT3 := Lib.hid k3; have HGB := Lib.hid hg
  have kc : w1.cell? ⟨g, n * 3 + 2, none⟩ = some (.int .i64 s) := HBk.out.cell (n * 3 + 2) _ (dw_at HT.out tl 2 _ rfl)
  have kf := HBk.out.frozen (n * 3 + 2)
  have hnI : (n : Int) < L.length := by omega
  clear h1 h2 h3 hg k1 k2 k3 hblk HO0 HV
  go_wp2
  have HBn : Hid (Blk (w1.setCell ⟨g, n * 3 + 2, none⟩ (.int .i64 z)) g 33 (rc dwc (L.set n (l, a, z)) ++ tl)) := by
    show Blk _ _ _ _
    have h5 := HBk.out.set (n * 3 + 2) (.int .i64 z)
    rw [set_dwJ HT.out (l, a, z) tl 2 (by decide) (.int .i64 z) rfl] at h5
    exact h5
  have HBl : Hid (Below w.heap.size w (w1.setCell ⟨g, n * 3 + 2, none⟩ (.int .i64 z))) := HB1.out.setCell (p := ⟨g, n * 3 + 2, none⟩) HGB.out (.int .i64 z)
  have hlN : (L.set n (l, a, z)).length = L.length := List.length_set
  have HO := Lib.hid (OwW.of (L := L.set n (l, a, z)) HGB.out (by rw [hlN]; exact HT1.out) HT2.out (by rw [hlN]; exact HT3.out) HBn.out)
  rw [hlN] at HO
  clear hlN kc kf
  go_ret
  exact ⟨_, rfl, HO.out, HBl.out⟩
set_option maxRecDepth 8000 in
theorem drthere_any (w : World) (ao : Option Addr) (cap : Nat) (L : List Dw) (h : SlW w ao cap L) (hl : L.length ≤ 1000000000) (k : Int) (v : Bool) (hv : thereW L k = v) :
    Calls Try.prog 35 #[.slice ao L.length cap, .int .i64 k] w fun e w' => e = .returned (.bool v) ∧ Below w.heap.size w w' := by
  obtain ⟨r, hr⟩ : ∃ r, rightW L = r := ⟨_, rfl⟩
  have HR := Lib.hid (drright_any w ao cap L h r hr hl)
  have hv2 : (r && (decide (0 ≤ k) && decide (k < (L.length : Int)))) = v := by rw [← hv, ← hr]; simp [thereW, inN]
  have HV := Lib.hid hv2
  clear h hv hr hv2
  go_enter Try.func35, Try.ntmps35
  go_wp2_with fail
  refine HR.out.mono ?_
  rintro e w1 ⟨rfl, hb⟩
  have HB := Lib.hid hb
  clear hb HR
  cases r with
  | false =>
    go_wp2
    go_ret
    exact ⟨by rw [← HV.out]; rfl, HB.out⟩
  | true =>
    by_cases k0 : 0 ≤ k
    · by_cases k1 : k < (L.length : Int)
      · go_wp2
        go_ret
        exact ⟨by rw [← HV.out]; simp [k0, k1] <;> (intros; omega), HB.out⟩
      · go_wp2
        go_ret
        exact ⟨by rw [← HV.out]; simp [k0, k1] <;> (intros; omega), HB.out⟩
    · go_wp2
      go_ret
      exact ⟨by rw [← HV.out]; simp [k0] <;> (intros; omega), HB.out⟩
theorem drstrip_any (a p : Int) (h0 : 0 ≤ a) (h1 : a ≤ 1000000000000) (w : World) :
    Calls Try.prog 40 #[.int .i64 a, .int .i64 p] w fun e w' => e = .returned (.tuple #[.int .i64 (stripS a p).1, .int .i64 (stripS a p).2.1, .int .i64 (stripS a p).2.2]) ∧ Below w.heap.size w w' := by
  by_cases hp : 0 ≤ p ∧ p ≤ 10000
  · unfold stripS
    rw [if_pos hp]
    obtain ⟨p0, p1⟩ := hp
    have HF := Lib.hid (fun W => rcapf_any a p h0 h1 p0 p1 W)
    have hc := cap_in h0 h1 p0 p1
    obtain ⟨q, hq⟩ : ∃ q, capS a p = q := ⟨_, rfl⟩
    rw [hq] at HF hc ⊢
    clear hq
    go_enter Try.func40, Try.ntmps40
    go_wp2_with fail
    refine (HF.out _).mono ?_
    rintro e w1 ⟨rfl, hb⟩
    go_wp2
    exact bodyPost_ret (v := .tuple #[.int .i64 q, .int .i64 (a - q), .int .i64 0]) (by simp [results, Try.results40, go_sem]) rfl ⟨rfl, hb⟩
  · unfold stripS
    rw [if_neg hp]
    have h2 : p < 0 ∨ (0 ≤ p ∧ 10000 < p) := by omega
    clear hp
    rcases h2 with h2 | ⟨h2, h3⟩
    all_goals
      go_enter Try.func40, Try.ntmps40
      go_wp2
      exact bodyPost_ret (v := .tuple #[.int .i64 0, .int .i64 0, .int .i64 21]) (by simp [results, Try.results40, go_sem]) rfl ⟨rfl, Below.refl _ _⟩
set_option maxRecDepth 8000 in
set_option maxHeartbeats 1600000 in
theorem dsame_any (w : World) (ao : Option Addr) (cap : Nat) (L : List Dw) (bo : Option Addr) (dap : Nat) (M : List Dw) (h : SlW w ao cap L) (hm : SlW w bo dap M) (v : Bool) (hv : decide (L = M) = v) (hl0 : L.length ≤ 1000000000) :
    Calls Try.prog 20 #[.slice ao L.length cap, .slice bo M.length dap] w fun e w' => e = .returned (.bool v) ∧ Below w.heap.size w w' := by
  by_cases hl : L.length = M.length
  · have HV := Lib.hid hv
    clear hv
    have HL := Lib.hid hl
    have hl1 : (L.length : Int) ≤ M.length := by omega
    have hl2 : (M.length : Int) ≤ L.length := by omega
    have hne : ((L.length : Int) != M.length) = false := by simp; omega
    clear hl
    go_enter Try.func20, Try.ntmps20
    go_wp2
    go_loopw [13] (fun i wr => ∃ k : Nat, k ≤ L.length ∧ i = .int .i64 k ∧ Hid (L.take k = M.take k) ∧ Below w.heap.size w wr) (fun i _ => L.length - (intOf i).toNat)
    case atStart => exact ⟨0, by omega, rfl, by show _ = _; simp, Below.refl _ _⟩
    case round =>
      obtain ⟨k, hk, rfl, HK, hb⟩ := hrel
      by_cases hkl : k < L.length
      · obtain ⟨x, hx⟩ : ∃ x, L[k]? = some x := ⟨_, List.getElem?_eq_getElem hkl⟩
        obtain ⟨y, hy⟩ : ∃ y, M[k]? = some y := ⟨_, List.getElem?_eq_getElem (by rw [← HL.out]; exact hkl)⟩
        have hw := h.keeps hb
        have hm2 := hm.keeps hb
        have hx3 := hw
        obtain ⟨b, off, rfl, hc⟩ := hw.cells (by intro e; have := rc_at dwc_len hx 0 _ rfl; rw [e] at this; simp at this)
        obtain ⟨b2, off2, rfl, hc2⟩ := hm2.cells (by intro e; have := rc_at dwc_len hy 0 _ rfl; rw [e] at this; simp at this)
        obtain ⟨c0, c1, c2⟩ := dw_cells hc hx
        obtain ⟨d0, d1, d2⟩ := dw_cells hc2 hy
        have HX := Lib.hid hx
        have HY := Lib.hid hy
        clear hx hy hc hc2 hw hm2 hx3
        by_cases he : x = y
        · have HN : Hid (L.take (k + 1) = M.take (k + 1)) := same_take HX.out HY.out HK.out he
          subst he
          go_wp2
          go_quiet (fail)
          go_wp2
          go_roundw
          · exact ⟨k + 1, by omega, by go_num, HN, pw_belowN hb _⟩
          · simp [intOf]; omega
        · have HF : Hid (v = false) := by
            show _ = _
            rw [← HV.out]; simp; exact same_not HX.out HY.out he
          have h3 : ¬ x.1 = y.1 ∨ (x.1 = y.1 ∧ ¬ x.2.1 = y.2.1) ∨ (x.1 = y.1 ∧ x.2.1 = y.2.1 ∧ ¬ x.2.2 = y.2.2) := by
            by_cases e1 : x.1 = y.1
            · by_cases e2 : x.2.1 = y.2.1
              · exact .inr (.inr ⟨e1, e2, fun e4 => he (Prod.ext e1 (Prod.ext e2 e4))⟩)
              · exact .inr (.inl ⟨e1, e2⟩)
            · exact .inl e1
          have hkm : (k : Int) < M.length := by omega
          clear he
          rcases h3 with e1 | ⟨e1, e2⟩ | ⟨e1, e2, e3⟩
          all_goals
            go_wp2
            go_quiet (fail)
            go_wp2
            go_ret
            exact ⟨by rw [HF.out]; rfl, pw_belowN hb _⟩
      · obtain rfl : k = L.length := by omega
        have HF : Hid (v = true) := by
          show _ = _
          rw [← HV.out]
          have := HK.out
          rw [List.take_length, HL.out, List.take_length] at this
          simpa using this
        go_wp2
        go_ret
        exact ⟨by rw [HF.out]; rfl, hb⟩
  · have HF : Hid (v = false) := by
      show _ = _
      rw [← hv]; simp
      intro e; exact hl (by rw [e])
    have hne : ((L.length : Int) != M.length) = true := by simp; omega
    have hlen := h.room
    have hlen2 := hm.room
    clear hv h hl hm
    go_enter Try.func20, Try.ntmps20
    go_wp2
    go_ret
    exact ⟨by rw [HF.out]; rfl, Below.refl _ _⟩
set_option maxRecDepth 8000 in
set_option maxHeartbeats 3200000 in
theorem drask_any (w : World) (ao : Option Addr) (cap : Nat) (D : List Dw) (h : SlW w ao cap D) (hl : D.length ≤ 100000) (lo : Option Addr) (lcap : Nat) (L : List Ln) (hL : SlL w lo lcap L) (hl2 : L.length ≤ 100000) (k a : Int) (s : List Dw × Int × Int) (hs : askS D L k a = s) :
    Calls Try.prog 12 #[.slice ao D.length cap, .slice lo L.length lcap, .int .i64 k, .int .i64 a] w fun e w' => ∃ v', e = .returned (.tuple #[v', .int .i64 s.2.1, .int .i64 s.2.2]) ∧ OwW w' w.heap.size v' s.1 ∧ Below w.heap.size w w' := by
  obtain ⟨r, hr⟩ : ∃ r, rightW D = r := ⟨_, rfl⟩
  have HR := Lib.hid (drright_any w ao cap D h r hr (by omega))
  obtain ⟨rl, hrl⟩ : ∃ r, rightL L = r := ⟨_, rfl⟩
  have HRl := Lib.hid (fun U (hu : Below w.heap.size w U) => rright_any U lo lcap L (hL.keeps hu) rl hrl (by omega))
  have HD := Lib.hid h
  unfold askS at hs
  have hth : thereS L [k] = (rl && (decide (0 ≤ k) && decide (k < (L.length : Int)))) := by rw [← hrl]; simp [thereS, inN]
  have h64r : r = true → D.length ≤ 64 := fun e => (rightW_true (hr.trans e)).1
  rw [hr, hth] at hs
  have HV := Lib.hid hs
  clear hs h hL hr hth hrl
  go_enter Try.func12, Try.ntmps12
  go_wp2_with fail
  refine HR.out.mono ?_
  rintro e w1 ⟨rfl, hb1⟩
  have HB1 := Lib.hid hb1
  clear hb1 HR
  cases r with
  | false =>
    obtain rfl : s = ([], 0, 151) := by rw [← HV.out]; simp
    clear HV h64r
    go_wp2
    exact bodyPost_ret (v := .tuple #[.slice none 0 0, .int .i64 0, .int .i64 151]) (by simp [results, Try.results12, go_sem]) rfl ⟨_, rfl, ownW_nil _ _, HB1.out⟩
  | true =>
    have h65 := h64r rfl
    clear h64r
    by_cases h64 : (D.length : Int) = 64
    · obtain rfl : s = ([], 0, 151) := by rw [← HV.out]; rw [if_neg (by omega)]
      have HX := Lib.hid h64
      have hbq : ((D.length : Int) == 64) = true := by simpa using h64
      clear HV h64
      go_wp2
      exact bodyPost_ret (v := .tuple #[.slice none 0 0, .int .i64 0, .int .i64 151]) (by simp [results, Try.results12, go_sem]) rfl ⟨_, rfl, ownW_nil _ _, HB1.out⟩

    · have HV2 : Hid ((if (rl && (decide (0 ≤ k) && decide (k < (L.length : Int)))) = true then (if okA a = true then (D ++ [(k, a, 0)], (D.length : Int), 0) else ([], 0, 142)) else ([], 0, 141)) = s) := by show _ = _; rw [← HV.out]; rw [if_pos (show true = true ∧ ¬ 64 ≤ D.length from ⟨rfl, by omega⟩)]
      clear HV
      go_wp2_with fail
      refine (HRl.out _ HB1.out).mono ?_
      rintro e w2 ⟨rfl, hb2⟩
      have HB2 := Lib.hid (below_on HB1.out HB1.out.size hb2)
      clear hb2 HRl
      cases rl with
      | false =>
        obtain rfl : s = ([], 0, 141) := by rw [← HV2.out]; simp
        clear HV2
        go_wp2
        exact bodyPost_ret (v := .tuple #[.slice none 0 0, .int .i64 0, .int .i64 141]) (by simp [results, Try.results12, go_sem]) rfl ⟨_, rfl, ownW_nil _ _, HB2.out⟩
      | true =>
        have h3 : (k < 0 ∨ (¬ k < 0 ∧ (L.length : Int) ≤ k)) ∨ (¬ k < 0 ∧ ¬ (L.length : Int) ≤ k) := by omega
        rcases h3 with h3 | ⟨k0, k1⟩
        · obtain rfl : s = ([], 0, 141) := by
            rw [← HV2.out, if_neg]
            simp only [Bool.true_and, Bool.and_eq_true, decide_eq_true_eq]; omega
          clear HV2
          rcases h3 with k0 | ⟨k0, k1⟩
          all_goals
            go_wp2
            exact bodyPost_ret (v := .tuple #[.slice none 0 0, .int .i64 0, .int .i64 141]) (by simp [results, Try.results12, go_sem]) rfl ⟨_, rfl, ownW_nil _ _, HB2.out⟩
        · have HV3 : Hid ((if okA a = true then (D ++ [(k, a, 0)], (D.length : Int), 0) else ([], 0, 142)) = s) := by
            show _ = _
            rw [← HV2.out]
            exact (if_pos (by simp only [Bool.true_and, Bool.and_eq_true, decide_eq_true_eq]; omega)).symm
          clear HV2
          have h4 : (a < 1 ∨ (¬ a < 1 ∧ 1000000000000 < a)) ∨ (¬ a < 1 ∧ ¬ 1000000000000 < a) := by omega
          rcases h4 with h4 | ⟨a0, a1⟩
          · obtain rfl : s = ([], 0, 142) := by
              rw [← HV3.out, if_neg]
              rw [okA_iff]; omega
            clear HV3
            rcases h4 with a0 | ⟨a0, a1⟩
            all_goals
              go_wp2
              exact bodyPost_ret (v := .tuple #[.slice none 0 0, .int .i64 0, .int .i64 142]) (by simp [results, Try.results12, go_sem]) rfl ⟨_, rfl, ownW_nil _ _, HB2.out⟩
          · obtain rfl : s = (D ++ [(k, a, 0)], (D.length : Int), 0) := by
              rw [← HV3.out, if_pos]
              rw [okA_iff]; omega
            have HSL := Lib.hid ((HD.out.keeps HB2.out).alloc (.cells #[] 33))
            have HO0 := Lib.hid (ownW_empty w2)
            have HB3 := Lib.hid (HB2.out.alloc HB2.out.size (.cells #[] 33))
            have HBs := Lib.hid HB2.out.size
            clear HV3 HB2 HB1
            go_wp2_with (first | (refine ap_dw rfl _ _ rfl w2.heap.size _ rfl [] ?_ _ cap D rfl ?_ ?_ ?_ ?_) | fail)
            · exact HO0.out
            · exact HSL.out
            · simp; omega
            · simp
            intro v4 w4 h1 h2 h3
            try rw [List.nil_append] at h1
            have HB4 := Lib.hid (below_grown HO0.out h2 HBs.out (Nat.le_refl _) HB3.out)
            have HO4 := Lib.hid (own_dn h1 HBs.out)
            clear h1 h2 h3 HO0 HSL HB3
            have HB5 := Lib.hid (HB4.out.alloc HB4.out.size (.cells #[.int .i64 k, .int .i64 a, .int .i64 0] 33))
            have HO5 : Hid (OwW (w4.alloc (.cells #[.int .i64 k, .int .i64 a, .int .i64 0] 33)) w.heap.size v4 D) := own_kp HO4.out (below_new1 w4 _)
            have HSL := Lib.hid (sl_dw1 w4 k a 0)
            go_wp2_with (first | (refine ap_dw rfl _ _ rfl w.heap.size _ rfl D ?_ _ 1 [(k, a, 0)] rfl ?_ ?_ ?_ ?_) | fail)
            · exact HO5.out
            · exact HSL.out
            · simp; omega
            · exact (by simpa using HB5.out.size)
            intro v6 w6 h1 h2 h3
            have HO6 := Lib.hid h1
            have HB6 := Lib.hid (below_grown HO5.out h2 (Nat.le_refl _) (Nat.le_refl _) HB5.out)
            clear h1 h2 h3
            go_wp2
            exact bodyPost_ret (v := .tuple #[v6, .int .i64 (D.length : Int), .int .i64 0]) (by simp [results, Try.results12, go_sem]) rfl ⟨_, rfl, HO6.out, HB6.out⟩
theorem find_there {D : List Dw} {no : Int} {A : List Int} (h : thereW D no = true) : rightW D = true ∧ ∃ (n : Nat) (l a st : Int), no = n ∧ n < D.length ∧ D[n]? = some (l, a, st) ∧ atW D no = (l, a, st) ∧ findS D no A = if A.contains st = true then ((l, a, st), 0) else ((0, 0, 0), 152) := by
  unfold findS
  rw [if_pos h]
  simp only [thereW, inN, Bool.and_eq_true, decide_eq_true_eq] at h
  obtain ⟨hr, h3, h4⟩ := h
  obtain ⟨n, rfl⟩ := Int.eq_ofNat_of_zero_le h3
  have hn : n < D.length := by omega
  obtain ⟨⟨l, a, st⟩, ht⟩ : ∃ t, D[n]? = some t := ⟨_, List.getElem?_eq_getElem hn⟩
  have := atW_nat ht
  exact ⟨hr, n, l, a, st, rfl, hn, ht, this, by rw [this]⟩
theorem find_un {D : List Dw} {no : Int} {A : List Int} (h : thereW D no = false) : findS D no A = ((0, 0, 0), 151) := by
  unfold findS; rw [h]; rfl
set_option maxRecDepth 8000 in
set_option maxHeartbeats 3200000 in
theorem drrefuse_any (w : World) (ao : Option Addr) (cap : Nat) (D : List Dw) (h : SlW w ao cap D) (hl : D.length ≤ 100000) (no : Int) (s : List Dw × Int) (hs : refS D no = s) :
    Calls Try.prog 14 #[.slice ao D.length cap, .int .i64 no] w fun e w' => ∃ v', e = .returned (.tuple #[v', .int .i64 s.2]) ∧ OwW w' w.heap.size v' s.1 ∧ Below w.heap.size w w' := by
  obtain ⟨th, hth⟩ : ∃ r, thereW D no = r := ⟨_, rfl⟩
  have HTh := Lib.hid (drthere_any w ao cap D h (by omega) no th hth)
  have HD := Lib.hid h
  unfold refS at hs
  cases th with
  | false =>
    rw [find_un hth] at hs
    have hs2 : (([], 151) : List Dw × Int) = s := hs
    subst hs2
    clear hs h hth HD
    go_enter Try.func14, Try.ntmps14
    go_wp2_with fail
    refine HTh.out.mono ?_
    rintro e w1 ⟨rfl, hb1⟩
    clear HTh
    go_wp2
    exact bodyPost_ret (v := .tuple #[.slice none 0 0, .int .i64 151]) (by simp [results, Try.results14, go_sem]) rfl ⟨_, rfl, ownW_nil _ _, hb1⟩
  | true =>
    obtain ⟨hr, n, l, a, st, rfl, hn, ht, hat, hf⟩ := find_there (A := [0, 1]) hth
    have hnums := okDw_nums (List.all_eq_true.1 (rightW_true hr).2 _ (List.mem_of_getElem? ht))
    replace hnums : (0 ≤ l ∧ l ≤ 15) ∧ (1 ≤ a ∧ a ≤ 1000000000000) ∧ (0 ≤ st ∧ st ≤ 3) := hnums
    have HC := Lib.hid (fun U (hu : Below w.heap.size w U) => drchange_any U ao cap D (h.keeps hu) hl n l a st ht 3)
    have HT := Lib.hid ht
    have hnI : (n : Int) < D.length := by omega
    rw [hf, hat, Int.toNat_natCast] at hs
    clear h hth hat hf ht hr
    by_cases h1 : 1 < st
    · have hc : [0, 1].contains st = false := by
        rw [Bool.eq_false_iff]; intro e
        have := List.mem_of_elem_eq_true e
        simp at this; omega
      rw [hc] at hs
      have hs2 : (([], 152) : List Dw × Int) = s := hs
      subst hs2
      clear hs hc
      go_enter Try.func14, Try.ntmps14
      go_wp2_with fail
      refine HTh.out.mono ?_
      rintro e w1 ⟨rfl, hb1⟩
      have HB1 := Lib.hid hb1
      have hw := HD.out.keeps hb1
      clear HTh hb1
      go_wp2_with (first | (refine ix_dw rfl _ _ rfl ao cap D hw rfl n _ HT.out rfl ?_; intro b off c0 c1 c2) | fail)
      exact bodyPost_ret (v := .tuple #[.slice none 0 0, .int .i64 152]) (by simp [results, Try.results14, go_sem]) rfl ⟨_, rfl, ownW_nil _ _, HB1.out⟩
    · have hc : [0, 1].contains st = true := by
        have : st = 0 ∨ st = 1 := by omega
        rcases this with rfl | rfl <;> decide
      rw [hc] at hs
      have hs2 : ((D.set n (l, a, 3), 0) : List Dw × Int) = s := hs
      subst hs2
      clear hs hc
      go_enter Try.func14, Try.ntmps14
      go_wp2_with fail
      refine HTh.out.mono ?_
      rintro e w1 ⟨rfl, hb1⟩
      have HB1 := Lib.hid hb1
      have hw := HD.out.keeps hb1
      clear HTh hb1
      go_wp2_with (first | (refine ix_dw rfl _ _ rfl ao cap D hw rfl n _ HT.out rfl ?_; intro b off c0 c1 c2) | fail)
      refine (HC.out _ HB1.out).mono ?_
      rintro e w3 ⟨v3, rfl, ho3, hb3⟩
      have HB3 := Lib.hid (below_on HB1.out HB1.out.size hb3)
      have HO3 := Lib.hid (own_dn ho3 HB1.out.size)
      clear ho3 hb3 HC c0 c1 c2 hw
      go_wp2
      exact bodyPost_ret (v := .tuple #[v3, .int .i64 0]) (by simp [results, Try.results14, go_sem]) rfl ⟨_, rfl, HO3.out, HB3.out⟩
end Go.Proofs.Ytikfclioplploaa
