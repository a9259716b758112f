/-
  The walks of ledger.New, Len, Balance, Trial, Sides, Entry.
-/
import Derived.Test.YteghjdmalbcdfaaLgF
set_option linter.unusedVariables false
set_option linter.unusedSimpArgs false
namespace Go.Proofs.Yteghjdmalbcdfaa
open Go.RowKit Dg

set_option maxRecDepth 8000 in
theorem new_any (w : World) :
    Calls Try.prog 11 #[] w fun e w' => e = .returned (.pointer (some ⟨w.heap.size, 0, none⟩)) ∧ w' = w.alloc (.cells (.slice none 0 0 :: ic z8).toArray 64) := by
  go_enter Try.func11, Try.ntmps11
  go_wp2
  go_ret
  exact ⟨rfl, rfl⟩
/-- The one that was just made. -/
theorem Led.new (w : World) (B : Nat) (hB : B ≤ w.heap.size) : Led (w.alloc (.cells (.slice none 0 0 :: ic z8).toArray 64)) B w.heap.size (.slice none 0 0) [] z8 [] :=
  ⟨Blk.new _ _ _, rfl, World.ownsRow_nil _ _ _ 1, hB, by simp [Value.ownBlock], fun i L h => by simp at h⟩
set_option maxRecDepth 8000 in
theorem len_any (w : World) (B b : Nat) (v : Value) (C : List Value) (T : List Int) (E : List (List Lg)) (hled : Led w B b v C T E) :
    Calls Try.prog 18 #[.pointer (some ⟨b, 0, none⟩)] w fun e w' => e = .returned (.int .i64 E.length) ∧ w' = w := by
  obtain ⟨eo, ecap, rfl⟩ := own_shape hled.row
  have e0 := hled.blk.cell 0 _ rfl
  clear hled
  go_enter Try.func18, Try.ntmps18
  go_wp2
  go_ret
  exact ⟨rfl, rfl⟩
/-- An account's balance. -/
def balS (T : List Int) (k : Int) : Int := if 0 ≤ k ∧ k < 8 then T.getD k.toNat 0 else 0
theorem led_cell {w : World} {B b : Nat} {v : Value} {C : List Value} {T : List Int} {E : List (List Lg)} (h : Led w B b v C T E) {k : Nat} (hk : k < 8) : w.cell? ⟨b, 1 + k, none⟩ = some (.int .i64 (T.getD k 0)) := by
  have hT : T[k]? = some (T.getD k 0) := by rw [List.getD_eq_getElem?_getD, List.getElem?_eq_getElem (by rw [h.len]; exact hk)]; rfl
  refine h.blk.cell (1 + k) _ ?_
  rw [Nat.add_comm, List.getElem?_cons_succ]; exact ic_at hT
set_option maxRecDepth 8000 in
theorem balance_any (w : World) (B b : Nat) (v : Value) (C : List Value) (T : List Int) (E : List (List Lg)) (hled : Led w B b v C T E) (k : Int) :
    Calls Try.prog 25 #[.pointer (some ⟨b, 0, none⟩), .int .i64 k] w fun e w' => e = .returned (.int .i64 (balS T k)) ∧ w' = w := by
  obtain ⟨z, hz⟩ : ∃ z, balS T k = z := ⟨_, rfl⟩
  rw [hz]
  have HZ := Lib.hid hz
  by_cases h0 : 0 ≤ k
  · by_cases h8 : k < 8
    · obtain ⟨n, rfl⟩ := Int.eq_ofNat_of_zero_le h0
      have hn : n < 8 := by omega
      have c0 := led_cell hled hn
      rw [show T.getD n 0 = z from by rw [← hz]; unfold balS; rw [if_pos ⟨h0, h8⟩]; simp] at c0
      clear hled hz
      go_enter Try.func25, Try.ntmps25
      go_wp2
      go_ret
      exact ⟨rfl, rfl⟩
    · have hz0 : z = 0 := by rw [← hz]; unfold balS; rw [if_neg (by omega)]
      have h8' : 8 ≤ k := by omega
      subst hz0
      clear hz hled HZ
      go_enter Try.func25, Try.ntmps25
      go_wp2
      go_ret
      exact ⟨rfl, rfl⟩
  · have hz0 : z = 0 := by rw [← hz]; unfold balS; rw [if_neg (by omega)]
    have h8' : k < 0 := by omega
    subst hz0
    clear hz hled HZ
    go_enter Try.func25, Try.ntmps25
    go_wp2
    go_ret
    exact ⟨rfl, rfl⟩
set_option maxRecDepth 8000 in
theorem iclone_any (w : World) (ad : Addr) (cap : Nat) (L : List Int) (h : Sl w (some ad) L.length cap (ic L)) (hl : L.length ≤ 1000000000) :
    Calls Try.prog 32 #[.slice (some ad) L.length cap] w fun e w' => ∃ v', e = .returned v' ∧ OwI w' w.heap.size v' L ∧ Below w.heap.size w w' := by
  have HV := Lib.hid (h.keeps (below_new1 w (.cells #[] 2)))
  have HO := Lib.hid (own_i0 w)
  have HB := Lib.hid (below_new1 w (.cells #[] 2))
  clear h
  have hq := fun w => _root_.Go.Lib.run_eql_slice_nil (P := Try.prog) w 42 2 (some ad) L.length cap 0 0 Try.underlying42
  go_enter Try.func32, Try.ntmps32
  go_wp2_with (refine ap_i rfl _ _ rfl w.heap.size _ rfl [] HO.out _ cap L rfl HV.out (by simp; omega) (by simp) ?_; intro v' w' h1 h2 h3)
  go_ret
  exact ⟨_, rfl, h1, below_grown HO.out h2 (Nat.le_refl _) (Nat.le_refl _) HB.out⟩
set_option maxRecDepth 8000 in
theorem trial_any (w : World) (B b : Nat) (v : Value) (C : List Value) (T : List Int) (E : List (List Lg)) (hled : Led w B b v C T E) :
    Calls Try.prog 15 #[.pointer (some ⟨b, 0, none⟩)] w fun e w' => ∃ v', e = .returned v' ∧ OwI w' w.heap.size v' T ∧ Below w.heap.size w w' := by
  have hsl : Sl w (some ⟨b, 1, none⟩) T.length 8 (ic T) := ⟨by rw [ic_len], by rw [hled.len]; exact Nat.le_refl _, by simp, fun _ => ⟨_, _, rfl, fun j u hu => by
    refine hled.blk.cell (1 + j) _ ?_
    rw [Nat.add_comm, List.getElem?_cons_succ]; exact hu⟩⟩
  have HC := Lib.hid (iclone_any w _ 8 T hsl (by rw [hled.len]; decide))
  rw [hled.len] at HC
  clear hled hsl
  go_enter Try.func15, Try.ntmps15
  go_wp2_with fail
  refine HC.out.mono ?_
  rintro e w1 ⟨v1, rfl, ho, hb⟩
  go_wp2
  go_ret
  exact ⟨_, rfl, ho, hb⟩
theorem size_legs (w : World) : (sizeOf 23).run Try.prog w = .ok 1 w := by
  obtain ⟨i, hi, _, hs, _⟩ := info_parts info_legs
  simp [sizeOf, typeInfo, hi, hs]
set_option maxRecDepth 8000 in
theorem entry_any (w : World) (B b : Nat) (v : Value) (C : List Value) (T : List Int) (E : List (List Lg)) (hled : Led w B b v C T E) (hl : ∀ L ∈ E, L.length ≤ 1000) (hE : E.length ≤ 100000) (k : Int) :
    Calls Try.prog 17 #[.pointer (some ⟨b, 0, none⟩), .int .i64 k] w fun e w' => ∃ u, e = .returned (.tuple #[u, .int .i64 (if 0 ≤ k ∧ k < E.length then 0 else 132)]) ∧ OwG w' w.heap.size u (if 0 ≤ k ∧ k < E.length then E.getD k.toNat [] else []) ∧ Below w.heap.size w w' := by
  obtain ⟨eo, ecap, rfl⟩ := own_shape hled.row
  have e0 := hled.blk.cell 0 _ rfl
  by_cases h0 : 0 ≤ k
  · by_cases h8 : k < E.length
    · rw [if_pos ⟨h0, h8⟩, if_pos ⟨h0, h8⟩]
      obtain ⟨n, rfl⟩ := Int.eq_ofNat_of_zero_le h0
      have hn : n < E.length := by omega
      obtain ⟨L, hL⟩ : ∃ L, E[n]? = some L := ⟨_, List.getElem?_eq_getElem hn⟩
      rw [show E.getD ((n : Int)).toNat [] = L from by rw [List.getD_eq_getElem?_getD]; simp [hL]]
      obtain ⟨ao, cap, h1, h2, h3⟩ := hled.ent n L hL
      have HC := Lib.hid (lclone_any w ao cap L h2 (by have := hl L (List.mem_of_getElem? hL); omega))
      have hC := hled.row.1
      rw [Nat.mul_one] at hC
      obtain ⟨eo2, ecap2, ee, hsl, _⟩ := Sl.own (show w.ownsRow B _ 1 (.slice eo E.length ecap) C.length C by rw [hC]; exact hled.row)
      obtain ⟨rfl, hxx, rfl⟩ : eo = eo2 ∧ E.length = C.length ∧ ecap = ecap2 := by simpa using ee
      clear hxx
      rw [hC] at hsl
      have HSL := Lib.hid hsl
      have HH := Lib.hid h1
      have hni : (n : Int) < E.length := by omega
      clear hled hl hL h1 h2 h3 hC hsl ee
      go_enter Try.func17, Try.ntmps17
      go_wp2_with (first | (refine wpList_ix_sl rfl 52 23 _ _ rfl Try.underlying52 size_legs eo E.length ecap rfl C HSL.out n hn rfl ?_; intro g off u hu hcell; obtain rfl : u = .slice ao L.length cap := by (rw [HH.out] at hu; exact (Option.some.inj hu).symm)))
      refine HC.out.mono ?_
      rintro e w1 ⟨v1, rfl, ho, hb⟩
      go_wp2
      exact bodyPost_ret (v := .tuple #[v1, .int .i64 0]) (by simp [results, Try.results17, go_sem]) rfl ⟨_, rfl, ho, hb⟩
    · rw [if_neg (by omega), if_neg (by omega)]
      have h8' : (E.length : Int) ≤ k := by omega
      clear hled
      go_enter Try.func17, Try.ntmps17
      go_wp2
      exact bodyPost_ret (v := .tuple #[.slice none 0 0, .int .i64 132]) (by simp [results, Try.results17, go_sem]) rfl ⟨_, rfl, ownG_nil _ _, Below.refl _ _⟩
  · rw [if_neg (by omega), if_neg (by omega)]
    have h8' : k < 0 := by omega
    clear hled
    go_enter Try.func17, Try.ntmps17
    go_wp2
    exact bodyPost_ret (v := .tuple #[.slice none 0 0, .int .i64 132]) (by simp [results, Try.results17, go_sem]) rfl ⟨_, rfl, ownG_nil _ _, Below.refl _ _⟩
/-- The debits; the credits. -/
def posT (T : List Int) : List Int := T.filter (fun x => decide (0 < x))
def negT (T : List Int) : List Int := T.filter (fun x => !decide (0 < x))
theorem posT_yes {T : List Int} {k : Nat} {x : Int} (h : T[k]? = some x) (hx : 0 < x) : posT (T.take (k + 1)) = posT (T.take k) ++ [x] ∧ negT (T.take (k + 1)) = negT (T.take k) := by
  obtain ⟨hk, rfl⟩ := List.getElem?_eq_some_iff.1 h
  unfold posT negT
  rw [List.take_succ_eq_append_getElem hk, List.filter_append, List.filter_append]; simp [hx]
theorem posT_no {T : List Int} {k : Nat} {x : Int} (h : T[k]? = some x) (hx : ¬ 0 < x) : posT (T.take (k + 1)) = posT (T.take k) ∧ negT (T.take (k + 1)) = negT (T.take k) ++ [x] := by
  obtain ⟨hk, rfl⟩ := List.getElem?_eq_some_iff.1 h
  unfold posT negT
  rw [List.take_succ_eq_append_getElem hk, List.filter_append, List.filter_append]; simp [hx]
def sidesS (T : List Int) : Int × Int × Int :=
  if (cutI (sumI (posT T))).2 = 0 then (if (cutI (sumI (negT T))).2 = 0 then ((cutI (sumI (posT T))).1, wrap64 (-(cutI (sumI (negT T))).1), 0) else (0, 0, (cutI (sumI (negT T))).2)) else (0, 0, (cutI (sumI (posT T))).2)
theorem idx_i8 (T : List Int) (h8 : T.length = 8) (k : Nat) (x : Int) (hx : T[k]? = some x) (w : World) : (Instr.index 22 (.agg (ia T)) (.int .i64 k)).run Try.prog w = .ok (.int .i64 x) w := by
  match T, h8 with
  | [a0, a1, a2, a3, a4, a5, a6, a7], _ =>
    rcases k with _ | _ | _ | _ | _ | _ | _ | _ | k
    all_goals
      simp at hx
      try
        subst hx
        show (Instr.index 22 (.agg #[.int .i64 a0, .int .i64 a1, .int .i64 a2, .int .i64 a3, .int .i64 a4, .int .i64 a5, .int .i64 a6, .int .i64 a7]) (.int .i64 _)).run Try.prog w = .ok (.int .i64 _) w
        kernel_rfl
theorem cutI_two (z : Int) : (cutI z = (z, 0) ∧ -9223372036854775808 ≤ z ∧ z ≤ 9223372036854775807) ∨ cutI z = (0, 11) := by
  unfold cutI
  split
  · rename_i h; exact .inl ⟨rfl, h⟩
  · exact .inr rfl
theorem ret_three {a b c d e f : Int} (h1 : a = d) (h2 : b = e) (h3 : c = f) : Ending.returned (.tuple #[.int .i64 a, .int .i64 b, .int .i64 c]) = .returned (.tuple #[.int .i64 d, .int .i64 e, .int .i64 f]) := by rw [h1, h2, h3]
set_option maxRecDepth 8000 in
set_option maxHeartbeats 1600000 in
theorem sides_any (w : World) (B b : Nat) (v : Value) (C : List Value) (T : List Int) (E : List (List Lg)) (hled : Led w B b v C T E) (hTr : ∀ x ∈ T, -9223372036854775808 ≤ x ∧ x ≤ 9223372036854775807) (s : Int × Int × Int) (hs : sidesS T = s) :
    Calls Try.prog 16 #[.pointer (some ⟨b, 0, none⟩)] w fun e w' => e = .returned (.tuple #[.int .i64 s.1, .int .i64 s.2.1, .int .i64 s.2.2]) ∧ Below w.heap.size w w' := by
  have hat := Lib.hid (show w.rangeAt b 1 (ic T) from by
    have := hled.blk.rangeMid 1 8
    rwa [show ((v :: ic T).drop 1).take 8 = ic T from by simp [List.take_of_length_le, ic_len, hled.len]] at this)
  have H8 := Lib.hid hled.len
  have HS := Lib.hid hs
  have HR := Lib.hid hTr
  clear hled hs hTr
  go_enter Try.func16, Try.ntmps16
  go_wp2_with (refine ld_i8 rfl _ rfl b 1 rfl T H8.out hat.out ?_)
  go_loopw [5, 6, 16] (fun p n i wr => ∃ k : Nat, k ≤ 8 ∧ i = .int .i64 k ∧ Hid (OwI wr w.heap.size p (posT (T.take k))) ∧ Hid (OwI wr w.heap.size n (negT (T.take k))) ∧ Hid (∀ g, p.ownBlock = some g → n.ownBlock ≠ some g) ∧ Below w.heap.size w wr) (fun _ _ i _ => 8 - (intOf i).toNat)
  case atStart => exact ⟨0, by omega, rfl, owi_nil _ _, owi_nil _ _, fun g h => by simp [Value.ownBlock] at h, Below.refl _ _⟩
  case round =>
    obtain ⟨k, hk, rfl, HP, HN, HD, hb⟩ := hrel
    by_cases hk8 : k < 8
    · obtain ⟨x, hx⟩ : ∃ x, T[k]? = some x := ⟨_, List.getElem?_eq_getElem (by rw [H8.out]; exact hk8)⟩
      have hix := idx_i8 T H8.out k x hx wr
      have hkI : (k : Int) < 8 := by omega
      by_cases hx0 : 0 < x
      · obtain ⟨q1, q2⟩ := posT_yes hx hx0
        have Q1 := Lib.hid q1; have Q2 := Lib.hid q2
        have HB1 := Lib.hid (hb.alloc hb.size (.cells #[.int .i64 x] 2))
        have HP1 := Lib.hid (own_keeps HP.out (below_new1 wr (.cells #[.int .i64 x] 2)))
        have HN1 := Lib.hid (own_keeps HN.out (below_new1 wr (.cells #[.int .i64 x] 2)))
        have HSL := Lib.hid (sl_i1 wr x)
        obtain ⟨M, hM⟩ : ∃ M, posT (T.take k) = M := ⟨_, rfl⟩
        have HML := Lib.hid (show M.length ≤ 8 by rw [← hM]; exact Nat.le_trans (List.length_filter_le _ _) (by rw [List.length_take]; omega))
        rw [hM] at HP1 Q1
        have HNL := Lib.hid (own_base HN.out)
        clear hx q1 q2 hM HP HN
        go_wp2_with (refine ap_i rfl _ _ rfl w.heap.size _ rfl M ?_ _ 1 [x] rfl ?_ ?_ ?_ ?_)
        · exact HP1.out
        · exact HSL.out
        · have := HML.out; simp; omega
        · exact (by simpa using HB1.out.size)
        · intro v' w' h1 h2 h3
          have HPn := Lib.hid h1
          have HNn := Lib.hid (HN1.out.kept h2 (by
            cases hn : u6.ownBlock with
            | none => exact .inl rfl
            | some g => exact .inr fun e => HD.out g e.symm hn))
          have HDn : Hid (∀ g, v'.ownBlock = some g → u6.ownBlock ≠ some g) := by
            intro g hg hn
            rcases h3 g hg with h | h
            · exact HD.out g h hn
            · have := HNL.out g hn; omega
          have HBn := Lib.hid (below_grown HP1.out h2 (Nat.le_refl _) (Nat.le_refl _) HB1.out)
          clear h1 h2 h3
          go_wp2
          go_roundw
          · exact ⟨k + 1, by omega, by go_num, by rw [Q1.out]; exact HPn.out, by rw [Q2.out]; exact HNn.out, HDn, HBn.out⟩
          · simp [intOf]; omega
      · obtain ⟨q1, q2⟩ := posT_no hx hx0
        have Q1 := Lib.hid q1; have Q2 := Lib.hid q2
        have HB1 := Lib.hid (hb.alloc hb.size (.cells #[.int .i64 x] 2))
        have HP1 := Lib.hid (own_keeps HP.out (below_new1 wr (.cells #[.int .i64 x] 2)))
        have HN1 := Lib.hid (own_keeps HN.out (below_new1 wr (.cells #[.int .i64 x] 2)))
        have HSL := Lib.hid (sl_i1 wr x)
        obtain ⟨M, hM⟩ : ∃ M, negT (T.take k) = M := ⟨_, rfl⟩
        have HML := Lib.hid (show M.length ≤ 8 by rw [← hM]; exact Nat.le_trans (List.length_filter_le _ _) (by rw [List.length_take]; omega))
        rw [hM] at HN1 Q2
        have HPL := Lib.hid (own_base HP.out)
        clear hx q1 q2 hM HP HN
        go_wp2_with (refine ap_i rfl _ _ rfl w.heap.size _ rfl M ?_ _ 1 [x] rfl ?_ ?_ ?_ ?_)
        · exact HN1.out
        · exact HSL.out
        · have := HML.out; simp; omega
        · exact (by simpa using HB1.out.size)
        · intro v' w' h1 h2 h3
          have HNn := Lib.hid h1
          have HPn := Lib.hid (HP1.out.kept h2 (by
            cases hp : u5.ownBlock with
            | none => exact .inl rfl
            | some g => exact .inr fun e => HD.out g hp e.symm))
          have HDn : Hid (∀ g, u5.ownBlock = some g → v'.ownBlock ≠ some g) := by
            intro g hp hg
            rcases h3 g hg with h | h
            · exact HD.out g hp h
            · have := HPL.out g hp; omega
          have HBn := Lib.hid (below_grown HN1.out h2 (Nat.le_refl _) (Nat.le_refl _) HB1.out)
          clear h1 h2 h3
          go_wp2
          go_roundw
          · exact ⟨k + 1, by omega, by go_num, by rw [Q1.out]; exact HPn.out, by rw [Q2.out]; exact HNn.out, HDn, HBn.out⟩
          · simp [intOf]; omega
    · obtain rfl : k = 8 := by omega
      have hP := HP.out; have hN := HN.out
      rw [List.take_of_length_le (by rw [H8.out]; exact Nat.le_refl _)] at hP hN
      have hpl : (posT T).length ≤ 8 := Nat.le_trans (List.length_filter_le _ _) (by rw [H8.out]; exact Nat.le_refl _)
      have hnl : (negT T).length ≤ 8 := Nat.le_trans (List.length_filter_le _ _) (by rw [H8.out]; exact Nat.le_refl _)
      have hpr : ∀ x ∈ posT T, -9223372036854775808 ≤ x ∧ x ≤ 9223372036854775807 := fun x hx => HR.out x (List.mem_filter.1 hx).1
      have hnr : ∀ x ∈ negT T, -9223372036854775808 ≤ x ∧ x ≤ 9223372036854775807 := fun x hx => HR.out x (List.mem_filter.1 hx).1
      have hS := HS.out
      unfold sidesS at hS
      have hc1 := cutI_two (sumI (posT T)); have hc2 := cutI_two (sumI (negT T))
      obtain ⟨zp, hzp⟩ : ∃ z, sumI (posT T) = z := ⟨_, rfl⟩
      obtain ⟨zn, hzn⟩ : ∃ z, sumI (negT T) = z := ⟨_, rfl⟩
      rw [hzp, hzn] at hS; rw [hzp] at hc1; rw [hzn] at hc2
      obtain ⟨P, hPe⟩ : ∃ P, posT T = P := ⟨_, rfl⟩
      obtain ⟨N, hNe⟩ : ∃ N, negT T = N := ⟨_, rfl⟩
      rw [hPe] at hP hpl hpr hzp; rw [hNe] at hN hnl hnr hzn
      obtain ⟨a1, k1, rfl, s1⟩ := OwI.sl hP
      obtain ⟨a2, k2, rfl, s2⟩ := OwI.sl hN
      have K1 := Lib.hid (sum_any wr a1 k1 P s1 (by omega) hpr)
      have K2 := Lib.hid (sum_any wr a2 k2 N s2 (by omega) hnr)
      rw [hzp] at K1; rw [hzn] at K2
      obtain ⟨c1, hc1e⟩ : ∃ c, (cutI zp).1 = c := ⟨_, rfl⟩
      obtain ⟨d1, hd1e⟩ : ∃ c, (cutI zp).2 = c := ⟨_, rfl⟩
      obtain ⟨c2, hc2e⟩ : ∃ c, (cutI zn).1 = c := ⟨_, rfl⟩
      obtain ⟨d2, hd2e⟩ : ∃ c, (cutI zn).2 = c := ⟨_, rfl⟩
      rw [hc1e, hd1e, hc2e, hd2e] at hS
      rw [hc1e, hd1e] at K1; rw [hc2e, hd2e] at K2
      have HS' := Lib.hid hS
      clear hP hN hpl hnl hpr hnr hS hc1 hc2 hzp hzn hPe hNe s1 s2 hc1e hd1e hc2e hd2e HP HN HS
      go_wp2_with fail
      refine K1.out.mono ?_
      rintro e w2 ⟨rfl, rfl⟩
      by_cases hd1 : d1 = 0
      · subst hd1
        go_wp2_with fail
        refine K2.out.mono ?_
        rintro e w3 ⟨rfl, rfl⟩
        by_cases hd2 : d2 = 0
        · subst hd2
          go_wp2
          exact bodyPost_ret (v := .tuple #[.int .i64 c1, .int .i64 (wrap64 (-c2)), .int .i64 0]) (by simp [results, Try.results16, go_sem]) rfl ⟨by rw [← HS'.out]; rfl, hb⟩
        · go_wp2
          exact bodyPost_ret (v := .tuple #[.int .i64 0, .int .i64 0, .int .i64 d2]) (by simp [results, Try.results16, go_sem]) rfl ⟨by rw [← HS'.out]; simp [hd2], hb⟩
      · go_wp2
        exact bodyPost_ret (v := .tuple #[.int .i64 0, .int .i64 0, .int .i64 d1]) (by simp [results, Try.results16, go_sem]) rfl ⟨by rw [← HS'.out]; simp [hd1], hb⟩
end Go.Proofs.Yteghjdmalbcdfaa
