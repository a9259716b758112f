/-
  The walk of Ledger.Reverse.
-/
import Derived.Test.YteghjdmalbcdfaaLgG
set_option linter.unusedVariables false
set_option linter.unusedSimpArgs false
namespace Go.Proofs.Yteghjdmalbcdfaa
open Go.RowKit Dg

/-- Legs that take others back. -/
def negG (L : List Lg) : List Lg := L.map (fun t => (t.1, -t.2))
def okNeg (L : List Lg) : Bool := L.all (fun t => decide (t.2 ≠ -9223372036854775808))
def mixG (L : List Lg) (k : Nat) : List Lg := negG (L.take k) ++ L.drop k
theorem negG_len (L : List Lg) : (negG L).length = L.length := List.length_map _
theorem mixG_zero (L : List Lg) : mixG L 0 = L := by simp [mixG, negG]
theorem mixG_all (L : List Lg) : mixG L L.length = negG L := by simp [mixG]
theorem mixG_at {L : List Lg} {k : Nat} (hk : k < L.length) : (mixG L k)[k]? = L[k]? := by
  unfold mixG
  rw [List.getElem?_append_right (by rw [negG_len, List.length_take]; omega), negG_len, List.length_take, List.getElem?_drop]
  congr 1; omega
theorem mixG_set {L : List Lg} {k : Nat} {t : Lg} (h : L[k]? = some t) : (mixG L k).set k (t.1, -t.2) = mixG L (k + 1) := by
  obtain ⟨hk, rfl⟩ := List.getElem?_eq_some_iff.1 h
  unfold mixG
  have hl : (negG (L.take k)).length = k := by rw [negG_len, List.length_take]; omega
  rw [List.set_append_right _ _ (by omega), hl, Nat.sub_self, List.drop_eq_getElem_cons hk, List.set_cons_zero, List.take_succ_eq_append_getElem hk]
  unfold negG
  rw [List.map_append, List.append_assoc]; rfl
theorem rc_set1 : ∀ (M : List Lg) (k : Nat) (a x y : Int), M[k]? = some (a, x) → (rc lgc M).set (k * 2 + 1) (.int .i64 y) = rc lgc (M.set k (a, y))
  | [], k, a, x, y, h => by simp at h
  | t :: M, 0, a, x, y, h => by
    have e : t = (a, x) := by simpa using h
    subst e
    rfl
  | t :: M, k + 1, a, x, y, h => by
    have := rc_set1 M k a x y (by simpa using h)
    show (Value.int .i64 t.1 :: Value.int .i64 t.2 :: rc lgc M).set ((k + 1) * 2 + 1) _ = Value.int .i64 t.1 :: Value.int .i64 t.2 :: rc lgc (M.set k (a, y))
    rw [show (k + 1) * 2 + 1 = k * 2 + 1 + 1 + 1 by omega, List.set_cons_succ, List.set_cons_succ, this]
theorem okNeg_take {L : List Lg} {k : Nat} {t : Lg} (h : L[k]? = some t) (h1 : okNeg (L.take k) = true) (h2 : t.2 ≠ -9223372036854775808) : okNeg (L.take (k + 1)) = true := by
  obtain ⟨hk, rfl⟩ := List.getElem?_eq_some_iff.1 h
  unfold okNeg at *
  rw [List.take_succ_eq_append_getElem hk, List.all_append, h1]; simp [h2]
theorem okNeg_not {L : List Lg} {t : Lg} (h : t ∈ L) (h2 : t.2 = -9223372036854775808) : okNeg L = false := by
  unfold okNeg
  rw [List.all_eq_false]
  exact ⟨t, h, by simp [h2]⟩
/-- What Reverse answers. -/
def revS (T : List Int) (E : List (List Lg)) (k : Int) : List Int × List (List Lg) × Int × Int :=
  if 0 ≤ k ∧ k < E.length then (if okNeg (E.getD k.toNat []) = true then postS T E (negG (E.getD k.toNat [])) else (T, E, 0, 11)) else (T, E, 0, 132)
set_option maxRecDepth 8000 in
set_option maxHeartbeats 3200000 in
theorem reverse_full (w : World) (B b : Nat) (v : Value) (C : List Value) (T : List Int) (E : List (List Lg)) (hled : Led w B b v C T E) (hB : B ≤ w.heap.size) (hE : E.length ≤ 100000) (hTr : ∀ x ∈ T, -9223372036854775808 ≤ x ∧ x ≤ 9223372036854775807)
    (hEl : ∀ L ∈ E, 1 ≤ L.length ∧ L.length ≤ 1000) (hEr : ∀ L ∈ E, ∀ t ∈ L, -9223372036854775808 ≤ t.2 ∧ t.2 ≤ 9223372036854775807) (k : Int) (s : List Int × List (List Lg) × Int × Int) (hs : revS T E k = s) :
    Calls Try.prog 13 #[.pointer (some ⟨b, 0, none⟩), .int .i64 k] w fun e w' => e = .returned (.tuple #[.int .i64 s.2.2.1, .int .i64 s.2.2.2]) ∧ (∃ v' C', Led w' B b v' C' s.1 s.2.1 ∧ (∀ g, v'.ownBlock = some g → v.ownBlock = some g ∨ w.heap.size ≤ g) ∧ (s.2.1 = [] → v' = v)) ∧ Fr b v.ownBlock w w' := by
  have HEn := Lib.hid (entry_any w B b v C T E hled (fun L h => (hEl L h).2) hE k)
  have HLD := Lib.hid hled
  have HS := Lib.hid hs
  have hvb := own_base hled.row
  have hbw := hled.blk.lt
  by_cases hk : 0 ≤ k ∧ k < E.length
  · rw [if_pos hk, if_pos hk] at HEn
    obtain ⟨k0, k1⟩ := hk
    obtain ⟨L, hL⟩ : ∃ L, E.getD k.toNat [] = L := ⟨_, rfl⟩
    have hm : L ∈ E := by
      have : k.toNat < E.length := by omega
      rw [← hL, List.getD_eq_getElem?_getD, List.getElem?_eq_getElem this]
      exact List.getElem_mem this
    have hs2 : (if okNeg L = true then postS T E (negG L) else (T, E, 0, 11)) = s := by rw [← hs, revS, if_pos (show 0 ≤ k ∧ k < E.length from ⟨k0, k1⟩), hL]
    rw [hL] at HEn
    obtain ⟨l1, l2⟩ := hEl L hm
    have lr := hEr L hm
    have HS2 := Lib.hid hs2
    have HLr := Lib.hid lr
    have HTr := Lib.hid hTr
    have HVB := Lib.hid hvb
    clear hs hs2 HS hL hm hEl hEr lr hTr hvb hled
    go_enter Try.func13, Try.ntmps13
    go_wp2_with fail
    refine HEn.out.mono ?_
    rintro e w1 ⟨u, rfl, ho, hb1⟩
    obtain ⟨g, cap, tl, rfl, hg, hcap, hblk⟩ : ∃ g cap tl, u = .slice (some ⟨g, 0, none⟩) L.length cap ∧ w.heap.size ≤ g ∧ L.length ≤ cap ∧ Blk w1 g 48 (rc lgc L ++ tl) := by
      rcases ho.2 with ⟨_, h0⟩ | ⟨g, cap, cur, rfl, h1, h2, h3, _, _, h4⟩
      · omega
      · refine ⟨g, cap, cur.toList.drop (L.length * 2), rfl, h1, h3, ⟨?_⟩⟩
        rw [← h4, List.take_append_drop]
        simpa using h2
    have HBlk := Lib.hid hblk
    clear ho hblk HEn
    go_wp2
    go_loopw [21] (fun i wr => ∃ j : Nat, j ≤ L.length ∧ i = .int .i64 j ∧ Hid (okNeg (L.take j) = true) ∧ Hid (Blk wr g 48 (rc lgc (mixG L j) ++ tl)) ∧ Below w.heap.size w wr) (fun i _ => L.length - (intOf i).toNat)
    case atStart => exact ⟨0, by omega, rfl, rfl, by show Blk _ _ _ _; rw [mixG_zero]; exact HBlk.out, hb1⟩
    case round =>
      obtain ⟨j, hj, rfl, HK, HG, hb⟩ := hrel
      by_cases hjl : j < L.length
      · obtain ⟨⟨a, x⟩, hx⟩ : ∃ t, L[j]? = some t := ⟨_, List.getElem?_eq_getElem hjl⟩
        have hM : (mixG L j)[j]? = some (a, x) := by rw [mixG_at hjl]; exact hx
        have hcl := rc_len lgc_len (mixG L j)
        have hml : (mixG L j).length = L.length := by unfold mixG; rw [List.length_append, negG_len, List.length_take, List.length_drop]; omega
        have c0 := HG.out.cell (j * 2) (.int .i64 a) (by rw [List.getElem?_append_left (by rw [hcl, hml]; omega)]; have := rc_at lgc_len hM 0 _ rfl; simpa using this)
        have c1 := HG.out.cell (j * 2 + 1) (.int .i64 x) (by rw [List.getElem?_append_left (by rw [hcl, hml]; omega)]; exact rc_at lgc_len hM 1 _ rfl)
        have f1 := HG.out.frozen (j * 2 + 1)
        have hgl := HG.out.lt
        have HX := Lib.hid hx
        have hxr := HLr.out _ (List.mem_of_getElem? hx)
        replace hxr : -9223372036854775808 ≤ x ∧ x ≤ 9223372036854775807 := hxr
        by_cases hmin : x = -9223372036854775808
        · subst hmin
          have HF : Hid (s = (T, E, 0, 11)) := by show _ = _; rw [← HS2.out, if_neg (by rw [okNeg_not (List.mem_of_getElem? HX.out) rfl]; decide)]
          have HBa := Lib.hid (hb.alloc hb.size (.cells #[.int .i64 a, .int .i64 (-9223372036854775808)] 48))
          clear hx hM hcl hml hxr
          go_wp2
          go_ret2
          exact ⟨by rw [HF.out]; rfl, ⟨_, C, by rw [HF.out]; exact HLD.out.keeps HBa.out, fun g h => .inl h, fun _ => rfl⟩, Fr.of_below HBa.out⟩
        · have hneg : wrap64 (-x) = -x := by unfold wrap64; omega
          have HK1 := Lib.hid (okNeg_take hx HK.out hmin)
          have HM1 := Lib.hid (rc_set1 (mixG L j) j a x (-x) hM)
          have HM2 := Lib.hid (mixG_set hx)
          have HBa := Lib.hid ((hb.setCell (p := ⟨g, j * 2 + 1, none⟩) hg (.int .i64 (-x))).alloc (by simpa using hb.size) (.cells #[.int .i64 a, .int .i64 x] 48))
          have HGa := Lib.hid ((HG.out.set (j * 2 + 1) (.int .i64 (-x))).alloc (.cells #[.int .i64 a, .int .i64 x] 48))
          have HCL := Lib.hid (show j * 2 + 1 < (rc lgc (mixG L j)).length by rw [hcl, hml]; omega)
          clear hx hM hcl hml hxr
          go_wp2
          go_roundw
          · exact ⟨j + 1, by omega, by go_num, HK1, by
              show Blk _ _ _ _
              have h := HGa.out
              rw [List.set_append_left _ _ HCL.out, HM1.out, show ((a, -x) : Lg) = ((a, x).1, -(a, x).2) from rfl, HM2.out] at h
              exact h, HBa.out⟩
          · simp [intOf]; omega
      · obtain rfl : j = L.length := by omega
        have hK := HK.out
        rw [List.take_length] at hK
        have hG := HG.out
        rw [mixG_all] at hG
        have HS3 := HS2
        rw [show (if okNeg L = true then postS T E (negG L) else (T, E, 0, 11)) = postS T E (negG L) from if_pos hK] at HS3
        have hsl : SlG wr (some ⟨g, 0, none⟩) cap (negG L) := ⟨rc_len lgc_len _, by rw [negG_len]; exact hcap, by simp, fun _ => ⟨g, 0, rfl, fun i u hu => by
          rw [Nat.zero_add]
          have hil := (List.getElem?_eq_some_iff.1 hu).1
          exact hG.cell i u (by rw [List.getElem?_append_left hil]; exact hu)⟩⟩
        have HP := Lib.hid (post_full wr B b v C T E (HLD.out.keeps hb) (Nat.le_trans hB hb.size) hE HTr.out _ cap (negG L) hsl (fun _ a ha => by
          obtain rfl := Option.some.inj ha
          exact ⟨by show g ≠ b; omega, fun e => by have := HVB.out g e.symm; omega⟩) (by rw [negG_len]; exact l2) (fun t ht => by
            obtain ⟨t', ht', rfl⟩ := List.mem_map.1 ht
            have h1 := HLr.out t' ht'
            have h2 : t'.2 ≠ -9223372036854775808 := by
              unfold okNeg at hK
              simpa using List.all_eq_true.1 hK t' ht'
            show -9223372036854775808 ≤ -t'.2 ∧ -t'.2 ≤ 9223372036854775807
            omega) s HS3.out)
        rw [negG_len] at HP
        clear hK hG hsl HS3
        go_wp2_with fail
        refine HP.out.mono ?_
        rintro e w3 ⟨rfl, ⟨v3, C3, hl3, h3, -, h4⟩, hf3⟩
        have H4 := Lib.hid h4
        have HL3 := Lib.hid hl3; have H3 := Lib.hid h3; have HF3 := Lib.hid hf3
        clear hl3 h3 hf3 h4
        go_wp2
        go_ret2
        exact ⟨rfl, ⟨_, C3, HL3.out, fun g hg => (H3.out g hg).elim .inl fun h => .inr (Nat.le_trans hb.size h), H4.out⟩, (Fr.of_below hb).trans HF3.out⟩
  · rw [if_neg hk, if_neg hk] at HEn
    have HF : Hid (s = (T, E, 0, 132)) := by show _ = _; rw [← hs, revS, if_neg hk]
    clear hs HS hled hk
    go_enter Try.func13, Try.ntmps13
    go_wp2_with fail
    refine HEn.out.mono ?_
    rintro e w1 ⟨u, rfl, ho, hb1⟩
    go_wp2
    go_ret2
    exact ⟨by rw [HF.out]; rfl, ⟨_, C, by rw [HF.out]; exact HLD.out.keeps hb1, fun g h => .inl h, fun _ => rfl⟩, Fr.of_below hb1⟩
theorem reverse_any (w : World) (B b : Nat) (v : Value) (C : List Value) (T : List Int) (E : List (List Lg)) (hled : Led w B b v C T E) (hB : B ≤ w.heap.size) (hE : E.length ≤ 100000) (hTr : ∀ x ∈ T, -9223372036854775808 ≤ x ∧ x ≤ 9223372036854775807)
    (hEl : ∀ L ∈ E, 1 ≤ L.length ∧ L.length ≤ 1000) (hEr : ∀ L ∈ E, ∀ t ∈ L, -9223372036854775808 ≤ t.2 ∧ t.2 ≤ 9223372036854775807) (k : Int) (s : List Int × List (List Lg) × Int × Int) (hs : revS T E k = s) :
    Calls Try.prog 13 #[.pointer (some ⟨b, 0, none⟩), .int .i64 k] w fun e w' => e = .returned (.tuple #[.int .i64 s.2.2.1, .int .i64 s.2.2.2]) ∧ (∃ v' C', Led w' B b v' C' s.1 s.2.1 ∧ (∀ g, v'.ownBlock = some g → v.ownBlock = some g ∨ w.heap.size ≤ g)) ∧ Fr b v.ownBlock w w' :=
  (reverse_full w B b v C T E hled hB hE hTr hEl hEr k s hs).mono fun e w' ⟨h1, ⟨v', C', h2, h3, _⟩, h4⟩ => ⟨h1, ⟨v', C', h2, h3⟩, h4⟩
end Go.Proofs.Yteghjdmalbcdfaa
