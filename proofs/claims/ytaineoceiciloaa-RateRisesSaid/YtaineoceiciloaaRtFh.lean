/-
  The reference's Points.
-/
import Derived.Test.YtaineoceiciloaaRtFg
import Derived.Laws.FloatArith
import Derived.OwnWalk
set_option linter.unusedVariables false
set_option linter.unusedSimpArgs false
namespace Go.Proofs.Ytaineoceiciloaa
open Go.RowKit Ieee

/-- A rest of P units. -/
def Pt (y P : Nat) : Prop := FloatKind.f64.format.order y 0 = some (compare P 0) ∧ (P ≠ 0 → y < 9218868437227405312 ∧ rv y = P)
def lenOf : Value → Nat
  | .slice _ n _ => n
  | _ => 0
theorem one_rv : rv 4607182418800017408 = 2 ^ T74 := by unfold rv; decide +kernel
theorem zero_rv : rv 0 = 0 := rfl
theorem pt_of {y P : Nat} (h : y < 9218868437227405312) (hv : rv y = P) : Pt y P :=
  ⟨by rw [show FloatKind.f64.format = double from rfl, ord_rv h (by decide), hv, zero_rv], fun _ => ⟨h, hv⟩⟩
theorem log_T {v k : Nat} (h : v < 2 ^ k) (hk : k < 1990) : v.log2 < 1990 := by
  by_cases h0 : v = 0
  · subst h0; decide
  · exact Nat.lt_trans (log2_lt' h h0) hk
theorem T_lt : (2 : Nat) ^ T74 < 2 ^ (T74 + 6) := Nat.pow_lt_pow_right (by decide) (by omega)
theorem T_two : 2 * (2 : Nat) ^ T74 < 2 ^ (T74 + 6) := by
  rw [Nat.mul_comm, ← Nat.pow_succ]; exact Nat.pow_lt_pow_right (by decide) (by omega)
theorem T_k : T74 + 6 < 1990 := by rw [t74]; decide
theorem cmp_gt {P : Nat} (h : P ≠ 0) : compare P 0 = .gt := Nat.compare_eq_gt.2 (Nat.pos_of_ne_zero h)
theorem cmp_z : compare 0 0 = Ordering.eq := rfl
/-- One round's floats. -/
theorem round_rv {P0 : Nat} {L : List Int} {y P : Nat} (hp : Pt y P) (h : Dg P0 L P) (hP : P ≠ 0) :
    ∃ z, FloatKind.f64.format.mul y 4611686018427387904 = some z ∧
      ((2 * P < 2 ^ T74 ∧ (FloatKind.f64.format.order z 4607182418800017408 == some .gt) = false ∧ (FloatKind.f64.format.order z 4607182418800017408 == some .eq) = false ∧ Pt z (2 * P)) ∨
       (2 ^ T74 ≤ 2 * P ∧ ((FloatKind.f64.format.order z 4607182418800017408 == some .gt) = true ∨ ((FloatKind.f64.format.order z 4607182418800017408 == some .gt) = false ∧ (FloatKind.f64.format.order z 4607182418800017408 == some .eq) = true)) ∧
         ∃ u, FloatKind.f64.format.sub z 4607182418800017408 = some u ∧ Pt u (2 * P - 2 ^ T74))) := by
  obtain ⟨hy, hv⟩ := hp.2 hP
  have hPl := h.2.2.1
  have hrep := h.2.2.2.1
  have hT := T_two
  obtain ⟨z, hz, hzl, hzv⟩ := dbl_rv hy (by rw [hv]; exact log_T (Nat.lt_trans hPl T_lt) T_k)
  have hzl' : z < 9218868437227405312 := Nat.lt_trans hzl (by decide)
  rw [hv] at hzv
  refine ⟨z, hz, ?_⟩
  have ho : FloatKind.f64.format.order z 4607182418800017408 = some (compare (2 * P) (2 ^ T74)) := by
    rw [show FloatKind.f64.format = double from rfl, ord_rv hzl' (by decide), hzv, one_rv]
  rw [ho]
  by_cases hl : 2 * P < 2 ^ T74
  · refine .inl ⟨hl, ?_, ?_, pt_of hzl' hzv⟩
    · rw [Nat.compare_eq_lt.2 hl]; rfl
    · rw [Nat.compare_eq_lt.2 hl]; rfl
  · have hl' : 2 ^ T74 ≤ 2 * P := Nat.le_of_not_lt hl
    refine .inr ⟨hl', ?_, ?_⟩
    · rcases Nat.lt_or_eq_of_le hl' with h2 | h2
      · left; rw [Nat.compare_eq_gt.2 h2]; rfl
      · right; rw [← h2, Nat.compare_eq_eq.2 rfl]; exact ⟨rfl, rfl⟩
    · obtain ⟨_, hr2⟩ := h.step1 hl'
      obtain ⟨u, h1, h2, h3⟩ := sub_rv hzl' (show 4607182418800017408 < 9218868437227405312 by decide) (by rw [hzv, one_rv]; exact hl') (by rw [hzv, one_rv]; exact hr2) (by
        rw [hzv]
        exact Nat.lt_trans (log_T (Nat.lt_trans (Nat.mul_lt_mul_of_pos_left hPl (by decide)) hT) T_k) (by decide))
      rw [hzv, one_rv] at h3
      exact ⟨u, h1, pt_of (Nat.lt_trans h2 (by decide)) h3⟩
theorem below_grownI {w w' w0 : World} {B base : Nat} {v : Value} {L : List Int} (h : OwI w base v L) (hg : w.grownBy w' v.ownBlock) (hB : B ≤ base) (hB0 : B ≤ w0.heap.size) (hb : Below B w0 w) : Below B w0 w' :=
  hb.grown hg (Nat.le_trans hB0 hb.size) (fun k hk => Nat.le_trans hB (World.ownsRow.lt h k hk).1)
theorem owi_kp {w w' : World} {B : Nat} {v : Value} {L : List Int} (h : OwI w B v L) (hb : Below w.heap.size w w') : OwI w' B v L := by
  rcases h.2 with h0 | ⟨g, cap, cur, e, h1, h2, h3⟩
  · exact ⟨h.1, .inl h0⟩
  · have hl := (World.ownsRow.lt h g (by rw [e]; rfl)).2
    exact ⟨h.1, .inr ⟨g, cap, cur, e, h1, by rw [hb.block g hl]; exact h2, h3⟩⟩
theorem refP_nil (A : Int) : refP A [] = A := by simp [refP]
theorem refP_0 (A : Int) (l : List Int) : refP A (0 :: l) = A := by simp [refP]
theorem refP_1 (A : Int) (l : List Int) (h : any1 l = true) : refP A (1 :: l) = A + 1 := by simp [refP, h]
theorem refP_2 (A : Int) (l : List Int) (h : any1 l = false) : refP A (1 :: l) = A + A % 2 := by simp [refP, h]
theorem any1_mem {l : List Int} (h : (1 : Int) ∈ l) : any1 l = true := by
  unfold any1; rw [List.any_eq_true]; exact ⟨1, h, by decide⟩
theorem any1_take {l : List Int} {j : Nat} {d : Int} (h : l[j]? = some d) (hn : any1 (l.take j) = false) (h0 : d = 0) : any1 (l.take (j + 1)) = false := by
  obtain ⟨hj, rfl⟩ := List.getElem?_eq_some_iff.1 h
  rw [List.take_succ_eq_append_getElem hj, any1, List.any_append, ← any1, hn, h0]; rfl
theorem set_low {m k j : Nat} (hj : m = k + 1 + j) (S : List Int) (v : Int) : (ic (List.replicate (m - k) 0 ++ S)).set j (.int .i64 v) = ic (List.replicate (m - (k + 1)) 0 ++ (v :: S)) := by
  rw [show m - k = j + 1 by omega, show m - (k + 1) = j by omega, List.replicate_succ', List.append_assoc, ic_app, ic_app, List.set_append_right _ _ (by simp [ic])]
  congr 1
  simp [ic]
theorem sl_own' {w : World} {base e : Nat} {ao : Option Addr} {n cap : Nat} {C : List Value} (h : w.ownsRow base e 1 (.slice ao n cap) n C) (hl : C.length = n) : Sl w ao n cap C := by
  subst hl
  obtain ⟨ao', cap', e', hs, _⟩ := Sl.own h
  cases e'
  exact hs
set_option maxRecDepth 20000 in
set_option maxHeartbeats 3200000 in
theorem rpoints_walk (w : World) (x W P0 c0 y0 : Nat) (bg be lg le : Bool) (g1 : (FloatKind.f64.format.order x 0 == some .gt) = bg) (g2 : (FloatKind.f64.format.order x 0 == some .eq) = be)
    (l1 : (FloatKind.f64.format.order x 4636737291354636288 == some .lt) = lg) (l2 : (FloatKind.f64.format.order x 4636737291354636288 == some .eq) = le)
    (hg : (bg || be) = true) (hl : (lg || le) = true)
    (hw : floatToIntVal .f64 x .i64 = some (W : Int)) (hW : W ≤ 100) (hf : floatOfInt FloatKind.f64 (W : Int) = c0) (hs : FloatKind.f64.format.sub x c0 = some y0) (hp : Pt y0 P0) (hP0 : P0 < 2 ^ T74) (hr : Rep P0) :
    Calls Try.prog 18 #[.float .f64 x] w fun e w' => ∃ (L O : List Int) (c : Int), e = .returned (.tuple #[.int .i64 (refP (100 * W + c) O), .int .i64 0]) ∧ Below w.heap.size w w' ∧ Dg P0 L 0 ∧ Cy L L.length c O := by
  have hcv := fun w => run_convert_float_int (P := Try.prog) w 35 2 .f64 .i64 x _ (by kernel_rfl) (by kernel_rfl) hw
  have hsb := fun w => run_float_arith (P := Try.prog) w .sub 35 .f64 _ _ y0 hs
  have HP := Lib.hid hp
  have HD0 := Lib.hid (Dg.zero hP0 hr)
  clear hw hs hp hP0 hr
  go_enter Try.func18, Try.ntmps18
  go_wp2
  go_loopw [5, 6] (fun y v wr => ∃ (yy P : Nat) (L : List Int), y = .float .f64 yy ∧ Hid (Pt yy P) ∧ Hid (Dg P0 L P) ∧ Hid (OwI wr w.heap.size v L) ∧ Hid (L.length ≤ 1074) ∧ Below w.heap.size w wr) (fun _ v _ => 1074 - lenOf v)
  case atStart => exact ⟨y0, P0, [], rfl, HP, HD0, own_i0 w, by show _ ≤ _; decide, below_new1 w _⟩
  case round =>
    clear HP HD0
    obtain ⟨yy, P, L, rfl, HP, HD, HO, HLL, hb⟩ := hrel
    by_cases hP : P = 0
    · subst hP
      have ho : FloatKind.f64.format.order yy 0 = some Ordering.eq := HP.out.1
      obtain ⟨ao, cap, rfl, hs⟩ := HO.out.sl
      obtain ⟨wd, hwd⟩ : ∃ wd, wd = wr := ⟨_, rfl⟩
      subst hwd
      have HSd := Lib.hid hs
      have HDL := HD.out
      obtain ⟨i64, hi, hz0, hz1, hz2⟩ := info_parts info_i64
      have hm : L.length ≤ 1074 := HLL.out
      clear hs HP HO
      go_wp2_with (refine wpList_make_full _ rfl _ _ 65 rfl wd.heap.size 2 i64 (.int .i64 0) 1 (by kernel_rfl) hi hz0 hz1 _ _ _ _ L.length rfl rfl rfl rfl (by rw [hz2]; omega) (by simp only [maxLen]; omega) (Nat.le_refl _) ?_; intro w2 hown hgr)
      have hown2 : Hid (w2.ownsRow wd.heap.size 2 1 (.slice (some ⟨wd.heap.size, 0, none⟩) L.length L.length) L.length (ic (List.replicate (L.length - 0) 0 ++ []))) := by
        show World.ownsRow _ _ _ _ _ _ _
        have e : ic (List.replicate (L.length - 0) 0 ++ []) = (madeCells (Value.int .i64 0).cells (L.length * 1)).toList := by
          rw [show (Value.int .i64 0).cells = #[.int .i64 0] from rfl, toList_madeCells_one, Nat.mul_one, Nat.sub_zero, List.append_nil]
          simp [ic]
        rw [e]; exact hown
      have HB2 : Hid (Below wd.heap.size wd w2) := (Below.refl _ wd).grown hgr (Nat.le_refl _) (fun k hk => by cases hk)
      obtain ⟨g, hgg⟩ : ∃ g, wd.heap.size = g := ⟨_, rfl⟩
      obtain ⟨m, hmm⟩ : ∃ m, L.length = m := ⟨_, rfl⟩
      have HG := Lib.hid hgg
      have HM := Lib.hid hmm
      rw [hgg] at hown2 HB2 ⊢
      rw [hmm] at hown2 hm HSd ⊢
      clear hown hgr hz0 hz1 hz2 hi hgg hmm
      go_wp2
      go_loopw [8, 10] (fun cv iv wx => ∃ (k : Nat) (c n : Int) (S : List Int), cv = .int .i64 c ∧ iv = .int .i64 n ∧ k ≤ m ∧ n = (m : Int) - 1 - k ∧ Hid (Cy L k c S) ∧ Hid (wx.ownsRow g 2 1 (.slice (some ⟨g, 0, none⟩) m m) m (ic (List.replicate (m - k) 0 ++ S))) ∧ Hid (Below g wd wx)) (fun _ iv _ => (intOf iv + 1).toNat)
      case atStart => exact ⟨0, 0, _, [], rfl, rfl, by omega, by omega, Cy.zero L, hown2, HB2⟩
      case round =>
        clear hown2 HB2
        obtain ⟨k, c, n, S, rfl, rfl, hk, hn, HC, HO, HB⟩ := hrel
        have hc0 : 0 ≤ c := HC.out.2.2.1
        have hc1 : c ≤ 99 := HC.out.2.2.2.1
        by_cases hkm : k < m
        · obtain ⟨j, hj⟩ : ∃ j : Nat, m = k + 1 + j := ⟨m - (k + 1), by omega⟩
          obtain rfl : n = (j : Int) := by omega
          obtain ⟨d, hd⟩ : ∃ d, L[j]? = some d := ⟨_, List.getElem?_eq_getElem (by rw [HM.out]; omega)⟩
          have hst := HC.out.step HDL.1 (d := d) (by rw [HM.out, show m - (k + 1) = j by omega]; exact hd) (by rw [HM.out]; exact hkm)
          obtain ⟨hd01, hn0, hn1, hst2⟩ := hst
          have HST := Lib.hid hst2
          have hd0 : 0 ≤ d := by omega
          have hd1 : d ≤ 1 := by omega
          have hw := HSd.out.keeps (w' := wr) (by rw [HG.out]; exact HB.out)
          obtain ⟨b, off, rfl, hcc⟩ := hw.cells (by intro e; have := ic_at hd; rw [e] at this; simp at this)
          have cd := hcc j _ (ic_at hd)
          have ho2 := HO.out
          have hcell : wr.cell? ⟨g, j, none⟩ = some (.int .i64 0) := by
            rw [World.ownsRow.cellAt ho2 j (by omega)]
            refine ic_at ?_
            rw [List.getElem?_append_left (by simp; omega), List.getElem?_replicate, if_pos (by omega)]
          have hfz : wr.frozen? ⟨g, j, none⟩ = false := World.ownsRow.frozenAt ho2 j
          have HW := Lib.hid (World.ownsRow.stored ho2 j (.int .i64 ((100 * d + c) % 2)))
          have hjm : (j : Int) < m := by omega
          clear hst2 hd ho2 hw hcc hn hd01
          go_wp2
          go_roundw
          · refine ⟨k + 1, _, _, (100 * d + c) % 2 :: S, rfl, rfl, by omega, by omega, HST, ?_, ?_⟩
            · have h9 := HW.out.1
              rw [set_low hj] at h9
              exact h9
            · exact HB.out.grown HW.out.2 (by rw [← HG.out]; exact HB.out.size) (fun k hk => by cases hk; exact Nat.le_refl _)
          · simp [intOf]
        · obtain rfl : k = m := by omega
          obtain rfl : n = -1 := by omega
          have hO := HO.out
          rw [Nat.sub_self, List.replicate_zero, List.nil_append] at hO
          have hSl : S.length = k := HC.out.2.1
          have hsl := sl_own' hO (by rw [ic_len]; exact hSl)
          have HCF : Hid (Cy L L.length c S) := by
            show Cy _ _ _ _
            rw [HM.out]; exact HC.out
          have HBF : Hid (Below w.heap.size w wr) := below_on hb hb.size (by rw [HG.out]; exact HB.out)
          have HBits : Hid (Bits S) := HC.out.1
          clear hO HO HC HB hb hkm hn hk hm
          cases S with
          | nil =>
            obtain rfl : k = 0 := hSl.symm
            clear hsl
            go_wp2
            go_ret2
            exact ⟨L, [], c, by rw [refP_nil]; rfl, HBF.out, HD.out, HCF.out⟩
          | cons o l =>
            have hk0 : (0 : Int) < k := by rw [← hSl, List.length_cons]; omega
            have hk1 : ¬ (k : Int) = 0 := by omega
            have ho01 := HBits.out o (by simp)
            obtain ⟨b', off', e', hcc⟩ := hsl.cells (by simp [ic])
            cases e'
            have cd : wr.cell? ⟨g, 0, none⟩ = some (.int .i64 o) := hcc 0 _ rfl
            have HSl := Lib.hid hsl
            have HSL2 := Lib.hid hSl
            clear hcc hsl hSl
            rcases ho01 with rfl | rfl
            · go_wp2
              go_ret2
              exact ⟨L, 0 :: l, c, by rw [refP_0]; rfl, HBF.out, HD.out, HCF.out⟩
            · obtain ⟨wq, hwq⟩ : ∃ wq, wq = wr := ⟨_, rfl⟩
              subst hwq
              obtain ⟨fa, hfa⟩ : ∃ fa, fromA (some ⟨g, 0, none⟩) k 1 = fa := ⟨_, rfl⟩
              have HT : Hid (Sl wq fa l.length (k - 1) (ic l)) := by
                have h := HSl.out
                rw [← hfa]
                rw [← HSL2.out] at h ⊢
                exact from_sl h 1 (by simp)
              have HLk : Hid (l.length ≤ 1074) := by
                have h1 := HSL2.out
                have h2 := HLL.out
                have h3 := HM.out
                rw [List.length_cons] at h1
                show _ ≤ _
                omega
              have hlk := HLk.out
              have hbl : Bits l := fun d hd => HBits.out d (by simp [hd])
              have HBL := Lib.hid hbl
              clear hbl HSl
              go_wp2_with (refine cut_from rfl _ _ rfl (some ⟨g, 0, none⟩) k (1 :: l) (by rw [HSL2.out]; exact Nat.le_refl _) (by rw [HSL2.out]; rfl) 1 (by simp) rfl ?_; rw [show List.drop 1 (1 :: l) = l from rfl, hfa])
              go_loopw [82] (fun i wx => ∃ j : Nat, j ≤ l.length ∧ i = .int .i64 j ∧ Hid (any1 (l.take j) = false) ∧ Below wq.heap.size wq wx) (fun i _ => l.length - (intOf i).toNat)
              case atStart => exact ⟨0, by omega, rfl, rfl, Below.refl _ _⟩
              case round =>
                obtain ⟨j, hj, rfl, HN, hb⟩ := hrel
                by_cases hjl : j < l.length
                · obtain ⟨d, hd⟩ : ∃ d, l[j]? = some d := ⟨_, List.getElem?_eq_getElem hjl⟩
                  have HT2 := any1_take hd HN.out
                  have hin : d ∈ l := List.mem_of_getElem? hd
                  have hd01 := HBL.out d hin
                  have hw := HT.out.keeps hb
                  obtain ⟨b, off, rfl, hcc⟩ := hw.cells (by intro e; have := ic_at hd; rw [e] at this; simp at this)
                  have cd1 := hcc j _ (ic_at hd)
                  have HBX : Hid (Below w.heap.size w wr) := below_on HBF.out HBF.out.size hb
                  clear hd hw hcc hfa
                  rcases hd01 with rfl | rfl
                  · have HT3 := Lib.hid (HT2 rfl)
                    clear HT2 hin
                    go_wp2
                    go_roundw
                    · exact ⟨j + 1, by omega, by go_num, HT3, hb⟩
                    · simp [intOf]; omega
                  · have HY : Hid (any1 l = true) := any1_mem hin
                    clear HT2 hin
                    go_wp2
                    go_ret2
                    exact ⟨L, 1 :: l, c, by rw [refP_1 _ _ HY.out]; rfl, HBX.out, HD.out, HCF.out⟩
                · obtain rfl : j = l.length := by omega
                  have HNo : Hid (any1 l = false) := by
                    have h := HN.out
                    rw [List.take_length] at h
                    exact h
                  have HBX : Hid (Below w.heap.size w wr) := below_on HBF.out HBF.out.size hb
                  go_wp2
                  go_ret2
                  exact ⟨L, 1 :: l, c, by rw [refP_2 _ _ HNo.out]; rfl, HBX.out, HD.out, HCF.out⟩
    · have ho : FloatKind.f64.format.order yy 0 = some Ordering.gt := by rw [HP.out.1, cmp_gt hP]
      have hlen := HD.out.lt hP
      obtain ⟨ao, cap, rfl, _⟩ := HO.out.sl
      obtain ⟨z, hz, hzz⟩ := round_rv HP.out HD.out hP
      have hml := fun w => run_float_arith (P := Try.prog) w .mul 35 .f64 _ _ z hz
      rcases hzz with ⟨hl2, q1, q2, hp2⟩ | ⟨hl2, hge, u, hu, hp2⟩
      · have HP2 := Lib.hid hp2
        have HD2 := Lib.hid (HD.out.step0 hl2)
        have HB1 := Lib.hid (hb.alloc hb.size (.cells #[.int .i64 0] 2))
        have HO1 := Lib.hid (owi_kp HO.out (below_new1 wr (.cells #[.int .i64 0] 2)))
        have HSL := Lib.hid (sl_i1 wr 0)
        clear hz hl2 hp2 hb
        go_wp2_with (refine ap_i rfl _ _ rfl w.heap.size _ rfl L ?_ _ 1 [0] rfl ?_ ?_ ?_ ?_)
        · exact HO1.out
        · exact HSL.out
        · show L.length + 1 ≤ 1000000000000; omega
        · exact (by simpa using HB1.out.size)
        intro v' w' h1 h2 h3
        have HBn := Lib.hid (below_grownI HO1.out h2 (Nat.le_refl _) (Nat.le_refl _) HB1.out)
        have HOn := Lib.hid h1
        have hlen2 : lenOf v' = L.length + 1 := by
          obtain ⟨a', c', e', _⟩ := HOn.out.sl
          rw [e']; simp [lenOf]
        clear h1 h2 h3
        go_wp2
        go_roundw
        · exact ⟨z, 2 * P, L ++ [0], rfl, HP2, HD2, HOn, by show _ ≤ _; simp; omega, HBn.out⟩
        · rw [hlen2]; simp [lenOf]; omega
      · have HP2 := Lib.hid hp2
        have HD2 := Lib.hid (HD.out.step1 hl2).1
        have hsb2 := fun w => run_float_arith (P := Try.prog) w .sub 35 .f64 _ _ u hu
        have HB1 := Lib.hid (hb.alloc hb.size (.cells #[.int .i64 1] 2))
        have HO1 := Lib.hid (owi_kp HO.out (below_new1 wr (.cells #[.int .i64 1] 2)))
        have HSL := Lib.hid (sl_i1 wr 1)
        clear hz hl2 hp2 hb hu
        rcases hge with q1 | ⟨q1, q2⟩
        all_goals
          go_wp2_with (refine ap_i rfl _ _ rfl w.heap.size _ rfl L ?_ _ 1 [1] rfl ?_ ?_ ?_ ?_)
          · exact HO1.out
          · exact HSL.out
          · show L.length + 1 ≤ 1000000000000; omega
          · exact (by simpa using HB1.out.size)
          intro v' w' h1 h2 h3
          have HBn := Lib.hid (below_grownI HO1.out h2 (Nat.le_refl _) (Nat.le_refl _) HB1.out)
          have HOn := Lib.hid h1
          have hlen2 : lenOf v' = L.length + 1 := by
            obtain ⟨a', c', e', _⟩ := HOn.out.sl
            rw [e']; simp [lenOf]
          clear h1 h2 h3
          go_wp2
          go_roundw
          · exact ⟨u, 2 * P - 2 ^ T74, L ++ [1], rfl, HP2, HD2, HOn, by show _ ≤ _; simp; omega, HBn.out⟩
          · rw [hlen2]; simp [lenOf]; omega
end Go.Proofs.Ytaineoceiciloaa
