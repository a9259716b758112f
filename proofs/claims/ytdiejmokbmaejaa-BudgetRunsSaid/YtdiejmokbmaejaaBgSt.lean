/-
  The law BudgetStays.
-/
import Derived.Test.YtdiejmokbmaejaaBgBk
import Derived.Test.YtdiejmokbmaejaaCross
set_option linter.unusedVariables false
set_option linter.unusedSimpArgs false
namespace Go.Proofs.Ytdiejmokbmaejaa
open Go.RowKit Dg

/-- What is done: kind, place, place, two amounts. -/
abbrev Ac := Int × Int × Int × Int × Int
def acc (t : Ac) : List Value := [.int .i64 t.1, .int .i64 t.2.1, .int .i64 t.2.2.1, .int .i64 t.2.2.2.1, .int .i64 t.2.2.2.2]
theorem acc_len (t : Ac) : (acc t).length = 5 := rfl
abbrev SlA (w : World) (ao : Option Addr) (cap : Nat) (L : List Ac) : Prop := Rk w 5 ao L.length cap (rc acc L)
theorem info_ac : (Try.prog.info? 48).map (fun i => (i.zero, i.size, i.bytes)) = some (some (.agg #[.int .i64 0, .int .i64 0, .int .i64 0, .int .i64 0, .int .i64 0]), 5, 40) := by kernel_rfl
theorem size_ac (w : World) : (sizeOf 48).run Try.prog w = .ok 5 w := by
  obtain ⟨i, hi, _, hs, _⟩ := info_parts info_ac
  simp [sizeOf, typeInfo, hi, hs]
section
variable {ops : Array Oper} {rest : List Oper} {o : Oper} {a : Act} {w : World} {Q : Exit → Act → World → Prop}
theorem ix_ac (hw : Region.wanted o (yielded ops a.tmps) = true) (s x : Operand) (ho : o.op = .indexAddr 46 s x) (ao : Option Addr) (cap : Nat) (L : List Ac) (hc : SlA w ao cap L) (hs : a.eval s = .slice ao L.length cap) (k : Nat) (t : Ac) (ht : L[k]? = some t) (hx : a.eval x = .int .i64 k)
    (h : ∀ b off, w.cell? ⟨b, off, none⟩ = some (.int .i64 t.1) → w.cell? ⟨b, off + 1, none⟩ = some (.int .i64 t.2.1) → w.cell? ⟨b, off + 2, none⟩ = some (.int .i64 t.2.2.1) → w.cell? ⟨b, off + 3, none⟩ = some (.int .i64 t.2.2.2.1) → w.cell? ⟨b, off + 4, none⟩ = some (.int .i64 t.2.2.2.2) → wpList Try.prog ops Q rest (a.put o.dst (.pointer (some ⟨b, off, none⟩))) w) : wpList Try.prog ops Q (o :: rest) a w := by
  refine wpList_ix_rec hw 46 48 s x ho Try.underlying46 5 (by decide) size_ac ao L.length cap hs (rc acc L) hc k (List.getElem?_eq_some_iff.1 ht).1 hx fun b off _ hcell => ?_
  have g : ∀ j u, (acc t)[j]? = some u → w.cell? ⟨b, off + k * 5 + j, none⟩ = some u := fun j u hu => by
    have := hcell _ _ (rc_at acc_len ht j u hu)
    rw [← Nat.add_assoc] at this; exact this
  exact h b (off + k * 5) (g 0 _ rfl) (g 1 _ rfl) (g 2 _ rfl) (g 3 _ rfl) (g 4 _ rfl)
end
theorem cross_le {x y b p : Int} (h : x + y ≤ capS b p) : cmpI ((x + y) * 10000) (b * p) ≤ 0 := by
  unfold capS at h
  unfold cmpI
  generalize b * p = z at *
  split
  · decide
  · split <;> omega
/-! ### What each does to lines that can be -/
theorem turnS_nil {L : List Ln} {k : Nat} {t : Ln} (h : ¬ (turnS L k t).2 = 0) : (turnS L k t).1 = [] := by
  unfold turnS at h ⊢; split at h
  · simp at h
  · rename_i h1; rw [if_neg h1]
theorem cutS_nil {L : List Ln} {k a : Int} (h : ¬ (cutS L k a).2 = 0) : (cutS L k a).1 = [] := by
  unfold cutS at h ⊢
  repeat' split at h
  · rename_i h1 h2; rw [if_pos h1, if_pos h2]; exact turnS_nil h
  · rename_i h1 h2; rw [if_pos h1, if_neg h2]
  · rename_i h1; rw [if_neg h1]
theorem inspS_nil {L : List Ln} {k a : Int} (h : ¬ (inspS L k a).2 = 0) : (inspS L k a).1 = [] := by
  unfold inspS at h ⊢
  repeat' split at h
  · rename_i h1 h2 h3; rw [if_pos h1, if_pos h2, if_pos h3]
  · rename_i h1 h2 h3; rw [if_pos h1, if_pos h2, if_neg h3]; exact turnS_nil h
  · rename_i h1 h2; rw [if_pos h1, if_neg h2]
  · rename_i h1; rw [if_neg h1]
theorem payS_nil {L : List Ln} {k a c : Int} (h : ¬ (payS L k a c).2 = 0) : (payS L k a c).1 = [] := by
  unfold payS at h ⊢
  repeat' split at h
  · rename_i h1 h2; rw [if_pos h1, if_pos h2]; exact turnS_nil h
  · rename_i h1 h2; rw [if_pos h1, if_neg h2]
  · rename_i h1; rw [if_neg h1]
theorem relS_nil {L : List Ln} {k : Int} (h : ¬ (relS L k).2.2 = 0) : (relS L k).1 = [] := by
  unfold relS at h ⊢
  repeat' split at h
  · rename_i h1 h2; rw [if_pos h1, if_pos h2]; exact turnS_nil h
  · rename_i h1 h2; rw [if_pos h1, if_neg h2]
  · rename_i h1; rw [if_neg h1]
theorem moveS_nil {L : List Ln} {f t a : Int} (h : ¬ (moveS L f t a).2 = 0) : (moveS L f t a).1 = [] := by
  unfold moveS at h ⊢
  repeat' split at h
  · rename_i h1 h2; rw [if_pos h1, if_pos h2]
  · rename_i h1 h2 h3; rw [if_pos h1, if_neg h2, if_pos h3]
  · simp at h
  · rename_i h1 h2 h3 h4 h5; rw [if_pos h1, if_neg h2, if_neg h3, if_pos h4, if_neg h5]
  · rename_i h1 h2 h3 h4; rw [if_pos h1, if_neg h2, if_neg h3, if_neg h4]
  · rename_i h1; rw [if_neg h1]
/-- One line anew, that can be. -/
theorem turn_keeps {L K : List Ln} {k : Int} {t : Ln} (h0 : thereS L [k] = true) (h : turnS L k.toNat t = (K, 0)) : rightL K = true ∧ K.length = L.length ∧ totS K = totS L - (atL L k).1 + t.1 := by
  obtain ⟨hr, n, hn, rfl⟩ := thereS_one h0
  rw [Int.toNat_natCast] at h
  unfold turnS at h
  split at h
  · rename_i hok
    have e : L.set n t = K := by simpa using h
    subst e
    obtain ⟨x, hx⟩ : ∃ t, L[n]? = some t := ⟨_, List.getElem?_eq_getElem hn⟩
    exact ⟨right_set hr hok, List.length_set, by rw [tot_set hx, atL_nat hx]⟩
  · simp at h
theorem cut_keeps {L K : List Ln} {k a : Int} (h : cutS L k a = (K, 0)) : rightL K = true ∧ K.length = L.length ∧ totS K = totS L - a := by
  unfold cutS at h
  repeat' split at h
  · rename_i h1 h2
    obtain ⟨r1, r2, r3⟩ := turn_keeps h1 h
    refine ⟨r1, r2, ?_⟩
    rw [r3]; show totS L - (atL L k).1 + ((atL L k).1 - a) = _; omega
  · simp at h
  · simp at h
theorem cut_am {L K : List Ln} {k a : Int} (h : cutS L k a = (K, 0)) : 1 ≤ a ∧ a ≤ 1000000000000 := by
  unfold cutS at h
  repeat' split at h
  · rename_i h1 h2; exact h2
  · simp at h
  · simp at h
theorem insp_keeps {L K : List Ln} {k a : Int} (h : inspS L k a = (K, 0)) : rightL K = true ∧ K.length = L.length ∧ totS K = totS L := by
  unfold inspS at h
  repeat' split at h
  · simp at h
  · rename_i h1 h2 h3
    obtain ⟨r1, r2, r3⟩ := turn_keeps h1 h
    refine ⟨r1, r2, ?_⟩
    rw [r3]; show totS L - (atL L k).1 + (atL L k).1 = _; omega
  · simp at h
  · simp at h
theorem pay_keeps {L K : List Ln} {k a c : Int} (h : payS L k a c = (K, 0)) : rightL K = true ∧ K.length = L.length ∧ totS K = totS L := by
  unfold payS at h
  repeat' split at h
  · rename_i h1 h2
    obtain ⟨r1, r2, r3⟩ := turn_keeps h1 h
    refine ⟨r1, r2, ?_⟩
    rw [r3]; show totS L - (atL L k).1 + (atL L k).1 = _; omega
  · simp at h
  · simp at h
theorem rel_keeps {L K : List Ln} {k hd : Int} (h : relS L k = (K, hd, 0)) : rightL K = true ∧ K.length = L.length ∧ totS K = totS L := by
  unfold relS at h
  repeat' split at h
  · rename_i h1 h2
    simp only [Prod.mk.injEq] at h
    obtain ⟨e1, _, e2⟩ := h
    obtain ⟨r1, r2, r3⟩ := turn_keeps h1 (K := K) (Prod.ext e1 e2)
    refine ⟨r1, r2, ?_⟩
    rw [r3]; show totS L - (atL L k).1 + (atL L k).1 = _; omega
  · simp at h
  · simp at h
set_option maxRecDepth 8000 in
set_option maxHeartbeats 8000000 in
theorem stays_core (ao : Option Addr) (cap : Nat) (B : List Int) (co : Option Addr) (cap2 : Nat) (A : List Ac) (w : World) (h : Sl w ao B.length cap (ic B)) (hA : SlA w co cap2 A) (hl : B.length ≤ 16) (hl2 : A.length ≤ 40) :
    Calls Try.prog 7 #[.slice ao B.length cap, .slice co A.length cap2] w fun e w' => e = .returned (.bool true) ∧ Below w.heap.size w w' := by
  have HAl := Lib.hid (fun W => balive_any W)
  obtain ⟨s, hs⟩ : ∃ s, newS B = s := ⟨_, rfl⟩
  have HN := Lib.hid (fun U (hu : Below w.heap.size w U) => bnew_any U ao cap B (h.keeps hu) s hs (by omega))
  have hok := newS_ok (B := B)
  have hnil : ¬ s.2 = 0 → s.1 = [] := by
    rw [← hs]; unfold newS; intro h; split at h
    · simp at h
    · rename_i h1; rw [if_neg h1]
  rw [hs] at hok
  have HOK := Lib.hid hok; have HNil := Lib.hid hnil
  have HBl := Lib.hid (show (bare B).length = B.length from List.length_map _)
  have HAc := Lib.hid hA
  have h16 : ¬ (16 : Int) < B.length := by omega
  have h40 : ¬ (40 : Int) < A.length := by omega
  clear h hs hok hnil hA
  go_enter Try.func7, Try.ntmps7
  go_wp2_with fail
  refine (HAl.out _).mono ?_
  rintro e w1 ⟨rfl, hb1⟩
  have HB1 := Lib.hid hb1
  go_wp2_with fail
  refine (HN.out _ hb1).mono ?_
  rintro e w2 ⟨v2, rfl, ho2, hb2⟩
  have HB2 := Lib.hid (below_on HB1.out HB1.out.size hb2)
  obtain ⟨L0, se⟩ := s
  obtain ⟨a2, c2, rfl, hs2⟩ := OwL.sl ho2
  clear hb2 HN hb1 ho2
  by_cases hse : se = 0
  · subst hse
    obtain ⟨hr, hse⟩ := HOK.out rfl
    obtain ⟨rfl, _⟩ : L0 = bare B ∧ True := by simpa using hse
    have HR0 := Lib.hid hr
    have HS2 := Lib.hid hs2
    obtain ⟨L0, hL0⟩ : ∃ M, bare B = M := ⟨_, rfl⟩
    have HS2' : Hid (SlL w2 a2 c2 (bare B)) := HS2.out
    rw [hL0] at HS2' HR0 HBl
    simp only [hL0]
    clear hs2 hr hse HOK HNil HS2 hL0
    go_wp2
    go_loopw [5, 37] (fun l i wr => ∃ (k : Nat) (L : List Ln) (a : Option Addr) (c : Nat), k ≤ A.length ∧ i = .int .i64 k ∧ l = .slice a L.length c ∧ Hid (SlL wr a c L) ∧ Hid (rightL L = true) ∧ Hid (L.length = B.length) ∧ Below w.heap.size w wr) (fun _ i _ => A.length - (intOf i).toNat)
    case atStart => exact ⟨0, L0, a2, c2, by omega, rfl, rfl, HS2'.out, HR0.out, HBl.out, HB2.out⟩
    case round =>
      obtain ⟨k, L, a, c, hk, rfl, rfl, HSL, HRL, HLB, hb⟩ := hrel
      by_cases hkl : k < A.length
      · obtain ⟨⟨kd, at_, to_, am, bm⟩, ht⟩ : ∃ t, A[k]? = some t := ⟨_, List.getElem?_eq_getElem hkl⟩
        have HT := Lib.hid ht
        have hwA := HAc.out.keeps hb
        have HBx := Lib.hid (hb.alloc hb.size (.cells #[.int .i64 kd, .int .i64 at_, .int .i64 to_, .int .i64 am, .int .i64 bm] 48))
        have HGx := Lib.hid (Blk.new wr 48 [.int .i64 kd, .int .i64 at_, .int .i64 to_, .int .i64 am, .int .i64 bm])
        have HSx := Lib.hid (HSL.out.alloc (.cells #[.int .i64 kd, .int .i64 at_, .int .i64 to_, .int .i64 am, .int .i64 bm] 48))
        have HTo := Lib.hid (total_any _ a c L HSx.out HRL.out)
        have hin := tot_in (rightL_true HRL.out).2.2
        have hl16 := (rightL_true HRL.out).2.1
        obtain ⟨z, hz⟩ : ∃ z, totS L = z := ⟨_, rfl⟩
        have HZ := Lib.hid hz
        rw [hz] at HTo hin
        have z0 : 0 ≤ z := hin.1
        have z1 : z ≤ 16000000000000 := by have := hin.2; omega
        clear ht hz hin hl16 hb
        go_wp2_with (first | (refine ix_ac rfl _ _ rfl co cap2 A hwA rfl k _ HT.out rfl ?_; intro bb off k0 k1 k2 k3 k4) | fail)
        refine HTo.out.mono ?_
        rintro e w7 ⟨rfl, hb7⟩
        have HB7 := Lib.hid (below_on HBx.out HBx.out.size hb7)
        have HSL7 := Lib.hid (HSx.out.keeps hb7)
        have hG := HGx.out.keeps hb7
        have HG7 := Lib.hid hG
        have e0 := hG.cell 0 _ rfl; have e1 := hG.cell 1 _ rfl; have e2 := hG.cell 2 _ rfl; have e3 := hG.cell 3 _ rfl; have e4 := hG.cell 4 _ rfl
        clear hb7 hG HTo k0 k1 k2 k3 k4 hwA HBx HGx HSx
        by_cases d0 : kd = 0
        · subst d0
          obtain ⟨q, hq⟩ : ∃ q, moveS L at_ to_ am = q := ⟨_, rfl⟩
          have HOp := Lib.hid (bmove_any w7 a c L HSL7.out at_ to_ am q hq)
          obtain ⟨K, er⟩ := q
          have HKok : Hid (er = 0 → rightL K = true ∧ K.length = L.length ∧ totS K = z) := fun e => by subst e; rw [← HZ.out]; exact ⟨(move_back hq).2.1, (move_back hq).2.2.2.2, (move_back hq).2.2.1⟩
          have HKnil : Hid (¬ er = 0 → K = []) := fun e => by have := moveS_nil (L := L) (f := at_) (t := to_) (a := am) (by rw [hq]; exact e); rw [hq] at this; exact this
          clear hq
          go_wp2_with fail
          refine HOp.out.mono ?_
          rintro e w8 ⟨v8, rfl, ho8, hb8⟩
          have HB8 := Lib.hid (below_on HB7.out HB7.out.size hb8)
          have HSL8 := Lib.hid (HSL7.out.keeps hb8)
          have HG8 := Lib.hid (HG7.out.keeps hb8)
          obtain ⟨a8, c8, rfl, hs8⟩ := OwL.sl ho8
          have HSK : Hid (SlL w8 a8 c8 K) := hs8
          clear ho8 hs8 hb8 HOp
          by_cases he : er = 0
          · subst he
            obtain ⟨hrK, hKl, htK⟩ := HKok.out rfl
            have hKB : K.length = B.length := hKl.trans HLB.out
            have hne : ((K.length : Int) != (B.length : Int)) = false := by simp; omega
            have HRi := Lib.hid (bright_any w8 a8 c8 K HSK.out true hrK)
            have HRK := Lib.hid hrK; have HKB := Lib.hid hKB; have HTK := Lib.hid htK
            have K16 : K.length ≤ 16 := by omega
            clear hrK hKl htK hKB HKok HKnil
            go_wp2_with fail
            refine HRi.out.mono ?_
            rintro e w9 ⟨rfl, hb9⟩
            have HB9 := Lib.hid (below_on HB8.out HB8.out.size hb9)
            have HSK9 := Lib.hid (HSK.out.keeps hb9)
            have HTo := Lib.hid (total_any w9 a8 c8 K HSK9.out HRK.out)
            rw [HTK.out] at HTo
            clear hb9 HRi
            go_wp2_with fail
            refine HTo.out.mono ?_
            rintro e w10 ⟨rfl, hb10⟩
            have HB10 := Lib.hid (below_on HB9.out HB9.out.size hb10)
            have HSK10 := Lib.hid (HSK9.out.keeps hb10)
            clear hb10 HTo
            go_wp2
            go_loopw [134] (fun i wr => ∃ j : Nat, j ≤ K.length ∧ i = .int .i64 j ∧ Below w10.heap.size w10 wr) (fun i _ => K.length - (intOf i).toNat)
            case atStart => exact ⟨0, by omega, rfl, Below.refl _ _⟩
            case round =>
              obtain ⟨j, hj, rfl, hbj⟩ := hrel
              by_cases hjl : j < K.length
              · obtain ⟨⟨b, p, x, y⟩, ht⟩ : ∃ t, K[j]? = some t := ⟨_, List.getElem?_eq_getElem hjl⟩
                have hok := okLn_true (List.all_eq_true.1 (rightL_true HRK.out).2.2 _ (List.mem_of_getElem? ht))
                obtain ⟨⟨b0, b1⟩, ⟨p0, p1⟩, ⟨x0, x1⟩, ⟨y0, y1⟩, hc⟩ := hok
                replace b0 : 0 ≤ b := b0; replace b1 : b ≤ 1000000000000 := b1; replace p0 : 0 ≤ p := p0; replace p1 : p ≤ 10000 := p1
                replace x0 : 0 ≤ x := x0; replace x1 : x ≤ 1000000000000 := x1; replace y0 : 0 ≤ y := y0; replace y1 : y ≤ 1000000000000 := y1
                replace hc : x + y ≤ capS b p := hc
                have hcb := (cap_in b0 b1 p0 p1).2
                have HX := Lib.hid (fun W => rcross_any (x + y) 10000 b p (by omega) (by omega) (by decide) (by decide) (by omega) (by omega) (by omega) (by omega) W)
                have hq := cross_le hc
                obtain ⟨q, hqe⟩ : ∃ q, cmpI ((x + y) * 10000) (b * p) = q := ⟨_, rfl⟩
                rw [hqe] at HX hq
                have q0 : ¬ 0 < q := by omega
                have x0' : ¬ x < 0 := by omega
                have y0' : ¬ y < 0 := by omega
                have s0' : ¬ b < x + y := by omega
                have HT := Lib.hid ht
                have hwK := HSK10.out.keeps hbj
                have HBb := Lib.hid (hbj.alloc hbj.size (.cells #[.int .i64 b, .int .i64 p, .int .i64 x, .int .i64 y] 33))
                clear ht hc hcb hq hqe
                go_wp2_with (first | (refine ix_ln rfl _ _ rfl a8 c8 K hwK rfl j _ HT.out rfl ?_; intro bb off k0 k1 k2 k3) | fail)
                refine (HX.out _).mono ?_
                rintro e w12 ⟨rfl, hb12⟩
                have HBc := Lib.hid (below_on HBb.out HBb.out.size hb12)
                clear hb12 k0 k1 k2 k3 hwK
                go_wp2
                go_roundw
                · exact ⟨j + 1, by omega, by go_num, HBc.out⟩
                · simp [intOf]; omega
              · obtain rfl : j = K.length := by omega
                go_wp2
                go_roundw
                · exact ⟨k + 1, K, a8, c8, by omega, by go_num, rfl, HSK10.out.keeps hbj, HRK.out, HKB.out, below_on HB10.out HB10.out.size hbj⟩
                · simp [intOf]; omega
          · obtain rfl := HKnil.out he
            clear HKnil HKok
            go_wp2
            go_roundw
            · exact ⟨k + 1, L, a, c, by omega, by go_num, rfl, HSL8.out, HRL.out, HLB.out, HB8.out⟩
            · simp [intOf]; omega
        · by_cases d1 : kd = 1
          · subst d1
            clear d0
            obtain ⟨q, hq⟩ : ∃ q, cutS L at_ am = q := ⟨_, rfl⟩
            have HOp := Lib.hid (bcut_any w7 a c L HSL7.out at_ am q hq)
            obtain ⟨K, er⟩ := q
            have HKok : Hid (er = 0 → rightL K = true ∧ K.length = L.length ∧ totS K = z - am) := fun e => by subst e; rw [← HZ.out]; exact cut_keeps hq
            have HKnil : Hid (¬ er = 0 → K = []) := fun e => by have := cutS_nil (L := L) (k := at_) (a := am) (by rw [hq]; exact e); rw [hq] at this; exact this
            have HAm := Lib.hid (fun (e : er = 0) => cut_am (L := L) (K := K) (k := at_) (a := am) (by rw [hq, e]))
            clear hq
            go_wp2_with fail
            refine HOp.out.mono ?_
            rintro e w8 ⟨v8, rfl, ho8, hb8⟩
            have HB8 := Lib.hid (below_on HB7.out HB7.out.size hb8)
            have HSL8 := Lib.hid (HSL7.out.keeps hb8)
            have HG8 := Lib.hid (HG7.out.keeps hb8)
            obtain ⟨a8, c8, rfl, hs8⟩ := OwL.sl ho8
            have HSK : Hid (SlL w8 a8 c8 K) := hs8
            clear ho8 hs8 hb8 HOp
            have e3 := HG8.out.cell 3 _ rfl
            by_cases he : er = 0
            · subst he
              obtain ⟨am1, am2⟩ := HAm.out rfl
              have hrem : Int.tmod am 1000000000001 = am := Int.tmod_eq_of_lt (by omega) (by omega)
              obtain ⟨hrK, hKl, htK⟩ := HKok.out rfl
              have hKB : K.length = B.length := hKl.trans HLB.out
              have hne : ((K.length : Int) != (B.length : Int)) = false := by simp; omega
              have HRi := Lib.hid (bright_any w8 a8 c8 K HSK.out true hrK)
              have HRK := Lib.hid hrK; have HKB := Lib.hid hKB; have HTK := Lib.hid htK
              have K16 : K.length ≤ 16 := by omega
              clear hrK hKl htK hKB HKok HKnil HAm
              go_wp2_with fail
              refine HRi.out.mono ?_
              rintro e w9 ⟨rfl, hb9⟩
              have HB9 := Lib.hid (below_on HB8.out HB8.out.size hb9)
              have HSK9 := Lib.hid (HSK.out.keeps hb9)
              have HTo := Lib.hid (total_any w9 a8 c8 K HSK9.out HRK.out)
              rw [HTK.out] at HTo
              clear hb9 HRi
              go_wp2_with fail
              refine HTo.out.mono ?_
              rintro e w10 ⟨rfl, hb10⟩
              have HB10 := Lib.hid (below_on HB9.out HB9.out.size hb10)
              have HSK10 := Lib.hid (HSK9.out.keeps hb10)
              clear hb10 HTo
              go_wp2
              go_loopw [134] (fun i wr => ∃ j : Nat, j ≤ K.length ∧ i = .int .i64 j ∧ Below w10.heap.size w10 wr) (fun i _ => K.length - (intOf i).toNat)
              case atStart => exact ⟨0, by omega, rfl, Below.refl _ _⟩
              case round =>
                obtain ⟨j, hj, rfl, hbj⟩ := hrel
                by_cases hjl : j < K.length
                · obtain ⟨⟨b, p, x, y⟩, ht⟩ : ∃ t, K[j]? = some t := ⟨_, List.getElem?_eq_getElem hjl⟩
                  have hok := okLn_true (List.all_eq_true.1 (rightL_true HRK.out).2.2 _ (List.mem_of_getElem? ht))
                  obtain ⟨⟨b0, b1⟩, ⟨p0, p1⟩, ⟨x0, x1⟩, ⟨y0, y1⟩, hc⟩ := hok
                  replace b0 : 0 ≤ b := b0; replace b1 : b ≤ 1000000000000 := b1; replace p0 : 0 ≤ p := p0; replace p1 : p ≤ 10000 := p1
                  replace x0 : 0 ≤ x := x0; replace x1 : x ≤ 1000000000000 := x1; replace y0 : 0 ≤ y := y0; replace y1 : y ≤ 1000000000000 := y1
                  replace hc : x + y ≤ capS b p := hc
                  have hcb := (cap_in b0 b1 p0 p1).2
                  have HX := Lib.hid (fun W => rcross_any (x + y) 10000 b p (by omega) (by omega) (by decide) (by decide) (by omega) (by omega) (by omega) (by omega) W)
                  have hq := cross_le hc
                  obtain ⟨q, hqe⟩ : ∃ q, cmpI ((x + y) * 10000) (b * p) = q := ⟨_, rfl⟩
                  rw [hqe] at HX hq
                  have q0 : ¬ 0 < q := by omega
                  have x0' : ¬ x < 0 := by omega
                  have y0' : ¬ y < 0 := by omega
                  have s0' : ¬ b < x + y := by omega
                  have HT := Lib.hid ht
                  have hwK := HSK10.out.keeps hbj
                  have HBb := Lib.hid (hbj.alloc hbj.size (.cells #[.int .i64 b, .int .i64 p, .int .i64 x, .int .i64 y] 33))
                  clear ht hc hcb hq hqe
                  go_wp2_with (first | (refine ix_ln rfl _ _ rfl a8 c8 K hwK rfl j _ HT.out rfl ?_; intro bb off k0 k1 k2 k3) | fail)
                  refine (HX.out _).mono ?_
                  rintro e w12 ⟨rfl, hb12⟩
                  have HBc := Lib.hid (below_on HBb.out HBb.out.size hb12)
                  clear hb12 k0 k1 k2 k3 hwK
                  go_wp2
                  go_roundw
                  · exact ⟨j + 1, by omega, by go_num, HBc.out⟩
                  · simp [intOf]; omega
                · obtain rfl : j = K.length := by omega
                  go_wp2
                  go_roundw
                  · exact ⟨k + 1, K, a8, c8, by omega, by go_num, rfl, HSK10.out.keeps hbj, HRK.out, HKB.out, below_on HB10.out HB10.out.size hbj⟩
                  · simp [intOf]; omega
            · obtain rfl := HKnil.out he
              clear HKnil HKok
              go_wp2
              go_roundw
              · exact ⟨k + 1, L, a, c, by omega, by go_num, rfl, HSL8.out, HRL.out, HLB.out, HB8.out⟩
              · simp [intOf]; omega
          · by_cases d2 : kd = 2
            · subst d2
              clear d0 d1
              obtain ⟨q, hq⟩ : ∃ q, inspS L at_ am = q := ⟨_, rfl⟩
              have HOp := Lib.hid (binsp_any w7 a c L HSL7.out at_ am q hq)
              obtain ⟨K, er⟩ := q
              have HKok : Hid (er = 0 → rightL K = true ∧ K.length = L.length ∧ totS K = z) := fun e => by subst e; rw [← HZ.out]; exact insp_keeps hq
              have HKnil : Hid (¬ er = 0 → K = []) := fun e => by have := inspS_nil (L := L) (k := at_) (a := am) (by rw [hq]; exact e); rw [hq] at this; exact this
              clear hq
              go_wp2_with fail
              refine HOp.out.mono ?_
              rintro e w8 ⟨v8, rfl, ho8, hb8⟩
              have HB8 := Lib.hid (below_on HB7.out HB7.out.size hb8)
              have HSL8 := Lib.hid (HSL7.out.keeps hb8)
              have HG8 := Lib.hid (HG7.out.keeps hb8)
              obtain ⟨a8, c8, rfl, hs8⟩ := OwL.sl ho8
              have HSK : Hid (SlL w8 a8 c8 K) := hs8
              clear ho8 hs8 hb8 HOp
              by_cases he : er = 0
              · subst he
                obtain ⟨hrK, hKl, htK⟩ := HKok.out rfl
                have hKB : K.length = B.length := hKl.trans HLB.out
                have hne : ((K.length : Int) != (B.length : Int)) = false := by simp; omega
                have HRi := Lib.hid (bright_any w8 a8 c8 K HSK.out true hrK)
                have HRK := Lib.hid hrK; have HKB := Lib.hid hKB; have HTK := Lib.hid htK
                have K16 : K.length ≤ 16 := by omega
                clear hrK hKl htK hKB HKok HKnil
                go_wp2_with fail
                refine HRi.out.mono ?_
                rintro e w9 ⟨rfl, hb9⟩
                have HB9 := Lib.hid (below_on HB8.out HB8.out.size hb9)
                have HSK9 := Lib.hid (HSK.out.keeps hb9)
                have HTo := Lib.hid (total_any w9 a8 c8 K HSK9.out HRK.out)
                rw [HTK.out] at HTo
                clear hb9 HRi
                go_wp2_with fail
                refine HTo.out.mono ?_
                rintro e w10 ⟨rfl, hb10⟩
                have HB10 := Lib.hid (below_on HB9.out HB9.out.size hb10)
                have HSK10 := Lib.hid (HSK9.out.keeps hb10)
                clear hb10 HTo
                go_wp2
                go_loopw [134] (fun i wr => ∃ j : Nat, j ≤ K.length ∧ i = .int .i64 j ∧ Below w10.heap.size w10 wr) (fun i _ => K.length - (intOf i).toNat)
                case atStart => exact ⟨0, by omega, rfl, Below.refl _ _⟩
                case round =>
                  obtain ⟨j, hj, rfl, hbj⟩ := hrel
                  by_cases hjl : j < K.length
                  · obtain ⟨⟨b, p, x, y⟩, ht⟩ : ∃ t, K[j]? = some t := ⟨_, List.getElem?_eq_getElem hjl⟩
                    have hok := okLn_true (List.all_eq_true.1 (rightL_true HRK.out).2.2 _ (List.mem_of_getElem? ht))
                    obtain ⟨⟨b0, b1⟩, ⟨p0, p1⟩, ⟨x0, x1⟩, ⟨y0, y1⟩, hc⟩ := hok
                    replace b0 : 0 ≤ b := b0; replace b1 : b ≤ 1000000000000 := b1; replace p0 : 0 ≤ p := p0; replace p1 : p ≤ 10000 := p1
                    replace x0 : 0 ≤ x := x0; replace x1 : x ≤ 1000000000000 := x1; replace y0 : 0 ≤ y := y0; replace y1 : y ≤ 1000000000000 := y1
                    replace hc : x + y ≤ capS b p := hc
                    have hcb := (cap_in b0 b1 p0 p1).2
                    have HX := Lib.hid (fun W => rcross_any (x + y) 10000 b p (by omega) (by omega) (by decide) (by decide) (by omega) (by omega) (by omega) (by omega) W)
                    have hq := cross_le hc
                    obtain ⟨q, hqe⟩ : ∃ q, cmpI ((x + y) * 10000) (b * p) = q := ⟨_, rfl⟩
                    rw [hqe] at HX hq
                    have q0 : ¬ 0 < q := by omega
                    have x0' : ¬ x < 0 := by omega
                    have y0' : ¬ y < 0 := by omega
                    have s0' : ¬ b < x + y := by omega
                    have HT := Lib.hid ht
                    have hwK := HSK10.out.keeps hbj
                    have HBb := Lib.hid (hbj.alloc hbj.size (.cells #[.int .i64 b, .int .i64 p, .int .i64 x, .int .i64 y] 33))
                    clear ht hc hcb hq hqe
                    go_wp2_with (first | (refine ix_ln rfl _ _ rfl a8 c8 K hwK rfl j _ HT.out rfl ?_; intro bb off k0 k1 k2 k3) | fail)
                    refine (HX.out _).mono ?_
                    rintro e w12 ⟨rfl, hb12⟩
                    have HBc := Lib.hid (below_on HBb.out HBb.out.size hb12)
                    clear hb12 k0 k1 k2 k3 hwK
                    go_wp2
                    go_roundw
                    · exact ⟨j + 1, by omega, by go_num, HBc.out⟩
                    · simp [intOf]; omega
                  · obtain rfl : j = K.length := by omega
                    go_wp2
                    go_roundw
                    · exact ⟨k + 1, K, a8, c8, by omega, by go_num, rfl, HSK10.out.keeps hbj, HRK.out, HKB.out, below_on HB10.out HB10.out.size hbj⟩
                    · simp [intOf]; omega
              · obtain rfl := HKnil.out he
                clear HKnil HKok
                go_wp2
                go_roundw
                · exact ⟨k + 1, L, a, c, by omega, by go_num, rfl, HSL8.out, HRL.out, HLB.out, HB8.out⟩
                · simp [intOf]; omega
            · by_cases d3 : kd = 3
              · subst d3
                clear d0 d1 d2
                obtain ⟨q, hq⟩ : ∃ q, payS L at_ am bm = q := ⟨_, rfl⟩
                have HOp := Lib.hid (bpay_any w7 a c L HSL7.out at_ am bm q hq)
                obtain ⟨K, er⟩ := q
                have HKok : Hid (er = 0 → rightL K = true ∧ K.length = L.length ∧ totS K = z) := fun e => by subst e; rw [← HZ.out]; exact pay_keeps hq
                have HKnil : Hid (¬ er = 0 → K = []) := fun e => by have := payS_nil (L := L) (k := at_) (a := am) (c := bm) (by rw [hq]; exact e); rw [hq] at this; exact this
                clear hq
                go_wp2_with fail
                refine HOp.out.mono ?_
                rintro e w8 ⟨v8, rfl, ho8, hb8⟩
                have HB8 := Lib.hid (below_on HB7.out HB7.out.size hb8)
                have HSL8 := Lib.hid (HSL7.out.keeps hb8)
                have HG8 := Lib.hid (HG7.out.keeps hb8)
                obtain ⟨a8, c8, rfl, hs8⟩ := OwL.sl ho8
                have HSK : Hid (SlL w8 a8 c8 K) := hs8
                clear ho8 hs8 hb8 HOp
                by_cases he : er = 0
                · subst he
                  obtain ⟨hrK, hKl, htK⟩ := HKok.out rfl
                  have hKB : K.length = B.length := hKl.trans HLB.out
                  have hne : ((K.length : Int) != (B.length : Int)) = false := by simp; omega
                  have HRi := Lib.hid (bright_any w8 a8 c8 K HSK.out true hrK)
                  have HRK := Lib.hid hrK; have HKB := Lib.hid hKB; have HTK := Lib.hid htK
                  have K16 : K.length ≤ 16 := by omega
                  clear hrK hKl htK hKB HKok HKnil
                  go_wp2_with fail
                  refine HRi.out.mono ?_
                  rintro e w9 ⟨rfl, hb9⟩
                  have HB9 := Lib.hid (below_on HB8.out HB8.out.size hb9)
                  have HSK9 := Lib.hid (HSK.out.keeps hb9)
                  have HTo := Lib.hid (total_any w9 a8 c8 K HSK9.out HRK.out)
                  rw [HTK.out] at HTo
                  clear hb9 HRi
                  go_wp2_with fail
                  refine HTo.out.mono ?_
                  rintro e w10 ⟨rfl, hb10⟩
                  have HB10 := Lib.hid (below_on HB9.out HB9.out.size hb10)
                  have HSK10 := Lib.hid (HSK9.out.keeps hb10)
                  clear hb10 HTo
                  go_wp2
                  go_loopw [134] (fun i wr => ∃ j : Nat, j ≤ K.length ∧ i = .int .i64 j ∧ Below w10.heap.size w10 wr) (fun i _ => K.length - (intOf i).toNat)
                  case atStart => exact ⟨0, by omega, rfl, Below.refl _ _⟩
                  case round =>
                    obtain ⟨j, hj, rfl, hbj⟩ := hrel
                    by_cases hjl : j < K.length
                    · obtain ⟨⟨b, p, x, y⟩, ht⟩ : ∃ t, K[j]? = some t := ⟨_, List.getElem?_eq_getElem hjl⟩
                      have hok := okLn_true (List.all_eq_true.1 (rightL_true HRK.out).2.2 _ (List.mem_of_getElem? ht))
                      obtain ⟨⟨b0, b1⟩, ⟨p0, p1⟩, ⟨x0, x1⟩, ⟨y0, y1⟩, hc⟩ := hok
                      replace b0 : 0 ≤ b := b0; replace b1 : b ≤ 1000000000000 := b1; replace p0 : 0 ≤ p := p0; replace p1 : p ≤ 10000 := p1
                      replace x0 : 0 ≤ x := x0; replace x1 : x ≤ 1000000000000 := x1; replace y0 : 0 ≤ y := y0; replace y1 : y ≤ 1000000000000 := y1
                      replace hc : x + y ≤ capS b p := hc
                      have hcb := (cap_in b0 b1 p0 p1).2
                      have HX := Lib.hid (fun W => rcross_any (x + y) 10000 b p (by omega) (by omega) (by decide) (by decide) (by omega) (by omega) (by omega) (by omega) W)
                      have hq := cross_le hc
                      obtain ⟨q, hqe⟩ : ∃ q, cmpI ((x + y) * 10000) (b * p) = q := ⟨_, rfl⟩
                      rw [hqe] at HX hq
                      have q0 : ¬ 0 < q := by omega
                      have x0' : ¬ x < 0 := by omega
                      have y0' : ¬ y < 0 := by omega
                      have s0' : ¬ b < x + y := by omega
                      have HT := Lib.hid ht
                      have hwK := HSK10.out.keeps hbj
                      have HBb := Lib.hid (hbj.alloc hbj.size (.cells #[.int .i64 b, .int .i64 p, .int .i64 x, .int .i64 y] 33))
                      clear ht hc hcb hq hqe
                      go_wp2_with (first | (refine ix_ln rfl _ _ rfl a8 c8 K hwK rfl j _ HT.out rfl ?_; intro bb off k0 k1 k2 k3) | fail)
                      refine (HX.out _).mono ?_
                      rintro e w12 ⟨rfl, hb12⟩
                      have HBc := Lib.hid (below_on HBb.out HBb.out.size hb12)
                      clear hb12 k0 k1 k2 k3 hwK
                      go_wp2
                      go_roundw
                      · exact ⟨j + 1, by omega, by go_num, HBc.out⟩
                      · simp [intOf]; omega
                    · obtain rfl : j = K.length := by omega
                      go_wp2
                      go_roundw
                      · exact ⟨k + 1, K, a8, c8, by omega, by go_num, rfl, HSK10.out.keeps hbj, HRK.out, HKB.out, below_on HB10.out HB10.out.size hbj⟩
                      · simp [intOf]; omega
                · obtain rfl := HKnil.out he
                  clear HKnil HKok
                  go_wp2
                  go_roundw
                  · exact ⟨k + 1, L, a, c, by omega, by go_num, rfl, HSL8.out, HRL.out, HLB.out, HB8.out⟩
                  · simp [intOf]; omega
              · by_cases d4 : kd = 4
                · subst d4
                  clear d0 d1 d2 d3
                  obtain ⟨q, hq⟩ : ∃ q, relS L at_ = q := ⟨_, rfl⟩
                  have HOp := Lib.hid (brel_any w7 a c L HSL7.out at_ q hq)
                  obtain ⟨K, hd, er⟩ := q
                  have HKok : Hid (er = 0 → rightL K = true ∧ K.length = L.length ∧ totS K = z) := fun e => by subst e; rw [← HZ.out]; exact rel_keeps hq
                  have HKnil : Hid (¬ er = 0 → K = []) := fun e => by have := relS_nil (L := L) (k := at_) (by rw [hq]; exact e); rw [hq] at this; exact this
                  clear hq
                  go_wp2_with fail
                  refine HOp.out.mono ?_
                  rintro e w8 ⟨v8, rfl, ho8, hb8⟩
                  have HB8 := Lib.hid (below_on HB7.out HB7.out.size hb8)
                  have HSL8 := Lib.hid (HSL7.out.keeps hb8)
                  have HG8 := Lib.hid (HG7.out.keeps hb8)
                  obtain ⟨a8, c8, rfl, hs8⟩ := OwL.sl ho8
                  have HSK : Hid (SlL w8 a8 c8 K) := hs8
                  clear ho8 hs8 hb8 HOp
                  by_cases he : er = 0
                  · subst he
                    obtain ⟨hrK, hKl, htK⟩ := HKok.out rfl
                    have hKB : K.length = B.length := hKl.trans HLB.out
                    have hne : ((K.length : Int) != (B.length : Int)) = false := by simp; omega
                    have HRi := Lib.hid (bright_any w8 a8 c8 K HSK.out true hrK)
                    have HRK := Lib.hid hrK; have HKB := Lib.hid hKB; have HTK := Lib.hid htK
                    have K16 : K.length ≤ 16 := by omega
                    clear hrK hKl htK hKB HKok HKnil
                    go_wp2_with fail
                    refine HRi.out.mono ?_
                    rintro e w9 ⟨rfl, hb9⟩
                    have HB9 := Lib.hid (below_on HB8.out HB8.out.size hb9)
                    have HSK9 := Lib.hid (HSK.out.keeps hb9)
                    have HTo := Lib.hid (total_any w9 a8 c8 K HSK9.out HRK.out)
                    rw [HTK.out] at HTo
                    clear hb9 HRi
                    go_wp2_with fail
                    refine HTo.out.mono ?_
                    rintro e w10 ⟨rfl, hb10⟩
                    have HB10 := Lib.hid (below_on HB9.out HB9.out.size hb10)
                    have HSK10 := Lib.hid (HSK9.out.keeps hb10)
                    clear hb10 HTo
                    go_wp2
                    go_loopw [134] (fun i wr => ∃ j : Nat, j ≤ K.length ∧ i = .int .i64 j ∧ Below w10.heap.size w10 wr) (fun i _ => K.length - (intOf i).toNat)
                    case atStart => exact ⟨0, by omega, rfl, Below.refl _ _⟩
                    case round =>
                      obtain ⟨j, hj, rfl, hbj⟩ := hrel
                      by_cases hjl : j < K.length
                      · obtain ⟨⟨b, p, x, y⟩, ht⟩ : ∃ t, K[j]? = some t := ⟨_, List.getElem?_eq_getElem hjl⟩
                        have hok := okLn_true (List.all_eq_true.1 (rightL_true HRK.out).2.2 _ (List.mem_of_getElem? ht))
                        obtain ⟨⟨b0, b1⟩, ⟨p0, p1⟩, ⟨x0, x1⟩, ⟨y0, y1⟩, hc⟩ := hok
                        replace b0 : 0 ≤ b := b0; replace b1 : b ≤ 1000000000000 := b1; replace p0 : 0 ≤ p := p0; replace p1 : p ≤ 10000 := p1
                        replace x0 : 0 ≤ x := x0; replace x1 : x ≤ 1000000000000 := x1; replace y0 : 0 ≤ y := y0; replace y1 : y ≤ 1000000000000 := y1
                        replace hc : x + y ≤ capS b p := hc
                        have hcb := (cap_in b0 b1 p0 p1).2
                        have HX := Lib.hid (fun W => rcross_any (x + y) 10000 b p (by omega) (by omega) (by decide) (by decide) (by omega) (by omega) (by omega) (by omega) W)
                        have hq := cross_le hc
                        obtain ⟨q, hqe⟩ : ∃ q, cmpI ((x + y) * 10000) (b * p) = q := ⟨_, rfl⟩
                        rw [hqe] at HX hq
                        have q0 : ¬ 0 < q := by omega
                        have x0' : ¬ x < 0 := by omega
                        have y0' : ¬ y < 0 := by omega
                        have s0' : ¬ b < x + y := by omega
                        have HT := Lib.hid ht
                        have hwK := HSK10.out.keeps hbj
                        have HBb := Lib.hid (hbj.alloc hbj.size (.cells #[.int .i64 b, .int .i64 p, .int .i64 x, .int .i64 y] 33))
                        clear ht hc hcb hq hqe
                        go_wp2_with (first | (refine ix_ln rfl _ _ rfl a8 c8 K hwK rfl j _ HT.out rfl ?_; intro bb off k0 k1 k2 k3) | fail)
                        refine (HX.out _).mono ?_
                        rintro e w12 ⟨rfl, hb12⟩
                        have HBc := Lib.hid (below_on HBb.out HBb.out.size hb12)
                        clear hb12 k0 k1 k2 k3 hwK
                        go_wp2
                        go_roundw
                        · exact ⟨j + 1, by omega, by go_num, HBc.out⟩
                        · simp [intOf]; omega
                      · obtain rfl : j = K.length := by omega
                        go_wp2
                        go_roundw
                        · exact ⟨k + 1, K, a8, c8, by omega, by go_num, rfl, HSK10.out.keeps hbj, HRK.out, HKB.out, below_on HB10.out HB10.out.size hbj⟩
                        · simp [intOf]; omega
                  · obtain rfl := HKnil.out he
                    clear HKnil HKok
                    go_wp2
                    go_roundw
                    · exact ⟨k + 1, L, a, c, by omega, by go_num, rfl, HSL8.out, HRL.out, HLB.out, HB8.out⟩
                    · simp [intOf]; omega
                · skip
                  clear e1 e2 e3 e4
                  obtain ⟨hrK, hKl, htK⟩ : rightL L = true ∧ L.length = L.length ∧ totS L = z := ⟨HRL.out, rfl, HZ.out⟩
                  have hKB : L.length = B.length := hKl.trans HLB.out
                  have hne : ((L.length : Int) != (B.length : Int)) = false := by simp; omega
                  have HRi := Lib.hid (bright_any w7 a c L HSL7.out true hrK)
                  have HRK := Lib.hid hrK; have HKB := Lib.hid hKB; have HTK := Lib.hid htK
                  have K16 : L.length ≤ 16 := by omega
                  clear hrK hKl htK hKB
                  go_wp2_with fail
                  refine HRi.out.mono ?_
                  rintro e w9 ⟨rfl, hb9⟩
                  have HB9 := Lib.hid (below_on HB7.out HB7.out.size hb9)
                  have HSK9 := Lib.hid (HSL7.out.keeps hb9)
                  have HTo := Lib.hid (total_any w9 a c L HSK9.out HRK.out)
                  rw [HTK.out] at HTo
                  clear hb9 HRi
                  go_wp2_with fail
                  refine HTo.out.mono ?_
                  rintro e w10 ⟨rfl, hb10⟩
                  have HB10 := Lib.hid (below_on HB9.out HB9.out.size hb10)
                  have HSK10 := Lib.hid (HSK9.out.keeps hb10)
                  clear hb10 HTo
                  go_wp2
                  go_loopw [134] (fun i wr => ∃ j : Nat, j ≤ L.length ∧ i = .int .i64 j ∧ Below w10.heap.size w10 wr) (fun i _ => L.length - (intOf i).toNat)
                  case atStart => exact ⟨0, by omega, rfl, Below.refl _ _⟩
                  case round =>
                    obtain ⟨j, hj, rfl, hbj⟩ := hrel
                    by_cases hjl : j < L.length
                    · obtain ⟨⟨b, p, x, y⟩, ht⟩ : ∃ t, L[j]? = some t := ⟨_, List.getElem?_eq_getElem hjl⟩
                      have hok := okLn_true (List.all_eq_true.1 (rightL_true HRK.out).2.2 _ (List.mem_of_getElem? ht))
                      obtain ⟨⟨b0, b1⟩, ⟨p0, p1⟩, ⟨x0, x1⟩, ⟨y0, y1⟩, hc⟩ := hok
                      replace b0 : 0 ≤ b := b0; replace b1 : b ≤ 1000000000000 := b1; replace p0 : 0 ≤ p := p0; replace p1 : p ≤ 10000 := p1
                      replace x0 : 0 ≤ x := x0; replace x1 : x ≤ 1000000000000 := x1; replace y0 : 0 ≤ y := y0; replace y1 : y ≤ 1000000000000 := y1
                      replace hc : x + y ≤ capS b p := hc
                      have hcb := (cap_in b0 b1 p0 p1).2
                      have HX := Lib.hid (fun W => rcross_any (x + y) 10000 b p (by omega) (by omega) (by decide) (by decide) (by omega) (by omega) (by omega) (by omega) W)
                      have hq := cross_le hc
                      obtain ⟨q, hqe⟩ : ∃ q, cmpI ((x + y) * 10000) (b * p) = q := ⟨_, rfl⟩
                      rw [hqe] at HX hq
                      have q0 : ¬ 0 < q := by omega
                      have x0' : ¬ x < 0 := by omega
                      have y0' : ¬ y < 0 := by omega
                      have s0' : ¬ b < x + y := by omega
                      have HT := Lib.hid ht
                      have hwK := HSK10.out.keeps hbj
                      have HBb := Lib.hid (hbj.alloc hbj.size (.cells #[.int .i64 b, .int .i64 p, .int .i64 x, .int .i64 y] 33))
                      clear ht hc hcb hq hqe
                      go_wp2_with (first | (refine ix_ln rfl _ _ rfl a c L hwK rfl j _ HT.out rfl ?_; intro bb off k0 k1 k2 k3) | fail)
                      refine (HX.out _).mono ?_
                      rintro e w12 ⟨rfl, hb12⟩
                      have HBc := Lib.hid (below_on HBb.out HBb.out.size hb12)
                      clear hb12 k0 k1 k2 k3 hwK
                      go_wp2
                      go_roundw
                      · exact ⟨j + 1, by omega, by go_num, HBc.out⟩
                      · simp [intOf]; omega
                    · obtain rfl : j = L.length := by omega
                      go_wp2
                      go_roundw
                      · exact ⟨k + 1, L, a, c, by omega, by go_num, rfl, HSK10.out.keeps hbj, HRK.out, HKB.out, below_on HB10.out HB10.out.size hbj⟩
                      · simp [intOf]; omega
      · obtain rfl : k = A.length := by omega
        go_wp2
        go_ret
        exact ⟨rfl, hb⟩
  · obtain rfl : L0 = [] := HNil.out hse
    clear HOK HNil hs2
    go_wp2
    go_ret
    exact ⟨rfl, HB2.out⟩
set_option maxRecDepth 8000 in
theorem budgetStays_law (ao : Option Addr) (cap : Nat) (B : List Int) (wB : ∀ x ∈ B, (Lit.int .i64 x).wf = true) (co : Option Addr) (cap2 : Nat) (A : List Ac) (w : World) (h : Sl w ao B.length cap (ic B)) (hA : SlA w co cap2 A) :
    Calls Try.prog 7 #[.slice ao B.length cap, .slice co A.length cap2] w fun e w' => e = .returned (.bool true) ∧ Below w.heap.size w w' := by
  by_cases hl : B.length ≤ 16 ∧ A.length ≤ 40
  · exact stays_core ao cap B co cap2 A w h hA hl.1 hl.2
  · have HAl := Lib.hid (fun W => balive_any W)
    by_cases hl1 : B.length ≤ 16
    · have h16 : ¬ (16 : Int) < B.length := by omega
      have h40 : (40 : Int) < A.length := by omega
      clear h wB hA hl hl1
      go_enter Try.func7, Try.ntmps7
      go_wp2_with fail
      refine (HAl.out _).mono ?_
      rintro e w1 ⟨rfl, hb1⟩
      go_wp2
      go_ret
      exact ⟨rfl, hb1⟩
    · have h16 : (16 : Int) < B.length := by omega
      clear h wB hA hl hl1
      go_enter Try.func7, Try.ntmps7
      go_wp2_with fail
      refine (HAl.out _).mono ?_
      rintro e w1 ⟨rfl, hb1⟩
      go_wp2
      go_ret
      exact ⟨rfl, hb1⟩
end Go.Proofs.Ytdiejmokbmaejaa
