/-
  Commands as cells; the walks of command.values, empty, Right.
-/
import Derived.Test.YtdkcccigmejikaaCmA
set_option linter.unusedVariables false
set_option linter.unusedSimpArgs false
set_option maxRecDepth 20000
namespace Go.Proofs.Ytdkcccigmejikaa
open Go.RowKit

/-- A command: kind, loan, two numbers, two amounts; an opening's lines and numbers; figures. -/
structure Cm where
  (k lo a b n p : Int)
  (L : List Int)
  (x0 x1 x2 x3 x4 x5 x6 x7 x8 x9 x10 : Int)
  (f0 f1 f2 f3 f4 : Int)
def Cm.N (c : Cm) : List Int := [c.x0, c.x1, c.x2, c.x3, c.x4, c.x5, c.x6, c.x7, c.x8, c.x9, c.x10]
def Cm.F (c : Cm) : List Int := [c.f0, c.f1, c.f2, c.f3, c.f4]
def Cm.H (c : Cm) : List Int := [c.k, c.lo, c.a, c.b, c.n, c.p]
/-- Its cells, the lines as a slice's value. -/
def Cm.C (c : Cm) (v : Value) : List Value := [.int .i64 c.k, .int .i64 c.lo, .int .i64 c.a, .int .i64 c.b, .int .i64 c.n, .int .i64 c.p, v, .int .i64 c.x0, .int .i64 c.x1, .int .i64 c.x2, .int .i64 c.x3, .int .i64 c.x4, .int .i64 c.x5, .int .i64 c.x6, .int .i64 c.x7, .int .i64 c.x8, .int .i64 c.x9, .int .i64 c.x10, .int .i64 c.f0, .int .i64 c.f1, .int .i64 c.f2, .int .i64 c.f3, .int .i64 c.f4]
theorem ptrs_at (g o : Nat) : ∀ (k : Nat), k < 11 → (ptrs g o)[k]? = some (.pointer (some ⟨g, o + (k + 1), none⟩))
  | 0, _ => rfl | 1, _ => rfl | 2, _ => rfl | 3, _ => rfl | 4, _ => rfl | 5, _ => rfl | 6, _ => rfl | 7, _ => rfl | 8, _ => rfl | 9, _ => rfl | 10, _ => rfl
  | n + 11, h => by omega
theorem nums_of {w : World} {g T o : Nat} {C R : List Value} {N : List Int} (h : Blk w g T C) (hC : C.drop (o + 1) = ic N ++ R) : ∀ j x, N[j]? = some x → w.cell? ⟨g, o + (j + 1), none⟩ = some (.int .i64 x) := by
  intro j x hx
  refine h.cell _ _ ?_
  have h1 : (C.drop (o + 1))[j]? = some (.int .i64 x) := by
    rw [hC, List.getElem?_append_left (by rw [ic_len]; exact (List.getElem?_eq_some_iff.1 hx).1)]; exact ic_at hx
  rw [List.getElem?_drop] at h1
  rw [show o + (j + 1) = o + 1 + j by omega]; exact h1
theorem sl_ptrs {w : World} {q g o : Nat} (h : Blk w q 91 (ptrs g o)) : Sl w (some ⟨q, 0, none⟩) 11 11 (ptrs g o) :=
  ⟨rfl, Nat.le_refl _, by simp, fun _ => ⟨_, _, rfl, fun j u hu => by rw [Nat.zero_add]; exact h.cell j u hu⟩⟩
set_option maxHeartbeats 1600000 in
theorem values_any (w : World) (q g o : Nat) (N : List Int) (hq : Blk w q 91 (ptrs g o)) (hN : ∀ j x, N[j]? = some x → w.cell? ⟨g, o + (j + 1), none⟩ = some (.int .i64 x)) (hl : N.length = 11) :
    Calls Try.prog 35 #[.slice (some ⟨q, 0, none⟩) 11 11] w fun e w' => ∃ v', e = .returned v' ∧ OwI w' w.heap.size v' N ∧ Below w.heap.size w w' := by
  have HQ := Lib.hid (sl_ptrs hq)
  have HN := Lib.hid hN
  have HL := Lib.hid hl
  clear hq hN hl
  go_enter Try.func35, Try.ntmps35
  go_wp2
  go_loopw [3, 8] (fun u i wr => ∃ k : Nat, k ≤ 11 ∧ i = .int .i64 k ∧ Hid (OwI wr w.heap.size u (N.take k)) ∧ Below w.heap.size w wr) (fun _ i _ => 11 - (intOf i).toNat)
  case atStart => exact ⟨0, by omega, rfl, owi_nil _ _, Below.refl _ _⟩
  case round =>
    obtain ⟨k, hk, rfl, HO, hb⟩ := hrel
    by_cases hkl : k < 11
    · obtain ⟨x, hx⟩ : ∃ x, N[k]? = some x := ⟨_, List.getElem?_eq_getElem (by rw [HL.out]; exact hkl)⟩
      have HX := Lib.hid hx
      have hw := HQ.out.keeps hb
      have h0 := HN.out k x hx
      have hlt : g < w.heap.size := World.block_lt_of_cell? w _ h0
      have hc : wr.cell? ⟨g, o + (k + 1), none⟩ = some (.int .i64 x) := by rw [World.cell?_of_block (hb.block g hlt)]; exact h0
      have HB1 := Lib.hid (hb.alloc hb.size (.cells #[.int .i64 x] 2))
      have HO1 := Lib.hid (owi_kp HO.out (below_new1 wr (.cells #[.int .i64 x] 2)))
      have HSL := Lib.hid (sl_i1 wr x)
      obtain ⟨M, hM⟩ : ∃ M, N.take k = M := ⟨_, rfl⟩
      have HT : Hid (N.take (k + 1) = M ++ [x]) := by
        show _ = _
        obtain ⟨hk2, e⟩ := List.getElem?_eq_some_iff.1 hx
        rw [List.take_succ_eq_append_getElem hk2, hM, e]
      have HML : Hid (M.length ≤ 11) := by show _ ≤ _; rw [← hM, List.length_take]; omega
      rw [hM] at HO1
      clear hx hM HO hb h0 hlt
      go_wp2_with (first | (refine wpList_ix_sl rfl 71 91 _ _ rfl Try.underlying71 size_ptr (some ⟨q, 0, none⟩) 11 11 rfl (ptrs g o) hw k hkl rfl ?_; intro b off u hu hcell; obtain rfl : u = .pointer (some ⟨g, o + (k + 1), none⟩) := by (rw [ptrs_at g o k hkl] at hu; exact (Option.some.inj hu).symm)) | (refine ap_i rfl _ _ rfl w.heap.size _ rfl M ?_ _ 1 [x] rfl ?_ ?_ ?_ ?_))
      · exact HO1.out
      · exact HSL.out
      · have := HML.out; simp; omega
      · exact (by simpa using HB1.out.size)
      intro v' w' h1 h2 h3
      have HBn := Lib.hid (below_grownI HO1.out h2 (Nat.le_refl _) (Nat.le_refl _) HB1.out)
      have HOn := Lib.hid h1
      clear h1 h2 h3
      go_wp2
      go_roundw
      · exact ⟨k + 1, by omega, by go_num, by rw [HT.out]; exact HOn, HBn.out⟩
      · simp [intOf]; omega
    · obtain rfl : k = 11 := by omega
      have HE : Hid (N.take 11 = N) := by show _ = _; rw [← HL.out, List.take_length]
      rw [HE.out] at HO
      go_wp2
      go_ret
      exact ⟨_, rfl, HO.out, hb⟩
/-- Has an opening nothing? -/
def emptyS (L N : List Int) : Bool := decide (L.length = 0) && !N.any isnz
set_option maxHeartbeats 1600000 in
theorem cempty_any (w : World) (ao : Option Addr) (cap : Nat) (L : List Int) (x0 x1 x2 x3 x4 x5 x6 x7 x8 x9 x10 : Int) (v : Bool) (hv : emptyS L [x0, x1, x2, x3, x4, x5, x6, x7, x8, x9, x10] = v) :
    Calls Try.prog 39 #[.agg #[.slice ao L.length cap, .int .i64 x0, .int .i64 x1, .int .i64 x2, .int .i64 x3, .int .i64 x4, .int .i64 x5, .int .i64 x6, .int .i64 x7, .int .i64 x8, .int .i64 x9, .int .i64 x10]] w fun e w' => e = .returned (.bool v) ∧ Below w.heap.size w w' := by
  have HB0 := Lib.hid (below_new1 w (.cells #[.slice ao L.length cap, .int .i64 x0, .int .i64 x1, .int .i64 x2, .int .i64 x3, .int .i64 x4, .int .i64 x5, .int .i64 x6, .int .i64 x7, .int .i64 x8, .int .i64 x9, .int .i64 x10] 41))
  have HG0 := Lib.hid (Blk.new w 41 [.slice ao L.length cap, .int .i64 x0, .int .i64 x1, .int .i64 x2, .int .i64 x3, .int .i64 x4, .int .i64 x5, .int .i64 x6, .int .i64 x7, .int .i64 x8, .int .i64 x9, .int .i64 x10])
  obtain ⟨g, hg⟩ : ∃ g, w.heap.size = g := ⟨_, rfl⟩
  have HNm := Lib.hid (fun U => numbers_any U w.heap.size 0)
  have HV := Lib.hid hv
  clear hv hg
  by_cases h0 : (L.length : Int) = 0
  · go_enter Try.func39, Try.ntmps39
    go_wp2_with fail
    refine (HNm.out _).mono ?_
    rintro e w1 ⟨q, rfl, hq, hql, hb1⟩
    have HB1 := Lib.hid (below_on HB0.out HB0.out.size hb1)
    have HG1 := Lib.hid (HG0.out.keeps hb1)
    have HVl := Lib.hid (values_any w1 q w.heap.size 0 [x0, x1, x2, x3, x4, x5, x6, x7, x8, x9, x10] hq (nums_of (R := []) HG1.out rfl) rfl)
    clear hb1 hq hql HG0 HB0 HNm
    go_wp2_with fail
    refine HVl.out.mono ?_
    rintro e w2 ⟨v2, rfl, ho2, hb2⟩
    have HB2 := Lib.hid (below_on HB1.out HB1.out.size hb2)
    obtain ⟨a2, c2, rfl, hs2⟩ := OwI.sl ho2
    obtain ⟨z, hz⟩ : ∃ z, [x0, x1, x2, x3, x4, x5, x6, x7, x8, x9, x10].any isnz = z := ⟨_, rfl⟩
    have HC := Lib.hid (nz_any w2 a2 c2 [x0, x1, x2, x3, x4, x5, x6, x7, x8, x9, x10] hs2 (by simp) z hz)
    have HF : Hid (v = !z) := by
      show _ = _
      rw [← HV.out, emptyS, hz, decide_eq_true (show L.length = 0 by omega), Bool.true_and]
    rw [show [x0, x1, x2, x3, x4, x5, x6, x7, x8, x9, x10].length = 11 from rfl] at HC
    simp only [show [x0, x1, x2, x3, x4, x5, x6, x7, x8, x9, x10].length = 11 from rfl]
    clear hb2 ho2 hs2 hz HV HVl HG1 HB1
    go_wp2_with fail
    refine HC.out.mono ?_
    rintro e w3 ⟨rfl, hb3⟩
    have HB3 := Lib.hid (below_on HB2.out HB2.out.size hb3)
    clear hb3
    cases z
    all_goals
      go_wp2
      go_ret
      exact ⟨by rw [HF.out]; rfl, HB3.out⟩
  · have HF : Hid (v = false) := by
      show _ = _
      rw [← HV.out, emptyS, decide_eq_false (show ¬ L.length = 0 by omega), Bool.false_and]
    clear HV
    have h1 : (0 : Int) < L.length := by omega
    have h2 : ((L.length : Int) == 0) = false := by simpa using h0
    have h3 : ¬ L = [] := fun e => h0 (by rw [e]; rfl)
    go_enter Try.func39, Try.ntmps39
    go_wp2
    go_ret
    exact ⟨by rw [HF.out]; rfl, HB0.out⟩
/-- Can a command be? -/
def Cm.right (c : Cm) : Bool :=
  decide (1 ≤ c.k) && decide (c.k ≤ 25) && ![c.lo, c.a, c.b].any big32 && decide (c.f0 = 0) && decide (c.f4 = 0) && (emptyS c.L c.N || (decide (c.k = 1) && decide (c.L.length ≤ 16))) && (decide (c.f1 = 0) && decide (c.f2 = 0) && decide (c.f3 = 0) || decide (c.k = 15))
theorem sl_i3 (w : World) (x y z : Int) (t : TypeId) : Sl (w.alloc (.cells #[.int .i64 x, .int .i64 y, .int .i64 z] t)) (some ⟨w.heap.size, 0, none⟩) 3 3 (ic [x, y, z]) :=
  ⟨rfl, Nat.le_refl _, by simp, fun _ => ⟨_, _, rfl, fun j u hu => by
    rw [Nat.zero_add]
    exact (Blk.new w t [.int .i64 x, .int .i64 y, .int .i64 z]).cell j u hu⟩⟩
set_option maxHeartbeats 6400000 in
theorem cright_any (w : World) (ao : Option Addr) (cap : Nat) (c : Cm) (v : Bool) (hv : c.right = v) :
    Calls Try.prog 17 #[.agg (c.C (.slice ao c.L.length cap)).toArray] w fun e w' => e = .returned (.bool v) ∧ Below w.heap.size w w' := by
  obtain ⟨k, lo, a, b, n, p, L, x0, x1, x2, x3, x4, x5, x6, x7, x8, x9, x10, f0, f1, f2, f3, f4⟩ := c
  show Calls Try.prog 17 #[.agg #[.int .i64 k, .int .i64 lo, .int .i64 a, .int .i64 b, .int .i64 n, .int .i64 p, .slice ao L.length cap, .int .i64 x0, .int .i64 x1, .int .i64 x2, .int .i64 x3, .int .i64 x4, .int .i64 x5, .int .i64 x6, .int .i64 x7, .int .i64 x8, .int .i64 x9, .int .i64 x10, .int .i64 f0, .int .i64 f1, .int .i64 f2, .int .i64 f3, .int .i64 f4]] w _
  have HB0 := Lib.hid (below_new1 w (.cells #[.int .i64 k, .int .i64 lo, .int .i64 a, .int .i64 b, .int .i64 n, .int .i64 p, .slice ao L.length cap, .int .i64 x0, .int .i64 x1, .int .i64 x2, .int .i64 x3, .int .i64 x4, .int .i64 x5, .int .i64 x6, .int .i64 x7, .int .i64 x8, .int .i64 x9, .int .i64 x10, .int .i64 f0, .int .i64 f1, .int .i64 f2, .int .i64 f3, .int .i64 f4] 45))
  have HG0 := Lib.hid (Blk.new w 45 [.int .i64 k, .int .i64 lo, .int .i64 a, .int .i64 b, .int .i64 n, .int .i64 p, .slice ao L.length cap, .int .i64 x0, .int .i64 x1, .int .i64 x2, .int .i64 x3, .int .i64 x4, .int .i64 x5, .int .i64 x6, .int .i64 x7, .int .i64 x8, .int .i64 x9, .int .i64 x10, .int .i64 f0, .int .i64 f1, .int .i64 f2, .int .i64 f3, .int .i64 f4])
  obtain ⟨s, hs⟩ : ∃ s, [lo, a, b].any big32 = s := ⟨_, rfl⟩
  obtain ⟨e, he⟩ : ∃ s, emptyS L [x0, x1, x2, x3, x4, x5, x6, x7, x8, x9, x10] = s := ⟨_, rfl⟩
  have hv2 : (decide (1 ≤ k) && decide (k ≤ 25) && !s && decide (f0 = 0) && decide (f4 = 0) && (e || (decide (k = 1) && decide (L.length ≤ 16))) && (decide (f1 = 0) && decide (f2 = 0) && decide (f3 = 0) || decide (k = 15))) = v := by
    rw [← hv, ← hs, ← he]; rfl
  have HV := Lib.hid hv2
  have HE := Lib.hid (fun U => cempty_any U ao cap L x0 x1 x2 x3 x4 x5 x6 x7 x8 x9 x10 e he)
  clear hv hv2 he
  by_cases k0 : k < 1
  · go_enter Try.func17, Try.ntmps17
    have HF : Hid (v = false) := by show _ = _; rw [← HV.out]; simp [k0] <;> omega
    clear HV
    go_wp2
    go_ret
    exact ⟨by rw [HF.out]; rfl, HB0.out⟩
  · by_cases k1 : 26 ≤ k
    · go_enter Try.func17, Try.ntmps17
      have HF : Hid (v = false) := by show _ = _; rw [← HV.out]; simp [k1] <;> omega
      clear HV
      go_wp2
      go_ret
      exact ⟨by rw [HF.out]; rfl, HB0.out⟩
    · have HB1 := Lib.hid (HB0.out.alloc HB0.out.size (.cells #[.int .i64 lo, .int .i64 a, .int .i64 b] 3))
      have HG1 := Lib.hid (HG0.out.alloc (.cells #[.int .i64 lo, .int .i64 a, .int .i64 b] 3))
      have hS := sl_i3 (w.alloc (.cells #[.int .i64 k, .int .i64 lo, .int .i64 a, .int .i64 b, .int .i64 n, .int .i64 p, .slice ao L.length cap, .int .i64 x0, .int .i64 x1, .int .i64 x2, .int .i64 x3, .int .i64 x4, .int .i64 x5, .int .i64 x6, .int .i64 x7, .int .i64 x8, .int .i64 x9, .int .i64 x10, .int .i64 f0, .int .i64 f1, .int .i64 f2, .int .i64 f3, .int .i64 f4] 45)) lo a b 3
      rw [show (w.alloc (.cells #[.int .i64 k, .int .i64 lo, .int .i64 a, .int .i64 b, .int .i64 n, .int .i64 p, .slice ao L.length cap, .int .i64 x0, .int .i64 x1, .int .i64 x2, .int .i64 x3, .int .i64 x4, .int .i64 x5, .int .i64 x6, .int .i64 x7, .int .i64 x8, .int .i64 x9, .int .i64 x10, .int .i64 f0, .int .i64 f1, .int .i64 f2, .int .i64 f3, .int .i64 f4] 45)).heap.size = w.heap.size + 1 from by simp] at hS
      have HS := Lib.hid (small_any2 _ _ 3 [lo, a, b] hS (by simp) s hs)
      clear hS hs HG0 HB0
      go_enter Try.func17, Try.ntmps17
      go_wp2_with fail
      refine HS.out.mono ?_
      rintro e9 w2 ⟨rfl, hb2⟩
      have HB2 := Lib.hid (below_on HB1.out HB1.out.size hb2)
      have HG2 := Lib.hid (HG1.out.keeps hb2)
      have c0 := HG2.out.cell 0 _ rfl
      have c1 := HG2.out.cell 1 _ rfl
      have c2 := HG2.out.cell 2 _ rfl
      have c3 := HG2.out.cell 3 _ rfl
      have c4 := HG2.out.cell 4 _ rfl
      have c5 := HG2.out.cell 5 _ rfl
      have c6 := HG2.out.cell 6 _ rfl
      have c7 := HG2.out.cell 7 _ rfl
      have c8 := HG2.out.cell 8 _ rfl
      have c9 := HG2.out.cell 9 _ rfl
      have c10 := HG2.out.cell 10 _ rfl
      have c11 := HG2.out.cell 11 _ rfl
      have c12 := HG2.out.cell 12 _ rfl
      have c13 := HG2.out.cell 13 _ rfl
      have c14 := HG2.out.cell 14 _ rfl
      have c15 := HG2.out.cell 15 _ rfl
      have c16 := HG2.out.cell 16 _ rfl
      have c17 := HG2.out.cell 17 _ rfl
      have c18 := HG2.out.cell 18 _ rfl
      have c19 := HG2.out.cell 19 _ rfl
      have c20 := HG2.out.cell 20 _ rfl
      have c21 := HG2.out.cell 21 _ rfl
      have c22 := HG2.out.cell 22 _ rfl
      clear hb2 HS HG1 HB1
      cases s with
      | true =>
        have HF : Hid (v = false) := by show _ = _; rw [← HV.out]; simp <;> omega
        clear HV
        go_wp2
        go_ret
        exact ⟨by rw [HF.out]; rfl, HB2.out⟩
      | false =>
        by_cases z0 : f0 = 0
        · subst z0
          by_cases z4 : f4 = 0
          · subst z4
            go_wp2_with fail
            refine (HE.out _).mono ?_
            rintro e9 w3 ⟨rfl, hb3⟩
            have HB3 := Lib.hid (below_on HB2.out HB2.out.size hb3)
            have HG3 := Lib.hid (HG2.out.keeps hb3)
            clear c0 c1 c2 c3 c4 c5 c6 c7 c8 c9 c10 c11 c12 c13 c14 c15 c16 c17 c18 c19 c20 c21 c22
            have c0 := HG3.out.cell 0 _ rfl
            have c1 := HG3.out.cell 1 _ rfl
            have c2 := HG3.out.cell 2 _ rfl
            have c3 := HG3.out.cell 3 _ rfl
            have c4 := HG3.out.cell 4 _ rfl
            have c5 := HG3.out.cell 5 _ rfl
            have c6 := HG3.out.cell 6 _ rfl
            have c7 := HG3.out.cell 7 _ rfl
            have c8 := HG3.out.cell 8 _ rfl
            have c9 := HG3.out.cell 9 _ rfl
            have c10 := HG3.out.cell 10 _ rfl
            have c11 := HG3.out.cell 11 _ rfl
            have c12 := HG3.out.cell 12 _ rfl
            have c13 := HG3.out.cell 13 _ rfl
            have c14 := HG3.out.cell 14 _ rfl
            have c15 := HG3.out.cell 15 _ rfl
            have c16 := HG3.out.cell 16 _ rfl
            have c17 := HG3.out.cell 17 _ rfl
            have c18 := HG3.out.cell 18 _ rfl
            have c19 := HG3.out.cell 19 _ rfl
            have c20 := HG3.out.cell 20 _ rfl
            have c21 := HG3.out.cell 21 _ rfl
            have c22 := HG3.out.cell 22 _ rfl
            clear hb3 HE HG2 HB2
            cases e with
            | true =>
              have HZc : (f1 = 0 ∧ f2 = 0 ∧ f3 = 0) ∨ ((¬ f1 = 0) ∨ (f1 = 0 ∧ ¬ f2 = 0) ∨ (f1 = 0 ∧ f2 = 0 ∧ ¬ f3 = 0)) := by omega
              rcases HZc with ⟨e1, e2, e3⟩ | hz
              · subst e1; subst e2; subst e3
                have HF : Hid (v = true) := by show _ = _; rw [← HV.out]; simp [k0, k1] <;> omega
                clear HV
                go_wp2
                go_ret
                exact ⟨by rw [HF.out]; rfl, HB3.out⟩
              · by_cases k15 : k = 15
                · subst k15
                  rcases hz with e1 | ⟨e1, e2⟩ | ⟨e1, e2, e3⟩
                  all_goals
                    have HF : Hid (v = true) := by show _ = _; rw [← HV.out]; simp [] <;> omega
                    clear HV
                    go_wp2
                    go_ret
                    exact ⟨by rw [HF.out]; rfl, HB3.out⟩
                · have kb : (k == 15) = false := by simpa using k15
                  rcases hz with e1 | ⟨e1, e2⟩ | ⟨e1, e2, e3⟩
                  · skip
                    have HF : Hid (v = false) := by show _ = _; rw [← HV.out]; simp [k0, k1, e1, k15] <;> omega
                    clear HV
                    go_wp2
                    go_ret
                    exact ⟨by rw [HF.out]; rfl, HB3.out⟩
                  · skip
                    have HF : Hid (v = false) := by show _ = _; rw [← HV.out]; simp [k0, k1, e2, k15] <;> omega
                    clear HV
                    go_wp2
                    go_ret
                    exact ⟨by rw [HF.out]; rfl, HB3.out⟩
                  · skip
                    have HF : Hid (v = false) := by show _ = _; rw [← HV.out]; simp [k0, k1, e3, k15] <;> omega
                    clear HV
                    go_wp2
                    go_ret
                    exact ⟨by rw [HF.out]; rfl, HB3.out⟩
            | false =>
              by_cases kx : k = 1
              · subst kx
                by_cases L16 : (L.length : Int) ≤ 16
                · have L17 : L.length ≤ 16 := by omega
                  have HZc : (f1 = 0 ∧ f2 = 0 ∧ f3 = 0) ∨ ((¬ f1 = 0) ∨ (f1 = 0 ∧ ¬ f2 = 0) ∨ (f1 = 0 ∧ f2 = 0 ∧ ¬ f3 = 0)) := by omega
                  rcases HZc with ⟨e1, e2, e3⟩ | hz
                  · subst e1; subst e2; subst e3
                    have HF : Hid (v = true) := by show _ = _; rw [← HV.out]; simp [L17] <;> omega
                    clear HV
                    go_wp2
                    go_ret
                    exact ⟨by rw [HF.out]; rfl, HB3.out⟩
                  · rcases hz with e1 | ⟨e1, e2⟩ | ⟨e1, e2, e3⟩
                    · skip
                      have HF : Hid (v = false) := by show _ = _; rw [← HV.out]; simp [e1] <;> omega
                      clear HV
                      go_wp2
                      go_ret
                      exact ⟨by rw [HF.out]; rfl, HB3.out⟩
                    · skip
                      have HF : Hid (v = false) := by show _ = _; rw [← HV.out]; simp [e2] <;> omega
                      clear HV
                      go_wp2
                      go_ret
                      exact ⟨by rw [HF.out]; rfl, HB3.out⟩
                    · skip
                      have HF : Hid (v = false) := by show _ = _; rw [← HV.out]; simp [e3] <;> omega
                      clear HV
                      go_wp2
                      go_ret
                      exact ⟨by rw [HF.out]; rfl, HB3.out⟩
                · have L17 : ¬ L.length ≤ 16 := by omega
                  have HF : Hid (v = false) := by show _ = _; rw [← HV.out]; simp [L17] <;> omega
                  clear HV
                  go_wp2
                  go_ret
                  exact ⟨by rw [HF.out]; rfl, HB3.out⟩
              · skip
                have HF : Hid (v = false) := by show _ = _; rw [← HV.out]; simp [kx] <;> omega
                clear HV
                go_wp2
                go_ret
                exact ⟨by rw [HF.out]; rfl, HB3.out⟩
          · skip
            have HF : Hid (v = false) := by show _ = _; rw [← HV.out]; simp [z4] <;> omega
            clear HV
            go_wp2
            go_ret
            exact ⟨by rw [HF.out]; rfl, HB2.out⟩
        · skip
          have HF : Hid (v = false) := by show _ = _; rw [← HV.out]; simp [z0] <;> omega
          clear HV
          go_wp2
          go_ret
          exact ⟨by rw [HF.out]; rfl, HB2.out⟩
end Go.Proofs.Ytdkcccigmejikaa
