/-
  The walks of due: which amounts and dues can be, a bill, a payment's parts; and the document's own ones.
-/
import Derived.Test.YtlbnednpagddaaaArr
import Derived.OwnWalk
set_option linter.unusedVariables false
set_option linter.unusedSimpArgs false
namespace Go.Proofs.Ytlbnednpagddaaa
open Go.RowKit

def okM (n : Int) : Bool := decide (0 ≤ n ∧ n ≤ 20000000000000)
theorem okM_true {n : Int} (h : okM n = true) : 0 ≤ n ∧ n ≤ 20000000000000 := of_decide_eq_true h
theorem okM_false {n : Int} (h : okM n = false) : n < 0 ∨ 20000000000000 < n := by have := of_decide_eq_false h; omega
theorem okM_mk {n : Int} (h1 : 0 ≤ n) (h2 : n ≤ 20000000000000) : okM n = true := decide_eq_true ⟨h1, h2⟩
theorem okM_no {n : Int} (h : n < 0 ∨ 20000000000000 < n) : okM n = false := decide_eq_false (by omega)
def okD (a b c : Int) : Bool := okM a && (okM b && okM c)
def okL : List Int → Bool
  | [] => true
  | n :: l => okM n && okL l
/-- A row of numbers as cells. -/
def di (L : List Int) : List Value := L.map (Value.int .i64)
theorem okL_drop (L : List Int) (k : Nat) (h : k < L.length) : okL (L.drop k) = (okM (L.getD k 0) && okL (L.drop (k + 1))) := by
  rw [List.drop_eq_getElem_cons h, okL]
  congr 2
  simp [h]
theorem di_at (L : List Int) (k : Nat) (h : k < L.length) : (di L)[k]? = some (.int .i64 (L.getD k 0)) := by simp [di, h]

/-! ### money: a row of amounts -/
set_option maxHeartbeats 400000 in
theorem money_any (w : World) (b T : Nat) (L : List Int) (hl : L.length ≤ 100) (h : Blk w b T (di L)) :
    Calls Try.prog 22 #[.slice (some ⟨b, 0, none⟩) L.length L.length] w fun e w' => e = .returned (.bool (okL L)) ∧ w = w' := by
  have HB := Lib.hid h
  clear h
  go_enter Try.func22, Try.ntmps22
  go_wp2
  go_loop [7] (fun i => ∃ k : Nat, k ≤ L.length ∧ i = .int .i64 k ∧ Hid (okL (L.drop k) = okL L)) (fun i => L.length - (intOf i).toNat)
  case atStart => exact ⟨0, by omega, rfl, rfl⟩
  case round =>
    obtain ⟨k, hk, rfl, HK⟩ := hrel
    by_cases hlt : k < L.length
    · have c := HB.out.cell k _ (di_at L k hlt)
      have hd := okL_drop L k hlt
      generalize hx : L.getD k 0 = x at *
      cases hv : okM x with
      | true =>
        obtain ⟨h1, h2⟩ := okM_true hv
        rw [hv, Bool.true_and] at hd
        have HN : Hid (okL (L.drop (k + 1)) = okL L) := by show _ = _; rw [← hd]; exact HK.out
        clear hd hx hv HK
        go_wp2
        go_round
        case rel => exact ⟨k + 1, by omega, by go_num, HN⟩
        case measure => simp only [intOf]; omega
      | false =>
        rw [hv, Bool.false_and] at hd
        have HN : Hid (okL L = false) := by show _ = _; rw [← HK.out]; exact hd
        clear hd hx HK
        rcases okM_false hv with h1 | h1
        · clear hv
          go_wp2
          go_ret
          exact ⟨by rw [HN.out]; rfl, rfl⟩
        · have h2 : ¬ x < 0 := by omega
          clear hv
          go_wp2
          go_ret
          exact ⟨by rw [HN.out]; rfl, rfl⟩
    · obtain rfl : k = L.length := by omega
      have HN : Hid (okL L = true) := by show _ = _; rw [← HK.out, List.drop_of_length_le (Nat.le_refl _)]; rfl
      clear HK
      go_wp2
      go_ret
      exact ⟨by rw [HN.out]; rfl, rfl⟩
theorem money_three (w : World) (b T : Nat) (x y z : Int) (v : Bool) (hv : (okM x && (okM y && okM z)) = v) (h : Blk w b T (di [x, y, z])) :
    Calls Try.prog 22 #[.slice (some ⟨b, 0, none⟩) 3 3] w fun e w' => e = .returned (.bool v) ∧ w = w' := by
  have := money_any w b T [x, y, z] (by simp) h
  rwa [show okL [x, y, z] = v from by rw [← hv]; simp [okL]] at this
theorem money_one (w : World) (b T : Nat) (x : Int) (v : Bool) (hv : okM x = v) (h : Blk w b T (di [x])) :
    Calls Try.prog 22 #[.slice (some ⟨b, 0, none⟩) 1 1] w fun e w' => e = .returned (.bool v) ∧ w = w' := by
  have := money_any w b T [x] (by simp) h
  rwa [show okL [x] = v from by rw [← hv]; simp [okL]] at this

/-! ### Right -/
set_option maxHeartbeats 400000 in
theorem right_any (a b c : Int) (v : Bool) (hv : okD a b c = v) (w : World) :
    Calls Try.prog 13 #[.agg #[.int .i64 a, .int .i64 b, .int .i64 c]] w fun e w' => e = .returned (.bool v) ∧ Below w.heap.size w w' := by
  have HV := Lib.hid hv
  clear hv
  go_enter Try.func13, Try.ntmps13
  go_wp2_with fail
  refine (money_three _ _ _ a b c v HV.out (Blk.new2 w _ _ (di [a, b, c]))).mono ?_
  rintro e w1 ⟨rfl, rfl⟩
  go_wp2
  go_ret
  exact ⟨rfl, below_new2 _ _ _⟩

/-! ### Bill -/
/-- What a bill is answered. -/
def billS (a b c i f r : Int) : (Int × Int × Int) × Int × Int :=
  if okD a b c = true then
    if okD i f r = true then
      if okD a (b + f) (c + (i - (if r < i then r else i))) = true then ((a, b + f, c + (i - (if r < i then r else i))), (if r < i then r else i), 0) else ((0, 0, 0), 0, 171)
    else ((0, 0, 0), 0, 142)
  else ((0, 0, 0), 0, 171)
theorem okD_true {a b c : Int} (h : okD a b c = true) : (0 ≤ a ∧ a ≤ 20000000000000) ∧ (0 ≤ b ∧ b ≤ 20000000000000) ∧ (0 ≤ c ∧ c ≤ 20000000000000) := by
  unfold okD at h
  rw [Bool.and_eq_true, Bool.and_eq_true] at h
  exact ⟨okM_true h.1, okM_true h.2.1, okM_true h.2.2⟩
/-- Dues as a value. -/
def dv (d : Int × Int × Int) : Value := .agg #[.int .i64 d.1, .int .i64 d.2.1, .int .i64 d.2.2]
set_option maxHeartbeats 800000 in
theorem bill_any (a b c i f r : Int) (s : (Int × Int × Int) × Int × Int) (hs : billS a b c i f r = s) (w : World) :
    Calls Try.prog 14 #[.agg #[.int .i64 a, .int .i64 b, .int .i64 c], .int .i64 i, .int .i64 f, .int .i64 r] w fun e w' => e = .returned (.tuple #[dv s.1, .int .i64 s.2.1, .int .i64 s.2.2]) ∧ Below w.heap.size w w' := by
  cases h1 : okD a b c with
  | false =>
    have HS : Hid (s = ((0, 0, 0), 0, 171)) := by show _ = _; rw [← hs]; unfold billS; rw [h1]; rfl
    have HR := Lib.hid (fun W => right_any a b c false h1 W)
    clear h1 hs
    go_enter Try.func14, Try.ntmps14
    go_wp2_with fail
    refine (HR.out _).mono ?_
    rintro e w1 ⟨rfl, hb⟩
    have hR := (Blk.new2 w _ _ [.int .i64 0, .int .i64 0, .int .i64 0]).keeps hb
    have hB := below_on (below_new2 w _ _) (by simp; omega) hb
    have R0 := hR.cell 0 _ rfl; have R1 := hR.cell 1 _ rfl; have R2 := hR.cell 2 _ rfl; have Rf := hR.frozen; have Rn := hR.lt
    clear hb hR HR
    go_wp2
    exact bodyPost_ret (v := .tuple #[dv ((0, 0, 0), 0, 171).1, .int .i64 ((0, 0, 0), 0, 171).2.1, .int .i64 ((0, 0, 0), 0, 171).2.2]) (by simp [results, Try.results14, go_sem, dv, R0, R1, R2]) rfl ⟨by rw [HS.out], by repeat (first | with_reducible exact hB | refine Below.setCell ?_ (by simp; try omega) _)⟩
  | true =>
    obtain ⟨⟨a0, a1⟩, ⟨b0, b1⟩, ⟨c0, c1⟩⟩ := okD_true h1
    have HR := Lib.hid (fun W => right_any a b c true h1 W)
    cases h2 : okD i f r with
    | false =>
      have HS : Hid (s = ((0, 0, 0), 0, 142)) := by show _ = _; rw [← hs]; unfold billS; rw [h1, h2]; rfl
      have HM := Lib.hid (fun w b T h => money_three w b T i f r false h2 h)
      clear h1 h2 hs
      go_enter Try.func14, Try.ntmps14
      go_wp2_with fail
      refine (HR.out _).mono ?_
      rintro e w1 ⟨rfl, hb⟩
      have hR := (Blk.new2 w _ _ [.int .i64 0, .int .i64 0, .int .i64 0]).keeps hb
      have hB := below_on (below_new2 w _ _) (by simp; omega) hb
      have R0 := hR.cell 0 _ rfl; have R1 := hR.cell 1 _ rfl; have R2 := hR.cell 2 _ rfl; have Rf := hR.frozen; have Rn := hR.lt
      clear hb hR HR
      go_wp2_with fail
      refine (HM.out _ _ _ (Blk.new w1 _ (di [i, f, r]))).mono ?_
      rintro e w2 ⟨rfl, rfl⟩
      go_wp2
      exact bodyPost_ret (v := .tuple #[dv ((0, 0, 0), 0, 142).1, .int .i64 ((0, 0, 0), 0, 142).2.1, .int .i64 ((0, 0, 0), 0, 142).2.2]) (by simp [results, Try.results14, go_sem, dv, R0, R1, R2, Rn]) rfl ⟨by rw [HS.out], by repeat (first | with_reducible exact hB | refine Below.alloc ?_ (by simp; try omega) _ | refine Below.setCell ?_ (by simp; try omega) _)⟩
    | true =>
      obtain ⟨⟨i0, i1⟩, ⟨f0, f1⟩, ⟨r0, r1⟩⟩ := okD_true h2
      have HM := Lib.hid (fun w b T h => money_three w b T i f r true h2 h)
      obtain ⟨p, hp⟩ : ∃ p, p = if r < i then r else i := ⟨_, rfl⟩
      have p0 : 0 ≤ p := by rw [hp]; split <;> omega
      have p1 : p ≤ i := by rw [hp]; split <;> omega
      have HP : Hid ((if r < i then r else i) = p) := hp.symm
      cases h3 : okD a (b + f) (c + (i - (if r < i then r else i))) with
      | false =>
        have HS : Hid (s = ((0, 0, 0), 0, 171)) := by show _ = _; rw [← hs]; unfold billS; rw [h1, h2, h3]; rfl
        rw [← hp] at h3
        have HR2 := Lib.hid (fun W => right_any a (b + f) (c + (i - p)) false h3 W)
        clear h1 h2 h3 hs hp
        have hmin := HP.out
        go_enter Try.func14, Try.ntmps14
        go_wp2_with fail
        refine (HR.out _).mono ?_
        rintro e w1 ⟨rfl, hb⟩
        have hA := ((Blk.new w _ [.int .i64 a, .int .i64 b, .int .i64 c]).alloc _).keeps hb
        have hR := (Blk.new2 w _ _ [.int .i64 0, .int .i64 0, .int .i64 0]).keeps hb
        have hB := below_on (below_new2 w _ _) (by simp; omega) hb
        have R0 := hR.cell 0 _ rfl; have R1 := hR.cell 1 _ rfl; have R2 := hR.cell 2 _ rfl; have Rf := hR.frozen; have Rn := hR.lt
        have A0 := hA.cell 0 _ rfl; have A1 := hA.cell 1 _ rfl; have A2 := hA.cell 2 _ rfl; have Af := hA.frozen; have An := hA.lt
        clear hb HR
        go_wp2_with fail
        refine (HM.out _ _ _ (Blk.new w1 _ (di [i, f, r]))).mono ?_
        rintro e w2 ⟨rfl, rfl⟩
        go_wp2_with fail
        refine (HR2.out _).mono ?_
        rintro e w3 ⟨rfl, hb3⟩
        have hA3 := (((hA.set 2 (.int .i64 (c + (i - p)))).set 1 (.int .i64 (b + f))).alloc (.cells (di [i, f, r]).toArray 2)).keeps hb3
        have hR3 := (((hR.other ⟨w.heap.size, 2, none⟩ (.int .i64 (c + (i - p))) (by simp)).other ⟨w.heap.size, 1, none⟩ (.int .i64 (b + f)) (by simp)).alloc (.cells (di [i, f, r]).toArray 2)).keeps hb3
        have hB3 := below_on ((((hB.setCell (p := ⟨w.heap.size, 2, none⟩) (Nat.le_refl _) (.int .i64 (c + (i - p)))).setCell (p := ⟨w.heap.size, 1, none⟩) (Nat.le_refl _) (.int .i64 (b + f)))).alloc (by simp; omega) (.cells (di [i, f, r]).toArray 2)) (by simp; omega) hb3
        have B0 := hA3.cell 0 _ rfl; have B1 := hA3.cell 1 _ rfl; have B2 := hA3.cell 2 _ rfl
        have Q0 := hR3.cell 0 _ rfl; have Q1 := hR3.cell 1 _ rfl; have Q2 := hR3.cell 2 _ rfl; have Qf := hR3.frozen; have Qn := hR3.lt
        clear hA hR hB hb3 A0 A1 A2 Af R0 R1 R2 Rf hA3 hR3 HM HR2 hmin
        go_wp2
        exact bodyPost_ret (v := .tuple #[dv ((0, 0, 0), 0, 171).1, .int .i64 ((0, 0, 0), 0, 171).2.1, .int .i64 ((0, 0, 0), 0, 171).2.2]) (by simp [results, Try.results14, go_sem, dv, Q0, Q1, Q2, Qn]) rfl ⟨by rw [HS.out], by repeat (first | with_reducible exact hB3 | refine Below.alloc ?_ (by simp; try omega) _ | refine Below.setCell ?_ (by simp; try omega) _)⟩
      | true =>
        have HS : Hid (s = ((a, b + f, c + (i - p)), p, 0)) := by show _ = _; rw [← hs, hp]; unfold billS; rw [h1, h2, h3]; rfl
        rw [← hp] at h3
        have HR2 := Lib.hid (fun W => right_any a (b + f) (c + (i - p)) true h3 W)
        clear h1 h2 h3 hs hp
        have hmin := HP.out
        go_enter Try.func14, Try.ntmps14
        go_wp2_with fail
        refine (HR.out _).mono ?_
        rintro e w1 ⟨rfl, hb⟩
        have hA := ((Blk.new w _ [.int .i64 a, .int .i64 b, .int .i64 c]).alloc _).keeps hb
        have hR := (Blk.new2 w _ _ [.int .i64 0, .int .i64 0, .int .i64 0]).keeps hb
        have hB := below_on (below_new2 w _ _) (by simp; omega) hb
        have R0 := hR.cell 0 _ rfl; have R1 := hR.cell 1 _ rfl; have R2 := hR.cell 2 _ rfl; have Rf := hR.frozen; have Rn := hR.lt
        have A0 := hA.cell 0 _ rfl; have A1 := hA.cell 1 _ rfl; have A2 := hA.cell 2 _ rfl; have Af := hA.frozen; have An := hA.lt
        clear hb HR
        go_wp2_with fail
        refine (HM.out _ _ _ (Blk.new w1 _ (di [i, f, r]))).mono ?_
        rintro e w2 ⟨rfl, rfl⟩
        go_wp2_with fail
        refine (HR2.out _).mono ?_
        rintro e w3 ⟨rfl, hb3⟩
        have hA3 := (((hA.set 2 (.int .i64 (c + (i - p)))).set 1 (.int .i64 (b + f))).alloc (.cells (di [i, f, r]).toArray 2)).keeps hb3
        have hR3 := (((hR.other ⟨w.heap.size, 2, none⟩ (.int .i64 (c + (i - p))) (by simp)).other ⟨w.heap.size, 1, none⟩ (.int .i64 (b + f)) (by simp)).alloc (.cells (di [i, f, r]).toArray 2)).keeps hb3
        have hB3 := below_on ((((hB.setCell (p := ⟨w.heap.size, 2, none⟩) (Nat.le_refl _) (.int .i64 (c + (i - p)))).setCell (p := ⟨w.heap.size, 1, none⟩) (Nat.le_refl _) (.int .i64 (b + f)))).alloc (by simp; omega) (.cells (di [i, f, r]).toArray 2)) (by simp; omega) hb3
        have B0 := hA3.cell 0 _ rfl; have B1 := hA3.cell 1 _ rfl; have B2 := hA3.cell 2 _ rfl
        have Q0 := hR3.cell 0 _ rfl; have Q1 := hR3.cell 1 _ rfl; have Q2 := hR3.cell 2 _ rfl; have Qf := hR3.frozen; have Qn := hR3.lt
        clear hA hR hB hb3 A0 A1 A2 Af R0 R1 R2 Rf hA3 hR3 HM HR2 hmin
        go_wp2
        exact bodyPost_ret (v := .tuple #[dv ((a, b + f, c + (i - p)), p, 0).1, .int .i64 ((a, b + f, c + (i - p)), p, 0).2.1, .int .i64 ((a, b + f, c + (i - p)), p, 0).2.2]) (by simp [results, Try.results14, go_sem, dv, Q0, Q1, Q2, Qn]) rfl ⟨by rw [HS.out], by repeat (first | with_reducible exact hB3 | refine Below.alloc ?_ (by simp; try omega) _ | refine Below.setCell ?_ (by simp; try omega) _)⟩
end Go.Proofs.Ytlbnednpagddaaa
