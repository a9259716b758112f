/-
  Lines of a budget: the walks of budget.New, Total, there, turned.
-/
import Derived.Test.YtikfclioplploaaBgL
set_option linter.unusedVariables false
set_option linter.unusedSimpArgs false
namespace Go.Proofs.Ytikfclioplploaa
open Go.RowKit Dg

theorem sl_ln1 (w : World) (a b c d : Int) : SlL (w.alloc (.cells #[.int .i64 a, .int .i64 b, .int .i64 c, .int .i64 d] 23)) (some ⟨w.heap.size, 0, none⟩) 1 [(a, b, c, d)] :=
  ⟨rfl, Nat.le_refl _, by simp, fun _ => ⟨_, _, rfl, fun j u hu => by
    rw [Nat.zero_add]
    exact (Blk.new w 23 [.int .i64 a, .int .i64 b, .int .i64 c, .int .i64 d]).cell j u (by simpa [rc, lnc] using hu)⟩⟩
def bare (B : List Int) : List Ln := B.map (fun b => (b, 0, 0, 0))
theorem bare_take {B : List Int} {k : Nat} {b : Int} (h : B[k]? = some b) : bare (B.take (k + 1)) = bare (B.take k) ++ [(b, 0, 0, 0)] := by
  obtain ⟨hk, rfl⟩ := List.getElem?_eq_some_iff.1 h
  unfold bare
  rw [List.take_succ_eq_append_getElem hk, List.map_append]; rfl
def newS (B : List Int) : List Ln × Int := if rightL (bare B) = true then (bare B, 0) else ([], 141)
/-- All budgets. -/
def totS : List Ln → Int
  | [] => 0
  | t :: l => t.1 + totS l
theorem tot_app (L M : List Ln) : totS (L ++ M) = totS L + totS M := by
  induction L with
  | nil => simp [totS]
  | cons t l ih => simp only [List.cons_append, totS, ih]; omega
theorem tot_take {L : List Ln} {k : Nat} {t : Ln} (h : L[k]? = some t) : totS (L.take (k + 1)) = totS (L.take k) + t.1 := by
  obtain ⟨hk, rfl⟩ := List.getElem?_eq_some_iff.1 h
  rw [List.take_succ_eq_append_getElem hk, tot_app]; simp [totS]
theorem okLn_true {t : Ln} (h : okLn t = true) : (0 ≤ t.1 ∧ t.1 ≤ 1000000000000) ∧ (0 ≤ t.2.1 ∧ t.2.1 ≤ 10000) ∧ (0 ≤ t.2.2.1 ∧ t.2.2.1 ≤ 1000000000000) ∧ (0 ≤ t.2.2.2 ∧ t.2.2.2 ≤ 1000000000000) ∧ t.2.2.1 + t.2.2.2 ≤ capS t.1 t.2.1 := by
  simp only [okLn, okM, Bool.and_eq_true, decide_eq_true_eq] at h
  omega
theorem tot_in {L : List Ln} (h : L.all okLn = true) : 0 ≤ totS L ∧ totS L ≤ 1000000000000 * L.length := by
  induction L with
  | nil => simp [totS]
  | cons t l ih =>
    simp only [List.all_cons, Bool.and_eq_true] at h
    have h1 := okLn_true h.1
    have := ih h.2
    simp only [totS, List.length_cons]
    omega
theorem rightL_true {L : List Ln} (h : rightL L = true) : 1 ≤ L.length ∧ L.length ≤ 16 ∧ L.all okLn = true := by
  simpa [rightL, and_assoc] using h
def inN (n : Nat) (i : Int) : Bool := decide (0 ≤ i) && decide (i < n)
set_option maxRecDepth 8000 in
theorem there1_any (i : Int) (lo : Option Addr) (n lcap : Nat) (b : Nat) (w : World) (h : w.cell? ⟨b, 0, none⟩ = some (.slice lo n lcap)) :
    Calls Try.prog 62 #[.int .i64 i, .pointer (some ⟨b, 0, none⟩)] w fun e w' => e = .returned (.bool (!inN n i)) ∧ w' = w := by
  obtain ⟨v, hv⟩ : ∃ v, inN n i = v := ⟨_, rfl⟩
  rw [hv]
  have HV := Lib.hid hv
  clear hv
  go_enter Try.func62, Try.ntmps62
  go_wp2
  all_goals
    go_ret
    exact ⟨by rw [← HV.out, inN]; refine congrArg (fun b => Ending.returned (.bool b)) ?_; rw [Bool.eq_iff_iff]; simp; try omega, rfl⟩
theorem all_takeI {A : List Int} {f : Int → Bool} {k : Nat} {t : Int} (h : A[k]? = some t) : (A.take (k + 1)).all f = ((A.take k).all f && f t) := by
  obtain ⟨hk, rfl⟩ := List.getElem?_eq_some_iff.1 h
  rw [List.take_succ_eq_append_getElem hk, List.all_append]; simp
theorem size_int (w : World) : (sizeOf 3).run Try.prog w = .ok 1 w := by
  obtain ⟨i, hi, _, hs, _⟩ := info_parts (show (Try.prog.info? 3).map (fun i => (i.zero, i.size, i.bytes)) = some (some (.int .i64 0), 1, 8) by kernel_rfl)
  simp [sizeOf, typeInfo, hi, hs]
set_option maxRecDepth 8000 in
set_option maxHeartbeats 1600000 in
theorem indexi_any (w : World) (ao : Option Addr) (cap : Nat) (A : List Int) (h : Sl w ao A.length cap (ic A)) (hl : A.length ≤ 100000) (lo : Option Addr) (n lcap : Nat) (b : Nat) (hc : w.cell? ⟨b, 0, none⟩ = some (.slice lo n lcap)) :
    Calls Try.prog 76 #[.slice ao A.length cap, .func (.func 62) #[] #[.pointer (some ⟨b, 0, none⟩)]] w fun e w' => (∃ i : Int, e = .returned (.int .i64 i) ∧ decide (0 ≤ i) = !A.all (inN n)) ∧ w' = w := by
  go_enter Try.func76, Try.ntmps76
  go_wp2
  go_loop [8] (fun i => ∃ k : Nat, k ≤ A.length ∧ i = .int .i64 k ∧ Hid ((A.take k).all (inN n) = true)) (fun i => A.length - (intOf i).toNat)
  case atStart => exact ⟨0, by omega, rfl, by show _ = _; simp⟩
  case round =>
    obtain ⟨k, hk, rfl, HK⟩ := hrel
    by_cases hkl : k < A.length
    · obtain ⟨x, hx⟩ : ∃ t, A[k]? = some t := ⟨_, List.getElem?_eq_getElem hkl⟩
      have HX := Lib.hid hx
      have HR := Lib.hid (there1_any x lo n lcap b w hc)
      clear hx
      go_wp2_with (refine wpList_ix_sl rfl 79 3 _ _ rfl Try.underlying79 size_int ao A.length cap rfl (ic A) h k hkl rfl ?_; intro bb off u hu hcell; obtain rfl : u = .int .i64 x := by (rw [ic_at HX.out] at hu; exact (Option.some.inj hu).symm))
      refine HR.out.mono ?_
      rintro e w1 ⟨rfl, rfl⟩
      cases hv : inN n x with
      | true =>
        have HN : Hid ((A.take (k + 1)).all (inN n) = true) := by show _ = _; rw [all_takeI HX.out, HK.out]; exact hv
        clear hv
        go_wp2
        exact ⟨⟨k + 1, by omega, by go_num, HN⟩, by simp [intOf]; omega⟩
      | false =>
        have HN : Hid (A.all (inN n) = false) := by
          show _ = _
          rw [List.all_eq_false]
          exact ⟨x, List.mem_of_getElem? HX.out, by rw [hv]; decide⟩
        clear hv
        go_wp2
        go_ret
        exact ⟨⟨k, rfl, by rw [HN.out]; simp⟩, rfl⟩
    · have HN : Hid (A.all (inN n) = true) := by
        have := HK.out
        rw [List.take_of_length_le (by omega)] at this
        exact this
      go_wp2
      go_ret
      exact ⟨⟨-1, rfl, by rw [HN.out]; decide⟩, rfl⟩
theorem containsi_any (w : World) (ao : Option Addr) (cap : Nat) (A : List Int) (h : Sl w ao A.length cap (ic A)) (hl : A.length ≤ 100000) (lo : Option Addr) (n lcap : Nat) (b : Nat) (hc : w.cell? ⟨b, 0, none⟩ = some (.slice lo n lcap)) :
    Calls Try.prog 61 #[.slice ao A.length cap, .func (.func 62) #[] #[.pointer (some ⟨b, 0, none⟩)]] w fun e w' => e = .returned (.bool (!A.all (inN n))) ∧ w' = w := by
  have H := Lib.hid (indexi_any w ao cap A h hl lo n lcap b hc)
  obtain ⟨v, hv⟩ : ∃ v, A.all (inN n) = v := ⟨_, rfl⟩
  rw [hv] at H ⊢
  clear hv
  go_enter Try.func61, Try.ntmps61
  go_wp2_with fail
  refine H.out.mono ?_
  rintro e w1 ⟨⟨i, rfl, hi⟩, rfl⟩
  have HI := Lib.hid hi
  clear hi
  go_wp2
  all_goals
    go_ret
    exact ⟨by rw [← HI.out]; simp; try omega, rfl⟩
def thereS (L : List Ln) (A : List Int) : Bool := rightL L && A.all (inN L.length)
set_option maxRecDepth 8000 in
theorem there_any (w : World) (lo : Option Addr) (lcap : Nat) (L : List Ln) (h : SlL w lo lcap L) (ao : Option Addr) (cap : Nat) (A : List Int) (hA : Sl w ao A.length cap (ic A)) (hl : A.length ≤ 100000) (v : Bool) (hv : thereS L A = v) :
    Calls Try.prog 49 #[.slice lo L.length lcap, .slice ao A.length cap] w fun e w' => e = .returned (.bool v) ∧ Below w.heap.size w w' := by
  have HB := Lib.hid (below_new1 w (.cells #[.slice lo L.length lcap] 24))
  have HG := Lib.hid (Blk.new w 24 [.slice lo L.length lcap])
  have HR := Lib.hid (fun W (hb : Below w.heap.size w W) => bright_any W lo lcap L (h.keeps hb) _ rfl)
  have hAk := Lib.hid (fun W (hb : Below w.heap.size w W) => hA.keeps hb)
  obtain ⟨r, hr⟩ : ∃ r, rightL L = r := ⟨_, rfl⟩
  unfold thereS at hv
  rw [hr] at HR hv
  have HV := Lib.hid hv
  have hG := HG.out.cell 0 _ rfl
  clear hr hv h
  go_enter Try.func49, Try.ntmps49
  go_wp2_with fail
  refine (HR.out _ HB.out).mono ?_
  rintro e w1 ⟨rfl, hb1⟩
  have HB1 := Lib.hid (below_on HB.out HB.out.size hb1)
  have HG1 := Lib.hid (HG.out.keeps hb1)
  cases r with
  | false =>
    go_wp2
    go_ret
    exact ⟨by rw [← HV.out]; rfl, HB1.out⟩
  | true =>
    have HC := Lib.hid (containsi_any w1 ao cap A (hAk.out w1 HB1.out) hl lo L.length lcap w.heap.size (HG1.out.cell 0 _ rfl))
    obtain ⟨q, hq⟩ : ∃ q, A.all (inN L.length) = q := ⟨_, rfl⟩
    have hV := HV.out
    rw [hq] at HC hV
    have HV2 := Lib.hid hV
    clear hb1 hq hV HV hA
    go_wp2_with fail
    refine HC.out.mono ?_
    rintro e w2 ⟨rfl, rfl⟩
    cases q
    all_goals
      go_wp2
      go_ret
      exact ⟨by rw [← HV2.out]; rfl, HB1.out⟩
/-! ### One line anew -/
theorem OwL.blk {w : World} {base : Nat} {v : Value} {L : List Ln} (h : OwL w base v L) (hl : 1 ≤ L.length) : ∃ g cap tl, v = .slice (some ⟨g, 0, none⟩) L.length cap ∧ base ≤ g ∧ L.length ≤ cap ∧ cap ≤ maxLen ∧ tl.length = (cap - L.length) * 4 ∧ Blk w g 23 (rc lnc L ++ tl) := by
  rcases h.2 with ⟨_, h0⟩ | ⟨g, cap, cur, rfl, h1, h2, h3, h5, h6, h4⟩
  · omega
  · refine ⟨g, cap, cur.toList.drop (L.length * 4), rfl, h1, h3, h5, ?_, ⟨?_⟩⟩
    · rw [List.length_drop, Array.length_toList, h6, Nat.sub_mul]
    · rw [← h4, List.take_append_drop]
      simpa using h2
theorem OwL.of {w : World} {base g cap : Nat} {L : List Ln} {tl : List Value} (hb : base ≤ g) (h1 : L.length ≤ cap) (h2 : cap ≤ maxLen) (ht : tl.length = (cap - L.length) * 4) (h : Blk w g 23 (rc lnc L ++ tl)) : OwL w base (.slice (some ⟨g, 0, none⟩) L.length cap) L := by
  have hlen := rc_len lnc_len L
  refine ⟨hlen, .inr ⟨g, cap, _, rfl, hb, h.at_, h1, h2, ?_, ?_⟩⟩
  · simp only [List.size_toArray, List.length_append, hlen, ht]
    rw [← Nat.add_mul, Nat.add_sub_cancel' h1]
  · show List.take (L.length * 4) (rc lnc L ++ tl) = _
    rw [← hlen, List.take_left]
theorem ln_set {L : List Ln} {k : Nat} {t : Ln} (ht : L[k]? = some t) (y : Ln) (tl : List Value) : (rc lnc L ++ tl).take (k * 4) ++ lnc y ++ (rc lnc L ++ tl).drop (k * 4 + (lnc y).length) = rc lnc (L.set k y) ++ tl := by
  have hk := (List.getElem?_eq_some_iff.1 ht).1
  have hlen := rc_len lnc_len L
  rw [rc_set lnc_len ht y, List.take_append_of_le_length (by omega), List.drop_append_of_le_length (by rw [lnc_len]; omega), lnc_len]
  simp [List.append_assoc]
def turnS (L : List Ln) (k : Nat) (t : Ln) : List Ln × Int := if okLn t = true then (L.set k t, 0) else ([], 143)
section
variable {ops : Array Oper} {rest : List Oper} {op : Oper} {a : Act} {w : World} {Q : Exit → Act → World → Prop}
theorem st_ln (hgd : op.guard = none) (x y : Operand) (ho : op.op = .store 23 x y) (b o : Nat) (hx : a.eval x = .pointer (some ⟨b, o, none⟩)) (t : Ln) (hy : a.eval y = .agg #[.int .i64 t.1, .int .i64 t.2.1, .int .i64 t.2.2.1, .int .i64 t.2.2.2]) (hc : w.there b o 4)
    (h : ∀ W, Hid (W = w.setCells b o (lnc t)) → wpList Try.prog ops Q rest (a.put op.dst undef) W) : wpList Try.prog ops Q (op :: rest) a w :=
  wpList_store_mid hgd _ x y ho b o #[.int .i64 t.1, .int .i64 t.2.1, .int .i64 t.2.2.1, .int .i64 t.2.2.2] hx hy hc (by kernel_rfl) (by simp [Value.oneCell']) (h _ (Lib.hid rfl))
end
set_option maxRecDepth 8000 in
set_option maxHeartbeats 1600000 in
theorem turned_any (w : World) (ao : Option Addr) (cap : Nat) (L : List Ln) (h : SlL w ao cap L) (hl : L.length ≤ 100000) (k : Nat) (hk : k < L.length) (t : Ln) (s : List Ln × Int) (hs : turnS L k t = s) :
    Calls Try.prog 51 #[.slice ao L.length cap, .int .i64 k, .agg #[.int .i64 t.1, .int .i64 t.2.1, .int .i64 t.2.2.1, .int .i64 t.2.2.2]] w fun e w' => ∃ v', e = .returned (.tuple #[v', .int .i64 s.2]) ∧ OwL w' w.heap.size v' s.1 ∧ Below w.heap.size w w' := by
  obtain ⟨b, p, x, y⟩ := t
  show Calls Try.prog 51 #[.slice ao L.length cap, .int .i64 k, .agg #[.int .i64 b, .int .i64 p, .int .i64 x, .int .i64 y]] w _
  have HB := Lib.hid (below_new1 w (.cells #[.int .i64 b, .int .i64 p, .int .i64 x, .int .i64 y] 23))
  have HG := Lib.hid (Blk.new w 23 [.int .i64 b, .int .i64 p, .int .i64 x, .int .i64 y])
  obtain ⟨r, hr⟩ : ∃ r, okLn (b, p, x, y) = r := ⟨_, rfl⟩
  have HLn := Lib.hid (fun W => line_any b p x y r hr W)
  have HC := Lib.hid (fun W (hb : Below w.heap.size w W) => bclone_any W ao cap L (h.keeps hb) (by omega))
  unfold turnS at hs
  rw [hr] at hs
  have HS := Lib.hid hs
  have hG := HG.out
  have c0 := hG.cell 0 _ rfl; have c1 := hG.cell 1 _ rfl; have c2 := hG.cell 2 _ rfl; have c3 := hG.cell 3 _ rfl
  obtain ⟨t0, ht0⟩ : ∃ t, L[k]? = some t := ⟨_, List.getElem?_eq_getElem hk⟩
  have HT0 := Lib.hid ht0
  clear hr hs hG ht0 h
  go_enter Try.func51, Try.ntmps51
  go_wp2_with fail
  refine (HLn.out _).mono ?_
  rintro e w1 ⟨rfl, hb1⟩
  have HB1 := Lib.hid (below_on HB.out HB.out.size hb1)
  have HG1 := Lib.hid (HG.out.keeps hb1)
  clear hb1 c0 c1 c2 c3
  cases r with
  | false =>
    have hS := HS.out
    subst hS
    go_wp2
    exact bodyPost_ret (v := .tuple #[.slice none 0 0, .int .i64 143]) (by simp [results, Try.results51, go_sem]) rfl ⟨_, rfl, ownL_nil _ _, HB1.out⟩
  | true =>
    have hS := HS.out
    subst hS
    go_wp2_with fail
    refine (HC.out _ HB1.out).mono ?_
    rintro e w2 ⟨v2, rfl, ho2, hb2⟩
    have HB2 := Lib.hid (below_on HB1.out HB1.out.size hb2)
    have HG2 := HG1.out.keeps hb2
    have c0 := HG2.cell 0 _ rfl; have c1 := HG2.cell 1 _ rfl; have c2 := HG2.cell 2 _ rfl; have c3 := HG2.cell 3 _ rfl
    obtain ⟨g, cap2, tl, rfl, hg, h1, h2, ht, hblk⟩ := OwL.blk ho2 (by omega)
    have hlen := rc_len lnc_len L
    have HBk := Lib.hid hblk
    have HTH := Lib.hid (hblk.thereMid (k * 4) 4 (by rw [List.length_append, hlen]; omega))
    have HGB := Lib.hid (Nat.le_trans HB1.out.size hg)
    have HT1 := Lib.hid h1; have HT2 := Lib.hid h2; have HT3 := Lib.hid ht
    clear ho2 hb2 HG2 hg hblk hlen ht h1 h2
    have hkI : (k : Int) < L.length := by omega
    go_wp2_with (refine st_ln rfl _ _ rfl g (k * 4) ?_ (b, p, x, y) rfl HTH.out ?_)
    · first | rfl | (simp; done)
    · intro W3 hW
      have HBn : Hid (Blk W3 g 23 (rc lnc (L.set k (b, p, x, y)) ++ tl)) := by
        show Blk _ _ _ _
        rw [hW.out, ← ln_set HT0.out (b, p, x, y) tl]
        exact Blk.setCells _ _ HBk.out (by have := rc_len lnc_len L; rw [lnc_len, List.length_append]; omega)
      have HB3 : Hid (Below w.heap.size w W3) := by show Below _ _ _; rw [hW.out]; exact below_setCells _ _ HB2.out HGB.out
      have hlN : (L.set k (b, p, x, y)).length = L.length := List.length_set
      have HO := Lib.hid (OwL.of (L := L.set k (b, p, x, y)) HGB.out (by rw [hlN]; exact HT1.out) HT2.out (by rw [hlN]; exact HT3.out) HBn.out)
      rw [hlN] at HO
      clear hW hlN
      go_wp2
      exact bodyPost_ret (v := .tuple #[.slice (some ⟨g, 0, none⟩) L.length cap2, .int .i64 0]) (by simp [results, Try.results51, go_sem]) rfl ⟨_, rfl, HO.out, HB3.out⟩
end Go.Proofs.Ytikfclioplploaa
