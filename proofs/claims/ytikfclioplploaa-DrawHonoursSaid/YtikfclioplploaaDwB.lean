/-
  Draws: the walks of slices.Contains of ints, draw.find, Ask, Refuse.
-/
import Derived.Test.YtikfclioplploaaDwA
import Derived.Test.YtikfclioplploaaBgM
set_option linter.unusedVariables false
set_option linter.unusedSimpArgs false
namespace Go.Proofs.Ytikfclioplploaa
open Go.RowKit Dg

theorem has_take {A : List Int} {k : Nat} {y x : Int} (h : A[k]? = some y) (h1 : (A.take k).contains x = false) (h2 : ¬ x = y) : (A.take (k + 1)).contains x = false := by
  obtain ⟨hk, rfl⟩ := List.getElem?_eq_some_iff.1 h
  rw [List.take_succ_eq_append_getElem hk, List.contains_append, h1]
  simpa using h2
set_option maxRecDepth 8000 in
theorem iindex_any (w : World) (ao : Option Addr) (cap : Nat) (A : List Int) (h : Sl w ao A.length cap (ic A)) (hl : A.length ≤ 1000) (x : Int) :
    Calls Try.prog 55 #[.slice ao A.length cap, .int .i64 x] w fun e w' => (∃ i : Int, e = .returned (.int .i64 i) ∧ decide (0 ≤ i) = A.contains x) ∧ Below w.heap.size w w' := by
  have H := Lib.hid h
  clear h
  go_enter Try.func55, Try.ntmps55
  go_wp2
  go_loopw [8] (fun i wr => ∃ k : Nat, k ≤ A.length ∧ i = .int .i64 k ∧ Hid ((A.take k).contains x = false) ∧ Below w.heap.size w wr) (fun i _ => A.length - (intOf i).toNat)
  case atStart => exact ⟨0, by omega, rfl, by show _ = _; simp, Below.refl _ _⟩
  case round =>
    obtain ⟨k, hk, rfl, HK, hb⟩ := hrel
    by_cases hkl : k < A.length
    · obtain ⟨y, hy⟩ : ∃ y, A[k]? = some y := ⟨_, List.getElem?_eq_getElem hkl⟩
      have HX := Lib.hid hy
      have hw := H.out.keeps hb
      clear hy
      by_cases he : x = y
      · subst he
        have HN : Hid (A.contains x = true) := by show _ = _; rw [List.contains_iff_mem]; exact List.mem_of_getElem? HX.out
        go_wp2_with (refine wpList_ix_sl rfl 79 3 _ _ rfl Try.underlying79 size_int ao A.length cap rfl (ic A) hw k hkl rfl ?_; intro b off u hu hcell; obtain rfl : u = .int .i64 x := by (rw [ic_at HX.out] at hu; exact (Option.some.inj hu).symm))
        go_ret
        exact ⟨⟨k, rfl, by rw [HN.out]; simp⟩, hb⟩
      · have HN := Lib.hid (has_take HX.out HK.out he)
        go_wp2_with (refine wpList_ix_sl rfl 79 3 _ _ rfl Try.underlying79 size_int ao A.length cap rfl (ic A) hw k hkl rfl ?_; intro b off u hu hcell; obtain rfl : u = .int .i64 y := by (rw [ic_at HX.out] at hu; exact (Option.some.inj hu).symm))
        go_roundw
        · exact ⟨k + 1, by omega, by go_num, HN, hb⟩
        · simp [intOf]; omega
    · obtain rfl : k = A.length := by omega
      have HN : Hid (A.contains x = false) := by have := HK.out; rw [List.take_length] at this; exact this
      go_wp2
      go_ret
      exact ⟨⟨-1, rfl, by rw [HN.out]; decide⟩, hb⟩
theorem ihas_any (w : World) (ao : Option Addr) (cap : Nat) (A : List Int) (h : Sl w ao A.length cap (ic A)) (hl : A.length ≤ 1000) (x : Int) (v : Bool) (hv : A.contains x = v) :
    Calls Try.prog 45 #[.slice ao A.length cap, .int .i64 x] w fun e w' => e = .returned (.bool v) ∧ Below w.heap.size w w' := by
  have H := Lib.hid (iindex_any w ao cap A h hl x)
  rw [hv] at H
  clear hv h
  go_enter Try.func45, Try.ntmps45
  go_wp2_with fail
  refine H.out.mono ?_
  rintro e w1 ⟨⟨i, rfl, hi⟩, hb⟩
  have HI := Lib.hid hi
  clear hi
  go_wp2
  all_goals
    go_ret
    exact ⟨by rw [← HI.out]; simp; try omega, hb⟩
/-! ### Results -/
theorem info_dws : (Try.prog.info? 33).map (·.size) = some 3 := by kernel_rfl
section
variable {ops : Array Oper} {rest : List Oper} {op : Oper} {a : Act} {w : World} {Q : Exit → Act → World → Prop}
theorem st_dw (hgd : op.guard = none) (x y : Operand) (ho : op.op = .store 33 x y) (b o : Nat) (hx : a.eval x = .pointer (some ⟨b, o, none⟩)) (t : Dw) (hy : a.eval y = .agg (dwc t).toArray) (hc : w.there b o 3)
    (h : ∀ W, Hid (W = w.setCells b o (dwc t)) → wpList Try.prog ops Q rest (a.put op.dst undef) W) : wpList Try.prog ops Q (op :: rest) a w :=
  wpList_store_mid hgd _ x y ho b o (dwc t).toArray hx hy hc info_dws (by simp [dwc, Value.oneCell']) (h _ (Lib.hid (by simp)))
end
theorem res_dw {fn : Func} {p q : Tmp} (h : fn.results = #[.cell p 33, .tmp q]) (tmps : Array Value) (w : World) (g : Nat) (t : Dw) (v : Value)
    (hp : tmps.getD p undef = .pointer (some ⟨g, 0, none⟩)) (hq : tmps.getD q undef = v) (hg : Blk w g 33 (dwc t)) : (results fn tmps).run Try.prog w = .ok (.tuple #[.agg (dwc t).toArray, v]) w := by
  have hp' : tmps[p]?.getD undef = .pointer (some ⟨g, 0, none⟩) := by simpa using hp
  have hq' : tmps[q]?.getD undef = v := by simpa using hq
  have hr := run_loadVar_row (P := Try.prog) w g 33 33 (dwc t).toArray _ _ hg.at_ Try.underlying33 rfl (by kernel_rfl)
  simp [results, h, hp', hq', asAddr, hr]
def atW (D : List Dw) (n : Int) : Dw := D.getD n.toNat (0, 0, 0)
theorem atW_nat {D : List Dw} {n : Nat} {t : Dw} (h : D[n]? = some t) : atW D (n : Int) = t := by
  unfold atW; rw [Int.toNat_natCast, List.getD_eq_getElem?_getD, h]; rfl
def thereW (D : List Dw) (no : Int) : Bool := rightW D && inN D.length no
/-- What find answers. -/
def findS (D : List Dw) (no : Int) (A : List Int) : Dw × Int := if thereW D no = true then (if A.contains (atW D no).2.2 = true then (atW D no, 0) else ((0, 0, 0), 152)) else ((0, 0, 0), 151)
set_option maxRecDepth 8000 in
set_option maxHeartbeats 3200000 in
theorem dfind_any (w : World) (ao : Option Addr) (cap : Nat) (D : List Dw) (h : SlW w ao cap D) (no : Int) (bo : Option Addr) (bcap : Nat) (A : List Int) (hA : Sl w bo A.length bcap (ic A)) (hA2 : A.length ≤ 1000) (s : Dw × Int) (hs : findS D no A = s) :
    Calls Try.prog 27 #[.slice ao D.length cap, .int .i64 no, .slice bo A.length bcap] w fun e w' => e = .returned (.tuple #[.agg #[.int .i64 s.1.1, .int .i64 s.1.2.1, .int .i64 s.1.2.2], .int .i64 s.2]) ∧ Below w.heap.size w w' := by
  obtain ⟨r, hr⟩ : ∃ r, rightW D = r := ⟨_, rfl⟩
  have HB0 := Lib.hid (below_new1 w (.cells #[.int .i64 0, .int .i64 0, .int .i64 0] 33))
  have HG0 := Lib.hid (Blk.new w 33 (dwc (0, 0, 0)))
  have HR := Lib.hid (fun U (hu : Below w.heap.size w U) => dright_any U ao cap D (h.keeps hu) r hr)
  unfold findS thereW at hs
  rw [hr] at hs
  have HV := Lib.hid hs
  have HD := Lib.hid h
  have HAs := Lib.hid hA
  have HRR := Lib.hid hr
  clear hs h hA hr
  obtain ⟨g, hg⟩ : ∃ g, w.heap.size = g := ⟨_, rfl⟩
  go_enter Try.func27, Try.ntmps27
  go_wp2_with fail
  refine (HR.out _ HB0.out).mono ?_
  rintro e w1 ⟨rfl, hb1⟩
  have HB1 := Lib.hid (below_on HB0.out HB0.out.size hb1)
  have HG1 := Lib.hid (HG0.out.keeps hb1)
  have HGB := Lib.hid (Nat.le_of_eq hg)
  rw [hg] at HG1
  have HTH := Lib.hid (HG1.out.thereMid 0 3 (by decide))
  clear hb1 HR HB0 HG0
  simp only [hg]
  clear hg
  cases r with
  | false =>
    have HS : Hid (s = ((0, 0, 0), 151)) := by show _ = _; rw [← HV.out]; simp
    clear HV
    go_wp2_with (first | (refine st_dw rfl _ _ rfl g 0 rfl ((0, 0, 0) : Dw) rfl HTH.out ?_) | fail)
    intro W hW
    have HGn : Hid (Blk W g 33 (dwc ((0, 0, 0) : Dw))) := by show Blk _ _ _ _; rw [hW.out]; exact HG1.out.setAll _ (by simp [dwc_len])
    have HBn : Hid (Below w.heap.size w W) := by show Below _ _ _; rw [hW.out]; exact below_setCells _ _ HB1.out HGB.out
    clear hW
    go_wp2
    exact bodyPost_ret (v := .tuple #[.agg (dwc ((0, 0, 0) : Dw)).toArray, .int .i64 151]) (res_dw Try.results27 _ _ _ ((0, 0, 0) : Dw) _ rfl rfl HGn.out) rfl ⟨by rw [HS.out]; rfl, HBn.out⟩
  | true =>
    by_cases n0 : 0 ≤ no
    · by_cases n1 : no < (D.length : Int)
      · obtain ⟨n, rfl⟩ := Int.eq_ofNat_of_zero_le n0
        have hnl : n < D.length := by omega
        obtain ⟨⟨l, a, st⟩, ht⟩ : ∃ t, D[n]? = some t := ⟨_, List.getElem?_eq_getElem hnl⟩
        have HT := Lib.hid ht
        have hV := HV.out
        rw [atW_nat ht] at hV
        obtain ⟨c, hc⟩ : ∃ c, A.contains st = c := ⟨_, rfl⟩
        have HCt := Lib.hid (ihas_any w1 bo bcap A (HAs.out.keeps HB1.out) hA2 st c hc)
        have hV2 : (if c = true then ((l, a, st), 0) else ((0, 0, 0), 152)) = s := by rw [← hV, ← hc]; simp [inN, hnl]
        have HV2 := Lib.hid hV2
        have hw1 := HD.out.keeps HB1.out
        clear ht hV hc hV2 HV
        go_wp2_with (first | (refine ix_dw rfl _ _ rfl ao cap D hw1 rfl n _ HT.out rfl ?_; intro b off c0 c1 c2) | fail)
        refine HCt.out.mono ?_
        rintro e w2 ⟨rfl, hb2⟩
        have HB2 := Lib.hid (below_on HB1.out HB1.out.size hb2)
        have HG2 := Lib.hid (HG1.out.keeps hb2)
        have hw2 := HD.out.keeps HB2.out
        clear hb2 c0 c1 c2 hw1 HG1 HTH HCt
        have HG1 := HG2
        have HTH := Lib.hid (HG1.out.thereMid 0 3 (by decide))
        cases c with
        | false =>
          have HS : Hid (s = ((0, 0, 0), 152)) := by show _ = _; rw [← HV2.out]; rfl
          clear HV2
          go_wp2_with (first | (refine st_dw rfl _ _ rfl g 0 rfl ((0, 0, 0) : Dw) rfl HTH.out ?_) | fail)
          intro W hW
          have HGn : Hid (Blk W g 33 (dwc ((0, 0, 0) : Dw))) := by show Blk _ _ _ _; rw [hW.out]; exact HG1.out.setAll _ (by simp [dwc_len])
          have HBn : Hid (Below w.heap.size w W) := by show Below _ _ _; rw [hW.out]; exact below_setCells _ _ HB2.out HGB.out
          clear hW
          go_wp2
          exact bodyPost_ret (v := .tuple #[.agg (dwc ((0, 0, 0) : Dw)).toArray, .int .i64 152]) (res_dw Try.results27 _ _ _ ((0, 0, 0) : Dw) _ rfl rfl HGn.out) rfl ⟨by rw [HS.out]; rfl, HBn.out⟩
        | true =>
          have HS : Hid (s = ((l, a, st), 0)) := by show _ = _; rw [← HV2.out]; rfl
          clear HV2
          go_wp2_with (first | (refine ix_dw rfl _ _ rfl ao cap D hw2 rfl n _ HT.out rfl ?_; intro b off c0 c1 c2) | (refine st_dw rfl _ _ rfl g 0 rfl (l, a, st) rfl HTH.out ?_) | fail)
          intro W hW
          have HGn : Hid (Blk W g 33 (dwc (l, a, st))) := by show Blk _ _ _ _; rw [hW.out]; exact HG1.out.setAll _ (by simp [dwc_len])
          have HBn : Hid (Below w.heap.size w W) := by show Below _ _ _; rw [hW.out]; exact below_setCells _ _ HB2.out HGB.out
          clear hW
          go_wp2
          exact bodyPost_ret (v := .tuple #[.agg (dwc (l, a, st)).toArray, .int .i64 0]) (res_dw Try.results27 _ _ _ (l, a, st) _ rfl rfl HGn.out) rfl ⟨by rw [HS.out]; rfl, HBn.out⟩
      · have n2 : (D.length : Int) ≤ no := by omega
        have HS : Hid (s = ((0, 0, 0), 151)) := by show _ = _; rw [← HV.out]; simp [inN]; omega
        clear HV
        go_wp2_with (first | (refine st_dw rfl _ _ rfl g 0 rfl ((0, 0, 0) : Dw) rfl HTH.out ?_) | fail)
        intro W hW
        have HGn : Hid (Blk W g 33 (dwc ((0, 0, 0) : Dw))) := by show Blk _ _ _ _; rw [hW.out]; exact HG1.out.setAll _ (by simp [dwc_len])
        have HBn : Hid (Below w.heap.size w W) := by show Below _ _ _; rw [hW.out]; exact below_setCells _ _ HB1.out HGB.out
        clear hW
        go_wp2
        exact bodyPost_ret (v := .tuple #[.agg (dwc ((0, 0, 0) : Dw)).toArray, .int .i64 151]) (res_dw Try.results27 _ _ _ ((0, 0, 0) : Dw) _ rfl rfl HGn.out) rfl ⟨by rw [HS.out]; rfl, HBn.out⟩
    · have n2 : no < 0 := by omega
      have HS : Hid (s = ((0, 0, 0), 151)) := by show _ = _; rw [← HV.out]; simp [inN]; omega
      clear HV
      go_wp2_with (first | (refine st_dw rfl _ _ rfl g 0 rfl ((0, 0, 0) : Dw) rfl HTH.out ?_) | fail)
      intro W hW
      have HGn : Hid (Blk W g 33 (dwc ((0, 0, 0) : Dw))) := by show Blk _ _ _ _; rw [hW.out]; exact HG1.out.setAll _ (by simp [dwc_len])
      have HBn : Hid (Below w.heap.size w W) := by show Below _ _ _; rw [hW.out]; exact below_setCells _ _ HB1.out HGB.out
      clear hW
      go_wp2
      exact bodyPost_ret (v := .tuple #[.agg (dwc ((0, 0, 0) : Dw)).toArray, .int .i64 151]) (res_dw Try.results27 _ _ _ ((0, 0, 0) : Dw) _ rfl rfl HGn.out) rfl ⟨by rw [HS.out]; rfl, HBn.out⟩
/-! ### Ask -/
def askS (D : List Dw) (L : List Ln) (k a : Int) : List Dw × Int × Int :=
  if rightW D = true ∧ ¬ 64 ≤ D.length then (if thereS L [k] = true then (if okA a = true then (D ++ [(k, a, 0)], (D.length : Int), 0) else ([], 0, 142)) else ([], 0, 141)) else ([], 0, 151)
theorem sl_dw1 (w : World) (l a s : Int) : SlW (w.alloc (.cells #[.int .i64 l, .int .i64 a, .int .i64 s] 33)) (some ⟨w.heap.size, 0, none⟩) 1 [(l, a, s)] :=
  ⟨rfl, Nat.le_refl _, by simp, fun _ => ⟨_, _, rfl, fun j u hu => by
    rw [Nat.zero_add]
    exact (Blk.new w 33 [.int .i64 l, .int .i64 a, .int .i64 s]).cell j u (by simpa [rc, dwc] using hu)⟩⟩
set_option maxRecDepth 8000 in
set_option maxHeartbeats 3200000 in
theorem dask_any (w : World) (ao : Option Addr) (cap : Nat) (D : List Dw) (h : SlW w ao cap D) (hl : D.length ≤ 100000) (lo : Option Addr) (lcap : Nat) (L : List Ln) (hL : SlL w lo lcap L) (k a : Int) (s : List Dw × Int × Int) (hs : askS D L k a = s) :
    Calls Try.prog 6 #[.slice ao D.length cap, .slice lo L.length lcap, .int .i64 k, .int .i64 a] w fun e w' => ∃ v', e = .returned (.tuple #[v', .int .i64 s.2.1, .int .i64 s.2.2]) ∧ OwW w' w.heap.size v' s.1 ∧ Below w.heap.size w w' := by
  obtain ⟨r, hr⟩ : ∃ r, rightW D = r := ⟨_, rfl⟩
  have HR := Lib.hid (dright_any w ao cap D h r hr)
  obtain ⟨th, hth⟩ : ∃ r, thereS L [k] = r := ⟨_, rfl⟩
  have HTh := Lib.hid (fun U (hu : Below w.heap.size w U) => dthere_any U lo lcap L (hL.keeps hu) k th hth)
  have HM := Lib.hid (fun W => dmoney_any a W)
  obtain ⟨m, hm⟩ : ∃ m, okA a = m := ⟨_, rfl⟩
  have HCl := Lib.hid (fun U (hu : Below w.heap.size w U) => dclone_any U ao cap D (h.keeps hu) (by omega))
  unfold askS at hs
  rw [hm] at hs HM
  rw [hr, hth] at hs
  have HV := Lib.hid hs
  clear hs h hL hr hth hm
  go_enter Try.func6, Try.ntmps6
  go_wp2_with fail
  refine HR.out.mono ?_
  rintro e w1 ⟨rfl, hb1⟩
  have HB1 := Lib.hid hb1
  clear hb1 HR
  cases r with
  | false =>
    obtain rfl : s = ([], 0, 151) := by rw [← HV.out]; simp
    clear HV
    go_wp2
    exact bodyPost_ret (v := .tuple #[.slice none 0 0, .int .i64 0, .int .i64 151]) (by simp [results, Try.results6, go_sem]) rfl ⟨_, rfl, ownW_nil _ _, HB1.out⟩
  | true =>
    by_cases h64 : (64 : Int) ≤ D.length
    · obtain rfl : s = ([], 0, 151) := by rw [← HV.out]; rw [if_neg (by omega)]
      clear HV
      go_wp2
      exact bodyPost_ret (v := .tuple #[.slice none 0 0, .int .i64 0, .int .i64 151]) (by simp [results, Try.results6, go_sem]) rfl ⟨_, rfl, ownW_nil _ _, HB1.out⟩
    · have HV2 : Hid ((if th = true then (if m = true then (D ++ [(k, a, 0)], (D.length : Int), 0) else ([], 0, 142)) else ([], 0, 141)) = s) := by show _ = _; rw [← HV.out]; rw [if_pos (show true = true ∧ ¬ 64 ≤ D.length from ⟨rfl, by omega⟩)]
      clear HV
      go_wp2_with fail
      refine (HTh.out _ HB1.out).mono ?_
      rintro e w2 ⟨rfl, hb2⟩
      have HB2 := Lib.hid (below_on HB1.out HB1.out.size hb2)
      clear hb2 HTh
      cases th with
      | false =>
        obtain rfl : s = ([], 0, 141) := HV2.out.symm
        clear HV2
        go_wp2
        exact bodyPost_ret (v := .tuple #[.slice none 0 0, .int .i64 0, .int .i64 141]) (by simp [results, Try.results6, go_sem]) rfl ⟨_, rfl, ownW_nil _ _, HB2.out⟩
      | true =>
        go_wp2_with fail
        refine (HM.out _).mono ?_
        rintro e w3 ⟨rfl, rfl⟩
        cases m with
        | false =>
          obtain rfl : s = ([], 0, 142) := HV2.out.symm
          clear HV2
          go_wp2
          exact bodyPost_ret (v := .tuple #[.slice none 0 0, .int .i64 0, .int .i64 142]) (by simp [results, Try.results6, go_sem]) rfl ⟨_, rfl, ownW_nil _ _, HB2.out⟩
        | true =>
          obtain rfl : s = (D ++ [(k, a, 0)], (D.length : Int), 0) := HV2.out.symm
          clear HV2
          go_wp2_with fail
          refine (HCl.out _ HB2.out).mono ?_
          rintro e w4 ⟨v4, rfl, ho4, hb4⟩
          have HB4 := Lib.hid (below_on HB2.out HB2.out.size hb4)
          have HB5 := Lib.hid (HB4.out.alloc HB4.out.size (.cells #[.int .i64 k, .int .i64 a, .int .i64 0] 33))
          have HO5 : Hid (OwW (w4.alloc (.cells #[.int .i64 k, .int .i64 a, .int .i64 0] 33)) w.heap.size v4 D) := own_dn (own_kp ho4 (below_new1 w4 _)) HB2.out.size
          have HSL := Lib.hid (sl_dw1 w4 k a 0)
          clear ho4 hb4 HCl
          go_wp2_with (first | (refine ap_dw rfl _ _ rfl w.heap.size _ rfl D ?_ _ 1 [(k, a, 0)] rfl ?_ ?_ ?_ ?_) | fail)
          · exact HO5.out
          · exact HSL.out
          · simp; omega
          · exact (by simpa using HB5.out.size)
          intro v6 w6 h1 h2 h3
          have HO6 := Lib.hid h1
          have HB6 := Lib.hid (below_grown HO5.out h2 (Nat.le_refl _) (Nat.le_refl _) HB5.out)
          clear h1 h2 h3
          go_wp2
          exact bodyPost_ret (v := .tuple #[v6, .int .i64 (D.length : Int), .int .i64 0]) (by simp [results, Try.results6, go_sem]) rfl ⟨_, rfl, HO6.out, HB6.out⟩
/-! ### Refuse -/
def refS (D : List Dw) (no : Int) : List Dw × Int := if (findS D no [0, 1]).2 = 0 then (D.set no.toNat ((atW D no).1, (atW D no).2.1, 3), 0) else ([], (findS D no [0, 1]).2)
theorem find_ok {D : List Dw} {no : Int} {A : List Int} (h : (findS D no A).2 = 0) : rightW D = true ∧ ∃ (n : Nat) (l a st : Int), no = n ∧ n < D.length ∧ D[n]? = some (l, a, st) ∧ atW D no = (l, a, st) ∧ A.contains st = true ∧ findS D no A = ((l, a, st), 0) := by
  unfold findS at h ⊢
  split at h
  · rename_i h1
    rw [if_pos h1]
    split at h
    · rename_i h2
      rw [if_pos h2]
      simp only [thereW, inN, Bool.and_eq_true, decide_eq_true_eq] at h1
      obtain ⟨hr, h3, h4⟩ := h1
      obtain ⟨n, rfl⟩ := Int.eq_ofNat_of_zero_le h3
      have hn : n < D.length := by omega
      obtain ⟨⟨l, a, st⟩, ht⟩ : ∃ t, D[n]? = some t := ⟨_, List.getElem?_eq_getElem hn⟩
      have := atW_nat ht
      exact ⟨hr, n, l, a, st, rfl, hn, ht, this, by rw [this] at h2; exact h2, by rw [this]⟩
    · simp at h
  · simp at h
theorem find_no {D : List Dw} {no : Int} {A : List Int} (h : ¬ (findS D no A).2 = 0) : (findS D no A).1 = (0, 0, 0) ∧ ((findS D no A).2 = 151 ∨ (findS D no A).2 = 152) := by
  unfold findS at h ⊢
  split at h
  · rename_i h1
    rw [if_pos h1]
    split at h
    · exact absurd rfl h
    · rename_i h2
      rw [if_neg h2]; exact ⟨rfl, .inr rfl⟩
  · rename_i h1
    rw [if_neg h1]; exact ⟨rfl, .inl rfl⟩
set_option maxRecDepth 8000 in
set_option maxHeartbeats 3200000 in
theorem drefuse_any (w : World) (ao : Option Addr) (cap : Nat) (D : List Dw) (h : SlW w ao cap D) (no : Int) (s : List Dw × Int) (hs : refS D no = s) :
    Calls Try.prog 8 #[.slice ao D.length cap, .int .i64 no] w fun e w' => ∃ v', e = .returned (.tuple #[v', .int .i64 s.2]) ∧ OwW w' w.heap.size v' s.1 ∧ Below w.heap.size w w' := by
  have HB0 := Lib.hid (below_new1 w (.cells #[.int .i64 0, .int .i64 1] 3))
  obtain ⟨q, hq⟩ : ∃ q, findS D no [0, 1] = q := ⟨_, rfl⟩
  have HF := Lib.hid (dfind_any _ ao cap D (h.keeps HB0.out) no _ 2 [0, 1] (sl_k2 w 0 1) (by decide) q hq)
  have HD := Lib.hid h
  unfold refS at hs
  by_cases he : q.2 = 0
  · obtain ⟨hr, n, l, a, st, rfl, hn, ht, hat, _, hf⟩ := find_ok (by rw [hq]; exact he)
    have HTn := Lib.hid (fun U (hu : Below w.heap.size w U) => dturned_any U ao cap D (h.keeps hu) (by have := (rightW_true hr).1; omega) n l a st ht 3)
    rw [hq, if_pos he, hat, Int.toNat_natCast] at hs
    obtain rfl : q = ((l, a, st), 0) := hq.symm.trans hf
    subst hs
    clear hq hf hat ht hr h he HD
    go_enter Try.func8, Try.ntmps8
    go_wp2_with fail
    refine HF.out.mono ?_
    rintro e w1 ⟨rfl, hb1⟩
    have HB1 := Lib.hid (below_on HB0.out HB0.out.size hb1)
    have HB2 := Lib.hid (HB1.out.alloc HB1.out.size (.cells #[.int .i64 l, .int .i64 a, .int .i64 st] 33))
    clear hb1 HF
    go_wp2_with fail
    refine (HTn.out _ HB2.out).mono ?_
    rintro e w3 ⟨v3, rfl, ho3, hb3⟩
    have HB3 := Lib.hid (below_on HB2.out HB2.out.size hb3)
    have HO3 := Lib.hid (own_dn ho3 HB2.out.size)
    clear ho3 hb3 HTn
    go_wp2
    exact bodyPost_ret (v := .tuple #[v3, .int .i64 0]) (by simp [results, Try.results8, go_sem]) rfl ⟨_, rfl, HO3.out, HB3.out⟩
  · obtain ⟨hz, _⟩ := find_no (by rw [hq]; exact he)
    rw [hq] at hz
    rw [hq, if_neg he] at hs
    obtain ⟨q1, q2⟩ := q
    replace hz : q1 = (0, 0, 0) := hz
    subst hz
    replace he : ¬ q2 = 0 := he
    subst hs
    clear hq h HD
    go_enter Try.func8, Try.ntmps8
    go_wp2_with fail
    refine HF.out.mono ?_
    rintro e w1 ⟨rfl, hb1⟩
    have HB1 := Lib.hid (below_on HB0.out HB0.out.size hb1)
    have HB2 := Lib.hid (HB1.out.alloc HB1.out.size (.cells #[.int .i64 0, .int .i64 0, .int .i64 0] 33))
    clear hb1 HF
    go_wp2
    exact bodyPost_ret (v := .tuple #[.slice none 0 0, .int .i64 q2]) (by simp [results, Try.results8, go_sem]) rfl ⟨_, rfl, ownW_nil _ _, HB2.out⟩
end Go.Proofs.Ytikfclioplploaa
