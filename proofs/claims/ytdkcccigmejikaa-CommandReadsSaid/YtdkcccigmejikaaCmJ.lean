/-
  Answers: numbers read one by one, plain; the walks of command.right, Open.
-/
import Derived.Test.YtdkcccigmejikaaCmH
import Derived.Test.YtdkcccigmejikaaCmF
set_option linter.unusedVariables false
set_option linter.unusedSimpArgs false
set_option maxRecDepth 20000
namespace Go.Proofs.Ytdkcccigmejikaa
open Go.RowKit

/-- Some numbers read, what is left, and whether it failed. -/
def rdIs : Nat → List UInt8 → Bool → List Int × List UInt8 × Bool
  | 0, L, f => ([], L, f)
  | m + 1, L, f => (back (rdN L f).1 :: (rdIs m (rdN L f).2.1 (rdN L f).2.2).1, (rdIs m (rdN L f).2.1 (rdN L f).2.2).2)
theorem rdIs_snoc : ∀ (m : Nat) (L : List UInt8) (f : Bool), rdIs (m + 1) L f = ((rdIs m L f).1 ++ [back (rdN (rdIs m L f).2.1 (rdIs m L f).2.2).1], (rdN (rdIs m L f).2.1 (rdIs m L f).2.2).2)
  | 0, L, f => rfl
  | m + 1, L, f => by
    have ih := rdIs_snoc m (rdN L f).2.1 (rdN L f).2.2
    rw [rdIs, ih]
    rfl
theorem rdIs_len : ∀ (m : Nat) (L : List UInt8) (f : Bool), (rdIs m L f).1.length = m
  | 0, _, _ => rfl
  | m + 1, L, f => by rw [rdIs, List.length_cons, rdIs_len m]
/-- Can an answer be? -/
def rightA (e : Int) (n : Nat) : Bool := decide (0 ≤ e) && decide (e ≤ 65535) && decide (n ≤ 64) && (decide (e = 0) || decide (n = 0))
set_option maxHeartbeats 1600000 in
theorem aright_any (w : World) (er : Int) (ao : Option Addr) (n cap : Nat) (hn : n ≤ 1000000000000) (v : Bool) (hv : rightA er n = v) :
    Calls Try.prog 25 #[.agg #[.int .i64 er, .slice ao n cap]] w fun e w' => e = .returned (.bool v) ∧ Below w.heap.size w w' := by
  have HB0 := Lib.hid (below_new1 w (.cells #[.int .i64 er, .slice ao n cap] 25))
  have HV := Lib.hid hv
  clear hv
  by_cases e0 : 0 ≤ er
  · by_cases e1 : er ≤ 65535
    · by_cases n0 : (n : Int) ≤ 64
      · have n1 : n ≤ 64 := by omega
        by_cases e2 : er = 0
        · subst e2
          go_enter Try.func25, Try.ntmps25
          have HF : Hid (v = true) := by show _ = _; rw [← HV.out]; simp [rightA, n1] <;> omega
          clear HV
          go_wp2
          go_ret
          exact ⟨by rw [HF.out]; rfl, HB0.out⟩
        · have q1 : (er == 0) = false := by simpa using e2
          by_cases n2 : (n : Int) = 0
          · obtain rfl : n = 0 := by omega
            go_enter Try.func25, Try.ntmps25
            have HF : Hid (v = true) := by show _ = _; rw [← HV.out]; simp [rightA, e0, e1] <;> omega
            clear HV
            go_wp2
            go_ret
            exact ⟨by rw [HF.out]; rfl, HB0.out⟩
          · have n3 : ¬ n = 0 := by omega
            have q2 : ((n : Int) == 0) = false := by simpa using n2
            go_enter Try.func25, Try.ntmps25
            have HF : Hid (v = false) := by show _ = _; rw [← HV.out]; simp [rightA, n3, e2] <;> omega
            clear HV
            go_wp2
            go_ret
            exact ⟨by rw [HF.out]; rfl, HB0.out⟩
      · have n1 : ¬ n ≤ 64 := by omega
        go_enter Try.func25, Try.ntmps25
        have HF : Hid (v = false) := by show _ = _; rw [← HV.out]; simp [rightA, n1] <;> omega
        clear HV
        go_wp2
        go_ret
        exact ⟨by rw [HF.out]; rfl, HB0.out⟩
    · go_enter Try.func25, Try.ntmps25
      have HF : Hid (v = false) := by show _ = _; rw [← HV.out]; simp [rightA, e1] <;> omega
      clear HV
      go_wp2
      go_ret
      exact ⟨by rw [HF.out]; rfl, HB0.out⟩
  · go_enter Try.func25, Try.ntmps25
    have HF : Hid (v = false) := by show _ = _; rw [← HV.out]; simp [rightA, e0] <;> omega
    clear HV
    go_wp2
    go_ret
    exact ⟨by rw [HF.out]; rfl, HB0.out⟩
/-- What Open answers: the number, the numbers, the error. -/
def openA (L : List UInt8) : (Int × List Int) × Int :=
  if (!(rdIs (rdSm 64 (rdSm 65535 L false).2.1 (rdSm 65535 L false).2.2).1 (rdSm 64 (rdSm 65535 L false).2.1 (rdSm 65535 L false).2.2).2.1 (rdSm 64 (rdSm 65535 L false).2.1 (rdSm 65535 L false).2.2).2.2).2.2
      && (rdIs (rdSm 64 (rdSm 65535 L false).2.1 (rdSm 65535 L false).2.2).1 (rdSm 64 (rdSm 65535 L false).2.1 (rdSm 65535 L false).2.2).2.1 (rdSm 64 (rdSm 65535 L false).2.1 (rdSm 65535 L false).2.2).2.2).2.1.isEmpty
      && rightA (rdSm 65535 L false).1 (rdSm 64 (rdSm 65535 L false).2.1 (rdSm 65535 L false).2.2).1) = true
  then (((rdSm 65535 L false).1, (rdIs (rdSm 64 (rdSm 65535 L false).2.1 (rdSm 65535 L false).2.2).1 (rdSm 64 (rdSm 65535 L false).2.1 (rdSm 65535 L false).2.2).2.1 (rdSm 64 (rdSm 65535 L false).2.1 (rdSm 65535 L false).2.2).2.2).1), 0)
  else ((0, []), 221)
theorem rdSm_lim (lim : Nat) (L : List UInt8) (f : Bool) : (rdSm lim L f).1 ≤ lim := by
  unfold rdSm; split
  · rename_i h; exact Nat.le_trans h (Nat.min_le_left _ _)
  · exact Nat.zero_le _
theorem info_ans : (Try.prog.info? 25).map (·.size) = some 2 := by kernel_rfl
section
variable {ops : Array Oper} {rest : List Oper} {op : Oper} {a : Act} {w : World} {Q : Exit → Act → World → Prop}
theorem st_an (hgd : op.guard = none) (x y : Operand) (ho : op.op = .store 25 x y) (b o : Nat) (hx : a.eval x = .pointer (some ⟨b, o, none⟩)) (p q : Value) (hp : p.oneCell' = true) (hq : q.oneCell' = true) (hy : a.eval y = .agg #[p, q]) (hc : w.there b o 2)
    (h : ∀ W, Hid (W = w.setCells b o [p, q]) → wpList Try.prog ops Q rest (a.put op.dst undef) W) : wpList Try.prog ops Q (op :: rest) a w :=
  wpList_store_mid hgd _ x y ho b o #[p, q] hx hy hc info_ans (by simp [hp, hq]) (h _ (Lib.hid (by simp)))
end
theorem owi_setCells : ∀ (vs : List Value) {w : World} {B g : Nat} {v : Value} {M : List Int} (_ : OwI w B v M) (_ : g < B) (o : Nat), OwI (w.setCells g o vs) B v M
  | [], _, _, _, _, _, h, _, _ => h
  | u :: r, w, B, g, v, M, h, hg, o => owi_setCells r (owi_set (o := o) (u := u) h hg) hg (o + 1)
theorem res_open {fn : Func} {p q : Tmp} (h : fn.results = #[.cell p 25, .tmp q]) (tmps : Array Value) (w : World) (g : Nat) (x y v : Value)
    (hp : tmps.getD p undef = .pointer (some ⟨g, 0, none⟩)) (hq : tmps.getD q undef = v) (hg : Blk w g 25 [x, y]) : (results fn tmps).run Try.prog w = .ok (.tuple #[.agg #[x, y], v]) w := by
  have hp' : tmps[p]?.getD undef = .pointer (some ⟨g, 0, none⟩) := by simpa using hp
  have hq' : tmps[q]?.getD undef = v := by simpa using hq
  have hr := run_loadVar_row (P := Try.prog) w g 25 25 #[x, y] _ _ hg.at_ Try.underlying25 rfl (by kernel_rfl)
  simp [results, h, hp', hq', asAddr, hr]
set_option maxHeartbeats 6400000 in
theorem copen_any (w : World) (u : Value) (L : List UInt8) (h : SlB w u L) (hl : L.length ≤ 100000000) (s : (Int × List Int) × Int) (hs : openA L = s) :
    Calls Try.prog 12 #[u] w fun e w' => ∃ ao cap, e = .returned (.tuple #[.agg #[.int .i64 s.1.1, .slice ao s.1.2.length cap], .int .i64 s.2]) ∧ Sl w' ao s.1.2.length cap (ic s.1.2) ∧ Below w.heap.size w w' := by
  have HB0 := Lib.hid (below_new1 w (.cells #[.int .i64 0, .slice none 0 0] 25))
  have HG0 := Lib.hid (Blk.new w 25 [.int .i64 0, .slice none 0 0])
  have HN := Lib.hid (new_q _ u L (h.keeps HB0.out) (by omega))
  obtain ⟨q1, hq1⟩ : ∃ q, rdSm 65535 L false = q := ⟨_, rfl⟩
  obtain ⟨q2, hq2⟩ : ∃ q, rdSm 64 q1.2.1 q1.2.2 = q := ⟨_, rfl⟩
  have hm := rdSm_lim 64 q1.2.1 q1.2.2
  unfold openA at hs
  rw [hq1, hq2] at hs
  rw [hq2] at hm
  obtain ⟨ern, L1, f1⟩ := q1
  obtain ⟨m, L2, f2⟩ := q2
  replace hs : (if (!(rdIs m L2 f2).2.2 && (rdIs m L2 f2).2.1.isEmpty && rightA (ern : Int) m) = true then (((ern : Int), (rdIs m L2 f2).1), 0) else ((0, []), 221)) = s := hs
  replace hm : m ≤ 64 := hm
  replace hq2 : rdSm 64 L1 f1 = (m, L2, f2) := hq2
  have HS := Lib.hid hs
  have HQ1 := Lib.hid hq1
  have HQ2 := Lib.hid hq2
  have HGs := Lib.hid (Nat.le_refl w.heap.size)
  clear hs hq1 hq2 h
  go_enter Try.func12, Try.ntmps12
  go_wp2_with fail
  refine HN.out.mono ?_
  rintro e w1 ⟨r, rfl, hr1, hrl, hb1⟩
  have HB1 := Lib.hid (below_on HB0.out HB0.out.size hb1)
  have HG1 := Lib.hid (HG0.out.keeps hb1)
  have HR1 := Lib.hid hr1
  have HRl := Lib.hid (show w.heap.size < r by have := HG0.out.lt; omega)
  have hS1 := small_q 65535 (by decide) w1 r L false hr1
  rw [HQ1.out] at hS1
  have HS1 := Lib.hid hS1
  clear hb1 hr1 hrl HN HB0 HG0 hS1
  go_wp2_with fail
  refine HS1.out.mono ?_
  rintro e w2 ⟨rfl, hr2, hg2⟩
  obtain ⟨er, her⟩ : ∃ e : Int, (ern : Int) = e := ⟨_, rfl⟩
  have HB2 := Lib.hid (HB1.out.grown hg2 HB1.out.size (fun k hk => by obtain rfl := Option.some.inj hk; have := HRl.out; omega))
  have HG2 := Lib.hid (HG1.out.rd hg2 (by have := HRl.out; omega))
  have hrlt := hr2.lt
  have HB3 := Lib.hid (HB2.out.alloc HB2.out.size (.cells #[.int .i64 er, .slice none 0 0] 25))
  have HG3 := Lib.hid (HG2.out.alloc (.cells #[.int .i64 er, .slice none 0 0] 25))
  have HA3 := Lib.hid (Blk.new w2 25 [.int .i64 er, .slice none 0 0])
  have hr3 := hr2.alloc (.cells #[.int .i64 er, .slice none 0 0] 25)
  have hS2 := small_q 64 (by decide) _ r L1 f1 hr3
  rw [HQ2.out] at hS2
  have HS2 := Lib.hid hS2
  obtain ⟨ga, hga⟩ : ∃ g, w2.heap.size = g := ⟨_, rfl⟩
  have HRG : Hid (r < ga) := by show _ < _; omega
  rw [hga] at HA3
  have HSe : Hid ((if (!(rdIs m L2 f2).2.2 && (rdIs m L2 f2).2.1.isEmpty && rightA er m) = true then ((er, (rdIs m L2 f2).1), 0) else ((0, []), 221)) = s) := by show _ = _; rw [← her]; exact HS.out
  have HGA := Lib.hid hga
  have HB2s := Lib.hid HB2.out.size
  simp only [her]
  clear hr2 hg2 hr3 hS2 hrlt HS1 HB1 HG1 HB2 HG2 HR1 HS her hga
  go_wp2_with fail
  refine HS2.out.mono ?_
  rintro e w3 ⟨rfl, hr4, hg4⟩
  simp only [HGA.out]
  have HB4 := Lib.hid (HB3.out.grown hg4 HB3.out.size (fun k hk => by obtain rfl := Option.some.inj hk; have := HRl.out; omega))
  have HG4 := Lib.hid (HG3.out.rd hg4 (by have := HRl.out; omega))
  have HA4 := Lib.hid (HA3.out.rd hg4 (by have := HRG.out; omega))
  have HR4 := Lib.hid hr4
  have HWG : Hid (w.heap.size ≤ ga) := by show _ ≤ _; have := HB2s.out; have := HGA.out; omega
  clear hr4 hg4 HS2 HB3 HG3 HA3 HB2s
  go_wp2
  go_loopw [13] (fun i wr => ∃ (k : Nat) (v : Value), k ≤ m ∧ i = .int .i64 k ∧ Hid (RdQ wr r (rdIs k L2 f2).2.1 (rdIs k L2 f2).2.2) ∧ Hid (OwI wr (ga + 1) v (rdIs k L2 f2).1) ∧ Hid (Blk wr ga 25 [.int .i64 er, v]) ∧ Hid (Keep ga r w3 wr)) (fun i _ => m - (intOf i).toNat)
  case atStart => exact ⟨0, .slice none 0 0, by omega, rfl, HR4.out, owi_nil _ _, HA4.out, Keep.refl _ _ _⟩
  case round =>
    obtain ⟨k, v, hk_, rfl, HRr, HOv, HGa, HKp⟩ := hrel
    by_cases hkl : k < m
    · have HT := Lib.hid (rdIs_snoc k L2 f2)
      have HML : Hid ((rdIs k L2 f2).1.length ≤ 64) := by show _ ≤ _; rw [rdIs_len]; omega
      obtain ⟨M, Lk, fk, hq⟩ : ∃ M Lk fk, rdIs k L2 f2 = (M, Lk, fk) := ⟨_, _, _, rfl⟩
      rw [hq] at HRr HOv HT HML
      replace HRr : Hid (RdQ wr r Lk fk) := HRr
      replace HOv : Hid (OwI wr (ga + 1) v M) := HOv
      replace HML : Hid (M.length ≤ 64) := HML
      have HGW := Lib.hid HGa.out.lt
      have hk := HKp.out
      clear hq
      go_wp2
      refine region_rel (by kernel_rfl) (by kernel_rfl) [some 15, some 16, some 17, some 18, some 19, some 20, some 21, none] (by kernel_rfl) (AppR wr r ga 25 1 [.int .i64 er, v] v M (back (rdN Lk fk).1) (rdN Lk fk).2.1 (rdN Lk fk).2.2 (fun i u => match i with | 0 => u = .pointer (some ⟨ga, 1, none⟩) | 1 => u = v | 2 => u = .pointer (some ⟨r, 0, none⟩)    | 6 => u = .pointer (some ⟨ga, 1, none⟩)  | _ => True) 1 3 4 5 7) (AppR.start HOv.out HGa.out) ?_ ?_
      · intro i oO Ld V AC WW ho hL hf hR K hK
        have hlt : i < 8 := by have := (Array.getElem?_eq_some_iff.1 ho).1; first | exact this | simpa using this
        rcases i with _ | _ | _ | _ | _ | _ | _ | _ | i
        · obtain rfl := Option.some.inj (show some _ = some oO from ho)
          rw [if_pos (by rfl)]
          have q5 : AC.tmps.getD 5 undef = .pointer (some ⟨ga, 0, none⟩) := hf.rest 5 (by kernel_rfl)
          go_simp
          exact hK _ _ (hR.set 0 _ (by decide) (by decide) (by decide) (by decide) rfl)
        · obtain rfl := Option.some.inj (show some _ = some oO from ho)
          rw [if_pos (by rfl)]
          have q15 : AC.tmps.getD 15 undef = V 0 := hf.dep ⟨0, .data⟩ (by simp) rfl 15 rfl
          have u15 := hf.up ⟨0, .data⟩ (by simp) rfl
          rw [show V 0 = .pointer (some ⟨ga, 1, none⟩) from hR.pure 0 u15] at q15
          have np := hR.noL hL
          have hG := hR.bl (hR.noS np)
          have g0 := hG.cell 1 _ rfl
          go_simp
          exact hK _ _ (hR.set 1 _ (by decide) (by decide) (by decide) (by decide) rfl)
        · obtain rfl := Option.some.inj (show some _ = some oO from ho)
          rw [if_pos (by rfl)]
          have q4 : AC.tmps.getD 4 undef = .pointer (some ⟨r, 0, none⟩) := hf.rest 4 (by kernel_rfl)
          go_simp
          exact hK _ _ (hR.set 2 _ (by decide) (by decide) (by decide) (by decide) rfl)
        · obtain rfl := Option.some.inj (show some _ = some oO from ho)
          rw [if_pos (by rfl)]
          have q17 : AC.tmps.getD 17 undef = V 2 := hf.dep ⟨2, .data⟩ (by simp) rfl 17 rfl
          have u17 := hf.up ⟨2, .data⟩ (by simp) rfl
          rw [show V 2 = .pointer (some ⟨r, 0, none⟩) from hR.pure 2 u17] at q17
          go_simp
          refine (rint_q WW r Lk fk (HRr.out.below (hR.pa hL))).mono ?_
          rintro e w6 ⟨rfl, h6, g6⟩
          exact hK _ _ (hR.called hL (by decide) (by decide) (by decide) HRG.out HGW.out w6 h6 g6 trivial)
        · obtain rfl := Option.some.inj (show some _ = some oO from ho)
          rw [if_pos (by rfl)]
          have q18 : AC.tmps.getD 18 undef = V 3 := hf.dep ⟨3, .data⟩ (by simp) rfl 18 rfl
          have u18 := hf.up ⟨3, .data⟩ (by simp) rfl
          rw [hR.pv u18] at q18
          have pp := q18
          rw [Array.getD_eq_getD_getElem?] at pp
          go_simp
          exact hK _ _ (hR.made hL u18 (by decide) (by decide) (by decide) HGW.out trivial)
        · obtain rfl := Option.some.inj (show some _ = some oO from ho)
          rw [if_pos (by rfl)]
          have q16 : AC.tmps.getD 16 undef = V 1 := hf.dep ⟨1, .data⟩ (by simp) rfl 16 rfl
          have u16 := hf.up ⟨1, .data⟩ (by simp) rfl
          rw [show V 1 = v from hR.pure 1 u16] at q16
          have q19 : AC.tmps.getD 19 undef = V 4 := hf.dep ⟨4, .data⟩ (by simp) rfl 19 rfl
          have u19 := hf.up ⟨4, .data⟩ (by simp) rfl
          obtain ⟨q7, e7, b7⟩ := hR.bs u19 hL
          rw [e7] at q19
          refine ap_i_op _ _ rfl rfl (ga + 1) v q16 M (hR.ow hL) _ 1 [(back (rdN Lk fk).1)] q19 ⟨rfl, Nat.le_refl _, by simp, fun _ => ⟨_, _, rfl, fun j u hu => by rw [Nat.zero_add]; exact b7.cell j u hu⟩⟩ (by have := HML.out; simp; omega) (by have := HGW.out; have := hR.fr.size; omega) ?_
          intro v' w' h1 h2
          exact hK _ _ (hR.grew hL u19 (by decide) (by decide) (by decide) HRG.out HGW.out v' w' h1 h2 trivial u16)
        · obtain rfl := Option.some.inj (show some _ = some oO from ho)
          rw [if_pos (by rfl)]
          have q5 : AC.tmps.getD 5 undef = .pointer (some ⟨ga, 0, none⟩) := hf.rest 5 (by kernel_rfl)
          go_simp
          exact hK _ _ (hR.set 6 _ (by decide) (by decide) (by decide) (by decide) rfl)
        · obtain rfl := Option.some.inj (show some _ = some oO from ho)
          rw [if_pos (by rfl)]
          have q21 : AC.tmps.getD 21 undef = V 6 := hf.dep ⟨6, .data⟩ (by simp) rfl 21 rfl
          have u21 := hf.up ⟨6, .data⟩ (by simp) rfl
          rw [show V 6 = .pointer (some ⟨ga, 1, none⟩) from hR.pure 6 u21] at q21
          have q20 : AC.tmps.getD 20 undef = V 5 := hf.dep ⟨5, .data⟩ (by simp) rfl 20 rfl
          have u20 := hf.up ⟨5, .data⟩ (by simp) rfl
          have hG := hR.bl hL
          have c0 := hG.cell 1 _ rfl
          have f0 := hG.frozen 1
          obtain ⟨a8, k8, ev8⟩ := owi_shape (hR.ap u20)
          rw [List.length_append, List.length_singleton] at ev8
          have hp := hR.put hL u20 (by decide) (by decide) (by decide) HRG.out trivial
          rw [ev8] at q20
          rw [ev8] at hp
          go_simp
          exact hK undef _ hp
        · omega
      · intro Ld V WW hall hR
        have vv0 : V 0 = _ := hR.pure 0 (hall 0 (by decide))
        have vv1 : V 1 = _ := hR.pure 1 (hall 1 (by decide))
        have vv2 : V 2 = _ := hR.pure 2 (hall 2 (by decide))
        have vv6 : V 6 = _ := hR.pure 6 (hall 6 (by decide))
        have vv3 := hR.pv (hall 3 (by decide))
        have hst := hR.st (hall 7 (by decide))
        have hap := hR.ap (hall 5 (by decide))
        have hrd := hR.pb (hall 3 (by decide))
        have hkp := hR.fr
        simp only [pairsOf, laid, Nat.zero_add, Nat.reduceAdd, vv0, vv1, vv2, vv3, vv6, List.setIfInBounds_toArray, List.set_cons_zero, List.set_cons_succ]
        clear hR hall vv0 vv1 vv2 vv3 vv6
        have HKn := Lib.hid (hk.trans (hkp.mono (Nat.le_refl _)))
        have HRn := Lib.hid hrd
        have HGn := Lib.hid hst
        have HOn := Lib.hid hap
        clear hst hap hrd hkp
        go_wp2
        go_roundw
        · exact ⟨k + 1, V 5, by omega, by go_num, by rw [HT.out]; exact HRn.out, by rw [HT.out]; exact HOn.out, HGn.out, HKn.out⟩
        · simp [intOf]; omega
    · obtain rfl : k = m := by omega
      clear hkl
      have HE := Lib.hid (ended_any wr r _ _ HRr.out.rd)
      obtain ⟨M, Lk, fk, hq⟩ : ∃ M Lk fk, rdIs k L2 f2 = (M, Lk, fk) := ⟨_, _, _, rfl⟩
      have hML := rdIs_len k L2 f2
      have hS := HSe.out
      rw [hq] at HRr HOv HE hML hS
      replace hS : (if (!fk && Lk.isEmpty && rightA er k) = true then ((er, M), 0) else ((0, []), 221)) = s := hS
      replace hML : M.length = k := hML
      replace HOv : Hid (OwI wr (ga + 1) v M) := HOv
      obtain ⟨en, hen⟩ : ∃ b, (!fk && Lk.isEmpty) = b := ⟨_, rfl⟩
      replace HE : Hid (Calls Try.prog 33 #[.pointer (some ⟨r, 0, none⟩)] wr fun e w' => e = .returned (.bool (!fk && Lk.isEmpty)) ∧ w' = wr) := HE
      rw [hen] at HE hS
      obtain ⟨av, capv, rfl, hsv⟩ := OwI.sl HOv.out
      have HSV := Lib.hid hsv
      have HS4 := Lib.hid hS
      have hKp := HKp.out
      have HBr : Hid (Below w.heap.size w wr) := by
        have h1 := HB4.out
        refine ⟨hKp.os.trans h1.os, hKp.tape.trans h1.tape, hKp.output.trans h1.output, Nat.le_trans h1.size hKp.size, fun b hb => (hKp.block b (by have := HWG.out; omega) (by have := HRl.out; omega)).trans (h1.block b hb)⟩
      have hG0 : Blk wr w.heap.size 25 [.int .i64 0, .slice none 0 0] := ⟨by
        rw [hKp.block w.heap.size (by have := HRG.out; have := HRl.out; omega) (by have := HRl.out; omega)]; exact HG4.out.at_⟩
      obtain ⟨g0, hg0⟩ : ∃ g, w.heap.size = g := ⟨_, rfl⟩
      rw [hg0] at hG0
      have HG := Lib.hid hG0
      have HGB := Lib.hid (Nat.le_of_eq hg0)
      simp only [hg0]
      have HLn := Lib.hid hML
      have HOv2 := HOv
      have HGlt : Hid (g0 ≤ ga) := by show _ ≤ _; rw [← hg0]; exact HWG.out
      clear HKp hKp HG4 HB4 HA4 HR4 hsv hS hq hen hG0 HRr hg0 hML HOv
      go_wp2_with fail
      refine HE.out.mono ?_
      rintro e w9 ⟨rfl, rfl⟩
      have HTH := Lib.hid (HG.out.thereMid 0 2 (by decide))
      cases en with
      | false =>
        obtain rfl : s = ((0, []), 221) := by rw [← HS4.out]; rfl
        clear HS4 HSe
        go_wp2_with (first | (refine st_an rfl _ _ rfl g0 0 rfl (.int .i64 0) (.slice none 0 0) rfl rfl rfl HTH.out ?_) | fail)
        intro W hW
        have HGn : Hid (Blk W g0 25 [.int .i64 0, .slice none 0 0]) := by show Blk _ _ _ _; rw [hW.out]; exact HG.out.setAll _ rfl
        have HBn : Hid (Below w.heap.size w W) := by show Below _ _ _; rw [hW.out]; exact below_setCells _ _ HBr.out HGB.out
        clear hW
        go_wp2
        exact bodyPost_ret (v := .tuple #[.agg #[.int .i64 0, .slice none 0 0], .int .i64 221]) (res_open Try.results12 _ _ _ (.int .i64 0) (.slice none 0 0) _ rfl rfl HGn.out) rfl ⟨none, 0, rfl, (Sl.of_nil _), HBn.out⟩
      | true =>
        obtain ⟨ra, hra⟩ : ∃ b, rightA er k = b := ⟨_, rfl⟩
        have HRa := Lib.hid (fun U => aright_any U er av M.length capv (by have := HLn.out; omega) ra (by rw [HLn.out]; exact hra))
        have hS := HS4.out
        rw [hra] at hS
        have HS5 := Lib.hid hS
        have a0 := HGa.out.cell 0 _ rfl
        have a1 := HGa.out.cell 1 _ rfl
        clear hS hra HS4 HSe
        go_wp2_with fail
        refine (HRa.out _).mono ?_
        rintro e w10 ⟨rfl, hb10⟩
        have HBr2 := Lib.hid (below_on HBr.out HBr.out.size hb10)
        have HG10 := Lib.hid (HG.out.keeps hb10)
        have HTH := Lib.hid (HG10.out.thereMid 0 2 (by decide))
        have HGa10 := Lib.hid (HGa.out.keeps hb10)
        have HOv10 := Lib.hid (owi_kp HOv2.out hb10)
        clear a0 a1 hb10 HRa HBr HG HGa HOv2
        cases ra with
        | false =>
          obtain rfl : s = ((0, []), 221) := by rw [← HS5.out]; rfl
          clear HS5
          go_wp2_with (first | (refine st_an rfl _ _ rfl g0 0 rfl (.int .i64 0) (.slice none 0 0) rfl rfl rfl HTH.out ?_) | fail)
          intro W hW
          have HGn : Hid (Blk W g0 25 [.int .i64 0, .slice none 0 0]) := by show Blk _ _ _ _; rw [hW.out]; exact HG10.out.setAll _ rfl
          have HBn : Hid (Below w.heap.size w W) := by show Below _ _ _; rw [hW.out]; exact below_setCells _ _ HBr2.out HGB.out
          clear hW
          go_wp2
          exact bodyPost_ret (v := .tuple #[.agg #[.int .i64 0, .slice none 0 0], .int .i64 221]) (res_open Try.results12 _ _ _ (.int .i64 0) (.slice none 0 0) _ rfl rfl HGn.out) rfl ⟨none, 0, rfl, (Sl.of_nil _), HBn.out⟩
        | true =>
          obtain rfl : s = ((er, M), 0) := by rw [← HS5.out]; rfl
          clear HS5
          have a0 := HGa10.out.cell 0 _ rfl
          have a1 := HGa10.out.cell 1 _ rfl
          go_wp2_with (first | (refine st_an rfl _ _ rfl g0 0 rfl (.int .i64 er) (.slice av M.length capv) rfl rfl rfl HTH.out ?_) | fail)
          intro W hW
          have HGn : Hid (Blk W g0 25 [.int .i64 er, .slice av M.length capv]) := by show Blk _ _ _ _; rw [hW.out]; exact HG10.out.setAll _ rfl
          have HBn : Hid (Below w.heap.size w W) := by show Below _ _ _; rw [hW.out]; exact below_setCells _ _ HBr2.out HGB.out
          obtain ⟨a9, c9, e9, hs9⟩ := OwI.sl (owi_setCells [.int .i64 er, .slice av M.length capv] HOv10.out (show g0 < ga + 1 by have := HGlt.out; omega) 0)
          obtain ⟨rfl, rfl⟩ : av = a9 ∧ capv = c9 := by simp only [Value.slice.injEq] at e9; exact ⟨e9.1, e9.2.2⟩
          have HSLn : Sl W av M.length capv (ic M) := by rw [hW.out]; exact hs9
          clear hW
          go_wp2
          exact bodyPost_ret (v := .tuple #[.agg #[.int .i64 er, .slice av M.length capv], .int .i64 0]) (res_open Try.results12 _ _ _ (.int .i64 er) (.slice av M.length capv) _ rfl rfl HGn.out) rfl ⟨av, capv, rfl, HSLn, HBn.out⟩
end Go.Proofs.Ytdkcccigmejikaa
