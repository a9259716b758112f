/-
  Lines of a budget: the walks of budget.Cut, Inspect, Pay, Release.
-/
import Derived.Test.YtikfclioplploaaBgT
set_option linter.unusedVariables false
set_option linter.unusedSimpArgs false
namespace Go.Proofs.Ytikfclioplploaa
open Go.RowKit Dg

theorem sl_k1 (w : World) (x : Int) : Sl (w.alloc (.cells #[.int .i64 x] 3)) (some ⟨w.heap.size, 0, none⟩) 1 1 (ic [x]) :=
  ⟨rfl, Nat.le_refl _, by simp, fun _ => ⟨_, _, rfl, fun j u hu => by
    rw [Nat.zero_add]
    exact (Blk.new w 3 [.int .i64 x]).cell j u hu⟩⟩
/-- A line by its number. -/
def atL (L : List Ln) (k : Int) : Ln := L.getD k.toNat (0, 0, 0, 0)
theorem thereS_one {L : List Ln} {k : Int} : thereS L [k] = true → rightL L = true ∧ ∃ n : Nat, n < L.length ∧ k = n := by
  intro h
  simp only [thereS, inN, List.all_cons, List.all_nil, Bool.and_true, Bool.and_eq_true, decide_eq_true_eq] at h
  obtain ⟨h1, h2, h3⟩ := h
  obtain ⟨n, rfl⟩ := Int.eq_ofNat_of_zero_le h2
  exact ⟨h1, n, by omega, rfl⟩
def cutS (L : List Ln) (k a : Int) : List Ln × Int :=
  if (thereS L [k]) = true then (if 1 ≤ a ∧ a ≤ 1000000000000 then turnS L k.toNat ((atL L k).1 - a, (atL L k).2) else ([], 142)) else ([], 141)
def inspS (L : List Ln) (k a : Int) : List Ln × Int :=
  if thereS L [k] = true then (if 0 ≤ a ∧ a ≤ 10000 then (if a < (atL L k).2.1 then ([], 143) else turnS L k.toNat ((atL L k).1, a, (atL L k).2.2)) else ([], 142)) else ([], 141)
def payS (L : List Ln) (k a c : Int) : List Ln × Int :=
  if thereS L [k] = true then (if okM a = true ∧ okM c = true ∧ ¬ a + c = 0 then turnS L k.toNat ((atL L k).1, (atL L k).2.1, (atL L k).2.2.1 + a, (atL L k).2.2.2 + c) else ([], 142)) else ([], 141)
set_option maxRecDepth 8000 in
set_option maxHeartbeats 3200000 in
theorem bpay_any (w : World) (ao : Option Addr) (cap : Nat) (L : List Ln) (h : SlL w ao cap L) (k a c : Int) (s : List Ln × Int) (hs : payS L k a c = s) :
    Calls Try.prog 39 #[.slice ao L.length cap, .int .i64 k, .int .i64 a, .int .i64 c] w fun e w' => ∃ v', e = .returned (.tuple #[v', .int .i64 s.2]) ∧ OwL w' w.heap.size v' s.1 ∧ Below w.heap.size w w' := by
  have HB0 := Lib.hid (below_new1 w (.cells #[.int .i64 k] 3))
  have HTh := Lib.hid (there_any _ ao cap L (h.keeps (below_new1 w (.cells #[.int .i64 k] 3))) _ 1 [k] (sl_k1 w k) (by simp) _ rfl)
  have HL := Lib.hid h
  unfold payS at hs
  have hth := thereS_one (L := L) (k := k)
  obtain ⟨q, hq⟩ : ∃ q, thereS L [k] = q := ⟨_, rfl⟩
  rw [hq] at HTh hs hth
  clear hq h
  cases q with
  | false =>
    have HS := Lib.hid hs
    clear hs hth
    go_enter Try.func39, Try.ntmps39
    go_wp2_with fail
    refine HTh.out.mono ?_
    rintro e w1 ⟨rfl, hb1⟩
    have HB1 := Lib.hid (below_on HB0.out HB0.out.size hb1)
    have hS := HS.out
    subst hS
    go_wp2
    exact bodyPost_ret (v := .tuple #[.slice none 0 0, .int .i64 141]) (by simp [results, Try.results39, go_sem]) rfl ⟨_, rfl, ownL_nil _ _, HB1.out⟩
  | true =>
    obtain ⟨hright, n, hn, rfl⟩ := hth rfl
    obtain ⟨l1, l16, hall⟩ := rightL_true hright
    obtain ⟨⟨b, p, x, y⟩, ht⟩ : ∃ t, L[n]? = some t := ⟨_, List.getElem?_eq_getElem hn⟩
    have hok := okLn_true (List.all_eq_true.1 hall _ (List.mem_of_getElem? ht))
    obtain ⟨⟨b0, b1⟩, ⟨p0, p1⟩, ⟨x0, x1⟩, ⟨y0, y1⟩, _⟩ := hok
    replace b0 : 0 ≤ b := b0; replace b1 : b ≤ 1000000000000 := b1; replace p0 : 0 ≤ p := p0; replace p1 : p ≤ 10000 := p1
    replace x0 : 0 ≤ x := x0; replace x1 : x ≤ 1000000000000 := x1; replace y0 : 0 ≤ y := y0; replace y1 : y ≤ 1000000000000 := y1
    have hat : atL L (n : Int) = (b, p, x, y) := by unfold atL; rw [Int.toNat_natCast, List.getD_eq_getElem?_getD, ht]; rfl
    rw [hat, Int.toNat_natCast] at hs
    have HS := Lib.hid hs
    have HT := Lib.hid ht
    have HTu := Lib.hid (fun t W (hb : Below w.heap.size w W) => turned_any W ao cap L (HL.out.keeps hb) (by omega) n hn t _ rfl)
    have hnI : (n : Int) < L.length := by omega
    clear hs ht hat hth hright hall
    go_enter Try.func39, Try.ntmps39
    go_wp2_with fail
    refine HTh.out.mono ?_
    rintro e w1 ⟨rfl, hb1⟩
    have HB1 := Lib.hid (below_on HB0.out HB0.out.size hb1)
    have hw := HL.out.keeps HB1.out
    clear hb1
    have M1 := Lib.hid (fun W => money_any a W)
    have M2 := Lib.hid (fun W => money_any c W)
    have i1 := okM_iff a; have i2 := okM_iff c
    obtain ⟨m1, hm1⟩ : ∃ m, okM a = m := ⟨_, rfl⟩
    obtain ⟨m2, hm2⟩ : ∃ m, okM c = m := ⟨_, rfl⟩
    have hS0 := HS.out
    rw [hm1] at M1 i1 hS0; rw [hm2] at M2 i2 hS0
    replace HS := Lib.hid hS0
    clear hm1 hm2 hS0
    go_wp2_with fail
    refine (M1.out _).mono ?_
    rintro e w9 ⟨rfl, rfl⟩
    cases m1 with
    | false =>
      have hS : ([], 142) = s := by rw [← HS.out]; simp
      subst hS
      go_wp2_with (refine ix_ln rfl _ _ rfl ao cap L hw rfl n _ HT.out rfl ?_; intro bb off c0 c1 c2 c3)
      exact bodyPost_ret (v := .tuple #[.slice none 0 0, .int .i64 142]) (by simp [results, Try.results39, go_sem]) rfl ⟨_, rfl, ownL_nil _ _, HB1.out⟩
    | true =>
      obtain ⟨a0, a1⟩ := i1.1 rfl
      go_wp2_with fail
      refine (M2.out _).mono ?_
      rintro e w9 ⟨rfl, rfl⟩
      cases m2 with
      | false =>
        clear i1 i2 a0 a1
        have hS : ([], 142) = s := by rw [← HS.out]; simp
        subst hS
        go_wp2_with (refine ix_ln rfl _ _ rfl ao cap L hw rfl n _ HT.out rfl ?_; intro bb off c0 c1 c2 c3)
        exact bodyPost_ret (v := .tuple #[.slice none 0 0, .int .i64 142]) (by simp [results, Try.results39, go_sem]) rfl ⟨_, rfl, ownL_nil _ _, HB1.out⟩
      | true =>
        obtain ⟨c0', c1'⟩ := i2.1 rfl
        clear i1 i2
        by_cases h3 : a + c = 0
        · obtain ⟨rfl, rfl⟩ : a = 0 ∧ c = 0 := by omega
          clear h3 a0 a1 c0' c1'
          have hS : ([], 142) = s := by rw [← HS.out]; simp
          subst hS
          go_wp2_with (refine ix_ln rfl _ _ rfl ao cap L hw rfl n _ HT.out rfl ?_; intro bb off c0 c1 c2 c3)
          exact bodyPost_ret (v := .tuple #[.slice none 0 0, .int .i64 142]) (by simp [results, Try.results39, go_sem]) rfl ⟨_, rfl, ownL_nil _ _, HB1.out⟩
        · skip
          have hS : turnS L n (b, p, x + a, y + c) = s := by rw [← HS.out]; simp [h3]
          have HTt := Lib.hid (fun W hb => HTu.out (b, p, x + a, y + c) W hb)
          obtain ⟨r, hr⟩ : ∃ r, turnS L n (b, p, x + a, y + c) = r := ⟨_, rfl⟩
          rw [hr] at HTt hS
          have HB2 := Lib.hid (HB1.out.alloc HB1.out.size (.cells #[.int .i64 (b), .int .i64 (p), .int .i64 (x + a), .int .i64 (y + c)] 23))
          clear HTu hr
          subst hS
          go_wp2_with (first | (refine ix_ln rfl _ _ rfl ao cap L hw rfl n _ HT.out rfl ?_; intro bb off c0 c1 c2 c3) | fail)
          refine (HTt.out _ HB2.out).mono ?_
          rintro e w2 ⟨v2, rfl, ho2, hb2⟩
          have HB3 := Lib.hid (below_on HB2.out HB2.out.size hb2)
          have HO3 := Lib.hid (own_dn ho2 HB2.out.size)
          clear ho2 hb2
          go_wp2
          exact bodyPost_ret (v := .tuple #[v2, .int .i64 r.2]) (by simp [results, Try.results39, go_sem]) rfl ⟨_, rfl, HO3.out, HB3.out⟩
def relS (L : List Ln) (k : Int) : List Ln × Int × Int :=
  if thereS L [k] = true then (if (atL L k).2.1 = 10000 ∧ ¬ (atL L k).2.2.2 = 0 then ((turnS L k.toNat ((atL L k).1, (atL L k).2.1, (atL L k).2.2.1 + (atL L k).2.2.2, 0)).1, (atL L k).2.2.2, (turnS L k.toNat ((atL L k).1, (atL L k).2.1, (atL L k).2.2.1 + (atL L k).2.2.2, 0)).2) else ([], 0, 143)) else ([], 0, 141)
end Go.Proofs.Ytikfclioplploaa
