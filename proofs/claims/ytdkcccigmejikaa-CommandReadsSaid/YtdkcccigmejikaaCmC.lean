/-
  Commands: the walks of command.Same, and of the reference's Numbers, Same.
-/
import Derived.Test.YtdkcccigmejikaaCmB
set_option linter.unusedVariables false
set_option linter.unusedSimpArgs false
set_option maxRecDepth 20000
namespace Go.Proofs.Ytdkcccigmejikaa
open Go.RowKit

def Cm.same (c d : Cm) : Bool := decide (c.H = d.H) && decide (c.F = d.F) && (decide (c.L = d.L) && decide (c.N = d.N))
set_option maxHeartbeats 1600000 in
theorem rnumbers_any (w : World) (ao : Option Addr) (cap : Nat) (L : List Int) (x0 x1 x2 x3 x4 x5 x6 x7 x8 x9 x10 : Int) :
    Calls Try.prog 37 #[.agg #[.slice ao L.length cap, .int .i64 x0, .int .i64 x1, .int .i64 x2, .int .i64 x3, .int .i64 x4, .int .i64 x5, .int .i64 x6, .int .i64 x7, .int .i64 x8, .int .i64 x9, .int .i64 x10]] w fun e w' => ∃ q, e = .returned (.slice (some ⟨q, 0, none⟩) 11 11) ∧ Sl w' (some ⟨q, 0, none⟩) 11 11 (ic [x0, x1, x2, x3, x4, x5, x6, x7, x8, x9, x10]) ∧ Below w.heap.size w w' := by
  have HB := Lib.hid (below_new2 w (.cells #[.slice ao L.length cap, .int .i64 x0, .int .i64 x1, .int .i64 x2, .int .i64 x3, .int .i64 x4, .int .i64 x5, .int .i64 x6, .int .i64 x7, .int .i64 x8, .int .i64 x9, .int .i64 x10] 41) (.cells #[.int .i64 x0, .int .i64 x1, .int .i64 x2, .int .i64 x3, .int .i64 x4, .int .i64 x5, .int .i64 x6, .int .i64 x7, .int .i64 x8, .int .i64 x9, .int .i64 x10] 2))
  have HG := Lib.hid (Blk.new2 w (.cells #[.slice ao L.length cap, .int .i64 x0, .int .i64 x1, .int .i64 x2, .int .i64 x3, .int .i64 x4, .int .i64 x5, .int .i64 x6, .int .i64 x7, .int .i64 x8, .int .i64 x9, .int .i64 x10] 41) 2 [.int .i64 x0, .int .i64 x1, .int .i64 x2, .int .i64 x3, .int .i64 x4, .int .i64 x5, .int .i64 x6, .int .i64 x7, .int .i64 x8, .int .i64 x9, .int .i64 x10])
  go_enter Try.func37, Try.ntmps37
  go_wp2
  go_ret
  exact ⟨_, rfl, ⟨rfl, Nat.le_refl _, by simp, fun _ => ⟨_, _, rfl, fun j u hu => by rw [Nat.zero_add]; exact HG.out.cell j u hu⟩⟩, HB.out⟩
set_option maxHeartbeats 6400000 in
theorem csame_any (w : World) (ao : Option Addr) (cap : Nat) (c : Cm) (h : Sl w ao c.L.length cap (ic c.L)) (bo : Option Addr) (dap : Nat) (d : Cm) (hd : Sl w bo d.L.length dap (ic d.L)) (v : Bool) (hv : c.same d = v) (hl : c.L.length ≤ 1000000000) :
    Calls Try.prog 19 #[.agg (c.C (.slice ao c.L.length cap)).toArray, .agg (d.C (.slice bo d.L.length dap)).toArray] w fun e w' => e = .returned (.bool v) ∧ Below w.heap.size w w' := by
  obtain ⟨k, lo, a, b, n, p, L, x0, x1, x2, x3, x4, x5, x6, x7, x8, x9, x10, f0, f1, f2, f3, f4⟩ := c
  obtain ⟨k', lo', a', b', n', p', M, x0', x1', x2', x3', x4', x5', x6', x7', x8', x9', x10', f0', f1', f2', f3', f4'⟩ := d
  replace h : Sl w ao L.length cap (ic L) := h
  replace hd : Sl w bo M.length dap (ic M) := hd
  replace hl : L.length ≤ 1000000000 := hl
  show Calls Try.prog 19 #[.agg #[.int .i64 k, .int .i64 lo, .int .i64 a, .int .i64 b, .int .i64 n, .int .i64 p, .slice ao L.length cap, .int .i64 x0, .int .i64 x1, .int .i64 x2, .int .i64 x3, .int .i64 x4, .int .i64 x5, .int .i64 x6, .int .i64 x7, .int .i64 x8, .int .i64 x9, .int .i64 x10, .int .i64 f0, .int .i64 f1, .int .i64 f2, .int .i64 f3, .int .i64 f4], .agg #[.int .i64 k', .int .i64 lo', .int .i64 a', .int .i64 b', .int .i64 n', .int .i64 p', .slice bo M.length dap, .int .i64 x0', .int .i64 x1', .int .i64 x2', .int .i64 x3', .int .i64 x4', .int .i64 x5', .int .i64 x6', .int .i64 x7', .int .i64 x8', .int .i64 x9', .int .i64 x10', .int .i64 f0', .int .i64 f1', .int .i64 f2', .int .i64 f3', .int .i64 f4']] w _
  have HB0 := Lib.hid (below_new2 w (.cells #[.int .i64 k, .int .i64 lo, .int .i64 a, .int .i64 b, .int .i64 n, .int .i64 p, .slice ao L.length cap, .int .i64 x0, .int .i64 x1, .int .i64 x2, .int .i64 x3, .int .i64 x4, .int .i64 x5, .int .i64 x6, .int .i64 x7, .int .i64 x8, .int .i64 x9, .int .i64 x10, .int .i64 f0, .int .i64 f1, .int .i64 f2, .int .i64 f3, .int .i64 f4] 45) (.cells #[.int .i64 k', .int .i64 lo', .int .i64 a', .int .i64 b', .int .i64 n', .int .i64 p', .slice bo M.length dap, .int .i64 x0', .int .i64 x1', .int .i64 x2', .int .i64 x3', .int .i64 x4', .int .i64 x5', .int .i64 x6', .int .i64 x7', .int .i64 x8', .int .i64 x9', .int .i64 x10', .int .i64 f0', .int .i64 f1', .int .i64 f2', .int .i64 f3', .int .i64 f4'] 45))
  have HA0 := Lib.hid ((Blk.new w 45 [.int .i64 k, .int .i64 lo, .int .i64 a, .int .i64 b, .int .i64 n, .int .i64 p, .slice ao L.length cap, .int .i64 x0, .int .i64 x1, .int .i64 x2, .int .i64 x3, .int .i64 x4, .int .i64 x5, .int .i64 x6, .int .i64 x7, .int .i64 x8, .int .i64 x9, .int .i64 x10, .int .i64 f0, .int .i64 f1, .int .i64 f2, .int .i64 f3, .int .i64 f4]).alloc (.cells #[.int .i64 k', .int .i64 lo', .int .i64 a', .int .i64 b', .int .i64 n', .int .i64 p', .slice bo M.length dap, .int .i64 x0', .int .i64 x1', .int .i64 x2', .int .i64 x3', .int .i64 x4', .int .i64 x5', .int .i64 x6', .int .i64 x7', .int .i64 x8', .int .i64 x9', .int .i64 x10', .int .i64 f0', .int .i64 f1', .int .i64 f2', .int .i64 f3', .int .i64 f4'] 45))
  have HB_0 := Lib.hid (Blk.new2 w (.cells #[.int .i64 k, .int .i64 lo, .int .i64 a, .int .i64 b, .int .i64 n, .int .i64 p, .slice ao L.length cap, .int .i64 x0, .int .i64 x1, .int .i64 x2, .int .i64 x3, .int .i64 x4, .int .i64 x5, .int .i64 x6, .int .i64 x7, .int .i64 x8, .int .i64 x9, .int .i64 x10, .int .i64 f0, .int .i64 f1, .int .i64 f2, .int .i64 f3, .int .i64 f4] 45) 45 [.int .i64 k', .int .i64 lo', .int .i64 a', .int .i64 b', .int .i64 n', .int .i64 p', .slice bo M.length dap, .int .i64 x0', .int .i64 x1', .int .i64 x2', .int .i64 x3', .int .i64 x4', .int .i64 x5', .int .i64 x6', .int .i64 x7', .int .i64 x8', .int .i64 x9', .int .i64 x10', .int .i64 f0', .int .i64 f1', .int .i64 f2', .int .i64 f3', .int .i64 f4'])
  have HS1 := Lib.hid (h.keeps HB0.out)
  have HS2 := Lib.hid (hd.keeps HB0.out)
  have HV := Lib.hid hv
  clear hv h hd
  have hall : (k = k' ∧ lo = lo' ∧ a = a' ∧ b = b' ∧ n = n' ∧ p = p' ∧ f0 = f0' ∧ f1 = f1' ∧ f2 = f2' ∧ f3 = f3' ∧ f4 = f4') ∨ ((¬ k = k') ∨ (k = k' ∧ ¬ lo = lo') ∨ (k = k' ∧ lo = lo' ∧ ¬ a = a') ∨ (k = k' ∧ lo = lo' ∧ a = a' ∧ ¬ b = b') ∨ (k = k' ∧ lo = lo' ∧ a = a' ∧ b = b' ∧ ¬ n = n') ∨ (k = k' ∧ lo = lo' ∧ a = a' ∧ b = b' ∧ n = n' ∧ ¬ p = p') ∨ (k = k' ∧ lo = lo' ∧ a = a' ∧ b = b' ∧ n = n' ∧ p = p' ∧ ¬ f0 = f0') ∨ (k = k' ∧ lo = lo' ∧ a = a' ∧ b = b' ∧ n = n' ∧ p = p' ∧ f0 = f0' ∧ ¬ f1 = f1') ∨ (k = k' ∧ lo = lo' ∧ a = a' ∧ b = b' ∧ n = n' ∧ p = p' ∧ f0 = f0' ∧ f1 = f1' ∧ ¬ f2 = f2') ∨ (k = k' ∧ lo = lo' ∧ a = a' ∧ b = b' ∧ n = n' ∧ p = p' ∧ f0 = f0' ∧ f1 = f1' ∧ f2 = f2' ∧ ¬ f3 = f3') ∨ (k = k' ∧ lo = lo' ∧ a = a' ∧ b = b' ∧ n = n' ∧ p = p' ∧ f0 = f0' ∧ f1 = f1' ∧ f2 = f2' ∧ f3 = f3' ∧ ¬ f4 = f4')) := by
    by_cases e0 : k = k'
    · by_cases e1 : lo = lo'
      · by_cases e2 : a = a'
        · by_cases e3 : b = b'
          · by_cases e4 : n = n'
            · by_cases e5 : p = p'
              · by_cases e6 : f0 = f0'
                · by_cases e7 : f1 = f1'
                  · by_cases e8 : f2 = f2'
                    · by_cases e9 : f3 = f3'
                      · by_cases e10 : f4 = f4'
                        · exact .inl ⟨e0, e1, e2, e3, e4, e5, e6, e7, e8, e9, e10⟩
                        · exact .inr (.inr (.inr (.inr (.inr (.inr (.inr (.inr (.inr (.inr (.inr ⟨e0, e1, e2, e3, e4, e5, e6, e7, e8, e9, e10⟩))))))))))
                      · exact .inr (.inr (.inr (.inr (.inr (.inr (.inr (.inr (.inr (.inr (.inl ⟨e0, e1, e2, e3, e4, e5, e6, e7, e8, e9⟩))))))))))
                    · exact .inr (.inr (.inr (.inr (.inr (.inr (.inr (.inr (.inr (.inl ⟨e0, e1, e2, e3, e4, e5, e6, e7, e8⟩)))))))))
                  · exact .inr (.inr (.inr (.inr (.inr (.inr (.inr (.inr (.inl ⟨e0, e1, e2, e3, e4, e5, e6, e7⟩))))))))
                · exact .inr (.inr (.inr (.inr (.inr (.inr (.inr (.inl ⟨e0, e1, e2, e3, e4, e5, e6⟩)))))))
              · exact .inr (.inr (.inr (.inr (.inr (.inr (.inl ⟨e0, e1, e2, e3, e4, e5⟩))))))
            · exact .inr (.inr (.inr (.inr (.inr (.inl ⟨e0, e1, e2, e3, e4⟩)))))
          · exact .inr (.inr (.inr (.inr (.inl ⟨e0, e1, e2, e3⟩))))
        · exact .inr (.inr (.inr (.inl ⟨e0, e1, e2⟩)))
      · exact .inr (.inr (.inl ⟨e0, e1⟩))
    · exact .inr (.inl e0)
  rcases hall with ⟨e0, e1, e2, e3, e4, e5, e6, e7, e8, e9, e10⟩ | hne
  · subst e0; subst e1; subst e2; subst e3; subst e4; subst e5; subst e6; subst e7; subst e8; subst e9; subst e10
    obtain ⟨lq, hlq⟩ : ∃ q, decide (L = M) = q := ⟨_, rfl⟩
    obtain ⟨nq, hnq⟩ : ∃ q, decide ([x0, x1, x2, x3, x4, x5, x6, x7, x8, x9, x10] = [x0', x1', x2', x3', x4', x5', x6', x7', x8', x9', x10']) = q := ⟨_, rfl⟩
    have hv2 : (lq && nq) = v := by
      rw [← HV.out, Cm.same, ← hlq, ← hnq]
      simp only [Cm.H, Cm.F, Cm.N, decide_true, Bool.true_and] <;> rfl
    have HV2 := Lib.hid hv2
    have HE := Lib.hid (eqI_any _ ao cap L bo dap M HS1.out HS2.out lq hlq hl)
    clear HV hv2 hlq HS1 HS2
    go_enter Try.func19, Try.ntmps19
    go_wp2_with fail
    refine HE.out.mono ?_
    rintro e w2 ⟨rfl, hb2⟩
    have HB2 := Lib.hid (below_on HB0.out HB0.out.size hb2)
    have HA2 := Lib.hid (HA0.out.keeps hb2)
    have HB_2 := Lib.hid (HB_0.out.keeps hb2)
    clear hb2 HE HB0 HA0 HB_0
    cases lq with
    | false =>
      have HF : Hid (v = false) := by show _ = _; rw [← HV2.out]; rfl
      clear HV2
      go_wp2
      go_ret
      exact ⟨by rw [HF.out]; rfl, HB2.out⟩
    | true =>
      have HF : Hid (v = nq) := by show _ = _; rw [← HV2.out]; rfl
      clear HV2
      have HN1 := Lib.hid (fun U => numbers_any U w.heap.size 6)
      have HN2 := Lib.hid (fun U => numbers_any U (w.heap.size + 1) 6)
      go_wp2_with fail
      refine (HN1.out _).mono ?_
      rintro e w3 ⟨q1, rfl, hq, hql, hb3⟩
      have HB3 := Lib.hid (below_on HB2.out HB2.out.size hb3)
      have HA3 := Lib.hid (HA2.out.keeps hb3)
      have HB_3 := Lib.hid (HB_2.out.keeps hb3)
      have HV1 := Lib.hid (values_any w3 q1 w.heap.size 6 [x0, x1, x2, x3, x4, x5, x6, x7, x8, x9, x10] hq (nums_of (R := [.int .i64 f0, .int .i64 f1, .int .i64 f2, .int .i64 f3, .int .i64 f4]) HA3.out rfl) rfl)
      clear hb3 hq hql HB2 HA2 HB_2
      go_wp2_with fail
      refine HV1.out.mono ?_
      rintro e w4 ⟨v4, rfl, ho4, hb4⟩
      have HB4 := Lib.hid (below_on HB3.out HB3.out.size hb4)
      have HA4 := Lib.hid (HA3.out.keeps hb4)
      have HB_4 := Lib.hid (HB_3.out.keeps hb4)
      have HO4 := Lib.hid ho4
      clear hb4 ho4 HB3 HA3 HB_3 HV1
      go_wp2_with fail
      refine (HN2.out _).mono ?_
      rintro e w5 ⟨q2, rfl, hq, hql, hb5⟩
      have HB5 := Lib.hid (below_on HB4.out HB4.out.size hb5)
      have HB_5 := Lib.hid (HB_4.out.keeps hb5)
      have HV2 := Lib.hid (values_any w5 q2 (w.heap.size + 1) 6 [x0', x1', x2', x3', x4', x5', x6', x7', x8', x9', x10'] hq (nums_of (R := [.int .i64 f0, .int .i64 f1, .int .i64 f2, .int .i64 f3, .int .i64 f4]) HB_5.out rfl) rfl)
      have HO5 := Lib.hid (owi_kp HO4.out hb5)
      clear hb5 hq hql HB4 HB_4 HO4 HA4
      go_wp2_with fail
      refine HV2.out.mono ?_
      rintro e w6 ⟨v6, rfl, ho6, hb6⟩
      have HB6 := Lib.hid (below_on HB5.out HB5.out.size hb6)
      obtain ⟨a6, c6, rfl, hs6⟩ := OwI.sl ho6
      obtain ⟨a5, c5, rfl, hs5⟩ := OwI.sl (owi_kp HO5.out hb6)
      have HEq := Lib.hid (eqI_any w6 a5 c5 [x0, x1, x2, x3, x4, x5, x6, x7, x8, x9, x10] a6 c6 [x0', x1', x2', x3', x4', x5', x6', x7', x8', x9', x10'] hs5 hs6 nq hnq (by simp))
      rw [show [x0, x1, x2, x3, x4, x5, x6, x7, x8, x9, x10].length = 11 from rfl, show [x0', x1', x2', x3', x4', x5', x6', x7', x8', x9', x10'].length = 11 from rfl] at HEq
      simp only [show [x0, x1, x2, x3, x4, x5, x6, x7, x8, x9, x10].length = 11 from rfl, show [x0', x1', x2', x3', x4', x5', x6', x7', x8', x9', x10'].length = 11 from rfl]
      clear hb6 ho6 hs6 hs5 HO5 HB5 HV2 HB_5 hnq
      go_wp2_with fail
      refine HEq.out.mono ?_
      rintro e w7 ⟨rfl, hb7⟩
      have HB7 := Lib.hid (below_on HB6.out HB6.out.size hb7)
      cases nq
      all_goals
        go_wp2
        go_ret
        exact ⟨by rw [HF.out]; rfl, HB7.out⟩
  · have HF : Hid (v = false) := by
      show _ = _
      rw [← HV.out, Cm.same]
      rw [Bool.eq_false_iff]
      intro hh
      simp only [Cm.H, Cm.F, Bool.and_eq_true, decide_eq_true_eq, List.cons.injEq, and_true] at hh
      obtain ⟨⟨⟨d0, d1, d2, d3, d4, d5⟩, ⟨d6, d7, d8, d9, d10⟩⟩, _⟩ := hh
      rcases hne with e0 | ⟨e0, e1⟩ | ⟨e0, e1, e2⟩ | ⟨e0, e1, e2, e3⟩ | ⟨e0, e1, e2, e3, e4⟩ | ⟨e0, e1, e2, e3, e4, e5⟩ | ⟨e0, e1, e2, e3, e4, e5, e6⟩ | ⟨e0, e1, e2, e3, e4, e5, e6, e7⟩ | ⟨e0, e1, e2, e3, e4, e5, e6, e7, e8⟩ | ⟨e0, e1, e2, e3, e4, e5, e6, e7, e8, e9⟩ | ⟨e0, e1, e2, e3, e4, e5, e6, e7, e8, e9, e10⟩
      · exact absurd d0 e0
      · exact absurd d1 e1
      · exact absurd d2 e2
      · exact absurd d3 e3
      · exact absurd d4 e4
      · exact absurd d5 e5
      · exact absurd d6 e6
      · exact absurd d7 e7
      · exact absurd d8 e8
      · exact absurd d9 e9
      · exact absurd d10 e10
    clear HV HS1 HS2
    rcases hne with e0 | ⟨rfl, e1⟩ | ⟨rfl, rfl, e2⟩ | ⟨rfl, rfl, rfl, e3⟩ | ⟨rfl, rfl, rfl, rfl, e4⟩ | ⟨rfl, rfl, rfl, rfl, rfl, e5⟩ | ⟨rfl, rfl, rfl, rfl, rfl, rfl, e6⟩ | ⟨rfl, rfl, rfl, rfl, rfl, rfl, rfl, e7⟩ | ⟨rfl, rfl, rfl, rfl, rfl, rfl, rfl, rfl, e8⟩ | ⟨rfl, rfl, rfl, rfl, rfl, rfl, rfl, rfl, rfl, e9⟩ | ⟨rfl, rfl, rfl, rfl, rfl, rfl, rfl, rfl, rfl, rfl, e10⟩
    · have qq : (k == k') = false := by simpa using e0
      go_enter Try.func19, Try.ntmps19
      go_wp2
      go_ret
      exact ⟨by rw [HF.out]; rfl, HB0.out⟩
    · have qq : (lo == lo') = false := by simpa using e1
      go_enter Try.func19, Try.ntmps19
      go_wp2
      go_ret
      exact ⟨by rw [HF.out]; rfl, HB0.out⟩
    · have qq : (a == a') = false := by simpa using e2
      go_enter Try.func19, Try.ntmps19
      go_wp2
      go_ret
      exact ⟨by rw [HF.out]; rfl, HB0.out⟩
    · have qq : (b == b') = false := by simpa using e3
      go_enter Try.func19, Try.ntmps19
      go_wp2
      go_ret
      exact ⟨by rw [HF.out]; rfl, HB0.out⟩
    · have qq : (n == n') = false := by simpa using e4
      go_enter Try.func19, Try.ntmps19
      go_wp2
      go_ret
      exact ⟨by rw [HF.out]; rfl, HB0.out⟩
    · have qq : (p == p') = false := by simpa using e5
      go_enter Try.func19, Try.ntmps19
      go_wp2
      go_ret
      exact ⟨by rw [HF.out]; rfl, HB0.out⟩
    · have qq : (f0 == f0') = false := by simpa using e6
      go_enter Try.func19, Try.ntmps19
      go_wp2
      go_ret
      exact ⟨by rw [HF.out]; rfl, HB0.out⟩
    · have qq : (f1 == f1') = false := by simpa using e7
      go_enter Try.func19, Try.ntmps19
      go_wp2
      go_ret
      exact ⟨by rw [HF.out]; rfl, HB0.out⟩
    · have qq : (f2 == f2') = false := by simpa using e8
      go_enter Try.func19, Try.ntmps19
      go_wp2
      go_ret
      exact ⟨by rw [HF.out]; rfl, HB0.out⟩
    · have qq : (f3 == f3') = false := by simpa using e9
      go_enter Try.func19, Try.ntmps19
      go_wp2
      go_ret
      exact ⟨by rw [HF.out]; rfl, HB0.out⟩
    · have qq : (f4 == f4') = false := by simpa using e10
      go_enter Try.func19, Try.ntmps19
      go_wp2
      go_ret
      exact ⟨by rw [HF.out]; rfl, HB0.out⟩
end Go.Proofs.Ytdkcccigmejikaa
