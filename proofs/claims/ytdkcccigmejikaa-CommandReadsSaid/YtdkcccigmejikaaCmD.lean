/-
  Commands: the walk of the reference's Same.
-/
import Derived.Test.YtdkcccigmejikaaCmC
import Derived.Test.YtdkcccigmejikaaMono
import Derived.Test.YtdkcccigmejikaaCmDa
import Derived.Test.YtdkcccigmejikaaCmDb
import Derived.Test.YtdkcccigmejikaaCmDc
set_option linter.unusedVariables false
set_option linter.unusedSimpArgs false
set_option maxRecDepth 20000
namespace Go.Proofs.Ytdkcccigmejikaa
open Go.RowKit

set_option maxHeartbeats 40000000 in
theorem rsame22_any (w : World) (ao : Option Addr) (cap : Nat) (c : Cm) (h : Sl w ao c.L.length cap (ic c.L)) (bo : Option Addr) (dap : Nat) (d : Cm) (hd : Sl w bo d.L.length dap (ic d.L)) (v : Bool) (hv : c.same d = v) (hl : c.L.length ≤ 1000000000) :
    Calls Try.prog 20 #[.agg (c.C (.slice ao c.L.length cap)).toArray, .agg (d.C (.slice bo d.L.length dap)).toArray] w fun e w' => e = .returned (.bool v) ∧ Below w.heap.size w w' := by
  obtain ⟨k, lo, a, b, n, p, L, x0, x1, x2, x3, x4, x5, x6, x7, x8, x9, x10, f0, f1, f2, f3, f4⟩ := c
  obtain ⟨k', lo', a', b', n', p', M, x0', x1', x2', x3', x4', x5', x6', x7', x8', x9', x10', f0', f1', f2', f3', f4'⟩ := d
  replace h : Sl w ao L.length cap (ic L) := h
  replace hd : Sl w bo M.length dap (ic M) := hd
  replace hl : L.length ≤ 1000000000 := hl
  show Calls Try.prog 20 #[.agg #[.int .i64 k, .int .i64 lo, .int .i64 a, .int .i64 b, .int .i64 n, .int .i64 p, .slice ao L.length cap, .int .i64 x0, .int .i64 x1, .int .i64 x2, .int .i64 x3, .int .i64 x4, .int .i64 x5, .int .i64 x6, .int .i64 x7, .int .i64 x8, .int .i64 x9, .int .i64 x10, .int .i64 f0, .int .i64 f1, .int .i64 f2, .int .i64 f3, .int .i64 f4], .agg #[.int .i64 k', .int .i64 lo', .int .i64 a', .int .i64 b', .int .i64 n', .int .i64 p', .slice bo M.length dap, .int .i64 x0', .int .i64 x1', .int .i64 x2', .int .i64 x3', .int .i64 x4', .int .i64 x5', .int .i64 x6', .int .i64 x7', .int .i64 x8', .int .i64 x9', .int .i64 x10', .int .i64 f0', .int .i64 f1', .int .i64 f2', .int .i64 f3', .int .i64 f4']] w _
  have HB0 := Lib.hid (below_new2 w (.cells #[.int .i64 k, .int .i64 lo, .int .i64 a, .int .i64 b, .int .i64 n, .int .i64 p, .slice ao L.length cap, .int .i64 x0, .int .i64 x1, .int .i64 x2, .int .i64 x3, .int .i64 x4, .int .i64 x5, .int .i64 x6, .int .i64 x7, .int .i64 x8, .int .i64 x9, .int .i64 x10, .int .i64 f0, .int .i64 f1, .int .i64 f2, .int .i64 f3, .int .i64 f4] 45) (.cells #[.int .i64 k', .int .i64 lo', .int .i64 a', .int .i64 b', .int .i64 n', .int .i64 p', .slice bo M.length dap, .int .i64 x0', .int .i64 x1', .int .i64 x2', .int .i64 x3', .int .i64 x4', .int .i64 x5', .int .i64 x6', .int .i64 x7', .int .i64 x8', .int .i64 x9', .int .i64 x10', .int .i64 f0', .int .i64 f1', .int .i64 f2', .int .i64 f3', .int .i64 f4'] 45))
  have HA0 := Lib.hid ((Blk.new w 45 [.int .i64 k, .int .i64 lo, .int .i64 a, .int .i64 b, .int .i64 n, .int .i64 p, .slice ao L.length cap, .int .i64 x0, .int .i64 x1, .int .i64 x2, .int .i64 x3, .int .i64 x4, .int .i64 x5, .int .i64 x6, .int .i64 x7, .int .i64 x8, .int .i64 x9, .int .i64 x10, .int .i64 f0, .int .i64 f1, .int .i64 f2, .int .i64 f3, .int .i64 f4]).alloc (.cells #[.int .i64 k', .int .i64 lo', .int .i64 a', .int .i64 b', .int .i64 n', .int .i64 p', .slice bo M.length dap, .int .i64 x0', .int .i64 x1', .int .i64 x2', .int .i64 x3', .int .i64 x4', .int .i64 x5', .int .i64 x6', .int .i64 x7', .int .i64 x8', .int .i64 x9', .int .i64 x10', .int .i64 f0', .int .i64 f1', .int .i64 f2', .int .i64 f3', .int .i64 f4'] 45))
  have HB_0 := Lib.hid (Blk.new2 w (.cells #[.int .i64 k, .int .i64 lo, .int .i64 a, .int .i64 b, .int .i64 n, .int .i64 p, .slice ao L.length cap, .int .i64 x0, .int .i64 x1, .int .i64 x2, .int .i64 x3, .int .i64 x4, .int .i64 x5, .int .i64 x6, .int .i64 x7, .int .i64 x8, .int .i64 x9, .int .i64 x10, .int .i64 f0, .int .i64 f1, .int .i64 f2, .int .i64 f3, .int .i64 f4] 45) 45 [.int .i64 k', .int .i64 lo', .int .i64 a', .int .i64 b', .int .i64 n', .int .i64 p', .slice bo M.length dap, .int .i64 x0', .int .i64 x1', .int .i64 x2', .int .i64 x3', .int .i64 x4', .int .i64 x5', .int .i64 x6', .int .i64 x7', .int .i64 x8', .int .i64 x9', .int .i64 x10', .int .i64 f0', .int .i64 f1', .int .i64 f2', .int .i64 f3', .int .i64 f4'])
  have HS1 := Lib.hid (h.keeps HB0.out)
  have HS2 := Lib.hid (hd.keeps HB0.out)
  have HV := Lib.hid hv
  clear hv h hd
  have hall : (k = k' ∧ lo = lo' ∧ a = a' ∧ b = b' ∧ n = n' ∧ p = p' ∧ f0 = f0' ∧ f1 = f1' ∧ f2 = f2' ∧ f3 = f3' ∧ f4 = f4') ∨ ((¬ k = k') ∨ (k = k' ∧ ¬ lo = lo') ∨ (k = k' ∧ lo = lo' ∧ ¬ a = a') ∨ (k = k' ∧ lo = lo' ∧ a = a' ∧ ¬ b = b') ∨ (k = k' ∧ lo = lo' ∧ a = a' ∧ b = b' ∧ ¬ n = n') ∨ (k = k' ∧ lo = lo' ∧ a = a' ∧ b = b' ∧ n = n' ∧ ¬ p = p') ∨ (k = k' ∧ lo = lo' ∧ a = a' ∧ b = b' ∧ n = n' ∧ p = p' ∧ ¬ f0 = f0') ∨ (k = k' ∧ lo = lo' ∧ a = a' ∧ b = b' ∧ n = n' ∧ p = p' ∧ f0 = f0' ∧ ¬ f1 = f1') ∨ (k = k' ∧ lo = lo' ∧ a = a' ∧ b = b' ∧ n = n' ∧ p = p' ∧ f0 = f0' ∧ f1 = f1' ∧ ¬ f2 = f2') ∨ (k = k' ∧ lo = lo' ∧ a = a' ∧ b = b' ∧ n = n' ∧ p = p' ∧ f0 = f0' ∧ f1 = f1' ∧ f2 = f2' ∧ ¬ f3 = f3') ∨ (k = k' ∧ lo = lo' ∧ a = a' ∧ b = b' ∧ n = n' ∧ p = p' ∧ f0 = f0' ∧ f1 = f1' ∧ f2 = f2' ∧ f3 = f3' ∧ ¬ f4 = f4')) := by
    by_cases e0 : k = k'
    · by_cases e1 : lo = lo'
      · by_cases e2 : a = a'
        · by_cases e3 : b = b'
          · by_cases e4 : n = n'
            · by_cases e5 : p = p'
              · by_cases e6 : f0 = f0'
                · by_cases e7 : f1 = f1'
                  · by_cases e8 : f2 = f2'
                    · by_cases e9 : f3 = f3'
                      · by_cases e10 : f4 = f4'
                        · exact .inl ⟨e0, e1, e2, e3, e4, e5, e6, e7, e8, e9, e10⟩
                        · exact .inr (.inr (.inr (.inr (.inr (.inr (.inr (.inr (.inr (.inr (.inr ⟨e0, e1, e2, e3, e4, e5, e6, e7, e8, e9, e10⟩))))))))))
                      · exact .inr (.inr (.inr (.inr (.inr (.inr (.inr (.inr (.inr (.inr (.inl ⟨e0, e1, e2, e3, e4, e5, e6, e7, e8, e9⟩))))))))))
                    · exact .inr (.inr (.inr (.inr (.inr (.inr (.inr (.inr (.inr (.inl ⟨e0, e1, e2, e3, e4, e5, e6, e7, e8⟩)))))))))
                  · exact .inr (.inr (.inr (.inr (.inr (.inr (.inr (.inr (.inl ⟨e0, e1, e2, e3, e4, e5, e6, e7⟩))))))))
                · exact .inr (.inr (.inr (.inr (.inr (.inr (.inr (.inl ⟨e0, e1, e2, e3, e4, e5, e6⟩)))))))
              · exact .inr (.inr (.inr (.inr (.inr (.inr (.inl ⟨e0, e1, e2, e3, e4, e5⟩))))))
            · exact .inr (.inr (.inr (.inr (.inr (.inl ⟨e0, e1, e2, e3, e4⟩)))))
          · exact .inr (.inr (.inr (.inr (.inl ⟨e0, e1, e2, e3⟩))))
        · exact .inr (.inr (.inr (.inl ⟨e0, e1, e2⟩)))
      · exact .inr (.inr (.inl ⟨e0, e1⟩))
    · exact .inr (.inl e0)
  rcases hall with ⟨e0, e1, e2, e3, e4, e5, e6, e7, e8, e9, e10⟩ | hne
  · subst e0; subst e1; subst e2; subst e3; subst e4; subst e5; subst e6; subst e7; subst e8; subst e9; subst e10
    obtain ⟨lq, hlq⟩ : ∃ q, decide (L = M) = q := ⟨_, rfl⟩
    obtain ⟨nq, hnq⟩ : ∃ q, decide ([x0, x1, x2, x3, x4, x5, x6, x7, x8, x9, x10] = [x0', x1', x2', x3', x4', x5', x6', x7', x8', x9', x10']) = q := ⟨_, rfl⟩
    have hv2 : (lq && nq) = v := by
      rw [← HV.out, Cm.same, ← hlq, ← hnq]
      simp only [Cm.H, Cm.F, Cm.N, decide_true, Bool.true_and] <;> rfl
    have HV2 := Lib.hid hv2
    have HE := Lib.hid (fun U (hu : Below ((w.alloc (.cells #[.int .i64 k, .int .i64 lo, .int .i64 a, .int .i64 b, .int .i64 n, .int .i64 p, .slice ao L.length cap, .int .i64 x0, .int .i64 x1, .int .i64 x2, .int .i64 x3, .int .i64 x4, .int .i64 x5, .int .i64 x6, .int .i64 x7, .int .i64 x8, .int .i64 x9, .int .i64 x10, .int .i64 f0, .int .i64 f1, .int .i64 f2, .int .i64 f3, .int .i64 f4] 45)).alloc (.cells #[.int .i64 k, .int .i64 lo, .int .i64 a, .int .i64 b, .int .i64 n, .int .i64 p, .slice bo M.length dap, .int .i64 x0', .int .i64 x1', .int .i64 x2', .int .i64 x3', .int .i64 x4', .int .i64 x5', .int .i64 x6', .int .i64 x7', .int .i64 x8', .int .i64 x9', .int .i64 x10', .int .i64 f0, .int .i64 f1, .int .i64 f2, .int .i64 f3, .int .i64 f4] 45)).heap.size ((w.alloc (.cells #[.int .i64 k, .int .i64 lo, .int .i64 a, .int .i64 b, .int .i64 n, .int .i64 p, .slice ao L.length cap, .int .i64 x0, .int .i64 x1, .int .i64 x2, .int .i64 x3, .int .i64 x4, .int .i64 x5, .int .i64 x6, .int .i64 x7, .int .i64 x8, .int .i64 x9, .int .i64 x10, .int .i64 f0, .int .i64 f1, .int .i64 f2, .int .i64 f3, .int .i64 f4] 45)).alloc (.cells #[.int .i64 k, .int .i64 lo, .int .i64 a, .int .i64 b, .int .i64 n, .int .i64 p, .slice bo M.length dap, .int .i64 x0', .int .i64 x1', .int .i64 x2', .int .i64 x3', .int .i64 x4', .int .i64 x5', .int .i64 x6', .int .i64 x7', .int .i64 x8', .int .i64 x9', .int .i64 x10', .int .i64 f0, .int .i64 f1, .int .i64 f2, .int .i64 f3, .int .i64 f4] 45)) U) => sameI_any U ao cap L bo dap M (HS1.out.keeps hu) (HS2.out.keeps hu) lq hlq hl)
    have HN1 := Lib.hid (fun U => rnumbers_any U ao cap L x0 x1 x2 x3 x4 x5 x6 x7 x8 x9 x10)
    have HN2 := Lib.hid (fun U => rnumbers_any U bo dap M x0' x1' x2' x3' x4' x5' x6' x7' x8' x9' x10')
    have HNQ := Lib.hid hnq
    clear HV hv2 hlq HS1 HS2 hnq
    cases lq with
    | false =>
      have HF : Hid (v = false) := by show _ = _; rw [← HV2.out]; rfl
      clear HV2 HNQ
      as_aux_lemma =>
        go_enter Try.func20, Try.ntmps20
        go_wp2
        obtain ⟨gb, hgb⟩ : ∃ g, w.heap.size + 1 = g := ⟨_, rfl⟩
        obtain ⟨ga, hga⟩ : ∃ g, w.heap.size = g := ⟨_, rfl⟩
        rw [hga] at HA0
        rw [hgb] at HB_0
        simp only [hgb]
        simp only [hga]
        clear hga hgb
        refine region_mono (by kernel_rfl) (by kernel_rfl) [some 5, some 6, some 7, some 8, some 9, some 10, some 11, some 12, some 13, some 14, some 15, some 16, some 17, some 18, some 19, some 20, some 21, some 22, some 23, some 24, some 25, some 26, some 27, some 28, some 29, some 30, some 31, some 32, some 33, some 34, some 35, some 36, some 37, some 38, some 39, some 40, some 41, some 42, some 43, some 44, some 45, some 46, some 47, some 48, some 49, some 50, some 51, some 52, some 53, some 54, some 55, some 56, some 57, some 58, some 59, some 60, some 61, some 62, some 63, some 64, some 65, some 66, some 67, some 68, some 69, some 4] (by kernel_rfl) w.heap.size w HB0.out (Nat.le_refl _) (fun i v WW => match i with | 0 => v = .pointer (some ⟨ga, 0, none⟩) | 1 => v = .int .i64 k | 2 => v = .pointer (some ⟨gb, 0, none⟩) | 3 => v = .int .i64 k | 4 => v = .bool true | 5 => v = .bool true | 6 => v = .pointer (some ⟨ga, 1, none⟩) | 7 => v = .int .i64 lo | 8 => v = .pointer (some ⟨gb, 1, none⟩) | 9 => v = .int .i64 lo | 10 => v = .bool true | 11 => v = .bool true | 12 => v = .bool true | 13 => v = .pointer (some ⟨ga, 2, none⟩) | 14 => v = .int .i64 a | 15 => v = .pointer (some ⟨gb, 2, none⟩) | 16 => v = .int .i64 a | 17 => v = .bool true | 18 => v = .bool true | 19 => v = .bool true | 20 => v = .pointer (some ⟨ga, 3, none⟩) | 21 => v = .int .i64 b | 22 => v = .pointer (some ⟨gb, 3, none⟩) | 23 => v = .int .i64 b | 24 => v = .bool true | 25 => v = .bool true | 26 => v = .bool true | 27 => v = .pointer (some ⟨ga, 4, none⟩) | 28 => v = .int .i64 n | 29 => v = .pointer (some ⟨gb, 4, none⟩) | 30 => v = .int .i64 n | 31 => v = .bool true | 32 => v = .bool true | 33 => v = .bool true | 34 => v = .pointer (some ⟨ga, 5, none⟩) | 35 => v = .int .i64 p | 36 => v = .pointer (some ⟨gb, 5, none⟩) | 37 => v = .int .i64 p | 38 => v = .bool true | 39 => v = .bool true | 40 => v = .bool true | 41 => v = .pointer (some ⟨ga, 18, none⟩) | 42 => v = .agg #[.int .i64 f0, .int .i64 f1, .int .i64 f2, .int .i64 f3, .int .i64 f4] | 43 => v = .pointer (some ⟨gb, 18, none⟩) | 44 => v = .agg #[.int .i64 f0, .int .i64 f1, .int .i64 f2, .int .i64 f3, .int .i64 f4] | 45 => v = .bool true | 46 => v = .bool true | 47 => v = .bool true | 48 => v = .pointer (some ⟨ga, 6, none⟩) | 49 => v = .pointer (some ⟨ga, 6, none⟩) | 50 => v = .slice ao L.length cap | 51 => v = .pointer (some ⟨gb, 6, none⟩) | 52 => v = .pointer (some ⟨gb, 6, none⟩) | 53 => v = .slice bo M.length dap | 54 => v = .bool false | 55 => v = .bool false | 56 => v = .bool false | 57 => v = undef | 58 => v = undef | 59 => v = undef | 60 => v = undef | 61 => v = undef | 62 => v = undef | 63 => v = undef | 64 => v = .bool false | 65 => v = .bool false | _ => True) ?_ ?_ ?_
        · intro i v WW WX h hbx
          rcases i with _ | _ | _ | _ | _ | _ | _ | _ | _ | _ | _ | _ | _ | _ | _ | _ | _ | _ | _ | _ | _ | _ | _ | _ | _ | _ | _ | _ | _ | _ | _ | _ | _ | _ | _ | _ | _ | _ | _ | _ | _ | _ | _ | _ | _ | _ | _ | _ | _ | _ | _ | _ | _ | _ | _ | _ | _ | _ | _ | _ | _ | _ | _ | _ | _ | _ | i
          · exact h
          · exact h
          · exact h
          · exact h
          · exact h
          · exact h
          · exact h
          · exact h
          · exact h
          · exact h
          · exact h
          · exact h
          · exact h
          · exact h
          · exact h
          · exact h
          · exact h
          · exact h
          · exact h
          · exact h
          · exact h
          · exact h
          · exact h
          · exact h
          · exact h
          · exact h
          · exact h
          · exact h
          · exact h
          · exact h
          · exact h
          · exact h
          · exact h
          · exact h
          · exact h
          · exact h
          · exact h
          · exact h
          · exact h
          · exact h
          · exact h
          · exact h
          · exact h
          · exact h
          · exact h
          · exact h
          · exact h
          · exact h
          · exact h
          · exact h
          · exact h
          · exact h
          · exact h
          · exact h
          · exact h
          · exact h
          · exact h
          · exact h
          · exact h
          · exact h
          · exact h
          · exact h
          · exact h
          · exact h
          · exact h
          · exact h
          · trivial
        · intro iI oO V AC WW ho hf hbw K hK
          have hlt : iI < 66 := by have := (Array.getElem?_eq_some_iff.1 ho).1; first | exact this | simpa using this
          rcases iI with _ | _ | _ | _ | _ | _ | _ | _ | _ | _ | _ | _ | _ | _ | _ | _ | _ | _ | _ | _ | _ | _ | _ | _ | _ | _ | _ | _ | _ | _ | _ | _ | _ | _ | _ | _ | _ | _ | _ | _ | _ | _ | _ | _ | _ | _ | _ | _ | _ | _ | _ | _ | _ | _ | _ | _ | _ | _ | _ | _ | _ | _ | _ | _ | _ | _ | iI
          · obtain rfl := Option.some.inj (show some _ = some oO from ho)
            rw [if_pos (by rfl)]
            have q2 : AC.tmps.getD 2 undef = .pointer (some ⟨ga, 0, none⟩) := hf.rest 2 (by kernel_rfl)
            go_simp
            exact hK _ _ (Below.refl _ _) rfl
          · obtain rfl := Option.some.inj (show some _ = some oO from ho)
            rw [if_pos (by rfl)]
            have q5 : AC.tmps.getD 5 undef = .pointer (some ⟨ga, 0, none⟩) := ((hf.dep ⟨0, .data⟩ (by simp) rfl).2 5 rfl).trans (hf.dep ⟨0, .data⟩ (by simp) rfl).1
            have hG := HA0.out.keeps hbw
            have z0 := hG.cell 0 _ rfl
            go_simp
            exact hK _ _ (Below.refl _ _) rfl
          · obtain rfl := Option.some.inj (show some _ = some oO from ho)
            rw [if_pos (by rfl)]
            have q3 : AC.tmps.getD 3 undef = .pointer (some ⟨gb, 0, none⟩) := hf.rest 3 (by kernel_rfl)
            go_simp
            exact hK _ _ (Below.refl _ _) rfl
          · obtain rfl := Option.some.inj (show some _ = some oO from ho)
            rw [if_pos (by rfl)]
            have q7 : AC.tmps.getD 7 undef = .pointer (some ⟨gb, 0, none⟩) := ((hf.dep ⟨2, .data⟩ (by simp) rfl).2 7 rfl).trans (hf.dep ⟨2, .data⟩ (by simp) rfl).1
            have hG := HB_0.out.keeps hbw
            have z0 := hG.cell 0 _ rfl
            go_simp
            exact hK _ _ (Below.refl _ _) rfl
          · obtain rfl := Option.some.inj (show some _ = some oO from ho)
            rw [if_pos (by rfl)]
            have q6 : AC.tmps.getD 6 undef = .int .i64 k := ((hf.dep ⟨1, .data⟩ (by simp) rfl).2 6 rfl).trans (hf.dep ⟨1, .data⟩ (by simp) rfl).1
            have q8 : AC.tmps.getD 8 undef = .int .i64 k := ((hf.dep ⟨3, .data⟩ (by simp) rfl).2 8 rfl).trans (hf.dep ⟨3, .data⟩ (by simp) rfl).1
            go_simp
            exact hK _ _ (Below.refl _ _) rfl
          · obtain rfl := Option.some.inj (show some _ = some oO from ho)
            rw [if_pos (by rfl)]
            have q9 : AC.tmps.getD 9 undef = .bool true := ((hf.dep ⟨4, .data⟩ (by simp) rfl).2 9 rfl).trans (hf.dep ⟨4, .data⟩ (by simp) rfl).1
            go_simp
            exact hK _ _ (Below.refl _ _) rfl
          · obtain rfl := Option.some.inj (show some _ = some oO from ho)
            rw [if_pos (wanted_yes (s := 10) rfl rfl rfl (by rw [hf.size]; simp) (((hf.dep ⟨5, .guard⟩ (by simp) rfl).2 10 rfl).trans (hf.dep ⟨5, .guard⟩ (by simp) rfl).1))]
            have q2 : AC.tmps.getD 2 undef = .pointer (some ⟨ga, 0, none⟩) := hf.rest 2 (by kernel_rfl)
            go_simp
            exact hK _ _ (Below.refl _ _) rfl
          · obtain rfl := Option.some.inj (show some _ = some oO from ho)
            rw [if_pos (wanted_yes (s := 10) rfl rfl rfl (by rw [hf.size]; simp) (((hf.dep ⟨5, .guard⟩ (by simp) rfl).2 10 rfl).trans (hf.dep ⟨5, .guard⟩ (by simp) rfl).1))]
            have q11 : AC.tmps.getD 11 undef = .pointer (some ⟨ga, 1, none⟩) := ((hf.dep ⟨6, .data⟩ (by simp) rfl).2 11 rfl).trans (hf.dep ⟨6, .data⟩ (by simp) rfl).1
            have hG := HA0.out.keeps hbw
            have z1 := hG.cell 1 _ rfl
            go_simp
            exact hK _ _ (Below.refl _ _) rfl
          · obtain rfl := Option.some.inj (show some _ = some oO from ho)
            rw [if_pos (wanted_yes (s := 10) rfl rfl rfl (by rw [hf.size]; simp) (((hf.dep ⟨5, .guard⟩ (by simp) rfl).2 10 rfl).trans (hf.dep ⟨5, .guard⟩ (by simp) rfl).1))]
            have q3 : AC.tmps.getD 3 undef = .pointer (some ⟨gb, 0, none⟩) := hf.rest 3 (by kernel_rfl)
            go_simp
            exact hK _ _ (Below.refl _ _) rfl
          · obtain rfl := Option.some.inj (show some _ = some oO from ho)
            rw [if_pos (wanted_yes (s := 10) rfl rfl rfl (by rw [hf.size]; simp) (((hf.dep ⟨5, .guard⟩ (by simp) rfl).2 10 rfl).trans (hf.dep ⟨5, .guard⟩ (by simp) rfl).1))]
            have q13 : AC.tmps.getD 13 undef = .pointer (some ⟨gb, 1, none⟩) := ((hf.dep ⟨8, .data⟩ (by simp) rfl).2 13 rfl).trans (hf.dep ⟨8, .data⟩ (by simp) rfl).1
            have hG := HB_0.out.keeps hbw
            have z1 := hG.cell 1 _ rfl
            go_simp
            exact hK _ _ (Below.refl _ _) rfl
          · obtain rfl := Option.some.inj (show some _ = some oO from ho)
            rw [if_pos (wanted_yes (s := 10) rfl rfl rfl (by rw [hf.size]; simp) (((hf.dep ⟨5, .guard⟩ (by simp) rfl).2 10 rfl).trans (hf.dep ⟨5, .guard⟩ (by simp) rfl).1))]
            have q12 : AC.tmps.getD 12 undef = .int .i64 lo := ((hf.dep ⟨7, .data⟩ (by simp) rfl).2 12 rfl).trans (hf.dep ⟨7, .data⟩ (by simp) rfl).1
            have q14 : AC.tmps.getD 14 undef = .int .i64 lo := ((hf.dep ⟨9, .data⟩ (by simp) rfl).2 14 rfl).trans (hf.dep ⟨9, .data⟩ (by simp) rfl).1
            go_simp
            exact hK _ _ (Below.refl _ _) rfl
          · obtain rfl := Option.some.inj (show some _ = some oO from ho)
            rw [if_pos (by rfl)]
            have q10 : AC.tmps.getD 10 undef = .bool true := ((hf.dep ⟨5, .data⟩ (by simp) rfl).2 10 rfl).trans (hf.dep ⟨5, .data⟩ (by simp) rfl).1
            have q15 : AC.tmps.getD 15 undef = .bool true := ((hf.dep ⟨10, .data⟩ (by simp) rfl).2 15 rfl).trans (hf.dep ⟨10, .data⟩ (by simp) rfl).1
            go_simp
            exact hK _ _ (Below.refl _ _) rfl
          · obtain rfl := Option.some.inj (show some _ = some oO from ho)
            rw [if_pos (by rfl)]
            have q16 : AC.tmps.getD 16 undef = .bool true := ((hf.dep ⟨11, .data⟩ (by simp) rfl).2 16 rfl).trans (hf.dep ⟨11, .data⟩ (by simp) rfl).1
            go_simp
            exact hK _ _ (Below.refl _ _) rfl
          · obtain rfl := Option.some.inj (show some _ = some oO from ho)
            rw [if_pos (wanted_yes (s := 17) rfl rfl rfl (by rw [hf.size]; simp) (((hf.dep ⟨12, .guard⟩ (by simp) rfl).2 17 rfl).trans (hf.dep ⟨12, .guard⟩ (by simp) rfl).1))]
            have q2 : AC.tmps.getD 2 undef = .pointer (some ⟨ga, 0, none⟩) := hf.rest 2 (by kernel_rfl)
            go_simp
            exact hK _ _ (Below.refl _ _) rfl
          · obtain rfl := Option.some.inj (show some _ = some oO from ho)
            rw [if_pos (wanted_yes (s := 17) rfl rfl rfl (by rw [hf.size]; simp) (((hf.dep ⟨12, .guard⟩ (by simp) rfl).2 17 rfl).trans (hf.dep ⟨12, .guard⟩ (by simp) rfl).1))]
            have q18 : AC.tmps.getD 18 undef = .pointer (some ⟨ga, 2, none⟩) := ((hf.dep ⟨13, .data⟩ (by simp) rfl).2 18 rfl).trans (hf.dep ⟨13, .data⟩ (by simp) rfl).1
            have hG := HA0.out.keeps hbw
            have z2 := hG.cell 2 _ rfl
            go_simp
            exact hK _ _ (Below.refl _ _) rfl
          · obtain rfl := Option.some.inj (show some _ = some oO from ho)
            rw [if_pos (wanted_yes (s := 17) rfl rfl rfl (by rw [hf.size]; simp) (((hf.dep ⟨12, .guard⟩ (by simp) rfl).2 17 rfl).trans (hf.dep ⟨12, .guard⟩ (by simp) rfl).1))]
            have q3 : AC.tmps.getD 3 undef = .pointer (some ⟨gb, 0, none⟩) := hf.rest 3 (by kernel_rfl)
            go_simp
            exact hK _ _ (Below.refl _ _) rfl
          · obtain rfl := Option.some.inj (show some _ = some oO from ho)
            rw [if_pos (wanted_yes (s := 17) rfl rfl rfl (by rw [hf.size]; simp) (((hf.dep ⟨12, .guard⟩ (by simp) rfl).2 17 rfl).trans (hf.dep ⟨12, .guard⟩ (by simp) rfl).1))]
            have q20 : AC.tmps.getD 20 undef = .pointer (some ⟨gb, 2, none⟩) := ((hf.dep ⟨15, .data⟩ (by simp) rfl).2 20 rfl).trans (hf.dep ⟨15, .data⟩ (by simp) rfl).1
            have hG := HB_0.out.keeps hbw
            have z2 := hG.cell 2 _ rfl
            go_simp
            exact hK _ _ (Below.refl _ _) rfl
          · obtain rfl := Option.some.inj (show some _ = some oO from ho)
            rw [if_pos (wanted_yes (s := 17) rfl rfl rfl (by rw [hf.size]; simp) (((hf.dep ⟨12, .guard⟩ (by simp) rfl).2 17 rfl).trans (hf.dep ⟨12, .guard⟩ (by simp) rfl).1))]
            have q19 : AC.tmps.getD 19 undef = .int .i64 a := ((hf.dep ⟨14, .data⟩ (by simp) rfl).2 19 rfl).trans (hf.dep ⟨14, .data⟩ (by simp) rfl).1
            have q21 : AC.tmps.getD 21 undef = .int .i64 a := ((hf.dep ⟨16, .data⟩ (by simp) rfl).2 21 rfl).trans (hf.dep ⟨16, .data⟩ (by simp) rfl).1
            go_simp
            exact hK _ _ (Below.refl _ _) rfl
          · obtain rfl := Option.some.inj (show some _ = some oO from ho)
            rw [if_pos (by rfl)]
            have q17 : AC.tmps.getD 17 undef = .bool true := ((hf.dep ⟨12, .data⟩ (by simp) rfl).2 17 rfl).trans (hf.dep ⟨12, .data⟩ (by simp) rfl).1
            have q22 : AC.tmps.getD 22 undef = .bool true := ((hf.dep ⟨17, .data⟩ (by simp) rfl).2 22 rfl).trans (hf.dep ⟨17, .data⟩ (by simp) rfl).1
            go_simp
            exact hK _ _ (Below.refl _ _) rfl
          · obtain rfl := Option.some.inj (show some _ = some oO from ho)
            rw [if_pos (by rfl)]
            have q23 : AC.tmps.getD 23 undef = .bool true := ((hf.dep ⟨18, .data⟩ (by simp) rfl).2 23 rfl).trans (hf.dep ⟨18, .data⟩ (by simp) rfl).1
            go_simp
            exact hK _ _ (Below.refl _ _) rfl
          · obtain rfl := Option.some.inj (show some _ = some oO from ho)
            rw [if_pos (wanted_yes (s := 24) rfl rfl rfl (by rw [hf.size]; simp) (((hf.dep ⟨19, .guard⟩ (by simp) rfl).2 24 rfl).trans (hf.dep ⟨19, .guard⟩ (by simp) rfl).1))]
            have q2 : AC.tmps.getD 2 undef = .pointer (some ⟨ga, 0, none⟩) := hf.rest 2 (by kernel_rfl)
            go_simp
            exact hK _ _ (Below.refl _ _) rfl
          · obtain rfl := Option.some.inj (show some _ = some oO from ho)
            rw [if_pos (wanted_yes (s := 24) rfl rfl rfl (by rw [hf.size]; simp) (((hf.dep ⟨19, .guard⟩ (by simp) rfl).2 24 rfl).trans (hf.dep ⟨19, .guard⟩ (by simp) rfl).1))]
            have q25 : AC.tmps.getD 25 undef = .pointer (some ⟨ga, 3, none⟩) := ((hf.dep ⟨20, .data⟩ (by simp) rfl).2 25 rfl).trans (hf.dep ⟨20, .data⟩ (by simp) rfl).1
            have hG := HA0.out.keeps hbw
            have z3 := hG.cell 3 _ rfl
            go_simp
            exact hK _ _ (Below.refl _ _) rfl
          · obtain rfl := Option.some.inj (show some _ = some oO from ho)
            rw [if_pos (wanted_yes (s := 24) rfl rfl rfl (by rw [hf.size]; simp) (((hf.dep ⟨19, .guard⟩ (by simp) rfl).2 24 rfl).trans (hf.dep ⟨19, .guard⟩ (by simp) rfl).1))]
            have q3 : AC.tmps.getD 3 undef = .pointer (some ⟨gb, 0, none⟩) := hf.rest 3 (by kernel_rfl)
            go_simp
            exact hK _ _ (Below.refl _ _) rfl
          · obtain rfl := Option.some.inj (show some _ = some oO from ho)
            rw [if_pos (wanted_yes (s := 24) rfl rfl rfl (by rw [hf.size]; simp) (((hf.dep ⟨19, .guard⟩ (by simp) rfl).2 24 rfl).trans (hf.dep ⟨19, .guard⟩ (by simp) rfl).1))]
            have q27 : AC.tmps.getD 27 undef = .pointer (some ⟨gb, 3, none⟩) := ((hf.dep ⟨22, .data⟩ (by simp) rfl).2 27 rfl).trans (hf.dep ⟨22, .data⟩ (by simp) rfl).1
            have hG := HB_0.out.keeps hbw
            have z3 := hG.cell 3 _ rfl
            go_simp
            exact hK _ _ (Below.refl _ _) rfl
          · obtain rfl := Option.some.inj (show some _ = some oO from ho)
            rw [if_pos (wanted_yes (s := 24) rfl rfl rfl (by rw [hf.size]; simp) (((hf.dep ⟨19, .guard⟩ (by simp) rfl).2 24 rfl).trans (hf.dep ⟨19, .guard⟩ (by simp) rfl).1))]
            have q26 : AC.tmps.getD 26 undef = .int .i64 b := ((hf.dep ⟨21, .data⟩ (by simp) rfl).2 26 rfl).trans (hf.dep ⟨21, .data⟩ (by simp) rfl).1
            have q28 : AC.tmps.getD 28 undef = .int .i64 b := ((hf.dep ⟨23, .data⟩ (by simp) rfl).2 28 rfl).trans (hf.dep ⟨23, .data⟩ (by simp) rfl).1
            go_simp
            exact hK _ _ (Below.refl _ _) rfl
          · obtain rfl := Option.some.inj (show some _ = some oO from ho)
            rw [if_pos (by rfl)]
            have q24 : AC.tmps.getD 24 undef = .bool true := ((hf.dep ⟨19, .data⟩ (by simp) rfl).2 24 rfl).trans (hf.dep ⟨19, .data⟩ (by simp) rfl).1
            have q29 : AC.tmps.getD 29 undef = .bool true := ((hf.dep ⟨24, .data⟩ (by simp) rfl).2 29 rfl).trans (hf.dep ⟨24, .data⟩ (by simp) rfl).1
            go_simp
            exact hK _ _ (Below.refl _ _) rfl
          · obtain rfl := Option.some.inj (show some _ = some oO from ho)
            rw [if_pos (by rfl)]
            have q30 : AC.tmps.getD 30 undef = .bool true := ((hf.dep ⟨25, .data⟩ (by simp) rfl).2 30 rfl).trans (hf.dep ⟨25, .data⟩ (by simp) rfl).1
            go_simp
            exact hK _ _ (Below.refl _ _) rfl
          · obtain rfl := Option.some.inj (show some _ = some oO from ho)
            rw [if_pos (wanted_yes (s := 31) rfl rfl rfl (by rw [hf.size]; simp) (((hf.dep ⟨26, .guard⟩ (by simp) rfl).2 31 rfl).trans (hf.dep ⟨26, .guard⟩ (by simp) rfl).1))]
            have q2 : AC.tmps.getD 2 undef = .pointer (some ⟨ga, 0, none⟩) := hf.rest 2 (by kernel_rfl)
            go_simp
            exact hK _ _ (Below.refl _ _) rfl
          · obtain rfl := Option.some.inj (show some _ = some oO from ho)
            rw [if_pos (wanted_yes (s := 31) rfl rfl rfl (by rw [hf.size]; simp) (((hf.dep ⟨26, .guard⟩ (by simp) rfl).2 31 rfl).trans (hf.dep ⟨26, .guard⟩ (by simp) rfl).1))]
            have q32 : AC.tmps.getD 32 undef = .pointer (some ⟨ga, 4, none⟩) := ((hf.dep ⟨27, .data⟩ (by simp) rfl).2 32 rfl).trans (hf.dep ⟨27, .data⟩ (by simp) rfl).1
            have hG := HA0.out.keeps hbw
            have z4 := hG.cell 4 _ rfl
            go_simp
            exact hK _ _ (Below.refl _ _) rfl
          · obtain rfl := Option.some.inj (show some _ = some oO from ho)
            rw [if_pos (wanted_yes (s := 31) rfl rfl rfl (by rw [hf.size]; simp) (((hf.dep ⟨26, .guard⟩ (by simp) rfl).2 31 rfl).trans (hf.dep ⟨26, .guard⟩ (by simp) rfl).1))]
            have q3 : AC.tmps.getD 3 undef = .pointer (some ⟨gb, 0, none⟩) := hf.rest 3 (by kernel_rfl)
            go_simp
            exact hK _ _ (Below.refl _ _) rfl
          · obtain rfl := Option.some.inj (show some _ = some oO from ho)
            rw [if_pos (wanted_yes (s := 31) rfl rfl rfl (by rw [hf.size]; simp) (((hf.dep ⟨26, .guard⟩ (by simp) rfl).2 31 rfl).trans (hf.dep ⟨26, .guard⟩ (by simp) rfl).1))]
            have q34 : AC.tmps.getD 34 undef = .pointer (some ⟨gb, 4, none⟩) := ((hf.dep ⟨29, .data⟩ (by simp) rfl).2 34 rfl).trans (hf.dep ⟨29, .data⟩ (by simp) rfl).1
            have hG := HB_0.out.keeps hbw
            have z4 := hG.cell 4 _ rfl
            go_simp
            exact hK _ _ (Below.refl _ _) rfl
          · obtain rfl := Option.some.inj (show some _ = some oO from ho)
            rw [if_pos (wanted_yes (s := 31) rfl rfl rfl (by rw [hf.size]; simp) (((hf.dep ⟨26, .guard⟩ (by simp) rfl).2 31 rfl).trans (hf.dep ⟨26, .guard⟩ (by simp) rfl).1))]
            have q33 : AC.tmps.getD 33 undef = .int .i64 n := ((hf.dep ⟨28, .data⟩ (by simp) rfl).2 33 rfl).trans (hf.dep ⟨28, .data⟩ (by simp) rfl).1
            have q35 : AC.tmps.getD 35 undef = .int .i64 n := ((hf.dep ⟨30, .data⟩ (by simp) rfl).2 35 rfl).trans (hf.dep ⟨30, .data⟩ (by simp) rfl).1
            go_simp
            exact hK _ _ (Below.refl _ _) rfl
          · obtain rfl := Option.some.inj (show some _ = some oO from ho)
            rw [if_pos (by rfl)]
            have q31 : AC.tmps.getD 31 undef = .bool true := ((hf.dep ⟨26, .data⟩ (by simp) rfl).2 31 rfl).trans (hf.dep ⟨26, .data⟩ (by simp) rfl).1
            have q36 : AC.tmps.getD 36 undef = .bool true := ((hf.dep ⟨31, .data⟩ (by simp) rfl).2 36 rfl).trans (hf.dep ⟨31, .data⟩ (by simp) rfl).1
            go_simp
            exact hK _ _ (Below.refl _ _) rfl
          · obtain rfl := Option.some.inj (show some _ = some oO from ho)
            rw [if_pos (by rfl)]
            have q37 : AC.tmps.getD 37 undef = .bool true := ((hf.dep ⟨32, .data⟩ (by simp) rfl).2 37 rfl).trans (hf.dep ⟨32, .data⟩ (by simp) rfl).1
            go_simp
            exact hK _ _ (Below.refl _ _) rfl
          · obtain rfl := Option.some.inj (show some _ = some oO from ho)
            rw [if_pos (wanted_yes (s := 38) rfl rfl rfl (by rw [hf.size]; simp) (((hf.dep ⟨33, .guard⟩ (by simp) rfl).2 38 rfl).trans (hf.dep ⟨33, .guard⟩ (by simp) rfl).1))]
            have q2 : AC.tmps.getD 2 undef = .pointer (some ⟨ga, 0, none⟩) := hf.rest 2 (by kernel_rfl)
            go_simp
            exact hK _ _ (Below.refl _ _) rfl
          · obtain rfl := Option.some.inj (show some _ = some oO from ho)
            rw [if_pos (wanted_yes (s := 38) rfl rfl rfl (by rw [hf.size]; simp) (((hf.dep ⟨33, .guard⟩ (by simp) rfl).2 38 rfl).trans (hf.dep ⟨33, .guard⟩ (by simp) rfl).1))]
            have q39 : AC.tmps.getD 39 undef = .pointer (some ⟨ga, 5, none⟩) := ((hf.dep ⟨34, .data⟩ (by simp) rfl).2 39 rfl).trans (hf.dep ⟨34, .data⟩ (by simp) rfl).1
            have hG := HA0.out.keeps hbw
            have z5 := hG.cell 5 _ rfl
            go_simp
            exact hK _ _ (Below.refl _ _) rfl
          · obtain rfl := Option.some.inj (show some _ = some oO from ho)
            rw [if_pos (wanted_yes (s := 38) rfl rfl rfl (by rw [hf.size]; simp) (((hf.dep ⟨33, .guard⟩ (by simp) rfl).2 38 rfl).trans (hf.dep ⟨33, .guard⟩ (by simp) rfl).1))]
            have q3 : AC.tmps.getD 3 undef = .pointer (some ⟨gb, 0, none⟩) := hf.rest 3 (by kernel_rfl)
            go_simp
            exact hK _ _ (Below.refl _ _) rfl
          · obtain rfl := Option.some.inj (show some _ = some oO from ho)
            rw [if_pos (wanted_yes (s := 38) rfl rfl rfl (by rw [hf.size]; simp) (((hf.dep ⟨33, .guard⟩ (by simp) rfl).2 38 rfl).trans (hf.dep ⟨33, .guard⟩ (by simp) rfl).1))]
            have q41 : AC.tmps.getD 41 undef = .pointer (some ⟨gb, 5, none⟩) := ((hf.dep ⟨36, .data⟩ (by simp) rfl).2 41 rfl).trans (hf.dep ⟨36, .data⟩ (by simp) rfl).1
            have hG := HB_0.out.keeps hbw
            have z5 := hG.cell 5 _ rfl
            go_simp
            exact hK _ _ (Below.refl _ _) rfl
          · obtain rfl := Option.some.inj (show some _ = some oO from ho)
            rw [if_pos (wanted_yes (s := 38) rfl rfl rfl (by rw [hf.size]; simp) (((hf.dep ⟨33, .guard⟩ (by simp) rfl).2 38 rfl).trans (hf.dep ⟨33, .guard⟩ (by simp) rfl).1))]
            have q40 : AC.tmps.getD 40 undef = .int .i64 p := ((hf.dep ⟨35, .data⟩ (by simp) rfl).2 40 rfl).trans (hf.dep ⟨35, .data⟩ (by simp) rfl).1
            have q42 : AC.tmps.getD 42 undef = .int .i64 p := ((hf.dep ⟨37, .data⟩ (by simp) rfl).2 42 rfl).trans (hf.dep ⟨37, .data⟩ (by simp) rfl).1
            go_simp
            exact hK _ _ (Below.refl _ _) rfl
          · obtain rfl := Option.some.inj (show some _ = some oO from ho)
            rw [if_pos (by rfl)]
            have q38 : AC.tmps.getD 38 undef = .bool true := ((hf.dep ⟨33, .data⟩ (by simp) rfl).2 38 rfl).trans (hf.dep ⟨33, .data⟩ (by simp) rfl).1
            have q43 : AC.tmps.getD 43 undef = .bool true := ((hf.dep ⟨38, .data⟩ (by simp) rfl).2 43 rfl).trans (hf.dep ⟨38, .data⟩ (by simp) rfl).1
            go_simp
            exact hK _ _ (Below.refl _ _) rfl
          · obtain rfl := Option.some.inj (show some _ = some oO from ho)
            rw [if_pos (by rfl)]
            have q44 : AC.tmps.getD 44 undef = .bool true := ((hf.dep ⟨39, .data⟩ (by simp) rfl).2 44 rfl).trans (hf.dep ⟨39, .data⟩ (by simp) rfl).1
            go_simp
            exact hK _ _ (Below.refl _ _) rfl
          · obtain rfl := Option.some.inj (show some _ = some oO from ho)
            rw [if_pos (wanted_yes (s := 45) rfl rfl rfl (by rw [hf.size]; simp) (((hf.dep ⟨40, .guard⟩ (by simp) rfl).2 45 rfl).trans (hf.dep ⟨40, .guard⟩ (by simp) rfl).1))]
            have q2 : AC.tmps.getD 2 undef = .pointer (some ⟨ga, 0, none⟩) := hf.rest 2 (by kernel_rfl)
            go_simp
            exact hK _ _ (Below.refl _ _) rfl
          · obtain rfl := Option.some.inj (show some _ = some oO from ho)
            rw [if_pos (wanted_yes (s := 45) rfl rfl rfl (by rw [hf.size]; simp) (((hf.dep ⟨40, .guard⟩ (by simp) rfl).2 45 rfl).trans (hf.dep ⟨40, .guard⟩ (by simp) rfl).1))]
            have q46 : AC.tmps.getD 46 undef = .pointer (some ⟨ga, 18, none⟩) := ((hf.dep ⟨41, .data⟩ (by simp) rfl).2 46 rfl).trans (hf.dep ⟨41, .data⟩ (by simp) rfl).1
            have hG := HA0.out.keeps hbw
            have z18 := hG.cell 18 _ rfl
            have z19 := hG.cell 19 _ rfl
            have z20 := hG.cell 20 _ rfl
            have z21 := hG.cell 21 _ rfl
            have z22 := hG.cell 22 _ rfl
            go_simp
            exact hK _ _ (Below.refl _ _) rfl
          · obtain rfl := Option.some.inj (show some _ = some oO from ho)
            rw [if_pos (wanted_yes (s := 45) rfl rfl rfl (by rw [hf.size]; simp) (((hf.dep ⟨40, .guard⟩ (by simp) rfl).2 45 rfl).trans (hf.dep ⟨40, .guard⟩ (by simp) rfl).1))]
            have q3 : AC.tmps.getD 3 undef = .pointer (some ⟨gb, 0, none⟩) := hf.rest 3 (by kernel_rfl)
            go_simp
            exact hK _ _ (Below.refl _ _) rfl
          · obtain rfl := Option.some.inj (show some _ = some oO from ho)
            rw [if_pos (wanted_yes (s := 45) rfl rfl rfl (by rw [hf.size]; simp) (((hf.dep ⟨40, .guard⟩ (by simp) rfl).2 45 rfl).trans (hf.dep ⟨40, .guard⟩ (by simp) rfl).1))]
            have q48 : AC.tmps.getD 48 undef = .pointer (some ⟨gb, 18, none⟩) := ((hf.dep ⟨43, .data⟩ (by simp) rfl).2 48 rfl).trans (hf.dep ⟨43, .data⟩ (by simp) rfl).1
            have hG := HB_0.out.keeps hbw
            have z18 := hG.cell 18 _ rfl
            have z19 := hG.cell 19 _ rfl
            have z20 := hG.cell 20 _ rfl
            have z21 := hG.cell 21 _ rfl
            have z22 := hG.cell 22 _ rfl
            go_simp
            exact hK _ _ (Below.refl _ _) rfl
          · obtain rfl := Option.some.inj (show some _ = some oO from ho)
            rw [if_pos (wanted_yes (s := 45) rfl rfl rfl (by rw [hf.size]; simp) (((hf.dep ⟨40, .guard⟩ (by simp) rfl).2 45 rfl).trans (hf.dep ⟨40, .guard⟩ (by simp) rfl).1))]
            have q47 : AC.tmps.getD 47 undef = .agg #[.int .i64 f0, .int .i64 f1, .int .i64 f2, .int .i64 f3, .int .i64 f4] := ((hf.dep ⟨42, .data⟩ (by simp) rfl).2 47 rfl).trans (hf.dep ⟨42, .data⟩ (by simp) rfl).1
            have q49 : AC.tmps.getD 49 undef = .agg #[.int .i64 f0, .int .i64 f1, .int .i64 f2, .int .i64 f3, .int .i64 f4] := ((hf.dep ⟨44, .data⟩ (by simp) rfl).2 49 rfl).trans (hf.dep ⟨44, .data⟩ (by simp) rfl).1
            go_simp
            exact hK _ _ (Below.refl _ _) rfl
          · obtain rfl := Option.some.inj (show some _ = some oO from ho)
            rw [if_pos (by rfl)]
            have q45 : AC.tmps.getD 45 undef = .bool true := ((hf.dep ⟨40, .data⟩ (by simp) rfl).2 45 rfl).trans (hf.dep ⟨40, .data⟩ (by simp) rfl).1
            have q50 : AC.tmps.getD 50 undef = .bool true := ((hf.dep ⟨45, .data⟩ (by simp) rfl).2 50 rfl).trans (hf.dep ⟨45, .data⟩ (by simp) rfl).1
            go_simp
            exact hK _ _ (Below.refl _ _) rfl
          · obtain rfl := Option.some.inj (show some _ = some oO from ho)
            rw [if_pos (by rfl)]
            have q51 : AC.tmps.getD 51 undef = .bool true := ((hf.dep ⟨46, .data⟩ (by simp) rfl).2 51 rfl).trans (hf.dep ⟨46, .data⟩ (by simp) rfl).1
            go_simp
            exact hK _ _ (Below.refl _ _) rfl
          · obtain rfl := Option.some.inj (show some _ = some oO from ho)
            rw [if_pos (wanted_yes (s := 52) rfl rfl rfl (by rw [hf.size]; simp) (((hf.dep ⟨47, .guard⟩ (by simp) rfl).2 52 rfl).trans (hf.dep ⟨47, .guard⟩ (by simp) rfl).1))]
            have q2 : AC.tmps.getD 2 undef = .pointer (some ⟨ga, 0, none⟩) := hf.rest 2 (by kernel_rfl)
            go_simp
            exact hK _ _ (Below.refl _ _) rfl
          · obtain rfl := Option.some.inj (show some _ = some oO from ho)
            rw [if_pos (wanted_yes (s := 52) rfl rfl rfl (by rw [hf.size]; simp) (((hf.dep ⟨47, .guard⟩ (by simp) rfl).2 52 rfl).trans (hf.dep ⟨47, .guard⟩ (by simp) rfl).1))]
            have q53 : AC.tmps.getD 53 undef = .pointer (some ⟨ga, 6, none⟩) := ((hf.dep ⟨48, .data⟩ (by simp) rfl).2 53 rfl).trans (hf.dep ⟨48, .data⟩ (by simp) rfl).1
            go_simp
            exact hK _ _ (Below.refl _ _) rfl
          · obtain rfl := Option.some.inj (show some _ = some oO from ho)
            rw [if_pos (wanted_yes (s := 52) rfl rfl rfl (by rw [hf.size]; simp) (((hf.dep ⟨47, .guard⟩ (by simp) rfl).2 52 rfl).trans (hf.dep ⟨47, .guard⟩ (by simp) rfl).1))]
            have q54 : AC.tmps.getD 54 undef = .pointer (some ⟨ga, 6, none⟩) := ((hf.dep ⟨49, .data⟩ (by simp) rfl).2 54 rfl).trans (hf.dep ⟨49, .data⟩ (by simp) rfl).1
            have hG := HA0.out.keeps hbw
            have z6 := hG.cell 6 _ rfl
            go_simp
            exact hK _ _ (Below.refl _ _) rfl
          · obtain rfl := Option.some.inj (show some _ = some oO from ho)
            rw [if_pos (wanted_yes (s := 52) rfl rfl rfl (by rw [hf.size]; simp) (((hf.dep ⟨47, .guard⟩ (by simp) rfl).2 52 rfl).trans (hf.dep ⟨47, .guard⟩ (by simp) rfl).1))]
            have q3 : AC.tmps.getD 3 undef = .pointer (some ⟨gb, 0, none⟩) := hf.rest 3 (by kernel_rfl)
            go_simp
            exact hK _ _ (Below.refl _ _) rfl
          · obtain rfl := Option.some.inj (show some _ = some oO from ho)
            rw [if_pos (wanted_yes (s := 52) rfl rfl rfl (by rw [hf.size]; simp) (((hf.dep ⟨47, .guard⟩ (by simp) rfl).2 52 rfl).trans (hf.dep ⟨47, .guard⟩ (by simp) rfl).1))]
            have q56 : AC.tmps.getD 56 undef = .pointer (some ⟨gb, 6, none⟩) := ((hf.dep ⟨51, .data⟩ (by simp) rfl).2 56 rfl).trans (hf.dep ⟨51, .data⟩ (by simp) rfl).1
            go_simp
            exact hK _ _ (Below.refl _ _) rfl
          · obtain rfl := Option.some.inj (show some _ = some oO from ho)
            rw [if_pos (wanted_yes (s := 52) rfl rfl rfl (by rw [hf.size]; simp) (((hf.dep ⟨47, .guard⟩ (by simp) rfl).2 52 rfl).trans (hf.dep ⟨47, .guard⟩ (by simp) rfl).1))]
            have q57 : AC.tmps.getD 57 undef = .pointer (some ⟨gb, 6, none⟩) := ((hf.dep ⟨52, .data⟩ (by simp) rfl).2 57 rfl).trans (hf.dep ⟨52, .data⟩ (by simp) rfl).1
            have hG := HB_0.out.keeps hbw
            have z6 := hG.cell 6 _ rfl
            go_simp
            exact hK _ _ (Below.refl _ _) rfl
          · obtain rfl := Option.some.inj (show some _ = some oO from ho)
            rw [if_pos (wanted_yes (s := 52) rfl rfl rfl (by rw [hf.size]; simp) (((hf.dep ⟨47, .guard⟩ (by simp) rfl).2 52 rfl).trans (hf.dep ⟨47, .guard⟩ (by simp) rfl).1))]
            have q55 : AC.tmps.getD 55 undef = .slice ao L.length cap := ((hf.dep ⟨50, .data⟩ (by simp) rfl).2 55 rfl).trans (hf.dep ⟨50, .data⟩ (by simp) rfl).1
            have q58 : AC.tmps.getD 58 undef = .slice bo M.length dap := ((hf.dep ⟨53, .data⟩ (by simp) rfl).2 58 rfl).trans (hf.dep ⟨53, .data⟩ (by simp) rfl).1
            go_simp
            refine (HE.out WW hbw).mono ?_
            rintro e w9 ⟨rfl, hb9⟩
            exact hK _ _ hb9 rfl
          · obtain rfl := Option.some.inj (show some _ = some oO from ho)
            rw [if_pos (by rfl)]
            have q52 : AC.tmps.getD 52 undef = .bool true := ((hf.dep ⟨47, .data⟩ (by simp) rfl).2 52 rfl).trans (hf.dep ⟨47, .data⟩ (by simp) rfl).1
            have q59 : AC.tmps.getD 59 undef = .bool false := ((hf.dep ⟨54, .data⟩ (by simp) rfl).2 59 rfl).trans (hf.dep ⟨54, .data⟩ (by simp) rfl).1
            go_simp
            exact hK _ _ (Below.refl _ _) rfl
          · obtain rfl := Option.some.inj (show some _ = some oO from ho)
            rw [if_pos (by rfl)]
            have q60 : AC.tmps.getD 60 undef = .bool false := ((hf.dep ⟨55, .data⟩ (by simp) rfl).2 60 rfl).trans (hf.dep ⟨55, .data⟩ (by simp) rfl).1
            go_simp
            exact hK _ _ (Below.refl _ _) rfl
          · obtain rfl := Option.some.inj (show some _ = some oO from ho)
            rw [if_neg (wanted_no (s := 61) rfl rfl rfl (by rw [hf.size]; simp) (((hf.dep ⟨56, .guard⟩ (by simp) rfl).2 61 rfl).trans (hf.dep ⟨56, .guard⟩ (by simp) rfl).1) rfl)]
            exact hK _ _ (Below.refl _ _) rfl
          · obtain rfl := Option.some.inj (show some _ = some oO from ho)
            rw [if_neg (wanted_no (s := 61) rfl rfl rfl (by rw [hf.size]; simp) (((hf.dep ⟨56, .guard⟩ (by simp) rfl).2 61 rfl).trans (hf.dep ⟨56, .guard⟩ (by simp) rfl).1) rfl)]
            exact hK _ _ (Below.refl _ _) rfl
          · obtain rfl := Option.some.inj (show some _ = some oO from ho)
            rw [if_neg (wanted_no (s := 61) rfl rfl rfl (by rw [hf.size]; simp) (((hf.dep ⟨56, .guard⟩ (by simp) rfl).2 61 rfl).trans (hf.dep ⟨56, .guard⟩ (by simp) rfl).1) rfl)]
            exact hK _ _ (Below.refl _ _) rfl
          · obtain rfl := Option.some.inj (show some _ = some oO from ho)
            rw [if_neg (wanted_no (s := 61) rfl rfl rfl (by rw [hf.size]; simp) (((hf.dep ⟨56, .guard⟩ (by simp) rfl).2 61 rfl).trans (hf.dep ⟨56, .guard⟩ (by simp) rfl).1) rfl)]
            exact hK _ _ (Below.refl _ _) rfl
          · obtain rfl := Option.some.inj (show some _ = some oO from ho)
            rw [if_neg (wanted_no (s := 61) rfl rfl rfl (by rw [hf.size]; simp) (((hf.dep ⟨56, .guard⟩ (by simp) rfl).2 61 rfl).trans (hf.dep ⟨56, .guard⟩ (by simp) rfl).1) rfl)]
            exact hK _ _ (Below.refl _ _) rfl
          · obtain rfl := Option.some.inj (show some _ = some oO from ho)
            rw [if_neg (wanted_no (s := 61) rfl rfl rfl (by rw [hf.size]; simp) (((hf.dep ⟨56, .guard⟩ (by simp) rfl).2 61 rfl).trans (hf.dep ⟨56, .guard⟩ (by simp) rfl).1) rfl)]
            exact hK _ _ (Below.refl _ _) rfl
          · obtain rfl := Option.some.inj (show some _ = some oO from ho)
            rw [if_neg (wanted_no (s := 61) rfl rfl rfl (by rw [hf.size]; simp) (((hf.dep ⟨56, .guard⟩ (by simp) rfl).2 61 rfl).trans (hf.dep ⟨56, .guard⟩ (by simp) rfl).1) rfl)]
            exact hK _ _ (Below.refl _ _) rfl
          · obtain rfl := Option.some.inj (show some _ = some oO from ho)
            rw [if_pos (by rfl)]
            have q61 : AC.tmps.getD 61 undef = .bool false := ((hf.dep ⟨56, .data⟩ (by simp) rfl).2 61 rfl).trans (hf.dep ⟨56, .data⟩ (by simp) rfl).1
            have q68 : AC.tmps.getD 68 undef = undef := ((hf.dep ⟨63, .data⟩ (by simp) rfl).2 68 rfl).trans (hf.dep ⟨63, .data⟩ (by simp) rfl).1
            go_simp
            exact hK _ _ (Below.refl _ _) rfl
          · obtain rfl := Option.some.inj (show some _ = some oO from ho)
            rw [if_pos (by rfl)]
            have q69 : AC.tmps.getD 69 undef = .bool false := ((hf.dep ⟨64, .data⟩ (by simp) rfl).2 69 rfl).trans (hf.dep ⟨64, .data⟩ (by simp) rfl).1
            go_simp
            exact hK _ _ (Below.refl _ _) rfl
          · omega
        · intro V WW hall hbw hBW
          have vv0 : V 0 = .pointer (some ⟨ga, 0, none⟩) := hall 0 (by decide)
          have vv1 : V 1 = .int .i64 k := hall 1 (by decide)
          have vv2 : V 2 = .pointer (some ⟨gb, 0, none⟩) := hall 2 (by decide)
          have vv3 : V 3 = .int .i64 k := hall 3 (by decide)
          have vv4 : V 4 = .bool true := hall 4 (by decide)
          have vv5 : V 5 = .bool true := hall 5 (by decide)
          have vv6 : V 6 = .pointer (some ⟨ga, 1, none⟩) := hall 6 (by decide)
          have vv7 : V 7 = .int .i64 lo := hall 7 (by decide)
          have vv8 : V 8 = .pointer (some ⟨gb, 1, none⟩) := hall 8 (by decide)
          have vv9 : V 9 = .int .i64 lo := hall 9 (by decide)
          have vv10 : V 10 = .bool true := hall 10 (by decide)
          have vv11 : V 11 = .bool true := hall 11 (by decide)
          have vv12 : V 12 = .bool true := hall 12 (by decide)
          have vv13 : V 13 = .pointer (some ⟨ga, 2, none⟩) := hall 13 (by decide)
          have vv14 : V 14 = .int .i64 a := hall 14 (by decide)
          have vv15 : V 15 = .pointer (some ⟨gb, 2, none⟩) := hall 15 (by decide)
          have vv16 : V 16 = .int .i64 a := hall 16 (by decide)
          have vv17 : V 17 = .bool true := hall 17 (by decide)
          have vv18 : V 18 = .bool true := hall 18 (by decide)
          have vv19 : V 19 = .bool true := hall 19 (by decide)
          have vv20 : V 20 = .pointer (some ⟨ga, 3, none⟩) := hall 20 (by decide)
          have vv21 : V 21 = .int .i64 b := hall 21 (by decide)
          have vv22 : V 22 = .pointer (some ⟨gb, 3, none⟩) := hall 22 (by decide)
          have vv23 : V 23 = .int .i64 b := hall 23 (by decide)
          have vv24 : V 24 = .bool true := hall 24 (by decide)
          have vv25 : V 25 = .bool true := hall 25 (by decide)
          have vv26 : V 26 = .bool true := hall 26 (by decide)
          have vv27 : V 27 = .pointer (some ⟨ga, 4, none⟩) := hall 27 (by decide)
          have vv28 : V 28 = .int .i64 n := hall 28 (by decide)
          have vv29 : V 29 = .pointer (some ⟨gb, 4, none⟩) := hall 29 (by decide)
          have vv30 : V 30 = .int .i64 n := hall 30 (by decide)
          have vv31 : V 31 = .bool true := hall 31 (by decide)
          have vv32 : V 32 = .bool true := hall 32 (by decide)
          have vv33 : V 33 = .bool true := hall 33 (by decide)
          have vv34 : V 34 = .pointer (some ⟨ga, 5, none⟩) := hall 34 (by decide)
          have vv35 : V 35 = .int .i64 p := hall 35 (by decide)
          have vv36 : V 36 = .pointer (some ⟨gb, 5, none⟩) := hall 36 (by decide)
          have vv37 : V 37 = .int .i64 p := hall 37 (by decide)
          have vv38 : V 38 = .bool true := hall 38 (by decide)
          have vv39 : V 39 = .bool true := hall 39 (by decide)
          have vv40 : V 40 = .bool true := hall 40 (by decide)
          have vv41 : V 41 = .pointer (some ⟨ga, 18, none⟩) := hall 41 (by decide)
          have vv42 : V 42 = .agg #[.int .i64 f0, .int .i64 f1, .int .i64 f2, .int .i64 f3, .int .i64 f4] := hall 42 (by decide)
          have vv43 : V 43 = .pointer (some ⟨gb, 18, none⟩) := hall 43 (by decide)
          have vv44 : V 44 = .agg #[.int .i64 f0, .int .i64 f1, .int .i64 f2, .int .i64 f3, .int .i64 f4] := hall 44 (by decide)
          have vv45 : V 45 = .bool true := hall 45 (by decide)
          have vv46 : V 46 = .bool true := hall 46 (by decide)
          have vv47 : V 47 = .bool true := hall 47 (by decide)
          have vv48 : V 48 = .pointer (some ⟨ga, 6, none⟩) := hall 48 (by decide)
          have vv49 : V 49 = .pointer (some ⟨ga, 6, none⟩) := hall 49 (by decide)
          have vv50 : V 50 = .slice ao L.length cap := hall 50 (by decide)
          have vv51 : V 51 = .pointer (some ⟨gb, 6, none⟩) := hall 51 (by decide)
          have vv52 : V 52 = .pointer (some ⟨gb, 6, none⟩) := hall 52 (by decide)
          have vv53 : V 53 = .slice bo M.length dap := hall 53 (by decide)
          have vv54 : V 54 = .bool false := hall 54 (by decide)
          have vv55 : V 55 = .bool false := hall 55 (by decide)
          have vv56 : V 56 = .bool false := hall 56 (by decide)
          have vv57 : V 57 = undef := hall 57 (by decide)
          have vv58 : V 58 = undef := hall 58 (by decide)
          have vv59 : V 59 = undef := hall 59 (by decide)
          have vv60 : V 60 = undef := hall 60 (by decide)
          have vv61 : V 61 = undef := hall 61 (by decide)
          have vv62 : V 62 = undef := hall 62 (by decide)
          have vv63 : V 63 = undef := hall 63 (by decide)
          have vv64 : V 64 = .bool false := hall 64 (by decide)
          have vv65 : V 65 = .bool false := hall 65 (by decide)
          clear hall
          simp only [pairsOf, laid, Nat.zero_add, Nat.reduceAdd, vv0, vv1, vv2, vv3, vv4, vv5, vv6, vv7, vv8, vv9, vv10, vv11, vv12, vv13, vv14, vv15, vv16, vv17, vv18, vv19, vv20, vv21, vv22, vv23, vv24, vv25, vv26, vv27, vv28, vv29, vv30, vv31, vv32, vv33, vv34, vv35, vv36, vv37, vv38, vv39, vv40, vv41, vv42, vv43, vv44, vv45, vv46, vv47, vv48, vv49, vv50, vv51, vv52, vv53, vv54, vv55, vv56, vv57, vv58, vv59, vv60, vv61, vv62, vv63, vv64, vv65, List.setIfInBounds_toArray, List.set_cons_zero, List.set_cons_succ]
          clear vv0 vv1 vv2 vv3 vv4 vv5 vv6 vv7 vv8 vv9 vv10 vv11 vv12 vv13 vv14 vv15 vv16 vv17 vv18 vv19 vv20 vv21 vv22 vv23 vv24 vv25 vv26 vv27 vv28 vv29 vv30 vv31 vv32 vv33 vv34 vv35 vv36 vv37 vv38 vv39 vv40 vv41 vv42 vv43 vv44 vv45 vv46 vv47 vv48 vv49 vv50 vv51 vv52 vv53 vv54 vv55 vv56 vv57 vv58 vv59 vv60 vv61 vv62 vv63 vv64 vv65
          have HW := Lib.hid hBW
          clear hbw hBW
          go_wp2
          go_ret
          exact ⟨by rw [HF.out]; rfl, HW.out⟩
    | true =>
      have HF : Hid (v = nq) := by show _ = _; rw [← HV2.out]; rfl
      clear HV2
      as_aux_lemma =>
        go_enter Try.func20, Try.ntmps20
        go_wp2
        obtain ⟨gb, hgb⟩ : ∃ g, w.heap.size + 1 = g := ⟨_, rfl⟩
        obtain ⟨ga, hga⟩ : ∃ g, w.heap.size = g := ⟨_, rfl⟩
        rw [hga] at HA0
        rw [hgb] at HB_0
        simp only [hgb]
        simp only [hga]
        clear hga hgb
        refine region_mono (by kernel_rfl) (by kernel_rfl) [some 5, some 6, some 7, some 8, some 9, some 10, some 11, some 12, some 13, some 14, some 15, some 16, some 17, some 18, some 19, some 20, some 21, some 22, some 23, some 24, some 25, some 26, some 27, some 28, some 29, some 30, some 31, some 32, some 33, some 34, some 35, some 36, some 37, some 38, some 39, some 40, some 41, some 42, some 43, some 44, some 45, some 46, some 47, some 48, some 49, some 50, some 51, some 52, some 53, some 54, some 55, some 56, some 57, some 58, some 59, some 60, some 61, some 62, some 63, some 64, some 65, some 66, some 67, some 68, some 69, some 4] (by kernel_rfl) w.heap.size w HB0.out (Nat.le_refl _) (fun i v WW => match i with | 0 => v = .pointer (some ⟨ga, 0, none⟩) | 1 => v = .int .i64 k | 2 => v = .pointer (some ⟨gb, 0, none⟩) | 3 => v = .int .i64 k | 4 => v = .bool true | 5 => v = .bool true | 6 => v = .pointer (some ⟨ga, 1, none⟩) | 7 => v = .int .i64 lo | 8 => v = .pointer (some ⟨gb, 1, none⟩) | 9 => v = .int .i64 lo | 10 => v = .bool true | 11 => v = .bool true | 12 => v = .bool true | 13 => v = .pointer (some ⟨ga, 2, none⟩) | 14 => v = .int .i64 a | 15 => v = .pointer (some ⟨gb, 2, none⟩) | 16 => v = .int .i64 a | 17 => v = .bool true | 18 => v = .bool true | 19 => v = .bool true | 20 => v = .pointer (some ⟨ga, 3, none⟩) | 21 => v = .int .i64 b | 22 => v = .pointer (some ⟨gb, 3, none⟩) | 23 => v = .int .i64 b | 24 => v = .bool true | 25 => v = .bool true | 26 => v = .bool true | 27 => v = .pointer (some ⟨ga, 4, none⟩) | 28 => v = .int .i64 n | 29 => v = .pointer (some ⟨gb, 4, none⟩) | 30 => v = .int .i64 n | 31 => v = .bool true | 32 => v = .bool true | 33 => v = .bool true | 34 => v = .pointer (some ⟨ga, 5, none⟩) | 35 => v = .int .i64 p | 36 => v = .pointer (some ⟨gb, 5, none⟩) | 37 => v = .int .i64 p | 38 => v = .bool true | 39 => v = .bool true | 40 => v = .bool true | 41 => v = .pointer (some ⟨ga, 18, none⟩) | 42 => v = .agg #[.int .i64 f0, .int .i64 f1, .int .i64 f2, .int .i64 f3, .int .i64 f4] | 43 => v = .pointer (some ⟨gb, 18, none⟩) | 44 => v = .agg #[.int .i64 f0, .int .i64 f1, .int .i64 f2, .int .i64 f3, .int .i64 f4] | 45 => v = .bool true | 46 => v = .bool true | 47 => v = .bool true | 48 => v = .pointer (some ⟨ga, 6, none⟩) | 49 => v = .pointer (some ⟨ga, 6, none⟩) | 50 => v = .slice ao L.length cap | 51 => v = .pointer (some ⟨gb, 6, none⟩) | 52 => v = .pointer (some ⟨gb, 6, none⟩) | 53 => v = .slice bo M.length dap | 54 => v = .bool true | 55 => v = .bool true | 56 => v = .bool true | 57 => v = .pointer (some ⟨ga, 6, none⟩) | 58 => v = .agg #[.slice ao L.length cap, .int .i64 x0, .int .i64 x1, .int .i64 x2, .int .i64 x3, .int .i64 x4, .int .i64 x5, .int .i64 x6, .int .i64 x7, .int .i64 x8, .int .i64 x9, .int .i64 x10] | 59 => ∃ q, v = .slice (some ⟨q, 0, none⟩) 11 11 ∧ Sl WW (some ⟨q, 0, none⟩) 11 11 (ic [x0, x1, x2, x3, x4, x5, x6, x7, x8, x9, x10]) | 60 => v = .pointer (some ⟨gb, 6, none⟩) | 61 => v = .agg #[.slice bo M.length dap, .int .i64 x0', .int .i64 x1', .int .i64 x2', .int .i64 x3', .int .i64 x4', .int .i64 x5', .int .i64 x6', .int .i64 x7', .int .i64 x8', .int .i64 x9', .int .i64 x10'] | 62 => ∃ q, v = .slice (some ⟨q, 0, none⟩) 11 11 ∧ Sl WW (some ⟨q, 0, none⟩) 11 11 (ic [x0', x1', x2', x3', x4', x5', x6', x7', x8', x9', x10']) | 63 => v = .bool nq | 64 => v = .bool nq | 65 => v = .bool nq | _ => True) ?_ ?_ ?_
        · intro i v WW WX h hbx
          rcases i with _ | _ | _ | _ | _ | _ | _ | _ | _ | _ | _ | _ | _ | _ | _ | _ | _ | _ | _ | _ | _ | _ | _ | _ | _ | _ | _ | _ | _ | _ | _ | _ | _ | _ | _ | _ | _ | _ | _ | _ | _ | _ | _ | _ | _ | _ | _ | _ | _ | _ | _ | _ | _ | _ | _ | _ | _ | _ | _ | _ | _ | _ | _ | _ | _ | _ | i
          · exact h
          · exact h
          · exact h
          · exact h
          · exact h
          · exact h
          · exact h
          · exact h
          · exact h
          · exact h
          · exact h
          · exact h
          · exact h
          · exact h
          · exact h
          · exact h
          · exact h
          · exact h
          · exact h
          · exact h
          · exact h
          · exact h
          · exact h
          · exact h
          · exact h
          · exact h
          · exact h
          · exact h
          · exact h
          · exact h
          · exact h
          · exact h
          · exact h
          · exact h
          · exact h
          · exact h
          · exact h
          · exact h
          · exact h
          · exact h
          · exact h
          · exact h
          · exact h
          · exact h
          · exact h
          · exact h
          · exact h
          · exact h
          · exact h
          · exact h
          · exact h
          · exact h
          · exact h
          · exact h
          · exact h
          · exact h
          · exact h
          · exact h
          · exact h
          · obtain ⟨q, e, hs⟩ := h; exact ⟨q, e, hs.keeps hbx⟩
          · exact h
          · exact h
          · obtain ⟨q, e, hs⟩ := h; exact ⟨q, e, hs.keeps hbx⟩
          · exact h
          · exact h
          · exact h
          · trivial
        · intro iI oO V AC WW ho hf hbw K hK
          have hlt : iI < 66 := by have := (Array.getElem?_eq_some_iff.1 ho).1; first | exact this | simpa using this
          rcases iI with _ | _ | _ | _ | _ | _ | _ | _ | _ | _ | _ | _ | _ | _ | _ | _ | _ | _ | _ | _ | _ | _ | _ | _ | _ | _ | _ | _ | _ | _ | _ | _ | _ | _ | _ | _ | _ | _ | _ | _ | _ | _ | _ | _ | _ | _ | _ | _ | _ | _ | _ | _ | _ | _ | _ | _ | _ | _ | _ | _ | _ | _ | _ | _ | _ | _ | iI
          · obtain rfl := Option.some.inj (show some _ = some oO from ho)
            rw [if_pos (by rfl)]
            have q2 : AC.tmps.getD 2 undef = .pointer (some ⟨ga, 0, none⟩) := hf.rest 2 (by kernel_rfl)
            go_simp
            exact hK _ _ (Below.refl _ _) rfl
          · obtain rfl := Option.some.inj (show some _ = some oO from ho)
            rw [if_pos (by rfl)]
            have q5 : AC.tmps.getD 5 undef = .pointer (some ⟨ga, 0, none⟩) := ((hf.dep ⟨0, .data⟩ (by simp) rfl).2 5 rfl).trans (hf.dep ⟨0, .data⟩ (by simp) rfl).1
            have hG := HA0.out.keeps hbw
            have z0 := hG.cell 0 _ rfl
            go_simp
            exact hK _ _ (Below.refl _ _) rfl
          · obtain rfl := Option.some.inj (show some _ = some oO from ho)
            rw [if_pos (by rfl)]
            have q3 : AC.tmps.getD 3 undef = .pointer (some ⟨gb, 0, none⟩) := hf.rest 3 (by kernel_rfl)
            go_simp
            exact hK _ _ (Below.refl _ _) rfl
          · obtain rfl := Option.some.inj (show some _ = some oO from ho)
            rw [if_pos (by rfl)]
            have q7 : AC.tmps.getD 7 undef = .pointer (some ⟨gb, 0, none⟩) := ((hf.dep ⟨2, .data⟩ (by simp) rfl).2 7 rfl).trans (hf.dep ⟨2, .data⟩ (by simp) rfl).1
            have hG := HB_0.out.keeps hbw
            have z0 := hG.cell 0 _ rfl
            go_simp
            exact hK _ _ (Below.refl _ _) rfl
          · obtain rfl := Option.some.inj (show some _ = some oO from ho)
            rw [if_pos (by rfl)]
            have q6 : AC.tmps.getD 6 undef = .int .i64 k := ((hf.dep ⟨1, .data⟩ (by simp) rfl).2 6 rfl).trans (hf.dep ⟨1, .data⟩ (by simp) rfl).1
            have q8 : AC.tmps.getD 8 undef = .int .i64 k := ((hf.dep ⟨3, .data⟩ (by simp) rfl).2 8 rfl).trans (hf.dep ⟨3, .data⟩ (by simp) rfl).1
            go_simp
            exact hK _ _ (Below.refl _ _) rfl
          · obtain rfl := Option.some.inj (show some _ = some oO from ho)
            rw [if_pos (by rfl)]
            have q9 : AC.tmps.getD 9 undef = .bool true := ((hf.dep ⟨4, .data⟩ (by simp) rfl).2 9 rfl).trans (hf.dep ⟨4, .data⟩ (by simp) rfl).1
            go_simp
            exact hK _ _ (Below.refl _ _) rfl
          · obtain rfl := Option.some.inj (show some _ = some oO from ho)
            rw [if_pos (wanted_yes (s := 10) rfl rfl rfl (by rw [hf.size]; simp) (((hf.dep ⟨5, .guard⟩ (by simp) rfl).2 10 rfl).trans (hf.dep ⟨5, .guard⟩ (by simp) rfl).1))]
            have q2 : AC.tmps.getD 2 undef = .pointer (some ⟨ga, 0, none⟩) := hf.rest 2 (by kernel_rfl)
            go_simp
            exact hK _ _ (Below.refl _ _) rfl
          · obtain rfl := Option.some.inj (show some _ = some oO from ho)
            rw [if_pos (wanted_yes (s := 10) rfl rfl rfl (by rw [hf.size]; simp) (((hf.dep ⟨5, .guard⟩ (by simp) rfl).2 10 rfl).trans (hf.dep ⟨5, .guard⟩ (by simp) rfl).1))]
            have q11 : AC.tmps.getD 11 undef = .pointer (some ⟨ga, 1, none⟩) := ((hf.dep ⟨6, .data⟩ (by simp) rfl).2 11 rfl).trans (hf.dep ⟨6, .data⟩ (by simp) rfl).1
            have hG := HA0.out.keeps hbw
            have z1 := hG.cell 1 _ rfl
            go_simp
            exact hK _ _ (Below.refl _ _) rfl
          · obtain rfl := Option.some.inj (show some _ = some oO from ho)
            rw [if_pos (wanted_yes (s := 10) rfl rfl rfl (by rw [hf.size]; simp) (((hf.dep ⟨5, .guard⟩ (by simp) rfl).2 10 rfl).trans (hf.dep ⟨5, .guard⟩ (by simp) rfl).1))]
            have q3 : AC.tmps.getD 3 undef = .pointer (some ⟨gb, 0, none⟩) := hf.rest 3 (by kernel_rfl)
            go_simp
            exact hK _ _ (Below.refl _ _) rfl
          · obtain rfl := Option.some.inj (show some _ = some oO from ho)
            rw [if_pos (wanted_yes (s := 10) rfl rfl rfl (by rw [hf.size]; simp) (((hf.dep ⟨5, .guard⟩ (by simp) rfl).2 10 rfl).trans (hf.dep ⟨5, .guard⟩ (by simp) rfl).1))]
            have q13 : AC.tmps.getD 13 undef = .pointer (some ⟨gb, 1, none⟩) := ((hf.dep ⟨8, .data⟩ (by simp) rfl).2 13 rfl).trans (hf.dep ⟨8, .data⟩ (by simp) rfl).1
            have hG := HB_0.out.keeps hbw
            have z1 := hG.cell 1 _ rfl
            go_simp
            exact hK _ _ (Below.refl _ _) rfl
          · obtain rfl := Option.some.inj (show some _ = some oO from ho)
            rw [if_pos (wanted_yes (s := 10) rfl rfl rfl (by rw [hf.size]; simp) (((hf.dep ⟨5, .guard⟩ (by simp) rfl).2 10 rfl).trans (hf.dep ⟨5, .guard⟩ (by simp) rfl).1))]
            have q12 : AC.tmps.getD 12 undef = .int .i64 lo := ((hf.dep ⟨7, .data⟩ (by simp) rfl).2 12 rfl).trans (hf.dep ⟨7, .data⟩ (by simp) rfl).1
            have q14 : AC.tmps.getD 14 undef = .int .i64 lo := ((hf.dep ⟨9, .data⟩ (by simp) rfl).2 14 rfl).trans (hf.dep ⟨9, .data⟩ (by simp) rfl).1
            go_simp
            exact hK _ _ (Below.refl _ _) rfl
          · obtain rfl := Option.some.inj (show some _ = some oO from ho)
            rw [if_pos (by rfl)]
            have q10 : AC.tmps.getD 10 undef = .bool true := ((hf.dep ⟨5, .data⟩ (by simp) rfl).2 10 rfl).trans (hf.dep ⟨5, .data⟩ (by simp) rfl).1
            have q15 : AC.tmps.getD 15 undef = .bool true := ((hf.dep ⟨10, .data⟩ (by simp) rfl).2 15 rfl).trans (hf.dep ⟨10, .data⟩ (by simp) rfl).1
            go_simp
            exact hK _ _ (Below.refl _ _) rfl
          · obtain rfl := Option.some.inj (show some _ = some oO from ho)
            rw [if_pos (by rfl)]
            have q16 : AC.tmps.getD 16 undef = .bool true := ((hf.dep ⟨11, .data⟩ (by simp) rfl).2 16 rfl).trans (hf.dep ⟨11, .data⟩ (by simp) rfl).1
            go_simp
            exact hK _ _ (Below.refl _ _) rfl
          · obtain rfl := Option.some.inj (show some _ = some oO from ho)
            rw [if_pos (wanted_yes (s := 17) rfl rfl rfl (by rw [hf.size]; simp) (((hf.dep ⟨12, .guard⟩ (by simp) rfl).2 17 rfl).trans (hf.dep ⟨12, .guard⟩ (by simp) rfl).1))]
            have q2 : AC.tmps.getD 2 undef = .pointer (some ⟨ga, 0, none⟩) := hf.rest 2 (by kernel_rfl)
            go_simp
            exact hK _ _ (Below.refl _ _) rfl
          · obtain rfl := Option.some.inj (show some _ = some oO from ho)
            rw [if_pos (wanted_yes (s := 17) rfl rfl rfl (by rw [hf.size]; simp) (((hf.dep ⟨12, .guard⟩ (by simp) rfl).2 17 rfl).trans (hf.dep ⟨12, .guard⟩ (by simp) rfl).1))]
            have q18 : AC.tmps.getD 18 undef = .pointer (some ⟨ga, 2, none⟩) := ((hf.dep ⟨13, .data⟩ (by simp) rfl).2 18 rfl).trans (hf.dep ⟨13, .data⟩ (by simp) rfl).1
            have hG := HA0.out.keeps hbw
            have z2 := hG.cell 2 _ rfl
            go_simp
            exact hK _ _ (Below.refl _ _) rfl
          · obtain rfl := Option.some.inj (show some _ = some oO from ho)
            rw [if_pos (wanted_yes (s := 17) rfl rfl rfl (by rw [hf.size]; simp) (((hf.dep ⟨12, .guard⟩ (by simp) rfl).2 17 rfl).trans (hf.dep ⟨12, .guard⟩ (by simp) rfl).1))]
            have q3 : AC.tmps.getD 3 undef = .pointer (some ⟨gb, 0, none⟩) := hf.rest 3 (by kernel_rfl)
            go_simp
            exact hK _ _ (Below.refl _ _) rfl
          · obtain rfl := Option.some.inj (show some _ = some oO from ho)
            rw [if_pos (wanted_yes (s := 17) rfl rfl rfl (by rw [hf.size]; simp) (((hf.dep ⟨12, .guard⟩ (by simp) rfl).2 17 rfl).trans (hf.dep ⟨12, .guard⟩ (by simp) rfl).1))]
            have q20 : AC.tmps.getD 20 undef = .pointer (some ⟨gb, 2, none⟩) := ((hf.dep ⟨15, .data⟩ (by simp) rfl).2 20 rfl).trans (hf.dep ⟨15, .data⟩ (by simp) rfl).1
            have hG := HB_0.out.keeps hbw
            have z2 := hG.cell 2 _ rfl
            go_simp
            exact hK _ _ (Below.refl _ _) rfl
          · obtain rfl := Option.some.inj (show some _ = some oO from ho)
            rw [if_pos (wanted_yes (s := 17) rfl rfl rfl (by rw [hf.size]; simp) (((hf.dep ⟨12, .guard⟩ (by simp) rfl).2 17 rfl).trans (hf.dep ⟨12, .guard⟩ (by simp) rfl).1))]
            have q19 : AC.tmps.getD 19 undef = .int .i64 a := ((hf.dep ⟨14, .data⟩ (by simp) rfl).2 19 rfl).trans (hf.dep ⟨14, .data⟩ (by simp) rfl).1
            have q21 : AC.tmps.getD 21 undef = .int .i64 a := ((hf.dep ⟨16, .data⟩ (by simp) rfl).2 21 rfl).trans (hf.dep ⟨16, .data⟩ (by simp) rfl).1
            go_simp
            exact hK _ _ (Below.refl _ _) rfl
          · obtain rfl := Option.some.inj (show some _ = some oO from ho)
            rw [if_pos (by rfl)]
            have q17 : AC.tmps.getD 17 undef = .bool true := ((hf.dep ⟨12, .data⟩ (by simp) rfl).2 17 rfl).trans (hf.dep ⟨12, .data⟩ (by simp) rfl).1
            have q22 : AC.tmps.getD 22 undef = .bool true := ((hf.dep ⟨17, .data⟩ (by simp) rfl).2 22 rfl).trans (hf.dep ⟨17, .data⟩ (by simp) rfl).1
            go_simp
            exact hK _ _ (Below.refl _ _) rfl
          · obtain rfl := Option.some.inj (show some _ = some oO from ho)
            rw [if_pos (by rfl)]
            have q23 : AC.tmps.getD 23 undef = .bool true := ((hf.dep ⟨18, .data⟩ (by simp) rfl).2 23 rfl).trans (hf.dep ⟨18, .data⟩ (by simp) rfl).1
            go_simp
            exact hK _ _ (Below.refl _ _) rfl
          · obtain rfl := Option.some.inj (show some _ = some oO from ho)
            rw [if_pos (wanted_yes (s := 24) rfl rfl rfl (by rw [hf.size]; simp) (((hf.dep ⟨19, .guard⟩ (by simp) rfl).2 24 rfl).trans (hf.dep ⟨19, .guard⟩ (by simp) rfl).1))]
            have q2 : AC.tmps.getD 2 undef = .pointer (some ⟨ga, 0, none⟩) := hf.rest 2 (by kernel_rfl)
            go_simp
            exact hK _ _ (Below.refl _ _) rfl
          · obtain rfl := Option.some.inj (show some _ = some oO from ho)
            rw [if_pos (wanted_yes (s := 24) rfl rfl rfl (by rw [hf.size]; simp) (((hf.dep ⟨19, .guard⟩ (by simp) rfl).2 24 rfl).trans (hf.dep ⟨19, .guard⟩ (by simp) rfl).1))]
            have q25 : AC.tmps.getD 25 undef = .pointer (some ⟨ga, 3, none⟩) := ((hf.dep ⟨20, .data⟩ (by simp) rfl).2 25 rfl).trans (hf.dep ⟨20, .data⟩ (by simp) rfl).1
            have hG := HA0.out.keeps hbw
            have z3 := hG.cell 3 _ rfl
            go_simp
            exact hK _ _ (Below.refl _ _) rfl
          · obtain rfl := Option.some.inj (show some _ = some oO from ho)
            rw [if_pos (wanted_yes (s := 24) rfl rfl rfl (by rw [hf.size]; simp) (((hf.dep ⟨19, .guard⟩ (by simp) rfl).2 24 rfl).trans (hf.dep ⟨19, .guard⟩ (by simp) rfl).1))]
            have q3 : AC.tmps.getD 3 undef = .pointer (some ⟨gb, 0, none⟩) := hf.rest 3 (by kernel_rfl)
            go_simp
            exact hK _ _ (Below.refl _ _) rfl
          · obtain rfl := Option.some.inj (show some _ = some oO from ho)
            rw [if_pos (wanted_yes (s := 24) rfl rfl rfl (by rw [hf.size]; simp) (((hf.dep ⟨19, .guard⟩ (by simp) rfl).2 24 rfl).trans (hf.dep ⟨19, .guard⟩ (by simp) rfl).1))]
            have q27 : AC.tmps.getD 27 undef = .pointer (some ⟨gb, 3, none⟩) := ((hf.dep ⟨22, .data⟩ (by simp) rfl).2 27 rfl).trans (hf.dep ⟨22, .data⟩ (by simp) rfl).1
            have hG := HB_0.out.keeps hbw
            have z3 := hG.cell 3 _ rfl
            go_simp
            exact hK _ _ (Below.refl _ _) rfl
          · obtain rfl := Option.some.inj (show some _ = some oO from ho)
            rw [if_pos (wanted_yes (s := 24) rfl rfl rfl (by rw [hf.size]; simp) (((hf.dep ⟨19, .guard⟩ (by simp) rfl).2 24 rfl).trans (hf.dep ⟨19, .guard⟩ (by simp) rfl).1))]
            have q26 : AC.tmps.getD 26 undef = .int .i64 b := ((hf.dep ⟨21, .data⟩ (by simp) rfl).2 26 rfl).trans (hf.dep ⟨21, .data⟩ (by simp) rfl).1
            have q28 : AC.tmps.getD 28 undef = .int .i64 b := ((hf.dep ⟨23, .data⟩ (by simp) rfl).2 28 rfl).trans (hf.dep ⟨23, .data⟩ (by simp) rfl).1
            go_simp
            exact hK _ _ (Below.refl _ _) rfl
          · obtain rfl := Option.some.inj (show some _ = some oO from ho)
            rw [if_pos (by rfl)]
            have q24 : AC.tmps.getD 24 undef = .bool true := ((hf.dep ⟨19, .data⟩ (by simp) rfl).2 24 rfl).trans (hf.dep ⟨19, .data⟩ (by simp) rfl).1
            have q29 : AC.tmps.getD 29 undef = .bool true := ((hf.dep ⟨24, .data⟩ (by simp) rfl).2 29 rfl).trans (hf.dep ⟨24, .data⟩ (by simp) rfl).1
            go_simp
            exact hK _ _ (Below.refl _ _) rfl
          · obtain rfl := Option.some.inj (show some _ = some oO from ho)
            rw [if_pos (by rfl)]
            have q30 : AC.tmps.getD 30 undef = .bool true := ((hf.dep ⟨25, .data⟩ (by simp) rfl).2 30 rfl).trans (hf.dep ⟨25, .data⟩ (by simp) rfl).1
            go_simp
            exact hK _ _ (Below.refl _ _) rfl
          · obtain rfl := Option.some.inj (show some _ = some oO from ho)
            rw [if_pos (wanted_yes (s := 31) rfl rfl rfl (by rw [hf.size]; simp) (((hf.dep ⟨26, .guard⟩ (by simp) rfl).2 31 rfl).trans (hf.dep ⟨26, .guard⟩ (by simp) rfl).1))]
            have q2 : AC.tmps.getD 2 undef = .pointer (some ⟨ga, 0, none⟩) := hf.rest 2 (by kernel_rfl)
            go_simp
            exact hK _ _ (Below.refl _ _) rfl
          · obtain rfl := Option.some.inj (show some _ = some oO from ho)
            rw [if_pos (wanted_yes (s := 31) rfl rfl rfl (by rw [hf.size]; simp) (((hf.dep ⟨26, .guard⟩ (by simp) rfl).2 31 rfl).trans (hf.dep ⟨26, .guard⟩ (by simp) rfl).1))]
            have q32 : AC.tmps.getD 32 undef = .pointer (some ⟨ga, 4, none⟩) := ((hf.dep ⟨27, .data⟩ (by simp) rfl).2 32 rfl).trans (hf.dep ⟨27, .data⟩ (by simp) rfl).1
            have hG := HA0.out.keeps hbw
            have z4 := hG.cell 4 _ rfl
            go_simp
            exact hK _ _ (Below.refl _ _) rfl
          · obtain rfl := Option.some.inj (show some _ = some oO from ho)
            rw [if_pos (wanted_yes (s := 31) rfl rfl rfl (by rw [hf.size]; simp) (((hf.dep ⟨26, .guard⟩ (by simp) rfl).2 31 rfl).trans (hf.dep ⟨26, .guard⟩ (by simp) rfl).1))]
            have q3 : AC.tmps.getD 3 undef = .pointer (some ⟨gb, 0, none⟩) := hf.rest 3 (by kernel_rfl)
            go_simp
            exact hK _ _ (Below.refl _ _) rfl
          · obtain rfl := Option.some.inj (show some _ = some oO from ho)
            rw [if_pos (wanted_yes (s := 31) rfl rfl rfl (by rw [hf.size]; simp) (((hf.dep ⟨26, .guard⟩ (by simp) rfl).2 31 rfl).trans (hf.dep ⟨26, .guard⟩ (by simp) rfl).1))]
            have q34 : AC.tmps.getD 34 undef = .pointer (some ⟨gb, 4, none⟩) := ((hf.dep ⟨29, .data⟩ (by simp) rfl).2 34 rfl).trans (hf.dep ⟨29, .data⟩ (by simp) rfl).1
            have hG := HB_0.out.keeps hbw
            have z4 := hG.cell 4 _ rfl
            go_simp
            exact hK _ _ (Below.refl _ _) rfl
          · obtain rfl := Option.some.inj (show some _ = some oO from ho)
            rw [if_pos (wanted_yes (s := 31) rfl rfl rfl (by rw [hf.size]; simp) (((hf.dep ⟨26, .guard⟩ (by simp) rfl).2 31 rfl).trans (hf.dep ⟨26, .guard⟩ (by simp) rfl).1))]
            have q33 : AC.tmps.getD 33 undef = .int .i64 n := ((hf.dep ⟨28, .data⟩ (by simp) rfl).2 33 rfl).trans (hf.dep ⟨28, .data⟩ (by simp) rfl).1
            have q35 : AC.tmps.getD 35 undef = .int .i64 n := ((hf.dep ⟨30, .data⟩ (by simp) rfl).2 35 rfl).trans (hf.dep ⟨30, .data⟩ (by simp) rfl).1
            go_simp
            exact hK _ _ (Below.refl _ _) rfl
          · obtain rfl := Option.some.inj (show some _ = some oO from ho)
            rw [if_pos (by rfl)]
            have q31 : AC.tmps.getD 31 undef = .bool true := ((hf.dep ⟨26, .data⟩ (by simp) rfl).2 31 rfl).trans (hf.dep ⟨26, .data⟩ (by simp) rfl).1
            have q36 : AC.tmps.getD 36 undef = .bool true := ((hf.dep ⟨31, .data⟩ (by simp) rfl).2 36 rfl).trans (hf.dep ⟨31, .data⟩ (by simp) rfl).1
            go_simp
            exact hK _ _ (Below.refl _ _) rfl
          · obtain rfl := Option.some.inj (show some _ = some oO from ho)
            rw [if_pos (by rfl)]
            have q37 : AC.tmps.getD 37 undef = .bool true := ((hf.dep ⟨32, .data⟩ (by simp) rfl).2 37 rfl).trans (hf.dep ⟨32, .data⟩ (by simp) rfl).1
            go_simp
            exact hK _ _ (Below.refl _ _) rfl
          · obtain rfl := Option.some.inj (show some _ = some oO from ho)
            rw [if_pos (wanted_yes (s := 38) rfl rfl rfl (by rw [hf.size]; simp) (((hf.dep ⟨33, .guard⟩ (by simp) rfl).2 38 rfl).trans (hf.dep ⟨33, .guard⟩ (by simp) rfl).1))]
            have q2 : AC.tmps.getD 2 undef = .pointer (some ⟨ga, 0, none⟩) := hf.rest 2 (by kernel_rfl)
            go_simp
            exact hK _ _ (Below.refl _ _) rfl
          · obtain rfl := Option.some.inj (show some _ = some oO from ho)
            rw [if_pos (wanted_yes (s := 38) rfl rfl rfl (by rw [hf.size]; simp) (((hf.dep ⟨33, .guard⟩ (by simp) rfl).2 38 rfl).trans (hf.dep ⟨33, .guard⟩ (by simp) rfl).1))]
            have q39 : AC.tmps.getD 39 undef = .pointer (some ⟨ga, 5, none⟩) := ((hf.dep ⟨34, .data⟩ (by simp) rfl).2 39 rfl).trans (hf.dep ⟨34, .data⟩ (by simp) rfl).1
            have hG := HA0.out.keeps hbw
            have z5 := hG.cell 5 _ rfl
            go_simp
            exact hK _ _ (Below.refl _ _) rfl
          · obtain rfl := Option.some.inj (show some _ = some oO from ho)
            rw [if_pos (wanted_yes (s := 38) rfl rfl rfl (by rw [hf.size]; simp) (((hf.dep ⟨33, .guard⟩ (by simp) rfl).2 38 rfl).trans (hf.dep ⟨33, .guard⟩ (by simp) rfl).1))]
            have q3 : AC.tmps.getD 3 undef = .pointer (some ⟨gb, 0, none⟩) := hf.rest 3 (by kernel_rfl)
            go_simp
            exact hK _ _ (Below.refl _ _) rfl
          · obtain rfl := Option.some.inj (show some _ = some oO from ho)
            rw [if_pos (wanted_yes (s := 38) rfl rfl rfl (by rw [hf.size]; simp) (((hf.dep ⟨33, .guard⟩ (by simp) rfl).2 38 rfl).trans (hf.dep ⟨33, .guard⟩ (by simp) rfl).1))]
            have q41 : AC.tmps.getD 41 undef = .pointer (some ⟨gb, 5, none⟩) := ((hf.dep ⟨36, .data⟩ (by simp) rfl).2 41 rfl).trans (hf.dep ⟨36, .data⟩ (by simp) rfl).1
            have hG := HB_0.out.keeps hbw
            have z5 := hG.cell 5 _ rfl
            go_simp
            exact hK _ _ (Below.refl _ _) rfl
          · obtain rfl := Option.some.inj (show some _ = some oO from ho)
            rw [if_pos (wanted_yes (s := 38) rfl rfl rfl (by rw [hf.size]; simp) (((hf.dep ⟨33, .guard⟩ (by simp) rfl).2 38 rfl).trans (hf.dep ⟨33, .guard⟩ (by simp) rfl).1))]
            have q40 : AC.tmps.getD 40 undef = .int .i64 p := ((hf.dep ⟨35, .data⟩ (by simp) rfl).2 40 rfl).trans (hf.dep ⟨35, .data⟩ (by simp) rfl).1
            have q42 : AC.tmps.getD 42 undef = .int .i64 p := ((hf.dep ⟨37, .data⟩ (by simp) rfl).2 42 rfl).trans (hf.dep ⟨37, .data⟩ (by simp) rfl).1
            go_simp
            exact hK _ _ (Below.refl _ _) rfl
          · obtain rfl := Option.some.inj (show some _ = some oO from ho)
            rw [if_pos (by rfl)]
            have q38 : AC.tmps.getD 38 undef = .bool true := ((hf.dep ⟨33, .data⟩ (by simp) rfl).2 38 rfl).trans (hf.dep ⟨33, .data⟩ (by simp) rfl).1
            have q43 : AC.tmps.getD 43 undef = .bool true := ((hf.dep ⟨38, .data⟩ (by simp) rfl).2 43 rfl).trans (hf.dep ⟨38, .data⟩ (by simp) rfl).1
            go_simp
            exact hK _ _ (Below.refl _ _) rfl
          · obtain rfl := Option.some.inj (show some _ = some oO from ho)
            rw [if_pos (by rfl)]
            have q44 : AC.tmps.getD 44 undef = .bool true := ((hf.dep ⟨39, .data⟩ (by simp) rfl).2 44 rfl).trans (hf.dep ⟨39, .data⟩ (by simp) rfl).1
            go_simp
            exact hK _ _ (Below.refl _ _) rfl
          · obtain rfl := Option.some.inj (show some _ = some oO from ho)
            rw [if_pos (wanted_yes (s := 45) rfl rfl rfl (by rw [hf.size]; simp) (((hf.dep ⟨40, .guard⟩ (by simp) rfl).2 45 rfl).trans (hf.dep ⟨40, .guard⟩ (by simp) rfl).1))]
            have q2 : AC.tmps.getD 2 undef = .pointer (some ⟨ga, 0, none⟩) := hf.rest 2 (by kernel_rfl)
            go_simp
            exact hK _ _ (Below.refl _ _) rfl
          · obtain rfl := Option.some.inj (show some _ = some oO from ho)
            rw [if_pos (wanted_yes (s := 45) rfl rfl rfl (by rw [hf.size]; simp) (((hf.dep ⟨40, .guard⟩ (by simp) rfl).2 45 rfl).trans (hf.dep ⟨40, .guard⟩ (by simp) rfl).1))]
            have q46 : AC.tmps.getD 46 undef = .pointer (some ⟨ga, 18, none⟩) := ((hf.dep ⟨41, .data⟩ (by simp) rfl).2 46 rfl).trans (hf.dep ⟨41, .data⟩ (by simp) rfl).1
            have hG := HA0.out.keeps hbw
            have z18 := hG.cell 18 _ rfl
            have z19 := hG.cell 19 _ rfl
            have z20 := hG.cell 20 _ rfl
            have z21 := hG.cell 21 _ rfl
            have z22 := hG.cell 22 _ rfl
            go_simp
            exact hK _ _ (Below.refl _ _) rfl
          · obtain rfl := Option.some.inj (show some _ = some oO from ho)
            rw [if_pos (wanted_yes (s := 45) rfl rfl rfl (by rw [hf.size]; simp) (((hf.dep ⟨40, .guard⟩ (by simp) rfl).2 45 rfl).trans (hf.dep ⟨40, .guard⟩ (by simp) rfl).1))]
            have q3 : AC.tmps.getD 3 undef = .pointer (some ⟨gb, 0, none⟩) := hf.rest 3 (by kernel_rfl)
            go_simp
            exact hK _ _ (Below.refl _ _) rfl
          · obtain rfl := Option.some.inj (show some _ = some oO from ho)
            rw [if_pos (wanted_yes (s := 45) rfl rfl rfl (by rw [hf.size]; simp) (((hf.dep ⟨40, .guard⟩ (by simp) rfl).2 45 rfl).trans (hf.dep ⟨40, .guard⟩ (by simp) rfl).1))]
            have q48 : AC.tmps.getD 48 undef = .pointer (some ⟨gb, 18, none⟩) := ((hf.dep ⟨43, .data⟩ (by simp) rfl).2 48 rfl).trans (hf.dep ⟨43, .data⟩ (by simp) rfl).1
            have hG := HB_0.out.keeps hbw
            have z18 := hG.cell 18 _ rfl
            have z19 := hG.cell 19 _ rfl
            have z20 := hG.cell 20 _ rfl
            have z21 := hG.cell 21 _ rfl
            have z22 := hG.cell 22 _ rfl
            go_simp
            exact hK _ _ (Below.refl _ _) rfl
          · obtain rfl := Option.some.inj (show some _ = some oO from ho)
            rw [if_pos (wanted_yes (s := 45) rfl rfl rfl (by rw [hf.size]; simp) (((hf.dep ⟨40, .guard⟩ (by simp) rfl).2 45 rfl).trans (hf.dep ⟨40, .guard⟩ (by simp) rfl).1))]
            have q47 : AC.tmps.getD 47 undef = .agg #[.int .i64 f0, .int .i64 f1, .int .i64 f2, .int .i64 f3, .int .i64 f4] := ((hf.dep ⟨42, .data⟩ (by simp) rfl).2 47 rfl).trans (hf.dep ⟨42, .data⟩ (by simp) rfl).1
            have q49 : AC.tmps.getD 49 undef = .agg #[.int .i64 f0, .int .i64 f1, .int .i64 f2, .int .i64 f3, .int .i64 f4] := ((hf.dep ⟨44, .data⟩ (by simp) rfl).2 49 rfl).trans (hf.dep ⟨44, .data⟩ (by simp) rfl).1
            go_simp
            exact hK _ _ (Below.refl _ _) rfl
          · obtain rfl := Option.some.inj (show some _ = some oO from ho)
            rw [if_pos (by rfl)]
            have q45 : AC.tmps.getD 45 undef = .bool true := ((hf.dep ⟨40, .data⟩ (by simp) rfl).2 45 rfl).trans (hf.dep ⟨40, .data⟩ (by simp) rfl).1
            have q50 : AC.tmps.getD 50 undef = .bool true := ((hf.dep ⟨45, .data⟩ (by simp) rfl).2 50 rfl).trans (hf.dep ⟨45, .data⟩ (by simp) rfl).1
            go_simp
            exact hK _ _ (Below.refl _ _) rfl
          · obtain rfl := Option.some.inj (show some _ = some oO from ho)
            rw [if_pos (by rfl)]
            have q51 : AC.tmps.getD 51 undef = .bool true := ((hf.dep ⟨46, .data⟩ (by simp) rfl).2 51 rfl).trans (hf.dep ⟨46, .data⟩ (by simp) rfl).1
            go_simp
            exact hK _ _ (Below.refl _ _) rfl
          · obtain rfl := Option.some.inj (show some _ = some oO from ho)
            rw [if_pos (wanted_yes (s := 52) rfl rfl rfl (by rw [hf.size]; simp) (((hf.dep ⟨47, .guard⟩ (by simp) rfl).2 52 rfl).trans (hf.dep ⟨47, .guard⟩ (by simp) rfl).1))]
            have q2 : AC.tmps.getD 2 undef = .pointer (some ⟨ga, 0, none⟩) := hf.rest 2 (by kernel_rfl)
            go_simp
            exact hK _ _ (Below.refl _ _) rfl
          · obtain rfl := Option.some.inj (show some _ = some oO from ho)
            rw [if_pos (wanted_yes (s := 52) rfl rfl rfl (by rw [hf.size]; simp) (((hf.dep ⟨47, .guard⟩ (by simp) rfl).2 52 rfl).trans (hf.dep ⟨47, .guard⟩ (by simp) rfl).1))]
            have q53 : AC.tmps.getD 53 undef = .pointer (some ⟨ga, 6, none⟩) := ((hf.dep ⟨48, .data⟩ (by simp) rfl).2 53 rfl).trans (hf.dep ⟨48, .data⟩ (by simp) rfl).1
            go_simp
            exact hK _ _ (Below.refl _ _) rfl
          · obtain rfl := Option.some.inj (show some _ = some oO from ho)
            rw [if_pos (wanted_yes (s := 52) rfl rfl rfl (by rw [hf.size]; simp) (((hf.dep ⟨47, .guard⟩ (by simp) rfl).2 52 rfl).trans (hf.dep ⟨47, .guard⟩ (by simp) rfl).1))]
            have q54 : AC.tmps.getD 54 undef = .pointer (some ⟨ga, 6, none⟩) := ((hf.dep ⟨49, .data⟩ (by simp) rfl).2 54 rfl).trans (hf.dep ⟨49, .data⟩ (by simp) rfl).1
            have hG := HA0.out.keeps hbw
            have z6 := hG.cell 6 _ rfl
            go_simp
            exact hK _ _ (Below.refl _ _) rfl
          · obtain rfl := Option.some.inj (show some _ = some oO from ho)
            rw [if_pos (wanted_yes (s := 52) rfl rfl rfl (by rw [hf.size]; simp) (((hf.dep ⟨47, .guard⟩ (by simp) rfl).2 52 rfl).trans (hf.dep ⟨47, .guard⟩ (by simp) rfl).1))]
            have q3 : AC.tmps.getD 3 undef = .pointer (some ⟨gb, 0, none⟩) := hf.rest 3 (by kernel_rfl)
            go_simp
            exact hK _ _ (Below.refl _ _) rfl
          · obtain rfl := Option.some.inj (show some _ = some oO from ho)
            rw [if_pos (wanted_yes (s := 52) rfl rfl rfl (by rw [hf.size]; simp) (((hf.dep ⟨47, .guard⟩ (by simp) rfl).2 52 rfl).trans (hf.dep ⟨47, .guard⟩ (by simp) rfl).1))]
            have q56 : AC.tmps.getD 56 undef = .pointer (some ⟨gb, 6, none⟩) := ((hf.dep ⟨51, .data⟩ (by simp) rfl).2 56 rfl).trans (hf.dep ⟨51, .data⟩ (by simp) rfl).1
            go_simp
            exact hK _ _ (Below.refl _ _) rfl
          · obtain rfl := Option.some.inj (show some _ = some oO from ho)
            rw [if_pos (wanted_yes (s := 52) rfl rfl rfl (by rw [hf.size]; simp) (((hf.dep ⟨47, .guard⟩ (by simp) rfl).2 52 rfl).trans (hf.dep ⟨47, .guard⟩ (by simp) rfl).1))]
            have q57 : AC.tmps.getD 57 undef = .pointer (some ⟨gb, 6, none⟩) := ((hf.dep ⟨52, .data⟩ (by simp) rfl).2 57 rfl).trans (hf.dep ⟨52, .data⟩ (by simp) rfl).1
            have hG := HB_0.out.keeps hbw
            have z6 := hG.cell 6 _ rfl
            go_simp
            exact hK _ _ (Below.refl _ _) rfl
          · obtain rfl := Option.some.inj (show some _ = some oO from ho)
            rw [if_pos (wanted_yes (s := 52) rfl rfl rfl (by rw [hf.size]; simp) (((hf.dep ⟨47, .guard⟩ (by simp) rfl).2 52 rfl).trans (hf.dep ⟨47, .guard⟩ (by simp) rfl).1))]
            have q55 : AC.tmps.getD 55 undef = .slice ao L.length cap := ((hf.dep ⟨50, .data⟩ (by simp) rfl).2 55 rfl).trans (hf.dep ⟨50, .data⟩ (by simp) rfl).1
            have q58 : AC.tmps.getD 58 undef = .slice bo M.length dap := ((hf.dep ⟨53, .data⟩ (by simp) rfl).2 58 rfl).trans (hf.dep ⟨53, .data⟩ (by simp) rfl).1
            go_simp
            refine (HE.out WW hbw).mono ?_
            rintro e w9 ⟨rfl, hb9⟩
            exact hK _ _ hb9 rfl
          · obtain rfl := Option.some.inj (show some _ = some oO from ho)
            rw [if_pos (by rfl)]
            have q52 : AC.tmps.getD 52 undef = .bool true := ((hf.dep ⟨47, .data⟩ (by simp) rfl).2 52 rfl).trans (hf.dep ⟨47, .data⟩ (by simp) rfl).1
            have q59 : AC.tmps.getD 59 undef = .bool true := ((hf.dep ⟨54, .data⟩ (by simp) rfl).2 59 rfl).trans (hf.dep ⟨54, .data⟩ (by simp) rfl).1
            go_simp
            exact hK _ _ (Below.refl _ _) rfl
          · obtain rfl := Option.some.inj (show some _ = some oO from ho)
            rw [if_pos (by rfl)]
            have q60 : AC.tmps.getD 60 undef = .bool true := ((hf.dep ⟨55, .data⟩ (by simp) rfl).2 60 rfl).trans (hf.dep ⟨55, .data⟩ (by simp) rfl).1
            go_simp
            exact hK _ _ (Below.refl _ _) rfl
          · obtain rfl := Option.some.inj (show some _ = some oO from ho)
            rw [if_pos (wanted_yes (s := 61) rfl rfl rfl (by rw [hf.size]; simp) (((hf.dep ⟨56, .guard⟩ (by simp) rfl).2 61 rfl).trans (hf.dep ⟨56, .guard⟩ (by simp) rfl).1))]
            have q2 : AC.tmps.getD 2 undef = .pointer (some ⟨ga, 0, none⟩) := hf.rest 2 (by kernel_rfl)
            go_simp
            exact hK _ _ (Below.refl _ _) rfl
          · obtain rfl := Option.some.inj (show some _ = some oO from ho)
            rw [if_pos (wanted_yes (s := 61) rfl rfl rfl (by rw [hf.size]; simp) (((hf.dep ⟨56, .guard⟩ (by simp) rfl).2 61 rfl).trans (hf.dep ⟨56, .guard⟩ (by simp) rfl).1))]
            have q62 : AC.tmps.getD 62 undef = .pointer (some ⟨ga, 6, none⟩) := ((hf.dep ⟨57, .data⟩ (by simp) rfl).2 62 rfl).trans (hf.dep ⟨57, .data⟩ (by simp) rfl).1
            have hG := HA0.out.keeps hbw
            have z6 := hG.cell 6 _ rfl
            have z7 := hG.cell 7 _ rfl
            have z8 := hG.cell 8 _ rfl
            have z9 := hG.cell 9 _ rfl
            have z10 := hG.cell 10 _ rfl
            have z11 := hG.cell 11 _ rfl
            have z12 := hG.cell 12 _ rfl
            have z13 := hG.cell 13 _ rfl
            have z14 := hG.cell 14 _ rfl
            have z15 := hG.cell 15 _ rfl
            have z16 := hG.cell 16 _ rfl
            have z17 := hG.cell 17 _ rfl
            go_simp
            exact hK _ _ (Below.refl _ _) rfl
          · obtain rfl := Option.some.inj (show some _ = some oO from ho)
            rw [if_pos (wanted_yes (s := 61) rfl rfl rfl (by rw [hf.size]; simp) (((hf.dep ⟨56, .guard⟩ (by simp) rfl).2 61 rfl).trans (hf.dep ⟨56, .guard⟩ (by simp) rfl).1))]
            have q63 : AC.tmps.getD 63 undef = .agg #[.slice ao L.length cap, .int .i64 x0, .int .i64 x1, .int .i64 x2, .int .i64 x3, .int .i64 x4, .int .i64 x5, .int .i64 x6, .int .i64 x7, .int .i64 x8, .int .i64 x9, .int .i64 x10] := ((hf.dep ⟨58, .data⟩ (by simp) rfl).2 63 rfl).trans (hf.dep ⟨58, .data⟩ (by simp) rfl).1
            go_simp
            refine (HN1.out WW).mono ?_
            rintro e w9 ⟨q9, rfl, hq9, hb9⟩
            exact hK _ _ hb9 ⟨q9, rfl, hq9⟩
          · obtain rfl := Option.some.inj (show some _ = some oO from ho)
            rw [if_pos (wanted_yes (s := 61) rfl rfl rfl (by rw [hf.size]; simp) (((hf.dep ⟨56, .guard⟩ (by simp) rfl).2 61 rfl).trans (hf.dep ⟨56, .guard⟩ (by simp) rfl).1))]
            have q3 : AC.tmps.getD 3 undef = .pointer (some ⟨gb, 0, none⟩) := hf.rest 3 (by kernel_rfl)
            go_simp
            exact hK _ _ (Below.refl _ _) rfl
          · obtain rfl := Option.some.inj (show some _ = some oO from ho)
            rw [if_pos (wanted_yes (s := 61) rfl rfl rfl (by rw [hf.size]; simp) (((hf.dep ⟨56, .guard⟩ (by simp) rfl).2 61 rfl).trans (hf.dep ⟨56, .guard⟩ (by simp) rfl).1))]
            have q65 : AC.tmps.getD 65 undef = .pointer (some ⟨gb, 6, none⟩) := ((hf.dep ⟨60, .data⟩ (by simp) rfl).2 65 rfl).trans (hf.dep ⟨60, .data⟩ (by simp) rfl).1
            have hG := HB_0.out.keeps hbw
            have z6 := hG.cell 6 _ rfl
            have z7 := hG.cell 7 _ rfl
            have z8 := hG.cell 8 _ rfl
            have z9 := hG.cell 9 _ rfl
            have z10 := hG.cell 10 _ rfl
            have z11 := hG.cell 11 _ rfl
            have z12 := hG.cell 12 _ rfl
            have z13 := hG.cell 13 _ rfl
            have z14 := hG.cell 14 _ rfl
            have z15 := hG.cell 15 _ rfl
            have z16 := hG.cell 16 _ rfl
            have z17 := hG.cell 17 _ rfl
            go_simp
            exact hK _ _ (Below.refl _ _) rfl
          · obtain rfl := Option.some.inj (show some _ = some oO from ho)
            rw [if_pos (wanted_yes (s := 61) rfl rfl rfl (by rw [hf.size]; simp) (((hf.dep ⟨56, .guard⟩ (by simp) rfl).2 61 rfl).trans (hf.dep ⟨56, .guard⟩ (by simp) rfl).1))]
            have q66 : AC.tmps.getD 66 undef = .agg #[.slice bo M.length dap, .int .i64 x0', .int .i64 x1', .int .i64 x2', .int .i64 x3', .int .i64 x4', .int .i64 x5', .int .i64 x6', .int .i64 x7', .int .i64 x8', .int .i64 x9', .int .i64 x10'] := ((hf.dep ⟨61, .data⟩ (by simp) rfl).2 66 rfl).trans (hf.dep ⟨61, .data⟩ (by simp) rfl).1
            go_simp
            refine (HN2.out WW).mono ?_
            rintro e w9 ⟨q9, rfl, hq9, hb9⟩
            exact hK _ _ hb9 ⟨q9, rfl, hq9⟩
          · obtain rfl := Option.some.inj (show some _ = some oO from ho)
            rw [if_pos (wanted_yes (s := 61) rfl rfl rfl (by rw [hf.size]; simp) (((hf.dep ⟨56, .guard⟩ (by simp) rfl).2 61 rfl).trans (hf.dep ⟨56, .guard⟩ (by simp) rfl).1))]
            have q64 : AC.tmps.getD 64 undef = V 59 := (hf.dep ⟨59, .data⟩ (by simp) rfl).2 64 rfl
            have t59 := (hf.dep ⟨59, .data⟩ (by simp) rfl).1
            obtain ⟨qa, e, hs⟩ := t59
            rw [e] at q64
            have q67 : AC.tmps.getD 67 undef = V 62 := (hf.dep ⟨62, .data⟩ (by simp) rfl).2 67 rfl
            have t62 := (hf.dep ⟨62, .data⟩ (by simp) rfl).1
            obtain ⟨qb, e, hs2⟩ := t62
            rw [e] at q67
            have HEq := sameI_any WW _ 11 [x0, x1, x2, x3, x4, x5, x6, x7, x8, x9, x10] _ 11 [x0', x1', x2', x3', x4', x5', x6', x7', x8', x9', x10'] hs hs2 nq HNQ.out (by simp)
            go_simp
            refine HEq.mono ?_
            rintro e w9 ⟨rfl, hb9⟩
            exact hK _ _ hb9 rfl
          · obtain rfl := Option.some.inj (show some _ = some oO from ho)
            rw [if_pos (by rfl)]
            have q61 : AC.tmps.getD 61 undef = .bool true := ((hf.dep ⟨56, .data⟩ (by simp) rfl).2 61 rfl).trans (hf.dep ⟨56, .data⟩ (by simp) rfl).1
            have q68 : AC.tmps.getD 68 undef = .bool nq := ((hf.dep ⟨63, .data⟩ (by simp) rfl).2 68 rfl).trans (hf.dep ⟨63, .data⟩ (by simp) rfl).1
            go_simp
            exact hK _ _ (Below.refl _ _) rfl
          · obtain rfl := Option.some.inj (show some _ = some oO from ho)
            rw [if_pos (by rfl)]
            have q69 : AC.tmps.getD 69 undef = .bool nq := ((hf.dep ⟨64, .data⟩ (by simp) rfl).2 69 rfl).trans (hf.dep ⟨64, .data⟩ (by simp) rfl).1
            go_simp
            exact hK _ _ (Below.refl _ _) rfl
          · omega
        · intro V WW hall hbw hBW
          have vv0 : V 0 = .pointer (some ⟨ga, 0, none⟩) := hall 0 (by decide)
          have vv1 : V 1 = .int .i64 k := hall 1 (by decide)
          have vv2 : V 2 = .pointer (some ⟨gb, 0, none⟩) := hall 2 (by decide)
          have vv3 : V 3 = .int .i64 k := hall 3 (by decide)
          have vv4 : V 4 = .bool true := hall 4 (by decide)
          have vv5 : V 5 = .bool true := hall 5 (by decide)
          have vv6 : V 6 = .pointer (some ⟨ga, 1, none⟩) := hall 6 (by decide)
          have vv7 : V 7 = .int .i64 lo := hall 7 (by decide)
          have vv8 : V 8 = .pointer (some ⟨gb, 1, none⟩) := hall 8 (by decide)
          have vv9 : V 9 = .int .i64 lo := hall 9 (by decide)
          have vv10 : V 10 = .bool true := hall 10 (by decide)
          have vv11 : V 11 = .bool true := hall 11 (by decide)
          have vv12 : V 12 = .bool true := hall 12 (by decide)
          have vv13 : V 13 = .pointer (some ⟨ga, 2, none⟩) := hall 13 (by decide)
          have vv14 : V 14 = .int .i64 a := hall 14 (by decide)
          have vv15 : V 15 = .pointer (some ⟨gb, 2, none⟩) := hall 15 (by decide)
          have vv16 : V 16 = .int .i64 a := hall 16 (by decide)
          have vv17 : V 17 = .bool true := hall 17 (by decide)
          have vv18 : V 18 = .bool true := hall 18 (by decide)
          have vv19 : V 19 = .bool true := hall 19 (by decide)
          have vv20 : V 20 = .pointer (some ⟨ga, 3, none⟩) := hall 20 (by decide)
          have vv21 : V 21 = .int .i64 b := hall 21 (by decide)
          have vv22 : V 22 = .pointer (some ⟨gb, 3, none⟩) := hall 22 (by decide)
          have vv23 : V 23 = .int .i64 b := hall 23 (by decide)
          have vv24 : V 24 = .bool true := hall 24 (by decide)
          have vv25 : V 25 = .bool true := hall 25 (by decide)
          have vv26 : V 26 = .bool true := hall 26 (by decide)
          have vv27 : V 27 = .pointer (some ⟨ga, 4, none⟩) := hall 27 (by decide)
          have vv28 : V 28 = .int .i64 n := hall 28 (by decide)
          have vv29 : V 29 = .pointer (some ⟨gb, 4, none⟩) := hall 29 (by decide)
          have vv30 : V 30 = .int .i64 n := hall 30 (by decide)
          have vv31 : V 31 = .bool true := hall 31 (by decide)
          have vv32 : V 32 = .bool true := hall 32 (by decide)
          have vv33 : V 33 = .bool true := hall 33 (by decide)
          have vv34 : V 34 = .pointer (some ⟨ga, 5, none⟩) := hall 34 (by decide)
          have vv35 : V 35 = .int .i64 p := hall 35 (by decide)
          have vv36 : V 36 = .pointer (some ⟨gb, 5, none⟩) := hall 36 (by decide)
          have vv37 : V 37 = .int .i64 p := hall 37 (by decide)
          have vv38 : V 38 = .bool true := hall 38 (by decide)
          have vv39 : V 39 = .bool true := hall 39 (by decide)
          have vv40 : V 40 = .bool true := hall 40 (by decide)
          have vv41 : V 41 = .pointer (some ⟨ga, 18, none⟩) := hall 41 (by decide)
          have vv42 : V 42 = .agg #[.int .i64 f0, .int .i64 f1, .int .i64 f2, .int .i64 f3, .int .i64 f4] := hall 42 (by decide)
          have vv43 : V 43 = .pointer (some ⟨gb, 18, none⟩) := hall 43 (by decide)
          have vv44 : V 44 = .agg #[.int .i64 f0, .int .i64 f1, .int .i64 f2, .int .i64 f3, .int .i64 f4] := hall 44 (by decide)
          have vv45 : V 45 = .bool true := hall 45 (by decide)
          have vv46 : V 46 = .bool true := hall 46 (by decide)
          have vv47 : V 47 = .bool true := hall 47 (by decide)
          have vv48 : V 48 = .pointer (some ⟨ga, 6, none⟩) := hall 48 (by decide)
          have vv49 : V 49 = .pointer (some ⟨ga, 6, none⟩) := hall 49 (by decide)
          have vv50 : V 50 = .slice ao L.length cap := hall 50 (by decide)
          have vv51 : V 51 = .pointer (some ⟨gb, 6, none⟩) := hall 51 (by decide)
          have vv52 : V 52 = .pointer (some ⟨gb, 6, none⟩) := hall 52 (by decide)
          have vv53 : V 53 = .slice bo M.length dap := hall 53 (by decide)
          have vv54 : V 54 = .bool true := hall 54 (by decide)
          have vv55 : V 55 = .bool true := hall 55 (by decide)
          have vv56 : V 56 = .bool true := hall 56 (by decide)
          have vv57 : V 57 = .pointer (some ⟨ga, 6, none⟩) := hall 57 (by decide)
          have vv58 : V 58 = .agg #[.slice ao L.length cap, .int .i64 x0, .int .i64 x1, .int .i64 x2, .int .i64 x3, .int .i64 x4, .int .i64 x5, .int .i64 x6, .int .i64 x7, .int .i64 x8, .int .i64 x9, .int .i64 x10] := hall 58 (by decide)
          have vv59 : ∃ q, V 59 = .slice (some ⟨q, 0, none⟩) 11 11 ∧ Sl WW (some ⟨q, 0, none⟩) 11 11 (ic [x0, x1, x2, x3, x4, x5, x6, x7, x8, x9, x10]) := hall 59 (by decide)
          have vv60 : V 60 = .pointer (some ⟨gb, 6, none⟩) := hall 60 (by decide)
          have vv61 : V 61 = .agg #[.slice bo M.length dap, .int .i64 x0', .int .i64 x1', .int .i64 x2', .int .i64 x3', .int .i64 x4', .int .i64 x5', .int .i64 x6', .int .i64 x7', .int .i64 x8', .int .i64 x9', .int .i64 x10'] := hall 61 (by decide)
          have vv62 : ∃ q, V 62 = .slice (some ⟨q, 0, none⟩) 11 11 ∧ Sl WW (some ⟨q, 0, none⟩) 11 11 (ic [x0', x1', x2', x3', x4', x5', x6', x7', x8', x9', x10']) := hall 62 (by decide)
          have vv63 : V 63 = .bool nq := hall 63 (by decide)
          have vv64 : V 64 = .bool nq := hall 64 (by decide)
          have vv65 : V 65 = .bool nq := hall 65 (by decide)
          clear hall
          simp only [pairsOf, laid, Nat.zero_add, Nat.reduceAdd, vv0, vv1, vv2, vv3, vv4, vv5, vv6, vv7, vv8, vv9, vv10, vv11, vv12, vv13, vv14, vv15, vv16, vv17, vv18, vv19, vv20, vv21, vv22, vv23, vv24, vv25, vv26, vv27, vv28, vv29, vv30, vv31, vv32, vv33, vv34, vv35, vv36, vv37, vv38, vv39, vv40, vv41, vv42, vv43, vv44, vv45, vv46, vv47, vv48, vv49, vv50, vv51, vv52, vv53, vv54, vv55, vv56, vv57, vv58, vv60, vv61, vv63, vv64, vv65, List.setIfInBounds_toArray, List.set_cons_zero, List.set_cons_succ]
          clear vv0 vv1 vv2 vv3 vv4 vv5 vv6 vv7 vv8 vv9 vv10 vv11 vv12 vv13 vv14 vv15 vv16 vv17 vv18 vv19 vv20 vv21 vv22 vv23 vv24 vv25 vv26 vv27 vv28 vv29 vv30 vv31 vv32 vv33 vv34 vv35 vv36 vv37 vv38 vv39 vv40 vv41 vv42 vv43 vv44 vv45 vv46 vv47 vv48 vv49 vv50 vv51 vv52 vv53 vv54 vv55 vv56 vv57 vv58 vv60 vv61 vv63 vv64 vv65
          have HW := Lib.hid hBW
          clear hbw hBW
          go_wp2
          go_ret
          exact ⟨by rw [HF.out]; rfl, HW.out⟩
  · have HF : Hid (v = false) := by
      show _ = _
      rw [← HV.out, Cm.same]
      rw [Bool.eq_false_iff]
      intro hh
      simp only [Cm.H, Cm.F, Bool.and_eq_true, decide_eq_true_eq, List.cons.injEq, and_true] at hh
      obtain ⟨⟨⟨d0, d1, d2, d3, d4, d5⟩, ⟨d6, d7, d8, d9, d10⟩⟩, _⟩ := hh
      rcases hne with e0 | ⟨e0, e1⟩ | ⟨e0, e1, e2⟩ | ⟨e0, e1, e2, e3⟩ | ⟨e0, e1, e2, e3, e4⟩ | ⟨e0, e1, e2, e3, e4, e5⟩ | ⟨e0, e1, e2, e3, e4, e5, e6⟩ | ⟨e0, e1, e2, e3, e4, e5, e6, e7⟩ | ⟨e0, e1, e2, e3, e4, e5, e6, e7, e8⟩ | ⟨e0, e1, e2, e3, e4, e5, e6, e7, e8, e9⟩ | ⟨e0, e1, e2, e3, e4, e5, e6, e7, e8, e9, e10⟩
      · exact absurd d0 e0
      · exact absurd d1 e1
      · exact absurd d2 e2
      · exact absurd d3 e3
      · exact absurd d4 e4
      · exact absurd d5 e5
      · exact absurd d6 e6
      · exact absurd d7 e7
      · exact absurd d8 e8
      · exact absurd d9 e9
      · exact absurd d10 e10
    clear HV HS1 HS2
    rcases hne with e0 | ⟨rfl, e1⟩ | ⟨rfl, rfl, e2⟩ | ⟨rfl, rfl, rfl, e3⟩ | ⟨rfl, rfl, rfl, rfl, e4⟩ | ⟨rfl, rfl, rfl, rfl, rfl, e5⟩ | ⟨rfl, rfl, rfl, rfl, rfl, rfl, e6⟩ | ⟨rfl, rfl, rfl, rfl, rfl, rfl, rfl, e7⟩ | ⟨rfl, rfl, rfl, rfl, rfl, rfl, rfl, rfl, e8⟩ | ⟨rfl, rfl, rfl, rfl, rfl, rfl, rfl, rfl, rfl, e9⟩ | ⟨rfl, rfl, rfl, rfl, rfl, rfl, rfl, rfl, rfl, rfl, e10⟩
    · refine (rsame22_l0 w ao bo cap dap L M k lo a b n p x0 x1 x2 x3 x4 x5 x6 x7 x8 x9 x10 f0 f1 f2 f3 f4 k' lo' a' b' n' p' f0' f1' f2' f3' f4' x0' x1' x2' x3' x4' x5' x6' x7' x8' x9' x10' e0).mono ?_
      rintro e w1 ⟨h1, h2⟩
      exact ⟨by rw [HF.out]; exact h1, h2⟩
    · refine (rsame22_l1 w ao bo cap dap L M k lo a b n p x0 x1 x2 x3 x4 x5 x6 x7 x8 x9 x10 f0 f1 f2 f3 f4 lo' a' b' n' p' f0' f1' f2' f3' f4' x0' x1' x2' x3' x4' x5' x6' x7' x8' x9' x10' e1).mono ?_
      rintro e w1 ⟨h1, h2⟩
      exact ⟨by rw [HF.out]; exact h1, h2⟩
    · refine (rsame22_l2 w ao bo cap dap L M k lo a b n p x0 x1 x2 x3 x4 x5 x6 x7 x8 x9 x10 f0 f1 f2 f3 f4 a' b' n' p' f0' f1' f2' f3' f4' x0' x1' x2' x3' x4' x5' x6' x7' x8' x9' x10' e2).mono ?_
      rintro e w1 ⟨h1, h2⟩
      exact ⟨by rw [HF.out]; exact h1, h2⟩
    · refine (rsame22_l3 w ao bo cap dap L M k lo a b n p x0 x1 x2 x3 x4 x5 x6 x7 x8 x9 x10 f0 f1 f2 f3 f4 b' n' p' f0' f1' f2' f3' f4' x0' x1' x2' x3' x4' x5' x6' x7' x8' x9' x10' e3).mono ?_
      rintro e w1 ⟨h1, h2⟩
      exact ⟨by rw [HF.out]; exact h1, h2⟩
    · refine (rsame22_l4 w ao bo cap dap L M k lo a b n p x0 x1 x2 x3 x4 x5 x6 x7 x8 x9 x10 f0 f1 f2 f3 f4 n' p' f0' f1' f2' f3' f4' x0' x1' x2' x3' x4' x5' x6' x7' x8' x9' x10' e4).mono ?_
      rintro e w1 ⟨h1, h2⟩
      exact ⟨by rw [HF.out]; exact h1, h2⟩
    · refine (rsame22_l5 w ao bo cap dap L M k lo a b n p x0 x1 x2 x3 x4 x5 x6 x7 x8 x9 x10 f0 f1 f2 f3 f4 p' f0' f1' f2' f3' f4' x0' x1' x2' x3' x4' x5' x6' x7' x8' x9' x10' e5).mono ?_
      rintro e w1 ⟨h1, h2⟩
      exact ⟨by rw [HF.out]; exact h1, h2⟩
    · refine (rsame22_l6 w ao bo cap dap L M k lo a b n p x0 x1 x2 x3 x4 x5 x6 x7 x8 x9 x10 f0 f1 f2 f3 f4 f0' f1' f2' f3' f4' x0' x1' x2' x3' x4' x5' x6' x7' x8' x9' x10' e6).mono ?_
      rintro e w1 ⟨h1, h2⟩
      exact ⟨by rw [HF.out]; exact h1, h2⟩
    · refine (rsame22_l7 w ao bo cap dap L M k lo a b n p x0 x1 x2 x3 x4 x5 x6 x7 x8 x9 x10 f0 f1 f2 f3 f4 f1' f2' f3' f4' x0' x1' x2' x3' x4' x5' x6' x7' x8' x9' x10' e7).mono ?_
      rintro e w1 ⟨h1, h2⟩
      exact ⟨by rw [HF.out]; exact h1, h2⟩
    · refine (rsame22_l8 w ao bo cap dap L M k lo a b n p x0 x1 x2 x3 x4 x5 x6 x7 x8 x9 x10 f0 f1 f2 f3 f4 f2' f3' f4' x0' x1' x2' x3' x4' x5' x6' x7' x8' x9' x10' e8).mono ?_
      rintro e w1 ⟨h1, h2⟩
      exact ⟨by rw [HF.out]; exact h1, h2⟩
    · refine (rsame22_l9 w ao bo cap dap L M k lo a b n p x0 x1 x2 x3 x4 x5 x6 x7 x8 x9 x10 f0 f1 f2 f3 f4 f3' f4' x0' x1' x2' x3' x4' x5' x6' x7' x8' x9' x10' e9).mono ?_
      rintro e w1 ⟨h1, h2⟩
      exact ⟨by rw [HF.out]; exact h1, h2⟩
    · refine (rsame22_l10 w ao bo cap dap L M k lo a b n p x0 x1 x2 x3 x4 x5 x6 x7 x8 x9 x10 f0 f1 f2 f3 f4 f4' x0' x1' x2' x3' x4' x5' x6' x7' x8' x9' x10' e10).mono ?_
      rintro e w1 ⟨h1, h2⟩
      exact ⟨by rw [HF.out]; exact h1, h2⟩
end Go.Proofs.Ytdkcccigmejikaa
