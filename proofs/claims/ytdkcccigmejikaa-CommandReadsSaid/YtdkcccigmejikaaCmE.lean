/-
  Commands: the walk of the reference's Right.
-/
import Derived.Test.YtdkcccigmejikaaCmC
set_option linter.unusedVariables false
set_option linter.unusedSimpArgs false
set_option maxRecDepth 20000
namespace Go.Proofs.Ytdkcccigmejikaa
open Go.RowKit

theorem rsmall_any (x : Int) (v : Bool) (hv : big32 x = v) (w : World) : Calls Try.prog 40 #[.int .i64 x] w fun e w' => e = .returned (.bool (!v)) ∧ w' = w := by
  have HV := Lib.hid hv
  clear hv
  by_cases x0 : -2147483648 ≤ x
  · by_cases x1 : x ≤ 2147483647
    · have HF : Hid (v = false) := by show _ = _; rw [← HV.out]; simp [big32]; omega
      clear HV
      go_enter Try.func40, Try.ntmps40
      go_wp2
      go_ret
      exact ⟨by rw [HF.out]; rfl, rfl⟩
    · have HF : Hid (v = true) := by show _ = _; rw [← HV.out]; simp [big32]; omega
      clear HV
      go_enter Try.func40, Try.ntmps40
      go_wp2
      go_ret
      exact ⟨by rw [HF.out]; rfl, rfl⟩
  · have HF : Hid (v = true) := by show _ = _; rw [← HV.out]; simp [big32]; omega
    clear HV
    go_enter Try.func40, Try.ntmps40
    go_wp2
    go_ret
    exact ⟨by rw [HF.out]; rfl, rfl⟩
set_option maxHeartbeats 6400000 in
theorem rright22_any (w : World) (ao : Option Addr) (cap : Nat) (c : Cm) (v : Bool) (hv : c.right = v) (hl : c.L.length ≤ 1000000000) :
    Calls Try.prog 18 #[.agg (c.C (.slice ao c.L.length cap)).toArray] w fun e w' => e = .returned (.bool v) ∧ Below w.heap.size w w' := by
  obtain ⟨k, lo, a, b, n, p, L, x0, x1, x2, x3, x4, x5, x6, x7, x8, x9, x10, f0, f1, f2, f3, f4⟩ := c
  replace hl : L.length ≤ 1000000000 := hl
  show Calls Try.prog 18 #[.agg #[.int .i64 k, .int .i64 lo, .int .i64 a, .int .i64 b, .int .i64 n, .int .i64 p, .slice ao L.length cap, .int .i64 x0, .int .i64 x1, .int .i64 x2, .int .i64 x3, .int .i64 x4, .int .i64 x5, .int .i64 x6, .int .i64 x7, .int .i64 x8, .int .i64 x9, .int .i64 x10, .int .i64 f0, .int .i64 f1, .int .i64 f2, .int .i64 f3, .int .i64 f4]] w _
  have HB0 := Lib.hid (below_new1 w (.cells #[.int .i64 k, .int .i64 lo, .int .i64 a, .int .i64 b, .int .i64 n, .int .i64 p, .slice ao L.length cap, .int .i64 x0, .int .i64 x1, .int .i64 x2, .int .i64 x3, .int .i64 x4, .int .i64 x5, .int .i64 x6, .int .i64 x7, .int .i64 x8, .int .i64 x9, .int .i64 x10, .int .i64 f0, .int .i64 f1, .int .i64 f2, .int .i64 f3, .int .i64 f4] 45))
  have HG0 := Lib.hid (Blk.new w 45 [.int .i64 k, .int .i64 lo, .int .i64 a, .int .i64 b, .int .i64 n, .int .i64 p, .slice ao L.length cap, .int .i64 x0, .int .i64 x1, .int .i64 x2, .int .i64 x3, .int .i64 x4, .int .i64 x5, .int .i64 x6, .int .i64 x7, .int .i64 x8, .int .i64 x9, .int .i64 x10, .int .i64 f0, .int .i64 f1, .int .i64 f2, .int .i64 f3, .int .i64 f4])
  obtain ⟨s1, hs1⟩ : ∃ s, big32 lo = s := ⟨_, rfl⟩
  obtain ⟨s2, hs2⟩ : ∃ s, big32 a = s := ⟨_, rfl⟩
  obtain ⟨s3, hs3⟩ : ∃ s, big32 b = s := ⟨_, rfl⟩
  obtain ⟨z, hz⟩ : ∃ s, [x0, x1, x2, x3, x4, x5, x6, x7, x8, x9, x10].any isnz = s := ⟨_, rfl⟩
  have hv2 : (decide (1 ≤ k) && decide (k ≤ 25) && !(s1 || (s2 || s3)) && decide (f0 = 0) && decide (f4 = 0) && (decide (L.length = 0) && !z || (decide (k = 1) && decide (L.length ≤ 16))) && (decide (f1 = 0) && decide (f2 = 0) && decide (f3 = 0) || decide (k = 15))) = v := by
    rw [← hv, ← hs1, ← hs2, ← hs3, ← hz]
    simp [Cm.right, emptyS, Cm.N]
  have HV := Lib.hid hv2
  have HS1 := Lib.hid (fun W => rsmall_any lo s1 hs1 W)
  have HS2 := Lib.hid (fun W => rsmall_any a s2 hs2 W)
  have HS3 := Lib.hid (fun W => rsmall_any b s3 hs3 W)
  have HZz := Lib.hid hz
  have HN := Lib.hid (fun U => rnumbers_any U ao cap L x0 x1 x2 x3 x4 x5 x6 x7 x8 x9 x10)
  clear hv hv2 hs1 hs2 hs3 hz
  by_cases k0 : k < 1
  · go_enter Try.func18, Try.ntmps18
    have HF : Hid (v = false) := by show _ = _; rw [← HV.out]; simp [k0] <;> omega
    clear HV
    go_wp2
    go_ret
    exact ⟨by rw [HF.out]; rfl, HB0.out⟩
  · by_cases k1 : 25 < k
    · go_enter Try.func18, Try.ntmps18
      have HF : Hid (v = false) := by show _ = _; rw [← HV.out]; simp [k1] <;> omega
      clear HV
      go_wp2
      go_ret
      exact ⟨by rw [HF.out]; rfl, HB0.out⟩
    · have k2 : k ≤ 25 := by omega
      go_enter Try.func18, Try.ntmps18
      go_wp2_with fail
      refine (HS1.out _).mono ?_
      rintro e9 w2 ⟨rfl, rfl⟩
      clear HS1
      cases s1 with
      | true =>
        have HF : Hid (v = false) := by show _ = _; rw [← HV.out]; simp <;> omega
        clear HV
        go_wp2
        go_ret
        exact ⟨by rw [HF.out]; rfl, HB0.out⟩
      | false =>
        go_wp2_with fail
        refine (HS2.out _).mono ?_
        rintro e9 w2 ⟨rfl, rfl⟩
        clear HS2
        cases s2 with
        | true =>
          have HF : Hid (v = false) := by show _ = _; rw [← HV.out]; simp <;> omega
          clear HV
          go_wp2
          go_ret
          exact ⟨by rw [HF.out]; rfl, HB0.out⟩
        | false =>
          go_wp2_with fail
          refine (HS3.out _).mono ?_
          rintro e9 w2 ⟨rfl, rfl⟩
          clear HS3
          cases s3 with
          | true =>
            have HF : Hid (v = false) := by show _ = _; rw [← HV.out]; simp <;> omega
            clear HV
            go_wp2
            go_ret
            exact ⟨by rw [HF.out]; rfl, HB0.out⟩
          | false =>
            by_cases kx : k = 1
            · subst kx
              clear HN HZz
              have HZ : (f0 = 0 ∧ f1 = 0 ∧ f2 = 0 ∧ f3 = 0 ∧ f4 = 0) ∨ ((¬ f0 = 0) ∨ (f0 = 0 ∧ ¬ f1 = 0) ∨ (f0 = 0 ∧ f1 = 0 ∧ ¬ f2 = 0) ∨ (f0 = 0 ∧ f1 = 0 ∧ f2 = 0 ∧ ¬ f3 = 0) ∨ (f0 = 0 ∧ f1 = 0 ∧ f2 = 0 ∧ f3 = 0 ∧ ¬ f4 = 0)) := by omega
              have k15 : ¬ (1 : Int) = 15 := by decide
              rcases HZ with ⟨rfl, rfl, rfl, rfl, rfl⟩ | hz
              · by_cases L16 : (L.length : Int) ≤ 16
                · have L17 : L.length ≤ 16 := by omega
                  have HF : Hid (v = true) := by show _ = _; rw [← HV.out]; simp [L17] <;> omega
                  clear HV
                  go_wp2
                  go_ret
                  exact ⟨by rw [HF.out]; rfl, HB0.out⟩
                · have L17 : ¬ L.length ≤ 16 := by omega
                  have L18 : ¬ L = [] := by intro e; rw [e] at L17; simp at L17
                  have HF : Hid (v = false) := by show _ = _; rw [← HV.out]; simp [L17, L18] <;> omega
                  clear HV
                  go_wp2
                  go_ret
                  exact ⟨by rw [HF.out]; rfl, HB0.out⟩
              · rcases hz with g0 | ⟨rfl, g1⟩ | ⟨rfl, rfl, g2⟩ | ⟨rfl, rfl, rfl, g3⟩ | ⟨rfl, rfl, rfl, rfl, g4⟩
                · have qq : (f0 != 0) = true := by simpa using g0
                  have HF : Hid (v = false) := by show _ = _; rw [← HV.out]; simp [g0, k15] <;> omega
                  clear HV
                  go_wp2
                  go_ret
                  exact ⟨by rw [HF.out]; rfl, HB0.out⟩
                · have qq : (f1 != 0) = true := by simpa using g1
                  have HF : Hid (v = false) := by show _ = _; rw [← HV.out]; simp [g1, k15] <;> omega
                  clear HV
                  go_wp2
                  go_ret
                  exact ⟨by rw [HF.out]; rfl, HB0.out⟩
                · have qq : (f2 != 0) = true := by simpa using g2
                  have HF : Hid (v = false) := by show _ = _; rw [← HV.out]; simp [g2, k15] <;> omega
                  clear HV
                  go_wp2
                  go_ret
                  exact ⟨by rw [HF.out]; rfl, HB0.out⟩
                · have qq : (f3 != 0) = true := by simpa using g3
                  have HF : Hid (v = false) := by show _ = _; rw [← HV.out]; simp [g3, k15] <;> omega
                  clear HV
                  go_wp2
                  go_ret
                  exact ⟨by rw [HF.out]; rfl, HB0.out⟩
                · have qq : (f4 != 0) = true := by simpa using g4
                  have HF : Hid (v = false) := by show _ = _; rw [← HV.out]; simp [g4, k15] <;> omega
                  clear HV
                  go_wp2
                  go_ret
                  exact ⟨by rw [HF.out]; rfl, HB0.out⟩
            · have kb1 : (k != 1) = true := by simpa using kx
              go_wp2_with fail
              refine (HN.out _).mono ?_
              rintro e9 w3 ⟨q, rfl, hq, hb3⟩
              have HB3 := Lib.hid (below_on HB0.out HB0.out.size hb3)
              have HG3 := Lib.hid (HG0.out.keeps hb3)
              have HQ := Lib.hid hq
              clear hb3 hq HN HB0 HG0 kb1
              go_wp2
              go_loopw [38] (fun i wr => ∃ n : Nat, n ≤ 11 ∧ i = .int .i64 n ∧ Hid (([x0, x1, x2, x3, x4, x5, x6, x7, x8, x9, x10].take n).any isnz = false) ∧ Below w3.heap.size w3 wr) (fun i _ => 11 - (intOf i).toNat)
              case atStart => exact ⟨0, by omega, rfl, by show _ = _; simp, Below.refl _ _⟩
              case round =>
                obtain ⟨n, hn, rfl, HK, hb⟩ := hrel
                by_cases hnl : n < 11
                · obtain ⟨x, hx⟩ : ∃ t, [x0, x1, x2, x3, x4, x5, x6, x7, x8, x9, x10][n]? = some t := ⟨_, List.getElem?_eq_getElem (by simpa using hnl)⟩
                  have HX := Lib.hid hx
                  have hw := HQ.out.keeps hb
                  clear hx
                  by_cases xz : x = 0
                  · subst xz
                    have HNn : Hid (([x0, x1, x2, x3, x4, x5, x6, x7, x8, x9, x10].take (n + 1)).any isnz = false) := by
                      show _ = _
                      obtain ⟨hk2, e⟩ := List.getElem?_eq_some_iff.1 HX.out
                      rw [List.take_succ_eq_append_getElem hk2, List.any_append, HK.out, e]; rfl
                    go_wp2_with (refine wpList_ix_sl rfl 23 2 _ _ rfl Try.underlying23 size_i64 (some ⟨q, 0, none⟩) 11 11 rfl (ic [x0, x1, x2, x3, x4, x5, x6, x7, x8, x9, x10]) hw n hnl rfl ?_; intro b5 off5 u hu hcell; obtain rfl : u = .int .i64 0 := by (rw [ic_at HX.out] at hu; exact (Option.some.inj hu).symm))
                    go_roundw
                    · exact ⟨n + 1, by omega, by go_num, HNn, hb⟩
                    · simp [intOf]; omega
                  · have xb : (x != 0) = true := by simpa using xz
                    obtain rfl : z = true := by
                      rw [← HZz.out, List.any_eq_true]
                      exact ⟨x, List.mem_of_getElem? HX.out, xb⟩
                    have HF : Hid (v = false) := by show _ = _; rw [← HV.out]; simp [kx]
                    have HBe := Lib.hid (below_on HB3.out HB3.out.size hb)
                    clear HV
                    go_wp2_with (refine wpList_ix_sl rfl 23 2 _ _ rfl Try.underlying23 size_i64 (some ⟨q, 0, none⟩) 11 11 rfl (ic [x0, x1, x2, x3, x4, x5, x6, x7, x8, x9, x10]) hw n hnl rfl ?_; intro b5 off5 u hu hcell; obtain rfl : u = .int .i64 x := by (rw [ic_at HX.out] at hu; exact (Option.some.inj hu).symm))
                    go_ret
                    exact ⟨by rw [HF.out]; rfl, HBe.out⟩
                · obtain rfl : n = 11 := by omega
                  obtain rfl : z = false := by
                    rw [← HZz.out]
                    exact HK.out
                  have HBe := Lib.hid (below_on HB3.out HB3.out.size hb)
                  have HGe := Lib.hid (HG3.out.keeps hb)
                  have c0 := HGe.out.cell 0 _ rfl
                  have c6 := HGe.out.cell 6 _ rfl
                  have c18 := HGe.out.cell 18 _ rfl
                  have c19 := HGe.out.cell 19 _ rfl
                  have c20 := HGe.out.cell 20 _ rfl
                  have c21 := HGe.out.cell 21 _ rfl
                  have c22 := HGe.out.cell 22 _ rfl
                  clear hb HG3 HB3 HQ HK HZz
                  by_cases hL : L.length = 0
                  · have hL2 : ¬ (0 : Int) < L.length := by omega
                    have L16 : (L.length : Int) ≤ 16 := by omega
                    by_cases k15 : k = 15
                    · subst k15
                      by_cases z0 : f0 = 0
                      · subst z0
                        by_cases z4 : f4 = 0
                        · subst z4
                          have HF : Hid (v = true) := by show _ = _; rw [← HV.out]; simp [k2, kx, hL] <;> omega
                          clear HV
                          go_wp2
                          go_ret
                          exact ⟨by rw [HF.out]; rfl, HBe.out⟩
                        · have qq : (f4 == 0) = false := by simpa using z4
                          have HF : Hid (v = false) := by show _ = _; rw [← HV.out]; simp [z4] <;> omega
                          clear HV
                          go_wp2
                          go_ret
                          exact ⟨by rw [HF.out]; rfl, HBe.out⟩
                      · have qq : (f0 == 0) = false := by simpa using z0
                        have HF : Hid (v = false) := by show _ = _; rw [← HV.out]; simp [z0] <;> omega
                        clear HV
                        go_wp2
                        go_ret
                        exact ⟨by rw [HF.out]; rfl, HBe.out⟩
                    · have kb : (k == 15) = false := by simpa using k15
                      have HZ : (f0 = 0 ∧ f1 = 0 ∧ f2 = 0 ∧ f3 = 0 ∧ f4 = 0) ∨ ((¬ f0 = 0) ∨ (f0 = 0 ∧ ¬ f1 = 0) ∨ (f0 = 0 ∧ f1 = 0 ∧ ¬ f2 = 0) ∨ (f0 = 0 ∧ f1 = 0 ∧ f2 = 0 ∧ ¬ f3 = 0) ∨ (f0 = 0 ∧ f1 = 0 ∧ f2 = 0 ∧ f3 = 0 ∧ ¬ f4 = 0)) := by omega
                      rcases HZ with ⟨rfl, rfl, rfl, rfl, rfl⟩ | hz
                      · skip
                        have HF : Hid (v = true) := by show _ = _; rw [← HV.out]; simp [k0, k1, k2, kx, hL] <;> omega
                        clear HV
                        go_wp2
                        go_ret
                        exact ⟨by rw [HF.out]; rfl, HBe.out⟩
                      · rcases hz with g0 | ⟨rfl, g1⟩ | ⟨rfl, rfl, g2⟩ | ⟨rfl, rfl, rfl, g3⟩ | ⟨rfl, rfl, rfl, rfl, g4⟩
                        · have qq : (f0 != 0) = true := by simpa using g0
                          have HF : Hid (v = false) := by show _ = _; rw [← HV.out]; simp [k0, k1, k2, kx, hL, g0, k15] <;> omega
                          clear HV
                          go_wp2
                          go_ret
                          exact ⟨by rw [HF.out]; rfl, HBe.out⟩
                        · have qq : (f1 != 0) = true := by simpa using g1
                          have HF : Hid (v = false) := by show _ = _; rw [← HV.out]; simp [k0, k1, k2, kx, hL, g1, k15] <;> omega
                          clear HV
                          go_wp2
                          go_ret
                          exact ⟨by rw [HF.out]; rfl, HBe.out⟩
                        · have qq : (f2 != 0) = true := by simpa using g2
                          have HF : Hid (v = false) := by show _ = _; rw [← HV.out]; simp [k0, k1, k2, kx, hL, g2, k15] <;> omega
                          clear HV
                          go_wp2
                          go_ret
                          exact ⟨by rw [HF.out]; rfl, HBe.out⟩
                        · have qq : (f3 != 0) = true := by simpa using g3
                          have HF : Hid (v = false) := by show _ = _; rw [← HV.out]; simp [k0, k1, k2, kx, hL, g3, k15] <;> omega
                          clear HV
                          go_wp2
                          go_ret
                          exact ⟨by rw [HF.out]; rfl, HBe.out⟩
                        · have qq : (f4 != 0) = true := by simpa using g4
                          have HF : Hid (v = false) := by show _ = _; rw [← HV.out]; simp [k0, k1, k2, kx, hL, g4, k15] <;> omega
                          clear HV
                          go_wp2
                          go_ret
                          exact ⟨by rw [HF.out]; rfl, HBe.out⟩
                  · have hL2 : (0 : Int) < L.length := by omega
                    have HF : Hid (v = false) := by show _ = _; rw [← HV.out]; simp [hL, kx] <;> omega
                    clear HV
                    go_wp2
                    go_ret
                    exact ⟨by rw [HF.out]; rfl, HBe.out⟩
end Go.Proofs.Ytdkcccigmejikaa
