/-
  Answers: the walks of command.Pack and of the reference's Pack.
-/
import Derived.Test.YtdkcccigmejikaaCmJ
import Derived.Test.YtdkcccigmejikaaThen
set_option linter.unusedVariables false
set_option linter.unusedSimpArgs false
set_option maxRecDepth 20000
namespace Go.Proofs.Ytdkcccigmejikaa
open Go.RowKit

theorem wrap_n64 {n : Nat} (h : n < 18446744073709551616) : IntKind.u64.wrap (n : Int) = n := by
  rw [IntKind.wrap_u64]; omega
theorem sl_uc2 {w : World} {q a b : Nat} (h : Blk w q 62 [.int .u64 a, .int .u64 b]) : Sl w (some ⟨q, 0, none⟩) [a, b].length 2 (uc [a, b]) :=
  ⟨rfl, Nat.le_refl _, by simp, fun _ => ⟨_, _, rfl, fun j u hu => by rw [Nat.zero_add]; exact h.cell j u hu⟩⟩
section
variable {ops : Array Oper} {rest : List Oper} {o : Oper} {a : Act} {w : World} {Q : Exit → Act → World → Prop} {K : Act → World → Prop}
theorem ap_sl_op (s x : Operand) (ho : o.op = .call { callee := .builtin .append, args := #[s, x], argTypes := #[27, 27] }) (hty : o.type = 27)
    (base : Nat) (v : Value) (hv : a.eval s = v) (L : List UInt8) (hown : OwB w base v L)
    (M : List UInt8) (vx : Value) (hx : a.eval x = vx) (hs : SlB w vx M) (hbytes : L.length + M.length ≤ 100000000) (hbase : base ≤ w.heap.size)
    (h : ∀ v' w', OwB w' base v' (L ++ M) → w.grownBy w' v.ownBlock → K (a.put o.dst v') w') : Oper.wp Try.prog o a w K Q := by
  obtain ⟨i, hi, h0, h1, h2⟩ := info_parts info_u8
  obtain ⟨ao, cap, rfl, hsl⟩ := hs
  have hsrc := Sl.src Try.underlying27 hsl (bc_one M)
  rw [bc_len] at hsrc
  obtain ⟨v', w', hrun, k1, k2, k3⟩ := run_append_own_src (P := Try.prog) w base 27 27 o.type 5 i (.int .u8 0) 1 Try.underlying27 hi h0 h1 h2 rfl v L.length (bc L) hown (.slice ao M.length cap) M.length (bc M) hsrc (by simp only [maxLen]; omega) (by omega) hbase
  unfold Oper.wp
  simp [execOp, ho, resolve, invoke, builtin, hv, hx, hrun, Result.andThen]
  exact h v' w' (by show World.ownsRow _ _ _ _ _ _ _; rw [List.length_append, bc_app]; exact k1) k2
end
/-- What Pack answers. -/
def packA (e : Int) (N : List Int) : List UInt8 × Int := if rightA e N.length = true then (encs [e.toNat, N.length] ++ encs (N.map zig), 0) else ([], 221)
theorem rightA_true {e : Int} {n : Nat} (h : rightA e n = true) : 0 ≤ e ∧ e ≤ 65535 ∧ n ≤ 64 ∧ (e = 0 ∨ n = 0) := by
  simp only [rightA, Bool.and_eq_true, Bool.or_eq_true, decide_eq_true_eq] at h
  omega
set_option maxHeartbeats 3200000 in
theorem cpack_any (w : World) (er : Int) (ao : Option Addr) (cap : Nat) (N : List Int) (h : Sl w ao N.length cap (ic N)) (hw : ∀ x ∈ N, in64 x) (hl : N.length ≤ 1000000000000) (s : List UInt8 × Int) (hs : packA er N = s) :
    Calls Try.prog 10 #[.agg #[.int .i64 er, .slice ao N.length cap]] w fun e w' => ∃ v', e = .returned (.tuple #[v', .int .i64 s.2]) ∧ OwB w' w.heap.size v' s.1 ∧ Below w.heap.size w w' := by
  have HB0 := Lib.hid (below_new1 w (.cells #[.int .i64 er, .slice ao N.length cap] 25))
  have HG0 := Lib.hid (Blk.new w 25 [.int .i64 er, .slice ao N.length cap])
  obtain ⟨ra, hra⟩ : ∃ b, rightA er N.length = b := ⟨_, rfl⟩
  have HR := Lib.hid (fun U => aright_any U er ao N.length cap hl ra hra)
  unfold packA at hs
  rw [hra] at hs
  have hrt := fun e : ra = true => rightA_true (hra.trans e)
  have HS := Lib.hid hs
  have HH := Lib.hid h
  have HW := Lib.hid hw
  clear hs hra h hw
  go_enter Try.func10, Try.ntmps10
  go_wp2_with fail
  refine (HR.out _).mono ?_
  rintro e w1 ⟨rfl, hb1⟩
  have HB1 := Lib.hid (below_on HB0.out HB0.out.size hb1)
  have HG := Lib.hid (HG0.out.keeps hb1)
  have HN := Lib.hid (HH.out.keeps HB1.out)
  have HLn := Lib.hid hl
  clear hb1 HR HB0 HG0 HH hl
  cases ra with
  | false =>
    obtain rfl : s = ([], 221) := HS.out.symm
    clear HS
    go_wp2
    exact bodyPost_ret (v := .tuple #[.slice none 0 0, .int .i64 221]) (by simp [results, Try.results10, go_sem]) rfl ⟨_, rfl, own_nil _ _, HB1.out⟩
  | true =>
    obtain ⟨r0, r1, r2, r3⟩ := hrt rfl
    obtain ⟨en, rfl⟩ := Int.eq_ofNat_of_zero_le r0
    obtain ⟨Z, hZ⟩ : ∃ Z, encs [en, N.length] ++ encs (N.map zig) = Z := ⟨_, rfl⟩
    obtain rfl : s = (Z, 0) := by rw [← HS.out, ← hZ]; rfl
    have HZ := Lib.hid hZ
    have HE0 : Hid (en ≤ 65535) := by show _ ≤ _; omega
    have HE1 : Hid (N.length ≤ 64) := r2
    have HME : Hid ((encs [en, N.length]).length ≤ 100) := by show _ ≤ _; have := encs_len (N := [en, N.length]) (by intro x hx; simp at hx; omega); simp at this ⊢; omega
    have HQ := Lib.hid (Below.refl w1.heap.size w1)
    clear HS hrt r0 r1 r2 r3 hZ
    go_wp2
    obtain ⟨g, hg⟩ : ∃ g, w.heap.size = g := ⟨_, rfl⟩
    rw [hg] at HG
    have HG9 := Lib.hid hg
    simp only [hg]
    clear hg
    skip
    refine region_mono (by kernel_rfl) (by kernel_rfl) [some 7, some 8, some 9, some 10, some 11, some 12, some 13, some 14, some 15, some 16, some 17, some 18, some 2, some 3] (by kernel_rfl) w.heap.size w HB1.out (Nat.le_refl _) (fun i v WW => match i with | 0 => v = .pointer (some ⟨g, 0, none⟩) | 1 => v = .int .i64 (en : Int) | 2 => v = .int .u64 (en : Int) | 3 => v = .pointer (some ⟨g, 1, none⟩) | 4 => v = .slice ao N.length cap | 5 => v = .int .i64 N.length | 6 => v = .int .u64 N.length | 7 => ∃ q, v = .slice (some ⟨q, 0, none⟩) 2 2 ∧ Blk WW q 62 [.int .u64 en, .int .u64 N.length] | 8 => SlB WW v (encs [en, N.length]) | 9 => v = .pointer (some ⟨g, 1, none⟩) | 10 => v = .slice ao N.length cap | 11 => OwB WW w1.heap.size v (encs [en, N.length] ++ encs (N.map zig)) | 12 => OwB WW w1.heap.size v (encs [en, N.length] ++ encs (N.map zig)) | 13 => v = .int .i64 0 | _ => True) ?_ ?_ ?_
    · intro i v WW WX h hbx
      rcases i with _ | _ | _ | _ | _ | _ | _ | _ | _ | _ | _ | _ | _ | _ | i
      · exact h
      · exact h
      · exact h
      · exact h
      · exact h
      · exact h
      · exact h
      · obtain ⟨q, e, hs⟩ := h; exact ⟨q, e, hs.keeps hbx⟩
      · exact SlB.keeps h hbx
      · exact h
      · exact h
      · exact owb_kp h hbx
      · exact owb_kp h hbx
      · exact h
      · trivial
    · intro iI oO V AC WW ho hf hbw K hK
      have hlt : iI < 14 := by have := (Array.getElem?_eq_some_iff.1 ho).1; first | exact this | simpa using this
      rcases iI with _ | _ | _ | _ | _ | _ | _ | _ | _ | _ | _ | _ | _ | _ | iI
      · obtain rfl := Option.some.inj (show some _ = some oO from ho)
        rw [if_pos (by rfl)]
        have q1 : AC.tmps.getD 1 undef = .pointer (some ⟨g, 0, none⟩) := hf.rest 1 (by kernel_rfl)
        go_simp
        exact hK _ _ (Below.refl _ _) rfl
      · obtain rfl := Option.some.inj (show some _ = some oO from ho)
        rw [if_pos (by rfl)]
        have q7 : AC.tmps.getD 7 undef = .pointer (some ⟨g, 0, none⟩) := ((hf.dep ⟨0, .data⟩ (by simp) rfl).2 7 rfl).trans (hf.dep ⟨0, .data⟩ (by simp) rfl).1
        have hG := HG.out.keeps hbw
        have g0 := hG.cell 0 _ rfl
        go_simp
        exact hK _ _ (Below.refl _ _) rfl
      · obtain rfl := Option.some.inj (show some _ = some oO from ho)
        rw [if_pos (by rfl)]
        have q8 : AC.tmps.getD 8 undef = .int .i64 (en : Int) := ((hf.dep ⟨1, .data⟩ (by simp) rfl).2 8 rfl).trans (hf.dep ⟨1, .data⟩ (by simp) rfl).1
        go_simp
        exact hK _ _ (Below.refl _ _) (by show Value.int _ _ = Value.int _ _; rw [wrap_n64 (by have := HE0.out; have := HE1.out; omega)])
      · obtain rfl := Option.some.inj (show some _ = some oO from ho)
        rw [if_pos (by rfl)]
        have q1 : AC.tmps.getD 1 undef = .pointer (some ⟨g, 0, none⟩) := hf.rest 1 (by kernel_rfl)
        go_simp
        exact hK _ _ (Below.refl _ _) rfl
      · obtain rfl := Option.some.inj (show some _ = some oO from ho)
        rw [if_pos (by rfl)]
        have q10 : AC.tmps.getD 10 undef = .pointer (some ⟨g, 1, none⟩) := ((hf.dep ⟨3, .data⟩ (by simp) rfl).2 10 rfl).trans (hf.dep ⟨3, .data⟩ (by simp) rfl).1
        have hG := HG.out.keeps hbw
        have g1 := hG.cell 1 _ rfl
        go_simp
        exact hK _ _ (Below.refl _ _) rfl
      · obtain rfl := Option.some.inj (show some _ = some oO from ho)
        rw [if_pos (by rfl)]
        have q11 : AC.tmps.getD 11 undef = .slice ao N.length cap := ((hf.dep ⟨4, .data⟩ (by simp) rfl).2 11 rfl).trans (hf.dep ⟨4, .data⟩ (by simp) rfl).1
        go_simp
        exact hK _ _ (Below.refl _ _) rfl
      · obtain rfl := Option.some.inj (show some _ = some oO from ho)
        rw [if_pos (by rfl)]
        have q12 : AC.tmps.getD 12 undef = .int .i64 N.length := ((hf.dep ⟨5, .data⟩ (by simp) rfl).2 12 rfl).trans (hf.dep ⟨5, .data⟩ (by simp) rfl).1
        go_simp
        exact hK _ _ (Below.refl _ _) (by show Value.int _ _ = Value.int _ _; rw [wrap_n64 (by have := HE0.out; have := HE1.out; omega)])
      · obtain rfl := Option.some.inj (show some _ = some oO from ho)
        rw [if_pos (by rfl)]
        have q9 : AC.tmps.getD 9 undef = .int .u64 (en : Int) := ((hf.dep ⟨2, .data⟩ (by simp) rfl).2 9 rfl).trans (hf.dep ⟨2, .data⟩ (by simp) rfl).1
        have q13 : AC.tmps.getD 13 undef = .int .u64 N.length := ((hf.dep ⟨6, .data⟩ (by simp) rfl).2 13 rfl).trans (hf.dep ⟨6, .data⟩ (by simp) rfl).1
        have pp := q9
        have pq := q13
        rw [Array.getD_eq_getD_getElem?] at pp pq
        go_simp
        exact hK _ _ (below_new1 WW _) ⟨_, rfl, Blk.new WW 62 [.int .u64 en, .int .u64 N.length]⟩
      · obtain rfl := Option.some.inj (show some _ = some oO from ho)
        rw [if_pos (by rfl)]
        have q14 : AC.tmps.getD 14 undef = V 7 := (hf.dep ⟨7, .data⟩ (by simp) rfl).2 14 rfl
        have t7 := (hf.dep ⟨7, .data⟩ (by simp) rfl).1
        obtain ⟨q, e, hs⟩ := t7
        rw [e] at q14
        go_simp
        refine (pnum_any WW (.slice none 0 0) [] (slB_nil WW) _ 2 [en, N.length] (sl_uc2 hs) (by intro x hx; have := HE0.out; have := HE1.out; simp at hx; omega) (by simp)).mono ?_
        rintro e w9 ⟨v9, rfl, ho9, hb9⟩
        exact hK _ _ hb9 ho9.sl
      · obtain rfl := Option.some.inj (show some _ = some oO from ho)
        rw [if_pos (by rfl)]
        have q1 : AC.tmps.getD 1 undef = .pointer (some ⟨g, 0, none⟩) := hf.rest 1 (by kernel_rfl)
        go_simp
        exact hK _ _ (Below.refl _ _) rfl
      · obtain rfl := Option.some.inj (show some _ = some oO from ho)
        rw [if_pos (by rfl)]
        have q16 : AC.tmps.getD 16 undef = .pointer (some ⟨g, 1, none⟩) := ((hf.dep ⟨9, .data⟩ (by simp) rfl).2 16 rfl).trans (hf.dep ⟨9, .data⟩ (by simp) rfl).1
        have hG := HG.out.keeps hbw
        have g1 := hG.cell 1 _ rfl
        go_simp
        exact hK _ _ (Below.refl _ _) rfl
      · obtain rfl := Option.some.inj (show some _ = some oO from ho)
        rw [if_pos (by rfl)]
        have q15 : AC.tmps.getD 15 undef = V 8 := (hf.dep ⟨8, .data⟩ (by simp) rfl).2 15 rfl
        have t8 := (hf.dep ⟨8, .data⟩ (by simp) rfl).1
        have q17 : AC.tmps.getD 17 undef = .slice ao N.length cap := ((hf.dep ⟨10, .data⟩ (by simp) rfl).2 17 rfl).trans (hf.dep ⟨10, .data⟩ (by simp) rfl).1
        go_simp
        refine (pint_any WW (V 8) _ t8 ao cap N (HN.out.keeps (below_on HQ.out HQ.out.size hbw)) HW.out (by have := HE1.out; have := HME.out; omega)).mono ?_
        rintro e w9 ⟨v9, rfl, ho9, hb9⟩
        exact hK _ _ hb9 (OwB.up ho9 (below_on HQ.out HQ.out.size hbw).size)
      · obtain rfl := Option.some.inj (show some _ = some oO from ho)
        rw [if_pos (by rfl)]
        have q18 : AC.tmps.getD 18 undef = V 11 := (hf.dep ⟨11, .data⟩ (by simp) rfl).2 18 rfl
        have t11 := (hf.dep ⟨11, .data⟩ (by simp) rfl).1
        go_simp
        exact hK _ _ (Below.refl _ _) t11
      · obtain rfl := Option.some.inj (show some _ = some oO from ho)
        rw [if_pos (by rfl)]
        go_simp
        exact hK _ _ (Below.refl _ _) rfl
      · omega
    · intro V WW hall hbw hBW
      have vv0 : V 0 = .pointer (some ⟨g, 0, none⟩) := hall 0 (by decide)
      have vv1 : V 1 = .int .i64 (en : Int) := hall 1 (by decide)
      have vv2 : V 2 = .int .u64 (en : Int) := hall 2 (by decide)
      have vv3 : V 3 = .pointer (some ⟨g, 1, none⟩) := hall 3 (by decide)
      have vv4 : V 4 = .slice ao N.length cap := hall 4 (by decide)
      have vv5 : V 5 = .int .i64 N.length := hall 5 (by decide)
      have vv6 : V 6 = .int .u64 N.length := hall 6 (by decide)
      have vv7 : ∃ q, V 7 = .slice (some ⟨q, 0, none⟩) 2 2 ∧ Blk WW q 62 [.int .u64 en, .int .u64 N.length] := hall 7 (by decide)
      have vv8 : SlB WW (V 8) (encs [en, N.length]) := hall 8 (by decide)
      have vv9 : V 9 = .pointer (some ⟨g, 1, none⟩) := hall 9 (by decide)
      have vv10 : V 10 = .slice ao N.length cap := hall 10 (by decide)
      have vv11 : OwB WW w1.heap.size (V 11) (encs [en, N.length] ++ encs (N.map zig)) := hall 11 (by decide)
      have vv12 : OwB WW w1.heap.size (V 12) (encs [en, N.length] ++ encs (N.map zig)) := hall 12 (by decide)
      have vv13 : V 13 = .int .i64 0 := hall 13 (by decide)
      clear hall
      simp only [pairsOf, laid, Nat.zero_add, Nat.reduceAdd, vv0, vv1, vv2, vv3, vv4, vv5, vv6, vv9, vv10, vv13, List.setIfInBounds_toArray, List.set_cons_zero, List.set_cons_succ]
      clear vv0 vv1 vv2 vv3 vv4 vv5 vv6 vv9 vv10 vv13
      have hq := vv12
      rw [HZ.out] at hq
      have HEE : Hid (OwB WW w.heap.size (V 12) Z) := OwB.up hq HB1.out.size
      have HBe := Lib.hid hBW
      clear hbw hBW hq vv7 vv8 vv11 vv12
      go_wp2
      exact bodyPost_ret (v := .tuple #[V 12, .int .i64 0]) (by simp [results, Try.results10, go_sem]) rfl ⟨_, rfl, HEE.out, HBe.out⟩
set_option maxHeartbeats 3200000 in
theorem rpack_any (w : World) (er : Int) (ao : Option Addr) (cap : Nat) (N : List Int) (h : Sl w ao N.length cap (ic N)) (hw : ∀ x ∈ N, in64 x) (hl : N.length ≤ 1000000000000) (s : List UInt8 × Int) (hs : packA er N = s) :
    Calls Try.prog 11 #[.agg #[.int .i64 er, .slice ao N.length cap]] w fun e w' => ∃ v', e = .returned (.tuple #[v', .int .i64 s.2]) ∧ OwB w' w.heap.size v' s.1 ∧ Below w.heap.size w w' := by
  have HB1 := Lib.hid (below_new1 w (.cells #[.int .i64 er, .slice ao N.length cap] 25))
  have HG := Lib.hid (Blk.new w 25 [.int .i64 er, .slice ao N.length cap])
  unfold packA at hs
  have HS := Lib.hid hs
  have HH := Lib.hid h
  have HW := Lib.hid hw
  clear hs h hw
  by_cases e0 : er < 0
  · obtain rfl : s = ([], 221) := by rw [← HS.out, if_neg]; simp [rightA]; omega
    go_enter Try.func11, Try.ntmps11
    go_wp2
    exact bodyPost_ret (v := .tuple #[.slice none 0 0, .int .i64 221]) (by simp [results, Try.results11, go_sem]) rfl ⟨_, rfl, own_nil _ _, HB1.out⟩
  · by_cases e1 : 65535 < er
    · obtain rfl : s = ([], 221) := by rw [← HS.out, if_neg]; simp [rightA]; omega
      go_enter Try.func11, Try.ntmps11
      go_wp2
      exact bodyPost_ret (v := .tuple #[.slice none 0 0, .int .i64 221]) (by simp [results, Try.results11, go_sem]) rfl ⟨_, rfl, own_nil _ _, HB1.out⟩
    · by_cases n0 : (64 : Int) < N.length
      · obtain rfl : s = ([], 221) := by rw [← HS.out, if_neg]; simp [rightA]; omega
        go_enter Try.func11, Try.ntmps11
        go_wp2
        exact bodyPost_ret (v := .tuple #[.slice none 0 0, .int .i64 221]) (by simp [results, Try.results11, go_sem]) rfl ⟨_, rfl, own_nil _ _, HB1.out⟩
      · by_cases hb : ¬ er = 0 ∧ (0 : Int) < N.length
        · obtain ⟨e2, n1⟩ := hb
          obtain rfl : s = ([], 221) := by
            rw [← HS.out, if_neg]
            intro h
            have := rightA_true h
            omega
          have qq : (er != 0) = true := by simpa using e2
          go_enter Try.func11, Try.ntmps11
          go_wp2
          exact bodyPost_ret (v := .tuple #[.slice none 0 0, .int .i64 221]) (by simp [results, Try.results11, go_sem]) rfl ⟨_, rfl, own_nil _ _, HB1.out⟩
        · obtain ⟨en, rfl⟩ := Int.eq_ofNat_of_zero_le (show 0 ≤ er by omega)
          have hr : rightA (en : Int) N.length = true := by
            simp only [rightA, Bool.and_eq_true, Bool.or_eq_true, decide_eq_true_eq]
            omega
          obtain ⟨Z, hZ⟩ : ∃ Z, encs [en, N.length] ++ encs (N.map zig) = Z := ⟨_, rfl⟩
          obtain rfl : s = (Z, 0) := by rw [← HS.out, if_pos hr, ← hZ]; rfl
          have HZ := Lib.hid hZ
          have HE0 : Hid (en ≤ 65535) := by show _ ≤ _; omega
          have HE1 : Hid (N.length ≤ 64) := by show _ ≤ _; omega
          have HM0 : Hid ((enc en).length ≤ 10) := enc_len64 en (by omega)
          have HM1 : Hid ((enc N.length).length ≤ 10) := enc_len64 N.length (by omega)
          have hcase : (en : Int) = 0 ∨ (¬ (en : Int) = 0 ∧ ¬ (0 : Int) < N.length) := by omega
          have HN0 := Lib.hid (HH.out.keeps HB1.out)
          clear HS hZ hr HH
          obtain ⟨w1, hw1⟩ : ∃ W, w.alloc (.cells #[.int .i64 (en : Int), .slice ao N.length cap] 25) = W := ⟨_, rfl⟩
          have HW1 := Lib.hid hw1
          have HG' := HG
          have HB1' := HB1
          rw [hw1] at HG' HB1' HN0
          have HQ := Lib.hid (Below.refl w1.heap.size w1)
          have HN := HN0
          clear hw1 HN0
          have hcc : ((en : Int) != 0) = false ∨ (((en : Int) != 0) = true ∧ ¬ (0 : Int) < N.length) := by
            rcases hcase with h0 | ⟨h0, h1⟩
            · exact .inl (by simpa using h0)
            · exact .inr ⟨by simpa using h0, h1⟩
          clear hcase hb
          rcases hcc with q0 | ⟨q0, h1⟩
          · as_aux_lemma =>
              go_enter Try.func11, Try.ntmps11
              go_wp2
              simp only [HW1.out]
              have HG := HG'
              have HB1 := HB1'
              obtain ⟨g, hg⟩ : ∃ g, w.heap.size = g := ⟨_, rfl⟩
              rw [hg] at HG
              simp only [hg]
              clear hg q0
              refine region_then (by kernel_rfl) (by kernel_rfl) [some 30, some 31, some 32, some 33, some 34, some 35, some 36, some 37, some 38, some 39, some 4] (by kernel_rfl) 9 [(1, 0), (2, 1), (3, 2), (5, 4), (6, 5), (7, 6), (8, 7), (9, 3), (9, 8), (10, 9)] (by kernel_rfl) (by kernel_rfl) (by kernel_rfl) (by decide) (fun i v WW => match i with | 0 => v = .pointer (some ⟨g, 0, none⟩) | 1 => v = .int .i64 (en : Int) | 2 => v = .int .u64 (en : Int) | 3 => OwB WW w1.heap.size v (enc en) | 4 => v = .pointer (some ⟨g, 1, none⟩) | 5 => v = .slice ao N.length cap | 6 => v = .int .i64 N.length | 7 => v = .int .u64 N.length | 8 => SlB WW v (enc N.length) | _ => True) ?_ (fun i v => match i with | 0 => v = .pointer (some ⟨g, 0, none⟩) | 1 => v = .int .i64 (en : Int) | 2 => v = .int .u64 (en : Int) | 3 => True | 4 => v = .pointer (some ⟨g, 1, none⟩) | 5 => v = .slice ao N.length cap | 6 => v = .int .i64 N.length | 7 => v = .int .u64 N.length | 8 => True | _ => True) ?_ (fun v WW => OwB WW w1.heap.size v (enc en ++ enc N.length) ∧ Below w1.heap.size w1 WW) (fun i u v => match i with | 10 => v = u | _ => True) ?_ ?_ ?_ ?_
              · intro i v WW WX h hbx
                rcases i with _ | _ | _ | _ | _ | _ | _ | _ | _ | i
                · exact h
                · exact h
                · exact h
                · exact owb_kp h hbx
                · exact h
                · exact h
                · exact h
                · exact h
                · exact SlB.keeps h hbx
                · trivial
              · intro i v WW h
                rcases i with _ | _ | _ | _ | _ | _ | _ | _ | _ | i
                · exact h
                · exact h
                · exact h
                · trivial
                · exact h
                · exact h
                · exact h
                · exact h
                · trivial
                · trivial
              · intro iI oO V AC WW hiN ho hf hbw K hK
                rcases iI with _ | _ | _ | _ | _ | _ | _ | _ | _ | iI
                · obtain rfl := Option.some.inj (show some _ = some oO from ho)
                  rw [if_pos (by rfl)]
                  have q1 : AC.tmps.getD 1 undef = .pointer (some ⟨g, 0, none⟩) := hf.rest 1 (by kernel_rfl)
                  go_simp
                  exact hK _ _ (Below.refl _ _) rfl
                · obtain rfl := Option.some.inj (show some _ = some oO from ho)
                  rw [if_pos (by rfl)]
                  have q30 : AC.tmps.getD 30 undef = .pointer (some ⟨g, 0, none⟩) := ((hf.dep ⟨0, .data⟩ (by simp) rfl).2 30 rfl).trans (hf.dep ⟨0, .data⟩ (by simp) rfl).1
                  have hG := HG.out.keeps hbw
                  have g0 := hG.cell 0 _ rfl
                  go_simp
                  exact hK _ _ (Below.refl _ _) rfl
                · obtain rfl := Option.some.inj (show some _ = some oO from ho)
                  rw [if_pos (by rfl)]
                  have q31 : AC.tmps.getD 31 undef = .int .i64 (en : Int) := ((hf.dep ⟨1, .data⟩ (by simp) rfl).2 31 rfl).trans (hf.dep ⟨1, .data⟩ (by simp) rfl).1
                  go_simp
                  exact hK _ _ (Below.refl _ _) (by show Value.int _ _ = Value.int _ _; rw [wrap_n64 (by have := HE0.out; have := HE1.out; omega)])
                · obtain rfl := Option.some.inj (show some _ = some oO from ho)
                  rw [if_pos (by rfl)]
                  have q32 : AC.tmps.getD 32 undef = .int .u64 (en : Int) := ((hf.dep ⟨2, .data⟩ (by simp) rfl).2 32 rfl).trans (hf.dep ⟨2, .data⟩ (by simp) rfl).1
                  go_simp
                  refine (rnum6_any en (by have := HE0.out; omega) WW).mono ?_
                  rintro e w9 ⟨v9, rfl, ho9, hb9⟩
                  exact hK _ _ hb9 (OwB.up ho9 (below_on HQ.out HQ.out.size hbw).size)
                · obtain rfl := Option.some.inj (show some _ = some oO from ho)
                  rw [if_pos (by rfl)]
                  have q1 : AC.tmps.getD 1 undef = .pointer (some ⟨g, 0, none⟩) := hf.rest 1 (by kernel_rfl)
                  go_simp
                  exact hK _ _ (Below.refl _ _) rfl
                · obtain rfl := Option.some.inj (show some _ = some oO from ho)
                  rw [if_pos (by rfl)]
                  have q34 : AC.tmps.getD 34 undef = .pointer (some ⟨g, 1, none⟩) := ((hf.dep ⟨4, .data⟩ (by simp) rfl).2 34 rfl).trans (hf.dep ⟨4, .data⟩ (by simp) rfl).1
                  have hG := HG.out.keeps hbw
                  have g1 := hG.cell 1 _ rfl
                  go_simp
                  exact hK _ _ (Below.refl _ _) rfl
                · obtain rfl := Option.some.inj (show some _ = some oO from ho)
                  rw [if_pos (by rfl)]
                  have q35 : AC.tmps.getD 35 undef = .slice ao N.length cap := ((hf.dep ⟨5, .data⟩ (by simp) rfl).2 35 rfl).trans (hf.dep ⟨5, .data⟩ (by simp) rfl).1
                  go_simp
                  exact hK _ _ (Below.refl _ _) rfl
                · obtain rfl := Option.some.inj (show some _ = some oO from ho)
                  rw [if_pos (by rfl)]
                  have q36 : AC.tmps.getD 36 undef = .int .i64 N.length := ((hf.dep ⟨6, .data⟩ (by simp) rfl).2 36 rfl).trans (hf.dep ⟨6, .data⟩ (by simp) rfl).1
                  go_simp
                  exact hK _ _ (Below.refl _ _) (by show Value.int _ _ = Value.int _ _; rw [wrap_n64 (by have := HE0.out; have := HE1.out; omega)])
                · obtain rfl := Option.some.inj (show some _ = some oO from ho)
                  rw [if_pos (by rfl)]
                  have q37 : AC.tmps.getD 37 undef = .int .u64 N.length := ((hf.dep ⟨7, .data⟩ (by simp) rfl).2 37 rfl).trans (hf.dep ⟨7, .data⟩ (by simp) rfl).1
                  go_simp
                  refine (rnum6_any N.length (by have := HE1.out; omega) WW).mono ?_
                  rintro e w9 ⟨v9, rfl, ho9, hb9⟩
                  exact hK _ _ hb9 ho9.sl
                · omega
              · intro oO V AC WW ho hf hallT hbw K hK
                obtain rfl := Option.some.inj (show some _ = some oO from ho)
                rw [if_pos (by rfl)]
                have q33 : AC.tmps.getD 33 undef = V 3 := (hf.dep ⟨3, .data⟩ (by simp) rfl).2 33 rfl
                have t3 := (hf.dep ⟨3, .data⟩ (by simp) rfl).1
                have q38 : AC.tmps.getD 38 undef = V 8 := (hf.dep ⟨8, .data⟩ (by simp) rfl).2 38 rfl
                have t8 := (hf.dep ⟨8, .data⟩ (by simp) rfl).1
                have hbq := below_on HQ.out HQ.out.size hbw
                refine ap_sl_op _ _ rfl rfl w1.heap.size (V 3) q33 (enc en) t3 (enc N.length) (V 8) q38 t8 (by have := HM0.out; have := HM1.out; omega) hbq.size ?_
                intro v' w' h1 h2
                exact hK _ _ ⟨h1, grown_below t3 h2 (Nat.le_refl _) (Nat.le_refl _) hbq⟩
              · intro iI oO LL V AC WW hiN ho hf hPf hT2 K hK
                have hlt : iI < 11 := by have := (Array.getElem?_eq_some_iff.1 ho).1; first | exact this | simpa using this
                rcases iI with _ | _ | _ | _ | _ | _ | _ | _ | _ | _ | _ | iI
                · omega
                · omega
                · omega
                · omega
                · omega
                · omega
                · omega
                · omega
                · omega
                · omega
                · obtain rfl := Option.some.inj (show some _ = some oO from ho)
                  rw [if_pos (by rfl)]
                  have q39 : AC.tmps.getD 39 undef = V 9 := hf.dep ⟨9, .data⟩ (by simp) rfl 39 rfl
                  go_simp
                  exact hK _ rfl
                · omega
              · intro V WW hall hPf hT2
                have vv0 : V 0 = .pointer (some ⟨g, 0, none⟩) := hall 0 (by decide)
                have vv1 : V 1 = .int .i64 (en : Int) := hall 1 (by decide)
                have vv2 : V 2 = .int .u64 (en : Int) := hall 2 (by decide)
                have vv4 : V 4 = .pointer (some ⟨g, 1, none⟩) := hall 4 (by decide)
                have vv5 : V 5 = .slice ao N.length cap := hall 5 (by decide)
                have vv6 : V 6 = .int .i64 N.length := hall 6 (by decide)
                have vv7 : V 7 = .int .u64 N.length := hall 7 (by decide)
                have vv10 : V 10 = V 9 := hT2 10 (by decide) (by decide)
                clear hall hT2
                simp only [pairsOf, laid, Nat.zero_add, Nat.reduceAdd, vv0, vv1, vv2, vv4, vv5, vv6, vv7, vv10, List.setIfInBounds_toArray, List.set_cons_zero, List.set_cons_succ]
                clear vv0 vv1 vv2 vv4 vv5 vv6 vv7 vv10
                have HO := Lib.hid hPf.1
                have HQ2 := Lib.hid hPf.2
                have HRi := Lib.hid (fun U (hu : Below w1.heap.size w1 U) => rints_any U ao cap N (HN.out.keeps hu) HW.out (by have := HE1.out; omega))
                have hG := HG.out.keeps HQ2.out
                have c1 := hG.cell 1 _ rfl
                clear hPf
                go_wp2_with fail
                refine (HRi.out _ HQ2.out).mono ?_
                rintro e w4 ⟨v4, rfl, ho4, hb4⟩
                have HQ4 := Lib.hid (below_on HQ2.out HQ2.out.size hb4)
                have HO4 := Lib.hid (owb_kp HO.out hb4)
                have HS4 := Lib.hid ho4.sl
                have HM4 : Hid ((encs (N.map zig)).length ≤ 10000) := by show _ ≤ _; have := encz_len HW.out; have := HE1.out; omega
                clear ho4 hb4 c1 hG HRi HO HQ2
                go_wp2_with (first | (refine ap_sl rfl _ _ rfl w1.heap.size _ rfl (enc en ++ enc N.length) ?_ (encs (N.map zig)) _ rfl HS4.out ?_ ?_ ?_) | fail)
                · exact HO4.out
                · have h1 := HM0.out; have h2 := HM1.out; have h3 := HM4.out; rw [List.length_append]; omega
                · exact HQ4.out.size
                intro v5 w5 h1 h2 h3
                have HQ5 := Lib.hid (grown_below HO4.out h2 (Nat.le_refl _) (Nat.le_refl _) HQ4.out)
                have HB5 := Lib.hid (below_on HB1.out HB1.out.size HQ5.out)
                have HEE : Hid (OwB w5 w.heap.size v5 Z) := by
                  show OwB _ _ _ _
                  have h4 := OwB.up h1 HB1.out.size
                  rw [← HZ.out]
                  simpa only [encs, List.flatMap_cons, List.flatMap_nil, List.append_nil, List.append_assoc] using h4
                clear h1 h2 h3
                go_wp2
                exact bodyPost_ret (v := .tuple #[v5, .int .i64 0]) (by simp [results, Try.results11, go_sem]) rfl ⟨_, rfl, HEE.out, HB5.out⟩
          · as_aux_lemma =>
              go_enter Try.func11, Try.ntmps11
              go_wp2
              simp only [HW1.out]
              have HG := HG'
              have HB1 := HB1'
              obtain ⟨g, hg⟩ : ∃ g, w.heap.size = g := ⟨_, rfl⟩
              rw [hg] at HG
              simp only [hg]
              clear hg q0
              refine region_then (by kernel_rfl) (by kernel_rfl) [some 30, some 31, some 32, some 33, some 34, some 35, some 36, some 37, some 38, some 39, some 4] (by kernel_rfl) 9 [(1, 0), (2, 1), (3, 2), (5, 4), (6, 5), (7, 6), (8, 7), (9, 3), (9, 8), (10, 9)] (by kernel_rfl) (by kernel_rfl) (by kernel_rfl) (by decide) (fun i v WW => match i with | 0 => v = .pointer (some ⟨g, 0, none⟩) | 1 => v = .int .i64 (en : Int) | 2 => v = .int .u64 (en : Int) | 3 => OwB WW w1.heap.size v (enc en) | 4 => v = .pointer (some ⟨g, 1, none⟩) | 5 => v = .slice ao N.length cap | 6 => v = .int .i64 N.length | 7 => v = .int .u64 N.length | 8 => SlB WW v (enc N.length) | _ => True) ?_ (fun i v => match i with | 0 => v = .pointer (some ⟨g, 0, none⟩) | 1 => v = .int .i64 (en : Int) | 2 => v = .int .u64 (en : Int) | 3 => True | 4 => v = .pointer (some ⟨g, 1, none⟩) | 5 => v = .slice ao N.length cap | 6 => v = .int .i64 N.length | 7 => v = .int .u64 N.length | 8 => True | _ => True) ?_ (fun v WW => OwB WW w1.heap.size v (enc en ++ enc N.length) ∧ Below w1.heap.size w1 WW) (fun i u v => match i with | 10 => v = u | _ => True) ?_ ?_ ?_ ?_
              · intro i v WW WX h hbx
                rcases i with _ | _ | _ | _ | _ | _ | _ | _ | _ | i
                · exact h
                · exact h
                · exact h
                · exact owb_kp h hbx
                · exact h
                · exact h
                · exact h
                · exact h
                · exact SlB.keeps h hbx
                · trivial
              · intro i v WW h
                rcases i with _ | _ | _ | _ | _ | _ | _ | _ | _ | i
                · exact h
                · exact h
                · exact h
                · trivial
                · exact h
                · exact h
                · exact h
                · exact h
                · trivial
                · trivial
              · intro iI oO V AC WW hiN ho hf hbw K hK
                rcases iI with _ | _ | _ | _ | _ | _ | _ | _ | _ | iI
                · obtain rfl := Option.some.inj (show some _ = some oO from ho)
                  rw [if_pos (by rfl)]
                  have q1 : AC.tmps.getD 1 undef = .pointer (some ⟨g, 0, none⟩) := hf.rest 1 (by kernel_rfl)
                  go_simp
                  exact hK _ _ (Below.refl _ _) rfl
                · obtain rfl := Option.some.inj (show some _ = some oO from ho)
                  rw [if_pos (by rfl)]
                  have q30 : AC.tmps.getD 30 undef = .pointer (some ⟨g, 0, none⟩) := ((hf.dep ⟨0, .data⟩ (by simp) rfl).2 30 rfl).trans (hf.dep ⟨0, .data⟩ (by simp) rfl).1
                  have hG := HG.out.keeps hbw
                  have g0 := hG.cell 0 _ rfl
                  go_simp
                  exact hK _ _ (Below.refl _ _) rfl
                · obtain rfl := Option.some.inj (show some _ = some oO from ho)
                  rw [if_pos (by rfl)]
                  have q31 : AC.tmps.getD 31 undef = .int .i64 (en : Int) := ((hf.dep ⟨1, .data⟩ (by simp) rfl).2 31 rfl).trans (hf.dep ⟨1, .data⟩ (by simp) rfl).1
                  go_simp
                  exact hK _ _ (Below.refl _ _) (by show Value.int _ _ = Value.int _ _; rw [wrap_n64 (by have := HE0.out; have := HE1.out; omega)])
                · obtain rfl := Option.some.inj (show some _ = some oO from ho)
                  rw [if_pos (by rfl)]
                  have q32 : AC.tmps.getD 32 undef = .int .u64 (en : Int) := ((hf.dep ⟨2, .data⟩ (by simp) rfl).2 32 rfl).trans (hf.dep ⟨2, .data⟩ (by simp) rfl).1
                  go_simp
                  refine (rnum6_any en (by have := HE0.out; omega) WW).mono ?_
                  rintro e w9 ⟨v9, rfl, ho9, hb9⟩
                  exact hK _ _ hb9 (OwB.up ho9 (below_on HQ.out HQ.out.size hbw).size)
                · obtain rfl := Option.some.inj (show some _ = some oO from ho)
                  rw [if_pos (by rfl)]
                  have q1 : AC.tmps.getD 1 undef = .pointer (some ⟨g, 0, none⟩) := hf.rest 1 (by kernel_rfl)
                  go_simp
                  exact hK _ _ (Below.refl _ _) rfl
                · obtain rfl := Option.some.inj (show some _ = some oO from ho)
                  rw [if_pos (by rfl)]
                  have q34 : AC.tmps.getD 34 undef = .pointer (some ⟨g, 1, none⟩) := ((hf.dep ⟨4, .data⟩ (by simp) rfl).2 34 rfl).trans (hf.dep ⟨4, .data⟩ (by simp) rfl).1
                  have hG := HG.out.keeps hbw
                  have g1 := hG.cell 1 _ rfl
                  go_simp
                  exact hK _ _ (Below.refl _ _) rfl
                · obtain rfl := Option.some.inj (show some _ = some oO from ho)
                  rw [if_pos (by rfl)]
                  have q35 : AC.tmps.getD 35 undef = .slice ao N.length cap := ((hf.dep ⟨5, .data⟩ (by simp) rfl).2 35 rfl).trans (hf.dep ⟨5, .data⟩ (by simp) rfl).1
                  go_simp
                  exact hK _ _ (Below.refl _ _) rfl
                · obtain rfl := Option.some.inj (show some _ = some oO from ho)
                  rw [if_pos (by rfl)]
                  have q36 : AC.tmps.getD 36 undef = .int .i64 N.length := ((hf.dep ⟨6, .data⟩ (by simp) rfl).2 36 rfl).trans (hf.dep ⟨6, .data⟩ (by simp) rfl).1
                  go_simp
                  exact hK _ _ (Below.refl _ _) (by show Value.int _ _ = Value.int _ _; rw [wrap_n64 (by have := HE0.out; have := HE1.out; omega)])
                · obtain rfl := Option.some.inj (show some _ = some oO from ho)
                  rw [if_pos (by rfl)]
                  have q37 : AC.tmps.getD 37 undef = .int .u64 N.length := ((hf.dep ⟨7, .data⟩ (by simp) rfl).2 37 rfl).trans (hf.dep ⟨7, .data⟩ (by simp) rfl).1
                  go_simp
                  refine (rnum6_any N.length (by have := HE1.out; omega) WW).mono ?_
                  rintro e w9 ⟨v9, rfl, ho9, hb9⟩
                  exact hK _ _ hb9 ho9.sl
                · omega
              · intro oO V AC WW ho hf hallT hbw K hK
                obtain rfl := Option.some.inj (show some _ = some oO from ho)
                rw [if_pos (by rfl)]
                have q33 : AC.tmps.getD 33 undef = V 3 := (hf.dep ⟨3, .data⟩ (by simp) rfl).2 33 rfl
                have t3 := (hf.dep ⟨3, .data⟩ (by simp) rfl).1
                have q38 : AC.tmps.getD 38 undef = V 8 := (hf.dep ⟨8, .data⟩ (by simp) rfl).2 38 rfl
                have t8 := (hf.dep ⟨8, .data⟩ (by simp) rfl).1
                have hbq := below_on HQ.out HQ.out.size hbw
                refine ap_sl_op _ _ rfl rfl w1.heap.size (V 3) q33 (enc en) t3 (enc N.length) (V 8) q38 t8 (by have := HM0.out; have := HM1.out; omega) hbq.size ?_
                intro v' w' h1 h2
                exact hK _ _ ⟨h1, grown_below t3 h2 (Nat.le_refl _) (Nat.le_refl _) hbq⟩
              · intro iI oO LL V AC WW hiN ho hf hPf hT2 K hK
                have hlt : iI < 11 := by have := (Array.getElem?_eq_some_iff.1 ho).1; first | exact this | simpa using this
                rcases iI with _ | _ | _ | _ | _ | _ | _ | _ | _ | _ | _ | iI
                · omega
                · omega
                · omega
                · omega
                · omega
                · omega
                · omega
                · omega
                · omega
                · omega
                · obtain rfl := Option.some.inj (show some _ = some oO from ho)
                  rw [if_pos (by rfl)]
                  have q39 : AC.tmps.getD 39 undef = V 9 := hf.dep ⟨9, .data⟩ (by simp) rfl 39 rfl
                  go_simp
                  exact hK _ rfl
                · omega
              · intro V WW hall hPf hT2
                have vv0 : V 0 = .pointer (some ⟨g, 0, none⟩) := hall 0 (by decide)
                have vv1 : V 1 = .int .i64 (en : Int) := hall 1 (by decide)
                have vv2 : V 2 = .int .u64 (en : Int) := hall 2 (by decide)
                have vv4 : V 4 = .pointer (some ⟨g, 1, none⟩) := hall 4 (by decide)
                have vv5 : V 5 = .slice ao N.length cap := hall 5 (by decide)
                have vv6 : V 6 = .int .i64 N.length := hall 6 (by decide)
                have vv7 : V 7 = .int .u64 N.length := hall 7 (by decide)
                have vv10 : V 10 = V 9 := hT2 10 (by decide) (by decide)
                clear hall hT2
                simp only [pairsOf, laid, Nat.zero_add, Nat.reduceAdd, vv0, vv1, vv2, vv4, vv5, vv6, vv7, vv10, List.setIfInBounds_toArray, List.set_cons_zero, List.set_cons_succ]
                clear vv0 vv1 vv2 vv4 vv5 vv6 vv7 vv10
                have HO := Lib.hid hPf.1
                have HQ2 := Lib.hid hPf.2
                have HRi := Lib.hid (fun U (hu : Below w1.heap.size w1 U) => rints_any U ao cap N (HN.out.keeps hu) HW.out (by have := HE1.out; omega))
                have hG := HG.out.keeps HQ2.out
                have c1 := hG.cell 1 _ rfl
                clear hPf
                go_wp2_with fail
                refine (HRi.out _ HQ2.out).mono ?_
                rintro e w4 ⟨v4, rfl, ho4, hb4⟩
                have HQ4 := Lib.hid (below_on HQ2.out HQ2.out.size hb4)
                have HO4 := Lib.hid (owb_kp HO.out hb4)
                have HS4 := Lib.hid ho4.sl
                have HM4 : Hid ((encs (N.map zig)).length ≤ 10000) := by show _ ≤ _; have := encz_len HW.out; have := HE1.out; omega
                clear ho4 hb4 c1 hG HRi HO HQ2
                go_wp2_with (first | (refine ap_sl rfl _ _ rfl w1.heap.size _ rfl (enc en ++ enc N.length) ?_ (encs (N.map zig)) _ rfl HS4.out ?_ ?_ ?_) | fail)
                · exact HO4.out
                · have h1 := HM0.out; have h2 := HM1.out; have h3 := HM4.out; rw [List.length_append]; omega
                · exact HQ4.out.size
                intro v5 w5 h1 h2 h3
                have HQ5 := Lib.hid (grown_below HO4.out h2 (Nat.le_refl _) (Nat.le_refl _) HQ4.out)
                have HB5 := Lib.hid (below_on HB1.out HB1.out.size HQ5.out)
                have HEE : Hid (OwB w5 w.heap.size v5 Z) := by
                  show OwB _ _ _ _
                  have h4 := OwB.up h1 HB1.out.size
                  rw [← HZ.out]
                  simpa only [encs, List.flatMap_cons, List.flatMap_nil, List.append_nil, List.append_assoc] using h4
                clear h1 h2 h3
                go_wp2
                exact bodyPost_ret (v := .tuple #[v5, .int .i64 0]) (by simp [results, Try.results11, go_sem]) rfl ⟨_, rfl, HEE.out, HB5.out⟩
end Go.Proofs.Ytdkcccigmejikaa
