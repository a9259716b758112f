/-
  The walks of the reference's next number of any sign, small number, text, float.
-/
import Derived.Test.YtdkcccigmejikaaRefTake
import Derived.Test.YtdkcccigmejikaaExt
set_option linter.unusedVariables false
set_option linter.unusedSimpArgs false
namespace Go.Proofs.Ytdkcccigmejikaa
open Go.RowKit

theorem rback6_any (m : Nat) (hm : m < 18446744073709551616) (w : World) :
    Calls Try.prog 59 #[.int .u64 m] w fun e w' => e = .returned (.int .i64 (back m)) ∧ w' = w := by
  by_cases h : m % 2 = 0
  · have HZ : Hid (back m = ((m / 2 : Nat) : Int)) := by show _ = _; unfold back; rw [if_pos h]
    have h' : (m : Int) % 2 = 0 := by omega
    go_enter Try.func59, Try.ntmps59
    go_wp2
    go_ret
    exact ⟨by rw [HZ.out]; exact congrArg (fun z => Ending.returned (.int .i64 z)) (by omega), rfl⟩
  · have HZ : Hid (back m = -((m / 2 : Nat) : Int) - 1) := by show _ = _; unfold back; rw [if_neg h]
    have h' : ¬ (m : Int) % 2 = 0 := by omega
    go_enter Try.func59, Try.ntmps59
    go_wp2
    go_ret
    exact ⟨by rw [HZ.out]; exact congrArg (fun z => Ending.returned (.int .i64 z)) (by omega), rfl⟩
set_option maxRecDepth 8000 in
set_option maxHeartbeats 1600000 in
theorem tint_any (w : World) (v : Value) (L : List UInt8) (f : Bool) (h : RV w v L f) (hf : f = true → L = []) (hl : L.length ≤ 1000000) :
    Calls Try.prog 55 #[v] w fun e w' => ∃ v', e = .returned (.tuple #[v', .int .i64 (back (rdN L f).1)]) ∧ RV w' v' (rdN L f).2.1 (rdN L f).2.2 ∧ Below w.heap.size w w' := by
  obtain ⟨ao, cap, rfl, hs⟩ := h
  have hB1 := (Blk.new w 80 [.slice ao L.length cap, .bool f]).alloc (.cells #[.slice none 0 0, .bool false] 80)
  have hB2 := Blk.new2 w (.cells #[.slice ao L.length cap, .bool f] 80) 80 [.slice none 0 0, .bool false]
  have hBe := below_new2 w (.cells #[.slice ao L.length cap, .bool f] 80) (.cells #[.slice none 0 0, .bool false] 80)
  have R0 := hB1.cell 0 _ rfl; have R1 := hB1.cell 1 _ rfl
  have HT := Lib.hid (tnum_any _ (.agg #[.slice ao L.length cap, .bool f]) L f ⟨_, _, rfl, hs.keeps hBe⟩ hf hl)
  have hn64 := rdN_lt L f
  obtain ⟨q, hq⟩ : ∃ q, rdN L f = q := ⟨_, rfl⟩
  rw [hq] at HT hn64 ⊢
  clear hq hf
  obtain ⟨n, L2, f2⟩ := q
  simp only at HT hn64 ⊢
  have HB2 := Lib.hid hB2
  have HBe := Lib.hid hBe
  clear hs hB1 hB2 hBe
  go_enter Try.func55, Try.ntmps55
  go_wp2_with fail
  refine HT.out.mono ?_
  rintro e w1 ⟨v', rfl, ⟨ao2, cap2, rfl, hs2⟩, hb1⟩
  have HB2 := Lib.hid ((HB2.out.keeps hb1).alloc (.cells #[.slice ao2 L2.length cap2, .bool f2] 80))
  have hB4 := Blk.new w1 80 [.slice ao2 L2.length cap2, .bool f2]
  have HBe := Lib.hid (below_on HBe.out HBe.out.size hb1)
  have HBf := Lib.hid (HBe.out.alloc HBe.out.size (.cells #[.slice ao2 L2.length cap2, .bool f2] 80))
  have HS := Lib.hid hs2
  have HLT : Hid (w.heap.size + 1 < w1.heap.size) := by
    have := hb1.size
    simp at this
    show _ < _; omega
  have HB4 := Lib.hid hB4
  clear hb1 hs2 HT hB4
  go_wp2_with fail
  refine region_ext (by kernel_rfl) (by kernel_rfl) [some 11, some 12, some 13, none, some 3] (by kernel_rfl) (Two 80 w.heap.size w1.heap.size [.slice ao2 L2.length cap2, .bool f2] (w.heap.size + 1) [.slice ao2 L2.length cap2, .bool f2]) Two.trans (Two.drew _ _ _ _ _ _ _) (fun i v WW => match i with | 0 => v = .agg #[.slice ao2 L2.length cap2, .bool f2] | 1 => v = .int .u64 n | 2 => v = .int .i64 (back n) | 3 => Blk WW (w.heap.size + 1) 80 [.slice ao2 L2.length cap2, .bool f2] | 4 => v = .int .i64 (back n) | _ => True) ?_ ?_ ?_
  · intro i v WW WX h hbx
    rcases i with _ | _ | _ | _ | _ | i
    · exact h
    · exact h
    · exact h
    · exact hbx.laid h
    · exact h
    · trivial
  · intro iI oO V AC WW ho hf hbw K hK
    have hlt : iI < 5 := (Array.getElem?_eq_some_iff.1 ho).1
    rcases iI with _ | _ | _ | _ | _ | iI
    · obtain rfl := Option.some.inj (show some _ = some oO from ho)
      rw [if_pos (by rfl)]
      have q4 : AC.tmps.getD 4 undef = .pointer (some ⟨w1.heap.size, 0, none⟩) := hf.rest 4 (by kernel_rfl)
      have hk := hbw.keep HB4.out
      have z0 := hk.cell 0 _ rfl
      have z1 := hk.cell 1 _ rfl
      go_simp
      exact hK _ _ (Two.refl _ _ _ _ _ _ _) rfl
    · obtain rfl := Option.some.inj (show some _ = some oO from ho)
      rw [if_pos (by rfl)]
      have q5 : AC.tmps.getD 5 undef = .int .u64 n := hf.rest 5 (by kernel_rfl)
      go_simp
      exact hK _ _ (Two.refl _ _ _ _ _ _ _) rfl
    · obtain rfl := Option.some.inj (show some _ = some oO from ho)
      rw [if_pos (by rfl)]
      have q12 : AC.tmps.getD 12 undef = .int .u64 n := ((hf.dep ⟨1, .data⟩ (by simp) rfl).2 12 rfl).trans (hf.dep ⟨1, .data⟩ (by simp) rfl).1
      go_simp
      refine (rback6_any n hn64 WW).mono ?_
      rintro e w6 ⟨rfl, rfl⟩
      exact hK _ _ (Two.refl _ _ _ _ _ _ _) rfl
    · obtain rfl := Option.some.inj (show some _ = some oO from ho)
      rw [if_pos (by rfl)]
      have q2 : AC.tmps.getD 2 undef = .pointer (some ⟨w.heap.size + 1, 0, none⟩) := hf.rest 2 (by kernel_rfl)
      have q11 : AC.tmps.getD 11 undef = .agg #[.slice ao2 L2.length cap2, .bool f2] := ((hf.dep ⟨0, .data⟩ (by simp) rfl).2 11 rfl).trans (hf.dep ⟨0, .data⟩ (by simp) rfl).1
      obtain ⟨x0, y0, k0, g0, h2⟩ := hbw.two ⟨_, _, _, _, HB2.out⟩
      have z0 := h2.cell 0 _ rfl
      have z1 := h2.cell 1 _ rfl
      have zf := h2.frozen
      have zn := h2.lt
      go_simp
      have hst := Two.store (x := ao2) (n := L2.length) (c := cap2) (f := f2) (B := w.heap.size) (b4 := w1.heap.size) (C4 := [.slice ao2 L2.length cap2, .bool f2]) (by omega) (by have := HLT.out; omega) ⟨x0, y0, k0, g0, h2⟩
      exact hK undef _ hst.1 hst.2
    · obtain rfl := Option.some.inj (show some _ = some oO from ho)
      rw [if_pos (by rfl)]
      have q13 : AC.tmps.getD 13 undef = .int .i64 (back n) := ((hf.dep ⟨2, .data⟩ (by simp) rfl).2 13 rfl).trans (hf.dep ⟨2, .data⟩ (by simp) rfl).1
      go_simp
      exact hK _ _ (Two.refl _ _ _ _ _ _ _) rfl
    · omega
  · intro V WW hall hbw
    have vv0 : V 0 = .agg #[.slice ao2 L2.length cap2, .bool f2] := hall 0 (by decide)
    have vv1 : V 1 = .int .u64 n := hall 1 (by decide)
    have vv2 : V 2 = .int .i64 (back n) := hall 2 (by decide)
    have vv3 : Blk WW (w.heap.size + 1) 80 [.slice ao2 L2.length cap2, .bool f2] := hall 3 (by decide)
    have vv4 : V 4 = .int .i64 (back n) := hall 4 (by decide)
    clear hall
    simp only [pairsOf, laid, Nat.zero_add, Nat.reduceAdd, vv0, vv1, vv2, vv4, List.setIfInBounds_toArray, List.set_cons_zero, List.set_cons_succ]
    clear vv0 vv1 vv2 vv4
    have HL := Lib.hid vv3
    have Y0 := vv3.cell 0 _ rfl; have Y1 := vv3.cell 1 _ rfl
    have HBW := Lib.hid (HBf.out.trans hbw.below)
    go_wp2
    refine bodyPost_ret (v := .tuple #[.agg #[.slice ao2 L2.length cap2, .bool f2], .int .i64 (back n)]) (by simp [results, Try.results55, go_sem, Y0, Y1]) rfl ⟨_, rfl, ⟨ao2, cap2, rfl, ?_⟩, HBW.out⟩
    exact hbw.rd ⟨_, _, _, _, HB2.out⟩ _ _ _ _ (HS.out.keeps (below_new1 w1 _))
theorem rdN_flag {L : List UInt8} {f : Bool} (hf : f = true → L = []) : (rdN L f).2.2 = true → (rdN L f).2.1 = [] := by
  cases h : rdS 0 0 L with
  | none => rw [rdN_none h]; exact fun _ => rfl
  | some x =>
    obtain ⟨n, r⟩ := x
    rw [rdN_some h]
    intro hft
    have hL := hf hft
    rw [hL] at h
    simp [rdS] at h
theorem rdSm_flag {lim : Nat} {L : List UInt8} {f : Bool} (hf : f = true → L = []) : (rdSm lim L f).2.2 = true → (rdSm lim L f).2.1 = [] := by
  unfold rdSm
  split
  · exact rdN_flag hf
  · exact fun _ => rfl
theorem rdN_le (L : List UInt8) (f : Bool) : (rdN L f).2.1.length ≤ L.length := by
  cases h : rdS 0 0 L with
  | none => rw [rdN_none h]; simp
  | some x => obtain ⟨n, r⟩ := x; rw [rdN_some h]; exact Nat.le_of_lt (rdS_len L 0 0 n r h)
theorem rdSm_le2 (lim : Nat) (L : List UInt8) (f : Bool) : (rdSm lim L f).2.1.length ≤ L.length := by
  unfold rdSm
  split
  · exact rdN_le L f
  · simp
set_option maxRecDepth 8000 in
set_option maxHeartbeats 1600000 in
theorem tsmall_any (lim : Nat) (hlim : lim < 18446744073709551616) (w : World) (v : Value) (L : List UInt8) (f : Bool) (h : RV w v L f) (hf : f = true → L = []) (hl : L.length ≤ 1000000) :
    Calls Try.prog 43 #[v, .int .u64 lim] w fun e w' => ∃ v', e = .returned (.tuple #[v', .int .i64 (rdSm lim L f).1]) ∧ RV w' v' (rdSm lim L f).2.1 (rdSm lim L f).2.2 ∧ Below w.heap.size w w' := by
  obtain ⟨ao, cap, rfl, hs⟩ := h
  have hB1 := (Blk.new w 80 [.slice ao L.length cap, .bool f]).alloc (.cells #[.slice none 0 0, .bool false] 80)
  have hB2 := Blk.new2 w (.cells #[.slice ao L.length cap, .bool f] 80) 80 [.slice none 0 0, .bool false]
  have hBe := below_new2 w (.cells #[.slice ao L.length cap, .bool f] 80) (.cells #[.slice none 0 0, .bool false] 80)
  have R0 := hB1.cell 0 _ rfl; have R1 := hB1.cell 1 _ rfl
  have HT := Lib.hid (tnum_any _ (.agg #[.slice ao L.length cap, .bool f]) L f ⟨_, _, rfl, hs.keeps hBe⟩ hf hl)
  have hn64 := rdN_lt L f
  obtain ⟨p, hp⟩ : ∃ p, rdSm lim L f = p := ⟨_, rfl⟩
  have HP := Lib.hid hp
  rw [hp]
  unfold rdSm at hp
  obtain ⟨q, hq⟩ : ∃ q, rdN L f = q := ⟨_, rfl⟩
  rw [hq] at HT hn64 hp
  clear hq hf
  obtain ⟨n, L2, f2⟩ := q
  simp only at HT hn64 hp
  have HP := Lib.hid hp
  have HB2 := Lib.hid hB2
  have HBe := Lib.hid hBe
  clear hs hB1 hB2 hBe hp
  by_cases hle : n ≤ min lim 2147483648
  · have HQ : Hid (p = (n, L2, f2)) := by show p = _; rw [← HP.out, if_pos hle]
    have hle1 : n ≤ lim := by omega
    have hle2 : n ≤ 2147483648 := by omega
    clear HP hle
    go_enter Try.func43, Try.ntmps43
    go_wp2_with fail
    refine HT.out.mono ?_
    rintro e w1 ⟨v', rfl, ⟨ao2, cap2, rfl, hs2⟩, hb1⟩
    have hB2 := (HB2.out.keeps hb1).alloc (.cells #[.slice ao2 L2.length cap2, .bool f2] 80)
    have hB4 := Blk.new w1 80 [.slice ao2 L2.length cap2, .bool f2]
    have X0 := hB4.cell 0 _ rfl; have X1 := hB4.cell 1 _ rfl
    have Z0 := hB2.cell 0 _ rfl; have Z1 := hB2.cell 1 _ rfl; have Zf := hB2.frozen; have Zn := hB2.lt
    have HBe := Lib.hid (below_on HBe.out HBe.out.size hb1)
    have HBf := Lib.hid (HBe.out.alloc HBe.out.size (.cells #[.slice ao2 L2.length cap2, .bool f2] 80))
    have HS := Lib.hid hs2
    have HB2 := Lib.hid hB2
    clear hb1 hs2 HT hB4 hB2
    go_wp2
    have hZ := (HB2.out.set 0 (.slice ao2 L2.length cap2)).set 1 (.bool f2)
    have Y0 := hZ.cell 0 _ rfl; have Y1 := hZ.cell 1 _ rfl
    refine bodyPost_ret (v := .tuple #[.agg #[.slice ao2 L2.length cap2, .bool f2], .int .i64 n]) (by simp [results, Try.results43, go_sem, Y0, Y1]) rfl ⟨_, by rw [HQ.out], ?_, ?_⟩
    · rw [HQ.out]
      exact ⟨ao2, cap2, rfl, sl_set6 (HB2.out.set 0 _) (sl_set6 HB2.out (HS.out.keeps (below_new1 _ _)) 0 _) 1 _⟩
    · exact (HBf.out.setCell (p := ⟨w.heap.size + 1, 0, none⟩) (by simp) _).setCell (p := ⟨w.heap.size + 1, 1, none⟩) (by simp) _
  · have HQ : Hid (p = (0, [], true)) := by show p = _; rw [← HP.out, if_neg hle]
    have hle1 : lim < n ∨ (n ≤ lim ∧ 2147483648 < n) := by omega
    clear HP hle
    rcases hle1 with hle1 | ⟨hle1, hle2⟩
    all_goals
      go_enter Try.func43, Try.ntmps43
      go_wp2_with fail
      refine HT.out.mono ?_
      rintro e w1 ⟨v', rfl, ⟨ao2, cap2, rfl, hs2⟩, hb1⟩
      have HBe := Lib.hid (below_on HBe.out HBe.out.size hb1)
      have HBf := Lib.hid (HBe.out.alloc HBe.out.size (.cells #[.slice ao2 L2.length cap2, .bool f2] 80))
      have HB2 := Lib.hid ((HB2.out.keeps hb1).alloc (.cells #[.slice ao2 L2.length cap2, .bool f2] 80))
      clear hb1 hs2 HT
      go_wp2_with fail
      refine (failed6_any _).mono ?_
      rintro e w5 ⟨rfl, hb5⟩
      have HB2 := Lib.hid (HB2.out.keeps hb5)
      have Z0 := HB2.out.cell 0 _ rfl; have Z1 := HB2.out.cell 1 _ rfl; have Zf := HB2.out.frozen; have Zn := HB2.out.lt
      have HBW := Lib.hid (below_on HBf.out HBf.out.size hb5)
      clear hb5
      go_wp2
      have hZ := (HB2.out.set 0 (.slice none 0 0)).set 1 (.bool true)
      have Y0 := hZ.cell 0 _ rfl; have Y1 := hZ.cell 1 _ rfl
      refine bodyPost_ret (v := .tuple #[.agg #[.slice none 0 0, .bool true], .int .i64 0]) (by simp [results, Try.results43, go_sem, Y0, Y1]) rfl ⟨_, by rw [HQ.out]; rfl, ?_, ?_⟩
      · rw [HQ.out]
        exact ⟨none, 0, rfl, Sl.of_nil _⟩
      · exact (HBW.out.setCell (p := ⟨w.heap.size + 1, 0, none⟩) (by simp) _).setCell (p := ⟨w.heap.size + 1, 1, none⟩) (by simp) _
/-- Where a part from k on begins. -/
def fromA (ao : Option Addr) (cap k : Nat) : Option Addr := if cap = k then ao else ao.map (·.add (k * 1))
theorem from_sl {w : World} {ao : Option Addr} {cap : Nat} {L : List UInt8} (hsl : Sl w ao L.length cap (bc L)) (k : Nat) (hk : k ≤ L.length) : Sl w (fromA ao cap k) (L.drop k).length (cap - k) (bc (L.drop k)) := by
  have hcut := hsl.cut k L.length hk (Nat.le_refl _)
  rw [bc_cut, List.take_of_length_le (by simp)] at hcut
  rw [show (L.drop k).length = L.length - k from List.length_drop]
  exact hcut
theorem cut_from_op {o : Oper} {a : Act} {w : World} {Q : Exit → Act → World → Prop} {K : Act → World → Prop} (s x : Operand) (ho : o.op = .slice 27 s (some x) none none) (ao : Option Addr) (cap : Nat) {L : List UInt8} (hs : a.eval s = .slice ao L.length cap) (L' : List UInt8) (hsl : Sl w ao L'.length cap (bc L')) (k : Nat) (hk : k ≤ L.length) (hx : a.eval x = .int .i64 k)
    (h : K (a.put o.dst (.slice (fromA ao cap k) (L.length - k) (cap - k))) w) : Oper.wp Try.prog o a w K Q := by
  have hrun : (Instr.slice 27 (.slice ao L.length cap) (some (.int .i64 k)) none none).run Try.prog w = .ok (.slice (fromA ao cap k) (L.length - k) (cap - k)) w := by
    rw [run_slice_l w 27 ao L.length cap (by simp [Program.elem]) .i64 k (by omega) (by omega), show Try.prog.elem 27 = 5 from by simp [Program.elem], size_u8]
    simp [Result.andThen, sliced, fromA]
  generalize Value.slice (fromA ao cap k) (L.length - k) (cap - k) = V at hrun h
  unfold Oper.wp
  simp [execOp, ho, run_sliceAt_slice, hs, hx, hrun, Result.andThen, Program.elem]
  exact h
end Go.Proofs.Ytdkcccigmejikaa
