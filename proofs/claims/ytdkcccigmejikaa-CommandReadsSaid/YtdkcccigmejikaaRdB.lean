/-
  A reader whose bytes stand below it: the walks of Fail, Num, Int, Small, New.
-/
import Derived.Test.YtdkcccigmejikaaTake
set_option linter.unusedVariables false
set_option linter.unusedSimpArgs false
set_option maxRecDepth 20000
namespace Go.Proofs.Ytdkcccigmejikaa
open Go.RowKit

/-- A reader, and its bytes in a block below its own. -/
def RdQ (w : World) (r : Nat) (L : List UInt8) (f : Bool) : Prop := ∃ ao cap, Blk w r 89 [.slice ao L.length cap, .bool f] ∧ Sl w ao L.length cap (bc L) ∧ ∀ a, ao = some a → a.block < r
theorem RdQ.rd {w : World} {r : Nat} {L : List UInt8} {f : Bool} (h : RdQ w r L f) : RdAt w r L f := by
  obtain ⟨ao, cap, h1, h2, _⟩ := h
  exact ⟨ao, cap, h1, h2⟩
theorem RdQ.lt {w : World} {r : Nat} {L : List UInt8} {f : Bool} (h : RdQ w r L f) : r < w.heap.size := by
  obtain ⟨ao, cap, h1, _⟩ := h
  exact h1.lt
theorem RdQ.stay {w w' : World} {r : Nat} {L : List UInt8} {f : Bool} (h : RdQ w r L f) (hk : ∀ k, k ≤ r → w'.heap[k]? = w.heap[k]?) : RdQ w' r L f := by
  obtain ⟨ao, cap, h1, h2, h3⟩ := h
  refine ⟨ao, cap, ⟨by rw [hk r (Nat.le_refl _)]; exact h1.at_⟩, ⟨h2.len, h2.room, h2.nil, fun hne => ?_⟩, h3⟩
  obtain ⟨b, off, e, hc⟩ := h2.cells hne
  refine ⟨b, off, e, fun j u hu => ?_⟩
  have hb : b < r := h3 _ e
  rw [World.cell?_of_block (w := w) (hk b (by omega))]
  exact hc j u hu
theorem RdQ.alloc {w : World} {r : Nat} {L : List UInt8} {f : Bool} (h : RdQ w r L f) (o : Obj) : RdQ (w.alloc o) r L f := h.stay fun k hk => Below.heap_alloc w o k (by have := h.lt; omega)
theorem RdQ.below {w w' : World} {r : Nat} {L : List UInt8} {f : Bool} (h : RdQ w r L f) (hb : Below w.heap.size w w') : RdQ w' r L f := h.stay fun k hk => hb.block k (by have := h.lt; omega)
theorem RdQ.set {w : World} {r : Nat} {L : List UInt8} {f : Bool} (h : RdQ w r L f) (g j : Nat) (v : Value) (hg : r < g) : RdQ (w.setCell ⟨g, j, none⟩ v) r L f := h.stay fun k hk => heap_setCell_other w ⟨g, j, none⟩ k v (by show k ≠ g; omega)
theorem RdQ.grown {w w' : World} {r : Nat} {L : List UInt8} {f : Bool} {row : Option Nat} (h : RdQ w r L f) (hg : w.grownBy w' row) (hr : ∀ g, row = some g → r < g) : RdQ w' r L f := h.stay fun k hk => hg.block k (by have := h.lt; omega) (fun e => by have := hr k e.symm; omega)
theorem rd_mk_q {w : World} {r : Nat} {ao ao' : Option Addr} {cap cap' n m : Nat} {f : Bool} {M : List UInt8} (hB : Blk w r 89 [.slice ao m cap, .bool f]) (hs : Sl w ao' M.length cap' (bc M)) (hn : n = M.length) (hlo : ∀ a, ao' = some a → a.block < r) :
    RdQ (w.setCell ⟨r, 0, none⟩ (.slice ao' n cap')) r M f := by
  subst hn
  exact ⟨ao', cap', hB.set 0 _, rd_sl_set hB hs 0 _, hlo⟩
section
variable {ops : Array Oper} {rest : List Oper} {o : Oper} {a : Act} {w : World} {Q : Exit → Act → World → Prop}
theorem cut_from_q (hw : Region.wanted o (yielded ops a.tmps) = true) (s x : Operand) (ho : o.op = .slice 27 s (some x) none none) (v : Value) (hs : a.eval s = v) (r : Nat) (L : List UInt8) (hc : ∃ ao cap, v = .slice ao L.length cap ∧ Sl w ao L.length cap (bc L) ∧ ∀ a, ao = some a → a.block < r) (k : Nat) (hk : k ≤ L.length) (hx : a.eval x = .int .i64 k)
    (h : ∀ ao' cap', Sl w ao' (L.drop k).length cap' (bc (L.drop k)) → (∀ a, ao' = some a → a.block < r) → wpList Try.prog ops Q rest (a.put o.dst (.slice ao' (L.drop k).length cap')) w) : wpList Try.prog ops Q (o :: rest) a w :=
  wpList_step fun _ hK => by
    rw [if_pos hw]
    obtain ⟨ao, cap, rfl, hsl, hlo⟩ := hc
    have hcut := hsl.cut k L.length hk (Nat.le_refl _)
    rw [bc_cut, List.take_of_length_le (by simp)] at hcut
    have e : (L.drop k).length = L.length - k := List.length_drop
    rw [← e] at hcut
    have hrun : (Instr.slice 27 (.slice ao L.length cap) (some (.int .i64 k)) none none).run Try.prog w = .ok (.slice (if cap = k then ao else ao.map (·.add (k * 1))) (L.drop k).length (cap - k)) w := by
      rw [run_slice_l w 27 ao L.length cap (by simp [Program.elem]) .i64 k (by omega) (by omega), show Try.prog.elem 27 = 5 from by simp [Program.elem], size_u8]
      simp [Result.andThen, sliced]
    have h' := h _ _ hcut (by
      intro a ha
      split at ha
      · exact hlo a ha
      · obtain ⟨a0, h0, rfl⟩ := Option.map_eq_some_iff.1 ha
        have h1 := hlo a0 h0
        simp only [Addr.add]
        split
        · exact h1
        · exact h1)
    generalize Value.slice (if cap = k then ao else ao.map (·.add (k * 1))) (L.drop k).length (cap - k) = V at hrun h'
    unfold Oper.wp
    simp [execOp, ho, run_sliceAt_slice, hs, hx, hrun, Result.andThen, Program.elem]
    exact hK _ _ h'
end
theorem fail_q (w : World) (r : Nat) (L : List UInt8) (f : Bool) (h : RdQ w r L f) :
    Calls Try.prog 48 #[.pointer (some ⟨r, 0, none⟩)] w fun e w' => e = .returned (.tuple #[]) ∧ RdQ w' r [] true ∧ w.grownBy w' (some r) := by
  obtain ⟨ao, cap, hB, hs, hlo⟩ := h
  have R0 := hB.cell 0 _ rfl; have R1 := hB.cell 1 _ rfl; have Rf := hB.frozen; have Rn := hB.lt
  go_enter Try.func48, Try.ntmps48
  go_wp2
  refine bodyPost_end (v := .tuple #[]) (by simp [results, Try.results48, go_sem]) rfl ?_
  exact ⟨rfl, ⟨none, 0, (hB.set 1 _).set 0 _, Sl.of_nil _, nofun⟩, grown_trans (grown_set w r 1 _) (grown_set _ r 0 _)⟩
set_option maxRecDepth 8000 in
set_option maxHeartbeats 1600000 in
theorem rnum_q (w : World) (r : Nat) (L : List UInt8) (f : Bool) (h : RdQ w r L f) :
    Calls Try.prog 47 #[.pointer (some ⟨r, 0, none⟩)] w fun e w' => e = .returned (.int .u64 (rdN L f).1) ∧ RdQ w' r (rdN L f).2.1 (rdN L f).2.2 ∧ w.grownBy w' (some r) := by
  obtain ⟨q, hq⟩ : ∃ q, rdN L f = q := ⟨_, rfl⟩
  have HQ := Lib.hid hq
  rw [hq]
  have HF := Lib.hid (fail_q w r L f h)
  obtain ⟨ao, cap, hB, hs, hlo⟩ := h
  have HLo := Lib.hid hlo
  have HB := Lib.hid hB
  have R0 := hB.cell 0 _ rfl; have R1 := hB.cell 1 _ rfl; have Rf := hB.frozen; have Rn := hB.lt
  clear hB hq hlo
  go_enter Try.func47, Try.ntmps47
  go_wp2
  go_step3
  go_wp2
  go_step3
  go_wp2
  go_loop [3, 11] (fun n i => ∃ k : Nat, ∃ acc : Nat, k ≤ L.length ∧ k ≤ 9 ∧ i = .int .i64 k ∧ n = .int .u64 acc ∧ acc < 128 ^ k ∧ rdS 0 0 L = rdS k acc (L.drop k)) (fun _ i => 10 - (intOf i).toNat)
  case atStart => exact ⟨0, 0, by omega, by omega, rfl, rfl, by decide, by rw [List.drop_zero]⟩
  case round =>
    obtain ⟨k, acc, hk, hk9, rfl, rfl, hacc, hrd⟩ := hrel
    by_cases hkl : k < L.length
    · obtain ⟨c, hc⟩ : ∃ c, L[k]? = some c := ⟨_, List.getElem?_eq_getElem hkl⟩
      have hd : L.drop k = c :: L.drop (k + 1) := by
        rw [List.drop_eq_getElem_cons hkl]; rw [List.getElem?_eq_getElem hkl] at hc; rw [Option.some.inj hc]
      rw [hd] at hrd
      have HD := Lib.hid hrd
      have HC := Lib.hid hc
      clear hd hrd hc
      by_cases hst : (k = 9 ∧ 1 < c.toNat) ∨ (c.toNat = 0 ∧ 0 < k)
      · have HN : Hid (q = (0, [], true)) := by
          rw [← HQ.out]; exact rdN_none (HD.out.trans (rdS_stop hst))
        rcases hst with ⟨h1, h2⟩ | ⟨h1, h2⟩
        · subst h1
          go_wp2_with (refine ix_by rfl _ _ rfl _ rfl L ⟨_, _, rfl, hs⟩ 9 (by omega) rfl ?_; intro b off c' hck hcell; obtain rfl := Option.some.inj (HC.out.symm.trans hck))
          refine HF.out.mono ?_
          rintro e w1 ⟨rfl, h1, h2⟩
          go_wp2
          (try simp only [Exit.noGoto]); go_ret
          exact ⟨by rw [HN.out]; rfl, by rw [HN.out]; exact h1, h2⟩
        · by_cases h9 : k = 9
          · subst h9
            go_wp2_with (refine ix_by rfl _ _ rfl _ rfl L ⟨_, _, rfl, hs⟩ 9 (by omega) rfl ?_; intro b off c' hck hcell; obtain rfl := Option.some.inj (HC.out.symm.trans hck))
            refine HF.out.mono ?_
            rintro e w1 ⟨rfl, h1, h2⟩
            go_wp2
            (try simp only [Exit.noGoto]); go_ret
            exact ⟨by rw [HN.out]; rfl, by rw [HN.out]; exact h1, h2⟩
          · go_wp2_with (refine ix_by rfl _ _ rfl _ rfl L ⟨_, _, rfl, hs⟩ k (by omega) rfl ?_; intro b off c' hck hcell; obtain rfl := Option.some.inj (HC.out.symm.trans hck))
            refine HF.out.mono ?_
            rintro e w1 ⟨rfl, h1, h2⟩
            go_wp2
            (try simp only [Exit.noGoto]); go_ret
            exact ⟨by rw [HN.out]; rfl, by rw [HN.out]; exact h1, h2⟩
      · have HE := Lib.hid (or_step (c := c) hacc hk9 (by omega))
        by_cases h128 : c.toNat < 128
        · have HN : Hid (q = (acc + c.toNat * 128 ^ k, L.drop (k + 1), f)) := by
            rw [← HQ.out]; exact rdN_some (HD.out.trans (rdS_end hst h128))
          have HM : Hid (c.toNat % 128 = c.toNat) := Nat.mod_eq_of_lt h128
          by_cases h9 : k = 9
          · subst h9
            go_wp2_with (first | (refine ix_by rfl _ _ rfl _ rfl L ⟨_, _, rfl, hs⟩ 9 (by omega) rfl ?_; intro b off c' hck hcell; obtain rfl := Option.some.inj (HC.out.symm.trans hck)) | (refine cut_from_q rfl _ _ rfl _ rfl r L ⟨_, _, rfl, hs, HLo.out⟩ (9 + 1) (by omega) rfl ?_; intro ao' cap' hsl' hlo'))
            go_ret
            have e := HE.out
            rw [HM.out, show (2 : Int) ^ (7 * 9) = 9223372036854775808 from by decide] at e
            exact ⟨by rw [HN.out]; exact congrArg (fun z => Ending.returned (.int .u64 z)) e, by rw [HN.out]; exact rd_mk_q HB.out hsl' (by simp) hlo', grown_set w r 0 _⟩
          · go_wp2_with (first | (refine ix_by rfl _ _ rfl _ rfl L ⟨_, _, rfl, hs⟩ k (by omega) rfl ?_; intro b off c' hck hcell; obtain rfl := Option.some.inj (HC.out.symm.trans hck)) | (refine cut_from_q rfl _ _ rfl _ rfl r L ⟨_, _, rfl, hs, HLo.out⟩ (k + 1) (by omega) rfl ?_; intro ao' cap' hsl' hlo'))
            all_goals
              go_ret
              have e := HE.out
              rw [HM.out] at e
            · rw [show ((c.toNat : Nat) : Int) = 0 from by omega] at e
              exact ⟨by rw [HN.out]; exact congrArg (fun z => Ending.returned (.int .u64 z)) e, by rw [HN.out]; exact rd_mk_q HB.out hsl' (by simp) hlo', grown_set w r 0 _⟩
            · exact ⟨by rw [HN.out]; exact congrArg (fun z => Ending.returned (.int .u64 z)) e, by rw [HN.out]; exact rd_mk_q HB.out hsl' (by simp) hlo', grown_set w r 0 _⟩
        · have h9 : k ≠ 9 := by omega
          go_wp2_with (first | (refine ix_by rfl _ _ rfl _ rfl L ⟨_, _, rfl, hs⟩ k (by omega) rfl ?_; intro b off c' hck hcell; obtain rfl := Option.some.inj (HC.out.symm.trans hck)))
          go_round
          · exact ⟨k + 1, acc + (c.toNat % 128) * 128 ^ k, by omega, by omega, by go_num, congrArg _ HE.out, acc_on hacc, HD.out.trans (rdS_on hst h128)⟩
          · simp [intOf]; omega
    · have HN : Hid (q = (0, [], true)) := by
        rw [← HQ.out]; exact rdN_none (hrd.trans (by rw [List.drop_of_length_le (by omega)]; rfl))
      go_wp2_with fail
      refine HF.out.mono ?_
      rintro e w1 ⟨rfl, h1, h2⟩
      go_wp2
      (try simp only [Exit.noGoto]); go_ret
      exact ⟨by rw [HN.out]; rfl, by rw [HN.out]; exact h1, h2⟩
set_option maxRecDepth 8000 in
theorem rint_q (w : World) (r : Nat) (L : List UInt8) (f : Bool) (h : RdQ w r L f) :
    Calls Try.prog 32 #[.pointer (some ⟨r, 0, none⟩)] w fun e w' => e = .returned (.int .i64 (back (rdN L f).1)) ∧ RdQ w' r (rdN L f).2.1 (rdN L f).2.2 ∧ w.grownBy w' (some r) := by
  have HR := Lib.hid (rnum_q w r L f h)
  obtain ⟨n, hn⟩ : ∃ n, (rdN L f).1 = n := ⟨_, rfl⟩
  have hlt := rdN_lt L f
  rw [hn] at hlt
  rw [hn]
  have HN := Lib.hid hn
  clear h hn
  go_enter Try.func32, Try.ntmps32
  go_wp2_with fail
  refine HR.out.mono ?_
  rintro e w1 ⟨rfl, h1, h2⟩
  rw [HN.out]
  have HK : Hid (RdQ w1 r (rdN L f).2.1 (rdN L f).2.2 ∧ w.grownBy w1 (some r)) := ⟨h1, h2⟩
  clear h1 h2
  go_wp2
  go_ret
  exact ⟨congrArg (fun z => Ending.returned (.int .i64 z)) (back_word hlt), HK.out⟩
set_option maxRecDepth 8000 in
theorem small_q (lim : Nat) (hlim : lim < 18446744073709551616) (w : World) (r : Nat) (L : List UInt8) (f : Bool) (h : RdQ w r L f) :
    Calls Try.prog 31 #[.pointer (some ⟨r, 0, none⟩), .int .u64 lim] w fun e w' => e = .returned (.int .i64 (rdSm lim L f).1) ∧ RdQ w' r (rdSm lim L f).2.1 (rdSm lim L f).2.2 ∧ w.grownBy w' (some r) := by
  have HR := Lib.hid (rnum_q w r L f h)
  have hlt := rdN_lt L f
  by_cases hs : (rdN L f).1 ≤ min lim 2147483648
  · have e : rdSm lim L f = rdN L f := by unfold rdSm; rw [if_pos hs]
    rw [e]
    clear h e
    obtain ⟨q, hq⟩ : ∃ q, rdN L f = q := ⟨_, rfl⟩
    rw [hq] at HR hs hlt ⊢
    clear hq
    obtain ⟨n, R, g⟩ := q
    simp only at hs hlt HR
    go_enter Try.func31, Try.ntmps31
    go_wp2_with fail
    refine HR.out.mono ?_
    rintro e w1 ⟨rfl, h1, h2⟩
    have HK : Hid (RdQ w1 r R g ∧ w.grownBy w1 (some r)) := ⟨h1, h2⟩
    clear h1 h2
    go_wp2
    go_ret
    exact ⟨rfl, HK.out⟩
  · have e : rdSm lim L f = (0, [], true) := by unfold rdSm; rw [if_neg hs]
    rw [e]
    clear h e
    obtain ⟨q, hq⟩ : ∃ q, rdN L f = q := ⟨_, rfl⟩
    rw [hq] at HR hs hlt
    clear hq
    obtain ⟨n, R, g⟩ := q
    simp only at hs hlt HR
    go_enter Try.func31, Try.ntmps31
    go_wp2_with fail
    refine HR.out.mono ?_
    rintro e w1 ⟨rfl, h1, h2⟩
    have HF := Lib.hid (fail_q w1 r _ _ h1)
    have HK := Lib.hid h2
    clear h1 h2
    go_wp2_with fail
    refine HF.out.mono ?_
    rintro e w2 ⟨rfl, h1, h2⟩
    go_wp2
    go_ret
    exact ⟨rfl, h1, grown_trans HK.out h2⟩
theorem new_q (w : World) (v : Value) (L : List UInt8) (h : SlB w v L) (hl : L.length ≤ 100000000000000) :
    Calls Try.prog 30 #[v] w fun e w' => ∃ r, e = .returned (.pointer (some ⟨r, 0, none⟩)) ∧ RdQ w' r L false ∧ w.heap.size ≤ r ∧ Below w.heap.size w w' := by
  have HC := Lib.hid (clone_any w v L h hl)
  clear h
  go_enter Try.func30, Try.ntmps30
  go_wp2_with fail
  refine HC.out.mono ?_
  rintro e w1 ⟨v1, rfl, ho, hb⟩
  obtain ⟨ao, cap, rfl, hs⟩ := ho.sl
  have HS := Lib.hid hs
  have HB := Lib.hid hb
  have hlt := World.ownsRow.lt ho
  have HLo : Hid (∀ a, ao = some a → a.block < w1.heap.size) := fun a e => (hlt a.block (by rw [e]; rfl)).2
  clear ho hs hb hlt
  go_wp2
  go_ret
  exact ⟨_, rfl, ⟨ao, cap, Blk.new w1 _ [.slice ao L.length cap, .bool false], HS.out.keeps (below_new1 w1 _), HLo.out⟩, HB.out.size, HB.out.alloc HB.out.size _⟩
end Go.Proofs.Ytdkcccigmejikaa
