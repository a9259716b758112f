/-
  The walks of a reader's methods.
-/
import Derived.Test.YtdkcccigmejikaaBy
import Derived.Test.YtdkcccigmejikaaEnc
set_option linter.unusedVariables false
set_option linter.unusedSimpArgs false
namespace Go.Proofs.Ytdkcccigmejikaa
open Go.RowKit

theorem grown_set (w : World) (r j : Nat) (v : Value) : w.grownBy (w.setCell ⟨r, j, none⟩ v) (some r) :=
  ⟨rfl, rfl, rfl, by simp, fun k hk hne => heap_setCell_other w ⟨r, j, none⟩ k v (fun e => hne (by rw [e]))⟩
theorem grown_trans {w w1 w2 : World} {row : Option Nat} (h : w.grownBy w1 row) (k : w1.grownBy w2 row) : w.grownBy w2 row :=
  ⟨k.os.trans h.os, k.tape.trans h.tape, k.output.trans h.output, Nat.le_trans h.size k.size, fun b hb hne => (k.block b (Nat.lt_of_lt_of_le hb h.size) hne).trans (h.block b hb hne)⟩
/-- A reader: its bytes, and whether it has failed. -/
def RdAt (w : World) (r : Nat) (L : List UInt8) (f : Bool) : Prop := ∃ ao cap, Blk w r 89 [.slice ao L.length cap, .bool f] ∧ Sl w ao L.length cap (bc L)
/-- A reader's own block holds no byte. -/
theorem rd_apart {w : World} {r : Nat} {ao : Option Addr} {n cap m : Nat} {f : Bool} {L : List UInt8} {x : Option Addr} (hB : Blk w r 89 [.slice x m cap, .bool f]) {cap' : Nat} (hs : Sl w ao n cap' (bc L)) (hne : bc L ≠ []) :
    ∃ b off, ao = some ⟨b, off, none⟩ ∧ b ≠ r ∧ ∀ j u, (bc L)[j]? = some u → w.cell? ⟨b, off + j, none⟩ = some u := by
  obtain ⟨b, off, e, hc⟩ := hs.cells hne
  refine ⟨b, off, e, ?_, hc⟩
  rintro rfl
  have hl : 0 < (bc L).length := List.length_pos_iff.2 hne
  obtain ⟨c, _, hu⟩ := bc_at L 0 _ (List.getElem?_eq_getElem hl)
  have h0 := hc 0 _ (List.getElem?_eq_getElem hl)
  rw [hu, cell_of_row w b _ _ _ _ hB.at_] at h0
  rcases off with _ | _ | off <;> simp at h0
theorem rd_sl_set {w : World} {r : Nat} {ao : Option Addr} {n cap m : Nat} {f : Bool} {L : List UInt8} {x : Option Addr} (hB : Blk w r 89 [.slice x m cap, .bool f]) {cap' : Nat} (hs : Sl w ao n cap' (bc L)) (j : Nat) (v : Value) : Sl (w.setCell ⟨r, j, none⟩ v) ao n cap' (bc L) :=
  ⟨hs.len, hs.room, hs.nil, fun hne => by
    obtain ⟨b, off, e, hbr, hc⟩ := rd_apart hB (n := n) hs hne
    refine ⟨b, off, e, fun j' u hu => ?_⟩
    rw [World.cell?_of_block (w := w) (heap_setCell_other w ⟨r, j, none⟩ b v hbr)]
    exact hc j' u hu⟩
theorem rd_mk {w : World} {r : Nat} {ao ao' : Option Addr} {cap cap' n m : Nat} {f : Bool} {M : List UInt8} (hB : Blk w r 89 [.slice ao m cap, .bool f]) (hs : Sl w ao' M.length cap' (bc M)) (hn : n = M.length) :
    RdAt (w.setCell ⟨r, 0, none⟩ (.slice ao' n cap')) r M f := by
  subst hn
  exact ⟨ao', cap', hB.set 0 _, rd_sl_set hB hs 0 _⟩
theorem fail_any (w : World) (r : Nat) (L : List UInt8) (f : Bool) (h : RdAt w r L f) :
    Calls Try.prog 48 #[.pointer (some ⟨r, 0, none⟩)] w fun e w' => e = .returned (.tuple #[]) ∧ RdAt w' r [] true ∧ w.grownBy w' (some r) := by
  obtain ⟨ao, cap, hB, hs⟩ := h
  have R0 := hB.cell 0 _ rfl; have R1 := hB.cell 1 _ rfl; have Rf := hB.frozen; have Rn := hB.lt
  go_enter Try.func48, Try.ntmps48
  go_wp2
  refine bodyPost_end (v := .tuple #[]) (by simp [results, Try.results48, go_sem]) rfl ?_
  exact ⟨rfl, ⟨none, 0, (hB.set 1 _).set 0 _, Sl.of_nil _⟩, grown_trans (grown_set w r 1 _) (grown_set _ r 0 _)⟩
set_option maxRecDepth 8000 in
set_option maxHeartbeats 1600000 in
theorem rnum_any (w : World) (r : Nat) (L : List UInt8) (f : Bool) (h : RdAt w r L f) :
    Calls Try.prog 47 #[.pointer (some ⟨r, 0, none⟩)] w fun e w' => e = .returned (.int .u64 (rdN L f).1) ∧ RdAt w' r (rdN L f).2.1 (rdN L f).2.2 ∧ w.grownBy w' (some r) := by
  obtain ⟨q, hq⟩ : ∃ q, rdN L f = q := ⟨_, rfl⟩
  have HQ := Lib.hid hq
  rw [hq]
  have HF := Lib.hid (fail_any w r L f h)
  obtain ⟨ao, cap, hB, hs⟩ := h
  have HB := Lib.hid hB
  have R0 := hB.cell 0 _ rfl; have R1 := hB.cell 1 _ rfl; have Rf := hB.frozen; have Rn := hB.lt
  clear hB hq
  go_enter Try.func47, Try.ntmps47
  go_wp2
  go_step3
  go_wp2
  go_step3
  go_wp2
  go_loop [3, 11] (fun n i => ∃ k : Nat, ∃ acc : Nat, k ≤ L.length ∧ k ≤ 9 ∧ i = .int .i64 k ∧ n = .int .u64 acc ∧ acc < 128 ^ k ∧ rdS 0 0 L = rdS k acc (L.drop k)) (fun _ i => 10 - (intOf i).toNat)
  case atStart => exact ⟨0, 0, by omega, by omega, rfl, rfl, by decide, by rw [List.drop_zero]⟩
  case round =>
    obtain ⟨k, acc, hk, hk9, rfl, rfl, hacc, hrd⟩ := hrel
    by_cases hkl : k < L.length
    · obtain ⟨c, hc⟩ : ∃ c, L[k]? = some c := ⟨_, List.getElem?_eq_getElem hkl⟩
      have hd : L.drop k = c :: L.drop (k + 1) := by
        rw [List.drop_eq_getElem_cons hkl]; rw [List.getElem?_eq_getElem hkl] at hc; rw [Option.some.inj hc]
      rw [hd] at hrd
      have HD := Lib.hid hrd
      have HC := Lib.hid hc
      clear hd hrd hc
      by_cases hst : (k = 9 ∧ 1 < c.toNat) ∨ (c.toNat = 0 ∧ 0 < k)
      · have HN : Hid (q = (0, [], true)) := by
          rw [← HQ.out]; exact rdN_none (HD.out.trans (rdS_stop hst))
        rcases hst with ⟨h1, h2⟩ | ⟨h1, h2⟩
        · subst h1
          go_wp2_with (refine ix_by rfl _ _ rfl _ rfl L ⟨_, _, rfl, hs⟩ 9 (by omega) rfl ?_; intro b off c' hck hcell; obtain rfl := Option.some.inj (HC.out.symm.trans hck))
          refine HF.out.mono ?_
          rintro e w1 ⟨rfl, h1, h2⟩
          go_wp2
          (try simp only [Exit.noGoto]); go_ret
          exact ⟨by rw [HN.out]; rfl, by rw [HN.out]; exact h1, h2⟩
        · by_cases h9 : k = 9
          · subst h9
            go_wp2_with (refine ix_by rfl _ _ rfl _ rfl L ⟨_, _, rfl, hs⟩ 9 (by omega) rfl ?_; intro b off c' hck hcell; obtain rfl := Option.some.inj (HC.out.symm.trans hck))
            refine HF.out.mono ?_
            rintro e w1 ⟨rfl, h1, h2⟩
            go_wp2
            (try simp only [Exit.noGoto]); go_ret
            exact ⟨by rw [HN.out]; rfl, by rw [HN.out]; exact h1, h2⟩
          · go_wp2_with (refine ix_by rfl _ _ rfl _ rfl L ⟨_, _, rfl, hs⟩ k (by omega) rfl ?_; intro b off c' hck hcell; obtain rfl := Option.some.inj (HC.out.symm.trans hck))
            refine HF.out.mono ?_
            rintro e w1 ⟨rfl, h1, h2⟩
            go_wp2
            (try simp only [Exit.noGoto]); go_ret
            exact ⟨by rw [HN.out]; rfl, by rw [HN.out]; exact h1, h2⟩
      · have HE := Lib.hid (or_step (c := c) hacc hk9 (by omega))
        by_cases h128 : c.toNat < 128
        · have HN : Hid (q = (acc + c.toNat * 128 ^ k, L.drop (k + 1), f)) := by
            rw [← HQ.out]; exact rdN_some (HD.out.trans (rdS_end hst h128))
          have HM : Hid (c.toNat % 128 = c.toNat) := Nat.mod_eq_of_lt h128
          by_cases h9 : k = 9
          · subst h9
            go_wp2_with (first | (refine ix_by rfl _ _ rfl _ rfl L ⟨_, _, rfl, hs⟩ 9 (by omega) rfl ?_; intro b off c' hck hcell; obtain rfl := Option.some.inj (HC.out.symm.trans hck)) | (refine cut_from rfl _ _ rfl _ rfl L ⟨_, _, rfl, hs⟩ (9 + 1) (by omega) rfl ?_; intro ao' cap' hsl'))
            go_ret
            have e := HE.out
            rw [HM.out, show (2 : Int) ^ (7 * 9) = 9223372036854775808 from by decide] at e
            exact ⟨by rw [HN.out]; exact congrArg (fun z => Ending.returned (.int .u64 z)) e, by rw [HN.out]; exact rd_mk HB.out hsl' (by simp), grown_set w r 0 _⟩
          · go_wp2_with (first | (refine ix_by rfl _ _ rfl _ rfl L ⟨_, _, rfl, hs⟩ k (by omega) rfl ?_; intro b off c' hck hcell; obtain rfl := Option.some.inj (HC.out.symm.trans hck)) | (refine cut_from rfl _ _ rfl _ rfl L ⟨_, _, rfl, hs⟩ (k + 1) (by omega) rfl ?_; intro ao' cap' hsl'))
            all_goals
              go_ret
              have e := HE.out
              rw [HM.out] at e
            · rw [show ((c.toNat : Nat) : Int) = 0 from by omega] at e
              exact ⟨by rw [HN.out]; exact congrArg (fun z => Ending.returned (.int .u64 z)) e, by rw [HN.out]; exact rd_mk HB.out hsl' (by simp), grown_set w r 0 _⟩
            · exact ⟨by rw [HN.out]; exact congrArg (fun z => Ending.returned (.int .u64 z)) e, by rw [HN.out]; exact rd_mk HB.out hsl' (by simp), grown_set w r 0 _⟩
        · have h9 : k ≠ 9 := by omega
          go_wp2_with (first | (refine ix_by rfl _ _ rfl _ rfl L ⟨_, _, rfl, hs⟩ k (by omega) rfl ?_; intro b off c' hck hcell; obtain rfl := Option.some.inj (HC.out.symm.trans hck)))
          go_round
          · exact ⟨k + 1, acc + (c.toNat % 128) * 128 ^ k, by omega, by omega, by go_num, congrArg _ HE.out, acc_on hacc, HD.out.trans (rdS_on hst h128)⟩
          · simp [intOf]; omega
    · have HN : Hid (q = (0, [], true)) := by
        rw [← HQ.out]; exact rdN_none (hrd.trans (by rw [List.drop_of_length_le (by omega)]; rfl))
      go_wp2_with fail
      refine HF.out.mono ?_
      rintro e w1 ⟨rfl, h1, h2⟩
      go_wp2
      (try simp only [Exit.noGoto]); go_ret
      exact ⟨by rw [HN.out]; rfl, by rw [HN.out]; exact h1, h2⟩
end Go.Proofs.Ytdkcccigmejikaa
