/-
  The walk of the reference's next number.
-/
import Derived.Test.YtdkcccigmejikaaRefPut
import Derived.Test.YtdkcccigmejikaaTake
import Derived.Test.YtdkcccigmejikaaMono
set_option linter.unusedVariables false
set_option linter.unusedSimpArgs false
namespace Go.Proofs.Ytdkcccigmejikaa
open Go.RowKit

theorem str_ne {A B : List UInt8} (h : ¬ A = B) : ((str A).toList == (str B).toList) = false := by
  rw [ByteArray.toList_eq, ByteArray.toList_eq]
  simpa [str] using h
theorem sl_set6 {w : World} {r T : Nat} {ao : Option Addr} {n cap m : Nat} {f : Bool} {L : List UInt8} {x : Option Addr} (hB : Blk w r T [.slice x m cap, .bool f]) {cap' : Nat} (hs : Sl w ao n cap' (bc L)) (j : Nat) (v : Value) : Sl (w.setCell ⟨r, j, none⟩ v) ao n cap' (bc L) :=
  ⟨hs.len, hs.room, hs.nil, fun hne => by
    obtain ⟨b, off, e, hc⟩ := hs.cells hne
    have hbr : b ≠ r := by
      rintro rfl
      have hl : 0 < (bc L).length := List.length_pos_iff.2 hne
      obtain ⟨c, _, hu⟩ := bc_at L 0 _ (List.getElem?_eq_getElem hl)
      have h0 := hc 0 _ (List.getElem?_eq_getElem hl)
      rw [hu, cell_of_row w b _ _ _ _ hB.at_] at h0
      rcases off with _ | _ | off <;> simp at h0
    refine ⟨b, off, e, fun j' u hu => ?_⟩
    rw [World.cell?_of_block (w := w) (heap_setCell_other w ⟨r, j, none⟩ b v hbr)]
    exact hc j' u hu⟩
/-- The number of some digits, the lowest first, as 64 bits hold it. -/
def valL : List UInt8 → Nat
  | [] => 0
  | c :: r => (valL r * 128 + c.toNat % 128) % 18446744073709551616
theorem valL_lt : ∀ L, valL L < 18446744073709551616
  | [] => by decide
  | c :: r => by rw [valL]; omega
theorem valL_enc (n : Nat) : n < 18446744073709551616 → valL (enc n) = n := by
  induction n using Nat.strongRecOn with
  | ind n ih =>
    intro hn
    by_cases h : n < 128
    · rw [enc_small h, valL, valL]; simp; omega
    · rw [enc_more h, valL, ih (n / 128) (by omega) (by omega)]
      have : (UInt8.ofNat (128 + n % 128)).toNat = 128 + n % 128 := by simp; omega
      rw [this]; omega
/-- Do the first m bytes have their number's own form? -/
def okAt (L : List UInt8) (m : Nat) : Prop := enc (valL (L.take m)) = L.take m
theorem okAt_rd {L : List UInt8} {m : Nat} (h : okAt L m) : rdS 0 0 L = some (valL (L.take m), L.drop m) := by
  have := rdS_of_enc0 (valL (L.take m)) (valL_lt _) (L.drop m)
  rwa [h, List.take_append_drop] at this
theorem rd_okAt {L : List UInt8} {n : Nat} {rest : List UInt8} (h : rdS 0 0 L = some (n, rest)) : ∃ m, 1 ≤ m ∧ m ≤ 10 ∧ m ≤ L.length ∧ okAt L m := by
  obtain ⟨hL, hn⟩ := rdS_enc0 h
  have ht : L.take (enc n).length = enc n := by rw [hL, List.take_left]
  refine ⟨(enc n).length, List.length_pos_iff.2 (enc_ne n), enc_len64 n hn, by rw [hL, List.length_append]; omega, ?_⟩
  unfold okAt
  rw [ht, valL_enc n hn]
/-- The reference's reader, by value: bytes, and whether it has failed. -/
def RV (w : World) (v : Value) (L : List UInt8) (f : Bool) : Prop := ∃ ao cap, v = .agg #[.slice ao L.length cap, .bool f] ∧ Sl w ao L.length cap (bc L)
theorem failed6_any (w : World) : Calls Try.prog 54 #[] w fun e w' => e = .returned (.agg #[.slice none 0 0, .bool true]) ∧ Below w.heap.size w w' := by
  go_enter Try.func54, Try.ntmps54
  go_wp2
  refine bodyPost_ret (v := .agg #[.slice none 0 0, .bool true]) ?_ rfl ⟨rfl, below_new1 w _⟩
  have hB := Blk.new w 80 [.slice none 0 0, .bool true]
  have R0 := hB.cell 0 _ rfl; have R1 := hB.cell 1 _ rfl
  simp [results, Try.results54, go_sem, R0, R1]
set_option maxRecDepth 8000 in
set_option maxHeartbeats 1600000 in
theorem tnum_any (w : World) (v : Value) (L : List UInt8) (f : Bool) (h : RV w v L f) (hf : f = true → L = []) (hl : L.length ≤ 1000000) :
    Calls Try.prog 53 #[v] w fun e w' => ∃ v', e = .returned (.tuple #[v', .int .u64 (rdN L f).1]) ∧ RV w' v' (rdN L f).2.1 (rdN L f).2.2 ∧ Below w.heap.size w w' := by
  obtain ⟨ao, cap, rfl, hs⟩ := h
  have HV : Hid (SlB w (.slice ao L.length cap) L) := ⟨_, _, rfl, hs⟩
  clear hs
  have HB1 := Lib.hid ((Blk.new w 80 [.slice ao L.length cap, .bool f]).alloc (.cells #[.slice none 0 0, .bool false] 80))
  have HB2 := Lib.hid (Blk.new2 w (.cells #[.slice ao L.length cap, .bool f] 80) 80 [.slice none 0 0, .bool false])
  have HBe := Lib.hid (below_new2 w (.cells #[.slice ao L.length cap, .bool f] 80) (.cells #[.slice none 0 0, .bool false] 80))
  go_enter Try.func53, Try.ntmps53
  go_wp2
  go_loopw [4] (fun i wr => ∃ m : Nat, 1 ≤ m ∧ m ≤ 11 ∧ m ≤ L.length + 1 ∧ i = .int .i64 m ∧ (∀ j, 1 ≤ j → j < m → ¬ okAt L j) ∧ Blk wr w.heap.size 80 [.slice ao L.length cap, .bool f] ∧ Blk wr (w.heap.size + 1) 80 [.slice none 0 0, .bool false] ∧ Below w.heap.size w wr) (fun i _ => 11 - (intOf i).toNat)
  case atStart => exact ⟨1, by omega, by omega, by omega, rfl, fun j h1 h2 => by omega, HB1.out, HB2.out, HBe.out⟩
  case round =>
    clear HB1 HB2 HBe
    obtain ⟨m, hm1, hm11, hml, rfl, hno, hb1, hb2, hbe⟩ := hrel
    have HB1 := Lib.hid hb1
    have HB2 := Lib.hid hb2
    have HBe := Lib.hid hbe
    have HNo := Lib.hid hno
    have R0 := hb1.cell 0 _ rfl; have R1 := hb1.cell 1 _ rfl
    clear hb1 hb2 hbe hno
    by_cases hin : m ≤ 10 ∧ m ≤ L.length
    · obtain ⟨hm10, hmL⟩ := hin
      go_wp2
      go_loop [5, 6] (fun n i => ∃ j : Nat, j ≤ m ∧ i = .int .i64 ((j : Int) - 1) ∧ n = .int .u64 (valL ((L.take m).drop j) : Nat)) (fun _ i => (intOf i + 1).toNat)
      case atStart => exact ⟨m, Nat.le_refl _, rfl, by rw [List.drop_of_length_le (by rw [List.length_take]; omega)]; rfl⟩
      case round =>
        obtain ⟨j, hj, rfl, rfl⟩ := hrel
        rcases j with _ | j
        · rw [List.drop_zero]
          by_cases hchk : okAt L m
          · have HSQ : Hid (str (enc (valL (L.take m))) = str (L.take m)) := congrArg str hchk
            have HRD : Hid (rdN L f = (valL (L.take m), L.drop m, f)) := rdN_some (okAt_rd hchk)
            clear hchk
            go_wp2
            refine region_mono (by kernel_rfl) (by kernel_rfl) [some 34, some 35, some 36, some 37, some 38, some 39, some 40, some 41, some 42] (by kernel_rfl) w.heap.size w HBe.out (Nat.le_refl _) (fun i v WW => match i with | 0 => v = .int .u64 (valL (L.take m)) | 1 => SlB WW v (enc (valL (L.take m))) | 2 => v = .string (str (enc (valL (L.take m)))) | 3 => v = .pointer (some ⟨w.heap.size, 0, none⟩) | 4 => v = .slice ao L.length cap | 5 => v = .int .i64 m | 6 => SlB WW v (L.take m) | 7 => v = .string (str (L.take m)) | 8 => v = .bool true | _ => True) ?_ ?_ ?_
            · intro i v WW WX h hbx
              rcases i with _ | _ | _ | _ | _ | _ | _ | _ | _ | i
              · exact h
              · exact SlB.keeps h hbx
              · exact h
              · exact h
              · exact h
              · exact h
              · exact SlB.keeps h hbx
              · exact h
              · exact h
              · trivial
            · intro iI oO V AC WW ho hf hbw K hK
              have hlt : iI < 9 := (Array.getElem?_eq_some_iff.1 ho).1
              rcases iI with _ | _ | _ | _ | _ | _ | _ | _ | _ | iI
              · obtain rfl := Option.some.inj (show some _ = some oO from ho)
                rw [if_pos (by rfl)]
                have q5 : AC.tmps.getD 5 undef = .int .u64 (valL (L.take m)) := hf.rest 5 (by kernel_rfl)
                go_simp
                exact hK _ _ (Below.refl _ _) rfl
              · obtain rfl := Option.some.inj (show some _ = some oO from ho)
                rw [if_pos (by rfl)]
                have q34 : AC.tmps.getD 34 undef = .int .u64 (valL (L.take m)) := ((hf.dep ⟨0, .data⟩ (by simp) rfl).2 34 rfl).trans (hf.dep ⟨0, .data⟩ (by simp) rfl).1
                go_simp
                refine (rnum6_any (valL (L.take m)) (valL_lt _) WW).mono ?_
                rintro e w6 ⟨v6, rfl, ho6, hb6⟩
                exact hK _ _ hb6 ho6.sl
              · obtain rfl := Option.some.inj (show some _ = some oO from ho)
                rw [if_pos (by rfl)]
                have q35 : AC.tmps.getD 35 undef = V 1 := (hf.dep ⟨1, .data⟩ (by simp) rfl).2 35 rfl
                have t1 := (hf.dep ⟨1, .data⟩ (by simp) rfl).1
                exact to_text_op _ rfl _ q35 _ t1 (hK _ _ (Below.refl _ _) rfl)
              · obtain rfl := Option.some.inj (show some _ = some oO from ho)
                rw [if_pos (by rfl)]
                have q1 : AC.tmps.getD 1 undef = .pointer (some ⟨w.heap.size, 0, none⟩) := hf.rest 1 (by kernel_rfl)
                go_simp
                exact hK _ _ (Below.refl _ _) rfl
              · obtain rfl := Option.some.inj (show some _ = some oO from ho)
                rw [if_pos (by rfl)]
                have q37 : AC.tmps.getD 37 undef = .pointer (some ⟨w.heap.size, 0, none⟩) := ((hf.dep ⟨3, .data⟩ (by simp) rfl).2 37 rfl).trans (hf.dep ⟨3, .data⟩ (by simp) rfl).1
                have z0 := (HB1.out.keeps hbw).cell 0 _ rfl
                go_simp
                exact hK _ _ (Below.refl _ _) rfl
              · obtain rfl := Option.some.inj (show some _ = some oO from ho)
                rw [if_pos (by rfl)]
                have q4 : AC.tmps.getD 4 undef = .int .i64 m := hf.rest 4 (by kernel_rfl)
                go_simp
                exact hK _ _ (Below.refl _ _) rfl
              · obtain rfl := Option.some.inj (show some _ = some oO from ho)
                rw [if_pos (by rfl)]
                have q38 : AC.tmps.getD 38 undef = .slice ao L.length cap := ((hf.dep ⟨4, .data⟩ (by simp) rfl).2 38 rfl).trans (hf.dep ⟨4, .data⟩ (by simp) rfl).1
                have q39 : AC.tmps.getD 39 undef = .int .i64 m := ((hf.dep ⟨5, .data⟩ (by simp) rfl).2 39 rfl).trans (hf.dep ⟨5, .data⟩ (by simp) rfl).1
                refine cut_to_op _ _ rfl _ q38 L ((HV.out.keeps HBe.out).keeps hbw) m (by omega) q39 fun ao1 cap1 h1 => hK _ _ (Below.refl _ _) ?_
                exact ⟨_, _, rfl, h1⟩
              · obtain rfl := Option.some.inj (show some _ = some oO from ho)
                rw [if_pos (by rfl)]
                have q40 : AC.tmps.getD 40 undef = V 6 := (hf.dep ⟨6, .data⟩ (by simp) rfl).2 40 rfl
                have t6 := (hf.dep ⟨6, .data⟩ (by simp) rfl).1
                exact to_text_op _ rfl _ q40 _ t6 (hK _ _ (Below.refl _ _) rfl)
              · obtain rfl := Option.some.inj (show some _ = some oO from ho)
                rw [if_pos (by rfl)]
                have q36 : AC.tmps.getD 36 undef = .string (str (enc (valL (L.take m)))) := ((hf.dep ⟨2, .data⟩ (by simp) rfl).2 36 rfl).trans (hf.dep ⟨2, .data⟩ (by simp) rfl).1
                have q41 : AC.tmps.getD 41 undef = .string (str (L.take m)) := ((hf.dep ⟨7, .data⟩ (by simp) rfl).2 41 rfl).trans (hf.dep ⟨7, .data⟩ (by simp) rfl).1
                have hsq := HSQ.out
                go_simp
                exact hK _ _ (Below.refl _ _) rfl
              · omega
            · intro V WW hall hbw hBW
              have vv0 : V 0 = .int .u64 (valL (L.take m)) := hall 0 (by decide)
              have vv1 : SlB WW (V 1) (enc (valL (L.take m))) := hall 1 (by decide)
              have vv2 : V 2 = .string (str (enc (valL (L.take m)))) := hall 2 (by decide)
              have vv3 : V 3 = .pointer (some ⟨w.heap.size, 0, none⟩) := hall 3 (by decide)
              have vv4 : V 4 = .slice ao L.length cap := hall 4 (by decide)
              have vv5 : V 5 = .int .i64 m := hall 5 (by decide)
              have vv6 : SlB WW (V 6) (L.take m) := hall 6 (by decide)
              have vv7 : V 7 = .string (str (L.take m)) := hall 7 (by decide)
              have vv8 : V 8 = .bool true := hall 8 (by decide)
              clear hall
              simp only [pairsOf, laid, Nat.zero_add, Nat.reduceAdd, vv0, vv2, vv3, vv4, vv5, vv7, vv8, List.setIfInBounds_toArray, List.set_cons_zero, List.set_cons_succ]
              clear vv0 vv2 vv3 vv4 vv5 vv7 vv8
              have HBW := Lib.hid hBW
              have HB1 := Lib.hid (HB1.out.keeps hbw)
              have HB2 := Lib.hid (HB2.out.keeps hbw)
              have R0 := HB1.out.cell 0 _ rfl; have R1 := HB1.out.cell 1 _ rfl
              have Z0 := HB2.out.cell 0 _ rfl; have Z1 := HB2.out.cell 1 _ rfl; have Zf := HB2.out.frozen; have Zn := HB2.out.lt
              have HSl := Lib.hid ((HV.out.keeps HBe.out).keeps hbw)
              clear hBW hbw
              go_wp2_with (refine cut_from rfl _ _ rfl _ rfl L HSl.out m (by omega) rfl ?_; intro ao' cap' hsl')
              have hZ := (HB2.out.set 0 (.slice ao' (L.length - m) cap')).set 1 (.bool false)
              have Y0 := hZ.cell 0 _ rfl; have Y1 := hZ.cell 1 _ rfl
              have hf0 : f = false := by
                cases f with
                | false => rfl
                | true => exact absurd (hf rfl) (by rintro rfl; simp at hmL; omega)
              refine bodyPost_ret (v := .tuple #[.agg #[.slice ao' (L.length - m) cap', .bool false], .int .u64 (valL (L.take m))]) (by simp [results, Try.results53, go_sem, Y0, Y1]) rfl ⟨_, by rw [HRD.out], ?_, ?_⟩
              · rw [HRD.out]
                exact ⟨ao', cap', by rw [hf0, List.length_drop], sl_set6 (HB2.out.set 0 _) (sl_set6 HB2.out hsl' 0 _) 1 _⟩
              · exact (HBW.out.setCell (p := ⟨w.heap.size + 1, 0, none⟩) (by simp) _).setCell (p := ⟨w.heap.size + 1, 1, none⟩) (by simp) _
          · have HSQ : Hid (((str (enc (valL (L.take m)))).toList == (str (L.take m)).toList) = false) := str_ne hchk
            have HCHK : Hid (¬ okAt L m) := hchk
            clear hchk
            go_wp2
            refine region_mono (by kernel_rfl) (by kernel_rfl) [some 34, some 35, some 36, some 37, some 38, some 39, some 40, some 41, some 42] (by kernel_rfl) w.heap.size w HBe.out (Nat.le_refl _) (fun i v WW => match i with | 0 => v = .int .u64 (valL (L.take m)) | 1 => SlB WW v (enc (valL (L.take m))) | 2 => v = .string (str (enc (valL (L.take m)))) | 3 => v = .pointer (some ⟨w.heap.size, 0, none⟩) | 4 => v = .slice ao L.length cap | 5 => v = .int .i64 m | 6 => SlB WW v (L.take m) | 7 => v = .string (str (L.take m)) | 8 => v = .bool false | _ => True) ?_ ?_ ?_
            · intro i v WW WX h hbx
              rcases i with _ | _ | _ | _ | _ | _ | _ | _ | _ | i
              · exact h
              · exact SlB.keeps h hbx
              · exact h
              · exact h
              · exact h
              · exact h
              · exact SlB.keeps h hbx
              · exact h
              · exact h
              · trivial
            · intro iI oO V AC WW ho hf hbw K hK
              have hlt : iI < 9 := (Array.getElem?_eq_some_iff.1 ho).1
              rcases iI with _ | _ | _ | _ | _ | _ | _ | _ | _ | iI
              · obtain rfl := Option.some.inj (show some _ = some oO from ho)
                rw [if_pos (by rfl)]
                have q5 : AC.tmps.getD 5 undef = .int .u64 (valL (L.take m)) := hf.rest 5 (by kernel_rfl)
                go_simp
                exact hK _ _ (Below.refl _ _) rfl
              · obtain rfl := Option.some.inj (show some _ = some oO from ho)
                rw [if_pos (by rfl)]
                have q34 : AC.tmps.getD 34 undef = .int .u64 (valL (L.take m)) := ((hf.dep ⟨0, .data⟩ (by simp) rfl).2 34 rfl).trans (hf.dep ⟨0, .data⟩ (by simp) rfl).1
                go_simp
                refine (rnum6_any (valL (L.take m)) (valL_lt _) WW).mono ?_
                rintro e w6 ⟨v6, rfl, ho6, hb6⟩
                exact hK _ _ hb6 ho6.sl
              · obtain rfl := Option.some.inj (show some _ = some oO from ho)
                rw [if_pos (by rfl)]
                have q35 : AC.tmps.getD 35 undef = V 1 := (hf.dep ⟨1, .data⟩ (by simp) rfl).2 35 rfl
                have t1 := (hf.dep ⟨1, .data⟩ (by simp) rfl).1
                exact to_text_op _ rfl _ q35 _ t1 (hK _ _ (Below.refl _ _) rfl)
              · obtain rfl := Option.some.inj (show some _ = some oO from ho)
                rw [if_pos (by rfl)]
                have q1 : AC.tmps.getD 1 undef = .pointer (some ⟨w.heap.size, 0, none⟩) := hf.rest 1 (by kernel_rfl)
                go_simp
                exact hK _ _ (Below.refl _ _) rfl
              · obtain rfl := Option.some.inj (show some _ = some oO from ho)
                rw [if_pos (by rfl)]
                have q37 : AC.tmps.getD 37 undef = .pointer (some ⟨w.heap.size, 0, none⟩) := ((hf.dep ⟨3, .data⟩ (by simp) rfl).2 37 rfl).trans (hf.dep ⟨3, .data⟩ (by simp) rfl).1
                have z0 := (HB1.out.keeps hbw).cell 0 _ rfl
                go_simp
                exact hK _ _ (Below.refl _ _) rfl
              · obtain rfl := Option.some.inj (show some _ = some oO from ho)
                rw [if_pos (by rfl)]
                have q4 : AC.tmps.getD 4 undef = .int .i64 m := hf.rest 4 (by kernel_rfl)
                go_simp
                exact hK _ _ (Below.refl _ _) rfl
              · obtain rfl := Option.some.inj (show some _ = some oO from ho)
                rw [if_pos (by rfl)]
                have q38 : AC.tmps.getD 38 undef = .slice ao L.length cap := ((hf.dep ⟨4, .data⟩ (by simp) rfl).2 38 rfl).trans (hf.dep ⟨4, .data⟩ (by simp) rfl).1
                have q39 : AC.tmps.getD 39 undef = .int .i64 m := ((hf.dep ⟨5, .data⟩ (by simp) rfl).2 39 rfl).trans (hf.dep ⟨5, .data⟩ (by simp) rfl).1
                refine cut_to_op _ _ rfl _ q38 L ((HV.out.keeps HBe.out).keeps hbw) m (by omega) q39 fun ao1 cap1 h1 => hK _ _ (Below.refl _ _) ?_
                exact ⟨_, _, rfl, h1⟩
              · obtain rfl := Option.some.inj (show some _ = some oO from ho)
                rw [if_pos (by rfl)]
                have q40 : AC.tmps.getD 40 undef = V 6 := (hf.dep ⟨6, .data⟩ (by simp) rfl).2 40 rfl
                have t6 := (hf.dep ⟨6, .data⟩ (by simp) rfl).1
                exact to_text_op _ rfl _ q40 _ t6 (hK _ _ (Below.refl _ _) rfl)
              · obtain rfl := Option.some.inj (show some _ = some oO from ho)
                rw [if_pos (by rfl)]
                have q36 : AC.tmps.getD 36 undef = .string (str (enc (valL (L.take m)))) := ((hf.dep ⟨2, .data⟩ (by simp) rfl).2 36 rfl).trans (hf.dep ⟨2, .data⟩ (by simp) rfl).1
                have q41 : AC.tmps.getD 41 undef = .string (str (L.take m)) := ((hf.dep ⟨7, .data⟩ (by simp) rfl).2 41 rfl).trans (hf.dep ⟨7, .data⟩ (by simp) rfl).1
                go_simp
                rw [HSQ.out]
                exact hK _ _ (Below.refl _ _) rfl
              · omega
            · intro V WW hall hbw hBW
              have vv0 : V 0 = .int .u64 (valL (L.take m)) := hall 0 (by decide)
              have vv1 : SlB WW (V 1) (enc (valL (L.take m))) := hall 1 (by decide)
              have vv2 : V 2 = .string (str (enc (valL (L.take m)))) := hall 2 (by decide)
              have vv3 : V 3 = .pointer (some ⟨w.heap.size, 0, none⟩) := hall 3 (by decide)
              have vv4 : V 4 = .slice ao L.length cap := hall 4 (by decide)
              have vv5 : V 5 = .int .i64 m := hall 5 (by decide)
              have vv6 : SlB WW (V 6) (L.take m) := hall 6 (by decide)
              have vv7 : V 7 = .string (str (L.take m)) := hall 7 (by decide)
              have vv8 : V 8 = .bool false := hall 8 (by decide)
              clear hall
              simp only [pairsOf, laid, Nat.zero_add, Nat.reduceAdd, vv0, vv2, vv3, vv4, vv5, vv7, vv8, List.setIfInBounds_toArray, List.set_cons_zero, List.set_cons_succ]
              clear vv0 vv2 vv3 vv4 vv5 vv7 vv8
              have HX : Hid (Blk WW w.heap.size 80 [.slice ao L.length cap, .bool f] ∧ Blk WW (w.heap.size + 1) 80 [.slice none 0 0, .bool false] ∧ Below w.heap.size w WW) := ⟨HB1.out.keeps hbw, HB2.out.keeps hbw, hBW⟩
              clear hBW hbw
              go_wp2
              go_roundw
              · exact ⟨m + 1, by omega, by omega, by omega, by go_num, fun j h1 h2 => by
                  by_cases hjm : j = m
                  · subst hjm; exact HCHK.out
                  · exact HNo.out j h1 (by omega), HX.out⟩
              · simp [intOf]; omega
        · obtain ⟨c, hc⟩ : ∃ c, L[j]? = some c := ⟨_, List.getElem?_eq_getElem (by omega)⟩
          have HV1 : Hid (valL ((L.take m).drop j) = (valL ((L.take m).drop (j + 1)) * 128 + c.toNat % 128) % 18446744073709551616) := by
            show _ = _
            have hlt : j < (L.take m).length := by rw [List.length_take]; omega
            rw [List.drop_eq_getElem_cons hlt, valL]
            rw [List.getElem?_eq_getElem (by omega)] at hc
            rw [List.getElem_take, Option.some.inj hc]
          obtain ⟨q, hq⟩ : ∃ q, valL ((L.take m).drop (j + 1)) = q := ⟨_, rfl⟩
          have hql : q < 18446744073709551616 := by rw [← hq]; exact valL_lt _
          rw [hq] at HV1 ⊢
          rw [show (((j + 1 : Nat) : Int) - 1) = (j : Int) from by omega]
          have HC := Lib.hid hc
          have HSl := Lib.hid (HV.out.keeps HBe.out)
          clear hq hc
          go_wp2_with (refine ix_by rfl _ _ rfl _ rfl L HSl.out j (by omega) rfl ?_; intro b off c' hck hcell; obtain rfl := Option.some.inj (HC.out.symm.trans hck))
          go_round
          · exact ⟨j, by omega, rfl, by rw [HV1.out]; exact congrArg (Value.int .u64) (by rw [IntKind.wrap_u64, IntKind.wrap_u64]; omega)⟩
          · simp [intOf]
    · have HRD : Hid (rdN L f = (0, [], true)) := by
        apply rdN_none
        cases hr : rdS 0 0 L with
        | none => rfl
        | some x =>
          obtain ⟨n, rest⟩ := x
          obtain ⟨j, j1, j10, jl, hj⟩ := rd_okAt hr
          exact absurd hj (HNo.out j j1 (by omega))
      go_wp2_with fail
      all_goals
        refine (failed6_any _).mono ?_
        rintro e w5 ⟨rfl, hb5⟩
        have HB2 := Lib.hid (HB2.out.keeps hb5)
        have Z0 := HB2.out.cell 0 _ rfl; have Z1 := HB2.out.cell 1 _ rfl; have Zf := HB2.out.frozen; have Zn := HB2.out.lt
        have HBW := Lib.hid (below_on HBe.out HBe.out.size hb5)
        clear hb5
        go_wp2
        have hZ := (HB2.out.set 0 (.slice none 0 0)).set 1 (.bool true)
        have Y0 := hZ.cell 0 _ rfl; have Y1 := hZ.cell 1 _ rfl
        refine bodyPost_ret (v := .tuple #[.agg #[.slice none 0 0, .bool true], .int .u64 0]) (by simp [results, Try.results53, go_sem, Y0, Y1]) rfl ⟨_, by rw [HRD.out]; rfl, ?_, ?_⟩
        · rw [HRD.out]
          exact ⟨none, 0, rfl, Sl.of_nil _⟩
        · exact (HBW.out.setCell (p := ⟨w.heap.size + 1, 0, none⟩) (by simp) _).setCell (p := ⟨w.heap.size + 1, 1, none⟩) (by simp) _
end Go.Proofs.Ytdkcccigmejikaa
