/-
  The walk of the law PackPuts: it answers true at every input.
-/
import Derived.Test.YtoafkjilkfohjaaPkAlive
import Derived.Test.YtoafkjilkfohjaaPFloat
import Derived.Test.YtoafkjilkfohjaaRows7
import Derived.Test.YtoafkjilkfohjaaMono
set_option linter.unusedVariables false
set_option linter.unusedSimpArgs false
namespace Go.Proofs.Ytoafkjilkfohjaa
open Go.RowKit

/-- A number of any sign, as the 64 bits that it has. -/
def u64of (n : Int) : Nat := (n % 18446744073709551616).toNat
theorem u64of_eq (n : Int) : IntKind.u64.wrap n = ((u64of n : Nat) : Int) := by
  rw [IntKind.wrap_u64]; unfold u64of; omega
theorem u64of_lt (n : Int) : u64of n < 18446744073709551616 := by unfold u64of; omega
theorem own_empty' (w : World) (T : TypeId) : (w.alloc (.cells #[] T)).ownsRow w.heap.size T 1 (.slice (some ⟨w.heap.size, 0, none⟩) 0 0) 0 [] :=
  ⟨rfl, .inr ⟨_, 0, #[], rfl, Nat.le_refl _, heap_alloc_new w _, Nat.le_refl _, by decide, rfl, rfl⟩⟩
theorem own_bytes {w : World} {B : Nat} {v : Value} {L M : List UInt8} (h : OwB w B v L) (e : L = M) : w.ownsRow B 5 1 v (bc M).length (bc M) := by
  subst e; rw [bc_len]; exact h
theorem map_at {α β : Type} (f : α → β) {N : List α} {k : Nat} {n : α} (h : N[k]? = some n) : (N.map f)[k]? = some (f n) := by rw [List.getElem?_map, h]; rfl
theorem map_take_on {α β : Type} (f : α → β) {N : List α} {k : Nat} {n : α} (h : N[k]? = some n) : (N.take (k + 1)).map f = (N.take k).map f ++ [f n] := by
  obtain ⟨hk, rfl⟩ := List.getElem?_eq_some_iff.1 h
  rw [List.take_succ_eq_append_getElem hk, List.map_append]; rfl
set_option maxRecDepth 8000 in
set_option maxHeartbeats 4000000 in
theorem puts_law (v : Value) (F : List UInt8) (ao : Option Addr) (cap : Nat) (N : List Int) (hw : ∀ x ∈ N, (Lit.int .i64 x).wf = true) (so : Option Addr) (scap : Nat) (S : List ByteArray) (w : World)
    (hF : SlB w v F) (hN : Sl w ao N.length cap (ic N)) (hS : Sl w so S.length scap (sc S)) :
    Calls Try.prog 5 #[v, .slice ao N.length cap, .slice so S.length scap] w fun e w' => e = .returned (.bool true) ∧ Below w.heap.size w w' := by
  have hb64 : ∀ n ∈ N, -9223372036854775808 ≤ n ∧ n ≤ 9223372036854775807 := by
    intro n hn
    have := hw n hn
    simp [Lit.wf, IntKind.min, IntKind.max, IntKind.signed, IntKind.bits] at this
    exact this
  clear hw
  obtain ⟨fo, fcap, rfl, hfs⟩ := hF
  have HF : Hid (SlB w (.slice fo F.length fcap) F) := ⟨_, _, rfl, hfs⟩
  clear hfs
  by_cases hl : F.length ≤ 100 ∧ N.length ≤ 50 ∧ S.length ≤ 20
  · obtain ⟨hl0, hl1, hl2⟩ := hl
    obtain ⟨i8, hi8, hz80, hz81, hz82⟩ := info_parts info_u64
    obtain ⟨jf, hjf, hzf0, hzf1, hzf2⟩ := info_parts info_f64
    go_enter Try.func5, Try.ntmps5
    go_wp2_with fail
    refine (alive_any _).mono ?_
    rintro e w1 ⟨rfl, hb1⟩
    have B1 := Lib.hid hb1
    have R1 := Lib.hid (OwnAll.none w1 w.heap.size)
    clear hb1
    go_wp2_with (first | (refine ap_sl rfl (.tmp 35) (.tmp 36) rfl w1.heap.size _ rfl [] (own_empty w1) F _ rfl (HF.out.keeps (B1.out.alloc B1.out.size _)) (by simp; omega) (by simp) ?_; intro v7 c7 h1 h2 h3; have B7 := Lib.hid (below_on B1.out B1.out.size (grown_below (own_empty w1) h2 (Nat.le_refl _) (Nat.le_refl _) (below_new1 w1 _))); have R7 := Lib.hid (R1.out.add (grown_below (own_empty w1) h2 (Nat.le_refl _) (Nat.le_refl _) (below_new1 w1 _)) B1.out.size (own_bytes h1 (List.nil_append F))); clear h1 h2 h3 R1) | (refine ap_sl rfl (.tmp 38) (.tmp 39) rfl c7.heap.size _ rfl [] (own_empty c7) F _ rfl (HF.out.keeps (B7.out.alloc B7.out.size _)) (by simp; omega) (by simp) ?_; intro v8 c8 h1 h2 h3; have B8 := Lib.hid (below_on B7.out B7.out.size (grown_below (own_empty c7) h2 (Nat.le_refl _) (Nat.le_refl _) (below_new1 c7 _))); have R8 := Lib.hid (R7.out.add (grown_below (own_empty c7) h2 (Nat.le_refl _) (Nat.le_refl _) (below_new1 c7 _)) B7.out.size (own_bytes h1 (List.nil_append F))); clear h1 h2 h3 R7) | (refine ap_sl rfl (.tmp 41) (.tmp 42) rfl c8.heap.size _ rfl [] (own_empty c8) F _ rfl (HF.out.keeps (B8.out.alloc B8.out.size _)) (by simp; omega) (by simp) ?_; intro v9 c9 h1 h2 h3; have B9 := Lib.hid (below_on B8.out B8.out.size (grown_below (own_empty c8) h2 (Nat.le_refl _) (Nat.le_refl _) (below_new1 c8 _))); have R9 := Lib.hid (R8.out.add (grown_below (own_empty c8) h2 (Nat.le_refl _) (Nat.le_refl _) (below_new1 c8 _)) B8.out.size (own_bytes h1 (List.nil_append F))); clear h1 h2 h3 R8) | (refine ap_sl rfl (.tmp 44) (.tmp 45) rfl c9.heap.size _ rfl [] (own_empty c9) F _ rfl (HF.out.keeps (B9.out.alloc B9.out.size _)) (by simp; omega) (by simp) ?_; intro v10 c10 h1 h2 h3; have B10 := Lib.hid (below_on B9.out B9.out.size (grown_below (own_empty c9) h2 (Nat.le_refl _) (Nat.le_refl _) (below_new1 c9 _))); have R10 := Lib.hid (R9.out.add (grown_below (own_empty c9) h2 (Nat.le_refl _) (Nat.le_refl _) (below_new1 c9 _)) B9.out.size (own_bytes h1 (List.nil_append F))); clear h1 h2 h3 R9) | (refine ap_sl rfl (.tmp 47) (.tmp 48) rfl c10.heap.size _ rfl [] (own_empty c10) F _ rfl (HF.out.keeps (B10.out.alloc B10.out.size _)) (by simp; omega) (by simp) ?_; intro v11 c11 h1 h2 h3; have B11 := Lib.hid (below_on B10.out B10.out.size (grown_below (own_empty c10) h2 (Nat.le_refl _) (Nat.le_refl _) (below_new1 c10 _))); have R11 := Lib.hid (R10.out.add (grown_below (own_empty c10) h2 (Nat.le_refl _) (Nat.le_refl _) (below_new1 c10 _)) B10.out.size (own_bytes h1 (List.nil_append F))); clear h1 h2 h3 R10))
    have R12 := Lib.hid (R11.out.add (below_new1 c11 (.cells #[] 26)) B11.out.size (C := []) (own_empty' c11 26))
    have B12 := Lib.hid (B11.out.alloc B11.out.size (.cells #[] 26))
    have R13 := Lib.hid (R12.out.add (below_new1 _ (.cells #[] 38)) B12.out.size (C := []) (own_empty' _ 38))
    have B13 := Lib.hid (B12.out.alloc B12.out.size (.cells #[] 38))
    clear R11 R12 B7 B8 B9 B10 B12
    go_loopw [8, 9, 10, 12, 13, 54] (fun x8 x9 x10 x12 x13 i wr => ∃ k : Nat, k ≤ N.length ∧ i = .int .i64 k ∧ OwnAll wr w.heap.size [(38, x13, fc ((N.take k).map u64of)), (26, x12, uc ((N.take k).map u64of)), (5, v11, bc F), (5, x10, bc (F ++ fls ((N.take k).map u64of))), (5, x9, bc (F ++ encs ((N.take k).map zig))), (5, x8, bc (F ++ encs ((N.take k).map u64of))), (5, v7, bc F)] ∧ Below w.heap.size w wr) (fun _ _ _ _ _ i _ => N.length - (intOf i).toNat)
    case atStart => exact ⟨0, by omega, rfl, by simpa [encs, fls, uc, fc] using R13.out, B13.out⟩
    case round =>
      clear R13 B13
      obtain ⟨k, hk, rfl, ho, hb⟩ := hrel
      by_cases hkl : k < N.length
      · obtain ⟨n, hn⟩ : ∃ n, N[k]? = some n := ⟨_, List.getElem?_eq_getElem hkl⟩
        obtain ⟨n0, n1⟩ := hb64 n (List.mem_of_getElem? hn)
        obtain ⟨m, hm⟩ : ∃ m, u64of n = m := ⟨_, rfl⟩
        have hm64 : m < 18446744073709551616 := by rw [← hm]; exact u64of_lt n
        have hU : IntKind.u64.wrap n = ((m : Nat) : Int) := by rw [← hm]; exact u64of_eq n
        have HM := Lib.hid hm
        have HNk := Lib.hid hn
        have hNw := hN.keeps hb
        have hd1 := fun w => frombits_run m w
        have HO := Lib.hid ho
        have HB := Lib.hid hb
        have hKl : ((N.take k).map u64of).length = k := by rw [List.length_map, List.length_take]; omega
        have hKz : ((N.take k).map zig).length = k := by rw [List.length_map, List.length_take]; omega
        have HL8 : Hid ((encs ((N.take k).map u64of)).length ≤ 10 * k) := by
          have := encs_len (N := (N.take k).map u64of) (by intro a ha; obtain ⟨b, _, rfl⟩ := List.mem_map.1 ha; exact u64of_lt b)
          rwa [hKl] at this
        have HL9 : Hid ((encs ((N.take k).map zig)).length ≤ 10 * k) := by
          have := encs_len (N := (N.take k).map zig) (by
            intro a ha
            obtain ⟨b, hb', rfl⟩ := List.mem_map.1 ha
            have := hb64 b (List.mem_of_mem_take hb')
            exact zig_lt this.1 this.2)
          rwa [hKz] at this
        have HL10 : Hid ((fls ((N.take k).map u64of)).length = 8 * k) := by
          show _ = _
          rw [fls_len, hKl]
        have HLm : Hid ((enc m).length ≤ 10) := enc_len64 m hm64
        have HLz : Hid ((enc (zig n)).length ≤ 10) := enc_len64 _ (zig_lt n0 n1)
        have HKL : Hid (((N.take k).map u64of).length = k) := hKl
        clear hn hm ho hb hKl hKz
        go_wp2_with (first | (refine wpList_ix_sl rfl 34 2 _ _ rfl Try.underlying34 size_i64 ao N.length cap rfl (ic N) hNw k hkl rfl ?_; intro b off u hu hcell; obtain rfl : u = .int .i64 n := by (simp [ic, HNk.out] at hu; exact hu.symm)) | (refine wpList_append_src rfl (.tmp 58) (.tmp 61) 36 36 rfl w.heap.size 26 i8 (.int .u64 0) 8 Try.underlying36 hi8 hz80 hz81 hz82 rfl _ rfl _ ((HO.out.keeps (below_new1 _ _)).get 1 rfl) _ rfl [.int .u64 m] (Sl.src Try.underlying36 (sl_unit _ _ _ _ rfl) (by simp [Value.oneCell'])) (by first | (rw [uc_len, HKL.out]; simp; omega) | (rw [fc_len, HKL.out]; simp; omega)) (by decide) (by have := HB.out.size; simp; omega) ?_; intro n12 wa h1 h2 h3; have Rwa : Hid (OwnAll wa w.heap.size [(38, u13, fc ((N.take k).map u64of)), (26, n12, uc ((N.take k).map u64of) ++ [.int .u64 m]), (5, v11, bc F), (5, u10, bc (F ++ fls ((N.take k).map u64of))), (5, u9, bc (F ++ encs ((N.take k).map zig))), (5, u8, bc (F ++ encs ((N.take k).map u64of))), (5, v7, bc F)]) := (HO.out.keeps (below_new1 _ _)).grow 1 rfl h1 h2 h3; have Bwa : Hid (Below w.heap.size w wa) := (HO.out.keeps (below_new1 _ _)).below 1 rfl h2 (Nat.le_refl _) (HB.out.alloc HB.out.size _); clear h1 h2 h3 HO HB) | (refine wpList_append_src rfl (.tmp 63) (.tmp 67) 37 37 rfl w.heap.size 38 jf (.float .f64 0) 8 Try.underlying37 hjf hzf0 hzf1 hzf2 rfl _ rfl _ ((Rwa.out.keeps (below_new1 _ _)).get 0 rfl) _ rfl [.float .f64 m] (Sl.src Try.underlying37 (sl_unit _ _ _ _ rfl) (by simp [Value.oneCell'])) (by first | (rw [uc_len, HKL.out]; simp; omega) | (rw [fc_len, HKL.out]; simp; omega)) (by decide) (by have := Bwa.out.size; simp; omega) ?_; intro n13 wb h1 h2 h3; have Rwb : Hid (OwnAll wb w.heap.size [(38, n13, fc ((N.take k).map u64of) ++ [.float .f64 m]), (26, n12, uc ((N.take k).map u64of) ++ [.int .u64 m]), (5, v11, bc F), (5, u10, bc (F ++ fls ((N.take k).map u64of))), (5, u9, bc (F ++ encs ((N.take k).map zig))), (5, u8, bc (F ++ encs ((N.take k).map u64of))), (5, v7, bc F)]) := (Rwa.out.keeps (below_new1 _ _)).grow 0 rfl h1 h2 h3; have Bwb : Hid (Below w.heap.size w wb) := (Rwa.out.keeps (below_new1 _ _)).below 0 rfl h2 (Nat.le_refl _) (Bwa.out.alloc Bwa.out.size _); clear h1 h2 h3 Rwa Bwa))
        refine (rnum6_any m hm64 _).mono ?_
        rintro e wc ⟨wc_v, rfl, wc_o, wc_b⟩
        have Rwc := Lib.hid (Rwb.out.keeps wc_b)
        have Bwc := Lib.hid (below_on Bwb.out Bwb.out.size wc_b)
        have Swc := Lib.hid wc_o.sl
        clear wc_o wc_b Rwb Bwb
        go_wp2_with (refine ap_sl rfl (.tmp 69) (.tmp 72) rfl w.heap.size _ rfl _ (Rwc.out.bytes 5 rfl) _ _ rfl Swc.out (by have := HL8.out; have := HLm.out; rw [List.length_append]; omega) Bwc.out.size ?_; intro n8 wd h1 h2 h3; have Rwd : Hid (OwnAll wd w.heap.size [(38, n13, fc ((N.take k).map u64of) ++ [.float .f64 m]), (26, n12, uc ((N.take k).map u64of) ++ [.int .u64 m]), (5, v11, bc F), (5, u10, bc (F ++ fls ((N.take k).map u64of))), (5, u9, bc (F ++ encs ((N.take k).map zig))), (5, n8, bc (F ++ encs ((N.take k).map u64of) ++ enc m)), (5, v7, bc F)]) := Rwc.out.grow 5 rfl (own_bytes h1 rfl) h2 h3; have Bwd : Hid (Below w.heap.size w wd) := Rwc.out.below 5 rfl h2 (Nat.le_refl _) Bwc.out; clear h1 h2 h3 Rwc Bwc Swc)
        refine (rint6_any n n0 n1 _).mono ?_
        rintro e we ⟨we_v, rfl, we_o, we_b⟩
        have Rwe := Lib.hid (Rwd.out.keeps we_b)
        have Bwe := Lib.hid (below_on Bwd.out Bwd.out.size we_b)
        have Swe := Lib.hid we_o.sl
        clear we_o we_b Rwd Bwd
        go_wp2_with (refine ap_sl rfl (.tmp 74) (.tmp 76) rfl w.heap.size _ rfl _ (Rwe.out.bytes 4 rfl) _ _ rfl Swe.out (by have := HL9.out; have := HLz.out; rw [List.length_append]; omega) Bwe.out.size ?_; intro n9 wf h1 h2 h3; have Rwf : Hid (OwnAll wf w.heap.size [(38, n13, fc ((N.take k).map u64of) ++ [.float .f64 m]), (26, n12, uc ((N.take k).map u64of) ++ [.int .u64 m]), (5, v11, bc F), (5, u10, bc (F ++ fls ((N.take k).map u64of))), (5, n9, bc (F ++ encs ((N.take k).map zig) ++ enc (zig n))), (5, n8, bc (F ++ encs ((N.take k).map u64of) ++ enc m)), (5, v7, bc F)]) := Rwe.out.grow 4 rfl (own_bytes h1 rfl) h2 h3; have Bwf : Hid (Below w.heap.size w wf) := Rwe.out.below 4 rfl h2 (Nat.le_refl _) Bwe.out; clear h1 h2 h3 Rwe Bwe Swe)
        refine (rfloat6_any m hm64 _).mono ?_
        rintro e wg ⟨wg_v, rfl, wg_o, wg_b⟩
        have Rwg := Lib.hid (Rwf.out.keeps wg_b)
        have Bwg := Lib.hid (below_on Bwf.out Bwf.out.size wg_b)
        have Swg := Lib.hid wg_o.sl
        clear wg_o wg_b Rwf Bwf
        go_wp2_with (refine ap_sl rfl (.tmp 78) (.tmp 82) rfl w.heap.size _ rfl _ (Rwg.out.bytes 3 rfl) _ _ rfl Swg.out (by have := HL10.out; rw [List.length_append, fl_len]; omega) Bwg.out.size ?_; intro n10 wh h1 h2 h3; have Rwh : Hid (OwnAll wh w.heap.size [(38, n13, fc ((N.take k).map u64of) ++ [.float .f64 m]), (26, n12, uc ((N.take k).map u64of) ++ [.int .u64 m]), (5, v11, bc F), (5, n10, bc (F ++ fls ((N.take k).map u64of) ++ fl m 8)), (5, n9, bc (F ++ encs ((N.take k).map zig) ++ enc (zig n))), (5, n8, bc (F ++ encs ((N.take k).map u64of) ++ enc m)), (5, v7, bc F)]) := Rwg.out.grow 3 rfl (own_bytes h1 rfl) h2 h3; have Bwh : Hid (Below w.heap.size w wh) := Rwg.out.below 3 rfl h2 (Nat.le_refl _) Bwg.out; clear h1 h2 h3 Rwg Bwg Swg)
        go_roundw
        · have E1 : encs ((N.take (k + 1)).map u64of) = encs ((N.take k).map u64of) ++ enc m := by
            rw [map_take_on u64of HNk.out, HM.out]; simp [encs]
          have E2 : encs ((N.take (k + 1)).map zig) = encs ((N.take k).map zig) ++ enc (zig n) := by
            rw [map_take_on zig HNk.out]; simp [encs]
          have E3 : fls ((N.take (k + 1)).map u64of) = fls ((N.take k).map u64of) ++ fl m 8 := by
            rw [map_take_on u64of HNk.out, HM.out]; simp [fls]
          have E4 : uc ((N.take (k + 1)).map u64of) = uc ((N.take k).map u64of) ++ [.int .u64 m] := by
            rw [map_take_on u64of HNk.out, HM.out]; simp [uc]
          have E5 : fc ((N.take (k + 1)).map u64of) = fc ((N.take k).map u64of) ++ [.float .f64 m] := by
            rw [map_take_on u64of HNk.out, HM.out]; simp [fc]
          exact ⟨k + 1, by omega, by go_num, by rw [E1, E2, E3, E4, E5, ← List.append_assoc, ← List.append_assoc, ← List.append_assoc]; exact Rwh.out, Bwh.out⟩
        · simp [intOf]; omega
      · rw [List.take_of_length_le (by omega)] at ho
        have HO := Lib.hid ho
        have HB := Lib.hid hb
        clear ho hb
        go_wp2

        go_loopw [11, 87] (fun x11 i wr => ∃ j : Nat, j ≤ S.length ∧ i = .int .i64 j ∧ (∀ s ∈ S.take j, s.size ≤ 1000) ∧ OwnAll wr w.heap.size [(38, u13, fc (N.map u64of)), (26, u12, uc (N.map u64of)), (5, x11, bc (F ++ txts (S.take j))), (5, u10, bc (F ++ fls (N.map u64of))), (5, u9, bc (F ++ encs (N.map zig))), (5, u8, bc (F ++ encs (N.map u64of))), (5, v7, bc F)] ∧ Below w.heap.size w wr) (fun _ i _ => S.length - (intOf i).toNat)
        case atStart => exact ⟨0, by omega, rfl, by simp, by simpa [txts] using HO.out, HB.out⟩
        case round =>
          clear HO HB
          obtain ⟨j, hj, rfl, hall, ho, hb⟩ := hrel
          have HO := Lib.hid ho
          have HB := Lib.hid hb
          have HA := Lib.hid hall
          clear ho hb hall
          by_cases hjl : j < S.length
          · obtain ⟨s, hs⟩ : ∃ s, S[j]? = some s := ⟨_, List.getElem?_eq_getElem hjl⟩
            have HNk := Lib.hid hs
            have hSw := hS.keeps HB.out
            clear hs
            by_cases hlong : s.size ≤ 1000
            · have HL1 : Hid (s.size ≤ 1000) := hlong
              have HLt : Hid ((txts (S.take j)).length ≤ 65546 * j) := Nat.le_trans (txts_len fun x hx => Nat.le_trans (HA.out x hx) (by decide)) (by rw [List.length_take]; omega)
              have HLs : Hid ((txt s).length ≤ 65546) := txt_len (by omega)
              go_wp2_with (first | (refine wpList_ix_sl rfl 35 9 _ _ rfl Try.underlying35 size_str so S.length scap rfl (sc S) hSw j hjl rfl ?_; intro b off u hu hcell; obtain rfl : u = .string s := by (simp [sc, HNk.out] at hu; exact hu.symm)))
              refine (rtext6_any s (Nat.le_trans HL1.out (by decide)) _).mono ?_
              rintro e wi ⟨wi_v, rfl, wi_o, wi_b⟩
              have Rwi := Lib.hid (HO.out.keeps wi_b)
              have Bwi := Lib.hid (below_on HB.out HB.out.size wi_b)
              have Swi := Lib.hid wi_o.sl
              clear wi_o wi_b HO HB
              go_wp2_with (refine ap_sl rfl (.tmp 94) (.tmp 96) rfl w.heap.size _ rfl _ (Rwi.out.bytes 2 rfl) _ _ rfl Swi.out (by have := HLt.out; have := HLs.out; rw [List.length_append]; omega) Bwi.out.size ?_; intro n11 wk h1 h2 h3; have Rwk : Hid (OwnAll wk w.heap.size [(38, u13, fc (N.map u64of)), (26, u12, uc (N.map u64of)), (5, n11, bc (F ++ txts (S.take j) ++ txt s)), (5, u10, bc (F ++ fls (N.map u64of))), (5, u9, bc (F ++ encs (N.map zig))), (5, u8, bc (F ++ encs (N.map u64of))), (5, v7, bc F)]) := Rwi.out.grow 2 rfl (own_bytes h1 rfl) h2 h3; have Bwk : Hid (Below w.heap.size w wk) := Rwi.out.below 2 rfl h2 (Nat.le_refl _) Bwi.out; clear h1 h2 h3 Rwi Bwi Swi)
              go_roundw
              · refine ⟨j + 1, by omega, by go_num, ?_, by rw [txts_take HNk.out, ← List.append_assoc]; exact Rwk.out, Bwk.out⟩
                obtain ⟨hk', hn'⟩ := List.getElem?_eq_some_iff.1 HNk.out
                intro x hx
                rw [List.take_succ_eq_append_getElem hk', List.mem_append] at hx
                rcases hx with hx | hx
                · exact HA.out x hx
                · rw [List.mem_singleton] at hx; rw [hx, hn']; exact HL1.out
              · simp [intOf]; omega
            · go_wp2_with (first | (refine wpList_ix_sl rfl 35 9 _ _ rfl Try.underlying35 size_str so S.length scap rfl (sc S) hSw j hjl rfl ?_; intro b off u hu hcell; obtain rfl : u = .string s := by (simp [sc, HNk.out] at hu; exact hu.symm)))
              go_ret
              exact ⟨rfl, HB.out⟩
          · have hjS : S.take j = S := List.take_of_length_le (by omega)
            have ho := HO.out
            have hall := HA.out
            rw [hjS] at ho hall
            have hall2 : ∀ s ∈ S, s.size ≤ 65536 := fun s hs => Nat.le_trans (hall s hs) (by decide)
            obtain ⟨a12, c12, e12, hs12, _⟩ := Sl.own (ho.get 1 rfl)
            obtain ⟨a13, c13, e13, hs13, _⟩ := Sl.own (ho.get 0 rfl)
            rw [uc_len, List.length_map] at e12 hs12
            rw [fc_len, List.length_map] at e13 hs13
            subst e12
            subst e13
            have hNw := hN.keeps HB.out
            have hM64 : ∀ m ∈ N.map u64of, m < 18446744073709551616 := by
              intro a ha; obtain ⟨b, _, rfl⟩ := List.mem_map.1 ha; exact u64of_lt b
            have S7 := Lib.hid (ho.bytes 6 rfl).sl
            have S8 := Lib.hid (ho.bytes 5 rfl).sl
            have S9 := Lib.hid (ho.bytes 4 rfl).sl
            have S10 := Lib.hid (ho.bytes 3 rfl).sl
            have S11 := Lib.hid (ho.bytes 2 rfl).sl
            have S0 := Lib.hid (HF.out.keeps HB.out)
            have HP1 : Hid (∀ W, Below wr.heap.size wr W → Calls Try.prog 12 #[v7, .slice a12 N.length c12] W fun e w' => ∃ v', e = .returned v' ∧ OwB w' W.heap.size v' (F ++ encs (N.map u64of)) ∧ Below W.heap.size W w') := fun W hb => by
              have := pnum_any W v7 F (S7.out.keeps hb) a12 c12 (N.map u64of) (by rw [List.length_map]; exact hs12.keeps hb) hM64 (by rw [List.length_map]; omega)
              rwa [List.length_map] at this
            have HP2 : Hid (∀ W, Below wr.heap.size wr W → Calls Try.prog 20 #[v7, .slice ao N.length cap] W fun e w' => ∃ v', e = .returned v' ∧ OwB w' W.heap.size v' (F ++ encs (N.map zig)) ∧ Below W.heap.size W w') := fun W hb =>
              pint_any W v7 F (S7.out.keeps hb) ao cap N (hNw.keeps hb) hb64 (by omega)
            have HP3 : Hid (∀ W, Below wr.heap.size wr W → Calls Try.prog 21 #[v7, .slice a13 N.length c13] W fun e w' => ∃ v', e = .returned v' ∧ OwB w' W.heap.size v' (F ++ fls (N.map u64of)) ∧ Below W.heap.size W w') := fun W hb => by
              have := pfloat_any W v7 F (S7.out.keeps hb) a13 c13 (N.map u64of) (by rw [List.length_map]; exact hs13.keeps hb) hM64 (by rw [List.length_map]; omega)
              rwa [List.length_map] at this
            have ht := ptext_any wr v7 F S7.out so scap S (hS.keeps HB.out) (by omega)
            rw [putT_ok hall2] at ht
            simp only at ht
            obtain ⟨A8, hA8⟩ : ∃ A, F ++ encs (N.map u64of) = A := ⟨_, rfl⟩
            obtain ⟨A9, hA9⟩ : ∃ A, F ++ encs (N.map zig) = A := ⟨_, rfl⟩
            obtain ⟨A10, hA10⟩ : ∃ A, F ++ fls (N.map u64of) = A := ⟨_, rfl⟩
            obtain ⟨A11, hA11⟩ : ∃ A, F ++ txts S = A := ⟨_, rfl⟩
            rw [hA8] at HP1 S8
            rw [hA9] at HP2 S9
            rw [hA10] at HP3 S10
            rw [hA11] at ht S11
            have HT := Lib.hid ht
            clear ht ho hall hall2 hs12 hs13 hNw hM64 hA8 hA9 hA10 hA11 hjS HO HA
            go_wp2_with fail
            refine HT.out.mono ?_
            rintro e w5 ⟨v18, rfl, ho18, hb5⟩
            have S18 := Lib.hid ho18.sl
            have B5 := Lib.hid (below_on HB.out HB.out.size hb5)
            have HB5 := Lib.hid hb5
            clear ho18 hb5 HT
            go_wp2_with fail
            refine region_mono (by kernel_rfl) (by kernel_rfl) [some 105, some 106, some 107, some 108, some 109, some 110, some 111, some 112, some 113, some 114, some 115, some 116, some 117, some 118, some 119, some 120, some 121, some 122, some 123, some 124, some 125, some 126, some 127, some 128, some 129, some 130, some 131, some 132, some 133, some 134, some 135, some 136, some 137, some 138, some 139, some 140, some 141, some 142, some 143, some 144, some 145, some 146, some 147, some 6] (by kernel_rfl) w.heap.size w B5.out (Nat.le_refl _) (fun i v WW => match i with | 0 => v = v7 | 1 => v = .slice a12 N.length c12 | 2 => SlB WW v A8 | 3 => v = .string (str A8) | 4 => v = u8 | 5 => v = .string (str A8) | 6 => v = .bool true | 7 => v = .bool true | 8 => v = v7 | 9 => v = .slice ao N.length cap | 10 => SlB WW v A9 | 11 => v = .string (str A9) | 12 => v = u9 | 13 => v = .string (str A9) | 14 => v = .bool true | 15 => v = .bool true | 16 => v = .bool true | 17 => v = v18 | 18 => v = .string (str A11) | 19 => v = u11 | 20 => v = .string (str A11) | 21 => v = .bool true | 22 => v = .bool true | 23 => v = .bool true | 24 => v = .int .i64 0 | 25 => v = .bool true | 26 => v = .bool true | 27 => v = .bool true | 28 => v = v7 | 29 => v = .slice a13 N.length c13 | 30 => SlB WW v A10 | 31 => v = .string (str A10) | 32 => v = u10 | 33 => v = .string (str A10) | 34 => v = .bool true | 35 => v = .bool true | 36 => v = .bool true | 37 => v = v7 | 38 => v = .string (str F) | 39 => v = .slice fo F.length fcap | 40 => v = .string (str F) | 41 => v = .bool true | 42 => v = .bool true | 43 => v = .bool true | _ => True) ?_ ?_ ?_
            · intro i v WW WX h hbx
              rcases i with _ | _ | _ | _ | _ | _ | _ | _ | _ | _ | _ | _ | _ | _ | _ | _ | _ | _ | _ | _ | _ | _ | _ | _ | _ | _ | _ | _ | _ | _ | _ | _ | _ | _ | _ | _ | _ | _ | _ | _ | _ | _ | _ | _ | i
              · exact h
              · exact h
              · exact SlB.keeps h hbx
              · exact h
              · exact h
              · exact h
              · exact h
              · exact h
              · exact h
              · exact h
              · exact SlB.keeps h hbx
              · exact h
              · exact h
              · exact h
              · exact h
              · exact h
              · exact h
              · exact h
              · exact h
              · exact h
              · exact h
              · exact h
              · exact h
              · exact h
              · exact h
              · exact h
              · exact h
              · exact h
              · exact h
              · exact h
              · exact SlB.keeps h hbx
              · exact h
              · exact h
              · exact h
              · exact h
              · exact h
              · exact h
              · exact h
              · exact h
              · exact h
              · exact h
              · exact h
              · exact h
              · exact h
              · trivial
            · intro iI oO V AC WW ho hf hbw K hK
              have hlt : iI < 44 := (Array.getElem?_eq_some_iff.1 ho).1
              rcases iI with _ | _ | _ | _ | _ | _ | _ | _ | _ | _ | _ | _ | _ | _ | _ | _ | _ | _ | _ | _ | _ | _ | _ | _ | _ | _ | _ | _ | _ | _ | _ | _ | _ | _ | _ | _ | _ | _ | _ | _ | _ | _ | _ | _ | iI
              · obtain rfl := Option.some.inj (show some _ = some oO from ho)
                rw [if_pos (by rfl)]
                have q7 : AC.tmps.getD 7 undef = v7 := hf.rest 7 (by kernel_rfl)
                go_simp
                exact hK _ _ (Below.refl _ _) rfl
              · obtain rfl := Option.some.inj (show some _ = some oO from ho)
                rw [if_pos (by rfl)]
                have q12 : AC.tmps.getD 12 undef = .slice a12 N.length c12 := hf.rest 12 (by kernel_rfl)
                go_simp
                exact hK _ _ (Below.refl _ _) rfl
              · obtain rfl := Option.some.inj (show some _ = some oO from ho)
                rw [if_pos (by rfl)]
                have q105 : AC.tmps.getD 105 undef = v7 := ((hf.dep ⟨0, .data⟩ (by simp) rfl).2 105 rfl).trans (hf.dep ⟨0, .data⟩ (by simp) rfl).1
                have q106 : AC.tmps.getD 106 undef = .slice a12 N.length c12 := ((hf.dep ⟨1, .data⟩ (by simp) rfl).2 106 rfl).trans (hf.dep ⟨1, .data⟩ (by simp) rfl).1
                go_simp
                refine (HP1.out WW (below_on HB5.out HB5.out.size hbw)).mono ?_
                rintro e w6 ⟨v6, rfl, ho6, hb6⟩
                exact hK _ _ hb6 ho6.sl
              · obtain rfl := Option.some.inj (show some _ = some oO from ho)
                rw [if_pos (by rfl)]
                have q107 : AC.tmps.getD 107 undef = V 2 := (hf.dep ⟨2, .data⟩ (by simp) rfl).2 107 rfl
                have t2 := (hf.dep ⟨2, .data⟩ (by simp) rfl).1
                exact to_text_op _ rfl _ q107 _ (t2) (hK _ _ (Below.refl _ _) rfl)
              · obtain rfl := Option.some.inj (show some _ = some oO from ho)
                rw [if_pos (by rfl)]
                have q8 : AC.tmps.getD 8 undef = u8 := hf.rest 8 (by kernel_rfl)
                go_simp
                exact hK _ _ (Below.refl _ _) rfl
              · obtain rfl := Option.some.inj (show some _ = some oO from ho)
                rw [if_pos (by rfl)]
                have q109 : AC.tmps.getD 109 undef = u8 := ((hf.dep ⟨4, .data⟩ (by simp) rfl).2 109 rfl).trans (hf.dep ⟨4, .data⟩ (by simp) rfl).1
                exact to_text_op _ rfl _ q109 _ ((S8.out.keeps HB5.out).keeps hbw) (hK _ _ (Below.refl _ _) rfl)
              · obtain rfl := Option.some.inj (show some _ = some oO from ho)
                rw [if_pos (by rfl)]
                have q108 : AC.tmps.getD 108 undef = .string (str A8) := ((hf.dep ⟨3, .data⟩ (by simp) rfl).2 108 rfl).trans (hf.dep ⟨3, .data⟩ (by simp) rfl).1
                have q110 : AC.tmps.getD 110 undef = .string (str A8) := ((hf.dep ⟨5, .data⟩ (by simp) rfl).2 110 rfl).trans (hf.dep ⟨5, .data⟩ (by simp) rfl).1
                go_simp
                exact hK _ _ (Below.refl _ _) rfl
              · obtain rfl := Option.some.inj (show some _ = some oO from ho)
                rw [if_pos (by rfl)]
                have q111 : AC.tmps.getD 111 undef = .bool true := ((hf.dep ⟨6, .data⟩ (by simp) rfl).2 111 rfl).trans (hf.dep ⟨6, .data⟩ (by simp) rfl).1
                go_simp
                exact hK _ _ (Below.refl _ _) rfl
              · obtain rfl := Option.some.inj (show some _ = some oO from ho)
                rw [if_pos (wanted_yes (s := 112) rfl rfl rfl (by rw [hf.size]; simp) (((hf.dep ⟨7, .guard⟩ (by simp) rfl).2 112 rfl).trans (hf.dep ⟨7, .guard⟩ (by simp) rfl).1))]
                have q7 : AC.tmps.getD 7 undef = v7 := hf.rest 7 (by kernel_rfl)
                go_simp
                exact hK _ _ (Below.refl _ _) rfl
              · obtain rfl := Option.some.inj (show some _ = some oO from ho)
                rw [if_pos (wanted_yes (s := 112) rfl rfl rfl (by rw [hf.size]; simp) (((hf.dep ⟨7, .guard⟩ (by simp) rfl).2 112 rfl).trans (hf.dep ⟨7, .guard⟩ (by simp) rfl).1))]
                have q1 : AC.tmps.getD 1 undef = .slice ao N.length cap := hf.rest 1 (by kernel_rfl)
                go_simp
                exact hK _ _ (Below.refl _ _) rfl
              · obtain rfl := Option.some.inj (show some _ = some oO from ho)
                rw [if_pos (wanted_yes (s := 112) rfl rfl rfl (by rw [hf.size]; simp) (((hf.dep ⟨7, .guard⟩ (by simp) rfl).2 112 rfl).trans (hf.dep ⟨7, .guard⟩ (by simp) rfl).1))]
                have q113 : AC.tmps.getD 113 undef = v7 := ((hf.dep ⟨8, .data⟩ (by simp) rfl).2 113 rfl).trans (hf.dep ⟨8, .data⟩ (by simp) rfl).1
                have q114 : AC.tmps.getD 114 undef = .slice ao N.length cap := ((hf.dep ⟨9, .data⟩ (by simp) rfl).2 114 rfl).trans (hf.dep ⟨9, .data⟩ (by simp) rfl).1
                go_simp
                refine (HP2.out WW (below_on HB5.out HB5.out.size hbw)).mono ?_
                rintro e w6 ⟨v6, rfl, ho6, hb6⟩
                exact hK _ _ hb6 ho6.sl
              · obtain rfl := Option.some.inj (show some _ = some oO from ho)
                rw [if_pos (wanted_yes (s := 112) rfl rfl rfl (by rw [hf.size]; simp) (((hf.dep ⟨7, .guard⟩ (by simp) rfl).2 112 rfl).trans (hf.dep ⟨7, .guard⟩ (by simp) rfl).1))]
                have q115 : AC.tmps.getD 115 undef = V 10 := (hf.dep ⟨10, .data⟩ (by simp) rfl).2 115 rfl
                have t10 := (hf.dep ⟨10, .data⟩ (by simp) rfl).1
                exact to_text_op _ rfl _ q115 _ (t10) (hK _ _ (Below.refl _ _) rfl)
              · obtain rfl := Option.some.inj (show some _ = some oO from ho)
                rw [if_pos (wanted_yes (s := 112) rfl rfl rfl (by rw [hf.size]; simp) (((hf.dep ⟨7, .guard⟩ (by simp) rfl).2 112 rfl).trans (hf.dep ⟨7, .guard⟩ (by simp) rfl).1))]
                have q9 : AC.tmps.getD 9 undef = u9 := hf.rest 9 (by kernel_rfl)
                go_simp
                exact hK _ _ (Below.refl _ _) rfl
              · obtain rfl := Option.some.inj (show some _ = some oO from ho)
                rw [if_pos (wanted_yes (s := 112) rfl rfl rfl (by rw [hf.size]; simp) (((hf.dep ⟨7, .guard⟩ (by simp) rfl).2 112 rfl).trans (hf.dep ⟨7, .guard⟩ (by simp) rfl).1))]
                have q117 : AC.tmps.getD 117 undef = u9 := ((hf.dep ⟨12, .data⟩ (by simp) rfl).2 117 rfl).trans (hf.dep ⟨12, .data⟩ (by simp) rfl).1
                exact to_text_op _ rfl _ q117 _ ((S9.out.keeps HB5.out).keeps hbw) (hK _ _ (Below.refl _ _) rfl)
              · obtain rfl := Option.some.inj (show some _ = some oO from ho)
                rw [if_pos (wanted_yes (s := 112) rfl rfl rfl (by rw [hf.size]; simp) (((hf.dep ⟨7, .guard⟩ (by simp) rfl).2 112 rfl).trans (hf.dep ⟨7, .guard⟩ (by simp) rfl).1))]
                have q116 : AC.tmps.getD 116 undef = .string (str A9) := ((hf.dep ⟨11, .data⟩ (by simp) rfl).2 116 rfl).trans (hf.dep ⟨11, .data⟩ (by simp) rfl).1
                have q118 : AC.tmps.getD 118 undef = .string (str A9) := ((hf.dep ⟨13, .data⟩ (by simp) rfl).2 118 rfl).trans (hf.dep ⟨13, .data⟩ (by simp) rfl).1
                go_simp
                exact hK _ _ (Below.refl _ _) rfl
              · obtain rfl := Option.some.inj (show some _ = some oO from ho)
                rw [if_pos (by rfl)]
                have q112 : AC.tmps.getD 112 undef = .bool true := ((hf.dep ⟨7, .data⟩ (by simp) rfl).2 112 rfl).trans (hf.dep ⟨7, .data⟩ (by simp) rfl).1
                have q119 : AC.tmps.getD 119 undef = .bool true := ((hf.dep ⟨14, .data⟩ (by simp) rfl).2 119 rfl).trans (hf.dep ⟨14, .data⟩ (by simp) rfl).1
                go_simp
                exact hK _ _ (Below.refl _ _) rfl
              · obtain rfl := Option.some.inj (show some _ = some oO from ho)
                rw [if_pos (by rfl)]
                have q120 : AC.tmps.getD 120 undef = .bool true := ((hf.dep ⟨15, .data⟩ (by simp) rfl).2 120 rfl).trans (hf.dep ⟨15, .data⟩ (by simp) rfl).1
                go_simp
                exact hK _ _ (Below.refl _ _) rfl
              · obtain rfl := Option.some.inj (show some _ = some oO from ho)
                rw [if_pos (wanted_yes (s := 121) rfl rfl rfl (by rw [hf.size]; simp) (((hf.dep ⟨16, .guard⟩ (by simp) rfl).2 121 rfl).trans (hf.dep ⟨16, .guard⟩ (by simp) rfl).1))]
                have q18 : AC.tmps.getD 18 undef = v18 := hf.rest 18 (by kernel_rfl)
                go_simp
                exact hK _ _ (Below.refl _ _) rfl
              · obtain rfl := Option.some.inj (show some _ = some oO from ho)
                rw [if_pos (wanted_yes (s := 121) rfl rfl rfl (by rw [hf.size]; simp) (((hf.dep ⟨16, .guard⟩ (by simp) rfl).2 121 rfl).trans (hf.dep ⟨16, .guard⟩ (by simp) rfl).1))]
                have q122 : AC.tmps.getD 122 undef = v18 := ((hf.dep ⟨17, .data⟩ (by simp) rfl).2 122 rfl).trans (hf.dep ⟨17, .data⟩ (by simp) rfl).1
                exact to_text_op _ rfl _ q122 _ (S18.out.keeps hbw) (hK _ _ (Below.refl _ _) rfl)
              · obtain rfl := Option.some.inj (show some _ = some oO from ho)
                rw [if_pos (wanted_yes (s := 121) rfl rfl rfl (by rw [hf.size]; simp) (((hf.dep ⟨16, .guard⟩ (by simp) rfl).2 121 rfl).trans (hf.dep ⟨16, .guard⟩ (by simp) rfl).1))]
                have q11 : AC.tmps.getD 11 undef = u11 := hf.rest 11 (by kernel_rfl)
                go_simp
                exact hK _ _ (Below.refl _ _) rfl
              · obtain rfl := Option.some.inj (show some _ = some oO from ho)
                rw [if_pos (wanted_yes (s := 121) rfl rfl rfl (by rw [hf.size]; simp) (((hf.dep ⟨16, .guard⟩ (by simp) rfl).2 121 rfl).trans (hf.dep ⟨16, .guard⟩ (by simp) rfl).1))]
                have q124 : AC.tmps.getD 124 undef = u11 := ((hf.dep ⟨19, .data⟩ (by simp) rfl).2 124 rfl).trans (hf.dep ⟨19, .data⟩ (by simp) rfl).1
                exact to_text_op _ rfl _ q124 _ ((S11.out.keeps HB5.out).keeps hbw) (hK _ _ (Below.refl _ _) rfl)
              · obtain rfl := Option.some.inj (show some _ = some oO from ho)
                rw [if_pos (wanted_yes (s := 121) rfl rfl rfl (by rw [hf.size]; simp) (((hf.dep ⟨16, .guard⟩ (by simp) rfl).2 121 rfl).trans (hf.dep ⟨16, .guard⟩ (by simp) rfl).1))]
                have q123 : AC.tmps.getD 123 undef = .string (str A11) := ((hf.dep ⟨18, .data⟩ (by simp) rfl).2 123 rfl).trans (hf.dep ⟨18, .data⟩ (by simp) rfl).1
                have q125 : AC.tmps.getD 125 undef = .string (str A11) := ((hf.dep ⟨20, .data⟩ (by simp) rfl).2 125 rfl).trans (hf.dep ⟨20, .data⟩ (by simp) rfl).1
                go_simp
                exact hK _ _ (Below.refl _ _) rfl
              · obtain rfl := Option.some.inj (show some _ = some oO from ho)
                rw [if_pos (by rfl)]
                have q121 : AC.tmps.getD 121 undef = .bool true := ((hf.dep ⟨16, .data⟩ (by simp) rfl).2 121 rfl).trans (hf.dep ⟨16, .data⟩ (by simp) rfl).1
                have q126 : AC.tmps.getD 126 undef = .bool true := ((hf.dep ⟨21, .data⟩ (by simp) rfl).2 126 rfl).trans (hf.dep ⟨21, .data⟩ (by simp) rfl).1
                go_simp
                exact hK _ _ (Below.refl _ _) rfl
              · obtain rfl := Option.some.inj (show some _ = some oO from ho)
                rw [if_pos (by rfl)]
                have q127 : AC.tmps.getD 127 undef = .bool true := ((hf.dep ⟨22, .data⟩ (by simp) rfl).2 127 rfl).trans (hf.dep ⟨22, .data⟩ (by simp) rfl).1
                go_simp
                exact hK _ _ (Below.refl _ _) rfl
              · obtain rfl := Option.some.inj (show some _ = some oO from ho)
                rw [if_pos (wanted_yes (s := 128) rfl rfl rfl (by rw [hf.size]; simp) (((hf.dep ⟨23, .guard⟩ (by simp) rfl).2 128 rfl).trans (hf.dep ⟨23, .guard⟩ (by simp) rfl).1))]
                have q19 : AC.tmps.getD 19 undef = .int .i64 0 := hf.rest 19 (by kernel_rfl)
                go_simp
                exact hK _ _ (Below.refl _ _) rfl
              · obtain rfl := Option.some.inj (show some _ = some oO from ho)
                rw [if_pos (wanted_yes (s := 128) rfl rfl rfl (by rw [hf.size]; simp) (((hf.dep ⟨23, .guard⟩ (by simp) rfl).2 128 rfl).trans (hf.dep ⟨23, .guard⟩ (by simp) rfl).1))]
                have q129 : AC.tmps.getD 129 undef = .int .i64 0 := ((hf.dep ⟨24, .data⟩ (by simp) rfl).2 129 rfl).trans (hf.dep ⟨24, .data⟩ (by simp) rfl).1
                go_simp
                exact hK _ _ (Below.refl _ _) rfl
              · obtain rfl := Option.some.inj (show some _ = some oO from ho)
                rw [if_pos (by rfl)]
                have q128 : AC.tmps.getD 128 undef = .bool true := ((hf.dep ⟨23, .data⟩ (by simp) rfl).2 128 rfl).trans (hf.dep ⟨23, .data⟩ (by simp) rfl).1
                have q130 : AC.tmps.getD 130 undef = .bool true := ((hf.dep ⟨25, .data⟩ (by simp) rfl).2 130 rfl).trans (hf.dep ⟨25, .data⟩ (by simp) rfl).1
                go_simp
                exact hK _ _ (Below.refl _ _) rfl
              · obtain rfl := Option.some.inj (show some _ = some oO from ho)
                rw [if_pos (by rfl)]
                have q131 : AC.tmps.getD 131 undef = .bool true := ((hf.dep ⟨26, .data⟩ (by simp) rfl).2 131 rfl).trans (hf.dep ⟨26, .data⟩ (by simp) rfl).1
                go_simp
                exact hK _ _ (Below.refl _ _) rfl
              · obtain rfl := Option.some.inj (show some _ = some oO from ho)
                rw [if_pos (wanted_yes (s := 132) rfl rfl rfl (by rw [hf.size]; simp) (((hf.dep ⟨27, .guard⟩ (by simp) rfl).2 132 rfl).trans (hf.dep ⟨27, .guard⟩ (by simp) rfl).1))]
                have q7 : AC.tmps.getD 7 undef = v7 := hf.rest 7 (by kernel_rfl)
                go_simp
                exact hK _ _ (Below.refl _ _) rfl
              · obtain rfl := Option.some.inj (show some _ = some oO from ho)
                rw [if_pos (wanted_yes (s := 132) rfl rfl rfl (by rw [hf.size]; simp) (((hf.dep ⟨27, .guard⟩ (by simp) rfl).2 132 rfl).trans (hf.dep ⟨27, .guard⟩ (by simp) rfl).1))]
                have q13 : AC.tmps.getD 13 undef = .slice a13 N.length c13 := hf.rest 13 (by kernel_rfl)
                go_simp
                exact hK _ _ (Below.refl _ _) rfl
              · obtain rfl := Option.some.inj (show some _ = some oO from ho)
                rw [if_pos (wanted_yes (s := 132) rfl rfl rfl (by rw [hf.size]; simp) (((hf.dep ⟨27, .guard⟩ (by simp) rfl).2 132 rfl).trans (hf.dep ⟨27, .guard⟩ (by simp) rfl).1))]
                have q133 : AC.tmps.getD 133 undef = v7 := ((hf.dep ⟨28, .data⟩ (by simp) rfl).2 133 rfl).trans (hf.dep ⟨28, .data⟩ (by simp) rfl).1
                have q134 : AC.tmps.getD 134 undef = .slice a13 N.length c13 := ((hf.dep ⟨29, .data⟩ (by simp) rfl).2 134 rfl).trans (hf.dep ⟨29, .data⟩ (by simp) rfl).1
                go_simp
                refine (HP3.out WW (below_on HB5.out HB5.out.size hbw)).mono ?_
                rintro e w6 ⟨v6, rfl, ho6, hb6⟩
                exact hK _ _ hb6 ho6.sl
              · obtain rfl := Option.some.inj (show some _ = some oO from ho)
                rw [if_pos (wanted_yes (s := 132) rfl rfl rfl (by rw [hf.size]; simp) (((hf.dep ⟨27, .guard⟩ (by simp) rfl).2 132 rfl).trans (hf.dep ⟨27, .guard⟩ (by simp) rfl).1))]
                have q135 : AC.tmps.getD 135 undef = V 30 := (hf.dep ⟨30, .data⟩ (by simp) rfl).2 135 rfl
                have t30 := (hf.dep ⟨30, .data⟩ (by simp) rfl).1
                exact to_text_op _ rfl _ q135 _ (t30) (hK _ _ (Below.refl _ _) rfl)
              · obtain rfl := Option.some.inj (show some _ = some oO from ho)
                rw [if_pos (wanted_yes (s := 132) rfl rfl rfl (by rw [hf.size]; simp) (((hf.dep ⟨27, .guard⟩ (by simp) rfl).2 132 rfl).trans (hf.dep ⟨27, .guard⟩ (by simp) rfl).1))]
                have q10 : AC.tmps.getD 10 undef = u10 := hf.rest 10 (by kernel_rfl)
                go_simp
                exact hK _ _ (Below.refl _ _) rfl
              · obtain rfl := Option.some.inj (show some _ = some oO from ho)
                rw [if_pos (wanted_yes (s := 132) rfl rfl rfl (by rw [hf.size]; simp) (((hf.dep ⟨27, .guard⟩ (by simp) rfl).2 132 rfl).trans (hf.dep ⟨27, .guard⟩ (by simp) rfl).1))]
                have q137 : AC.tmps.getD 137 undef = u10 := ((hf.dep ⟨32, .data⟩ (by simp) rfl).2 137 rfl).trans (hf.dep ⟨32, .data⟩ (by simp) rfl).1
                exact to_text_op _ rfl _ q137 _ ((S10.out.keeps HB5.out).keeps hbw) (hK _ _ (Below.refl _ _) rfl)
              · obtain rfl := Option.some.inj (show some _ = some oO from ho)
                rw [if_pos (wanted_yes (s := 132) rfl rfl rfl (by rw [hf.size]; simp) (((hf.dep ⟨27, .guard⟩ (by simp) rfl).2 132 rfl).trans (hf.dep ⟨27, .guard⟩ (by simp) rfl).1))]
                have q136 : AC.tmps.getD 136 undef = .string (str A10) := ((hf.dep ⟨31, .data⟩ (by simp) rfl).2 136 rfl).trans (hf.dep ⟨31, .data⟩ (by simp) rfl).1
                have q138 : AC.tmps.getD 138 undef = .string (str A10) := ((hf.dep ⟨33, .data⟩ (by simp) rfl).2 138 rfl).trans (hf.dep ⟨33, .data⟩ (by simp) rfl).1
                go_simp
                exact hK _ _ (Below.refl _ _) rfl
              · obtain rfl := Option.some.inj (show some _ = some oO from ho)
                rw [if_pos (by rfl)]
                have q132 : AC.tmps.getD 132 undef = .bool true := ((hf.dep ⟨27, .data⟩ (by simp) rfl).2 132 rfl).trans (hf.dep ⟨27, .data⟩ (by simp) rfl).1
                have q139 : AC.tmps.getD 139 undef = .bool true := ((hf.dep ⟨34, .data⟩ (by simp) rfl).2 139 rfl).trans (hf.dep ⟨34, .data⟩ (by simp) rfl).1
                go_simp
                exact hK _ _ (Below.refl _ _) rfl
              · obtain rfl := Option.some.inj (show some _ = some oO from ho)
                rw [if_pos (by rfl)]
                have q140 : AC.tmps.getD 140 undef = .bool true := ((hf.dep ⟨35, .data⟩ (by simp) rfl).2 140 rfl).trans (hf.dep ⟨35, .data⟩ (by simp) rfl).1
                go_simp
                exact hK _ _ (Below.refl _ _) rfl
              · obtain rfl := Option.some.inj (show some _ = some oO from ho)
                rw [if_pos (wanted_yes (s := 141) rfl rfl rfl (by rw [hf.size]; simp) (((hf.dep ⟨36, .guard⟩ (by simp) rfl).2 141 rfl).trans (hf.dep ⟨36, .guard⟩ (by simp) rfl).1))]
                have q7 : AC.tmps.getD 7 undef = v7 := hf.rest 7 (by kernel_rfl)
                go_simp
                exact hK _ _ (Below.refl _ _) rfl
              · obtain rfl := Option.some.inj (show some _ = some oO from ho)
                rw [if_pos (wanted_yes (s := 141) rfl rfl rfl (by rw [hf.size]; simp) (((hf.dep ⟨36, .guard⟩ (by simp) rfl).2 141 rfl).trans (hf.dep ⟨36, .guard⟩ (by simp) rfl).1))]
                have q142 : AC.tmps.getD 142 undef = v7 := ((hf.dep ⟨37, .data⟩ (by simp) rfl).2 142 rfl).trans (hf.dep ⟨37, .data⟩ (by simp) rfl).1
                exact to_text_op _ rfl _ q142 _ ((S7.out.keeps HB5.out).keeps hbw) (hK _ _ (Below.refl _ _) rfl)
              · obtain rfl := Option.some.inj (show some _ = some oO from ho)
                rw [if_pos (wanted_yes (s := 141) rfl rfl rfl (by rw [hf.size]; simp) (((hf.dep ⟨36, .guard⟩ (by simp) rfl).2 141 rfl).trans (hf.dep ⟨36, .guard⟩ (by simp) rfl).1))]
                have q0 : AC.tmps.getD 0 undef = .slice fo F.length fcap := hf.rest 0 (by kernel_rfl)
                go_simp
                exact hK _ _ (Below.refl _ _) rfl
              · obtain rfl := Option.some.inj (show some _ = some oO from ho)
                rw [if_pos (wanted_yes (s := 141) rfl rfl rfl (by rw [hf.size]; simp) (((hf.dep ⟨36, .guard⟩ (by simp) rfl).2 141 rfl).trans (hf.dep ⟨36, .guard⟩ (by simp) rfl).1))]
                have q144 : AC.tmps.getD 144 undef = .slice fo F.length fcap := ((hf.dep ⟨39, .data⟩ (by simp) rfl).2 144 rfl).trans (hf.dep ⟨39, .data⟩ (by simp) rfl).1
                exact to_text_op _ rfl _ q144 _ ((S0.out.keeps HB5.out).keeps hbw) (hK _ _ (Below.refl _ _) rfl)
              · obtain rfl := Option.some.inj (show some _ = some oO from ho)
                rw [if_pos (wanted_yes (s := 141) rfl rfl rfl (by rw [hf.size]; simp) (((hf.dep ⟨36, .guard⟩ (by simp) rfl).2 141 rfl).trans (hf.dep ⟨36, .guard⟩ (by simp) rfl).1))]
                have q143 : AC.tmps.getD 143 undef = .string (str F) := ((hf.dep ⟨38, .data⟩ (by simp) rfl).2 143 rfl).trans (hf.dep ⟨38, .data⟩ (by simp) rfl).1
                have q145 : AC.tmps.getD 145 undef = .string (str F) := ((hf.dep ⟨40, .data⟩ (by simp) rfl).2 145 rfl).trans (hf.dep ⟨40, .data⟩ (by simp) rfl).1
                go_simp
                exact hK _ _ (Below.refl _ _) rfl
              · obtain rfl := Option.some.inj (show some _ = some oO from ho)
                rw [if_pos (by rfl)]
                have q141 : AC.tmps.getD 141 undef = .bool true := ((hf.dep ⟨36, .data⟩ (by simp) rfl).2 141 rfl).trans (hf.dep ⟨36, .data⟩ (by simp) rfl).1
                have q146 : AC.tmps.getD 146 undef = .bool true := ((hf.dep ⟨41, .data⟩ (by simp) rfl).2 146 rfl).trans (hf.dep ⟨41, .data⟩ (by simp) rfl).1
                go_simp
                exact hK _ _ (Below.refl _ _) rfl
              · obtain rfl := Option.some.inj (show some _ = some oO from ho)
                rw [if_pos (by rfl)]
                have q147 : AC.tmps.getD 147 undef = .bool true := ((hf.dep ⟨42, .data⟩ (by simp) rfl).2 147 rfl).trans (hf.dep ⟨42, .data⟩ (by simp) rfl).1
                go_simp
                exact hK _ _ (Below.refl _ _) rfl
              · omega
            · intro V WW hall hbw hBW
              have vv0 : V 0 = v7 := hall 0 (by decide)
              have vv1 : V 1 = .slice a12 N.length c12 := hall 1 (by decide)
              have vv2 : SlB WW (V 2) A8 := hall 2 (by decide)
              have vv3 : V 3 = .string (str A8) := hall 3 (by decide)
              have vv4 : V 4 = u8 := hall 4 (by decide)
              have vv5 : V 5 = .string (str A8) := hall 5 (by decide)
              have vv6 : V 6 = .bool true := hall 6 (by decide)
              have vv7 : V 7 = .bool true := hall 7 (by decide)
              have vv8 : V 8 = v7 := hall 8 (by decide)
              have vv9 : V 9 = .slice ao N.length cap := hall 9 (by decide)
              have vv10 : SlB WW (V 10) A9 := hall 10 (by decide)
              have vv11 : V 11 = .string (str A9) := hall 11 (by decide)
              have vv12 : V 12 = u9 := hall 12 (by decide)
              have vv13 : V 13 = .string (str A9) := hall 13 (by decide)
              have vv14 : V 14 = .bool true := hall 14 (by decide)
              have vv15 : V 15 = .bool true := hall 15 (by decide)
              have vv16 : V 16 = .bool true := hall 16 (by decide)
              have vv17 : V 17 = v18 := hall 17 (by decide)
              have vv18 : V 18 = .string (str A11) := hall 18 (by decide)
              have vv19 : V 19 = u11 := hall 19 (by decide)
              have vv20 : V 20 = .string (str A11) := hall 20 (by decide)
              have vv21 : V 21 = .bool true := hall 21 (by decide)
              have vv22 : V 22 = .bool true := hall 22 (by decide)
              have vv23 : V 23 = .bool true := hall 23 (by decide)
              have vv24 : V 24 = .int .i64 0 := hall 24 (by decide)
              have vv25 : V 25 = .bool true := hall 25 (by decide)
              have vv26 : V 26 = .bool true := hall 26 (by decide)
              have vv27 : V 27 = .bool true := hall 27 (by decide)
              have vv28 : V 28 = v7 := hall 28 (by decide)
              have vv29 : V 29 = .slice a13 N.length c13 := hall 29 (by decide)
              have vv30 : SlB WW (V 30) A10 := hall 30 (by decide)
              have vv31 : V 31 = .string (str A10) := hall 31 (by decide)
              have vv32 : V 32 = u10 := hall 32 (by decide)
              have vv33 : V 33 = .string (str A10) := hall 33 (by decide)
              have vv34 : V 34 = .bool true := hall 34 (by decide)
              have vv35 : V 35 = .bool true := hall 35 (by decide)
              have vv36 : V 36 = .bool true := hall 36 (by decide)
              have vv37 : V 37 = v7 := hall 37 (by decide)
              have vv38 : V 38 = .string (str F) := hall 38 (by decide)
              have vv39 : V 39 = .slice fo F.length fcap := hall 39 (by decide)
              have vv40 : V 40 = .string (str F) := hall 40 (by decide)
              have vv41 : V 41 = .bool true := hall 41 (by decide)
              have vv42 : V 42 = .bool true := hall 42 (by decide)
              have vv43 : V 43 = .bool true := hall 43 (by decide)
              clear hall
              simp only [pairsOf, laid, Nat.zero_add, Nat.reduceAdd, vv0, vv1, vv3, vv4, vv5, vv6, vv7, vv8, vv9, vv11, vv12, vv13, vv14, vv15, vv16, vv17, vv18, vv19, vv20, vv21, vv22, vv23, vv24, vv25, vv26, vv27, vv28, vv29, vv31, vv32, vv33, vv34, vv35, vv36, vv37, vv38, vv39, vv40, vv41, vv42, vv43, List.setIfInBounds_toArray, List.set_cons_zero, List.set_cons_succ]
              clear vv0 vv1 vv3 vv4 vv5 vv6 vv7 vv8 vv9 vv11 vv12 vv13 vv14 vv15 vv16 vv17 vv18 vv19 vv20 vv21 vv22 vv23 vv24 vv25 vv26 vv27 vv28 vv29 vv31 vv32 vv33 vv34 vv35 vv36 vv37 vv38 vv39 vv40 vv41 vv42 vv43

              go_wp2
              go_ret
              exact ⟨rfl, hBW⟩
  · go_enter Try.func5, Try.ntmps5
    go_wp2_with fail
    refine (alive_any _).mono ?_
    rintro e w1 ⟨rfl, hb1⟩
    go_wp2
    all_goals (go_ret; exact ⟨rfl, hb1⟩)
end Go.Proofs.Ytoafkjilkfohjaa
