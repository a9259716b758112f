/-
  The walk of the law PackBack: it answers true at every input.
-/
import Derived.Test.YtoafkjilkfohjaaPkAlive
import Derived.Test.YtoafkjilkfohjaaTake
set_option linter.unusedVariables false
set_option linter.unusedSimpArgs false
namespace Go.Proofs.Ytoafkjilkfohjaa
open Go.RowKit

theorem sl_grown {w w' : World} {r : Nat} {v : Value} {L M : List UInt8} {f : Bool} (hr : RdAt w r M f) (h : SlB w v L) (hg : w.grownBy w' (some r)) : SlB w' v L := by
  obtain ⟨xo, xc, hB, _⟩ := hr
  obtain ⟨ao, c, e, hs⟩ := h
  refine ⟨ao, c, e, hs.len, hs.room, hs.nil, fun hne => ?_⟩
  obtain ⟨b, off, e', hbr, hc⟩ := rd_apart hB (n := L.length) hs hne
  refine ⟨b, off, e', fun j u hu => ?_⟩
  exact hg.cell (hc j u hu) (by simpa using hbr)
theorem encs_drop {N : List Nat} {k n : Nat} (h : N[k]? = some n) : encs (N.drop k) = enc n ++ encs (N.drop (k + 1)) := by
  obtain ⟨hk, rfl⟩ := List.getElem?_eq_some_iff.1 h
  rw [List.drop_eq_getElem_cons hk, encs, List.flatMap_cons]; rfl
theorem txts_drop {N : List ByteArray} {k : Nat} {s : ByteArray} (h : N[k]? = some s) : txts (N.drop k) = txt s ++ txts (N.drop (k + 1)) := by
  obtain ⟨hk, rfl⟩ := List.getElem?_eq_some_iff.1 h
  rw [List.drop_eq_getElem_cons hk, txts, List.flatMap_cons]; rfl
theorem own_grown {w w' w0 : World} {r B : Nat} (hb : Below B w0 w) (hB : B ≤ w0.heap.size) (hr : B ≤ r) (hg : w.grownBy w' (some r)) : Below B w0 w' :=
  hb.grown hg (Nat.le_trans hB hb.size) (fun k hk => by cases hk; exact hr)
set_option maxRecDepth 8000 in
set_option maxHeartbeats 1600000 in
theorem back_law (ao : Option Addr) (cap : Nat) (N : List Int) (hw : ∀ x ∈ N, (Lit.int .i64 x).wf = true) (so : Option Addr) (scap : Nat) (S : List ByteArray) (cut : Int) (w : World)
    (hN : Sl w ao N.length cap (ic N)) (hS : Sl w so S.length scap (sc S)) :
    Calls Try.prog 7 #[.slice ao N.length cap, .slice so S.length scap, .int .i64 cut] w fun e w' => e = .returned (.bool true) ∧ Below w.heap.size w w' := by
  have hb64 : ∀ n ∈ N, -9223372036854775808 ≤ n ∧ n ≤ 9223372036854775807 := by
    intro n hn
    have := hw n hn
    simp [Lit.wf, IntKind.min, IntKind.max, IntKind.signed, IntKind.bits] at this
    exact this
  clear hw
  by_cases hl : N.length ≤ 50 ∧ S.length ≤ 20
  · obtain ⟨hl1, hl2⟩ := hl
    go_enter Try.func7, Try.ntmps7
    go_wp2_with fail
    refine (alive_any _).mono ?_
    rintro e w1 ⟨rfl, hb1⟩
    have HB1 := Lib.hid hb1
    have HI := Lib.hid (pint_any w1 (.slice none 0 0) [] (own_nil _ 0).sl ao cap N (hN.keeps hb1) hb64 (by simp; omega))
    clear hb1
    go_wp2_with fail
    refine HI.out.mono ?_
    rintro e w2 ⟨v2, rfl, ho2, hb2⟩
    have hel := encs_len (N := N.map zig) (by
      intro m hm
      obtain ⟨n, hn, rfl⟩ := List.mem_map.1 hm
      exact zig_lt (hb64 n hn).1 (hb64 n hn).2)
    rw [List.length_map] at hel
    rw [List.nil_append] at ho2
    have HB2 := Lib.hid (below_on HB1.out HB1.out.size hb2)
    have HT := Lib.hid (ptext_any w2 v2 _ ho2.sl so scap S (hS.keeps HB2.out) (by omega))
    clear hb2 ho2 HI
    go_wp2_with fail
    refine HT.out.mono ?_
    rintro e w3 ⟨v3, rfl, ho3, hb3⟩
    have HB3 := Lib.hid (below_on HB2.out HB2.out.size hb3)
    clear hb3
    by_cases hall : ∀ s ∈ S, s.size ≤ 65536
    · rw [putT_ok hall] at ho3 ⊢
      have htl := txts_len hall
      obtain ⟨B, hBdef⟩ : ∃ B, encs (N.map zig) ++ txts S = B := ⟨_, rfl⟩
      have hBl : B.length ≤ 10000000 := by rw [← hBdef, List.length_append]; omega
      simp only at ho3 ⊢
      rw [hBdef] at ho3
      have HBD := Lib.hid hBdef
      have HV3 := Lib.hid ho3.sl
      have HN := Lib.hid (new_any w3 v3 B ho3.sl (by omega))
      clear ho3 HT hBdef
      go_wp2_with fail
      refine HN.out.mono ?_
      rintro e w4 ⟨r, rfl, hr, hrl, hb4⟩
      have HRL : Hid (w.heap.size ≤ r) := Nat.le_trans HB3.out.size hrl
      have HB4 := Lib.hid (below_on HB3.out HB3.out.size hb4)
      have HV4 := Lib.hid (HV3.out.keeps hb4)
      have HR4 := Lib.hid hr
      clear hrl hb4 hr HN HV3
      go_wp2
      go_loopw [38] (fun i wr => ∃ k : Nat, k ≤ N.length ∧ i = .int .i64 k ∧ RdAt wr r (encs ((N.map zig).drop k) ++ txts S) false ∧ SlB wr v3 B ∧ Below w.heap.size w wr) (fun i _ => N.length - (intOf i).toNat)
      case atStart => exact ⟨0, by omega, rfl, by rw [List.drop_zero, HBD.out]; exact HR4.out, HV4.out, HB4.out⟩
      case round =>
        obtain ⟨k, hk, rfl, hr, hv, hb⟩ := hrel
        by_cases hkl : k < N.length
        · obtain ⟨n, hn⟩ : ∃ n, N[k]? = some n := ⟨_, List.getElem?_eq_getElem hkl⟩
          obtain ⟨n0, n1⟩ := hb64 n (List.mem_of_getElem? hn)
          have hz : (N.map zig)[k]? = some (zig n) := by rw [List.getElem?_map, hn]; rfl
          have hri := rint_any wr r _ _ hr
          rw [encs_drop hz, List.append_assoc, rdN_some (rdS_of_enc0 (zig n) (zig_lt n0 n1) _)] at hri
          simp only [back_zig] at hri
          have HRI := Lib.hid hri
          have HNk := Lib.hid hn
          have hNw := hN.keeps hb
          have HV := Lib.hid hv
          have HBw := Lib.hid hb
          have HR := Lib.hid hr
          clear hri hz hn hr hv hb
          go_wp2_with (first | (refine wpList_ix_sl rfl 34 2 _ _ rfl Try.underlying34 size_i64 ao N.length cap rfl (ic N) hNw k hkl rfl ?_; intro b off u hu hcell; obtain rfl : u = .int .i64 n := by (simp [ic, HNk.out] at hu; exact hu.symm)))
          refine HRI.out.mono ?_
          rintro e w5 ⟨rfl, h1, hg⟩
          have HX : Hid (RdAt w5 r (encs ((N.map zig).drop (k + 1)) ++ txts S) false ∧ SlB w5 v3 B ∧ Below w.heap.size w w5) := ⟨h1, sl_grown HR.out HV.out hg, own_grown HBw.out (Nat.le_refl _) HRL.out hg⟩
          clear h1 hg HRI hNw hcell
          go_wp2
          go_roundw
          · exact ⟨k + 1, by omega, by go_num, HX.out⟩
          · simp [intOf]; omega
        · rw [List.drop_of_length_le (by rw [List.length_map]; omega)] at hr
          have HR4 : Hid (RdAt wr r (txts S) false) := hr
          have HV4 := Lib.hid hv
          have HB4 := Lib.hid hb
          clear hr hv hb
          go_wp2
          go_loopw [49] (fun i wr => ∃ k : Nat, k ≤ S.length ∧ i = .int .i64 k ∧ RdAt wr r (txts (S.drop k)) false ∧ SlB wr v3 B ∧ Below w.heap.size w wr) (fun i _ => S.length - (intOf i).toNat)
          case atStart => exact ⟨0, by omega, rfl, by rw [List.drop_zero]; exact HR4.out, HV4.out, HB4.out⟩
          case round =>
            obtain ⟨k, hk, rfl, hr, hv, hb⟩ := hrel
            by_cases hkl : k < S.length
            · obtain ⟨s, hs⟩ : ∃ s, S[k]? = some s := ⟨_, List.getElem?_eq_getElem hkl⟩
              have hri := rtext_any wr r _ _ hr
              rw [txts_drop hs, rdT_txt (hall s (List.mem_of_getElem? hs)), str_toList] at hri
              have HRI := Lib.hid hri
              have HNk := Lib.hid hs
              have hSw := hS.keeps hb
              have HV := Lib.hid hv
              have HBw := Lib.hid hb
              have HR := Lib.hid hr
              clear hri hs hr hv hb
              go_wp2_with (first | (refine wpList_ix_sl rfl 35 9 _ _ rfl Try.underlying35 size_str so S.length scap rfl (sc S) hSw k hkl rfl ?_; intro b off u hu hcell; obtain rfl : u = .string s := by (simp [sc, HNk.out] at hu; exact hu.symm)))
              refine HRI.out.mono ?_
              rintro e w5 ⟨rfl, h1, hg⟩
              have HX : Hid (RdAt w5 r (txts (S.drop (k + 1))) false ∧ SlB w5 v3 B ∧ Below w.heap.size w w5) := ⟨h1, sl_grown HR.out HV.out hg, own_grown HBw.out (Nat.le_refl _) HRL.out hg⟩
              clear h1 hg HRI hSw hcell
              go_wp2
              go_roundw
              · exact ⟨k + 1, by omega, by go_num, HX.out⟩
              · simp [intOf]; omega
            · rw [List.drop_of_length_le (by omega)] at hr
              have HE := Lib.hid (ended_any wr r _ _ hr)
              have HBw := Lib.hid hb
              obtain ⟨bo, bcap, rfl, hbs⟩ := hv
              have HV : Hid (SlB wr (.slice bo B.length bcap) B) := ⟨_, _, rfl, hbs⟩
              clear hr hb hbs
              by_cases hcut : 0 ≤ cut ∧ cut < B.length
              · obtain ⟨c, hc⟩ : ∃ c : Nat, cut = (c : Int) := ⟨cut.toNat, by omega⟩
                obtain ⟨hc0, hc1⟩ := hcut
                subst hc
                go_wp2_with fail
                refine HE.out.mono ?_
                rintro e w5 ⟨rfl, rfl⟩
                go_wp2_with (refine cut_to rfl _ _ rfl _ rfl B HV.out c (by omega) rfl ?_; intro a1 c1 hs1)
                have HN2 := Lib.hid (new_any w5 (.slice a1 (min c B.length) c1) (B.take c) ⟨a1, c1, by rw [List.length_take], hs1⟩ (by rw [List.length_take]; omega))
                have HCT : Hid (Cut (B.take c) false (encs ((N.map zig).drop 0) ++ txts S)) := .inr ⟨rfl, B.drop c, by
                  intro h0
                  have := congrArg List.length h0
                  simp at this; omega, by rw [List.take_append_drop, List.drop_zero, HBD.out]⟩
                clear hs1 HE HV
                refine HN2.out.mono ?_
                rintro e w6 ⟨r2, rfl, hr, hrl, hb6⟩
                have HRL2 : Hid (w.heap.size ≤ r2) := Nat.le_trans HBw.out.size hrl
                have HB6 := Lib.hid (below_on HBw.out HBw.out.size hb6)
                have HR6 := Lib.hid hr
                clear hrl hb6 hr HN2
                go_wp2
                go_loopw [75] (fun i wr => ∃ k : Nat, ∃ P f, k ≤ N.length ∧ i = .int .i64 k ∧ RdAt wr r2 P f ∧ Cut P f (encs ((N.map zig).drop k) ++ txts S) ∧ Below w.heap.size w wr) (fun i _ => N.length - (intOf i).toNat)
                case atStart => exact ⟨0, _, _, by omega, rfl, HR6.out, HCT.out, HB6.out⟩
                case round =>
                  obtain ⟨k, P, f, hk, rfl, hr, hcu, hb⟩ := hrel
                  by_cases hkl : k < N.length
                  · obtain ⟨n, hn⟩ : ∃ n, N[k]? = some n := ⟨_, List.getElem?_eq_getElem hkl⟩
                    obtain ⟨n0, n1⟩ := hb64 n (List.mem_of_getElem? hn)
                    have hz : (N.map zig)[k]? = some (zig n) := by rw [List.getElem?_map, hn]; rfl
                    have HRI := Lib.hid (rint_any wr r2 _ _ hr)
                    rw [encs_drop hz, List.append_assoc] at hcu
                    have HCU := Lib.hid (cut_int (zig_lt n0 n1) hcu)
                    have HBw := Lib.hid hb
                    clear hz hn hr hcu hb
                    go_wp2_with fail
                    refine HRI.out.mono ?_
                    rintro e w7 ⟨rfl, h1, hg⟩
                    have HX : Hid (RdAt w7 r2 (rdN P f).2.1 (rdN P f).2.2 ∧ Below w.heap.size w w7) := ⟨h1, own_grown HBw.out (Nat.le_refl _) HRL2.out hg⟩
                    clear h1 hg HRI
                    go_wp2
                    go_roundw
                    · exact ⟨k + 1, _, _, by omega, by go_num, HX.out.1, HCU.out, HX.out.2⟩
                    · simp [intOf]; omega
                  · rw [List.drop_of_length_le (by rw [List.length_map]; omega)] at hcu
                    have HCT : Hid (Cut P f (txts (S.drop 0))) := by rw [List.drop_zero]; exact hcu
                    have HB6 := Lib.hid hb
                    have HR6 := Lib.hid hr
                    clear hr hcu hb
                    go_wp2
                    go_loopw [82] (fun i wr => ∃ k : Nat, ∃ P f, k ≤ S.length ∧ i = .int .i64 k ∧ RdAt wr r2 P f ∧ Cut P f (txts (S.drop k)) ∧ Below w.heap.size w wr) (fun i _ => S.length - (intOf i).toNat)
                    case atStart => exact ⟨0, _, _, by omega, rfl, HR6.out, HCT.out, HB6.out⟩
                    case round =>
                      obtain ⟨k, P, f, hk, rfl, hr, hcu, hb⟩ := hrel
                      by_cases hkl : k < S.length
                      · obtain ⟨s, hs⟩ : ∃ s, S[k]? = some s := ⟨_, List.getElem?_eq_getElem hkl⟩
                        have HRI := Lib.hid (rtext_any wr r2 _ _ hr)
                        rw [txts_drop hs] at hcu
                        have HCU := Lib.hid (cut_text (hall s (List.mem_of_getElem? hs)) hcu)
                        have HBw := Lib.hid hb
                        clear hs hr hcu hb
                        go_wp2_with fail
                        refine HRI.out.mono ?_
                        rintro e w7 ⟨rfl, h1, hg⟩
                        have HX : Hid (RdAt w7 r2 (rdT P f).2.1 (rdT P f).2.2 ∧ Below w.heap.size w w7) := ⟨h1, own_grown HBw.out (Nat.le_refl _) HRL2.out hg⟩
                        clear h1 hg HRI
                        go_wp2
                        go_roundw
                        · exact ⟨k + 1, _, _, by omega, by go_num, HX.out.1, HCU.out, HX.out.2⟩
                        · simp [intOf]; omega
                      · rw [List.drop_of_length_le (by omega)] at hcu
                        obtain ⟨rfl, rfl⟩ := cut_end hcu
                        have HE := Lib.hid (ended_any wr r2 _ _ hr)
                        have HL := Lib.hid (left_any wr r2 _ _ hr)
                        have HBw := Lib.hid hb
                        clear hr hcu hb
                        go_wp2_with fail
                        refine HE.out.mono ?_
                        rintro e w7 ⟨rfl, rfl⟩
                        go_wp2_with fail
                        refine HL.out.mono ?_
                        rintro e w7 ⟨rfl, rfl⟩
                        go_wp2
                        go_ret
                        exact ⟨rfl, HBw.out⟩
              · go_wp2_with fail
                refine HE.out.mono ?_
                rintro e w5 ⟨rfl, rfl⟩
                go_wp2
                all_goals (go_ret; exact ⟨rfl, HBw.out⟩)
    · obtain ⟨s, hs, h65⟩ : ∃ s ∈ S, ¬ s.size ≤ 65536 := by
        apply Classical.byContradiction
        intro hno
        exact hall fun s hs => Classical.byContradiction fun h => hno ⟨s, hs, h⟩
      rw [putT_bad hs h65] at ho3 ⊢
      go_wp2
      go_ret
      exact ⟨rfl, HB3.out⟩
  · go_enter Try.func7, Try.ntmps7
    go_wp2_with fail
    refine (alive_any _).mono ?_
    rintro e w1 ⟨rfl, hb1⟩
    go_wp2
    all_goals (go_ret; exact ⟨rfl, hb1⟩)
end Go.Proofs.Ytoafkjilkfohjaa
