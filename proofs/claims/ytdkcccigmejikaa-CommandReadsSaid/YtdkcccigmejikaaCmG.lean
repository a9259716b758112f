/-
  Commands: the walk of the reference's Bytes.
-/
import Derived.Test.YtdkcccigmejikaaCmE
import Derived.Test.YtdkcccigmejikaaCmF
set_option linter.unusedVariables false
set_option linter.unusedSimpArgs false
set_option maxRecDepth 20000
namespace Go.Proofs.Ytdkcccigmejikaa
open Go.RowKit

def Cm.O (c : Cm) (v : Value) : List Value := [v, .int .i64 c.x0, .int .i64 c.x1, .int .i64 c.x2, .int .i64 c.x3, .int .i64 c.x4, .int .i64 c.x5, .int .i64 c.x6, .int .i64 c.x7, .int .i64 c.x8, .int .i64 c.x9, .int .i64 c.x10]
theorem info_opn : (Try.prog.info? 41).map (·.size) = some 12 := by kernel_rfl
section
variable {ops : Array Oper} {rest : List Oper} {op : Oper} {a : Act} {w : World} {Q : Exit → Act → World → Prop}
theorem ld_opn (hgd : op.guard = none) (x : Operand) (ho : op.op = .load 41 x) (b o : Nat) (hx : a.eval x = .pointer (some ⟨b, o, none⟩)) (c : Cm) (v : Value) (hc : w.rangeAt b o (c.O v))
    (h : wpList Try.prog ops Q rest (a.put op.dst (.agg (c.O v).toArray)) w) : wpList Try.prog ops Q (op :: rest) a w :=
  wpList_load_mid hgd _ x ho b o hx (c.O v) _ hc Try.underlying41 rfl info_opn h
end
theorem Blk.opn {w : World} {b T : Nat} {c : Cm} {v : Value} (h : Blk w b T (c.C v)) : w.rangeAt b 6 (c.O v) := h.rangeMid 6 12
theorem rnumbers_c (w : World) (ao : Option Addr) (cap : Nat) (c : Cm) :
    Calls Try.prog 37 #[.agg (c.O (.slice ao c.L.length cap)).toArray] w fun e w' => ∃ q, e = .returned (.slice (some ⟨q, 0, none⟩) 11 11) ∧ Sl w' (some ⟨q, 0, none⟩) 11 11 (ic [c.x0, c.x1, c.x2, c.x3, c.x4, c.x5, c.x6, c.x7, c.x8, c.x9, c.x10]) ∧ Below w.heap.size w w' :=
  rnumbers_any w ao cap c.L c.x0 c.x1 c.x2 c.x3 c.x4 c.x5 c.x6 c.x7 c.x8 c.x9 c.x10
set_option maxHeartbeats 6400000 in
theorem rbytes_any (w : World) (ao : Option Addr) (cap : Nat) (c : Cm) (h : Sl w ao c.L.length cap (ic c.L)) (hw : c.wf) (hl : c.L.length ≤ 1000000000) (s : List UInt8 × Int) (hs : c.bytes = s) :
    Calls Try.prog 16 #[.agg (c.C (.slice ao c.L.length cap)).toArray] w fun e w' => ∃ v', e = .returned (.tuple #[v', .int .i64 s.2]) ∧ OwB w' w.heap.size v' s.1 ∧ Below w.heap.size w w' := by
  obtain ⟨r, hr⟩ : ∃ r, c.right = r := ⟨_, rfl⟩
  have HR := Lib.hid (fun U => rright22_any U ao cap c r hr hl)
  have hrn := fun e : r = true => right_nums (hr.trans e)
  have hs2 : (if r = true then (c.enc, 0) else ([], 221)) = s := by rw [← hs, Cm.bytes, hr]
  obtain ⟨w6, wl, w11, w5⟩ := hw
  have HW5 : Hid (∀ x ∈ [c.lo, c.a, c.b, c.n, c.p], in64 x) := fun x hx => w6 x (List.mem_cons_of_mem _ hx)
  have HW3 : Hid (∀ x ∈ [c.f1, c.f2, c.f3], in64 x) := fun x hx => w5 x (by simp only [Cm.F, List.mem_cons, List.not_mem_nil, or_false] at hx ⊢; rcases hx with rfl | rfl | rfl <;> simp)
  have HWL := Lib.hid wl
  have HW11 : Hid (∀ x ∈ [c.x0, c.x1, c.x2, c.x3, c.x4, c.x5, c.x6, c.x7, c.x8, c.x9, c.x10], in64 x) := w11
  have HS := Lib.hid hs2
  have HB0 := Lib.hid (below_new1 w (.cells (c.C (.slice ao c.L.length cap)).toArray 45))
  have HG0 := Lib.hid (Blk.new w 45 (c.C (.slice ao c.L.length cap)))
  have HL0 := Lib.hid (h.keeps (below_new1 w (.cells (c.C (.slice ao c.L.length cap)).toArray 45)))
  clear hs2 h w6 wl w11 w5 hr hs
  go_enter Try.func16, Try.ntmps16
  go_wp2_with (first | (refine ld_cm rfl _ rfl w.heap.size 0 rfl c (.slice ao c.L.length cap) HG0.out.range ?_) | fail)
  refine (HR.out _).mono ?_
  rintro e w2 ⟨rfl, hb2⟩
  have HB2 := Lib.hid (below_on HB0.out HB0.out.size hb2)
  have HG2 := Lib.hid (HG0.out.keeps hb2)
  have HL2 := Lib.hid (HL0.out.keeps hb2)
  clear hb2 HR HB0 HG0 HL0
  cases r with
  | false =>
    obtain rfl : s = ([], 221) := HS.out.symm
    clear HS
    go_wp2
    exact bodyPost_ret (v := .tuple #[.slice none 0 0, .int .i64 221]) (by simp [results, Try.results16, go_sem]) rfl ⟨_, rfl, own_nil _ _, HB2.out⟩
  | true =>
    obtain ⟨k0, k1, kL⟩ := hrn rfl
    obtain ⟨kn, hk⟩ := Int.eq_ofNat_of_zero_le (show 0 ≤ c.k by omega)
    have HK : Hid (c.k = (kn : Int)) := hk
    have hS : (encs [kn] ++ encs ([c.lo, c.a, c.b, c.n, c.p].map zig) ++ (if (kn : Int) = 1 then encs [c.L.length] ++ encs (c.L.map zig) ++ encs ([c.x0, c.x1, c.x2, c.x3, c.x4, c.x5, c.x6, c.x7, c.x8, c.x9, c.x10].map zig) else []) ++ (if (kn : Int) = 15 then encs ([c.f1, c.f2, c.f3].map zig) else []), (0 : Int)) = s := by
      rw [← HS.out, if_pos rfl, Cm.enc, hk, Int.toNat_natCast]; rfl
    have e1 : ∀ n : Nat, encs [n] = enc n := fun n => by simp [encs]
    rw [e1] at hS
    obtain ⟨Z, hZ⟩ : ∃ Z, enc kn ++ encs ([c.lo, c.a, c.b, c.n, c.p].map zig) ++ (if (kn : Int) = 1 then encs [c.L.length] ++ encs (c.L.map zig) ++ encs ([c.x0, c.x1, c.x2, c.x3, c.x4, c.x5, c.x6, c.x7, c.x8, c.x9, c.x10].map zig) else []) ++ (if (kn : Int) = 15 then encs ([c.f1, c.f2, c.f3].map zig) else []) = Z := ⟨_, rfl⟩
    rw [hZ] at hS
    have HZ := Lib.hid hZ
    have HE1 := Lib.hid e1
    have kn1 : 1 ≤ kn := by omega
    have kn25 : kn ≤ 25 := by omega
    subst hS
    have HNk := Lib.hid (fun U => rnum6_any kn (by omega) U)
    have HNl := Lib.hid (fun U => rnum6_any c.L.length (by omega) U)
    have HQ2 := Lib.hid (Below.refl w2.heap.size w2)
    clear HS hrn hZ hk k0 k1 e1
    have c0 : w2.cell? ⟨w.heap.size, 0, none⟩ = some (.int .i64 (kn : Int)) := by rw [← HK.out]; exact HG2.out.cell 0 _ rfl
    go_wp2_with fail
    refine (HNk.out _).mono ?_
    rintro e w3 ⟨v3, rfl, ho3, hb3⟩
    have HQ3 := Lib.hid hb3
    have HN3 : Hid ((enc kn).length ≤ 10) := enc_len64 kn (by omega)
    obtain ⟨B3, hB⟩ : ∃ B, enc kn = B := ⟨_, rfl⟩
    rw [hB] at ho3 HN3
    have HF3 := Lib.hid hB
    have HO3 := Lib.hid ho3
    clear c0 hb3 ho3 hB HNk HQ2
    have HI5 := Lib.hid (rints_any _ _ 5 [c.lo, c.a, c.b, c.n, c.p] (sl_ic w3 [c.lo, c.a, c.b, c.n, c.p]) HW5.out (by simp))
    rw [show [c.lo, c.a, c.b, c.n, c.p].length = 5 from rfl] at HI5
    have HQa := Lib.hid (HQ3.out.alloc HQ3.out.size (.cells #[.int .i64 c.lo, .int .i64 c.a, .int .i64 c.b, .int .i64 c.n, .int .i64 c.p] 2))
    have HKa := Lib.hid (below_new1 w3 (.cells #[.int .i64 c.lo, .int .i64 c.a, .int .i64 c.b, .int .i64 c.n, .int .i64 c.p] 2))
    have hG := HG2.out.keeps HQ3.out
    have c1 := hG.cell 1 _ rfl
    have c2 := hG.cell 2 _ rfl
    have c3 := hG.cell 3 _ rfl
    have c4 := hG.cell 4 _ rfl
    have c5 := hG.cell 5 _ rfl
    clear hG
    go_wp2_with (first | fail)
    refine (HI5.out).mono ?_
    rintro e w4 ⟨v4, rfl, ho4, hb4⟩
    have hk := below_on HKa.out HKa.out.size hb4
    have HQ4 := Lib.hid (below_on HQa.out HQa.out.size hb4)
    have HO4 := Lib.hid (owb_kp HO3.out hk)
    have HS4 := Lib.hid ho4.sl
    have HM4 : Hid ((encs ([c.lo, c.a, c.b, c.n, c.p].map zig)).length ≤ 10000) := by show _ ≤ _; have := encz_len HW5.out; simp only [List.length_cons, List.length_nil] at this; omega
    obtain ⟨M4, hM4⟩ : ∃ M, encs ([c.lo, c.a, c.b, c.n, c.p].map zig) = M := ⟨_, rfl⟩
    rw [hM4] at HS4 HM4
    have HE4 := Lib.hid hM4
    clear HI5 hb4 ho4 hk HQa HKa HQ3 HO3 hM4 c1 c2 c3 c4 c5
    go_wp2_with (first | (refine ap_sl rfl _ _ rfl w2.heap.size _ rfl B3 ?_ M4 _ rfl HS4.out ?_ ?_ ?_) | fail)
    · exact HO4.out
    · have h1 := HN3.out; have h2 := HM4.out; omega
    · exact HQ4.out.size
    intro v5 w5 h1 h2 h3
    have HQ5 := Lib.hid (grown_below HO4.out h2 (Nat.le_refl _) (Nat.le_refl _) HQ4.out)
    have HN5 : Hid ((B3 ++ M4).length ≤ 30000) := by show _ ≤ _; have h1 := HN3.out; have h2 := HM4.out; rw [List.length_append]; omega
    obtain ⟨B5, hB⟩ : ∃ B, B3 ++ M4 = B := ⟨_, rfl⟩
    rw [hB] at h1 HN5
    have HF5 := Lib.hid hB
    have HO5 := Lib.hid h1
    clear h1 h2 h3 hB HQ4 HO4 HS4
    have c0 : w5.cell? ⟨w.heap.size, 0, none⟩ = some (.int .i64 (kn : Int)) := by rw [← HK.out]; exact (HG2.out.keeps HQ5.out).cell 0 _ rfl
    by_cases h1 : kn = 1
    · subst h1
      have HIL := Lib.hid (fun U (hu : Below w2.heap.size w2 U) => rints_any U ao cap c.L (HL2.out.keeps hu) HWL.out (by omega))
      have HQa := HQ5
      have HKa := Lib.hid (Below.refl w5.heap.size w5)
      have hG := HG2.out.keeps HQ5.out
      have c6 := hG.cell 6 _ rfl
      clear hG
      go_wp2_with (first | fail)
      refine (HNl.out _).mono ?_
      rintro e w6 ⟨v6, rfl, ho6, hb6⟩
      have hk := below_on HKa.out HKa.out.size hb6
      have HQ6 := Lib.hid (below_on HQa.out HQa.out.size hb6)
      have HO6 := Lib.hid (owb_kp HO5.out hk)
      have HS6 := Lib.hid ho6.sl
      have HM6 : Hid ((enc c.L.length).length ≤ 10000) := by show _ ≤ _; have := enc_len64 c.L.length (by omega); omega
      obtain ⟨M6, hM6⟩ : ∃ M, enc c.L.length = M := ⟨_, rfl⟩
      rw [hM6] at HS6 HM6
      have HE6 := Lib.hid hM6
      clear c0 hb6 ho6 hk HQa HKa HQ5 HO5 hM6 c6
      go_wp2_with (first | (refine ap_sl rfl _ _ rfl w2.heap.size _ rfl B5 ?_ M6 _ rfl HS6.out ?_ ?_ ?_) | fail)
      · exact HO6.out
      · have h1 := HN5.out; have h2 := HM6.out; omega
      · exact HQ6.out.size
      intro v7 w7 h1 h2 h3
      have HQ7 := Lib.hid (grown_below HO6.out h2 (Nat.le_refl _) (Nat.le_refl _) HQ6.out)
      have HN7 : Hid ((B5 ++ M6).length ≤ 50000) := by show _ ≤ _; have h1 := HN5.out; have h2 := HM6.out; rw [List.length_append]; omega
      obtain ⟨B7, hB⟩ : ∃ B, B5 ++ M6 = B := ⟨_, rfl⟩
      rw [hB] at h1 HN7
      have HF7 := Lib.hid hB
      have HO7 := Lib.hid h1
      clear h1 h2 h3 hB HQ6 HO6 HS6
      have HQa := HQ7
      have HKa := Lib.hid (Below.refl w7.heap.size w7)
      have hG := HG2.out.keeps HQ7.out
      have c6 := hG.cell 6 _ rfl
      clear hG
      go_wp2_with (first | fail)
      refine (HIL.out _ HQ7.out).mono ?_
      rintro e w8 ⟨v8, rfl, ho8, hb8⟩
      have hk := below_on HKa.out HKa.out.size hb8
      have HQ8 := Lib.hid (below_on HQa.out HQa.out.size hb8)
      have HO8 := Lib.hid (owb_kp HO7.out hk)
      have HS8 := Lib.hid ho8.sl
      have HM8 : Hid ((encs (c.L.map zig)).length ≤ 10000) := by show _ ≤ _; have := encz_len HWL.out; omega
      obtain ⟨M8, hM8⟩ : ∃ M, encs (c.L.map zig) = M := ⟨_, rfl⟩
      rw [hM8] at HS8 HM8
      have HE8 := Lib.hid hM8
      clear hb8 ho8 hk HQa HKa HQ7 HO7 hM8 c6
      go_wp2_with (first | (refine ap_sl rfl _ _ rfl w2.heap.size _ rfl B7 ?_ M8 _ rfl HS8.out ?_ ?_ ?_) | fail)
      · exact HO8.out
      · have h1 := HN7.out; have h2 := HM8.out; omega
      · exact HQ8.out.size
      intro v9 w9 h1 h2 h3
      have HQ9 := Lib.hid (grown_below HO8.out h2 (Nat.le_refl _) (Nat.le_refl _) HQ8.out)
      have HN9 : Hid ((B7 ++ M8).length ≤ 70000) := by show _ ≤ _; have h1 := HN7.out; have h2 := HM8.out; rw [List.length_append]; omega
      obtain ⟨B9, hB⟩ : ∃ B, B7 ++ M8 = B := ⟨_, rfl⟩
      rw [hB] at h1 HN9
      have HF9 := Lib.hid hB
      have HO9 := Lib.hid h1
      clear h1 h2 h3 hB HQ8 HO8 HS8
      have HRn := Lib.hid (fun U => rnumbers_c U ao cap c)
      have hG := (HG2.out.keeps HQ9.out).opn
      go_wp2_with (first | (refine ld_opn rfl _ rfl w.heap.size 6 rfl c (.slice ao c.L.length cap) hG ?_) | fail)
      refine (HRn.out _).mono ?_
      rintro e w10 ⟨q, rfl, hq, hb10⟩
      have HQ10 := Lib.hid (below_on HQ9.out HQ9.out.size hb10)
      have HO10 := Lib.hid (owb_kp HO9.out hb10)
      have HIx := Lib.hid (rints_any w10 _ 11 [c.x0, c.x1, c.x2, c.x3, c.x4, c.x5, c.x6, c.x7, c.x8, c.x9, c.x10] hq HW11.out (by simp))
      rw [show [c.x0, c.x1, c.x2, c.x3, c.x4, c.x5, c.x6, c.x7, c.x8, c.x9, c.x10].length = 11 from rfl] at HIx
      have HN10 := HN9
      have hB10 := HF9.out
      obtain ⟨B10, hB⟩ : ∃ B, B9 = B := ⟨_, rfl⟩
      rw [hB] at HO10 HN10 hB10
      have HF10 := Lib.hid hB10
      clear hG hq hb10 HRn HQ9 HO9 hB hB10
      have HQa := HQ10
      have HKa := Lib.hid (Below.refl w10.heap.size w10)
      go_wp2_with (first | fail)
      refine (HIx.out).mono ?_
      rintro e w11 ⟨v11, rfl, ho11, hb11⟩
      have hk := below_on HKa.out HKa.out.size hb11
      have HQ11 := Lib.hid (below_on HQa.out HQa.out.size hb11)
      have HO11 := Lib.hid (owb_kp HO10.out hk)
      have HS11 := Lib.hid ho11.sl
      have HM11 : Hid ((encs ([c.x0, c.x1, c.x2, c.x3, c.x4, c.x5, c.x6, c.x7, c.x8, c.x9, c.x10].map zig)).length ≤ 10000) := by show _ ≤ _; have := encz_len HW11.out; simp only [List.length_cons, List.length_nil] at this; omega
      obtain ⟨M11, hM11⟩ : ∃ M, encs ([c.x0, c.x1, c.x2, c.x3, c.x4, c.x5, c.x6, c.x7, c.x8, c.x9, c.x10].map zig) = M := ⟨_, rfl⟩
      rw [hM11] at HS11 HM11
      have HE11 := Lib.hid hM11
      clear hb11 ho11 hk HQa HKa HQ10 HO10 hM11 
      go_wp2_with (first | (refine ap_sl rfl _ _ rfl w2.heap.size _ rfl B10 ?_ M11 _ rfl HS11.out ?_ ?_ ?_) | fail)
      · exact HO11.out
      · have h1 := HN10.out; have h2 := HM11.out; omega
      · exact HQ11.out.size
      intro v12 w12 h1 h2 h3
      have HQ12 := Lib.hid (grown_below HO11.out h2 (Nat.le_refl _) (Nat.le_refl _) HQ11.out)
      have HN12 : Hid ((B10 ++ M11).length ≤ 100000) := by show _ ≤ _; have h1 := HN10.out; have h2 := HM11.out; rw [List.length_append]; omega
      obtain ⟨B12, hB⟩ : ∃ B, B10 ++ M11 = B := ⟨_, rfl⟩
      rw [hB] at h1 HN12
      have HF12 := Lib.hid hB
      have HO12 := Lib.hid h1
      clear h1 h2 h3 hB HQ11 HO11 HS11
      have HB12 := Lib.hid (below_on HB2.out HB2.out.size HQ12.out)
      have HEE : Hid (OwB w12 w.heap.size v12 Z) := by
        show OwB _ _ _ _
        rw [← HZ.out, if_pos (c := ((1 : Nat) : Int) = 1) rfl, if_neg (by decide), List.append_nil]
        have h1 := OwB.up HO12.out HB2.out.size
        rw [← HF12.out, ← HE11.out, ← HF10.out, ← HE8.out, ← HF7.out, ← HE6.out, ← HF5.out, ← HE4.out, ← HF3.out, ← HE1.out c.L.length] at h1
        simpa only [List.append_assoc] using h1
      have c0 : w12.cell? ⟨w.heap.size, 0, none⟩ = some (.int .i64 ((1 : Nat) : Int)) := by rw [← HK.out]; exact (HG2.out.keeps HQ12.out).cell 0 _ rfl
      go_wp2
      exact bodyPost_ret (v := .tuple #[v12, .int .i64 0]) (by simp [results, Try.results16, go_sem]) rfl ⟨_, rfl, HEE.out, HB12.out⟩
    · have h2 : ¬ (kn : Int) = 1 := by omega
      have h3 : ((kn : Int) == 1) = false := by simpa using h2
      by_cases h4 : kn = 15
      · subst h4
        have HI3 := Lib.hid (rints_any _ _ 3 [c.f1, c.f2, c.f3] (sl_ic w5 [c.f1, c.f2, c.f3]) HW3.out (by simp))
        rw [show [c.f1, c.f2, c.f3].length = 3 from rfl] at HI3
        have HQa := Lib.hid (HQ5.out.alloc HQ5.out.size (.cells #[.int .i64 c.f1, .int .i64 c.f2, .int .i64 c.f3] 2))
        have HKa := Lib.hid (below_new1 w5 (.cells #[.int .i64 c.f1, .int .i64 c.f2, .int .i64 c.f3] 2))
        have hG := HG2.out.keeps HQ5.out
        have c19 := hG.cell 19 _ rfl
        have c20 := hG.cell 20 _ rfl
        have c21 := hG.cell 21 _ rfl
        clear hG
        go_wp2_with (first | fail)
        refine (HI3.out).mono ?_
        rintro e w6 ⟨v6, rfl, ho6, hb6⟩
        have hk := below_on HKa.out HKa.out.size hb6
        have HQ6 := Lib.hid (below_on HQa.out HQa.out.size hb6)
        have HO6 := Lib.hid (owb_kp HO5.out hk)
        have HS6 := Lib.hid ho6.sl
        have HM6 : Hid ((encs ([c.f1, c.f2, c.f3].map zig)).length ≤ 10000) := by show _ ≤ _; have := encz_len HW3.out; simp only [List.length_cons, List.length_nil] at this; omega
        obtain ⟨M6, hM6⟩ : ∃ M, encs ([c.f1, c.f2, c.f3].map zig) = M := ⟨_, rfl⟩
        rw [hM6] at HS6 HM6
        have HE6 := Lib.hid hM6
        clear c0 HI3 hb6 ho6 hk HQa HKa HQ5 HO5 hM6 c19 c20 c21
        go_wp2_with (first | (refine ap_sl rfl _ _ rfl w2.heap.size _ rfl B5 ?_ M6 _ rfl HS6.out ?_ ?_ ?_) | fail)
        · exact HO6.out
        · have h1 := HN5.out; have h2 := HM6.out; omega
        · exact HQ6.out.size
        intro v7 w7 h1 h2 h3
        have HQ7 := Lib.hid (grown_below HO6.out h2 (Nat.le_refl _) (Nat.le_refl _) HQ6.out)
        have HN7 : Hid ((B5 ++ M6).length ≤ 50000) := by show _ ≤ _; have h1 := HN5.out; have h2 := HM6.out; rw [List.length_append]; omega
        obtain ⟨B7, hB⟩ : ∃ B, B5 ++ M6 = B := ⟨_, rfl⟩
        rw [hB] at h1 HN7
        have HF7 := Lib.hid hB
        have HO7 := Lib.hid h1
        clear h1 h2 h3 hB HQ6 HO6 HS6
        have HB7 := Lib.hid (below_on HB2.out HB2.out.size HQ7.out)
        have HEE : Hid (OwB w7 w.heap.size v7 Z) := by
          show OwB _ _ _ _
          rw [← HZ.out, if_pos (c := ((15 : Nat) : Int) = 15) rfl, if_neg (by decide), List.append_nil]
          have h1 := OwB.up HO7.out HB2.out.size
          rw [← HF7.out, ← HE6.out, ← HF5.out, ← HE4.out, ← HF3.out] at h1
          simpa only [List.append_assoc] using h1
        go_wp2
        exact bodyPost_ret (v := .tuple #[v7, .int .i64 0]) (by simp [results, Try.results16, go_sem]) rfl ⟨_, rfl, HEE.out, HB7.out⟩
      · have h5 : ¬ (kn : Int) = 15 := by omega
        have h6 : ((kn : Int) == 15) = false := by simpa using h5
        have HB5 := Lib.hid (below_on HB2.out HB2.out.size HQ5.out)
        have HEE : Hid (OwB w5 w.heap.size v5 Z) := by
          show OwB _ _ _ _
          rw [← HZ.out, if_neg h5, if_neg h2, List.append_nil, List.append_nil]
          have h1 := OwB.up HO5.out HB2.out.size
          rw [← HF5.out, ← HE4.out, ← HF3.out] at h1
          simpa only [List.append_assoc] using h1
        go_wp2
        exact bodyPost_ret (v := .tuple #[v5, .int .i64 0]) (by simp [results, Try.results16, go_sem]) rfl ⟨_, rfl, HEE.out, HB5.out⟩
end Go.Proofs.Ytdkcccigmejikaa
