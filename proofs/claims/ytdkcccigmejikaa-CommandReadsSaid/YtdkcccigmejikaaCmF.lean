/-
  Commands: a command's bytes; the walks of the reference's Ints and of command.Bytes.
-/
import Derived.Test.YtdkcccigmejikaaCmC
import Derived.Test.YtdkcccigmejikaaRefPut
set_option linter.unusedVariables false
set_option linter.unusedSimpArgs false
set_option maxRecDepth 20000
namespace Go.Proofs.Ytdkcccigmejikaa
open Go.RowKit

def in64 (x : Int) : Prop := -9223372036854775808 ≤ x ∧ x ≤ 9223372036854775807
structure Cm.wf (c : Cm) : Prop where
  h : ∀ x ∈ c.H, in64 x
  l : ∀ x ∈ c.L, in64 x
  n : ∀ x ∈ c.N, in64 x
  f : ∀ x ∈ c.F, in64 x
/-- The bytes of a command. -/
def Cm.enc (c : Cm) : List UInt8 :=
  encs [c.k.toNat] ++ encs ([c.lo, c.a, c.b, c.n, c.p].map zig) ++ (if c.k = 1 then encs [c.L.length] ++ encs (c.L.map zig) ++ encs (c.N.map zig) else []) ++ (if c.k = 15 then encs ([c.f1, c.f2, c.f3].map zig) else [])
/-- What Bytes answers. -/
def Cm.bytes (c : Cm) : List UInt8 × Int := if c.right = true then (c.enc, 0) else ([], 221)
theorem encz_len {M : List Int} (h : ∀ x ∈ M, in64 x) : (encs (M.map zig)).length ≤ 10 * M.length := by
  have := encs_len (N := M.map zig) (by
    intro n hn
    obtain ⟨x, hx, rfl⟩ := List.mem_map.1 hn
    exact zig_lt (h x hx).1 (h x hx).2)
  rwa [List.length_map] at this
theorem owb_kp {w w' : World} {base : Nat} {v : Value} {L : List UInt8} (h : OwB w base v L) (hb : Below w.heap.size w w') : OwB w' base v L := OwB.below (B := 0) h hb
theorem slB_nil (w : World) : SlB w (.slice none 0 0) [] := ⟨none, 0, rfl, Sl.of_nil w⟩
theorem sl_ic (w : World) (N : List Int) : Sl (w.alloc (.cells (ic N).toArray 2)) (some ⟨w.heap.size, 0, none⟩) N.length N.length (ic N) :=
  ⟨by rw [ic_len], Nat.le_refl _, by simp, fun _ => ⟨_, _, rfl, fun j u hu => by
    rw [Nat.zero_add]
    exact (Blk.new w 2 (ic N)).cell j u hu⟩⟩
theorem sl_uc (w : World) (n : Nat) : Sl (w.alloc (.cells #[.int .u64 n] 62)) (some ⟨w.heap.size, 0, none⟩) 1 1 (uc [n]) :=
  ⟨rfl, Nat.le_refl _, by simp, fun _ => ⟨_, _, rfl, fun j u hu => by
    rw [Nat.zero_add]
    exact (Blk.new w 62 [.int .u64 n]).cell j u hu⟩⟩
theorem right_nums {c : Cm} (h : c.right = true) : 1 ≤ c.k ∧ c.k ≤ 25 ∧ c.L.length ≤ 16 := by
  simp only [Cm.right, emptyS, Bool.and_eq_true, Bool.or_eq_true, decide_eq_true_eq] at h
  omega
set_option maxHeartbeats 1600000 in
theorem rints_any (w : World) (ao : Option Addr) (cap : Nat) (N : List Int) (h : Sl w ao N.length cap (ic N)) (hw : ∀ x ∈ N, in64 x) (hl : N.length ≤ 1000000) :
    Calls Try.prog 29 #[.slice ao N.length cap] w fun e w' => ∃ v', e = .returned v' ∧ OwB w' w.heap.size v' (encs (N.map zig)) ∧ Below w.heap.size w w' := by
  have H := Lib.hid h
  have HW := Lib.hid hw
  have HB0 := Lib.hid (below_new1 w (.cells #[] 5))
  have HO0 := Lib.hid (own_empty w)
  clear h hw
  go_enter Try.func29, Try.ntmps29
  go_wp2
  go_loopw [3, 9] (fun u i wr => ∃ k : Nat, k ≤ N.length ∧ i = .int .i64 k ∧ Hid (OwB wr w.heap.size u (encs ((N.take k).map zig))) ∧ Below w.heap.size w wr) (fun _ i _ => N.length - (intOf i).toNat)
  case atStart => exact ⟨0, by omega, rfl, HO0.out, HB0.out⟩
  case round =>
    obtain ⟨k, hk, rfl, HO, hb⟩ := hrel
    by_cases hkl : k < N.length
    · obtain ⟨x, hx⟩ : ∃ t, N[k]? = some t := ⟨_, List.getElem?_eq_getElem hkl⟩
      have HX := Lib.hid hx
      have hwS := H.out.keeps hb
      have hx64 := HW.out x (List.mem_of_getElem? hx)
      have HI := Lib.hid (fun U => rint6_any x hx64.1 hx64.2 U)
      have HT : Hid (encs ((N.take (k + 1)).map zig) = encs ((N.take k).map zig) ++ Go.Proofs.Ytdkcccigmejikaa.enc (zig x)) := by
        show _ = _
        rw [List.map_take, List.map_take]
        exact encs_take (by rw [List.getElem?_map, hx]; rfl)
      have HM : Hid ((encs ((N.take k).map zig)).length ≤ 10000000) := by
        show _ ≤ _
        have := encz_len (M := N.take k) (fun y hy => HW.out y (List.mem_of_mem_take hy))
        rw [List.length_take] at this
        omega
      have HM2 := Lib.hid (enc_len64 (zig x) (zig_lt hx64.1 hx64.2))
      obtain ⟨M, hM⟩ : ∃ M, encs ((N.take k).map zig) = M := ⟨_, rfl⟩
      rw [hM] at HO HT HM
      have HBk := Lib.hid hb
      clear hx hx64 hM hb
      go_wp2_with (first | (refine wpList_ix_sl rfl 23 2 _ _ rfl Try.underlying23 size_i64 ao N.length cap rfl (ic N) hwS k hkl rfl ?_; intro b off u hu hcell; obtain rfl : u = .int .i64 x := by (rw [ic_at HX.out] at hu; exact (Option.some.inj hu).symm)) | fail)
      refine (HI.out _).mono ?_
      rintro e w1 ⟨v1, rfl, ho1, hb1⟩
      have HB1 := Lib.hid (below_on HBk.out HBk.out.size hb1)
      have HO1 := Lib.hid (owb_kp HO.out hb1)
      have HS1 := Lib.hid ho1.sl
      clear ho1 hb1 HI HBk HO hwS
      go_wp2_with (refine ap_sl rfl _ _ rfl w.heap.size _ rfl M ?_ _ _ rfl HS1.out ?_ ?_ ?_)
      · exact HO1.out
      · have h1 := HM.out; have h2 := HM2.out; omega
      · exact HB1.out.size
      intro v' w' h1 h2 h3
      have HBn := Lib.hid (grown_below HO1.out h2 (Nat.le_refl _) (Nat.le_refl _) HB1.out)
      have HOn := Lib.hid h1
      clear h1 h2 h3
      go_wp2
      go_roundw
      · exact ⟨k + 1, by omega, by go_num, by rw [HT.out]; exact HOn, HBn.out⟩
      · simp [intOf]; omega
    · obtain rfl : k = N.length := by omega
      rw [List.take_length] at HO
      go_wp2
      go_ret
      exact ⟨_, rfl, HO.out, hb⟩
theorem info_cm : (Try.prog.info? 45).map (·.size) = some 23 := by kernel_rfl
section
variable {ops : Array Oper} {rest : List Oper} {op : Oper} {a : Act} {w : World} {Q : Exit → Act → World → Prop}
theorem ld_cm (hgd : op.guard = none) (x : Operand) (ho : op.op = .load 45 x) (b o : Nat) (hx : a.eval x = .pointer (some ⟨b, o, none⟩)) (c : Cm) (v : Value) (hc : w.rangeAt b o (c.C v))
    (h : wpList Try.prog ops Q rest (a.put op.dst (.agg (c.C v).toArray)) w) : wpList Try.prog ops Q (op :: rest) a w :=
  wpList_load_mid hgd _ x ho b o hx (c.C v) _ hc Try.underlying45 rfl info_cm h
end
set_option maxHeartbeats 6400000 in
theorem cbytes_any (w : World) (ao : Option Addr) (cap : Nat) (c : Cm) (h : Sl w ao c.L.length cap (ic c.L)) (hw : c.wf) (s : List UInt8 × Int) (hs : c.bytes = s) :
    Calls Try.prog 15 #[.agg (c.C (.slice ao c.L.length cap)).toArray] w fun e w' => ∃ v', e = .returned (.tuple #[v', .int .i64 s.2]) ∧ OwB w' w.heap.size v' s.1 ∧ Below w.heap.size w w' := by
  obtain ⟨r, hr⟩ : ∃ r, c.right = r := ⟨_, rfl⟩
  have HR := Lib.hid (fun U => cright_any U ao cap c r hr)
  have hrn := fun e : r = true => right_nums (hr.trans e)
  have hs2 : (if r = true then (c.enc, 0) else ([], 221)) = s := by rw [← hs, Cm.bytes, hr]
  obtain ⟨w6, wl, w11, w5⟩ := hw
  have HW5 : Hid (∀ x ∈ [c.lo, c.a, c.b, c.n, c.p], in64 x) := fun x hx => w6 x (List.mem_cons_of_mem _ hx)
  have HW3 : Hid (∀ x ∈ [c.f1, c.f2, c.f3], in64 x) := fun x hx => w5 x (by simp only [Cm.F, List.mem_cons, List.not_mem_nil, or_false] at hx ⊢; rcases hx with rfl | rfl | rfl <;> simp)
  have HWL := Lib.hid wl
  have HW11 : Hid (∀ x ∈ [c.x0, c.x1, c.x2, c.x3, c.x4, c.x5, c.x6, c.x7, c.x8, c.x9, c.x10], in64 x) := w11
  have HS := Lib.hid hs2
  have HB0 := Lib.hid (below_new1 w (.cells (c.C (.slice ao c.L.length cap)).toArray 45))
  have HG0 := Lib.hid (Blk.new w 45 (c.C (.slice ao c.L.length cap)))
  have HL0 := Lib.hid (h.keeps (below_new1 w (.cells (c.C (.slice ao c.L.length cap)).toArray 45)))
  clear hs2 h w6 wl w11 w5 hr hs
  go_enter Try.func15, Try.ntmps15
  go_wp2_with (first | (refine ld_cm rfl _ rfl w.heap.size 0 rfl c (.slice ao c.L.length cap) HG0.out.range ?_) | fail)
  refine (HR.out _).mono ?_
  rintro e w2 ⟨rfl, hb2⟩
  have HB2 := Lib.hid (below_on HB0.out HB0.out.size hb2)
  have HG2 := Lib.hid (HG0.out.keeps hb2)
  have HL2 := Lib.hid (HL0.out.keeps hb2)
  clear hb2 HR HB0 HG0 HL0
  cases r with
  | false =>
    obtain rfl : s = ([], 221) := HS.out.symm
    clear HS
    go_wp2
    exact bodyPost_ret (v := .tuple #[.slice none 0 0, .int .i64 221]) (by simp [results, Try.results15, go_sem]) rfl ⟨_, rfl, own_nil _ _, HB2.out⟩
  | true =>
    obtain ⟨k0, k1, kL⟩ := hrn rfl
    obtain ⟨kn, hk⟩ := Int.eq_ofNat_of_zero_le (show 0 ≤ c.k by omega)
    have HK : Hid (c.k = (kn : Int)) := hk
    have hS : (encs [kn] ++ encs ([c.lo, c.a, c.b, c.n, c.p].map zig) ++ (if (kn : Int) = 1 then encs [c.L.length] ++ encs (c.L.map zig) ++ encs ([c.x0, c.x1, c.x2, c.x3, c.x4, c.x5, c.x6, c.x7, c.x8, c.x9, c.x10].map zig) else []) ++ (if (kn : Int) = 15 then encs ([c.f1, c.f2, c.f3].map zig) else []), (0 : Int)) = s := by
      rw [← HS.out, if_pos rfl, Cm.enc, hk, Int.toNat_natCast]; rfl
    obtain ⟨Z, hZ⟩ : ∃ Z, encs [kn] ++ encs ([c.lo, c.a, c.b, c.n, c.p].map zig) ++ (if (kn : Int) = 1 then encs [c.L.length] ++ encs (c.L.map zig) ++ encs ([c.x0, c.x1, c.x2, c.x3, c.x4, c.x5, c.x6, c.x7, c.x8, c.x9, c.x10].map zig) else []) ++ (if (kn : Int) = 15 then encs ([c.f1, c.f2, c.f3].map zig) else []) = Z := ⟨_, rfl⟩
    rw [hZ] at hS
    have HZ := Lib.hid hZ
    have kn1 : 1 ≤ kn := by omega
    have kn25 : kn ≤ 25 := by omega
    subst hS
    clear HS hrn hZ hk k0 k1
    have kn0 : kn < 18446744073709551616 := by omega
    have HBa := Lib.hid (HB2.out.alloc HB2.out.size (.cells #[.int .u64 kn] 62))
    have HGa := Lib.hid (HG2.out.alloc (.cells #[.int .u64 kn] 62))
    have HLa := Lib.hid (HL2.out.keeps (below_new1 w2 (.cells #[.int .u64 kn] 62)))
    have HC := Lib.hid (pnum_any _ (.slice none 0 0) [] (slB_nil _) _ 1 [kn] (sl_uc w2 kn) (by intro x hx; obtain rfl : x = kn := (by simpa using hx); omega) (by simp))
    rw [show [kn].length = 1 from rfl] at HC
    have c0 : w2.cell? ⟨w.heap.size, 0, none⟩ = some (.int .i64 (kn : Int)) := by rw [← HK.out]; exact HG2.out.cell 0 _ rfl
    clear HB2 HG2 HL2
    go_wp2_with fail
    refine HC.out.mono ?_
    rintro e w3 ⟨v3, rfl, ho3, hb3⟩
    have HB3 := Lib.hid (below_on HBa.out HBa.out.size hb3)
    have HG3 := Lib.hid (HGa.out.keeps hb3)
    have HL3 := Lib.hid (HLa.out.keeps hb3)
    have HN3 : Hid (([] ++ encs [kn]).length ≤ 0 + 10) := by show _ ≤ _; have h2 := encs_len (N := [kn]) (by intro x hx; obtain rfl : x = kn := (by simpa using hx); omega); rw [show [kn].length = 1 from rfl] at h2; rw [List.length_append]; simp only [List.length_nil]; omega
    obtain ⟨B3, hB3⟩ : ∃ B, [] ++ encs [kn] = B := ⟨_, rfl⟩
    rw [hB3] at ho3 HN3
    have HE3 := Lib.hid hB3
    have HO3 := Lib.hid (OwB.up ho3 HBa.out.size)
    clear c0
    clear hb3 ho3 hB3 HC  HBa HGa HLa
    have HBa := Lib.hid (HB3.out.alloc HB3.out.size (.cells #[.int .i64 c.lo, .int .i64 c.a, .int .i64 c.b, .int .i64 c.n, .int .i64 c.p] 2))
    have HGa := Lib.hid (HG3.out.alloc (.cells #[.int .i64 c.lo, .int .i64 c.a, .int .i64 c.b, .int .i64 c.n, .int .i64 c.p] 2))
    have HLa := Lib.hid (HL3.out.keeps (below_new1 w3 (.cells #[.int .i64 c.lo, .int .i64 c.a, .int .i64 c.b, .int .i64 c.n, .int .i64 c.p] 2)))
    have HC := Lib.hid (pint_any _ v3 B3 (owb_kp HO3.out (below_new1 w3 (.cells #[.int .i64 c.lo, .int .i64 c.a, .int .i64 c.b, .int .i64 c.n, .int .i64 c.p] 2))).sl _ 5 [c.lo, c.a, c.b, c.n, c.p] (sl_ic w3 [c.lo, c.a, c.b, c.n, c.p]) (HW5.out) (by have := HN3.out; simp; omega))
    rw [show [c.lo, c.a, c.b, c.n, c.p].length = 5 from rfl] at HC
    have c1 := HG3.out.cell 1 _ rfl
    have c2 := HG3.out.cell 2 _ rfl
    have c3 := HG3.out.cell 3 _ rfl
    have c4 := HG3.out.cell 4 _ rfl
    have c5 := HG3.out.cell 5 _ rfl
    clear HB3 HG3 HL3
    go_wp2_with fail
    refine HC.out.mono ?_
    rintro e w4 ⟨v4, rfl, ho4, hb4⟩
    have HB4 := Lib.hid (below_on HBa.out HBa.out.size hb4)
    have HG4 := Lib.hid (HGa.out.keeps hb4)
    have HL4 := Lib.hid (HLa.out.keeps hb4)
    have HN4 : Hid ((B3 ++ encs ([c.lo, c.a, c.b, c.n, c.p].map zig)).length ≤ 10 + 50) := by show _ ≤ _; have h1 := HN3.out; have h2 := encz_len HW5.out; rw [show [c.lo, c.a, c.b, c.n, c.p].length = 5 from rfl] at h2; rw [List.length_append]; omega
    obtain ⟨B4, hB4⟩ : ∃ B, B3 ++ encs ([c.lo, c.a, c.b, c.n, c.p].map zig) = B := ⟨_, rfl⟩
    rw [hB4] at ho4 HN4
    have HE4 := Lib.hid hB4
    have HO4 := Lib.hid (OwB.up ho4 HBa.out.size)
    clear c1 c2 c3 c4 c5
    clear hb4 ho4 hB4 HC HO3 HBa HGa HLa
    have c0 : w4.cell? ⟨w.heap.size, 0, none⟩ = some (.int .i64 (kn : Int)) := by rw [← HK.out]; exact HG4.out.cell 0 _ rfl
    by_cases h1 : kn = 1
    · subst h1
      as_aux_lemma =>
        have c6 := HG4.out.cell 6 _ rfl
        have HBa := Lib.hid (HB4.out.alloc HB4.out.size (.cells #[.int .u64 c.L.length] 62))
        have HGa := Lib.hid (HG4.out.alloc (.cells #[.int .u64 c.L.length] 62))
        have HLa := Lib.hid (HL4.out.keeps (below_new1 w4 (.cells #[.int .u64 c.L.length] 62)))
        have HC := Lib.hid (pnum_any _ v4 B4 (owb_kp HO4.out (below_new1 w4 (.cells #[.int .u64 c.L.length] 62))).sl _ 1 [c.L.length] (sl_uc w4 c.L.length) (by intro x hx; obtain rfl : x = c.L.length := (by simpa using hx); omega) (by have := HN4.out; simp; omega))
        rw [show [c.L.length].length = 1 from rfl] at HC
        clear HB4 HG4 HL4
        go_wp2_with fail
        refine HC.out.mono ?_
        rintro e w5 ⟨v5, rfl, ho5, hb5⟩
        have HB5 := Lib.hid (below_on HBa.out HBa.out.size hb5)
        have HG5 := Lib.hid (HGa.out.keeps hb5)
        have HL5 := Lib.hid (HLa.out.keeps hb5)
        have HN5 : Hid ((B4 ++ encs [c.L.length]).length ≤ 60 + 10) := by show _ ≤ _; have h1 := HN4.out; have h2 := encs_len (N := [c.L.length]) (by intro x hx; obtain rfl : x = c.L.length := (by simpa using hx); omega); rw [show [c.L.length].length = 1 from rfl] at h2; rw [List.length_append]; omega
        obtain ⟨B5, hB5⟩ : ∃ B, B4 ++ encs [c.L.length] = B := ⟨_, rfl⟩
        rw [hB5] at ho5 HN5
        have HE5 := Lib.hid hB5
        have HO5 := Lib.hid (OwB.up ho5 HBa.out.size)
        clear c0 c6 hb5 ho5 hB5 HC HO4 HBa HGa HLa
        have c6 := HG5.out.cell 6 _ rfl
        have HC := Lib.hid (pint_any _ v5 B5 HO5.out.sl ao cap c.L HL5.out HWL.out (by have := HN5.out; omega))
        go_wp2_with fail
        refine HC.out.mono ?_
        rintro e w6 ⟨v6, rfl, ho6, hb6⟩
        have HB6 := Lib.hid (below_on HB5.out HB5.out.size hb6)
        have HG6 := Lib.hid (HG5.out.keeps hb6)
        have HN6 : Hid ((B5 ++ encs (c.L.map zig)).length ≤ 300) := by show _ ≤ _; have h1 := HN5.out; have h2 := encz_len HWL.out; rw [List.length_append]; omega
        obtain ⟨B6, hB6⟩ : ∃ B, B5 ++ encs (c.L.map zig) = B := ⟨_, rfl⟩
        rw [hB6] at ho6 HN6
        have HE6 := Lib.hid hB6
        have HO6 := Lib.hid (OwB.up ho6 HB5.out.size)
        have HNm := Lib.hid (fun U => numbers_any U w.heap.size 6)
        clear c6 hb6 ho6 hB6 HC HB5 HG5 HL5 HO5
        go_wp2_with fail
        refine (HNm.out _).mono ?_
        rintro e w7 ⟨q, rfl, hq, hql, hb7⟩
        have HB7 := Lib.hid (below_on HB6.out HB6.out.size hb7)
        have HG7 := Lib.hid (HG6.out.keeps hb7)
        have HO7 := Lib.hid (owb_kp HO6.out hb7)
        have HV := Lib.hid (values_any w7 q w.heap.size 6 [c.x0, c.x1, c.x2, c.x3, c.x4, c.x5, c.x6, c.x7, c.x8, c.x9, c.x10] hq (nums_of (R := [.int .i64 c.f0, .int .i64 c.f1, .int .i64 c.f2, .int .i64 c.f3, .int .i64 c.f4]) HG7.out rfl) rfl)
        clear hb7 hq hql HNm HB6 HG6 HO6
        go_wp2_with fail
        refine HV.out.mono ?_
        rintro e w8 ⟨v8, rfl, ho8, hb8⟩
        have HB8 := Lib.hid (below_on HB7.out HB7.out.size hb8)
        have HO8 := Lib.hid (owb_kp HO7.out hb8)
        obtain ⟨a8, c8, rfl, hs8⟩ := OwI.sl ho8
        have HC := Lib.hid (pint_any _ v6 B6 HO8.out.sl a8 c8 [c.x0, c.x1, c.x2, c.x3, c.x4, c.x5, c.x6, c.x7, c.x8, c.x9, c.x10] hs8 HW11.out (by have := HN6.out; simp; omega))
        clear hb8 ho8 hs8 HV HB7 HG7 HO7
        go_wp2_with fail
        refine HC.out.mono ?_
        rintro e w9 ⟨v9, rfl, ho9, hb9⟩
        have HB9 := Lib.hid (below_on HB8.out HB8.out.size hb9)
        have HO9 := Lib.hid (OwB.up ho9 HB8.out.size)
        have HEE : Hid (OwB w9 w.heap.size v9 Z) := by
          show OwB _ _ _ _
          rw [← HZ.out]
          rw [if_pos (c := ((1 : Nat) : Int) = 1) rfl, if_neg (by decide), List.append_nil]
          have h1 := HO9.out
          rw [← HE6.out, ← HE5.out, ← HE4.out, ← HE3.out] at h1
          simpa only [List.nil_append, List.append_assoc] using h1
        clear hb9 ho9 HC HB8 HO8 HO9
        go_wp2
        exact bodyPost_ret (v := .tuple #[v9, .int .i64 0]) (by simp [results, Try.results15, go_sem]) rfl ⟨_, rfl, HEE.out, HB9.out⟩
    · have h2 : ¬ (kn : Int) = 1 := by omega
      have h3 : ((kn : Int) == 1) = false := by simpa using h2
      by_cases h4 : kn = 15
      · subst h4
        as_aux_lemma =>
          have HBa := Lib.hid (HB4.out.alloc HB4.out.size (.cells #[.int .i64 c.f1, .int .i64 c.f2, .int .i64 c.f3] 2))
          have HGa := Lib.hid (HG4.out.alloc (.cells #[.int .i64 c.f1, .int .i64 c.f2, .int .i64 c.f3] 2))
          have HLa := Lib.hid (HL4.out.keeps (below_new1 w4 (.cells #[.int .i64 c.f1, .int .i64 c.f2, .int .i64 c.f3] 2)))
          have HC := Lib.hid (pint_any _ v4 B4 (owb_kp HO4.out (below_new1 w4 (.cells #[.int .i64 c.f1, .int .i64 c.f2, .int .i64 c.f3] 2))).sl _ 3 [c.f1, c.f2, c.f3] (sl_ic w4 [c.f1, c.f2, c.f3]) (HW3.out) (by have := HN4.out; simp; omega))
          rw [show [c.f1, c.f2, c.f3].length = 3 from rfl] at HC
          have c19 := HG4.out.cell 19 _ rfl
          have c20 := HG4.out.cell 20 _ rfl
          have c21 := HG4.out.cell 21 _ rfl
          clear HB4 HG4 HL4
          go_wp2_with fail
          refine HC.out.mono ?_
          rintro e w5 ⟨v5, rfl, ho5, hb5⟩
          have HB5 := Lib.hid (below_on HBa.out HBa.out.size hb5)
          have HG5 := Lib.hid (HGa.out.keeps hb5)
          have HL5 := Lib.hid (HLa.out.keeps hb5)
          have HN5 : Hid ((B4 ++ encs ([c.f1, c.f2, c.f3].map zig)).length ≤ 60 + 30) := by show _ ≤ _; have h1 := HN4.out; have h2 := encz_len HW3.out; rw [show [c.f1, c.f2, c.f3].length = 3 from rfl] at h2; rw [List.length_append]; omega
          obtain ⟨B5, hB5⟩ : ∃ B, B4 ++ encs ([c.f1, c.f2, c.f3].map zig) = B := ⟨_, rfl⟩
          rw [hB5] at ho5 HN5
          have HE5 := Lib.hid hB5
          have HO5 := Lib.hid (OwB.up ho5 HBa.out.size)
          clear c19 c20 c21
          clear hb5 ho5 hB5 HC HO4 HBa HGa HLa
          have HEE : Hid (OwB w5 w.heap.size v5 Z) := by
            show OwB _ _ _ _
            rw [← HZ.out]
            rw [if_pos (c := ((15 : Nat) : Int) = 15) rfl, if_neg (by decide), List.append_nil]
            have h1 := HO5.out
            rw [← HE5.out, ← HE4.out, ← HE3.out] at h1
            simpa only [List.nil_append, List.append_assoc] using h1
          go_wp2
          exact bodyPost_ret (v := .tuple #[v5, .int .i64 0]) (by simp [results, Try.results15, go_sem]) rfl ⟨_, rfl, HEE.out, HB5.out⟩
      · have h5 : ¬ (kn : Int) = 15 := by omega
        have h6 : ((kn : Int) == 15) = false := by simpa using h5
        have HEE : Hid (OwB w4 w.heap.size v4 Z) := by
          show OwB _ _ _ _
          rw [← HZ.out]
          rw [if_neg h5, if_neg h2, List.append_nil, List.append_nil]
          have h1 := HO4.out
          rw [← HE4.out, ← HE3.out] at h1
          simpa only [List.nil_append, List.append_assoc] using h1
        go_wp2
        exact bodyPost_ret (v := .tuple #[v4, .int .i64 0]) (by simp [results, Try.results15, go_sem]) rfl ⟨_, rfl, HEE.out, HB4.out⟩
end Go.Proofs.Ytdkcccigmejikaa
