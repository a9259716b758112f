/-
  The walk of the reference's fee on what isn't used.
-/
import Derived.Test.YtlbnednpagddaaaUnused
import Derived.Test.YtlbnednpagddaaaRefDue
import Derived.Test.YtlbnednpagddaaaDivide
import Derived.Test.YtlbnednpagddaaaRel
set_option linter.unusedVariables false
set_option linter.unusedSimpArgs false
namespace Go.Proofs.Ytlbnednpagddaaa
open Go.RowKit Dg

set_option maxRecDepth 8000 in
set_option maxHeartbeats 1600000 in
theorem runused_bad (a p d r : Int) (h : BadAsk a p d r) (w : World) :
    Calls Try.prog 19 #[.int .i64 a, .int .i64 p, .int .i64 d, .int .i64 r] w fun e w' => e = .returned (.tuple #[.int .i64 0, .int .i64 0, .int .i64 142]) ∧ Below w.heap.size w w' := by
  rcases h with h | ⟨h, h1⟩ | ⟨h, h1, h2⟩ | ⟨h, h1, h2, h3⟩ | ⟨h, h1, h2, h3, h4⟩ | ⟨h, h1, h2, h3, h4, h5⟩ | ⟨h, h1, h2, h3, h4, h5, h6⟩
  all_goals
    have HM := Lib.hid (fun w => rmoney_any a _ h w)
    clear h
    go_enter Try.func19, Try.ntmps19
    go_wp2_with fail
    refine (HM.out _).mono ?_
    rintro e w1 ⟨rfl, rfl⟩
    go_wp2
    exact bodyPost_ret (v := .tuple #[.int .i64 0, .int .i64 0, .int .i64 142]) (by simp [results, Try.results19, go_sem]) rfl ⟨rfl, Below.refl _ _⟩
theorem build_ns : (D : List Int) → (h : D.length = 10) → Array.foldl (fun (cs : Array Value) (x : Value × Nat) => cs.setIfInBounds (1 + x.snd) x.fst) #[.bool false, .int .u64 0, .int .u64 0, .int .u64 0, .int .u64 0, .int .u64 0, .int .u64 0, .int .u64 0, .int .u64 0, .int .u64 0, .int .u64 0] (ds D).zipIdx 0 (ds D).size = ns false D
  | [a, b, c, d, e, f, g, h, i, j], _ => by simp [ds, du, ns, nu]
/-- What stands while the division's region runs. -/
def UnR (w w4 : World) (z q t : Int) (L : Nat → Bool) (V : Nat → Value) (W : World) : Prop :=
  Blk W w4.heap.size 58 (nl z) ∧ Below w.heap.size w W ∧ w4.heap.size < W.heap.size ∧
  (L 0 = true → V 0 = .pointer (some ⟨w4.heap.size, 1, none⟩)) ∧ (L 1 = true → V 1 = .agg (ds (dg 10 z))) ∧ (L 2 = true → V 2 = .agg (N 3600000)) ∧ (L 3 = true → V 3 = .agg (ds (dg 10 3600000))) ∧
  (L 4 = true → V 4 = .tuple #[.agg (ds (dg 10 q)), .agg (ds (dg 10 t))]) ∧ (L 5 = true → V 5 = .tuple #[.agg (ds (dg 10 q)), .agg (ds (dg 10 t))]) ∧
  (L 6 = true → V 6 = .agg (ds (dg 10 q))) ∧ (L 7 = true → V 7 = .agg (ds (dg 10 t))) ∧
  (L 8 = true → ∃ g, V 8 = .pointer (some ⟨g, 0, none⟩) ∧ w4.heap.size < g ∧ Blk W g 56 (du (if L 10 = true then dg 10 q else z10))) ∧
  (L 9 = true → ∃ g, V 9 = .pointer (some ⟨g, 0, none⟩) ∧ w4.heap.size < g ∧ Blk W g 56 (du (if L 11 = true then dg 10 t else z10))) ∧
  (L 8 = true → L 9 = true → V 8 ≠ V 9) ∧ (L 10 = true → L 8 = true) ∧ (L 11 = true → L 9 = true)
theorem unr_start {w w4 W : World} {z q t : Int} {V : Nat → Value} (h1 : Blk W w4.heap.size 58 (nl z)) (h2 : Below w.heap.size w W) (h3 : w4.heap.size < W.heap.size) : UnR w w4 z q t (fun _ => false) V W.drew :=
  ⟨h1.drew, h2.drew, h3, nofun, nofun, nofun, nofun, nofun, nofun, nofun, nofun, nofun, nofun, nofun, nofun, nofun⟩
set_option maxRecDepth 8000 in
set_option maxHeartbeats 1600000 in
theorem runused_good (a p d r : Int) (h : Asks a p d r) (w : World) :
    Calls Try.prog 19 #[.int .i64 a, .int .i64 p, .int .i64 d, .int .i64 r] w fun e w' => e = .returned (.tuple #[.int .i64 ((r + d * (a * p)) / 3600000), .int .i64 ((r + d * (a * p)) % 3600000), .int .i64 0]) ∧ Below w.heap.size w w' := by
  obtain ⟨a0, a1, p0, p1, d0, d1, r0, r1⟩ := h
  have HM := Lib.hid (fun w => rmoney_any a true (okM_mk a0 a1) w)
  obtain ⟨hA0, hA1⟩ := feeA a0 a1 p0 p1
  obtain ⟨A, hA⟩ : ∃ A, a * p = A := ⟨_, rfl⟩
  rw [hA] at hA0 hA1 ⊢
  have h1 : 0 ≤ A * d := Int.mul_nonneg hA0 d0
  have h2 : A * d ≤ A * 366 := Int.mul_le_mul_of_nonneg_left d1 hA0
  obtain ⟨z, hz⟩ : ∃ z, A * d + r = z := ⟨_, rfl⟩
  have hz' : r + d * A = z := by rw [← hz, Int.mul_comm d A]; omega
  rw [hz']
  have HZ : Hid (0 ≤ z ∧ z ≤ 100000000000000000000) := (by omega : 0 ≤ z ∧ z ≤ 100000000000000000000)
  have HT := Lib.hid (fun W => times_any A d (by omega) (by omega) (by omega) (by omega) W)
  have HO := Lib.hid (fun W => of_any r (by omega) (by omega) W)
  have HO2 := Lib.hid (fun W => of_any 3600000 (by omega) (by omega) W)
  have HP := Lib.hid (fun W => plus_any (A * d) r (by unfold absI TOP; rw [if_neg (by omega), if_neg (by omega)]; omega) W)
  rw [hz] at HP
  have HD := Lib.hid (fun W => divide_any z 3600000 HZ.out.1 (by have := HZ.out.2; omega) (by omega) (by omega) W)
  have hq : 0 ≤ z / 3600000 ∧ z / 3600000 ≤ 9223372036854775807 := by have := HZ.out.1; have := HZ.out.2; omega
  have hr : 0 ≤ z % 3600000 ∧ z % 3600000 < 3600000 := by omega
  have HCQ : Hid (∀ W, Calls Try.prog 29 #[.agg (ns false (dg 10 (z / 3600000)))] W fun e w' => e = .returned (.tuple #[.int .i64 (z / 3600000), .int .i64 0]) ∧ Below W.heap.size W w') := fun W => by
    have := cut_any (z / 3600000) (by rw [absI_pos hq.1]; omega) W
    rw [cutI_in (by omega) (by omega), show N (z / 3600000) = ns false (dg 10 (z / 3600000)) from N_pos hq.1] at this
    exact this
  have HCR : Hid (∀ W, Calls Try.prog 29 #[.agg (ns false (dg 10 (z % 3600000)))] W fun e w' => e = .returned (.tuple #[.int .i64 (z % 3600000), .int .i64 0]) ∧ Below W.heap.size W w') := fun W => by
    have := cut_any (z % 3600000) (by rw [absI_pos hr.1]; omega) W
    rw [cutI_in (by omega) (by omega), show N (z % 3600000) = ns false (dg 10 (z % 3600000)) from N_pos hr.1] at this
    exact this
  clear hq hr
  have HAZ : Hid (absI z = z) := absI_pos HZ.out.1
  have NZ : Hid (N z = ns false (dg 10 z)) := by show N z = _; exact N_pos HZ.out.1
  clear hz hz' h1 h2
  obtain ⟨q, hq⟩ : ∃ q, z / 3600000 = q := ⟨_, rfl⟩
  obtain ⟨t, ht⟩ : ∃ t, z % 3600000 = t := ⟨_, rfl⟩
  rw [hq, ht] at HD ⊢
  rw [hq] at HCQ
  rw [ht] at HCR
  clear hq ht
  go_enter Try.func19, Try.ntmps19
  go_wp2_with fail
  refine (HM.out _).mono ?_
  rintro e w1 ⟨rfl, rfl⟩
  go_wp2_with fail
  refine (HT.out _).mono ?_
  rintro e w2 ⟨rfl, hb2⟩
  go_wp2_with fail
  refine (HO.out _).mono ?_
  rintro e w3 ⟨rfl, hb3⟩
  go_wp2_with fail
  refine (HP.out _).mono ?_
  rintro e w4 ⟨rfl, hb4⟩
  have hB := below_on (below_on hb2 hb2.size hb3) (by have := hb2.size; have := hb3.size; omega) hb4
  clear hb2 hb3 hb4
  have hN0 := Blk.new w4 58 (nu false z10)
  have HT1 := Lib.hid (hN0.thereMid 0 11 (by decide))
  have HN1 := Lib.hid (hN0.setAll (nl z) (by rw [nl_len]; rfl))
  have HB1 := Lib.hid (below_setCells (b := w4.heap.size) (nl z) 0 (hB.alloc hB.size (.cells (nu false z10).toArray 58)) hB.size)
  have HL : Hid (w4.heap.size < ((w4.alloc (.cells (nu false z10).toArray 58)).setCells w4.heap.size 0 (nl z)).heap.size) := by show _ < _; rw [heap_size_setCells]; simp
  have HSZ := Lib.hid hB.size
  clear hN0 hB
  go_wp2_with (refine st_N rfl _ _ rfl w4.heap.size 0 rfl z rfl ?_ ?_; exact HT1.out)
  go_wp2_with fail
  refine region_rel (by kernel_rfl) (by kernel_rfl) [some 54, some 55, some 56, some 57, some 58, some 53, some 59, some 60, some 12, some 13, none, none] (by kernel_rfl) (UnR w1 w4 z q t) ?_ ?_ ?_
  · exact unr_start HN1.out HB1.out HL.out
  · intro i o L V AC WW ho hL hf hR K hK
    obtain ⟨hX, hBe, hlt4, h0, h1, h2, h3, h4, h5, h6, h7, h8, h9, hne, h10, h11⟩ := hR
    have hlt : i < 12 := (Array.getElem?_eq_some_iff.1 ho).1
    have hsz := hf.size
    rcases i with _ | _ | _ | _ | _ | _ | _ | _ | _ | _ | _ | _ | i
    · obtain rfl := Option.some.inj (show some _ = some o from ho)
      rw [if_pos (by rfl)]
      have q : AC.tmps.getD 11 undef = .pointer (some ⟨w4.heap.size, 0, none⟩) := hf.rest 11 (by kernel_rfl)
      go_simp
      exact hK _ _ ⟨hX, hBe, hlt4, fun _ => rfl, h1, h2, h3, h4, h5, h6, h7, h8, h9, hne, h10, h11⟩
    · obtain rfl := Option.some.inj (show some _ = some o from ho)
      rw [if_pos (by rfl)]
      have q54 : AC.tmps.getD 54 undef = _ := (hf.dep ⟨0, .data⟩ (by simp) rfl 54 rfl).trans (h0 (hf.up ⟨0, .data⟩ (by simp) rfl))
      refine wp_load_mid _ _ rfl w4.heap.size 1 q54 (du (dg 10 z)) _ ?_ Try.underlying56 rfl (info_du z) (hK _ _ ⟨hX, hBe, hlt4, h0, fun _ => rfl, h2, h3, h4, h5, h6, h7, h8, h9, hne, h10, h11⟩)
      have := hX.ndigits; rwa [HAZ.out] at this
    · obtain rfl := Option.some.inj (show some _ = some o from ho)
      rw [if_pos (by rfl)]
      go_simp
      refine (HO2.out _).mono ?_
      rintro e w5 ⟨rfl, hb⟩
      exact hK _ _ ⟨hX.keeps hb, below_on hBe hBe.size hb, Nat.lt_of_lt_of_le hlt4 hb.size, h0, h1, fun _ => rfl, h3, h4, h5, h6, h7, (fun x => let ⟨g, e1, e2, e3⟩ := h8 x; ⟨g, e1, e2, e3.keeps hb⟩), (fun x => let ⟨g, e1, e2, e3⟩ := h9 x; ⟨g, e1, e2, e3.keeps hb⟩), hne, h10, h11⟩
    · obtain rfl := Option.some.inj (show some _ = some o from ho)
      rw [if_pos (by rfl)]
      have q56 : AC.tmps.getD 56 undef = _ := (hf.dep ⟨2, .data⟩ (by simp) rfl 56 rfl).trans (h2 (hf.up ⟨2, .data⟩ (by simp) rfl))
      go_simp
      exact hK _ _ ⟨hX, hBe, hlt4, h0, h1, h2, fun _ => rfl, h4, h5, h6, h7, h8, h9, hne, h10, h11⟩
    · obtain rfl := Option.some.inj (show some _ = some o from ho)
      rw [if_pos (by rfl)]
      have q55 : AC.tmps.getD 55 undef = _ := (hf.dep ⟨1, .data⟩ (by simp) rfl 55 rfl).trans (h1 (hf.up ⟨1, .data⟩ (by simp) rfl))
      have q57 : AC.tmps.getD 57 undef = _ := (hf.dep ⟨3, .data⟩ (by simp) rfl 57 rfl).trans (h3 (hf.up ⟨3, .data⟩ (by simp) rfl))
      go_simp
      refine (HD.out _).mono ?_
      rintro e w5 ⟨rfl, hb⟩
      exact hK _ _ ⟨hX.keeps hb, below_on hBe hBe.size hb, Nat.lt_of_lt_of_le hlt4 hb.size, h0, h1, h2, h3, fun _ => rfl, h5, h6, h7, (fun x => let ⟨g, e1, e2, e3⟩ := h8 x; ⟨g, e1, e2, e3.keeps hb⟩), (fun x => let ⟨g, e1, e2, e3⟩ := h9 x; ⟨g, e1, e2, e3.keeps hb⟩), hne, h10, h11⟩
    · obtain rfl := Option.some.inj (show some _ = some o from ho)
      rw [if_pos (by rfl)]
      have q58 : AC.tmps.getD 58 undef = _ := (hf.dep ⟨4, .data⟩ (by simp) rfl 58 rfl).trans (h4 (hf.up ⟨4, .data⟩ (by simp) rfl))
      go_simp
      exact hK _ _ ⟨hX, hBe, hlt4, h0, h1, h2, h3, h4, fun _ => rfl, h6, h7, h8, h9, hne, h10, h11⟩
    · obtain rfl := Option.some.inj (show some _ = some o from ho)
      rw [if_pos (by rfl)]
      have q53 : AC.tmps.getD 53 undef = _ := (hf.dep ⟨5, .data⟩ (by simp) rfl 53 rfl).trans (h5 (hf.up ⟨5, .data⟩ (by simp) rfl))
      go_simp
      exact hK _ _ ⟨hX, hBe, hlt4, h0, h1, h2, h3, h4, h5, fun _ => rfl, h7, h8, h9, hne, h10, h11⟩
    · obtain rfl := Option.some.inj (show some _ = some o from ho)
      rw [if_pos (by rfl)]
      have q53 : AC.tmps.getD 53 undef = _ := (hf.dep ⟨5, .data⟩ (by simp) rfl 53 rfl).trans (h5 (hf.up ⟨5, .data⟩ (by simp) rfl))
      go_simp
      exact hK _ _ ⟨hX, hBe, hlt4, h0, h1, h2, h3, h4, h5, h6, fun _ => rfl, h8, h9, hne, h10, h11⟩
    · obtain rfl := Option.some.inj (show some _ = some o from ho)
      rw [if_pos (by rfl)]
      have hn10 : L 10 = false := by
        cases hc : L 10 with
        | false => rfl
        | true => rw [h10 hc] at hL; cases hL
      go_simp
      refine hK _ _ ⟨hX.alloc _, hBe.alloc hBe.size _, by simp; omega, h0, h1, h2, h3, h4, h5, h6, h7, fun _ => ⟨_, rfl, hlt4, ?_⟩, fun x => let ⟨g, e1, e2, e3⟩ := h9 x; ⟨g, e1, e2, e3.alloc _⟩, fun _ x => ?_, fun _ => rfl, h11⟩
      · show Blk _ _ _ (du (if L 10 = true then _ else _))
        rw [hn10]
        exact Blk.new WW 56 (du z10)
      · obtain ⟨g, e1, e2, e3⟩ := h9 x
        show _ ≠ V 9
        rw [e1]
        intro hc
        have := e3.lt
        simp at hc; try omega
    · obtain rfl := Option.some.inj (show some _ = some o from ho)
      rw [if_pos (by rfl)]
      have hn11 : L 11 = false := by
        cases hc : L 11 with
        | false => rfl
        | true => rw [h11 hc] at hL; cases hL
      go_simp
      refine hK _ _ ⟨hX.alloc _, hBe.alloc hBe.size _, by simp; omega, h0, h1, h2, h3, h4, h5, h6, h7, fun x => let ⟨g, e1, e2, e3⟩ := h8 x; ⟨g, e1, e2, e3.alloc _⟩, fun _ => ⟨_, rfl, hlt4, ?_⟩, fun x _ => ?_, h10, fun _ => rfl⟩
      · show Blk _ _ _ (du (if L 11 = true then _ else _))
        rw [hn11]
        exact Blk.new WW 56 (du z10)
      · obtain ⟨g, e1, e2, e3⟩ := h8 x
        show V 8 ≠ _
        rw [e1]
        intro hc
        have := e3.lt
        simp at hc; try omega
    · obtain rfl := Option.some.inj (show some _ = some o from ho)
      rw [if_pos (by rfl)]
      obtain ⟨g, e1, e2, e3⟩ := h8 (hf.up ⟨8, .data⟩ (by simp) rfl)
      have l9 := hf.up ⟨9, .phase⟩ (by simp) rfl
      have l8 := hf.up ⟨8, .data⟩ (by simp) rfl
      rw [hL, if_neg (by decide)] at e3
      have qa : AC.tmps.getD 12 undef = .pointer (some ⟨g, 0, none⟩) := (hf.dep ⟨8, .data⟩ (by simp) rfl 12 rfl).trans e1
      have qb : AC.tmps.getD 59 undef = .agg (ds (dg 10 q)) := (hf.dep ⟨6, .data⟩ (by simp) rfl 59 rfl).trans (h6 (hf.up ⟨6, .data⟩ (by simp) rfl))
      have hdiff : ∀ g', V 9 = .pointer (some ⟨g', 0, none⟩) → g' ≠ g := by
        rintro g' e rfl
        exact hne l8 l9 (by rw [e1, e])
      have hthere := e3.thereZ
      have hnew := e3.setZ q
      refine wp_store_mid _ _ _ rfl g 0 (ds (dg 10 q)) qa qb (by rw [ds_size10]; exact hthere) (by rw [ds_size10]; exact info_arr) (ds_all _) (hK _ _ ⟨hX.otherCells _ _ (by omega), below_setCells _ _ hBe (by have := hBe.size; have := e3.lt; exact Nat.le_trans HSZ.out (Nat.le_of_lt e2)), by rw [heap_size_setCells]; exact hlt4, h0, h1, h2, h3, h4, h5, h6, h7, ?_, ?_, hne, ?_, ?_⟩)
      · exact fun _ => ⟨g, e1, e2, hnew⟩
      · intro x; obtain ⟨g2, f1, f2, f3⟩ := h9 x; exact ⟨g2, f1, f2, f3.otherCells _ _ (hdiff g2 f1)⟩
      · exact fun _ => l8
      · exact h11
    · obtain rfl := Option.some.inj (show some _ = some o from ho)
      rw [if_pos (by rfl)]
      obtain ⟨g, e1, e2, e3⟩ := h9 (hf.up ⟨9, .data⟩ (by simp) rfl)
      have l8 := hf.up ⟨8, .phase⟩ (by simp) rfl
      have l9 := hf.up ⟨9, .data⟩ (by simp) rfl
      rw [hL, if_neg (by decide)] at e3
      have qa : AC.tmps.getD 13 undef = .pointer (some ⟨g, 0, none⟩) := (hf.dep ⟨9, .data⟩ (by simp) rfl 13 rfl).trans e1
      have qb : AC.tmps.getD 60 undef = .agg (ds (dg 10 t)) := (hf.dep ⟨7, .data⟩ (by simp) rfl 60 rfl).trans (h7 (hf.up ⟨7, .data⟩ (by simp) rfl))
      have hdiff : ∀ g', V 8 = .pointer (some ⟨g', 0, none⟩) → g' ≠ g := by
        rintro g' e rfl
        exact hne l8 l9 (by rw [e1, e])
      have hthere := e3.thereZ
      have hnew := e3.setZ t
      refine wp_store_mid _ _ _ rfl g 0 (ds (dg 10 t)) qa qb (by rw [ds_size10]; exact hthere) (by rw [ds_size10]; exact info_arr) (ds_all _) (hK _ _ ⟨hX.otherCells _ _ (by omega), below_setCells _ _ hBe (by have := hBe.size; have := e3.lt; exact Nat.le_trans HSZ.out (Nat.le_of_lt e2)), by rw [heap_size_setCells]; exact hlt4, h0, h1, h2, h3, h4, h5, h6, h7, ?_, ?_, hne, ?_, ?_⟩)
      · intro x; obtain ⟨g2, f1, f2, f3⟩ := h8 x; exact ⟨g2, f1, f2, f3.otherCells _ _ (hdiff g2 f1)⟩
      · exact fun _ => ⟨g, e1, e2, hnew⟩
      · exact h10
      · exact fun _ => l9
    · omega
  · intro L V WW hall hR
    obtain ⟨hX, hBe, hlt4, h0, h1, h2, h3, h4, h5, h6, h7, h8, h9, hne, h10, h11⟩ := hR
    obtain ⟨g8, e8, f8, b8⟩ := h8 (hall 8 (by decide))
    obtain ⟨g9, e9, f9, b9⟩ := h9 (hall 9 (by decide))
    rw [if_pos (hall 10 (by decide))] at b8
    rw [if_pos (hall 11 (by decide))] at b9
    have v0 := h0 (hall 0 (by decide)); have v1 := h1 (hall 1 (by decide)); have v2 := h2 (hall 2 (by decide)); have v3 := h3 (hall 3 (by decide))
    have v4 := h4 (hall 4 (by decide)); have v5 := h5 (hall 5 (by decide)); have v6 := h6 (hall 6 (by decide)); have v7 := h7 (hall 7 (by decide))
    have hne2 : g8 ≠ g9 := by
      rintro rfl
      exact hne (hall 8 (by decide)) (hall 9 (by decide)) (by rw [e8, e9])
    have hlt8 := b8.lt
    have hlt9 := b9.lt
    clear h0 h1 h2 h3 h4 h5 h6 h7 h8 h9 hne h10 h11 hall
    simp only [pairsOf, laid, Nat.zero_add, Nat.reduceAdd, v0, v1, v2, v3, v4, v5, v6, v7, e8, e9, List.setIfInBounds_toArray, List.set_cons_zero, List.set_cons_succ]
    clear v0 v1 v2 v3 v4 v5 v6 v7 e8 e9
    rename_i KK HKK
    show KK _ _
    refine HKK _ _ ?_
    clear HKK
    have B8 := Lib.hid b8
    have B9 := Lib.hid b9
    clear b8 b9 hX HD HP HO HO2 HT HM HAZ NZ HZ HT1 HN1 HL HSZ
    go_wp2_with (refine ld_arr rfl _ rfl g8 0 rfl _ (len10 _) B8.out.range ?_)
    · rename_i h
      have e : (ds (dg 10 q)).size = 10 := ds_size10 _
      simp [e] at h
    rw [build_ns _ (len10 _)]
    refine (HCQ.out _).mono ?_
    rintro e w5 ⟨rfl, hb5⟩
    have hBe5 := Lib.hid (below_on hBe hBe.size hb5)
    have B9' := Lib.hid (B9.out.keeps hb5)
    clear hBe hb5 B8 B9
    go_wp2_with (refine ld_arr rfl _ rfl g9 0 rfl _ (len10 _) B9'.out.range ?_)
    rw [build_ns _ (len10 _)]
    refine (HCR.out _).mono ?_
    rintro e w6 ⟨rfl, hb6⟩
    have hBe6 := Lib.hid (below_on hBe5.out hBe5.out.size hb6)
    clear hBe5 hb6 B9'
    go_wp2
    exact bodyPost_ret (v := .tuple #[.int .i64 q, .int .i64 t, .int .i64 0]) (by simp [results, Try.results19, go_sem]) rfl ⟨rfl, hBe6.out⟩
end Go.Proofs.Ytlbnednpagddaaa
