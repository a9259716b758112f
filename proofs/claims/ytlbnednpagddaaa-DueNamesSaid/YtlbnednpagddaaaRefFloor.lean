/-
  The walk of the reference's Floor at numbers that aren't below nought.
-/
import Derived.Test.YtlbnednpagddaaaWideNN
set_option linter.unusedVariables false
set_option linter.unusedSimpArgs false
namespace Go.Proofs.Ytlbnednpagddaaa
open Go.RowKit Dg

theorem field_ns (m : Bool) (w : World) : (D : List Int) → (h : D.length = 10) → (Instr.field 58 (.agg (ns m D)) 1).run Try.prog w = .ok (.agg (ds D)) w
  | [a, b, c, d, e, f, g, h, i, j], _ => by rfl
theorem build_num : (D : List Int) → (h : D.length = 10) → Array.foldl (fun (cs : Array Value) (x : Value × Nat) => cs.setIfInBounds (1 + x.snd) x.fst) #[.bool false, .int .u64 0, .int .u64 0, .int .u64 0, .int .u64 0, .int .u64 0, .int .u64 0, .int .u64 0, .int .u64 0, .int .u64 0, .int .u64 0] (ds D).zipIdx 0 (ds D).size = ns false D
  | [a, b, c, d, e, f, g, h, i, j], _ => by simp [ds, du, ns, nu]
/-- What stands while the region that makes the rounded number runs. -/
def RoR (ws : World) (b10 : Nat) (Dq : List Int) (L : Nat → Bool) (V : Nat → Value) (W : World) : Prop :=
  Below ws.heap.size ws W ∧ (L 0 = true → V 0 = .pointer (some ⟨b10, 0, none⟩)) ∧ (L 1 = true → V 1 = .bool false) ∧ (L 2 = true → V 2 = .bool false) ∧ (L 6 = true → V 6 = .bool false) ∧ (L 7 = true → V 7 = .agg (ds Dq)) ∧ (L 8 = true → V 8 = .agg (ns false Dq)) ∧
  (L 9 = true → ∃ g, V 9 = .pointer (some ⟨g, 0, none⟩) ∧ ws.heap.size ≤ g ∧ Blk W g 58 (nu false (if L 10 = true then Dq else z10))) ∧ (L 10 = true → L 9 = true)
theorem ro_start {ws : World} {b10 : Nat} {Dq : List Int} : RoR ws b10 Dq (fun _ => false) (fun _ => undef) ws.drew := ⟨(Below.refl _ _).drew, nofun, nofun, nofun, nofun, nofun, nofun, nofun, nofun⟩
set_option maxRecDepth 8000 in
set_option maxHeartbeats 3200000 in
theorem round_core (a b c q : Int) (hc0 : 0 < c) (Dz Dc Dq Dr : List Int) (lz : Dz.length = 10) (lc : Dc.length = 10) (lq : Dq.length = 10) (lr : Dr.length = 10)
    (hT : ∀ W, Calls Try.prog 26 #[.int .i64 a, .int .i64 b] W fun e w' => e = .returned (.agg (ns false Dz)) ∧ Below W.heap.size W w')
    (hO : ∀ W, Calls Try.prog 27 #[.int .i64 c] W fun e w' => e = .returned (.agg (ns false Dc)) ∧ Below W.heap.size W w')
    (hD : ∀ W, Calls Try.prog 28 #[.agg (ds Dz), .agg (ds Dc)] W fun e w' => e = .returned (.tuple #[.agg (ds Dq), .agg (ds Dr)]) ∧ Below W.heap.size W w')
    (hC : ∀ W, Calls Try.prog 29 #[.agg (ns false Dq)] W fun e w' => e = .returned (.tuple #[.int .i64 q, .int .i64 0]) ∧ Below W.heap.size W w') (w : World) :
    Calls Try.prog 45 #[.int .i64 a, .int .i64 b, .int .i64 c, .int .i64 0] w fun e w' => e = .returned (.tuple #[.int .i64 q, .int .i64 0]) ∧ Below w.heap.size w w' := by
  have HT := Lib.hid hT
  have HO := Lib.hid hO
  have HD := Lib.hid hD
  have HC := Lib.hid hC
  have LZ := Lib.hid lz
  have LC := Lib.hid lc
  have LQ := Lib.hid lq
  have LR := Lib.hid lr
  clear hT hO hD hC lz lc lq lr
  go_enter Try.func45, Try.ntmps45
  go_wp2_with fail
  refine (HT.out _).mono ?_
  rintro e w1 ⟨rfl, hb1⟩
  have B1 := Lib.hid hb1
  clear hb1
  have hN0 := Blk.new w1 58 (nu false z10)
  have HT1 := Lib.hid (hN0.thereMid 0 11 (by decide))
  have HN1 := Lib.hid (hN0.setAll (nu false Dz) (by rw [nu_len, LZ.out]; rfl))
  have B2 := Lib.hid (below_setCells (b := w1.heap.size) (nu false Dz) 0 (B1.out.alloc B1.out.size (.cells (nu false z10).toArray 58)) B1.out.size)
  clear hN0
  go_wp2_with (refine st_num rfl (.tmp 10) (.tmp 22) rfl w1.heap.size 0 rfl false Dz rfl LZ.out HT1.out ?_)
  refine (HO.out _).mono ?_
  rintro e w2 ⟨rfl, hb2⟩
  have HN2 := Lib.hid (HN1.out.keeps hb2)
  have B3 := Lib.hid (below_on B2.out B2.out.size hb2)
  have HL2 : Hid (w1.heap.size < w2.heap.size) := HN2.out.lt
  clear hb2 HT1 HN1
  have hfd := fun w => field_ns false w Dc LC.out
  have hA0 := Blk.new w2 56 (du z10)
  have HT2 := Lib.hid hA0.thereZ
  have HA1 := Lib.hid (hA0.setAll (du Dc) (by rw [du_len, LC.out]; rfl))
  have HN3 := Lib.hid (Blk.otherCells (b' := w2.heap.size) (du Dc) 0 (HN2.out.alloc (.cells (du z10).toArray 56)) (by have := HL2.out; omega))
  have B4 := Lib.hid (below_setCells (b := w2.heap.size) (du Dc) 0 (B3.out.alloc B3.out.size (.cells (du z10).toArray 56)) B3.out.size)
  have HRG := Lib.hid (HN3.out.digits LZ.out)
  clear hA0 HN2 B3
  go_wp2_with (first | (refine st_arr rfl (.tmp 11) (.tmp 25) rfl w2.heap.size 0 rfl Dc rfl LC.out HT2.out ?_) | (refine ld_arr rfl (.tmp 27) rfl w1.heap.size 1 rfl Dz LZ.out HRG.out ?_) | (refine ld_arr rfl (.tmp 11) rfl w2.heap.size 0 rfl Dc LC.out HA1.out.range ?_))
  refine (HD.out _).mono ?_
  rintro e w3 ⟨rfl, hb3⟩
  have HN4 := Lib.hid (HN3.out.keeps hb3)
  have B5 := Lib.hid (below_on B4.out B4.out.size hb3)
  clear hb3 HT2 HA1 HN3 B4 HRG hfd
  have hQ0 := (Blk.new w3 56 (du z10)).alloc (.cells (du z10).toArray 56)
  have hR0 := Blk.new2 w3 (.cells (du z10).toArray 56) 56 (du z10)
  have HTQ := Lib.hid hQ0.thereZ
  have hR1 := Blk.otherCells (b' := w3.heap.size) (du Dq) 0 hR0 (by omega)
  have hQ1 := hQ0.setAll (du Dq) (by rw [du_len, LQ.out]; rfl)
  have HTR := Lib.hid hR1.thereZ
  have HQ := Lib.hid (Blk.otherCells (b' := w3.heap.size + 1) (du Dr) 0 hQ1 (by omega))
  have hlt := HN4.out.lt
  have HN := Lib.hid (Blk.otherCells (b' := w3.heap.size + 1) (du Dr) 0 (Blk.otherCells (b' := w3.heap.size) (du Dq) 0 ((HN4.out.alloc (.cells (du z10).toArray 56)).alloc (.cells (du z10).toArray 56)) (by omega)) (by omega))
  have BZ := Lib.hid (below_setCells (b := w3.heap.size + 1) (du Dr) 0 (below_setCells (b := w3.heap.size) (du Dq) 0 ((B5.out.alloc B5.out.size (.cells (du z10).toArray 56)).alloc (by have := B5.out.size; simp; omega) (.cells (du z10).toArray 56)) B5.out.size) (by have := B5.out.size; omega))
  clear hQ0 hR0 hR1 hQ1 hlt HN4 B5
  go_wp2_with (first | (refine st_arr rfl (.tmp 12) (.tmp 31) rfl w3.heap.size 0 rfl Dq rfl LQ.out HTQ.out ?_) | (refine st_arr rfl (.tmp 13) (.tmp 32) rfl (w3.heap.size + 1) 0 rfl Dr rfl LR.out HTR.out ?_))
  have hbs := HN.out
  have hbq := HQ.out
  go_wp2_with fail
  refine region_rel (by kernel_rfl) (by kernel_rfl) [some 33, some 34, some 35, some 36, some 37, some 38, some 39, some 40, some 41, some 14, none] (by kernel_rfl) (RoR _ w1.heap.size Dq) ro_start ?_ ?_
  · intro i o L V AC WW ho hL hf hR K hK
    obtain ⟨hbw, h0, h1, h2, h6, h7, h8, h9, h10⟩ := hR
    have hlt : i < 11 := (Array.getElem?_eq_some_iff.1 ho).1
    have hsz := hf.size
    rcases i with _ | _ | _ | _ | _ | _ | _ | _ | _ | _ | _ | i
    · obtain rfl := Option.some.inj (show some _ = some o from ho)
      rw [if_pos (by rfl)]
      have q10 : AC.tmps.getD 10 undef = .pointer (some ⟨w1.heap.size, 0, none⟩) := hf.rest 10 (by kernel_rfl)
      go_simp
      exact hK _ _ ⟨hbw, fun _ => rfl, h1, h2, h6, h7, h8, h9, h10⟩
    · obtain rfl := Option.some.inj (show some _ = some o from ho)
      rw [if_pos (by rfl)]
      have q33 : AC.tmps.getD 33 undef = _ := (hf.dep ⟨0, .data⟩ (by simp) rfl 33 rfl).trans (h0 (hf.up ⟨0, .data⟩ (by simp) rfl))
      have hk := Blk.keeps hbs hbw
      have z0 := hk.cell 0 _ rfl
      go_simp
      exact hK _ _ ⟨hbw, h0, fun _ => rfl, h2, h6, h7, h8, h9, h10⟩
    · obtain rfl := Option.some.inj (show some _ = some o from ho)
      rw [if_pos (by rfl)]
      have q34 : AC.tmps.getD 34 undef = _ := (hf.dep ⟨1, .data⟩ (by simp) rfl 34 rfl).trans (h1 (hf.up ⟨1, .data⟩ (by simp) rfl))
      go_simp
      exact hK _ _ ⟨hbw, h0, h1, fun _ => rfl, h6, h7, h8, h9, h10⟩
    · obtain rfl := Option.some.inj (show some _ = some o from ho)
      rw [if_neg (wanted_no (s := 35) rfl rfl rfl (by rw [hf.size]; simp) ((hf.dep ⟨2, .guard⟩ (by simp) rfl 35 rfl).trans (h2 (hf.up ⟨2, .guard⟩ (by simp) rfl))) rfl)]
      exact hK _ _ ⟨hbw, h0, h1, h2, h6, h7, h8, h9, h10⟩
    · obtain rfl := Option.some.inj (show some _ = some o from ho)
      rw [if_neg (wanted_no (s := 35) rfl rfl rfl (by rw [hf.size]; simp) ((hf.dep ⟨2, .guard⟩ (by simp) rfl 35 rfl).trans (h2 (hf.up ⟨2, .guard⟩ (by simp) rfl))) rfl)]
      exact hK _ _ ⟨hbw, h0, h1, h2, h6, h7, h8, h9, h10⟩
    · obtain rfl := Option.some.inj (show some _ = some o from ho)
      rw [if_neg (wanted_no (s := 35) rfl rfl rfl (by rw [hf.size]; simp) ((hf.dep ⟨2, .guard⟩ (by simp) rfl 35 rfl).trans (h2 (hf.up ⟨2, .guard⟩ (by simp) rfl))) rfl)]
      exact hK _ _ ⟨hbw, h0, h1, h2, h6, h7, h8, h9, h10⟩
    · obtain rfl := Option.some.inj (show some _ = some o from ho)
      rw [if_pos (by rfl)]
      have q35 : AC.tmps.getD 35 undef = _ := (hf.dep ⟨2, .data⟩ (by simp) rfl 35 rfl).trans (h2 (hf.up ⟨2, .data⟩ (by simp) rfl))
      go_simp
      exact hK _ _ ⟨hbw, h0, h1, h2, fun _ => rfl, h7, h8, h9, h10⟩
    · obtain rfl := Option.some.inj (show some _ = some o from ho)
      rw [if_pos (by rfl)]
      have q12 : AC.tmps.getD 12 undef = .pointer (some ⟨w3.heap.size, 0, none⟩) := hf.rest 12 (by kernel_rfl)
      have hk := Blk.keeps hbq hbw
      exact wp_load_mid _ _ rfl w3.heap.size 0 q12 (du Dq) _ hk.range Try.underlying56 rfl (by rw [du_len, LQ.out]; exact info_arr) (hK _ _ ⟨hbw, h0, h1, h2, h6, fun _ => rfl, h8, h9, h10⟩)
    · obtain rfl := Option.some.inj (show some _ = some o from ho)
      rw [if_pos (by rfl)]
      have q39 : AC.tmps.getD 39 undef = _ := (hf.dep ⟨6, .data⟩ (by simp) rfl 39 rfl).trans (h6 (hf.up ⟨6, .data⟩ (by simp) rfl))
      have q40 : AC.tmps.getD 40 undef = _ := (hf.dep ⟨7, .data⟩ (by simp) rfl 40 rfl).trans (h7 (hf.up ⟨7, .data⟩ (by simp) rfl))
      have e40 : (ds Dq).size = 10 := by rw [ds_size, LQ.out]
      rw [Array.getD_eq_getD_getElem?] at q39 q40
      clear hsz
      go_simp
      have hbn := build_num Dq LQ.out
      rw [e40] at hbn
      rw [hbn]
      exact hK _ _ ⟨hbw, h0, h1, h2, h6, h7, fun _ => rfl, h9, h10⟩
    · obtain rfl := Option.some.inj (show some _ = some o from ho)
      rw [if_pos (by rfl)]
      have hn10 : L 10 = false := by
        cases hc : L 10 with
        | false => rfl
        | true => rw [h10 hc] at hL; cases hL
      go_simp
      refine hK _ _ ⟨hbw.alloc hbw.size _, h0, h1, h2, h6, h7, h8, fun _ => ⟨_, rfl, hbw.size, ?_⟩, fun _ => rfl⟩
      show Blk _ _ _ (nu false (if L 10 = true then _ else _))
      rw [hn10]
      exact Blk.new WW 58 (nu false z10)
    · obtain rfl := Option.some.inj (show some _ = some o from ho)
      rw [if_pos (by rfl)]
      obtain ⟨g, e1, e2, e3⟩ := h9 (hf.up ⟨9, .data⟩ (by simp) rfl)
      have l9 := hf.up ⟨9, .data⟩ (by simp) rfl
      rw [hL, if_neg (by decide)] at e3
      have qa : AC.tmps.getD 14 undef = .pointer (some ⟨g, 0, none⟩) := (hf.dep ⟨9, .data⟩ (by simp) rfl 14 rfl).trans e1
      have qb : AC.tmps.getD 41 undef = .agg (ns false Dq) := (hf.dep ⟨8, .data⟩ (by simp) rfl 41 rfl).trans (h8 (hf.up ⟨8, .data⟩ (by simp) rfl))
      have hthere := e3.thereMid 0 11 (by decide)
      have hnew := e3.setAll (nu false Dq) (by rw [nu_len, LQ.out]; rfl)
      refine wp_store_mid _ _ _ rfl g 0 (ns false Dq) qa qb (by rw [ns_size, LQ.out]; exact hthere) (by rw [ns_size, LQ.out]; exact info_num) (ns_all _ _) (hK _ _ ⟨below_setCells _ _ hbw e2, h0, h1, h2, h6, h7, h8, ?_, fun _ => l9⟩)
      exact fun _ => ⟨g, e1, e2, hnew⟩
    · omega
  · intro L V WW hall hR
    obtain ⟨hbw, h0, h1, h2, h6, h7, h8, h9, h10⟩ := hR
    obtain ⟨g, e9, g9, b9⟩ := h9 (hall 9 (by decide))
    rw [if_pos (hall 10 (by decide))] at b9
    have v0 := h0 (hall 0 (by decide)); have v1 := h1 (hall 1 (by decide)); have v2 := h2 (hall 2 (by decide)); have v6 := h6 (hall 6 (by decide)); have v7 := h7 (hall 7 (by decide)); have v8 := h8 (hall 8 (by decide))
    clear h0 h1 h2 h6 h7 h8 h9 h10 hall
    simp only [pairsOf, laid, Nat.zero_add, Nat.reduceAdd, v0, v1, v2, v6, v7, v8, e9, List.setIfInBounds_toArray, List.set_cons_zero, List.set_cons_succ]
    clear v0 v1 v2 v6 v7 v8 e9
    rename_i KK HKK
    show KK _ _
    refine HKK _ _ ?_
    clear HKK
    have HG := Lib.hid b9
    have hk := Blk.keeps hbs hbw
    have z0 := hk.cell 0 _ rfl
    have HBW := Lib.hid (Below.trans BZ.out (hbw.mono BZ.out.size))
    clear b9 hbw hk hbs hbq
    go_wp2_with (refine ld_num rfl (.tmp 14) rfl g 0 rfl false Dq LQ.out HG.out.range ?_)
    refine (HC.out _).mono ?_
    rintro e w6 ⟨rfl, hb6⟩
    have HB6 := Lib.hid (below_on HBW.out HBW.out.size hb6)
    clear hb6
    go_wp2
    go_ret2
    exact ⟨rfl, HB6.out⟩
theorem round_nn (a b c : Int) (ha0 : 0 ≤ a) (ha : a ≤ 9223372036854775807) (hb0 : 0 ≤ b) (hb : b ≤ 9223372036854775807) (hc0 : 0 < c) (hc : c ≤ 9223372036854775807) (hab : a * b ≤ 100000000000000000000) (hq : a * b / c ≤ 9223372036854775807) (w : World) :
    Calls Try.prog 45 #[.int .i64 a, .int .i64 b, .int .i64 c, .int .i64 0] w fun e w' => e = .returned (.tuple #[.int .i64 (a * b / c), .int .i64 0]) ∧ Below w.heap.size w w' := by
  have hz0 : 0 ≤ a * b := Int.mul_nonneg ha0 hb0
  have hq0 : 0 ≤ a * b / c := Int.ediv_nonneg hz0 (by omega)
  refine round_core a b c (a * b / c) hc0 (dg 10 (a * b)) (dg 10 c) (dg 10 (a * b / c)) (dg 10 (a * b % c)) (len10 _) (len10 _) (len10 _) (len10 _) (fun W => ?_) (fun W => ?_) (fun W => ?_) (fun W => ?_) w
  · have := times_any a b (by omega) ha (by omega) hb W
    rwa [show N (a * b) = ns false (dg 10 (a * b)) from N_pos hz0] at this
  · have := of_any c (by omega) hc W
    rwa [show N c = ns false (dg 10 c) from N_pos (by omega)] at this
  · exact divide_any (a * b) c hz0 (by omega) hc0 (by omega) W
  · have := cut_any (a * b / c) (by rw [absI_pos hq0]; omega) W
    rw [cutI_in (by omega) (by omega), show N (a * b / c) = ns false (dg 10 (a * b / c)) from N_pos hq0] at this
    exact this
theorem rfloor_nn (a b c : Int) (ha0 : 0 ≤ a) (ha : a ≤ 9223372036854775807) (hb0 : 0 ≤ b) (hb : b ≤ 9223372036854775807) (hc0 : 0 < c) (hc : c ≤ 9223372036854775807) (hab : a * b ≤ 100000000000000000000) (hq : a * b / c ≤ 9223372036854775807) (w : World) :
    Calls Try.prog 39 #[.int .i64 a, .int .i64 b, .int .i64 c] w fun e w' => e = .returned (.tuple #[.int .i64 (a * b / c), .int .i64 0]) ∧ Below w.heap.size w w' := by
  have H := Lib.hid (round_nn a b c ha0 ha hb0 hb hc0 hc hab hq w)
  obtain ⟨q, hq'⟩ : ∃ q, a * b / c = q := ⟨_, rfl⟩
  rw [hq'] at H ⊢
  clear hq' hq hab
  go_enter Try.func39, Try.ntmps39
  go_wp2_with fail
  refine H.out.mono ?_
  rintro e w1 ⟨rfl, hb⟩
  go_wp2
  go_ret2
  exact ⟨rfl, hb⟩
end Go.Proofs.Ytlbnednpagddaaa
