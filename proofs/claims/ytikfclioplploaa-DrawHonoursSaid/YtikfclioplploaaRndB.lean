/-
  The walk of the reference's round, at any sign, both ways.
-/
import Derived.Test.YtikfclioplploaaRndA
set_option linter.unusedVariables false
set_option linter.unusedSimpArgs false
set_option maxRecDepth 20000
namespace Go.Proofs.Ytikfclioplploaa
open Go.RowKit Dg

set_option maxRecDepth 8000 in
set_option maxHeartbeats 6400000 in
theorem rnd_1f (a b c : Int) (hc0 : 0 < c) (k kr u : Bool) (Dz Dc Dq Dr D1 Ds : List Int) (lz : Dz.length = 10) (lc : Dc.length = 10) (lq : Dq.length = 10) (lr : Dr.length = 10) (l1 : D1.length = 10) (ls : Ds.length = 10) (eq : EqD Dq (!k)) (er : EqD Dr kr)
    (hT : ∀ W, Calls Try.prog 65 #[.int .i64 a, .int .i64 b] W fun e w' => e = .returned (.agg (ns false Dz)) ∧ Below W.heap.size W w')
    (hO : ∀ W, Calls Try.prog 66 #[.int .i64 c] W fun e w' => e = .returned (.agg (ns false Dc)) ∧ Below W.heap.size W w')
    (hD : ∀ W, Calls Try.prog 67 #[.agg (ds Dz), .agg (ds Dc)] W fun e w' => e = .returned (.tuple #[.agg (ds Dq), .agg (ds Dr)]) ∧ Below W.heap.size W w')
    (hO1 : ∀ W, Calls Try.prog 66 #[.int .i64 1] W fun e w' => e = .returned (.agg (ns false D1)) ∧ Below W.heap.size W w')
    (x : Int × Int)
    (hC : u = false → ∀ W, Calls Try.prog 71 #[.agg (ns false Dq)] W fun e w' => e = .returned (.tuple #[.int .i64 x.1, .int .i64 x.2]) ∧ Below W.heap.size W w')
    (hP : u = true → ∀ W, Calls Try.prog 70 #[.agg (ns false Dq), .agg (ns false D1)] W fun e w' => e = .returned (.agg (ns false Ds)) ∧ Below W.heap.size W w')
    (hCs : u = true → ∀ W, Calls Try.prog 71 #[.agg (ns false Ds)] W fun e w' => e = .returned (.tuple #[.int .i64 x.1, .int .i64 x.2]) ∧ Below W.heap.size W w')
    (Dt : List Int) (o d0 : Int) (hS : ∀ W, Calls Try.prog 69 #[.agg (ds Dr)] W fun e w' => e = .returned (.agg (ds Dt)) ∧ Below W.heap.size W w') (hL : ∀ W, Calls Try.prog 68 #[.agg (ds Dt), .agg (ds Dc)] W fun e w' => e = .returned (.int .i64 o) ∧ Below W.heap.size W w') (hd : (du Dq)[0]? = some (.int .u64 d0)) (hd0 : 0 ≤ d0) (hd1 : d0 < 65536)
    (hu : (o = 1 ∧ u = true) ∨ (o = -1 ∧ u = false) ∨ (o = 0 ∧ d0 % 2 = 1 ∧ u = true) ∨ (o = 0 ∧ d0 % 2 = 0 ∧ u = false)) (w : World) :
    Calls Try.prog 56 #[.int .i64 a, .int .i64 b, .int .i64 c, .int .i64 1] w fun e w' => e = .returned (.tuple #[.int .i64 x.1, .int .i64 x.2]) ∧ Below w.heap.size w w' := by
  have HT := Lib.hid hT
  have HO := Lib.hid hO
  have HD := Lib.hid hD
  have HCi := Lib.hid hC
  have HPi := Lib.hid hP
  have HCsi := Lib.hid hCs
  have HO1 := Lib.hid hO1
  have L1 := Lib.hid l1
  have LS := Lib.hid ls
  have LZ := Lib.hid lz
  have LC := Lib.hid lc
  have LQ := Lib.hid lq
  have LR := Lib.hid lr
  have EQ := Lib.hid eq
  have ER := Lib.hid er
  clear hT hO hD hC hP hCs hO1 l1 ls lz lc lq lr eq er
  have HS := Lib.hid hS
  have HL := Lib.hid hL
  have HD0 := Lib.hid hd
  have HU := Lib.hid hu
  clear hS hL hd hu
  go_enter Try.func56, Try.ntmps56
  go_wp2_with fail
  refine (HT.out _).mono ?_
  rintro e w1 ⟨rfl, hb1⟩
  have B1 := Lib.hid hb1
  clear hb1
  have hN0 := Blk.new w1 105 (nu false z10)
  have HT1 := Lib.hid (hN0.thereMid 0 11 (by decide))
  have HN1 := Lib.hid (hN0.setAll (nu false Dz) (by rw [nu_len, LZ.out]; rfl))
  have B2 := Lib.hid (below_setCells (b := w1.heap.size) (nu false Dz) 0 (B1.out.alloc B1.out.size (.cells (nu false z10).toArray 105)) B1.out.size)
  clear hN0
  go_wp2_with (refine st_num rfl (.tmp 10) (.tmp 22) rfl w1.heap.size 0 rfl false Dz rfl LZ.out HT1.out ?_)
  refine (HO.out _).mono ?_
  rintro e w2 ⟨rfl, hb2⟩
  have HN2 := Lib.hid (HN1.out.keeps hb2)
  have B3 := Lib.hid (below_on B2.out B2.out.size hb2)
  have HL2 : Hid (w1.heap.size < w2.heap.size) := HN2.out.lt
  clear hb2 HT1 HN1
  have hfd := fun w => field_ns false w Dc LC.out
  have hA0 := Blk.new w2 103 (du z10)
  have HT2 := Lib.hid hA0.thereZ
  have HA1 := Lib.hid (hA0.setAll (du Dc) (by rw [du_len, LC.out]; rfl))
  have HN3 := Lib.hid (Blk.otherCells (b' := w2.heap.size) (du Dc) 0 (HN2.out.alloc (.cells (du z10).toArray 103)) (by have := HL2.out; omega))
  have B4 := Lib.hid (below_setCells (b := w2.heap.size) (du Dc) 0 (B3.out.alloc B3.out.size (.cells (du z10).toArray 103)) B3.out.size)
  have HRG := Lib.hid (HN3.out.digits LZ.out)
  clear hA0 HN2 B3
  go_wp2_with (first | (refine st_arr rfl (.tmp 11) (.tmp 25) rfl w2.heap.size 0 rfl Dc rfl LC.out HT2.out ?_) | (refine ld_arr rfl (.tmp 27) rfl w1.heap.size 1 rfl Dz LZ.out HRG.out ?_) | (refine ld_arr rfl (.tmp 11) rfl w2.heap.size 0 rfl Dc LC.out HA1.out.range ?_))
  refine (HD.out _).mono ?_
  rintro e w3 ⟨rfl, hb3⟩
  have HN4 := Lib.hid (HN3.out.keeps hb3)
  have HA4 := Lib.hid (HA1.out.keeps hb3)
  have B5 := Lib.hid (below_on B4.out B4.out.size hb3)
  clear hb3 HT2 HA1 HN3 B4 HRG hfd
  have hQ0 := (Blk.new w3 103 (du z10)).alloc (.cells (du z10).toArray 103)
  have hR0 := Blk.new2 w3 (.cells (du z10).toArray 103) 103 (du z10)
  have HTQ := Lib.hid hQ0.thereZ
  have hR1 := Blk.otherCells (b' := w3.heap.size) (du Dq) 0 hR0 (by omega)
  have hQ1 := hQ0.setAll (du Dq) (by rw [du_len, LQ.out]; rfl)
  have HTR := Lib.hid hR1.thereZ
  have HQ := Lib.hid (Blk.otherCells (b' := w3.heap.size + 1) (du Dr) 0 hQ1 (by omega))
  have HR := Lib.hid (hR1.setAll (du Dr) (by rw [du_len, LR.out]; rfl))
  have hlt := HN4.out.lt
  have hlt2 := HA4.out.lt
  have HN := Lib.hid (Blk.otherCells (b' := w3.heap.size + 1) (du Dr) 0 (Blk.otherCells (b' := w3.heap.size) (du Dq) 0 ((HN4.out.alloc (.cells (du z10).toArray 103)).alloc (.cells (du z10).toArray 103)) (by omega)) (by omega))
  have HA := Lib.hid (Blk.otherCells (b' := w3.heap.size + 1) (du Dr) 0 (Blk.otherCells (b' := w3.heap.size) (du Dq) 0 ((HA4.out.alloc (.cells (du z10).toArray 103)).alloc (.cells (du z10).toArray 103)) (by omega)) (by omega))
  have BZ := Lib.hid (below_setCells (b := w3.heap.size + 1) (du Dr) 0 (below_setCells (b := w3.heap.size) (du Dq) 0 ((B5.out.alloc B5.out.size (.cells (du z10).toArray 103)).alloc (by have := B5.out.size; simp; omega) (.cells (du z10).toArray 103)) B5.out.size) (by have := B5.out.size; omega))
  have HLT : Hid (w1.heap.size < w3.heap.size ∧ w2.heap.size < w3.heap.size) := ⟨hlt, hlt2⟩
  have HW0 : Hid (w.heap.size ≤ w3.heap.size) := B5.out.size
  clear hQ0 hR0 hR1 hQ1 hlt hlt2 HN4 HA4 B5
  go_wp2_with (first | (refine st_arr rfl (.tmp 12) (.tmp 31) rfl w3.heap.size 0 rfl Dq rfl LQ.out HTQ.out ?_) | (refine st_arr rfl (.tmp 13) (.tmp 32) rfl (w3.heap.size + 1) 0 rfl Dr rfl LR.out HTR.out ?_))
  clear HTQ HTR HL2 B1 B2
  refine region_tail (by kernel_rfl) (by kernel_rfl) [some 33, some 34, some 35, some 36, some 37, some 38, some 39, some 40, some 41, some 14, none] (by kernel_rfl) 10 (by decide) (by kernel_rfl) [9] (by decide) w.heap.size w BZ.out (Nat.le_refl _) (fun i v WW => match i with | 0 => v = .pointer (some ⟨w1.heap.size, 0, none⟩) | 1 => v = .bool false | 2 => v = .bool false | 3 => v = undef | 4 => v = undef | 5 => v = undef | 6 => v = .bool false | 7 => v = .agg (ds Dq) | 8 => v = .agg (ns false Dq) | 9 => ∃ g, v = .pointer (some ⟨g, 0, none⟩) ∧ w3.heap.size + 2 ≤ g ∧ Blk WW g 105 (nu false z10) | _ => True) ?_ ?_ (fun t V W W1 => match t with | 0 => W1 = W | 1 => W1 = stc (V 9) (nu false Dq) W | _ => False) (fun _ _ => rfl) (fun _ _ _ h => h) ?_ ?_ ?_ ?_
  · intro i v WW WX h hbx
    rcases i with _ | _ | _ | _ | _ | _ | _ | _ | _ | _ | i
    · exact h
    · exact h
    · exact h
    · exact h
    · exact h
    · exact h
    · exact h
    · exact h
    · exact h
    · obtain ⟨g, e, h1, h2⟩ := h; exact ⟨g, e, h1, h2.keeps hbx⟩
    · trivial
  · intro i v WW g hi h e
    have hi2 : i = 9 := by simpa using hi
    rcases hi2 with rfl
    · obtain ⟨g0, e0, _, hb0⟩ := h
      have eg : g = g0 := by rw [e] at e0; simpa using e0
      rw [eg]; exact hb0.lt
  · intro t V V' W W' h hz
    rcases t with _ | _ | t
    · exact hz
    · (show _ = stc (V' 9) _ _; rw [← h 9 (by decide)]; exact hz)
    · exact hz
  · intro iI oO V AC WW hiN ho hf hbw K hK
    rcases iI with _ | _ | _ | _ | _ | _ | _ | _ | _ | _ | iI
    · obtain rfl := Option.some.inj (show some _ = some oO from ho)
      rw [if_pos (by rfl)]
      have hK2 := fun v W' h1 h2 => hK v W' h1 h2 (fun hd => by simp at hd)
      have q10 : AC.tmps.getD 10 undef = .pointer (some ⟨w1.heap.size, 0, none⟩) := hf.rest 10 (by kernel_rfl)
      go_simp
      exact hK2 _ _ (Below.refl _ _) rfl
    · obtain rfl := Option.some.inj (show some _ = some oO from ho)
      rw [if_pos (by rfl)]
      have hK2 := fun v W' h1 h2 => hK v W' h1 h2 (fun hd => by simp at hd)
      have q33 : AC.tmps.getD 33 undef = .pointer (some ⟨w1.heap.size, 0, none⟩) := ((hf.dep ⟨0, .data⟩ (by simp) rfl).2 33 rfl).trans (hf.dep ⟨0, .data⟩ (by simp) rfl).1
      have hk := HN.out.keeps hbw
      have z0 := hk.cell 0 _ rfl
      go_simp
      exact hK2 _ _ (Below.refl _ _) rfl
    · obtain rfl := Option.some.inj (show some _ = some oO from ho)
      rw [if_pos (by rfl)]
      have hK2 := fun v W' h1 h2 => hK v W' h1 h2 (fun hd => by simp at hd)
      have q34 : AC.tmps.getD 34 undef = .bool false := ((hf.dep ⟨1, .data⟩ (by simp) rfl).2 34 rfl).trans (hf.dep ⟨1, .data⟩ (by simp) rfl).1
      go_simp
      exact hK2 _ _ (Below.refl _ _) rfl
    · obtain rfl := Option.some.inj (show some _ = some oO from ho)
      rw [if_neg (wanted_no (s := 35) rfl rfl rfl (by rw [hf.size]; simp) (((hf.dep ⟨2, .guard⟩ (by simp) rfl).2 35 rfl).trans (hf.dep ⟨2, .guard⟩ (by simp) rfl).1) rfl)]
      have hK2 := fun v W' h1 h2 => hK v W' h1 h2 (fun hd => by simp at hd)
      exact hK2 _ _ (Below.refl _ _) rfl
    · obtain rfl := Option.some.inj (show some _ = some oO from ho)
      rw [if_neg (wanted_no (s := 35) rfl rfl rfl (by rw [hf.size]; simp) (((hf.dep ⟨2, .guard⟩ (by simp) rfl).2 35 rfl).trans (hf.dep ⟨2, .guard⟩ (by simp) rfl).1) rfl)]
      have hK2 := fun v W' h1 h2 => hK v W' h1 h2 (fun hd => by simp at hd)
      exact hK2 _ _ (Below.refl _ _) rfl
    · obtain rfl := Option.some.inj (show some _ = some oO from ho)
      rw [if_neg (wanted_no (s := 35) rfl rfl rfl (by rw [hf.size]; simp) (((hf.dep ⟨2, .guard⟩ (by simp) rfl).2 35 rfl).trans (hf.dep ⟨2, .guard⟩ (by simp) rfl).1) rfl)]
      have hK2 := fun v W' h1 h2 => hK v W' h1 h2 (fun hd => by simp at hd)
      exact hK2 _ _ (Below.refl _ _) rfl
    · obtain rfl := Option.some.inj (show some _ = some oO from ho)
      rw [if_pos (by rfl)]
      have hK2 := fun v W' h1 h2 => hK v W' h1 h2 (fun hd => by simp at hd)
      have q35 : AC.tmps.getD 35 undef = .bool false := ((hf.dep ⟨2, .data⟩ (by simp) rfl).2 35 rfl).trans (hf.dep ⟨2, .data⟩ (by simp) rfl).1
      have q38 : AC.tmps.getD 38 undef = undef := ((hf.dep ⟨5, .data⟩ (by simp) rfl).2 38 rfl).trans (hf.dep ⟨5, .data⟩ (by simp) rfl).1
      have pp35 := q35
      rw [Array.getD_eq_getD_getElem?] at pp35
      go_simp
      exact hK2 _ _ (Below.refl _ _) rfl
    · obtain rfl := Option.some.inj (show some _ = some oO from ho)
      rw [if_pos (by rfl)]
      have hK2 := fun v W' h1 h2 => hK v W' h1 h2 (fun hd => by simp at hd)
      have q12 : AC.tmps.getD 12 undef = .pointer (some ⟨w3.heap.size, 0, none⟩) := hf.rest 12 (by kernel_rfl)
      have hk := HQ.out.keeps hbw
      exact wp_load_mid _ _ rfl w3.heap.size 0 q12 (du Dq) _ hk.range Try.underlying103 rfl (by rw [du_len, LQ.out]; exact info_arr) (hK2 _ _ (Below.refl _ _) rfl)
    · obtain rfl := Option.some.inj (show some _ = some oO from ho)
      rw [if_pos (by rfl)]
      have hK2 := fun v W' h1 h2 => hK v W' h1 h2 (fun hd => by simp at hd)
      have q39 : AC.tmps.getD 39 undef = .bool false := ((hf.dep ⟨6, .data⟩ (by simp) rfl).2 39 rfl).trans (hf.dep ⟨6, .data⟩ (by simp) rfl).1
      have q40 : AC.tmps.getD 40 undef = .agg (ds Dq) := ((hf.dep ⟨7, .data⟩ (by simp) rfl).2 40 rfl).trans (hf.dep ⟨7, .data⟩ (by simp) rfl).1
      have e40 : (ds Dq).size = 10 := by rw [ds_size, LQ.out]
      rw [Array.getD_eq_getD_getElem?] at q39 q40
      have hbn := build_numK false Dq LQ.out
      rw [e40] at hbn
      go_simp
      first | exact hK2 _ _ (Below.refl _ _) rfl | (rw [hbn]; exact hK2 _ _ (Below.refl _ _) rfl) | (simp only [hbn]; exact hK2 _ _ (Below.refl _ _) rfl)
    · obtain rfl := Option.some.inj (show some _ = some oO from ho)
      rw [if_pos (by rfl)]
      go_simp
      exact hK _ _ (below_new1 WW _) ⟨_, rfl, by have := Nat.lt_of_lt_of_le HR.out.lt hbw.size; omega, Blk.new WW 105 (nu false z10)⟩ (fun _ => ⟨_, rfl, Nat.le_refl _⟩)
    · omega
  · intro jJ oO V AC WW W1 ho hf hbw hall hap hz K hK
    have hlt : jJ < 1 := by have := (Array.getElem?_eq_some_iff.1 ho).1; simp at this; omega
    rcases jJ with _ | jJ
    · obtain rfl := Option.some.inj (show some _ = some oO from ho)
      rw [if_pos (by rfl)]
      replace hz : W1 = WW := hz
      have q14 : AC.tmps.getD 14 undef = V 9 := (hf.dep ⟨9, .data⟩ (by simp) rfl 14 rfl)
      have t9 := hall 9 (by decide)
      obtain ⟨g, e, h1, h2⟩ := t9
      have q41 : AC.tmps.getD 41 undef = .agg (ns false Dq) := (hf.dep ⟨8, .data⟩ (by simp) rfl 41 rfl).trans (hall 8 (by decide))
      rw [e] at q14
      subst hz
      have hth := h2.thereMid 0 11 (by decide)
      refine wp_store_mid _ _ _ rfl g 0 (ns false Dq) q14 q41 (by rw [ns_size, LQ.out]; exact hth) (by rw [ns_size, LQ.out]; exact info_num) (ns_all _ _) (hK _ _ ?_)
      show _ = _
      rw [e, stc_at]; rfl
    · omega
  · intro V WW W1 hall hap hbw hBW hz
    replace hz : W1 = stc (V 9) (nu false Dq) WW := hz
    have vv0 : V 0 = .pointer (some ⟨w1.heap.size, 0, none⟩) := hall 0 (by decide)
    have vv1 : V 1 = .bool false := hall 1 (by decide)
    have vv2 : V 2 = .bool false := hall 2 (by decide)
    have vv3 : V 3 = undef := hall 3 (by decide)
    have vv4 : V 4 = undef := hall 4 (by decide)
    have vv5 : V 5 = undef := hall 5 (by decide)
    have vv6 : V 6 = .bool false := hall 6 (by decide)
    have vv7 : V 7 = .agg (ds Dq) := hall 7 (by decide)
    have vv8 : V 8 = .agg (ns false Dq) := hall 8 (by decide)
    have vv9 : ∃ g, V 9 = .pointer (some ⟨g, 0, none⟩) ∧ w3.heap.size + 2 ≤ g ∧ Blk WW g 105 (nu false z10) := hall 9 (by decide)
    clear hall
    simp only [pairsOf, laid, Nat.zero_add, Nat.reduceAdd, vv0, vv1, vv2, vv3, vv4, vv5, vv6, vv7, vv8, List.setIfInBounds_toArray, List.set_cons_zero, List.set_cons_succ]
    clear vv0 vv1 vv2 vv3 vv4 vv5 vv6 vv7 vv8
    obtain ⟨g, e9, hg, hG⟩ := vv9
    rw [e9, stc_at] at hz
    simp only [e9]
    have HLg : Hid (w1.heap.size < g ∧ w2.heap.size < g ∧ w3.heap.size + 1 < g) := by have := HLT.out; exact ⟨by omega, by omega, by omega⟩
    have HG7 := Lib.hid (hG.setAll (nu false Dq) (by rw [nu_len, LQ.out]; rfl))
    have HN7 := Lib.hid (Blk.otherCells (b' := g) (nu false Dq) 0 (HN.out.keeps hbw) (by have := HLg.out; omega))
    have HA7 := Lib.hid (Blk.otherCells (b' := g) (nu false Dq) 0 (HA.out.keeps hbw) (by have := HLg.out; omega))
    have HQ7 := Lib.hid (Blk.otherCells (b' := g) (nu false Dq) 0 (HQ.out.keeps hbw) (by have := HLg.out; omega))
    have HR7 := Lib.hid (Blk.otherCells (b' := g) (nu false Dq) 0 (HR.out.keeps hbw) (by have := HLg.out; omega))
    have HB7 := Lib.hid (below_setCells (b := g) (nu false Dq) 0 hBW (by have := HLg.out; have := HW0.out; omega))
    rw [← hz] at HG7 HN7 HA7 HQ7 HR7 HB7
    clear hz e9 hg hG hbw hBW hap HN HA HQ HR
    have z0 := HN7.out.cell 0 _ rfl
    go_wp2_with fail
    refine region_mono (by kernel_rfl) (by kernel_rfl) [some 55, some 56, some 57, some 58, some 16] (by kernel_rfl) w.heap.size w HB7.out (Nat.le_refl _) (fun i v WW => match i with | 0 => v = .agg (ds Dr) | 1 => v = .agg (ds Dt) | 2 => v = .agg (ds Dc) | 3 => v = .int .i64 o | 4 => v = .int .i64 o | _ => True) ?_ ?_ ?_
    · intro i v WW WX h hbx
      rcases i with _ | _ | _ | _ | _ | i
      · exact h
      · exact h
      · exact h
      · exact h
      · exact h
      · trivial
    · intro iI oO V AC WW ho hf hbw K hK
      have hlt : iI < 5 := (Array.getElem?_eq_some_iff.1 ho).1
      rcases iI with _ | _ | _ | _ | _ | iI
      · obtain rfl := Option.some.inj (show some _ = some oO from ho)
        rw [if_pos (by rfl)]
        have q13 : AC.tmps.getD 13 undef = .pointer (some ⟨w3.heap.size + 1, 0, none⟩) := hf.rest 13 (by kernel_rfl)
        have hk := HR7.out.keeps hbw
        exact wp_load_mid _ _ rfl (w3.heap.size + 1) 0 q13 (du Dr) _ hk.range Try.underlying103 rfl (by rw [du_len, LR.out]; exact info_arr) (hK _ _ (Below.refl _ _) rfl)
      · obtain rfl := Option.some.inj (show some _ = some oO from ho)
        rw [if_pos (by rfl)]
        have q55 : AC.tmps.getD 55 undef = .agg (ds Dr) := ((hf.dep ⟨0, .data⟩ (by simp) rfl).2 55 rfl).trans (hf.dep ⟨0, .data⟩ (by simp) rfl).1
        go_simp
        refine (HS.out WW).mono ?_
        rintro e w6 ⟨rfl, hb6⟩
        exact hK _ _ hb6 rfl
      · obtain rfl := Option.some.inj (show some _ = some oO from ho)
        rw [if_pos (by rfl)]
        have q11 : AC.tmps.getD 11 undef = .pointer (some ⟨w2.heap.size, 0, none⟩) := hf.rest 11 (by kernel_rfl)
        have hk := HA7.out.keeps hbw
        exact wp_load_mid _ _ rfl (w2.heap.size) 0 q11 (du Dc) _ hk.range Try.underlying103 rfl (by rw [du_len, LC.out]; exact info_arr) (hK _ _ (Below.refl _ _) rfl)
      · obtain rfl := Option.some.inj (show some _ = some oO from ho)
        rw [if_pos (by rfl)]
        have q56 : AC.tmps.getD 56 undef = .agg (ds Dt) := ((hf.dep ⟨1, .data⟩ (by simp) rfl).2 56 rfl).trans (hf.dep ⟨1, .data⟩ (by simp) rfl).1
        have q57 : AC.tmps.getD 57 undef = .agg (ds Dc) := ((hf.dep ⟨2, .data⟩ (by simp) rfl).2 57 rfl).trans (hf.dep ⟨2, .data⟩ (by simp) rfl).1
        go_simp
        refine (HL.out WW).mono ?_
        rintro e w6 ⟨rfl, hb6⟩
        exact hK _ _ hb6 rfl
      · obtain rfl := Option.some.inj (show some _ = some oO from ho)
        rw [if_pos (by rfl)]
        have q58 : AC.tmps.getD 58 undef = .int .i64 o := ((hf.dep ⟨3, .data⟩ (by simp) rfl).2 58 rfl).trans (hf.dep ⟨3, .data⟩ (by simp) rfl).1
        go_simp
        exact hK _ _ (Below.refl _ _) rfl
      · omega
    · intro V WW hall hbw hBW
      have vv0 : V 0 = .agg (ds Dr) := hall 0 (by decide)
      have vv1 : V 1 = .agg (ds Dt) := hall 1 (by decide)
      have vv2 : V 2 = .agg (ds Dc) := hall 2 (by decide)
      have vv3 : V 3 = .int .i64 o := hall 3 (by decide)
      have vv4 : V 4 = .int .i64 o := hall 4 (by decide)
      clear hall
      simp only [pairsOf, laid, Nat.zero_add, Nat.reduceAdd, vv0, vv1, vv2, vv3, vv4, List.setIfInBounds_toArray, List.set_cons_zero, List.set_cons_succ]
      clear vv0 vv1 vv2 vv3 vv4
      have HN9 := Lib.hid (HN7.out.keeps hbw); have HG9 := Lib.hid (HG7.out.keeps hbw); have HQ9 := Lib.hid (HQ7.out.keeps hbw)
      have HB9 := Lib.hid hBW
      have zq := HQ9.out.cell 0 _ HD0.out
      clear hbw hBW z0 HN7 HG7 HQ7 HB7 HA7 HR7
      have z0 := HN9.out.cell 0 _ rfl
      have hu := HU.out
      clear HU
      rcases hu with ⟨rfl, rfl⟩ | ⟨rfl, rfl⟩ | ⟨rfl, hm2, rfl⟩ | ⟨rfl, hm2, rfl⟩
      · have HP := Lib.hid (HPi.out rfl)
        have HCs := Lib.hid (HCsi.out rfl)
        go_wp2_with fail
        refine (HO1.out _).mono ?_
        rintro e w4 ⟨rfl, hb4⟩
        have HN8 := Lib.hid (HN9.out.keeps hb4); have HG8 := Lib.hid (HG9.out.keeps hb4)
        have HB8 := Lib.hid (below_on HB9.out HB9.out.size hb4)
        have HL8 : Hid (w1.heap.size < w4.heap.size ∧ g < w4.heap.size ∧ w.heap.size ≤ w4.heap.size) := ⟨HN8.out.lt, HG8.out.lt, HB8.out.size⟩
        clear hb4 z0
        have h10 := Blk.new w4 105 (nu false z10)
        have HT8 := Lib.hid (h10.thereMid 0 11 (by decide))
        go_wp2_with (first | (refine st_numG rfl (.tmp 17) (.tmp 72) rfl w4.heap.size 0 rfl false D1 rfl L1.out HT8.out ?_; rintro W8 hW8; have H1a : Hid (Blk W8 w4.heap.size 105 (nu false D1)) := (by show Blk _ _ _ _; rw [hW8]; exact h10.setAll _ (by rw [nu_len, nu_len, L1.out]; rfl)); have HNa : Hid (Blk W8 w1.heap.size 105 (nu false Dz)) := (by show Blk _ _ _ _; rw [hW8]; exact Blk.otherCells (b' := w4.heap.size) (nu false D1) 0 (HN8.out.alloc (.cells (nu false z10).toArray 105)) (by have := HL8.out; omega)); have HGa : Hid (Blk W8 g 105 (nu false Dq)) := (by show Blk _ _ _ _; rw [hW8]; exact Blk.otherCells (b' := w4.heap.size) (nu false D1) 0 (HG8.out.alloc (.cells (nu false z10).toArray 105)) (by have := HL8.out; omega)); have HBa : Hid (Below w.heap.size w W8) := (by show Below _ _ _; rw [hW8]; exact below_setCells (b := w4.heap.size) (nu false D1) 0 (HB8.out.alloc HB8.out.size (.cells (nu false z10).toArray 105)) HB8.out.size); clear hW8; have H1b := Lib.hid (H1a.out.setSign false); have HNb := Lib.hid (HNa.out.other ⟨w4.heap.size, 0, none⟩ (.bool false) (by have := HL8.out; show w1.heap.size ≠ w4.heap.size; omega)); have HGb := Lib.hid (HGa.out.other ⟨w4.heap.size, 0, none⟩ (.bool false) (by have := HL8.out; show g ≠ w4.heap.size; omega)); have HBb := Lib.hid (HBa.out.setCell (p := ⟨w4.heap.size, 0, none⟩) HB8.out.size (.bool false)); have H1c := Lib.hid (H1b.out.other ⟨g, 0, none⟩ (.bool false) (by have := HL8.out; show w4.heap.size ≠ g; omega)); have HGc := Lib.hid (HGb.out.setSign false); have HBc := Lib.hid (HBb.out.setCell (p := ⟨g, 0, none⟩) (by have := HLg.out; have := HW0.out; show w.heap.size ≤ g; omega) (.bool false)); have za := HNa.out.cell 0 _ rfl; have zb := HNb.out.cell 0 _ rfl; have fa := H1a.out.frozen 0; have fb := HGb.out.frozen 0; have ca := H1a.out.cell 0 _ rfl; have cb := HGb.out.cell 0 _ rfl) | (refine ld_num rfl (.tmp 14) rfl g 0 rfl false Dq LQ.out HGc.out.range ?_) | (refine ld_num rfl (.tmp 17) rfl w4.heap.size 0 rfl false D1 L1.out H1c.out.range ?_))
        clear za zb fa fb ca cb
        refine (HP.out _).mono ?_
        rintro e w5 ⟨rfl, hb5⟩
        have HGq := Lib.hid (HGc.out.keeps hb5)
        have HBq := Lib.hid (below_on HBc.out HBc.out.size hb5)
        have HTq := Lib.hid (HGq.out.thereMid 0 11 (by rw [nu_len, LQ.out]; decide))
        have HGd := Lib.hid (HGq.out.setAll (nu false Ds) (by rw [nu_len, nu_len, LQ.out, LS.out]))
        have HBd := Lib.hid (below_setCells (b := g) (nu false Ds) 0 HBq.out (by have := HLg.out; have := HW0.out; omega))
        clear hb5
        go_wp2_with (first | (refine st_num rfl (.tmp 14) (.tmp 81) rfl g 0 rfl false Ds rfl LS.out HTq.out ?_) | (refine ld_num rfl (.tmp 14) rfl g 0 rfl false Ds LS.out HGd.out.range ?_))
        refine (HCs.out _).mono ?_
        rintro e w6 ⟨rfl, hb6⟩
        have HBe := Lib.hid (below_on HBd.out HBd.out.size hb6)
        clear hb6
        go_wp2
        go_ret2
        exact ⟨rfl, HBe.out⟩
      · have HC := Lib.hid (HCi.out rfl)
        go_wp2_with (refine ld_num rfl (.tmp 14) rfl g 0 rfl false Dq LQ.out HG9.out.range ?_)
        refine (HC.out _).mono ?_
        rintro e w6 ⟨rfl, hb6⟩
        have HBe := Lib.hid (below_on HB9.out HB9.out.size hb6)
        clear hb6
        go_wp2
        go_ret2
        exact ⟨rfl, HBe.out⟩
      · have HP := Lib.hid (HPi.out rfl)
        have HCs := Lib.hid (HCsi.out rfl)
        go_wp2_with fail
        refine (HO1.out _).mono ?_
        rintro e w4 ⟨rfl, hb4⟩
        have HN8 := Lib.hid (HN9.out.keeps hb4); have HG8 := Lib.hid (HG9.out.keeps hb4)
        have HB8 := Lib.hid (below_on HB9.out HB9.out.size hb4)
        have HL8 : Hid (w1.heap.size < w4.heap.size ∧ g < w4.heap.size ∧ w.heap.size ≤ w4.heap.size) := ⟨HN8.out.lt, HG8.out.lt, HB8.out.size⟩
        clear hb4 z0
        have h10 := Blk.new w4 105 (nu false z10)
        have HT8 := Lib.hid (h10.thereMid 0 11 (by decide))
        go_wp2_with (first | (refine st_numG rfl (.tmp 17) (.tmp 72) rfl w4.heap.size 0 rfl false D1 rfl L1.out HT8.out ?_; rintro W8 hW8; have H1a : Hid (Blk W8 w4.heap.size 105 (nu false D1)) := (by show Blk _ _ _ _; rw [hW8]; exact h10.setAll _ (by rw [nu_len, nu_len, L1.out]; rfl)); have HNa : Hid (Blk W8 w1.heap.size 105 (nu false Dz)) := (by show Blk _ _ _ _; rw [hW8]; exact Blk.otherCells (b' := w4.heap.size) (nu false D1) 0 (HN8.out.alloc (.cells (nu false z10).toArray 105)) (by have := HL8.out; omega)); have HGa : Hid (Blk W8 g 105 (nu false Dq)) := (by show Blk _ _ _ _; rw [hW8]; exact Blk.otherCells (b' := w4.heap.size) (nu false D1) 0 (HG8.out.alloc (.cells (nu false z10).toArray 105)) (by have := HL8.out; omega)); have HBa : Hid (Below w.heap.size w W8) := (by show Below _ _ _; rw [hW8]; exact below_setCells (b := w4.heap.size) (nu false D1) 0 (HB8.out.alloc HB8.out.size (.cells (nu false z10).toArray 105)) HB8.out.size); clear hW8; have H1b := Lib.hid (H1a.out.setSign false); have HNb := Lib.hid (HNa.out.other ⟨w4.heap.size, 0, none⟩ (.bool false) (by have := HL8.out; show w1.heap.size ≠ w4.heap.size; omega)); have HGb := Lib.hid (HGa.out.other ⟨w4.heap.size, 0, none⟩ (.bool false) (by have := HL8.out; show g ≠ w4.heap.size; omega)); have HBb := Lib.hid (HBa.out.setCell (p := ⟨w4.heap.size, 0, none⟩) HB8.out.size (.bool false)); have H1c := Lib.hid (H1b.out.other ⟨g, 0, none⟩ (.bool false) (by have := HL8.out; show w4.heap.size ≠ g; omega)); have HGc := Lib.hid (HGb.out.setSign false); have HBc := Lib.hid (HBb.out.setCell (p := ⟨g, 0, none⟩) (by have := HLg.out; have := HW0.out; show w.heap.size ≤ g; omega) (.bool false)); have za := HNa.out.cell 0 _ rfl; have zb := HNb.out.cell 0 _ rfl; have fa := H1a.out.frozen 0; have fb := HGb.out.frozen 0; have ca := H1a.out.cell 0 _ rfl; have cb := HGb.out.cell 0 _ rfl) | (refine ld_num rfl (.tmp 14) rfl g 0 rfl false Dq LQ.out HGc.out.range ?_) | (refine ld_num rfl (.tmp 17) rfl w4.heap.size 0 rfl false D1 L1.out H1c.out.range ?_))
        clear za zb fa fb ca cb
        refine (HP.out _).mono ?_
        rintro e w5 ⟨rfl, hb5⟩
        have HGq := Lib.hid (HGc.out.keeps hb5)
        have HBq := Lib.hid (below_on HBc.out HBc.out.size hb5)
        have HTq := Lib.hid (HGq.out.thereMid 0 11 (by rw [nu_len, LQ.out]; decide))
        have HGd := Lib.hid (HGq.out.setAll (nu false Ds) (by rw [nu_len, nu_len, LQ.out, LS.out]))
        have HBd := Lib.hid (below_setCells (b := g) (nu false Ds) 0 HBq.out (by have := HLg.out; have := HW0.out; omega))
        clear hb5
        go_wp2_with (first | (refine st_num rfl (.tmp 14) (.tmp 81) rfl g 0 rfl false Ds rfl LS.out HTq.out ?_) | (refine ld_num rfl (.tmp 14) rfl g 0 rfl false Ds LS.out HGd.out.range ?_))
        refine (HCs.out _).mono ?_
        rintro e w6 ⟨rfl, hb6⟩
        have HBe := Lib.hid (below_on HBd.out HBd.out.size hb6)
        clear hb6
        go_wp2
        go_ret2
        exact ⟨rfl, HBe.out⟩
      · have HC := Lib.hid (HCi.out rfl)
        go_wp2_with (refine ld_num rfl (.tmp 14) rfl g 0 rfl false Dq LQ.out HG9.out.range ?_)
        refine (HC.out _).mono ?_
        rintro e w6 ⟨rfl, hb6⟩
        have HBe := Lib.hid (below_on HB9.out HB9.out.size hb6)
        clear hb6
        go_wp2
        go_ret2
        exact ⟨rfl, HBe.out⟩
end Go.Proofs.Ytikfclioplploaa
