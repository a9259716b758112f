/-
  The walk of the reference's Cut: a whole number, if it is one of 64 bits.
-/
import Derived.Test.YteghjdmalbcdfaaCompare
import Derived.Test.YteghjdmalbcdfaaCutI
set_option linter.unusedVariables false
set_option linter.unusedSimpArgs false
set_option maxRecDepth 20000
namespace Go.Proofs.Yteghjdmalbcdfaa
open Go.RowKit Dg

/-- What stands while Cut's great region runs. -/
def CutInv (w : World) (z : Int) (A B C D : Array Value) (c1 c2 : Int) (g h : Bool) (L : Nat → Bool) (a : Act) (w' : World) : Prop :=
  ∃ u7 u8 u9 u10 u11 u12 u13 u14 u15 u16 u17 u18 : Value, a = ⟨#[.agg (N z), .pointer (some ⟨w.heap.size, 0, none⟩), .int .i64 0, .int .i64 0, undef, undef, undef, u7, u8, u9, u10, u11, u12, u13, u14, u15, u16, u17, u18, undef, undef, undef, undef, undef, undef, undef, undef, undef, undef, undef, undef, undef, undef, undef, undef, undef, undef], []⟩ ∧
    Blk w' w.heap.size 69 (nl z) ∧
    Below w.heap.size w w' ∧
    (L 0 = true → u7 = .agg (N z)) ∧ (L 1 = true → u8 = .agg A) ∧ (L 2 = true → u9 = .int .i64 c1) ∧ (L 3 = true → u10 = .bool g) ∧ (L 4 = true → u11 = .bool g) ∧ (L 5 = true → g = false → u12 = .agg (N z)) ∧ (L 6 = true → g = false → u13 = .agg B) ∧ (L 7 = true → g = false → u14 = .agg C) ∧ (L 8 = true → g = false → u15 = .agg D) ∧ (L 9 = true → g = false → u16 = .int .i64 c2) ∧ (L 10 = true → g = false → u17 = .bool h) ∧ (L 11 = true → u18 = .bool (g || h))

set_option maxHeartbeats 800000 in
theorem cut_head (z : Int) (hz : absI z < 65536 ^ 9) (w : World) (g h : Bool) (hg : decide (9223372036854775807 < z) = g) (hh : decide (z < -9223372036854775808) = h) :
    Calls Try.prog 31 #[.agg (N z)] w fun e w' => e = .returned (.tuple #[.int .i64 (cutI z).1, .int .i64 (cutI z).2]) ∧ Below w.heap.size w w' := by
  have hsa := N_size z
  have ho1 := fun W => of_any 9223372036854775807 (by decide) (by decide) W
  have hc1 := fun W => compare_any z 9223372036854775807 (by rw [absI_pos (z := 9223372036854775807) (by decide)]; unfold TOP; omega) W
  have ho2 := fun W => of_any (-9223372036854775807) (by decide) (by decide) W
  have ho3 := fun W => of_any (-1) (by decide) (by decide) W
  have hp := fun W => plus_any (-9223372036854775807) (-1) (by decide) W
  have hc2 := fun W => compare_any z (-9223372036854775807 + -1) (by rw [show absI (-9223372036854775807 + -1) = 9223372036854775808 from by decide]; unfold TOP; omega) W
  have hg1 : decide (0 < cmpI z 9223372036854775807) = g := by rw [← hg, decide_eq_decide]; unfold cmpI; split <;> (try split) <;> omega
  have hh1 : decide (cmpI z (-9223372036854775807 + -1) < 0) = h := by rw [← hh, decide_eq_decide]; unfold cmpI; split <;> (try split) <;> omega
  generalize cmpI z 9223372036854775807 = c1 at *
  generalize cmpI z (-9223372036854775807 + -1) = c2 at *
  generalize N 9223372036854775807 = A at *
  generalize N (-9223372036854775807 + -1) = D at *
  generalize N (-9223372036854775807) = B at *
  generalize N (-1) = C at *
  have HO1 := Lib.hid ho1; have HC1 := Lib.hid hc1; have HO2 := Lib.hid ho2; have HO3 := Lib.hid ho3; have HP := Lib.hid hp; have HC2 := Lib.hid hc2
  have HG := Lib.hid hg1; have HH := Lib.hid hh1
  have HGZ := Lib.hid hg; have HHZ := Lib.hid hh; have HZ := Lib.hid hz
  clear ho1 hc1 ho2 ho3 hp hc2 hg1 hh1 hg hh hz
  go_enter Try.func31, Try.ntmps31
  go_wp2
  have hA : Blk (w.alloc (.cells (N z) 69)) w.heap.size 69 (nl z) := Blk.new w _ (nl z)
  have hBe : Below w.heap.size w (w.alloc (.cells (N z) 69)) := below_new1 _ _
  refine region_inv (by kernel_rfl) (by kernel_rfl) (CutInv w z A B C D c1 c2 g h) ?_ ?_ ?_
  · exact ⟨_, _, _, _, _, _, _, _, _, _, _, _, rfl, hA.drew, hBe.drew, nofun, nofun, nofun, nofun, nofun, nofun, nofun, nofun, nofun, nofun, nofun, nofun⟩
  · intro i o L a w' hi hL hd hI K hK
    clear hBe hA
    obtain ⟨u7, u8, u9, u10, u11, u12, u13, u14, u15, u16, u17, u18, rfl, hA, hBe, h0, h1, h2, h3, h4, h5, h6, h7, h8, h9, h10, h11⟩ := hI
    have hlt : i < 12 := (Array.getElem?_eq_some_iff.1 hi).1
    rcases i with _ | _ | _ | _ | _ | _ | _ | _ | _ | _ | _ | _ | i
    · obtain rfl := Option.some.inj (show some _ = some o from hi)
      rw [if_pos (by rfl)]
      exact wp_load_mid _ _ rfl w.heap.size 0 rfl (nl z) _ hA.range Try.underlying69 rfl (info_nl z) (hK _ _ ⟨_, _, _, _, _, _, _, _, _, _, _, _, rfl, hA, hBe, fun _ => rfl, h1, h2, h3, h4, h5, h6, h7, h8, h9, h10, h11⟩)
    · obtain rfl := Option.some.inj (show some _ = some o from hi)
      rw [if_pos (by rfl)]
      go_simp
      refine (HO1.out _).mono ?_
      rintro e w1 ⟨rfl, hb⟩
      exact hK _ _ ⟨_, _, _, _, _, _, _, _, _, _, _, _, rfl, hA.keeps hb, below_on hBe hBe.size hb, h0, fun _ => rfl, h2, h3, h4, h5, h6, h7, h8, h9, h10, h11⟩
    · obtain rfl := Option.some.inj (show some _ = some o from hi)
      rw [if_pos (by rfl)]
      obtain rfl := h0 (hd ⟨0, .data⟩ (by simp) rfl)
      obtain rfl := h1 (hd ⟨1, .data⟩ (by simp) rfl)
      go_simp
      refine (HC1.out _).mono ?_
      rintro e w1 ⟨rfl, hb⟩
      exact hK _ _ ⟨_, _, _, _, _, _, _, _, _, _, _, _, rfl, hA.keeps hb, below_on hBe hBe.size hb, h0, h1, fun _ => rfl, h3, h4, h5, h6, h7, h8, h9, h10, h11⟩
    · obtain rfl := Option.some.inj (show some _ = some o from hi)
      rw [if_pos (by rfl)]
      obtain rfl := h2 (hd ⟨2, .data⟩ (by simp) rfl)
      go_simp
      rw [HG.out]
      exact hK _ _ ⟨_, _, _, _, _, _, _, _, _, _, _, _, rfl, hA, hBe, h0, h1, h2, fun _ => rfl, h4, h5, h6, h7, h8, h9, h10, h11⟩
    · obtain rfl := Option.some.inj (show some _ = some o from hi)
      rw [if_pos (by rfl)]
      obtain rfl := h3 (hd ⟨3, .data⟩ (by simp) rfl)
      go_simp
      exact hK _ _ ⟨_, _, _, _, _, _, _, _, _, _, _, _, rfl, hA, hBe, h0, h1, h2, h3, fun _ => rfl, h5, h6, h7, h8, h9, h10, h11⟩
    · obtain rfl := Option.some.inj (show some _ = some o from hi)
      obtain rfl := h4 (hd ⟨4, .guard⟩ (by simp) rfl)
      cases g
      · rw [if_pos (by rfl)]
        exact wp_load_mid _ _ rfl w.heap.size 0 rfl (nl z) _ hA.range Try.underlying69 rfl (info_nl z) (hK _ _ ⟨_, _, _, _, _, _, _, _, _, _, _, _, rfl, hA, hBe, h0, h1, h2, h3, h4, fun _ _ => rfl, h6, h7, h8, h9, h10, h11⟩)
      · rw [if_neg (by intro hc; cases (show false = true from hc))]
        exact hK _ _ ⟨_, _, _, _, _, _, _, _, _, _, _, _, rfl, hA, hBe, h0, h1, h2, h3, h4, nofun, h6, h7, h8, h9, h10, h11⟩
    · obtain rfl := Option.some.inj (show some _ = some o from hi)
      obtain rfl := h4 (hd ⟨4, .guard⟩ (by simp) rfl)
      cases g
      · rw [if_pos (by rfl)]
        go_simp
        refine (HO2.out _).mono ?_
        rintro e w1 ⟨rfl, hb⟩
        exact hK _ _ ⟨_, _, _, _, _, _, _, _, _, _, _, _, rfl, hA.keeps hb, below_on hBe hBe.size hb, h0, h1, h2, h3, h4, h5, fun _ _ => rfl, h7, h8, h9, h10, h11⟩
      · rw [if_neg (by intro hc; cases (show false = true from hc))]
        exact hK _ _ ⟨_, _, _, _, _, _, _, _, _, _, _, _, rfl, hA, hBe, h0, h1, h2, h3, h4, h5, nofun, h7, h8, h9, h10, h11⟩
    · obtain rfl := Option.some.inj (show some _ = some o from hi)
      obtain rfl := h4 (hd ⟨4, .guard⟩ (by simp) rfl)
      cases g
      · rw [if_pos (by rfl)]
        go_simp
        refine (HO3.out _).mono ?_
        rintro e w1 ⟨rfl, hb⟩
        exact hK _ _ ⟨_, _, _, _, _, _, _, _, _, _, _, _, rfl, hA.keeps hb, below_on hBe hBe.size hb, h0, h1, h2, h3, h4, h5, h6, fun _ _ => rfl, h8, h9, h10, h11⟩
      · rw [if_neg (by intro hc; cases (show false = true from hc))]
        exact hK _ _ ⟨_, _, _, _, _, _, _, _, _, _, _, _, rfl, hA, hBe, h0, h1, h2, h3, h4, h5, h6, nofun, h8, h9, h10, h11⟩
    · obtain rfl := Option.some.inj (show some _ = some o from hi)
      obtain rfl := h4 (hd ⟨4, .guard⟩ (by simp) rfl)
      cases g
      · rw [if_pos (by rfl)]
        obtain rfl := h6 (hd ⟨6, .data⟩ (by simp) rfl) rfl
        obtain rfl := h7 (hd ⟨7, .data⟩ (by simp) rfl) rfl
        go_simp
        refine (HP.out _).mono ?_
        rintro e w1 ⟨rfl, hb⟩
        exact hK _ _ ⟨_, _, _, _, _, _, _, _, _, _, _, _, rfl, hA.keeps hb, below_on hBe hBe.size hb, h0, h1, h2, h3, h4, h5, h6, h7, fun _ _ => rfl, h9, h10, h11⟩
      · rw [if_neg (by intro hc; cases (show false = true from hc))]
        exact hK _ _ ⟨_, _, _, _, _, _, _, _, _, _, _, _, rfl, hA, hBe, h0, h1, h2, h3, h4, h5, h6, h7, nofun, h9, h10, h11⟩
    · obtain rfl := Option.some.inj (show some _ = some o from hi)
      obtain rfl := h4 (hd ⟨4, .guard⟩ (by simp) rfl)
      cases g
      · rw [if_pos (by rfl)]
        obtain rfl := h5 (hd ⟨5, .data⟩ (by simp) rfl) rfl
        obtain rfl := h8 (hd ⟨8, .data⟩ (by simp) rfl) rfl
        go_simp
        refine (HC2.out _).mono ?_
        rintro e w1 ⟨rfl, hb⟩
        exact hK _ _ ⟨_, _, _, _, _, _, _, _, _, _, _, _, rfl, hA.keeps hb, below_on hBe hBe.size hb, h0, h1, h2, h3, h4, h5, h6, h7, h8, fun _ _ => rfl, h10, h11⟩
      · rw [if_neg (by intro hc; cases (show false = true from hc))]
        exact hK _ _ ⟨_, _, _, _, _, _, _, _, _, _, _, _, rfl, hA, hBe, h0, h1, h2, h3, h4, h5, h6, h7, h8, nofun, h10, h11⟩
    · obtain rfl := Option.some.inj (show some _ = some o from hi)
      obtain rfl := h4 (hd ⟨4, .guard⟩ (by simp) rfl)
      cases g
      · rw [if_pos (by rfl)]
        obtain rfl := h9 (hd ⟨9, .data⟩ (by simp) rfl) rfl
        go_simp
        rw [HH.out]
        exact hK _ _ ⟨_, _, _, _, _, _, _, _, _, _, _, _, rfl, hA, hBe, h0, h1, h2, h3, h4, h5, h6, h7, h8, h9, fun _ _ => rfl, h11⟩
      · rw [if_neg (by intro hc; cases (show false = true from hc))]
        exact hK _ _ ⟨_, _, _, _, _, _, _, _, _, _, _, _, rfl, hA, hBe, h0, h1, h2, h3, h4, h5, h6, h7, h8, h9, nofun, h11⟩
    · obtain rfl := Option.some.inj (show some _ = some o from hi)
      rw [if_pos (by rfl)]
      obtain rfl := h4 (hd ⟨4, .data⟩ (by simp) rfl)
      cases g
      · obtain rfl := h10 (hd ⟨10, .data⟩ (by simp) rfl) rfl
        go_simp
        exact hK _ _ ⟨_, _, _, _, _, _, _, _, _, _, _, _, rfl, hA, hBe, h0, h1, h2, h3, h4, h5, h6, h7, h8, h9, h10, fun _ => rfl⟩
      · go_simp
        exact hK _ _ ⟨_, _, _, _, _, _, _, _, _, _, _, _, rfl, hA, hBe, h0, h1, h2, h3, h4, h5, h6, h7, h8, h9, h10, fun _ => rfl⟩
    · omega
  · intro L a w' hall hI
    clear hBe hA
    obtain ⟨u7, u8, u9, u10, u11, u12, u13, u14, u15, u16, u17, u18, rfl, hA, hBe, h0, h1, h2, h3, h4, h5, h6, h7, h8, h9, h10, h11⟩ := hI
    obtain rfl := h0 (hall 0 (by decide))
    obtain rfl := h1 (hall 1 (by decide))
    obtain rfl := h2 (hall 2 (by decide))
    obtain rfl := h3 (hall 3 (by decide))
    obtain rfl := h4 (hall 4 (by decide))
    obtain rfl := h11 (hall 11 (by decide))
    clear h0 h1 h2 h3 h4 h5 h6 h7 h8 h9 h10 h11 hall HO1 HC1 HO2 HO3 HP HC2 HG HH
    by_cases ho : (g || h) = true
    · have HC : Hid (cutI z = (0, 11)) := cutI_out (by
        have h1 := HGZ.out; have h2 := HHZ.out
        cases g
        · cases h
          · cases ho
          · exact .inl (of_decide_eq_true h2)
        · exact .inr (of_decide_eq_true h1))
      rw [ho]
      clear ho
      go_wp2
      go_ret2
      exact ⟨ret_two (by rw [HC.out]) (by rw [HC.out]), hBe⟩
    · have ho' : (g || h) = false := by simpa using ho
      have hz1 : ¬ 9223372036854775807 < z := by
        have h1 := HGZ.out
        cases g
        · exact of_decide_eq_false h1
        · cases ho'
      have hz2 : ¬ z < -9223372036854775808 := by
        have h2 := HHZ.out
        cases h
        · exact of_decide_eq_false h2
        · cases g <;> cases ho'
      have HC : Hid (cutI z = (z, 0)) := cutI_in (by omega) (by omega)
      rw [ho']
      clear ho ho' HGZ HHZ HZ
      by_cases hneg : z < 0
      · obtain ⟨n, rfl⟩ : ∃ n, z = -n := ⟨-z, by omega⟩
        have hn0 : 0 < n := by omega
        have hn1 : n ≤ 9223372036854775808 := by omega
        have hA' : Blk w' w.heap.size 69 (nu true (dg 10 n)) := by
          have := hA
          unfold nl at this
          rwa [decide_eq_true hneg, absI_neg hneg, show - -n = n from by omega] at this
        have c0 := hA'.cell 0 (.bool true) rfl
        have h4 : n / 65536 ^ 4 = 0 := Int.ediv_eq_zero_of_lt (by omega) (by omega)
        clear hA hz1 hz2 hneg
        go_wp2
        go_loopw [4, 5] (fun out i wr => wr = w' ∧ ∃ (k : Nat), k ≤ 4 ∧ i = .int .i64 ((k : Int) - 1) ∧ out = .int .i64 (-(n / 65536 ^ k))) (fun _ i _ => (intOf i + 1).toNat)
        case atStart => exact ⟨rfl, 4, by omega, rfl, by rw [h4]; rfl⟩
        case round =>
          obtain ⟨rfl, k, hk, rfl, rfl⟩ := hrel
          by_cases hpos : 0 < k
          · obtain ⟨j, rfl⟩ : ∃ j, k = j + 1 := ⟨k - 1, by omega⟩
            rw [show (((j + 1 : Nat) : Int) - 1) = (j : Int) from by omega]
            have c1 := hA'.cell (1 + j) _ (nu_at' true (dg 10 n) j (by rw [len10]; omega))
            rw [dg_at 10 j n (by omega)] at c1
            have hs := dg_step n j
            have hl1 := dg_le n (j + 1) (by omega)
            have hl2 := dg_le n j (by omega)
            obtain ⟨hl3, hl4⟩ := hl1
            obtain ⟨hl5, hl6⟩ := hl2
            generalize n / 65536 ^ (j + 1) = q at *
            generalize hr0 : n / 65536 ^ j = r at *
            have HR := Lib.hid hr0
            clear hr0
            have hr1 : 0 ≤ r % 65536 := by omega
            have hr2 : r % 65536 < 65536 := by omega
            have HS := Lib.hid hs
            generalize hd : r % 65536 = d at *
            clear hd hs h4
            have hb1 : -9223372036854775808 ≤ -q * 65536 := by have := HS.out; omega
            have hb2 : -9223372036854775808 ≤ -q * 65536 + -d := by have := HS.out; omega
            go_wp2
            exact ⟨⟨trivial, j, by omega, rfl, by
              have := HS.out
              have e : -q * 65536 + -d = -r := by omega
              rw [e, HR.out]⟩, by simp only [intOf]; omega⟩
          · obtain rfl : k = 0 := by omega
            have HE : Hid (-(n / 65536 ^ 0) = -n) := by show -(n / 65536 ^ 0) = -n; simp
            go_wp2
            go_ret2
            exact ⟨ret_two (by rw [HC.out]; exact HE.out) (by rw [HC.out]), hBe⟩
      · have hn0 : 0 ≤ z := by omega
        have hA' : Blk w' w.heap.size 69 (nu false (dg 10 z)) := by
          have := hA
          unfold nl at this
          rwa [decide_eq_false hneg, absI_pos hn0] at this
        have c0 := hA'.cell 0 (.bool false) rfl
        have h4 : z / 65536 ^ 4 = 0 := Int.ediv_eq_zero_of_lt (by omega) (by omega)
        have hz3 : z ≤ 9223372036854775807 := by omega
        clear hA hz1 hz2 hneg
        go_wp2
        go_loopw [4, 5] (fun out i wr => wr = w' ∧ ∃ (k : Nat), k ≤ 4 ∧ i = .int .i64 ((k : Int) - 1) ∧ out = .int .i64 (z / 65536 ^ k)) (fun _ i _ => (intOf i + 1).toNat)
        case atStart => exact ⟨rfl, 4, by omega, rfl, by rw [h4]⟩
        case round =>
          obtain ⟨rfl, k, hk, rfl, rfl⟩ := hrel
          by_cases hpos : 0 < k
          · obtain ⟨j, rfl⟩ : ∃ j, k = j + 1 := ⟨k - 1, by omega⟩
            rw [show (((j + 1 : Nat) : Int) - 1) = (j : Int) from by omega]
            have c1 := hA'.cell (1 + j) _ (nu_at' false (dg 10 z) j (by rw [len10]; omega))
            rw [dg_at 10 j z (by omega)] at c1
            have hs := dg_step z j
            have hl1 := dg_le z (j + 1) (by omega)
            have hl2 := dg_le z j (by omega)
            obtain ⟨hl3, hl4⟩ := hl1
            obtain ⟨hl5, hl6⟩ := hl2
            generalize z / 65536 ^ (j + 1) = q at *
            generalize hr0 : z / 65536 ^ j = r at *
            have HR := Lib.hid hr0
            clear hr0
            have hr1 : 0 ≤ r % 65536 := by omega
            have hr2 : r % 65536 < 65536 := by omega
            have HS := Lib.hid hs
            generalize hd : r % 65536 = d at *
            clear hd hs h4
            have hb1 : q * 65536 ≤ 9223372036854775807 := by have := HS.out; omega
            have hb2 : q * 65536 + d ≤ 9223372036854775807 := by have := HS.out; omega
            go_wp2
            exact ⟨⟨trivial, j, by omega, rfl, by
              have := HS.out
              have e : q * 65536 + d = r := by omega
              rw [e, HR.out]⟩, by simp only [intOf]; omega⟩
          · obtain rfl : k = 0 := by omega
            have HE : Hid (z / 65536 ^ 0 = z) := by show z / 65536 ^ 0 = z; simp
            go_wp2
            go_ret2
            exact ⟨ret_two (by rw [HC.out]; exact HE.out) (by rw [HC.out]), hBe⟩
/-- A whole number, if it is one of 64 bits. -/
theorem cut_any (z : Int) (hz : absI z < 65536 ^ 9) (w : World) :
    Calls Try.prog 31 #[.agg (N z)] w fun e w' => e = .returned (.tuple #[.int .i64 (cutI z).1, .int .i64 (cutI z).2]) ∧ Below w.heap.size w w' :=
  cut_head z hz w _ _ rfl rfl
end Go.Proofs.Yteghjdmalbcdfaa
