/-
  The walk of the law PackTakes: it answers true at every input.
-/
import Derived.Test.YtoafkjilkfohjaaPkAlive
import Derived.Test.YtoafkjilkfohjaaTakesTail
set_option linter.unusedVariables false
set_option linter.unusedSimpArgs false
namespace Go.Proofs.Ytoafkjilkfohjaa
open Go.RowKit

theorem rdTk_flag {n : Nat} {L : List UInt8} {f : Bool} (hf : f = true → L = []) : (rdTk n L f).2.2 = true → (rdTk n L f).2.1 = [] := by
  unfold rdTk
  split
  · intro h; show List.drop n L = []; rw [hf h]; simp
  · exact fun _ => rfl
theorem rdTk_le (n : Nat) (L : List UInt8) (f : Bool) : (rdTk n L f).2.1.length ≤ L.length := by
  unfold rdTk
  split
  · show (List.drop n L).length ≤ _; rw [List.length_drop]; omega
  · simp
theorem rdT_flag {L : List UInt8} {f : Bool} (hf : f = true → L = []) : (rdT L f).2.2 = true → (rdT L f).2.1 = [] := rdTk_flag (rdSm_flag hf)
theorem rdT_le (L : List UInt8) (f : Bool) : (rdT L f).2.1.length ≤ L.length := Nat.le_trans (rdTk_le _ _ _) (rdSm_le2 _ _ _)
/-- Where the document's reader has been laid anew, and the reader not yet. -/
structure Mid (w : World) (r bw : Nat) (L : List UInt8) (f : Bool) (ao2 : Option Addr) (cap2 : Nat) (L2 : List UInt8) (f2 : Bool) : Prop where
  rd : RdAt w r L f
  blk : Blk w bw 49 [.slice ao2 L2.length cap2, .bool f2]
  sl : Sl w ao2 L2.length cap2 (bc L2)
theorem St.lay {w : World} {r bw : Nat} {L : List UInt8} {f : Bool} {ao2 : Option Addr} {cap2 : Nat} {L2 : List UInt8} {f2 : Bool} (h : St w r bw L f) (hne : bw ≠ r) (hs2 : Sl w ao2 L2.length cap2 (bc L2)) :
    Mid ((w.setCell ⟨bw, 0, none⟩ (.slice ao2 L2.length cap2)).setCell ⟨bw, 1, none⟩ (.bool f2)) r bw L f ao2 cap2 L2 f2 := by
  obtain ⟨⟨xo, xc, hB, hs⟩, ao, cap, h2, h3⟩ := h
  have h2' := h2.set 0 (.slice ao2 L2.length cap2)
  exact ⟨⟨xo, xc, (hB.other _ _ (fun e => hne e.symm)).other _ _ (fun e => hne e.symm), sl_set6 h2' (sl_set6 h2 hs 0 _) 1 _⟩, h2'.set 1 _, sl_set6 h2' (sl_set6 h2 hs2 0 _) 1 _⟩
theorem Mid.fin {w w7 : World} {r bw : Nat} {L : List UInt8} {f : Bool} {ao2 : Option Addr} {cap2 : Nat} {L2 : List UInt8} {f2 : Bool} (h : Mid w r bw L f ao2 cap2 L2 f2) (h7 : RdAt w7 r L2 f2) (hg : w.grownBy w7 (some r)) (hne : bw ≠ r) : St w7 r bw L2 f2 := by
  obtain ⟨⟨xo, xc, hB, hs⟩, h2, h3⟩ := h
  refine ⟨h7, ao2, cap2, ⟨by rw [hg.block bw h2.lt (by simpa using hne)]; exact h2.at_⟩, h3.len, h3.room, h3.nil, fun hn => ?_⟩
  obtain ⟨b, off, e', hbr, hc⟩ := rd_apart hB (n := L2.length) h3 hn
  refine ⟨b, off, e', fun j u hu => ?_⟩
  exact hg.cell (hc j u hu) (by simpa using hbr)
theorem below_grown {w w' w0 : World} {r B : Nat} (hb : Below B w0 w) (hB : B ≤ w0.heap.size) (hr : B ≤ r) (hg : w.grownBy w' (some r)) : Below B w0 w' :=
  hb.grown hg (Nat.le_trans hB hb.size) (fun k hk => by cases hk; exact hr)
theorem info_int : (Try.prog.info? 3).map (fun i => (i.zero, i.size, i.bytes)) = some (some (.int .i64 0), 1, 8) := by kernel_rfl
theorem size_int (w : World) : (sizeOf 3).run Try.prog w = .ok 1 w := by
  obtain ⟨i, hi, _, hs, _⟩ := info_parts info_int
  simp [sizeOf, typeInfo, hi, hs]
/-- A new reader, and whose its bytes are. -/
theorem new_own (w : World) (v : Value) (L : List UInt8) (h : SlB w v L) (hl : L.length ≤ 100000000000000) :
    Calls Try.prog 9 #[v] w fun e w' => ∃ r ao cap, e = .returned (.pointer (some ⟨r, 0, none⟩)) ∧ Blk w' r 67 [.slice ao L.length cap, .bool false] ∧ OwB w' w.heap.size (.slice ao L.length cap) L ∧ w.heap.size ≤ r ∧ Below w.heap.size w w' := by
  have HC := Lib.hid (clone_any w v L h hl)
  clear h
  go_enter Try.func9, Try.ntmps9
  go_wp2_with fail
  refine HC.out.mono ?_
  rintro e w1 ⟨v1, rfl, ho, hb⟩
  have ho' := ho
  obtain ⟨ao, cap, rfl, hs⟩ := ho.sl
  have HO := Lib.hid ho'
  have HB := Lib.hid hb
  clear ho ho' hs hb
  go_wp2
  go_ret
  exact ⟨_, ao, cap, rfl, Blk.new w1 _ [.slice ao L.length cap, .bool false], HO.out.alloc _, HB.out.size, HB.out.alloc HB.out.size _⟩
/-- What stands while the kinds are gone through. -/
structure Goes (w wr : World) (r bw : Nat) (L : List UInt8) (f : Bool) : Prop where
  st : St wr r bw L f
  flag : f = true → L = []
  le : L.length ≤ 400
  below : Below w.heap.size w wr
set_option maxRecDepth 8000 in
set_option maxHeartbeats 8000000 in
theorem takes_law (v : Value) (L : List UInt8) (ko : Option Addr) (kcap : Nat) (K : List Int) (ml : Int) (hml : (Lit.int .u64 ml).wf = true) (w : World) (h : SlB w v L) (hK : Sl w ko K.length kcap (ic K)) :
    Calls Try.prog 6 #[v, .slice ko K.length kcap, .int .u64 ml] w fun e w' => e = .returned (.bool true) ∧ Below w.heap.size w w' := by
  obtain ⟨lim, rfl, hlim⟩ : ∃ lim : Nat, ml = (lim : Int) ∧ lim < 18446744073709551616 := by
    simp [Lit.wf, IntKind.min, IntKind.max, IntKind.signed, IntKind.bits] at hml
    exact ⟨ml.toNat, by omega, by omega⟩
  clear hml
  obtain ⟨fo, fcap, rfl, hfs⟩ := h
  have HF : Hid (SlB w (.slice fo L.length fcap) L) := ⟨_, _, rfl, hfs⟩
  clear hfs
  by_cases hl : L.length ≤ 400 ∧ K.length ≤ 100
  · obtain ⟨hl0, hl1⟩ := hl
    go_enter Try.func6, Try.ntmps6
    go_wp2_with fail
    refine (alive_any _).mono ?_
    rintro e w1 ⟨rfl, hb1⟩
    have B1 := Lib.hid hb1
    clear hb1
    go_wp2_with (refine ap_sl rfl (.tmp 34) (.tmp 35) rfl w1.heap.size _ rfl [] (own_empty w1) L _ rfl (HF.out.keeps (B1.out.alloc B1.out.size _)) (by simp; omega) (by simp) ?_; intro v7 c7 h1 h2 h3; have B7 := Lib.hid (below_on B1.out B1.out.size (grown_below (own_empty w1) h2 (Nat.le_refl _) (Nat.le_refl _) (below_new1 w1 _))); have O7 : Hid (OwB c7 w.heap.size v7 L) := OwB.up h1 B1.out.size; clear h1 h2 h3)
    have HN := Lib.hid (new_own c7 v7 L O7.out.sl (by omega))
    refine HN.out.mono ?_
    rintro e w2 ⟨r, aoR, capR, rfl, hBr, hoR, hrl, hb2⟩
    have hx := O7.out.lt
    have O72 := Lib.hid (OwB.below (B := 0) O7.out hb2)
    have BR := Lib.hid hBr
    have OR := Lib.hid hoR
    have B2 := Lib.hid (below_on B7.out B7.out.size hb2)
    have HRL : Hid (c7.heap.size ≤ r) := hrl
    have HRW : Hid (w.heap.size ≤ r) := Nat.le_trans B7.out.size hrl
    have HG7 : Hid (∀ g, v7.ownBlock = some g → g < c7.heap.size) := fun g hg => (hx g hg).2
    clear hx hBr hoR hrl hb2 HN
    obtain ⟨a7, cap7, rfl, _⟩ := O7.out.sl
    clear O7
    go_wp2
    go_loopw [41] (fun i wr => ∃ k : Nat, k ≤ L.length ∧ i = .int .i64 k ∧ (∃ M : List UInt8, M.length = L.length ∧ OwB wr w.heap.size (.slice a7 L.length cap7) M) ∧ Blk wr r 67 [.slice aoR L.length capR, .bool false] ∧ OwB wr c7.heap.size (.slice aoR L.length capR) L ∧ Below w.heap.size w wr) (fun i _ => L.length - (intOf i).toNat)
    case atStart => exact ⟨0, by omega, rfl, ⟨L, rfl, O72.out⟩, BR.out, OR.out, B2.out⟩
    case round =>
      clear BR OR B2 O72
      obtain ⟨k, hk, rfl, ⟨M, hM, ho⟩, hbr, hor, hb⟩ := hrel
      by_cases hkl : k < L.length
      · have hoc := ho
        rcases ho.2 with ⟨e7, hn7⟩ | ⟨g, capg, cur, e7, _, hg, _⟩
        · simp at e7; omega
        · simp only [Value.slice.injEq] at e7
          obtain ⟨ea, _, _⟩ := e7
          subst ea
          have hgl : g < c7.heap.size := HG7.out g rfl
          obtain ⟨c, hc⟩ : ∃ c, M[k]? = some c := ⟨_, List.getElem?_eq_getElem (by omega)⟩
          have hcl := c.toNat_lt
          have hM' : (.slice (some ⟨g, 0, none⟩) L.length cap7 : Value) = .slice (some ⟨g, 0, none⟩) M.length cap7 := by rw [hM]
          have ho2 : wr.ownsRow w.heap.size 5 1 (.slice (some ⟨g, 0, none⟩) M.length cap7) M.length (bc M) := by rw [← hM']; exact hoc
          have hcell : wr.cell? ⟨g, k, none⟩ = some (.int .u8 c.toNat) := by
            rw [World.ownsRow.cellAt ho2 k (by omega)]
            simp [bc, hc]
          have hfz : wr.frozen? ⟨g, k, none⟩ = false := World.ownsRow.frozenAt ho2 k
          have hgn : g < wr.heap.size := (Array.getElem?_eq_some_iff.1 hg).1
          have HGW : Hid (w.heap.size ≤ g) := (World.ownsRow.lt ho2 g rfl).1
          have HGL : Hid (g < c7.heap.size) := hgl
          have hst := fun u => World.ownsRow.stored ho2 k u
          have HST := Lib.hid hst
          have HBR := Lib.hid hbr
          have HOR := Lib.hid hor
          have HB := Lib.hid hb
          have HM := Lib.hid hM
          have HC := Lib.hid hc
          have HRg : Hid (r ≠ g) := by
            have := HRL.out
            show r ≠ g
            omega
          clear ho hoc ho2 hst hbr hor hb hM hM' hg hc
          go_wp2
          go_roundw
          · have h9 := HST.out (.int .u8 ((c.toNat + 1) % 256 : Int))
            obtain ⟨h91, h92⟩ := h9
            refine ⟨k + 1, by omega, by go_num, ⟨M.set k (UInt8.ofNat (c.toNat + 1)), by rw [List.length_set]; exact HM.out, ?_⟩, ?_, ?_, ?_⟩
            · have e1 : bc (M.set k (UInt8.ofNat (c.toNat + 1))) = (bc M).set k (.int .u8 ((c.toNat + 1) % 256 : Int)) := by
                rw [bc, bc, List.map_set]
                congr 2
                all_goals simp
              show World.ownsRow _ _ _ 1 _ (M.set k (UInt8.ofNat (c.toNat + 1))).length _
              rw [e1, List.length_set, ← HM.out]
              exact h91
            · exact ⟨by rw [h92.block r HBR.out.lt (by simpa using HRg.out)]; exact HBR.out.at_⟩
            · exact World.ownsRow.kept HOR.out h92 (.inr (by
                intro hc
                have := (World.ownsRow.lt HOR.out g hc).1
                have := HGL.out
                omega))
            · exact HB.out.grown h92 HB.out.size (fun k hk => by cases hk; exact HGW.out)
          · simp [intOf]; omega
      · have hsr : Sl wr aoR L.length capR (bc L) := by
          obtain ⟨ao', cap', e', hs'⟩ := hor.sl
          simp only [Value.slice.injEq] at e'
          obtain ⟨rfl, _, rfl⟩ := e'
          exact hs'
        have HS0 : Hid (St (wr.alloc (.cells #[.slice fo L.length fcap, .bool false] 49)) r wr.heap.size L false) := by
          obtain ⟨fo', fcap', e', hf'⟩ := HF.out.keeps hb
          simp only [Value.slice.injEq] at e'
          obtain ⟨rfl, _, rfl⟩ := e'
          exact ⟨⟨aoR, capR, hbr.alloc _, hsr.keeps (below_new1 wr _)⟩, fo, fcap, Blk.new wr _ [.slice fo L.length fcap, .bool false], hf'.keeps (below_new1 wr _)⟩
        have HB0 := Lib.hid (hb.alloc hb.size (.cells #[.slice fo L.length fcap, .bool false] 49))
        obtain ⟨bw, hbw⟩ : ∃ bw, wr.heap.size = bw := ⟨_, rfl⟩
        have HNE : Hid (bw ≠ r) := by
          have := hbr.lt
          show bw ≠ r
          omega
        have HBW0 : Hid (w.heap.size ≤ bw) := by rw [← hbw]; exact hb.size
        clear ho hbr hor hsr hb HRL HG7
        go_wp2
        rw [hbw] at HS0
        clear hbw
        go_loopw [55] (fun i wr => ∃ k : Nat, k ≤ K.length ∧ i = .int .i64 k ∧ ∃ L1 f1, St wr r bw L1 f1 ∧ (f1 = true → L1 = []) ∧ L1.length ≤ 400 ∧ Below w.heap.size w wr) (fun i _ => K.length - (intOf i).toNat)
        case atStart => exact ⟨0, by omega, rfl, L, false, HS0.out, nofun, hl0, HB0.out⟩
        case round =>
          clear HS0 HB0
          obtain ⟨k, hk, rfl, L1, f1, hst, hf, hle, hb⟩ := hrel
          have HSt := Lib.hid hst
          have HB := Lib.hid hb
          by_cases hkl : k < K.length
          · obtain ⟨kd, hkd⟩ : ∃ kd, K[k]? = some kd := ⟨_, List.getElem?_eq_getElem hkl⟩
            have hKw := hK.keeps hb
            obtain ⟨hr, ao1, cap1, hblk, hs1⟩ := hst
            have HNk := Lib.hid hkd
            have W0 := hblk.cell 0 _ rfl; have W1 := hblk.cell 1 _ rfl; have Wf := hblk.frozen; have Wn := hblk.lt
            have HBk := Lib.hid hblk
            clear hkd hblk hb
            rcases (show kd = 0 ∨ kd = 1 ∨ kd = 2 ∨ kd = 3 ∨ kd = 4 ∨ kd = 5 ∨ (¬ kd = 0 ∧ ¬ kd = 1 ∧ ¬ kd = 2 ∧ ¬ kd = 3 ∧ ¬ kd = 4 ∧ ¬ kd = 5) from by omega) with rfl | rfl | rfl | rfl | rfl | rfl | ⟨k0, k1, k2, k3, k4, k5⟩
            · have HFL0 := Lib.hid (rdN_flag hf)
              have HLE0 := Lib.hid (Nat.le_trans (rdN_le L1 f1) hle)
              have ht := tnum_any wr (.agg #[.slice ao1 L1.length cap1, .bool f1]) L1 f1 ⟨_, _, rfl, hs1⟩ hf (by omega)
              obtain ⟨q, hq⟩ : ∃ q, rdN L1 f1 = q := ⟨_, rfl⟩
              have HQ := Lib.hid hq
              rw [hq] at ht HFL0 HLE0
              clear hq
              obtain ⟨n, L2, f2⟩ := q
              have HFL : Hid (f2 = true → L2 = []) := HFL0.out
              have HLE : Hid (L2.length ≤ 400) := HLE0.out
              simp only at ht
              have HT := Lib.hid ht
              clear ht HFL0 HLE0 hf hle hr hs1
              go_wp2_with (first | (refine wpList_ix_sl rfl 47 3 _ _ rfl Try.underlying47 size_int ko K.length kcap rfl (ic K) hKw k hkl rfl ?_; intro b off u hu hcell; obtain rfl : u = .int .i64 0 := by (simp [ic, HNk.out] at hu; exact hu.symm)))
              refine HT.out.mono ?_
              rintro e w5 ⟨v', rfl, ⟨ao2, cap2, rfl, hs2⟩, hb5⟩
              have HB5 := Lib.hid ((below_on HB.out HB.out.size hb5).alloc (below_on HB.out HB.out.size hb5).size (.cells #[.slice ao2 L2.length cap2, .bool f2] 49))
              have hbk := (HBk.out.keeps hb5).alloc (.cells #[.slice ao2 L2.length cap2, .bool f2] 49)
              have W0 := hbk.cell 0 _ rfl; have W1 := hbk.cell 1 _ rfl; have Wf := hbk.frozen; have Wn := hbk.lt
              have hnb := Blk.new w5 49 [.slice ao2 L2.length cap2, .bool f2]
              have N0 := hnb.cell 0 _ rfl; have N1 := hnb.cell 1 _ rfl
              have HMID := Lib.hid (St.lay (f2 := f2) (St.keeps (HSt.out.keeps hb5) (below_new1 w5 (.cells #[.slice ao2 L2.length cap2, .bool f2] 49))) HNE.out (hs2.keeps (below_new1 w5 (.cells #[.slice ao2 L2.length cap2, .bool f2] 49))))
              have HB6 : Hid (Below w.heap.size w (((w5.alloc (.cells #[.slice ao2 L2.length cap2, .bool f2] 49)).setCell ⟨bw, 0, none⟩ (.slice ao2 L2.length cap2)).setCell ⟨bw, 1, none⟩ (.bool f2))) := (HB5.out.setCell (p := ⟨bw, 0, none⟩) HBW0.out _).setCell (p := ⟨bw, 1, none⟩) HBW0.out _
              have hrc := rnum_any (((w5.alloc (.cells #[.slice ao2 L2.length cap2, .bool f2] 49)).setCell ⟨bw, 0, none⟩ (.slice ao2 L2.length cap2)).setCell ⟨bw, 1, none⟩ (.bool f2)) r L1 f1 HMID.out.rd
              rw [HQ.out] at hrc
              simp only at hrc
              have HRC := Lib.hid hrc
              clear hrc hs2 hb5 hbk hnb HT HSt HB HBk
              go_wp2_with fail
              refine HRC.out.mono ?_
              rintro e w7 ⟨rfl, h7, hg7⟩
              have HST := Lib.hid (Mid.fin HMID.out h7 hg7 HNE.out)
              have HB7 := Lib.hid (below_grown HB6.out (Nat.le_refl _) HRW.out hg7)
              clear h7 hg7 HRC HMID HB5 HB6 hKw W0 W1 Wf Wn N0 N1
              go_wp2_with fail
              obtain ⟨_, ao7, cap7, hblk7, _⟩ := HST.out
              have H7 := Lib.hid hblk7
              clear hblk7
              cases f2 with
              | false =>
                refine tail_on (b := L2.isEmpty) _ HST.out H7.out (by cases L2 <;> simp <;> omega) rfl rfl rfl rfl rfl ?_
                intro WW hbw
                have HX : Hid (St WW r bw L2 false ∧ Below w.heap.size w WW) := ⟨HST.out.keeps hbw, below_on HB7.out HB7.out.size hbw⟩
                clear hbw
                simp only [laid, List.setIfInBounds_toArray, List.set_cons_zero, List.set_cons_succ]
                go_wp2
                go_roundw
                · exact ⟨k + 1, by omega, by go_num, L2, _, HX.out.1, HFL.out, HLE.out, HX.out.2⟩
                · simp [intOf]; omega
              | true =>
                refine tail_off _ HST.out H7.out rfl rfl rfl rfl ?_
                intro WW hbw
                have HX : Hid (St WW r bw L2 true ∧ Below w.heap.size w WW) := ⟨HST.out.keeps hbw, below_on HB7.out HB7.out.size hbw⟩
                clear hbw
                simp only [laid, List.setIfInBounds_toArray, List.set_cons_zero, List.set_cons_succ]
                go_wp2
                go_roundw
                · exact ⟨k + 1, by omega, by go_num, L2, _, HX.out.1, HFL.out, HLE.out, HX.out.2⟩
                · simp [intOf]; omega
            · have HFL0 := Lib.hid (rdN_flag hf)
              have HLE0 := Lib.hid (Nat.le_trans (rdN_le L1 f1) hle)
              have ht := tint_any wr (.agg #[.slice ao1 L1.length cap1, .bool f1]) L1 f1 ⟨_, _, rfl, hs1⟩ hf (by omega)
              obtain ⟨q, hq⟩ : ∃ q, rdN L1 f1 = q := ⟨_, rfl⟩
              have HQ := Lib.hid hq
              rw [hq] at ht HFL0 HLE0
              clear hq
              obtain ⟨n, L2, f2⟩ := q
              have HFL : Hid (f2 = true → L2 = []) := HFL0.out
              have HLE : Hid (L2.length ≤ 400) := HLE0.out
              simp only at ht
              have HT := Lib.hid ht
              clear ht HFL0 HLE0 hf hle hr hs1
              go_wp2_with (first | (refine wpList_ix_sl rfl 47 3 _ _ rfl Try.underlying47 size_int ko K.length kcap rfl (ic K) hKw k hkl rfl ?_; intro b off u hu hcell; obtain rfl : u = .int .i64 1 := by (simp [ic, HNk.out] at hu; exact hu.symm)))
              refine HT.out.mono ?_
              rintro e w5 ⟨v', rfl, ⟨ao2, cap2, rfl, hs2⟩, hb5⟩
              have HB5 := Lib.hid ((below_on HB.out HB.out.size hb5).alloc (below_on HB.out HB.out.size hb5).size (.cells #[.slice ao2 L2.length cap2, .bool f2] 49))
              have hbk := (HBk.out.keeps hb5).alloc (.cells #[.slice ao2 L2.length cap2, .bool f2] 49)
              have W0 := hbk.cell 0 _ rfl; have W1 := hbk.cell 1 _ rfl; have Wf := hbk.frozen; have Wn := hbk.lt
              have hnb := Blk.new w5 49 [.slice ao2 L2.length cap2, .bool f2]
              have N0 := hnb.cell 0 _ rfl; have N1 := hnb.cell 1 _ rfl
              have HMID := Lib.hid (St.lay (f2 := f2) (St.keeps (HSt.out.keeps hb5) (below_new1 w5 (.cells #[.slice ao2 L2.length cap2, .bool f2] 49))) HNE.out (hs2.keeps (below_new1 w5 (.cells #[.slice ao2 L2.length cap2, .bool f2] 49))))
              have HB6 : Hid (Below w.heap.size w (((w5.alloc (.cells #[.slice ao2 L2.length cap2, .bool f2] 49)).setCell ⟨bw, 0, none⟩ (.slice ao2 L2.length cap2)).setCell ⟨bw, 1, none⟩ (.bool f2))) := (HB5.out.setCell (p := ⟨bw, 0, none⟩) HBW0.out _).setCell (p := ⟨bw, 1, none⟩) HBW0.out _
              have hrc := rint_any (((w5.alloc (.cells #[.slice ao2 L2.length cap2, .bool f2] 49)).setCell ⟨bw, 0, none⟩ (.slice ao2 L2.length cap2)).setCell ⟨bw, 1, none⟩ (.bool f2)) r L1 f1 HMID.out.rd
              rw [HQ.out] at hrc
              simp only at hrc
              have HRC := Lib.hid hrc
              clear hrc hs2 hb5 hbk hnb HT HSt HB HBk
              go_wp2_with fail
              refine HRC.out.mono ?_
              rintro e w7 ⟨rfl, h7, hg7⟩
              have HST := Lib.hid (Mid.fin HMID.out h7 hg7 HNE.out)
              have HB7 := Lib.hid (below_grown HB6.out (Nat.le_refl _) HRW.out hg7)
              clear h7 hg7 HRC HMID HB5 HB6 hKw W0 W1 Wf Wn N0 N1
              go_wp2_with fail
              obtain ⟨_, ao7, cap7, hblk7, _⟩ := HST.out
              have H7 := Lib.hid hblk7
              clear hblk7
              cases f2 with
              | false =>
                refine tail_on (b := L2.isEmpty) _ HST.out H7.out (by cases L2 <;> simp <;> omega) rfl rfl rfl rfl rfl ?_
                intro WW hbw
                have HX : Hid (St WW r bw L2 false ∧ Below w.heap.size w WW) := ⟨HST.out.keeps hbw, below_on HB7.out HB7.out.size hbw⟩
                clear hbw
                simp only [laid, List.setIfInBounds_toArray, List.set_cons_zero, List.set_cons_succ]
                go_wp2
                go_roundw
                · exact ⟨k + 1, by omega, by go_num, L2, _, HX.out.1, HFL.out, HLE.out, HX.out.2⟩
                · simp [intOf]; omega
              | true =>
                refine tail_off _ HST.out H7.out rfl rfl rfl rfl ?_
                intro WW hbw
                have HX : Hid (St WW r bw L2 true ∧ Below w.heap.size w WW) := ⟨HST.out.keeps hbw, below_on HB7.out HB7.out.size hbw⟩
                clear hbw
                simp only [laid, List.setIfInBounds_toArray, List.set_cons_zero, List.set_cons_succ]
                go_wp2
                go_roundw
                · exact ⟨k + 1, by omega, by go_num, L2, _, HX.out.1, HFL.out, HLE.out, HX.out.2⟩
                · simp [intOf]; omega
            · have HFL0 := Lib.hid (rdSm_flag (lim := lim) hf)
              have HLE0 := Lib.hid (Nat.le_trans (rdSm_le2 lim L1 f1) hle)
              have ht := tsmall_any lim hlim wr (.agg #[.slice ao1 L1.length cap1, .bool f1]) L1 f1 ⟨_, _, rfl, hs1⟩ hf (by omega)
              obtain ⟨q, hq⟩ : ∃ q, rdSm lim L1 f1 = q := ⟨_, rfl⟩
              have HQ := Lib.hid hq
              rw [hq] at ht HFL0 HLE0
              clear hq
              obtain ⟨n, L2, f2⟩ := q
              have HFL : Hid (f2 = true → L2 = []) := HFL0.out
              have HLE : Hid (L2.length ≤ 400) := HLE0.out
              simp only at ht
              have HT := Lib.hid ht
              clear ht HFL0 HLE0 hf hle hr hs1
              go_wp2_with (first | (refine wpList_ix_sl rfl 47 3 _ _ rfl Try.underlying47 size_int ko K.length kcap rfl (ic K) hKw k hkl rfl ?_; intro b off u hu hcell; obtain rfl : u = .int .i64 2 := by (simp [ic, HNk.out] at hu; exact hu.symm)))
              refine HT.out.mono ?_
              rintro e w5 ⟨v', rfl, ⟨ao2, cap2, rfl, hs2⟩, hb5⟩
              have HB5 := Lib.hid ((below_on HB.out HB.out.size hb5).alloc (below_on HB.out HB.out.size hb5).size (.cells #[.slice ao2 L2.length cap2, .bool f2] 49))
              have hbk := (HBk.out.keeps hb5).alloc (.cells #[.slice ao2 L2.length cap2, .bool f2] 49)
              have W0 := hbk.cell 0 _ rfl; have W1 := hbk.cell 1 _ rfl; have Wf := hbk.frozen; have Wn := hbk.lt
              have hnb := Blk.new w5 49 [.slice ao2 L2.length cap2, .bool f2]
              have N0 := hnb.cell 0 _ rfl; have N1 := hnb.cell 1 _ rfl
              have HMID := Lib.hid (St.lay (f2 := f2) (St.keeps (HSt.out.keeps hb5) (below_new1 w5 (.cells #[.slice ao2 L2.length cap2, .bool f2] 49))) HNE.out (hs2.keeps (below_new1 w5 (.cells #[.slice ao2 L2.length cap2, .bool f2] 49))))
              have HB6 : Hid (Below w.heap.size w (((w5.alloc (.cells #[.slice ao2 L2.length cap2, .bool f2] 49)).setCell ⟨bw, 0, none⟩ (.slice ao2 L2.length cap2)).setCell ⟨bw, 1, none⟩ (.bool f2))) := (HB5.out.setCell (p := ⟨bw, 0, none⟩) HBW0.out _).setCell (p := ⟨bw, 1, none⟩) HBW0.out _
              have hrc := small_any lim hlim (((w5.alloc (.cells #[.slice ao2 L2.length cap2, .bool f2] 49)).setCell ⟨bw, 0, none⟩ (.slice ao2 L2.length cap2)).setCell ⟨bw, 1, none⟩ (.bool f2)) r L1 f1 HMID.out.rd
              rw [HQ.out] at hrc
              simp only at hrc
              have HRC := Lib.hid hrc
              clear hrc hs2 hb5 hbk hnb HT HSt HB HBk
              go_wp2_with fail
              refine HRC.out.mono ?_
              rintro e w7 ⟨rfl, h7, hg7⟩
              have HST := Lib.hid (Mid.fin HMID.out h7 hg7 HNE.out)
              have HB7 := Lib.hid (below_grown HB6.out (Nat.le_refl _) HRW.out hg7)
              clear h7 hg7 HRC HMID HB5 HB6 hKw W0 W1 Wf Wn N0 N1
              go_wp2_with fail
              obtain ⟨_, ao7, cap7, hblk7, _⟩ := HST.out
              have H7 := Lib.hid hblk7
              clear hblk7
              cases f2 with
              | false =>
                refine tail_on (b := L2.isEmpty) _ HST.out H7.out (by cases L2 <;> simp <;> omega) rfl rfl rfl rfl rfl ?_
                intro WW hbw
                have HX : Hid (St WW r bw L2 false ∧ Below w.heap.size w WW) := ⟨HST.out.keeps hbw, below_on HB7.out HB7.out.size hbw⟩
                clear hbw
                simp only [laid, List.setIfInBounds_toArray, List.set_cons_zero, List.set_cons_succ]
                go_wp2
                go_roundw
                · exact ⟨k + 1, by omega, by go_num, L2, _, HX.out.1, HFL.out, HLE.out, HX.out.2⟩
                · simp [intOf]; omega
              | true =>
                refine tail_off _ HST.out H7.out rfl rfl rfl rfl ?_
                intro WW hbw
                have HX : Hid (St WW r bw L2 true ∧ Below w.heap.size w WW) := ⟨HST.out.keeps hbw, below_on HB7.out HB7.out.size hbw⟩
                clear hbw
                simp only [laid, List.setIfInBounds_toArray, List.set_cons_zero, List.set_cons_succ]
                go_wp2
                go_roundw
                · exact ⟨k + 1, by omega, by go_num, L2, _, HX.out.1, HFL.out, HLE.out, HX.out.2⟩
                · simp [intOf]; omega
            · have HFL0 := Lib.hid (rdT_flag hf)
              have HLE0 := Lib.hid (Nat.le_trans (rdT_le L1 f1) hle)
              have ht := ttext_any wr (.agg #[.slice ao1 L1.length cap1, .bool f1]) L1 f1 ⟨_, _, rfl, hs1⟩ hf (by omega)
              obtain ⟨q, hq⟩ : ∃ q, rdT L1 f1 = q := ⟨_, rfl⟩
              have HQ := Lib.hid hq
              rw [hq] at ht HFL0 HLE0
              clear hq
              obtain ⟨M, L2, f2⟩ := q
              have HFL : Hid (f2 = true → L2 = []) := HFL0.out
              have HLE : Hid (L2.length ≤ 400) := HLE0.out
              simp only at ht
              have HT := Lib.hid ht
              clear ht HFL0 HLE0 hf hle hr hs1
              go_wp2_with (first | (refine wpList_ix_sl rfl 47 3 _ _ rfl Try.underlying47 size_int ko K.length kcap rfl (ic K) hKw k hkl rfl ?_; intro b off u hu hcell; obtain rfl : u = .int .i64 3 := by (simp [ic, HNk.out] at hu; exact hu.symm)))
              refine HT.out.mono ?_
              rintro e w5 ⟨v', rfl, ⟨ao2, cap2, rfl, hs2⟩, hb5⟩
              have HB5 := Lib.hid ((below_on HB.out HB.out.size hb5).alloc (below_on HB.out HB.out.size hb5).size (.cells #[.slice ao2 L2.length cap2, .bool f2] 49))
              have hbk := (HBk.out.keeps hb5).alloc (.cells #[.slice ao2 L2.length cap2, .bool f2] 49)
              have W0 := hbk.cell 0 _ rfl; have W1 := hbk.cell 1 _ rfl; have Wf := hbk.frozen; have Wn := hbk.lt
              have hnb := Blk.new w5 49 [.slice ao2 L2.length cap2, .bool f2]
              have N0 := hnb.cell 0 _ rfl; have N1 := hnb.cell 1 _ rfl
              have HMID := Lib.hid (St.lay (f2 := f2) (St.keeps (HSt.out.keeps hb5) (below_new1 w5 (.cells #[.slice ao2 L2.length cap2, .bool f2] 49))) HNE.out (hs2.keeps (below_new1 w5 (.cells #[.slice ao2 L2.length cap2, .bool f2] 49))))
              have HB6 : Hid (Below w.heap.size w (((w5.alloc (.cells #[.slice ao2 L2.length cap2, .bool f2] 49)).setCell ⟨bw, 0, none⟩ (.slice ao2 L2.length cap2)).setCell ⟨bw, 1, none⟩ (.bool f2))) := (HB5.out.setCell (p := ⟨bw, 0, none⟩) HBW0.out _).setCell (p := ⟨bw, 1, none⟩) HBW0.out _
              have hrc := rtext_any (((w5.alloc (.cells #[.slice ao2 L2.length cap2, .bool f2] 49)).setCell ⟨bw, 0, none⟩ (.slice ao2 L2.length cap2)).setCell ⟨bw, 1, none⟩ (.bool f2)) r L1 f1 HMID.out.rd
              rw [HQ.out] at hrc
              simp only at hrc
              have HRC := Lib.hid hrc
              clear hrc hs2 hb5 hbk hnb HT HSt HB HBk
              go_wp2_with fail
              refine HRC.out.mono ?_
              rintro e w7 ⟨rfl, h7, hg7⟩
              have HST := Lib.hid (Mid.fin HMID.out h7 hg7 HNE.out)
              have HB7 := Lib.hid (below_grown HB6.out (Nat.le_refl _) HRW.out hg7)
              clear h7 hg7 HRC HMID HB5 HB6 hKw W0 W1 Wf Wn N0 N1
              go_wp2_with fail
              obtain ⟨_, ao7, cap7, hblk7, _⟩ := HST.out
              have H7 := Lib.hid hblk7
              clear hblk7
              cases f2 with
              | false =>
                refine tail_on (b := L2.isEmpty) _ HST.out H7.out (by cases L2 <;> simp <;> omega) rfl rfl rfl rfl rfl ?_
                intro WW hbw
                have HX : Hid (St WW r bw L2 false ∧ Below w.heap.size w WW) := ⟨HST.out.keeps hbw, below_on HB7.out HB7.out.size hbw⟩
                clear hbw
                simp only [laid, List.setIfInBounds_toArray, List.set_cons_zero, List.set_cons_succ]
                go_wp2
                go_roundw
                · exact ⟨k + 1, by omega, by go_num, L2, _, HX.out.1, HFL.out, HLE.out, HX.out.2⟩
                · simp [intOf]; omega
              | true =>
                refine tail_off _ HST.out H7.out rfl rfl rfl rfl ?_
                intro WW hbw
                have HX : Hid (St WW r bw L2 true ∧ Below w.heap.size w WW) := ⟨HST.out.keeps hbw, below_on HB7.out HB7.out.size hbw⟩
                clear hbw
                simp only [laid, List.setIfInBounds_toArray, List.set_cons_zero, List.set_cons_succ]
                go_wp2
                go_roundw
                · exact ⟨k + 1, by omega, by go_num, L2, _, HX.out.1, HFL.out, HLE.out, HX.out.2⟩
                · simp [intOf]; omega
            · have HFL0 := Lib.hid (rdTk_flag (n := 8) hf)
              have HLE0 := Lib.hid (Nat.le_trans (rdTk_le 8 L1 f1) hle)
              have ht := tfloat_any wr (.agg #[.slice ao1 L1.length cap1, .bool f1]) L1 f1 ⟨_, _, rfl, hs1⟩ hf
              obtain ⟨q, hq⟩ : ∃ q, rdTk 8 L1 f1 = q := ⟨_, rfl⟩
              have HQ := Lib.hid hq
              rw [hq] at ht HFL0 HLE0
              clear hq
              obtain ⟨M, L2, f2⟩ := q
              have HFL : Hid (f2 = true → L2 = []) := HFL0.out
              have HLE : Hid (L2.length ≤ 400) := HLE0.out
              simp only at ht
              have HT := Lib.hid ht
              clear ht HFL0 HLE0 hf hle hr hs1
              go_wp2_with (first | (refine wpList_ix_sl rfl 47 3 _ _ rfl Try.underlying47 size_int ko K.length kcap rfl (ic K) hKw k hkl rfl ?_; intro b off u hu hcell; obtain rfl : u = .int .i64 4 := by (simp [ic, HNk.out] at hu; exact hu.symm)))
              refine HT.out.mono ?_
              rintro e w5 ⟨v', rfl, ⟨ao2, cap2, rfl, hs2⟩, hb5⟩
              have HB5 := Lib.hid ((below_on HB.out HB.out.size hb5).alloc (below_on HB.out HB.out.size hb5).size (.cells #[.slice ao2 L2.length cap2, .bool f2] 49))
              have hbk := (HBk.out.keeps hb5).alloc (.cells #[.slice ao2 L2.length cap2, .bool f2] 49)
              have W0 := hbk.cell 0 _ rfl; have W1 := hbk.cell 1 _ rfl; have Wf := hbk.frozen; have Wn := hbk.lt
              have hnb := Blk.new w5 49 [.slice ao2 L2.length cap2, .bool f2]
              have N0 := hnb.cell 0 _ rfl; have N1 := hnb.cell 1 _ rfl
              have HMID := Lib.hid (St.lay (f2 := f2) (St.keeps (HSt.out.keeps hb5) (below_new1 w5 (.cells #[.slice ao2 L2.length cap2, .bool f2] 49))) HNE.out (hs2.keeps (below_new1 w5 (.cells #[.slice ao2 L2.length cap2, .bool f2] 49))))
              have HB6 : Hid (Below w.heap.size w (((w5.alloc (.cells #[.slice ao2 L2.length cap2, .bool f2] 49)).setCell ⟨bw, 0, none⟩ (.slice ao2 L2.length cap2)).setCell ⟨bw, 1, none⟩ (.bool f2))) := (HB5.out.setCell (p := ⟨bw, 0, none⟩) HBW0.out _).setCell (p := ⟨bw, 1, none⟩) HBW0.out _
              have hrc := rfloat_any (((w5.alloc (.cells #[.slice ao2 L2.length cap2, .bool f2] 49)).setCell ⟨bw, 0, none⟩ (.slice ao2 L2.length cap2)).setCell ⟨bw, 1, none⟩ (.bool f2)) r L1 f1 HMID.out.rd
              rw [HQ.out] at hrc
              simp only at hrc
              have HRC := Lib.hid hrc
              clear hrc hs2 hb5 hbk hnb HT HSt HB HBk
              have hd := fun w => bits_run (v256 M) w
              go_wp2_with fail
              refine HRC.out.mono ?_
              rintro e w7 ⟨rfl, h7, hg7⟩
              have HST := Lib.hid (Mid.fin HMID.out h7 hg7 HNE.out)
              have HB7 := Lib.hid (below_grown HB6.out (Nat.le_refl _) HRW.out hg7)
              clear h7 hg7 HRC HMID HB5 HB6 hKw W0 W1 Wf Wn N0 N1
              go_wp2_with fail
              obtain ⟨_, ao7, cap7, hblk7, _⟩ := HST.out
              have H7 := Lib.hid hblk7
              clear hblk7
              cases f2 with
              | false =>
                refine tail_on (b := L2.isEmpty) _ HST.out H7.out (by cases L2 <;> simp <;> omega) rfl rfl rfl rfl rfl ?_
                intro WW hbw
                have HX : Hid (St WW r bw L2 false ∧ Below w.heap.size w WW) := ⟨HST.out.keeps hbw, below_on HB7.out HB7.out.size hbw⟩
                clear hbw
                simp only [laid, List.setIfInBounds_toArray, List.set_cons_zero, List.set_cons_succ]
                go_wp2
                go_roundw
                · exact ⟨k + 1, by omega, by go_num, L2, _, HX.out.1, HFL.out, HLE.out, HX.out.2⟩
                · simp [intOf]; omega
              | true =>
                refine tail_off _ HST.out H7.out rfl rfl rfl rfl ?_
                intro WW hbw
                have HX : Hid (St WW r bw L2 true ∧ Below w.heap.size w WW) := ⟨HST.out.keeps hbw, below_on HB7.out HB7.out.size hbw⟩
                clear hbw
                simp only [laid, List.setIfInBounds_toArray, List.set_cons_zero, List.set_cons_succ]
                go_wp2
                go_roundw
                · exact ⟨k + 1, by omega, by go_num, L2, _, HX.out.1, HFL.out, HLE.out, HX.out.2⟩
                · simp [intOf]; omega
            · have HFC := Lib.hid (fail_any wr r L1 f1 hr)
              clear hf hle hr hs1
              go_wp2_with (first | (refine wpList_ix_sl rfl 47 3 _ _ rfl Try.underlying47 size_int ko K.length kcap rfl (ic K) hKw k hkl rfl ?_; intro b off u hu hcell; obtain rfl : u = .int .i64 5 := by (simp [ic, HNk.out] at hu; exact hu.symm)))
              refine HFC.out.mono ?_
              rintro e w5 ⟨rfl, h5, hg5⟩
              obtain ⟨xo, xc, hBr5, _⟩ := id h5
              have hbk : Blk w5 bw 49 [.slice ao1 L1.length cap1, .bool f1] := ⟨by rw [hg5.block bw HBk.out.lt (by simpa using HNE.out)]; exact HBk.out.at_⟩
              have W0 := hbk.cell 0 _ rfl; have W1 := hbk.cell 1 _ rfl; have Wf := hbk.frozen; have Wn := hbk.lt
              have hZ := (hbk.set 0 (.slice none 0 0)).set 1 (.bool true)
              have HST : Hid (St ((w5.setCell ⟨bw, 0, none⟩ (.slice none 0 0)).setCell ⟨bw, 1, none⟩ (.bool true)) r bw [] true) := by
                obtain ⟨yo, yc, hB, hs⟩ := h5
                exact ⟨⟨yo, yc, (hB.other _ _ (fun e => HNE.out e.symm)).other _ _ (fun e => HNE.out e.symm), sl_set6 (hbk.set 0 _) (sl_set6 hbk hs 0 _) 1 _⟩, none, 0, hZ, Sl.of_nil _⟩
              have HB7 : Hid (Below w.heap.size w ((w5.setCell ⟨bw, 0, none⟩ (.slice none 0 0)).setCell ⟨bw, 1, none⟩ (.bool true))) := ((below_grown HB.out (Nat.le_refl _) HRW.out hg5).setCell (p := ⟨bw, 0, none⟩) HBW0.out _).setCell (p := ⟨bw, 1, none⟩) HBW0.out _
              have HFL : Hid (true = true → ([] : List UInt8) = []) := fun _ => rfl
              have HLE : Hid (([] : List UInt8).length ≤ 400) := Nat.zero_le _
              clear h5 hg5 HFC hBr5 hZ hKw HSt HB HBk hbk
              go_wp2_with fail
              obtain ⟨_, ao7, cap7, hblk7, _⟩ := HST.out
              have H7 := Lib.hid hblk7
              clear hblk7 W0 W1 Wf Wn
              refine tail_off _ HST.out H7.out rfl rfl rfl rfl ?_
              intro WW hbw
              have HX : Hid (St WW r bw [] true ∧ Below w.heap.size w WW) := ⟨HST.out.keeps hbw, below_on HB7.out HB7.out.size hbw⟩
              clear hbw
              simp only [laid, List.setIfInBounds_toArray, List.set_cons_zero, List.set_cons_succ]
              go_wp2
              go_roundw
              · exact ⟨k + 1, by omega, by go_num, [], true, HX.out.1, fun _ => rfl, by simp, HX.out.2⟩
              · simp [intOf]; omega
            · obtain ⟨L2, f2, hst2, hfl2, hle2⟩ : ∃ L2 f2, St wr r bw L2 f2 ∧ (f2 = true → L2 = []) ∧ L2.length ≤ 400 := ⟨L1, f1, HSt.out, hf, hle⟩
              have HST := Lib.hid hst2
              have HFL := Lib.hid hfl2
              have HLE := Lib.hid hle2
              have HB7 := HB
              clear hst2 hfl2 hle2 hf hle hr hs1 HSt HBk W0 W1 Wf Wn
              go_wp2_with (first | (refine wpList_ix_sl rfl 47 3 _ _ rfl Try.underlying47 size_int ko K.length kcap rfl (ic K) hKw k hkl rfl ?_; intro b off u hu hcell; obtain rfl : u = .int .i64 kd := by (simp [ic, HNk.out] at hu; exact hu.symm)))
              obtain ⟨_, ao7, cap7, hblk7, _⟩ := HST.out
              have H7 := Lib.hid hblk7
              clear hblk7
              cases f2 with
              | false =>
                refine tail_on (b := L2.isEmpty) _ HST.out H7.out (by cases L2 <;> simp <;> omega) rfl rfl rfl rfl rfl ?_
                intro WW hbw
                have HX : Hid (St WW r bw L2 false ∧ Below w.heap.size w WW) := ⟨HST.out.keeps hbw, below_on HB7.out HB7.out.size hbw⟩
                clear hbw
                simp only [laid, List.setIfInBounds_toArray, List.set_cons_zero, List.set_cons_succ]
                go_wp2
                go_roundw
                · exact ⟨k + 1, by omega, by go_num, L2, _, HX.out.1, HFL.out, HLE.out, HX.out.2⟩
                · simp [intOf]; omega
              | true =>
                refine tail_off _ HST.out H7.out rfl rfl rfl rfl ?_
                intro WW hbw
                have HX : Hid (St WW r bw L2 true ∧ Below w.heap.size w WW) := ⟨HST.out.keeps hbw, below_on HB7.out HB7.out.size hbw⟩
                clear hbw
                simp only [laid, List.setIfInBounds_toArray, List.set_cons_zero, List.set_cons_succ]
                go_wp2
                go_roundw
                · exact ⟨k + 1, by omega, by go_num, L2, _, HX.out.1, HFL.out, HLE.out, HX.out.2⟩
                · simp [intOf]; omega
          · clear hst
            go_wp2
            go_ret
            exact ⟨rfl, HB.out⟩
  · go_enter Try.func6, Try.ntmps6
    go_wp2_with fail
    refine (alive_any _).mono ?_
    rintro e w1 ⟨rfl, hb1⟩
    go_wp2
    all_goals (go_ret; exact ⟨rfl, hb1⟩)
end Go.Proofs.Ytoafkjilkfohjaa
