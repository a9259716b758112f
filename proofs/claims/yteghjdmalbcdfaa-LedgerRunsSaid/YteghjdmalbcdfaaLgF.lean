/-
  The walk of Ledger.Post: on to the result.
-/
import Derived.Test.YteghjdmalbcdfaaLgE
set_option linter.unusedVariables false
set_option linter.unusedSimpArgs false
namespace Go.Proofs.Yteghjdmalbcdfaa
open Go.RowKit Dg

set_option maxRecDepth 8000 in
set_option maxHeartbeats 3200000 in
theorem post_full (w : World) (B b : Nat) (v : Value) (C : List Value) (T : List Int) (E : List (List Lg)) (hled : Led w B b v C T E) (hB : B ≤ w.heap.size) (hE : E.length ≤ 100000) (hTr : ∀ x ∈ T, -9223372036854775808 ≤ x ∧ x ≤ 9223372036854775807) (ao : Option Addr) (cap : Nat) (L : List Lg) (h : SlG w ao cap L) (hao : L ≠ [] → ∀ a, ao = some a → a.block ≠ b ∧ some a.block ≠ v.ownBlock) (hl : L.length ≤ 1000) (hr : ∀ t ∈ L, -9223372036854775808 ≤ t.2 ∧ t.2 ≤ 9223372036854775807) (s : List Int × List (List Lg) × Int × Int) (hs : postS T E L = s) :
    Calls Try.prog 12 #[.pointer (some ⟨b, 0, none⟩), .slice ao L.length cap] w fun e w' => e = .returned (.tuple #[.int .i64 s.2.2.1, .int .i64 s.2.2.2]) ∧ (∃ v' C', Led w' B b v' C' s.1 s.2.1 ∧ (∀ g, v'.ownBlock = some g → v.ownBlock = some g ∨ w.heap.size ≤ g) ∧ (∀ u ∈ C', u ∈ C ∨ ∀ g, u.ownBlock = some g → w.heap.size ≤ g) ∧ (s.2.1 = [] → v' = v)) ∧ Fr b v.ownBlock w w' := by
  have HLD := Lib.hid hled
  have H := Lib.hid h
  have HA := Lib.hid (ladd_any w T hled.len hTr ao cap L h hl hr _ rfl)
  have HL0 := Lib.hid hled.blk
  have hat := Lib.hid (show w.rangeAt b 1 (ic T) from by
    have := hled.blk.rangeMid 1 8
    rwa [show ((v :: ic T).drop 1).take 8 = ic T from by simp [List.take_of_length_le, ic_len, hled.len]] at this)
  have H8 := Lib.hid hled.len
  have HS := Lib.hid hs
  obtain ⟨T2, hT2⟩ : ∃ q, (addS T L).1 = q := ⟨_, rfl⟩
  obtain ⟨er, her⟩ : ∃ q, (addS T L).2 = q := ⟨_, rfl⟩
  rw [hT2, her] at HA
  have HT2 : Hid (T2.length = 8) := by
    show _ = _
    rw [← hT2]; unfold addS newT; split
    · split
      · exact mixT_len _ _ _
      · rfl
    · rfl
  have HSp : Hid (s = if er = 131 then (T, E, 0, 131) else if 4096 ≤ E.length then (T, E, 0, 132) else if er = 0 then (T2, E ++ [L], (E.length : Int), 0) else (T, E, 0, er)) := by
    show _ = _
    rw [← hs]; unfold postS; rw [hT2, her]
  have HE := Lib.hid hE
  obtain ⟨eo, ecap, rfl⟩ := own_shape hled.row
  clear hled h hs hT2 her HS
  go_enter Try.func12, Try.ntmps12
  go_wp2_with (refine ld_i8 rfl _ rfl b 1 rfl T H8.out hat.out ?_)
  refine HA.out.mono ?_
  rintro e w1 ⟨rfl, hb1⟩
  have HBf := Lib.hid hb1
  obtain ⟨c, hc⟩ : ∃ c, w1.heap.size = c := ⟨_, rfl⟩
  have HC1 := Lib.hid (Blk.new w1 22 (ic z8))
  have HBa := Lib.hid (hb1.alloc hb1.size (.cells (ic z8).toArray 22))
  have hwc := hb1.size
  rw [hc] at HC1 hwc
  have HTHc := Lib.hid (HC1.out.thereMid 0 8 (by decide))
  have HWC := Lib.hid hwc
  have hbc := HL0.out.lt
  have HBC := Lib.hid (show b < c by omega)
  clear hb1 hwc hbc
  go_wp2_with (refine st_i8 rfl _ _ rfl c 0 rfl T2 rfl HT2.out HTHc.out ?_)
  intro W2 hW
  have HC2 : Hid (Blk W2 c 22 (ic T2)) := by show Blk _ _ _ _; rw [hW.out]; exact HC1.out.setAll _ (by rw [ic_len, ic_len, HT2.out]; rfl)
  have HB2 : Hid (Below w.heap.size w W2) := by show Below _ _ _; rw [hW.out]; exact below_setCells _ _ HBa.out HWC.out
  have HLD2 := Lib.hid (HLD.out.keeps HB2.out)
  have e0 := HLD2.out.blk.cell 0 _ rfl
  clear hW HC1 HTHc HBa HBf hc
  by_cases h1 : er = 131
  · subst h1
    have HF : Hid (s = (T, E, 0, 131)) := by show _ = _; rw [HSp.out, if_pos rfl]
    go_wp2
    go_ret2
    exact ⟨by rw [HF.out]; rfl, ⟨_, C, by rw [HF.out]; exact HLD2.out, fun g h => .inl h, fun u hu => .inl hu, fun _ => rfl⟩, Fr.of_below HB2.out⟩
  · by_cases h2 : 4096 ≤ E.length
    · have HF : Hid (s = (T, E, 0, 132)) := by show _ = _; rw [HSp.out, if_neg h1, if_pos h2]
      have h2' : (4096 : Int) ≤ E.length := by omega
      clear h2
      go_wp2
      go_ret2
      exact ⟨by rw [HF.out]; rfl, ⟨_, C, by rw [HF.out]; exact HLD2.out, fun g h => .inl h, fun u hu => .inl hu, fun _ => rfl⟩, Fr.of_below HB2.out⟩
    · by_cases h3 : er = 0
      · subst h3
        have HF : Hid (s = (T2, E ++ [L], (E.length : Int), 0)) := by show _ = _; rw [HSp.out, if_neg h1, if_neg h2, if_pos rfl]
        have HTHb := Lib.hid (HLD2.out.blk.thereMid 1 8 (by simp [ic_len, H8.out]))
        have h2' : ¬ (4096 : Int) ≤ E.length := by omega
        clear h1 h2
        go_wp2_with (first | (refine ld_i8 rfl _ rfl c 0 rfl T2 HT2.out HC2.out.range ?_) | (refine st_i8 rfl _ _ rfl b 1 rfl T2 rfl HT2.out HTHb.out ?_))
        intro W3 hW
        have HL3 : Hid (Blk W3 b 64 (.slice eo E.length ecap :: ic T2)) := by
          show Blk _ _ _ _
          rw [hW.out]
          have := Blk.setCells (ic T2) 1 HLD2.out.blk (by simp [ic_len, H8.out, HT2.out])
          rwa [show (Value.slice eo E.length ecap :: ic T).take 1 ++ ic T2 ++ (Value.slice eo E.length ecap :: ic T).drop (1 + (ic T2).length) = Value.slice eo E.length ecap :: ic T2 from by
            rw [List.drop_of_length_le (by simp [ic_len, H8.out, HT2.out])]; simp] at this
        have HF3 : Hid (Fr b none W2 W3) := by show Fr _ _ _ _; rw [hW.out]; exact Fr.setCells (Fr.of_below (Below.refl _ _)) 1 _
        have HRow : Hid (W3.ownsRow B 23 1 (.slice eo E.length ecap) E.length C) := own_fr HLD2.out.row HF3.out HLD2.out.vb (by cases (Value.slice eo E.length ecap).ownBlock <;> simp)
        have HEnt3 : Hid (Led W3 B b (.slice eo E.length ecap) C T2 E) := ⟨HL3.out, HT2.out, HRow.out, HLD2.out.bb, HLD2.out.vb, fun i L' hi => by
          obtain ⟨ao', cap', e1, e2, e3⟩ := HLD2.out.ent i L' hi
          exact ⟨ao', cap', e1, e2.fr HF3.out (fun a ha => ⟨(e3 a ha).2.1, by simp⟩), fun a ha => ⟨Nat.lt_of_lt_of_le (e3 a ha).1 HF3.out.size, (e3 a ha).2⟩⟩⟩
        have HS3 : Hid (SlG W3 ao cap L) := by
          refine (H.out.keeps HB2.out).fr' HF3.out (fun hn a ha => ⟨(hao (fun e => hn (by rw [e]; rfl)) a ha).1, by simp⟩)
        have HC := Lib.hid (fun W (hb : Below W3.heap.size W3 W) => lclone_any W ao cap L (HS3.out.keeps hb) (by omega))
        have HBz : Hid (B ≤ W3.heap.size) := Nat.le_trans hB (Nat.le_trans HB2.out.size HF3.out.size)
        have HN : Hid (E.length ≤ 1000000) := by show _ ≤ _; omega
        have HVB := Lib.hid HLD2.out.vb
        have HL := HL3
        have HFr0 : Hid (Fr b (Value.slice eo E.length ecap).ownBlock w W3) := (Fr.of_below HB2.out).trans ⟨HF3.out.os, HF3.out.tape, HF3.out.output, HF3.out.size, fun k hk h1 _ => HF3.out.block k hk h1 (by simp)⟩
        have HWs := Lib.hid (Nat.le_trans HB2.out.size HF3.out.size)
        clear hW HC2 HTHb HL3 HF3 e0 hao HA HLD2
        go_wp2
        refine region_rel (by kernel_rfl) (by kernel_rfl) [some 36, some 37, some 38, some 39, some 40, some 41, some 42, some 43, some 44, some 45, some 46, none] (by kernel_rfl) (RP W3 B b E.length (.slice eo E.length ecap) C T2 L (PRp b (.slice eo E.length ecap) (.slice ao L.length cap))) ⟨nofun, fun _ => (Below.refl _ _).drew, Fr.of_below (Below.refl _ _).drew, nofun, nofun, nofun, nofun, nofun, nofun, nofun, nofun, nofun⟩ ?_ ?_
        · intro i o Ld V AC WW ho hL hf hR K hK
          have hlt : i < 12 := (Array.getElem?_eq_some_iff.1 ho).1
          rcases i with _ | _ | _ | _ | _ | _ | _ | _ | _ | _ | _ | _ | i
          · obtain rfl := Option.some.inj (show some _ = some o from ho)
            rw [if_pos (by rfl)]
            have q0 : AC.tmps.getD 0 undef = .pointer (some ⟨b, 0, none⟩) := hf.rest 0 (by kernel_rfl)
            go_simp
            exact hK _ _ (hR.set 0 _ (by decide) (by decide) (by decide) (by decide) rfl)
          · obtain rfl := Option.some.inj (show some _ = some o from ho)
            rw [if_pos (by rfl)]
            have q0 : AC.tmps.getD 0 undef = .pointer (some ⟨b, 0, none⟩) := hf.rest 0 (by kernel_rfl)
            go_simp
            exact hK _ _ (hR.set 1 _ (by decide) (by decide) (by decide) (by decide) rfl)
          · obtain rfl := Option.some.inj (show some _ = some o from ho)
            rw [if_pos (by rfl)]
            have q37 : AC.tmps.getD 37 undef = V 1 := hf.dep ⟨1, .data⟩ (by simp) rfl 37 rfl
            have p37 := hR.pure 1 (hf.up ⟨1, .data⟩ (by simp) rfl)
            rw [show V 1 = _ from p37] at q37
            go_simp
            exact hK _ _ (hR.set 2 _ (by decide) (by decide) (by decide) (by decide) rfl)
          · obtain rfl := Option.some.inj (show some _ = some o from ho)
            rw [if_pos (by rfl)]
            have q38 : AC.tmps.getD 38 undef = V 2 := hf.dep ⟨2, .data⟩ (by simp) rfl 38 rfl
            have p38 := hR.pure 2 (hf.up ⟨2, .data⟩ (by simp) rfl)
            rw [show V 2 = _ from p38] at q38
            go_simp
            exact hK _ _ (hR.set 3 _ (by decide) (by decide) (by decide) (by decide) rfl)
          · obtain rfl := Option.some.inj (show some _ = some o from ho)
            rw [if_pos (by rfl)]
            have n8 : Ld 8 = false := by
              cases h : Ld 8 with
              | false => rfl
              | true => rw [hR.d84 h] at hL; cases hL
            have q39 : AC.tmps.getD 39 undef = V 3 := hf.dep ⟨3, .data⟩ (by simp) rfl 39 rfl
            have p39 := hR.pure 3 (hf.up ⟨3, .data⟩ (by simp) rfl)
            rw [show V 3 = _ from p39] at q39
            have hl := (HL.out.keeps (hR.pre n8)).cell 0 _ rfl
            go_simp
            exact hK _ _ (hR.set 4 _ (by decide) (by decide) (by decide) (by decide) rfl)
          · obtain rfl := Option.some.inj (show some _ = some o from ho)
            rw [if_pos (by rfl)]
            have q1 : AC.tmps.getD 1 undef = .slice ao L.length cap := hf.rest 1 (by kernel_rfl)
            go_simp
            exact hK _ _ (hR.set 5 _ (by decide) (by decide) (by decide) (by decide) rfl)
          · obtain rfl := Option.some.inj (show some _ = some o from ho)
            rw [if_pos (by rfl)]
            have n7 : Ld 7 = false := by
              cases h : Ld 7 with
              | false => rfl
              | true => rw [hR.d7 h] at hL; cases hL
            have n8 : Ld 8 = false := by
              cases h : Ld 8 with
              | false => rfl
              | true => rw [hR.d8 h] at n7; cases n7
            have q41 : AC.tmps.getD 41 undef = V 5 := hf.dep ⟨5, .data⟩ (by simp) rfl 41 rfl
            have p41 := hR.pure 5 (hf.up ⟨5, .data⟩ (by simp) rfl)
            rw [show V 5 = _ from p41] at q41
            go_simp
            refine (HC.out WW (hR.pre n8)).mono ?_
            rintro e w6 ⟨v6, rfl, ho6, hb6⟩
            have hz := (hR.pre n8).size
            refine hK _ _ ⟨pure_extL hR.pure 6 _ trivial, fun _ => below_on (hR.pre n8) hz hb6, hR.fr.trans (Fr.of_below hb6), fun _ _ => own_down ho6 hz, fun a => ?_, fun a => ?_, fun a => ?_, fun a => ?_, fun _ => rfl, fun a => ?_, fun a => ?_, fun a => ?_⟩
            all_goals first
              | (replace a : Ld 7 = true := a; rw [n7] at a; cases a)
              | (replace a : Ld 8 = true := a; rw [n8] at a; cases a)
              | (replace a : Ld 11 = true := a; have a := hR.d11 a; rw [n8] at a; cases a)
          · obtain rfl := Option.some.inj (show some _ = some o from ho)
            rw [if_pos (by rfl)]
            have n8 : Ld 8 = false := by
              cases h : Ld 8 with
              | false => rfl
              | true => rw [hR.d8 h] at hL; cases hL
            have q42 : AC.tmps.getD 42 undef = V 6 := hf.dep ⟨6, .data⟩ (by simp) rfl 42 rfl
            have u42 := hf.up ⟨6, .data⟩ (by simp) rfl
            have ho := hR.l6 u42 n8
            obtain ⟨a6, k6, e6⟩ := own_shape ho
            rw [e6] at q42
            have pp42 := q42
            rw [Array.getD_eq_getD_getElem?] at pp42
            go_simp
            have hz := (hR.pre n8).size
            refine hK _ _ ⟨pure_extL hR.pure 7 _ trivial, fun _ => (hR.pre n8).alloc hz _, hR.fr.trans (Fr.of_below (below_new1 _ _)), fun _ _ => own_keeps ho (below_new1 _ _), fun _ _ => ⟨WW.heap.size, rfl, by show Blk _ _ _ [V 6]; rw [e6]; exact Blk.new WW _ _, hz⟩, fun a => ?_, fun a => ?_, fun a => ?_, fun _ => u42, fun a => ?_, fun a => ?_, fun a => ?_⟩
            all_goals first
              | (replace a : Ld 8 = true := a; rw [n8] at a; cases a)
              | (replace a : Ld 11 = true := a; have a := hR.d11 a; rw [n8] at a; cases a)
          · obtain rfl := Option.some.inj (show some _ = some o from ho)
            rw [if_pos (by rfl)]
            have q40 : AC.tmps.getD 40 undef = V 4 := hf.dep ⟨4, .data⟩ (by simp) rfl 40 rfl
            have p40 := hR.pure 4 (hf.up ⟨4, .data⟩ (by simp) rfl)
            rw [show V 4 = _ from p40] at q40
            have q43 : AC.tmps.getD 43 undef = V 7 := hf.dep ⟨7, .data⟩ (by simp) rfl 43 rfl
            have u43 := hf.up ⟨7, .data⟩ (by simp) rfl
            have n8 : Ld 8 = false := hL
            have n11 : Ld 11 = false := by
              cases h : Ld 11 with
              | false => rfl
              | true => rw [hR.d11 h] at n8; cases n8
            have u6 := hR.d7 u43
            obtain ⟨g7, e7, hg7, hz7⟩ := hR.l7 u43 n8
            rw [e7] at q43
            have ho := hR.l6 u6 n8
            have hz := (hR.pre n8).size
            have hrow := own_keeps HRow.out (hR.pre n8)
            refine ap_e_op _ _ rfl rfl B (.slice eo E.length ecap) q40 E.length C hrow g7 (V 6) ho.one q43 hg7 HN.out (Nat.le_trans HBz.out hz) ?_
            intro v8 w8 h1 h2 h3
            have hlt := own_base HRow.out
            have hne6 : (V 6).ownBlock = none ∨ (V 6).ownBlock ≠ (Value.slice eo E.length ecap).ownBlock := by
              cases h6 : (V 6).ownBlock with
              | none => exact .inl rfl
              | some g6 => exact .inr fun e => by have := own_base ho g6 h6; have := hlt g6 e.symm; omega
            refine hK _ _ ⟨pure_extL hR.pure 8 _ trivial, nofun, hR.fr.grown h2, nofun, nofun, fun _ => ⟨h1, ho.kept h2 hne6, fun g hg => (h3 g hg).elim .inl fun h => .inr (Nat.le_trans hz h), fun g6 h6 h8 => ?_⟩, fun _ _ => ?_, fun a => ?_, fun a => hR.d7 a, fun _ => u43, fun _ => hf.up ⟨4, .data⟩ (by simp) rfl, fun a => ?_⟩
            · have hb6 := own_base ho g6 h6
              rcases h3 g6 h8 with h | h
              · have := hlt g6 h; omega
              · omega
            · exact (HL.out.keeps (hR.pre n8)).fr (Fr.grown (b := b + 1) (Fr.of_below (Below.refl _ _)) h2) (by omega) (fun e => HVB.out e.symm)
            · replace a : Ld 11 = true := a; rw [n11] at a; cases a
            · replace a : Ld 11 = true := a; rw [n11] at a; cases a
          · obtain rfl := Option.some.inj (show some _ = some o from ho)
            rw [if_pos (by rfl)]
            have q36 : AC.tmps.getD 36 undef = V 0 := hf.dep ⟨0, .data⟩ (by simp) rfl 36 rfl
            have p36 := hR.pure 0 (hf.up ⟨0, .data⟩ (by simp) rfl)
            rw [show V 0 = _ from p36] at q36
            go_simp
            exact hK _ _ (hR.set 9 _ (by decide) (by decide) (by decide) (by decide) rfl)
          · obtain rfl := Option.some.inj (show some _ = some o from ho)
            rw [if_pos (by rfl)]
            have q45 : AC.tmps.getD 45 undef = V 9 := hf.dep ⟨9, .data⟩ (by simp) rfl 45 rfl
            have p45 := hR.pure 9 (hf.up ⟨9, .data⟩ (by simp) rfl)
            rw [show V 9 = _ from p45] at q45
            go_simp
            exact hK _ _ (hR.set 10 _ (by decide) (by decide) (by decide) (by decide) rfl)
          · obtain rfl := Option.some.inj (show some _ = some o from ho)
            rw [if_pos (by rfl)]
            have q46 : AC.tmps.getD 46 undef = V 10 := hf.dep ⟨10, .data⟩ (by simp) rfl 46 rfl
            have p46 := hR.pure 10 (hf.up ⟨10, .data⟩ (by simp) rfl)
            rw [show V 10 = _ from p46] at q46
            have q44 : AC.tmps.getD 44 undef = V 8 := hf.dep ⟨8, .data⟩ (by simp) rfl 44 rfl
            have u44 := hf.up ⟨8, .data⟩ (by simp) rfl
            have n11 : Ld 11 = false := hL
            have hl := hR.led u44 n11
            obtain ⟨r1, r2, r3, r4⟩ := hR.l8 u44
            obtain ⟨e8, k8, ev8⟩ := own_shape r1
            rw [ev8] at q44
            have c0 := hl.cell 0 _ rfl
            have f0 := hl.frozen 0
            go_simp
            have hlt8 : (V 8).ownBlock ≠ some b := fun e => by
              rcases r3 b e with h | h
              · exact HVB.out h
              · have := HL.out.lt; omega
            have hlt6 : (V 6).ownBlock ≠ some b := fun e => by
              have := own_base r2 b e
              have := HL.out.lt; omega
            have hfb := Fr.one WW b 0 (V 8)
            rw [ev8] at hfb
            refine hK undef _ ⟨pure_extL hR.pure 11 undef trivial, fun a => ?_, hR.fr.setCell _ rfl _, fun a b => ?_, fun a b => ?_, fun _ => ⟨own_fr r1 hfb hlt8 (Classical.em _), own_fr r2 hfb hlt6 (Classical.em _), r3, r4⟩, nofun, fun _ => by show Blk _ b _ (V 8 :: _); rw [ev8]; exact hl.set 0 _, fun a => hR.d7 a, fun a => hR.d8 a, fun a => hR.d84 a, fun _ => u44⟩
            · replace a : Ld 8 = false := a; rw [u44] at a; cases a
            · replace b : Ld 8 = false := b; rw [u44] at b; cases b
            · replace b : Ld 8 = false := b; rw [u44] at b; cases b
          · omega
        · intro Ld V WW hall hR
          have hp := hR.pure
          have v0 : V 0 = _ := hp 0 (hall 0 (by decide)); have v1 : V 1 = _ := hp 1 (hall 1 (by decide)); have v2 : V 2 = _ := hp 2 (hall 2 (by decide)); have v3 : V 3 = _ := hp 3 (hall 3 (by decide)); have v4 : V 4 = _ := hp 4 (hall 4 (by decide)); have v5 : V 5 = _ := hp 5 (hall 5 (by decide)); have v9 : V 9 = _ := hp 9 (hall 9 (by decide)); have v10 : V 10 = _ := hp 10 (hall 10 (by decide))
          obtain ⟨r1, r2, r3, r4⟩ := hR.l8 (hall 8 (by decide))
          have hl := Lib.hid (hR.l11 (hall 11 (by decide)))
          have hfr := Lib.hid hR.fr
          obtain ⟨ao6, cap6, e6, hs6, hb6⟩ := Rk.own r2
          simp only [pairsOf, laid, Nat.zero_add, Nat.reduceAdd, v0, v1, v2, v3, v4, v5, v9, v10, List.setIfInBounds_toArray, List.set_cons_zero, List.set_cons_succ]
          have hl0 := hl.out.cell 0 _ rfl
          obtain ⟨e8, c8, ev8⟩ := own_shape r1
          rw [ev8] at hl0 r1 r3 r4
          rw [ev8] at hl
          have R1 := Lib.hid r1; have R3 := Lib.hid r3; have R4 := Lib.hid r4; have HS6 := Lib.hid hs6; have HB6 := Lib.hid hb6
          rw [e6] at R1 R4
          have hc1 : ((E.length + 1 : Nat) : Int) - 1 = E.length := by omega
          clear r1 r2 r3 r4 hs6 hb6 hp v0 v1 v2 v3 v4 v5 v9 v10 hR hall
          go_wp2
          go_ret2
          exact ⟨by rw [HF.out]; rfl, (by
            have hL := HEnt3.out.post HBz.out HT2.out hfr.out hl.out ao6 cap6 R1.out HS6.out (by rw [← e6]; exact HB6.out) R3.out R4.out
            refine ⟨_, _, by rw [HF.out]; exact hL, fun g hg => (R3.out g hg).elim .inl fun h => .inr (Nat.le_trans HWs.out h), fun u hu => ?_, fun h0 => absurd h0 (by rw [HF.out]; simp)⟩
            rcases List.mem_append.1 hu with hu | hu
            · exact .inl hu
            · obtain rfl := List.mem_singleton.1 hu
              exact .inr fun g hg => Nat.le_trans HWs.out (HB6.out g (by rw [e6]; exact hg)).1), HFr0.out.trans hfr.out⟩
      · have HF : Hid (s = (T, E, 0, er)) := by show _ = _; rw [HSp.out, if_neg h1, if_neg h2, if_neg h3]
        have h2' : ¬ (4096 : Int) ≤ E.length := by omega
        clear h2
        go_wp2
        go_ret2
        exact ⟨by rw [HF.out]; rfl, ⟨_, C, by rw [HF.out]; exact HLD2.out, fun g h => .inl h, fun u hu => .inl hu, fun _ => rfl⟩, Fr.of_below HB2.out⟩
theorem post_any (w : World) (B b : Nat) (v : Value) (C : List Value) (T : List Int) (E : List (List Lg)) (hled : Led w B b v C T E) (hB : B ≤ w.heap.size) (hE : E.length ≤ 100000) (hTr : ∀ x ∈ T, -9223372036854775808 ≤ x ∧ x ≤ 9223372036854775807) (ao : Option Addr) (cap : Nat) (L : List Lg) (h : SlG w ao cap L) (hao : L ≠ [] → ∀ a, ao = some a → a.block ≠ b ∧ some a.block ≠ v.ownBlock) (hl : L.length ≤ 1000) (hr : ∀ t ∈ L, -9223372036854775808 ≤ t.2 ∧ t.2 ≤ 9223372036854775807) (s : List Int × List (List Lg) × Int × Int) (hs : postS T E L = s) :
    Calls Try.prog 12 #[.pointer (some ⟨b, 0, none⟩), .slice ao L.length cap] w fun e w' => e = .returned (.tuple #[.int .i64 s.2.2.1, .int .i64 s.2.2.2]) ∧ (∃ v' C', Led w' B b v' C' s.1 s.2.1 ∧ (∀ g, v'.ownBlock = some g → v.ownBlock = some g ∨ w.heap.size ≤ g)) ∧ Fr b v.ownBlock w w' :=
  (post_full w B b v C T E hled hB hE hTr ao cap L h hao hl hr s hs).mono fun e w' ⟨h1, ⟨v', C', h2, h3, _⟩, h4⟩ => ⟨h1, ⟨v', C', h2, h3⟩, h4⟩
end Go.Proofs.Yteghjdmalbcdfaa
