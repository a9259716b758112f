/-
  The document's entries in memory; the walk of the reference's Balance.
-/
import Derived.Test.YteghjdmalbcdfaaLgL
import Derived.Test.YteghjdmalbcdfaaLgK
import Derived.Test.YteghjdmalbcdfaaRefSum
set_option linter.unusedVariables false
set_option linter.unusedSimpArgs false
namespace Go.Proofs.Yteghjdmalbcdfaa
open Go.RowKit Dg

/-- Entries as slices of legs, whose blocks are none of N. -/
structure RE (w : World) (N : Nat → Prop) (ao : Option Addr) (cap : Nat) (E : List (List Lg)) (C : List Value) : Prop where
  sl : Sl w ao E.length cap C
  cl : C.length = E.length
  hd : ∀ a, ao = some a → a.block < w.heap.size ∧ ¬ N a.block
  ent : ∀ (i : Nat) (L : List Lg), E[i]? = some L → ∃ (ao' : Option Addr) (cap' : Nat), C[i]? = some (Value.slice ao' L.length cap') ∧ SlG w ao' cap' L ∧ ∀ a, ao' = some a → a.block < w.heap.size ∧ ¬ N a.block
theorem Sl.fr2 {w w' : World} {n cap b : Nat} {ao : Option Addr} {C : List Value} {row : Option Nat} (h : Sl w ao n cap C) (hf : Fr b row w w') (hne : ∀ a, ao = some a → a.block ≠ b ∧ some a.block ≠ row) : Sl w' ao n cap C :=
  ⟨h.len, h.room, h.nil, fun hn => by
    obtain ⟨g, off, e, hc⟩ := h.cells hn
    obtain ⟨n1, n2⟩ := hne _ e
    exact ⟨g, off, e, fun j u hu => by
      have h1 := hc j u hu
      have hlt : g < w.heap.size := World.block_lt_of_cell? w _ h1
      rw [World.cell?_of_block (hf.block g hlt n1 n2)]; exact h1⟩⟩
theorem RE.fr {w w' : World} {N : Nat → Prop} {ao : Option Addr} {cap : Nat} {E : List (List Lg)} {C : List Value} {b : Nat} {row : Option Nat} (h : RE w N ao cap E C) (hf : Fr b row w w') (hb : N b) (hr : ∀ g, row = some g → N g) : RE w' N ao cap E C := by
  have H : ∀ k, ¬ N k → k ≠ b ∧ some k ≠ row := fun k hk => ⟨fun e => hk (by rw [e]; exact hb), fun e => hk (hr k e.symm)⟩
  refine ⟨h.sl.fr2 hf (fun a ha => H _ (h.hd a ha).2), h.cl, fun a ha => ⟨Nat.lt_of_lt_of_le (h.hd a ha).1 hf.size, (h.hd a ha).2⟩, fun i L hi => ?_⟩
  obtain ⟨ao', cap', h1, h2, h3⟩ := h.ent i L hi
  exact ⟨ao', cap', h1, h2.fr hf (fun a ha => H _ (h3 a ha).2), fun a ha => ⟨Nat.lt_of_lt_of_le (h3 a ha).1 hf.size, (h3 a ha).2⟩⟩
theorem RE.keeps {w w' : World} {N : Nat → Prop} {ao : Option Addr} {cap : Nat} {E : List (List Lg)} {C : List Value} (h : RE w N ao cap E C) (hb : Below w.heap.size w w') : RE w' N ao cap E C := by
  refine ⟨h.sl.keeps hb, h.cl, fun a ha => ⟨Nat.lt_of_lt_of_le (h.hd a ha).1 hb.size, (h.hd a ha).2⟩, fun i L hi => ?_⟩
  obtain ⟨ao', cap', h1, h2, h3⟩ := h.ent i L hi
  exact ⟨ao', cap', h1, h2.keeps hb, fun a ha => ⟨Nat.lt_of_lt_of_le (h3 a ha).1 hb.size, (h3 a ha).2⟩⟩
/-- Other blocks are kept away from. -/
theorem RE.to {w : World} {N M : Nat → Prop} {ao : Option Addr} {cap : Nat} {E : List (List Lg)} {C : List Value} (h : RE w N ao cap E C) (hM : ∀ k, k < w.heap.size → ¬ N k → ¬ M k) : RE w M ao cap E C := by
  refine ⟨h.sl, h.cl, fun a ha => ⟨(h.hd a ha).1, hM _ (h.hd a ha).1 (h.hd a ha).2⟩, fun i L hi => ?_⟩
  obtain ⟨ao', cap', h1, h2, h3⟩ := h.ent i L hi
  exact ⟨ao', cap', h1, h2, fun a ha => ⟨(h3 a ha).1, hM _ (h3 a ha).1 (h3 a ha).2⟩⟩
theorem RE.nil (w : World) (N : Nat → Prop) (ao : Option Addr) (cap : Nat) (hs : Sl w ao 0 cap []) (hd : ∀ a, ao = some a → a.block < w.heap.size ∧ ¬ N a.block) : RE w N ao cap [] [] := ⟨hs, rfl, hd, fun i L h => by simp at h⟩
section
variable {ops : Array Oper} {rest : List Oper} {o : Oper} {a : Act} {w : World} {Q : Exit → Act → World → Prop}
theorem ix_re (hw : Region.wanted o (yielded ops a.tmps) = true) (s x : Operand) (ho : o.op = .indexAddr 52 s x) (n : Nat) (ao : Option Addr) (cap : Nat) (C : List Value) (hc : Sl w ao n cap C) (hs : a.eval s = .slice ao n cap) (k : Nat) (hk : k < n) (hx : a.eval x = .int .i64 k) (v : Value) (hC : C[k]? = some v)
    (h : ∀ b off, w.cell? ⟨b, off, none⟩ = some v → wpList Try.prog ops Q rest (a.put o.dst (.pointer (some ⟨b, off, none⟩))) w) : wpList Try.prog ops Q (o :: rest) a w := by
  refine wpList_ix_sl hw 52 23 s x ho Try.underlying52 size_legs ao n cap hs C hc k hk hx ?_
  intro b off u hu hcell
  obtain rfl : u = v := by rw [hC] at hu; exact (Option.some.inj hu).symm
  exact h b (off + k) hcell
end
set_option maxRecDepth 8000 in
set_option maxHeartbeats 3200000 in
theorem rbal_any (w : World) (N : Nat → Prop) (ao : Option Addr) (cap : Nat) (E : List (List Lg)) (C : List Value) (h : RE w N ao cap E C) (hE : E.length ≤ 1000) (hl : ∀ L ∈ E, L.length ≤ 100) (hr : ∀ L ∈ E, ∀ t ∈ L, -9223372036854775808 ≤ t.2 ∧ t.2 ≤ 9223372036854775807) (k : Int) :
    Calls Try.prog 24 #[.slice ao E.length cap, .int .i64 k] w fun e w' => e = .returned (.tuple #[.int .i64 (cutI (balE E k)).1, .int .i64 (cutI (balE E k)).2]) ∧ Below w.heap.size w w' := by
  have H := Lib.hid h
  have HL := Lib.hid hl
  have hlen := accE_len hl k
  have HLn : Hid ((accE E k).length ≤ 1000000) := by show _ ≤ _; have := Nat.mul_le_mul_left 100 hE; omega
  have HIn := Lib.hid (accE_in hr k)
  have HSum := Lib.hid (fun W ao cap (J : List Int) (h : Sl W ao J.length cap (ic J)) h1 h2 => rsum_any W ao cap J h h1 h2)
  have HO0 := Lib.hid (own_i0 w)
  have HB0 := Lib.hid (below_new1 w (.cells #[] 2))
  have HEn := Lib.hid hE
  clear h hl hr hlen hE
  go_enter Try.func24, Try.ntmps24
  go_wp2
  go_loopw [6, 14] (fun u i wr => ∃ j : Nat, j ≤ E.length ∧ i = .int .i64 j ∧ Hid (OwI wr w.heap.size u (accE (E.take j) k)) ∧ Below w.heap.size w wr) (fun _ i _ => E.length - (intOf i).toNat)
  case atStart => exact ⟨0, by omega, rfl, HO0.out, HB0.out⟩
  case round =>
    obtain ⟨j, hj, rfl, HO, hb⟩ := hrel
    by_cases hjl : j < E.length
    · obtain ⟨L, hL⟩ : ∃ L, E[j]? = some L := ⟨_, List.getElem?_eq_getElem hjl⟩
      have HT := Lib.hid (accE_take hL k)
      have HLl : Hid (L.length ≤ 100) := HL.out L (List.mem_of_getElem? hL)
      have hcE := (H.out.keeps hb).sl
      obtain ⟨po, pc, hC, hSG, _⟩ := H.out.ent j L hL
      have HCj := Lib.hid hC
      have HSG := Lib.hid hSG
      have hpre : (accE (E.take j) k).length ≤ 100000 := by
        have h1 := accE_len (E := E.take j) (n := 100) (fun L hL => HL.out L (List.mem_of_mem_take hL)) k
        rw [List.length_take] at h1
        have h2 := Nat.mul_le_mul_left 100 (show min j E.length ≤ 1000 by have := HEn.out; omega)
        omega
      have HPre := Lib.hid hpre
      obtain ⟨P, hP⟩ : ∃ P, accE (E.take j) k = P := ⟨_, rfl⟩
      rw [hP] at HO HT HPre
      have HBo := Lib.hid hb
      clear hL hP hpre hb hC hSG
      go_wp2_with (first | (refine ix_re rfl _ _ rfl E.length ao cap C hcE rfl j hjl rfl _ HCj.out ?_; intro b off hcell) | fail)
      clear hcell hcE
      obtain ⟨wo, rfl⟩ : ∃ W, W = wr := ⟨_, rfl⟩
      go_loopw [6, 20] (fun u i wq => ∃ i' : Nat, i' ≤ L.length ∧ i = .int .i64 i' ∧ Hid (OwI wq w.heap.size u (P ++ accG (L.take i') k)) ∧ Below w.heap.size w wq) (fun _ i _ => L.length - (intOf i).toNat)
      case atStart => exact ⟨0, by omega, rfl, by show OwI _ _ _ (P ++ accG (L.take 0) k); rw [show accG (L.take 0) k = [] from by simp [accG], List.append_nil]; exact HO.out, HBo.out⟩
      case round =>
        obtain ⟨i', hi', rfl, HOi, hbi⟩ := hrel
        have hl100 := HLl.out
        have he1000 := HEn.out
        by_cases hil : i' < L.length
        · obtain ⟨⟨d, y⟩, ht⟩ : ∃ t, L[i']? = some t := ⟨_, List.getElem?_eq_getElem hil⟩
          have HT2 := Lib.hid ht
          have hw := HSG.out.keeps hbi
          by_cases hck : d = k
          · have HM := Lib.hid (accG_yes ht (show (d, y).1 = k from hck))
            subst hck
            have hb1 := hbi.alloc hbi.size (.cells #[.int .i64 d, .int .i64 y] 48)
            have HB1' := Lib.hid (hb1.alloc hb1.size (.cells #[.int .i64 y] 2))
            have HO1 := Lib.hid (own_keeps HOi.out (below_new2 wr (.cells #[.int .i64 d, .int .i64 y] 48) (.cells #[.int .i64 y] 2)))
            have hsl := sl_i1 (wr.alloc (.cells #[.int .i64 d, .int .i64 y] 48)) y
            rw [show (wr.alloc (.cells #[.int .i64 d, .int .i64 y] 48)).heap.size = wr.heap.size + 1 from by simp] at hsl
            have HSL := Lib.hid hsl
            have hlen := accG_len (L.take i') d
            rw [List.length_take] at hlen
            obtain ⟨M, hM⟩ : ∃ M, accG (L.take i') d = M := ⟨_, rfl⟩
            rw [hM] at HO1 HM hlen
            have HLN := Lib.hid hlen
            clear hsl hb1 hM ht hlen HOi hbi
            go_wp2_with (first | (refine ix_lg rfl _ _ rfl po pc L hw rfl i' _ HT2.out rfl ?_; intro b off d0 d1) | (refine ap_i rfl _ _ rfl w.heap.size _ rfl (P ++ M) ?_ _ 1 [y] rfl ?_ ?_ ?_ ?_))
            · exact HO1.out
            · exact HSL.out
            · have := HLN.out; have := HPre.out; have := HLl.out; simp; omega
            · have := HB1'.out.size; simpa using this
            · intro v' w' h1 h2 h3
              have HBn := Lib.hid (below_grown HO1.out h2 (Nat.le_refl _) (Nat.le_refl _) HB1'.out)
              have HOn := Lib.hid h1
              clear h1 h2 h3
              go_wp2
              go_roundw
              · exact ⟨i' + 1, by omega, by go_num, by rw [HM.out]; first | exact HOn | exact HOn.out | (rw [← List.append_assoc]; exact HOn), HBn.out⟩
              · simp [intOf]; omega
          · have HM := Lib.hid (accG_no ht (show ¬ (d, y).1 = k from hck))
            have HB1' := Lib.hid (hbi.alloc hbi.size (.cells #[.int .i64 d, .int .i64 y] 48))
            have HO1 := Lib.hid (own_keeps HOi.out (below_new1 wr (.cells #[.int .i64 d, .int .i64 y] 48)))
            have qk : (d == k) = false := by simpa using hck
            clear ht hbi HOi
            go_wp2_with (first | (refine ix_lg rfl _ _ rfl po pc L hw rfl i' _ HT2.out rfl ?_; intro b off d0 d1) | fail)
            go_roundw
            · exact ⟨i' + 1, by omega, by go_num, by rw [HM.out]; exact HO1.out, HB1'.out⟩
            · simp [intOf]; omega
        · obtain rfl : i' = L.length := by omega
          rw [List.take_length, ← HT.out] at HOi
          go_wp2
          go_roundw
          · exact ⟨j + 1, by omega, by go_num, HOi, hbi⟩
          · simp [intOf]; omega
    · obtain rfl : j = E.length := by omega
      clear hjl
      rw [List.take_length] at HO
      obtain ⟨a6, c6, rfl, hs6⟩ := OwI.sl HO.out
      have HS := Lib.hid (HSum.out _ a6 c6 _ hs6 HLn.out HIn.out)
      have HBo := Lib.hid hb
      clear hs6 hb
      go_wp2_with fail
      refine HS.out.mono ?_
      rintro e w9 ⟨rfl, hb9⟩
      have HB9 := Lib.hid (below_on HBo.out HBo.out.size hb9)
      clear hb9
      go_wp2
      go_ret2
      exact ⟨rfl, HB9.out⟩
end Go.Proofs.Yteghjdmalbcdfaa
