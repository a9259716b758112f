/-
  The walks of a new reader, of its end, of numbers of any sign.
-/
import Derived.Test.YtdkcccigmejikaaPut
set_option linter.unusedVariables false
set_option linter.unusedSimpArgs false
namespace Go.Proofs.Ytdkcccigmejikaa
open Go.RowKit

/-- A number of any sign as one of none. -/
def zig (n : Int) : Nat := if 0 ≤ n then (2 * n).toNat else (-2 * n - 1).toNat
/-- One of none as a number of any sign. -/
def back (m : Nat) : Int := if m % 2 = 0 then ((m / 2 : Nat) : Int) else -((m / 2 : Nat) : Int) - 1
theorem back_zig (n : Int) : back (zig n) = n := by
  unfold back zig
  split <;> split <;> omega
theorem zig_lt {n : Int} (h1 : -9223372036854775808 ≤ n) (h2 : n ≤ 9223372036854775807) : zig n < 18446744073709551616 := by
  unfold zig; split <;> omega
theorem back_in {m : Nat} (h : m < 18446744073709551616) : -9223372036854775808 ≤ back m ∧ back m ≤ 9223372036854775807 := by
  unfold back; split <;> omega
theorem ofInt_nat {x : Int} (h0 : 0 ≤ x) (h1 : x < 18446744073709551616) : (BitVec.ofInt 64 x).toNat = x.toNat := by
  rw [BitVec.toNat_ofInt]; omega
theorem xor_ones {x y : Int} (k : IntKind) (hk : k = .i64 ∨ k = .u64) (h0 : 0 ≤ x) (h1 : x < 18446744073709551616) (hy : BitVec.ofInt 64 y = BitVec.allOnes 64) : bits .xor k x y = k.wrap (18446744073709551615 - x) := by
  have e : (BitVec.ofInt 64 x ^^^ BitVec.ofInt 64 y).toNat = 18446744073709551615 - x.toNat := by
    rw [hy, BitVec.xor_allOnes, BitVec.toNat_not, ofInt_nat h0 h1]
  rcases hk with rfl | rfl
  · show IntKind.i64.wrap ((BitVec.ofInt 64 x ^^^ BitVec.ofInt 64 y).toNat : Int) = _
    rw [e, show ((18446744073709551615 - x.toNat : Nat) : Int) = 18446744073709551615 - x from by omega]
  · show IntKind.u64.wrap ((BitVec.ofInt 64 x ^^^ BitVec.ofInt 64 y).toNat : Int) = _
    rw [e, show ((18446744073709551615 - x.toNat : Nat) : Int) = 18446744073709551615 - x from by omega]
theorem xor_zero {x : Int} (k : IntKind) (hk : k = .i64 ∨ k = .u64) (h0 : 0 ≤ x) (h1 : x < 18446744073709551616) : bits .xor k x 0 = k.wrap x := by
  have e : (BitVec.ofInt 64 x ^^^ BitVec.ofInt 64 0).toNat = x.toNat := by
    rw [show BitVec.ofInt 64 0 = 0#64 from rfl, BitVec.xor_zero, ofInt_nat h0 h1]
  rcases hk with rfl | rfl
  · show IntKind.i64.wrap ((BitVec.ofInt 64 x ^^^ BitVec.ofInt 64 0).toNat : Int) = _
    rw [e, show ((x.toNat : Nat) : Int) = x from by omega]
  · show IntKind.u64.wrap ((BitVec.ofInt 64 x ^^^ BitVec.ofInt 64 0).toNat : Int) = _
    rw [e, show ((x.toNat : Nat) : Int) = x from by omega]
theorem and_one_u64 {n : Nat} (h : n < 18446744073709551616) : bits .and .u64 (n : Int) 1 = ((n % 2 : Nat) : Int) := by
  have := bits_mask .u64 64 (by decide) wraps_u64 1 (by decide) (n : Int) (by omega) (by omega)
  rw [show ((2 : Int) ^ 1 - 1) = 1 from by decide, show ((2 : Int) ^ 1) = 2 from by decide] at this
  rw [this]; omega

theorem back_word {n : Nat} (h : n < 18446744073709551616) : bits .xor .i64 ((n : Int) / 2) (wrap64 (-wrap64 (bits .and .u64 (n : Int) 1))) = back n := by
  rw [and_one_u64 h]
  unfold back
  by_cases hp : n % 2 = 0
  · rw [if_pos hp, hp, show wrap64 (-wrap64 ((0 : Nat) : Int)) = 0 from by simp [wrap64], xor_zero .i64 (.inl rfl) (by omega) (by omega), IntKind.wrap_i64]; omega
  · rw [if_neg hp, show n % 2 = 1 from by omega, show wrap64 (-wrap64 ((1 : Nat) : Int)) = -1 from by simp [wrap64], xor_ones .i64 (.inl rfl) (by omega) (by omega) (by decide), IntKind.wrap_i64]; omega

theorem zig_word {n : Int} (h0 : -9223372036854775808 ≤ n) (h1 : n ≤ 9223372036854775807) :
    bits .xor .u64 (IntKind.u64.wrap (IntKind.u64.wrap n * 2)) (IntKind.u64.wrap (n / 9223372036854775808)) = ((zig n : Nat) : Int) := by
  have a0 : 0 ≤ IntKind.u64.wrap (IntKind.u64.wrap n * 2) ∧ IntKind.u64.wrap (IntKind.u64.wrap n * 2) < 18446744073709551616 := by rw [IntKind.wrap_u64]; omega
  have a1 : IntKind.u64.wrap (IntKind.u64.wrap n * 2) = (2 * n) % 18446744073709551616 := by rw [IntKind.wrap_u64, IntKind.wrap_u64]; omega
  unfold zig
  by_cases hp : 0 ≤ n
  · rw [if_pos hp, show n / 9223372036854775808 = 0 from by omega, show IntKind.u64.wrap 0 = 0 from by rw [IntKind.wrap_u64]; rfl, xor_zero .u64 (.inr rfl) a0.1 a0.2, a1, IntKind.wrap_u64]; omega
  · rw [if_neg hp, show n / 9223372036854775808 = -1 from by omega, show IntKind.u64.wrap (-1) = 18446744073709551615 from by rw [IntKind.wrap_u64]; rfl, xor_ones .u64 (.inr rfl) a0.1 a0.2 (by decide), a1, IntKind.wrap_u64]; omega
theorem sl_unit (w : World) (u u' : Value) (T : TypeId) (h : u' = u) : Sl (w.alloc (.cells #[u'] T)) (some ⟨w.heap.size, 0, none⟩) 1 1 [u] := by
  subst h
  exact ⟨rfl, Nat.le_refl _, by simp, fun _ => ⟨_, _, rfl, fun j v hv => by
    rw [Nat.zero_add]
    exact (Blk.new w T [u']).cell j v hv⟩⟩

theorem ended_any (w : World) (r : Nat) (L : List UInt8) (f : Bool) (h : RdAt w r L f) :
    Calls Try.prog 33 #[.pointer (some ⟨r, 0, none⟩)] w fun e w' => e = .returned (.bool (!f && L.isEmpty)) ∧ w' = w := by
  obtain ⟨ao, cap, hB, hs⟩ := h
  have R0 := hB.cell 0 _ rfl; have R1 := hB.cell 1 _ rfl; have Rf := hB.frozen; have Rn := hB.lt
  clear hB hs
  cases f
  · go_enter Try.func33, Try.ntmps33
    go_wp2
    go_ret
    exact ⟨by cases L <;> (simp; try omega), rfl⟩
  · go_enter Try.func33, Try.ntmps33
    go_wp2
    go_ret
    exact ⟨rfl, rfl⟩
theorem new_any (w : World) (v : Value) (L : List UInt8) (h : SlB w v L) (hl : L.length ≤ 100000000000000) :
    Calls Try.prog 30 #[v] w fun e w' => ∃ r, e = .returned (.pointer (some ⟨r, 0, none⟩)) ∧ RdAt w' r L false ∧ w.heap.size ≤ r ∧ Below w.heap.size w w' := by
  have HC := Lib.hid (clone_any w v L h hl)
  clear h
  go_enter Try.func30, Try.ntmps30
  go_wp2_with fail
  refine HC.out.mono ?_
  rintro e w1 ⟨v1, rfl, ho, hb⟩
  obtain ⟨ao, cap, rfl, hs⟩ := ho.sl
  have HS := Lib.hid hs
  have HB := Lib.hid hb
  clear ho hs hb
  go_wp2
  go_ret
  exact ⟨_, rfl, ⟨ao, cap, Blk.new w1 _ [.slice ao L.length cap, .bool false], HS.out.keeps (below_new1 w1 _)⟩, HB.out.size, HB.out.alloc HB.out.size _⟩
set_option maxRecDepth 8000 in
theorem rint_any (w : World) (r : Nat) (L : List UInt8) (f : Bool) (h : RdAt w r L f) :
    Calls Try.prog 32 #[.pointer (some ⟨r, 0, none⟩)] w fun e w' => e = .returned (.int .i64 (back (rdN L f).1)) ∧ RdAt w' r (rdN L f).2.1 (rdN L f).2.2 ∧ w.grownBy w' (some r) := by
  have HR := Lib.hid (rnum_any w r L f h)
  obtain ⟨n, hn⟩ : ∃ n, (rdN L f).1 = n := ⟨_, rfl⟩
  have hlt := rdN_lt L f
  rw [hn] at hlt
  rw [hn]
  have HN := Lib.hid hn
  clear h hn
  go_enter Try.func32, Try.ntmps32
  go_wp2_with fail
  refine HR.out.mono ?_
  rintro e w1 ⟨rfl, h1, h2⟩
  rw [HN.out]
  have HK : Hid (RdAt w1 r (rdN L f).2.1 (rdN L f).2.2 ∧ w.grownBy w1 (some r)) := ⟨h1, h2⟩
  clear h1 h2
  go_wp2
  go_ret
  exact ⟨congrArg (fun z => Ending.returned (.int .i64 z)) (back_word hlt), HK.out⟩
/-- Numbers of any sign as cells. -/
def ic (N : List Int) : List Value := N.map fun n : Int => Value.int .i64 n
theorem ic_len (N : List Int) : (ic N).length = N.length := by simp [ic]
theorem info_i64 : (Try.prog.info? 2).map (fun i => (i.zero, i.size, i.bytes)) = some (some (.int .i64 0), 1, 8) := by kernel_rfl
theorem size_i64 (w : World) : (sizeOf 2).run Try.prog w = .ok 1 w := by
  obtain ⟨i, hi, _, hs, _⟩ := info_parts info_i64
  simp [sizeOf, typeInfo, hi, hs]
set_option maxRecDepth 8000 in
set_option maxHeartbeats 1600000 in
theorem pint_any (w : World) (v : Value) (B : List UInt8) (hB : SlB w v B) (ao : Option Addr) (cap : Nat) (N : List Int) (hN : Sl w ao N.length cap (ic N)) (h64 : ∀ n ∈ N, -9223372036854775808 ≤ n ∧ n ≤ 9223372036854775807) (hl : B.length + 10 * N.length ≤ 10000000000000) :
    Calls Try.prog 26 #[v, .slice ao N.length cap] w fun e w' => ∃ v', e = .returned v' ∧ OwB w' w.heap.size v' (B ++ encs (N.map zig)) ∧ Below w.heap.size w w' := by
  obtain ⟨i0, hi, hz0, hz1, hz2⟩ := info_parts info_u64
  go_enter Try.func26, Try.ntmps26
  go_wp2_with (first | (at_make; refine wpList_make_own _ rfl _ _ 84 rfl w.heap.size 62 i0 (.int .u64 0) 1 Try.underlying84 hi hz0 hz1 _ _ _ N.length rfl rfl rfl (by rw [hz2]; omega) (by unfold maxLen; omega) (Nat.le_refl _) ?_; intro w0 hown0 hgrow0))
  have hb0 : Below w.heap.size w w0 := (Below.refl _ _).grown hgrow0 (Nat.le_refl _) (fun k hk => by cases hk)
  go_loopw [5, 13] (fun x i wr => ∃ k : Nat, k ≤ N.length ∧ i = .int .i64 k ∧ wr.ownsRow w.heap.size 62 1 x (uc ((N.take k).map zig)).length (uc ((N.take k).map zig)) ∧ Below w.heap.size w wr) (fun _ i _ => N.length - (intOf i).toNat)
  case atStart => exact ⟨0, by omega, rfl, hown0, hb0⟩
  case round =>
    obtain ⟨k, hk, rfl, ho, hb⟩ := hrel
    by_cases hkl : k < N.length
    · obtain ⟨n, hn⟩ : ∃ n, N[k]? = some n := ⟨_, List.getElem?_eq_getElem hkl⟩
      obtain ⟨n0, n1⟩ := h64 n (List.mem_of_getElem? hn)
      have HNk := Lib.hid hn
      have hNw := hN.keeps (hb.mono (Nat.le_refl _))
      go_wp2_with (first | (refine wpList_ix_sl rfl 23 2 _ _ rfl Try.underlying23 size_i64 ao N.length cap rfl (ic N) hNw k hkl rfl ?_; intro b off u hu hcell; obtain rfl : u = .int .i64 n := by (simp [ic, HNk.out] at hu; exact hu.symm)) | (refine wpList_append_src rfl _ _ 84 84 rfl w.heap.size 62 i0 (.int .u64 0) 8 Try.underlying84 hi hz0 hz1 hz2 rfl _ rfl _ (ho.alloc _) _ rfl [.int .u64 (zig n)] (Sl.src Try.underlying84 (sl_unit _ _ _ _ (congrArg _ (zig_word n0 n1))) (by simp [Value.oneCell'])) (by rw [uc_len]; simp; omega) (by decide) (by have := hb.size; simp; omega) ?_; intro v' w' h1 h2 h3))
      go_roundw
      · have e : uc ((N.take (k + 1)).map zig) = uc ((N.take k).map zig) ++ [.int .u64 (zig n)] := by
          obtain ⟨hk', hn'⟩ := List.getElem?_eq_some_iff.1 HNk.out
          rw [List.take_succ_eq_append_getElem hk', hn']; simp [uc]
        exact ⟨k + 1, by omega, by go_num, by rw [e]; exact h1, (hb.alloc hb.size _).grown h2 (hb.alloc hb.size _).size (fun g hg => (World.ownsRow.lt ho g hg).1)⟩
      · simp [intOf]; omega
    · rw [List.take_of_length_le (by omega)] at ho
      have hob := ho
      have hw := ho.lt
      obtain ⟨ao', cap', rfl, hs', _⟩ := Sl.own ho
      have hp := pnum_any wr v B (hB.keeps (hb.mono (Nat.le_refl _))) ao' cap' (N.map zig) (by rw [uc_len] at hs'; exact hs') (by
        intro m hm
        obtain ⟨n, hn, rfl⟩ := List.mem_map.1 hm
        exact zig_lt (h64 n hn).1 (h64 n hn).2) (by rw [List.length_map]; omega)
      rw [List.length_map] at hp
      have HP := Lib.hid hp
      clear hob hw hs' ho hp
      have HB := Lib.hid hb
      rw [uc_len, List.length_map]
      go_wp2_with fail
      refine HP.out.mono ?_
      rintro e w2 ⟨v2, rfl, ho2, hb2⟩
      go_wp2
      go_ret
      exact ⟨_, rfl, ho2.up HB.out.size, below_on HB.out HB.out.size hb2⟩
end Go.Proofs.Ytdkcccigmejikaa
