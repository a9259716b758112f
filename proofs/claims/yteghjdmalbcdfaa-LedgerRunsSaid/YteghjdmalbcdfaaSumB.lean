/-
  The walk of wide.Sum.
-/
import Derived.Test.YteghjdmalbcdfaaIc
import Derived.Test.YteghjdmalbcdfaaAdd64
import Derived.Test.YteghjdmalbcdfaaCutI
set_option linter.unusedVariables false
set_option linter.unusedSimpArgs false
namespace Go.Proofs.Yteghjdmalbcdfaa
open Go.RowKit Go.Shelf

theorem add64_runI (x : Nat) (a : Int) (c s : Nat) (h0 : -9223372036854775808 ≤ a) (h1 : a ≤ 9223372036854775807) (hs : s = (x + (a % 18446744073709551616).toNat) % 18446744073709551616) (hc : c = (x + (a % 18446744073709551616).toNat) / 18446744073709551616) (u : Int) (hu : u = a % 18446744073709551616) (w : World) :
    (callFunc 35 #[.int .u64 x, .int .u64 u, .int .u64 0]).run Try.prog w = .ok (.value (.tuple #[.int .u64 s, .int .u64 c])) w := by
  have e : u = (((a % 18446744073709551616).toNat : Nat) : Int) := by omega
  rw [e, add64_run, ← hs, ← hc]
set_option maxRecDepth 8000 in
set_option maxHeartbeats 1600000 in
theorem sum_any (w : World) (ao : Option Addr) (cap : Nat) (L : List Int) (h : Sl w ao L.length cap (ic L)) (hl : L.length ≤ 1000000) (hr : ∀ x ∈ L, -9223372036854775808 ≤ x ∧ x ≤ 9223372036854775807) :
    Calls Try.prog 27 #[.slice ao L.length cap] w fun e w' => e = .returned (.tuple #[.int .i64 (cutI (sumI L)).1, .int .i64 (cutI (sumI L)).2]) ∧ w' = w := by
  have H := Lib.hid h
  have HR := Lib.hid hr
  obtain ⟨z, hz⟩ : ∃ z, sumI L = z := ⟨_, rfl⟩
  rw [hz]
  have HZ0 := Lib.hid hz
  clear h hr hz
  go_enter Try.func27, Try.ntmps27
  go_wp2
  go_loop [4, 5, 12] (fun lo hi i => ∃ (k : Nat) (l : Nat) (c : Int), k ≤ L.length ∧ i = .int .i64 k ∧ lo = .int .u64 l ∧ hi = .int .i64 c ∧ l < 18446744073709551616 ∧ -1000001 ≤ c ∧ c ≤ 1000001 ∧ Hid (c * 18446744073709551616 + l = sumI (L.take k))) (fun _ _ i => L.length - (intOf i).toNat)
  case atStart => exact ⟨0, 0, 0, by omega, rfl, rfl, rfl, by decide, by decide, by decide, by show _ = _; simp [sumI]⟩
  case round =>
    obtain ⟨k, l, c, hk, rfl, rfl, rfl, l1, c0, c1, HS⟩ := hrel
    by_cases hkl : k < L.length
    · obtain ⟨x, hx⟩ : ∃ x, L[k]? = some x := ⟨_, List.getElem?_eq_getElem hkl⟩
      have HX := Lib.hid hx
      obtain ⟨x0, x1⟩ := HR.out x (List.mem_of_getElem? hx)
      have ht := sumI_take hx
      have hin := sumI_in (L := L.take (k + 1)) (fun y hy => HR.out y (List.mem_of_mem_take hy))
      rw [List.length_take, Nat.min_eq_left (by omega)] at hin
      have hin2 := sumI_in (L := L.take k) (fun y hy => HR.out y (List.mem_of_mem_take hy))
      rw [List.length_take, Nat.min_eq_left (by omega)] at hin2
      obtain ⟨s, hs⟩ : ∃ s, s = (l + (x % 18446744073709551616).toNat) % 18446744073709551616 := ⟨_, rfl⟩
      obtain ⟨d, hd⟩ : ∃ s, s = (l + (x % 18446744073709551616).toNat) / 18446744073709551616 := ⟨_, rfl⟩
      have hS := HS.out
      have s1 : s < 18446744073709551616 := by omega
      have d1 : d ≤ 1 := by omega
      by_cases hx0 : x < 0
      · have hrun := fun w => add64_runI l x d s x0 x1 hs hd (IntKind.u64.wrap x) (by rw [IntKind.wrap_u64]) w
        have HN : Hid ((c + d - 1) * 18446744073709551616 + s = sumI (L.take (k + 1))) := by show _ = _; omega
        have n0 : -1000001 ≤ c + d - 1 := by have := HN.out; omega
        have n1 : c + d - 1 ≤ 1000001 := by have := HN.out; omega
        clear hx ht hin hin2 hs hd hS HS
        go_wp2_with (refine wpList_ix_sl rfl 42 2 _ _ rfl Try.underlying42 size_i64 ao L.length cap rfl (ic L) H.out k hkl rfl ?_; intro b off u hu hcell; obtain rfl : u = .int .i64 x := by (rw [ic_at HX.out] at hu; exact (Option.some.inj hu).symm))
        exact ⟨⟨k + 1, s, c + d - 1, by omega, by go_num, rfl, rfl, s1, n0, n1, HN⟩, by simp [intOf]; omega⟩
      · have hrun := fun w => add64_runI l x d s x0 x1 hs hd x (by omega) w
        have HN : Hid ((c + d) * 18446744073709551616 + s = sumI (L.take (k + 1))) := by show _ = _; omega
        have n0 : -1000001 ≤ c + d := by have := HN.out; omega
        have n1 : c + d ≤ 1000001 := by have := HN.out; omega
        clear hx ht hin hin2 hs hd hS HS
        go_wp2_with (refine wpList_ix_sl rfl 42 2 _ _ rfl Try.underlying42 size_i64 ao L.length cap rfl (ic L) H.out k hkl rfl ?_; intro b off u hu hcell; obtain rfl : u = .int .i64 x := by (rw [ic_at HX.out] at hu; exact (Option.some.inj hu).symm))
        exact ⟨⟨k + 1, s, c + d, by omega, by go_num, rfl, rfl, s1, n0, n1, HN⟩, by simp [intOf]; omega⟩
    · obtain rfl : k = L.length := by omega
      have hS := HS.out
      rw [List.take_length] at hS
      rw [HZ0.out] at hS
      clear HS
      by_cases hc : c = 0
      · subst hc
        by_cases hl2 : (l : Int) ≤ 9223372036854775807
        · have HC := Lib.hid (cutI_in (z := z) (by omega) (by omega))
          have HZ : Hid ((l : Int) = z) := by show _ = _; omega
          clear hS
          go_wp2
          go_ret2
          exact ⟨ret_two (by rw [HC.out]; exact HZ.out) (by rw [HC.out]), rfl⟩
        · have HC := Lib.hid (cutI_out (z := z) (by omega))
          clear hS
          go_wp2
          go_ret2
          exact ⟨ret_two (by rw [HC.out]) (by rw [HC.out]), rfl⟩
      · by_cases hm : c = -1
        · subst hm
          by_cases hl2 : (l : Int) ≤ 9223372036854775807
          · have HC := Lib.hid (cutI_out (z := z) (by omega))
            clear hS
            go_wp2
            go_ret2
            exact ⟨ret_two (by rw [HC.out]) (by rw [HC.out]), rfl⟩
          · have HC := Lib.hid (cutI_in (z := z) (by omega) (by omega))
            have HZ : Hid (wrap64 (l : Int) = z) := by show _ = _; simp only [wrap64]; omega
            clear hS
            go_wp2
            go_ret2
            exact ⟨ret_two (by rw [HC.out]; exact HZ.out) (by rw [HC.out]), rfl⟩
        · have HC := Lib.hid (cutI_out (z := z) (by omega))
          clear hS
          have e0 : (c == 0) = false := by simpa using hc
          have e1 : (c == -1) = false := by simpa using hm
          go_wp2
          go_ret2
          exact ⟨ret_two (by rw [HC.out]) (by rw [HC.out]), rfl⟩
end Go.Proofs.Yteghjdmalbcdfaa
