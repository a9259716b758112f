/-
  The walk of the reference's Divide: quotient and rest.
-/
import Derived.Test.YteghjdmalbcdfaaTimes
set_option linter.unusedVariables false
set_option linter.unusedSimpArgs false
namespace Go.Proofs.Yteghjdmalbcdfaa
open Go.RowKit Dg

theorem info_du (n : Int) : (Try.prog.info? 67).map (·.size) = some (du (dg 10 n)).length := by rw [du_len, len10]; exact info_arr
theorem ds_size10 (n : Int) : (ds (dg 10 n)).size = 10 := by rw [ds_size, len10]
/-- In numbers: 'less', 'shifted', 'minus', 'half', 'carry'. -/
theorem less_num (m n : Int) (hm : 0 ≤ m) (hm2 : m < TOP) (hn : 0 ≤ n) (hn2 : n < TOP) (w : World) :
    Calls Try.prog 37 #[.agg (ds (dg 10 m)), .agg (ds (dg 10 n))] w fun e w' => e = .returned (.int .i64 (cmpI m n)) ∧ Below w.heap.size w w' := by
  have := less_any (dg 10 m) (dg 10 n) (norm10 _) (norm10 _) (len10 _) (len10 _) w
  rwa [val10 hm hm2, val10 hn hn2] at this
theorem minus_num (m n : Int) (hn : 0 ≤ n) (hnm : n ≤ m) (hm2 : m < TOP) (w : World) :
    Calls Try.prog 38 #[.agg (ds (dg 10 m)), .agg (ds (dg 10 n))] w fun e w' => e = .returned (.agg (ds (dg 10 (m - n)))) ∧ Below w.heap.size w w' := by
  have := minus_any (dg 10 m) (dg 10 n) (norm10 _) (norm10 _) (len10 _) (len10 _) (by rw [val10 (n := m) (by omega) hm2, val10 hn (by omega)]; exact hnm) w
  rwa [val10 (n := m) (by omega) hm2, val10 hn (by omega)] at this
theorem st_D {ops : Array Oper} {rest : List Oper} {op : Oper} {a : Act} {w : World} {Q : Exit → Act → World → Prop} (hgd : op.guard = none) (x y : Operand) (ho : op.op = .store 67 x y) (b : Nat) (hx : a.eval x = .pointer (some ⟨b, 0, none⟩)) (z : Int) (hy : a.eval y = .agg (ds (dg 10 z))) (hc : w.there b 0 10)
    (h : wpList Try.prog ops Q rest (a.put op.dst undef) (w.setCells b 0 (du (dg 10 z)))) : wpList Try.prog ops Q (op :: rest) a w :=
  st_arr hgd x y ho b 0 hx _ hy (len10 _) hc h
theorem ld_D {ops : Array Oper} {rest : List Oper} {op : Oper} {a : Act} {w : World} {Q : Exit → Act → World → Prop} (hgd : op.guard = none) (x : Operand) (ho : op.op = .load 67 x) (b : Nat) (hx : a.eval x = .pointer (some ⟨b, 0, none⟩)) (z : Int) (hc : w.rangeAt b 0 (du (dg 10 z)))
    (h : wpList Try.prog ops Q rest (a.put op.dst (.agg (ds (dg 10 z)))) w) : wpList Try.prog ops Q (op :: rest) a w :=
  ld_arr hgd x ho b 0 hx _ (len10 _) hc h
theorem Blk.thereD {w : World} {b : Nat} {z : Int} (h : Blk w b 67 (du (dg 10 z))) : w.there b 0 10 := h.thereMid 0 10 (by rw [du_len, len10]; decide)
theorem Blk.thereZ {w : World} {b : Nat} (h : Blk w b 67 (du z10)) : w.there b 0 10 := h.thereMid 0 10 (by decide)
theorem Blk.setD {w : World} {b : Nat} {z : Int} (h : Blk w b 67 (du (dg 10 z))) (y : Int) : Blk (w.setCells b 0 (du (dg 10 y))) b 67 (du (dg 10 y)) := h.setAll _ (by rw [du_len, du_len, len10, len10])
theorem Blk.setZ {w : World} {b : Nat} (h : Blk w b 67 (du z10)) (y : Int) : Blk (w.setCells b 0 (du (dg 10 y))) b 67 (du (dg 10 y)) := h.setAll _ (by rw [du_len, du_len, len10]; rfl)
theorem Blk.newD (w : World) (z : Int) : Blk (w.alloc (.cells (ds (dg 10 z)) 67)) w.heap.size 67 (du (dg 10 z)) := Blk.new w _ _
theorem Blk.new2D (w : World) (o : Obj) (z : Int) : Blk ((w.alloc o).alloc (.cells (ds (dg 10 z)) 67)) (w.heap.size + 1) 67 (du (dg 10 z)) := Blk.new2 w o _ _

theorem dg_one : dg 10 1 = [1, 0, 0, 0, 0, 0, 0, 0, 0, 0] := by decide
/-! ### the plain law -/
/-- Behind s doublings: c is C, o is 1, both doubled so often. -/
structure Up (A C : Int) (s : Nat) (c o : Int) : Prop where
  o_eq : o = 2 ^ s
  c_eq : c = C * o
  le : s = 0 ∨ c ≤ A
theorem pow2_pos (s : Nat) : (0 : Int) < 2 ^ s := Int.pow_pos (by decide)
theorem Up.start (A C : Int) : Up A C 0 C 1 := ⟨rfl, by omega, .inl rfl⟩
theorem Up.bounds {A C : Int} {s : Nat} {c o : Int} (h : Up A C s c o) (hC : 0 < C) (hC2 : C < 65536 ^ 9) (hA : A ≤ 65536 ^ 8) : 1 ≤ o ∧ o ≤ c ∧ 0 < c ∧ c < 65536 ^ 9 := by
  have h1 := pow2_pos s
  rw [← h.o_eq] at h1
  have h2 : o * 1 ≤ o * C := Int.mul_le_mul_of_nonneg_left (by omega) (by omega)
  have h3 := h.c_eq
  rw [Int.mul_comm] at h3
  rcases h.le with h4 | h4
  · have : o = 1 := by rw [h.o_eq, h4]; rfl
    subst this
    omega
  · omega
theorem Up.step {A C : Int} {s : Nat} {c o : Int} (h : Up A C s c o) (hle : c + c ≤ A) : Up A C (s + 1) (c + c) (o + o) :=
  ⟨by rw [Int.pow_succ, ← h.o_eq]; omega, by rw [h.c_eq, Int.mul_add], .inr hle⟩
theorem Up.few {A C : Int} {s : Nat} {c o : Int} (h : Up A C s c o) (hC : 0 < C) (hA : A ≤ 65536 ^ 8) : s < 140 := by
  refine Nat.lt_of_not_le (fun hs => ?_)
  rcases h.le with h4 | h4
  · omega
  · have h1 : (2 : Int) ^ 140 ≤ 2 ^ s := by
      have := Nat.pow_le_pow_right (show 0 < 2 by decide) hs
      exact_mod_cast this
    have h2 : o * 1 ≤ o * C := Int.mul_le_mul_of_nonneg_left (by omega) (by have := pow2_pos s; rw [h.o_eq]; omega)
    have h3 := h.c_eq
    rw [Int.mul_comm] at h3
    have h5 := h.o_eq
    have h6 : (65536 : Int) ^ 8 < 2 ^ 140 := by decide
    omega
/-- Behind k steps down. -/
structure Down (A C : Int) (s : Nat) (k : Nat) (c o r q : Int) : Prop where
  r0 : 0 ≤ r
  q0 : 0 ≤ q
  all : r + q * C = A
  mid : k ≤ s → o = 2 ^ (s - k) ∧ c = C * o ∧ r < c + c
  fin : k = s + 1 → r < C
  c0 : 0 ≤ c ∧ c < 65536 ^ 9
  o0 : 0 ≤ o ∧ o < 65536 ^ 9
theorem Down.start {A C : Int} {s : Nat} {c o : Int} (h : Up A C s c o) (hC : 0 < C) (hC2 : C < 65536 ^ 9) (hA0 : 0 ≤ A) (hA : A ≤ 65536 ^ 8) (hlt : A < c + c) : Down A C s 0 c o A 0 := by
  have hb := h.bounds hC hC2 hA
  exact ⟨hA0, by omega, by omega, fun _ => ⟨by rw [Nat.sub_zero]; exact h.o_eq, h.c_eq, hlt⟩, fun h => by omega, by omega, by omega⟩
theorem Down.q_le {A C : Int} {s k : Nat} {c o r q : Int} (h : Down A C s k c o r q) (hC : 0 < C) : q ≤ A := by
  have h1 : q * 1 ≤ q * C := Int.mul_le_mul_of_nonneg_left (by omega) h.q0
  have := h.all; have := h.r0
  omega
theorem halves {s k : Nat} {C c o : Int} (hk : k ≤ s) (ho : o = 2 ^ (s - k)) (hc : c = C * o) : (k + 1 ≤ s → o / 2 = 2 ^ (s - (k + 1)) ∧ c / 2 = C * (o / 2) ∧ c / 2 + c / 2 = c) ∧ (k + 1 = s + 1 → c = C) := by
  refine ⟨fun h => ?_, fun h => ?_⟩
  · have e : s - k = s - (k + 1) + 1 := by omega
    rw [e, Int.pow_succ] at ho
    generalize (2 : Int) ^ (s - (k + 1)) = p at *
    have e1 : o / 2 = p := by omega
    rw [e1]
    have e2 : c = 2 * (C * p) := by rw [hc, ho, ← Int.mul_assoc, Int.mul_comm]
    refine ⟨rfl, by omega, by omega⟩
  · have : s - k = 0 := by omega
    rw [this] at ho
    rw [hc, ho]; simp
theorem Down.take {A C : Int} {s k : Nat} {c o r q : Int} (h : Down A C s k c o r q) (hk : k ≤ s) (hle : c ≤ r) : Down A C s (k + 1) (c / 2) (o / 2) (r - c) (q + o) := by
  obtain ⟨h1, h2, h3⟩ := h.mid hk
  obtain ⟨h4, h5⟩ := halves hk h1 h2
  have hc := h.c0; have ho := h.o0
  refine ⟨by omega, by have := h.q0; omega, ?_, fun hk1 => ?_, fun hk1 => ?_, by omega, by omega⟩
  · have := h.all
    rw [Int.add_mul, Int.mul_comm o C, ← h2]; omega
  · obtain ⟨e1, e2, e3⟩ := h4 hk1
    exact ⟨e1, e2, by omega⟩
  · have := h5 hk1; omega
theorem Down.skip {A C : Int} {s k : Nat} {c o r q : Int} (h : Down A C s k c o r q) (hk : k ≤ s) (hlt : r < c) : Down A C s (k + 1) (c / 2) (o / 2) r q := by
  obtain ⟨h1, h2, h3⟩ := h.mid hk
  obtain ⟨h4, h5⟩ := halves hk h1 h2
  have hc := h.c0; have ho := h.o0
  refine ⟨h.r0, h.q0, h.all, fun hk1 => ?_, fun hk1 => ?_, by omega, by omega⟩
  · obtain ⟨e1, e2, e3⟩ := h4 hk1
    exact ⟨e1, e2, by omega⟩
  · have := h5 hk1; omega
theorem Down.done {A C : Int} {s : Nat} {c o r q : Int} (h : Down A C s (s + 1) c o r q) (hC : 0 < C) : q = A / C ∧ r = A % C := by
  have h1 := h.all
  have h2 := h.fin rfl
  have h3 := h.r0
  have e : A = r + C * q := by rw [← h1, Int.mul_comm]
  constructor
  · rw [e, Int.add_mul_ediv_left _ _ (by omega), Int.ediv_eq_zero_of_lt h3 h2]; omega
  · rw [e, Int.add_mul_emod_self_left, Int.emod_eq_of_lt h3 h2]

theorem put_size (a : Act) (d : Nat) (v : Value) {n : Nat} (h : a.tmps.size = n) : (a.put (some d) v).tmps.size = n := by simp [Act.put, h]
theorem put_other (a : Act) (d i : Nat) (v : Value) {x : Value} (h : a.eval (.tmp i) = x) (hn : d ≠ i) : (a.put (some d) v).eval (.tmp i) = x := by
  rw [← h]; simp [Act.put, Act.eval, Array.getElem?_setIfInBounds_ne hn]
theorem put_same (a : Act) (d : Nat) (v : Value) (h : d < a.tmps.size) : (a.put (some d) v).eval (.tmp d) = v := by simp [Act.put, Act.eval, h]
theorem info_ds (n : Int) : (Try.prog.info? 67).map (·.size) = some (ds (dg 10 n)).size := by rw [ds_size10]; exact info_arr
/-- What stands while the results are laid. -/
def DivEnd (w : World) (bq : Nat) (q r : Int) (L : Nat → Bool) (a : Act) (w' : World) : Prop :=
  a.tmps.size = 60 ∧ a.defers = [] ∧ a.eval (.tmp 2) = .pointer (some ⟨w.heap.size, 0, none⟩) ∧ a.eval (.tmp 8) = .pointer (some ⟨bq, 0, none⟩) ∧ a.eval (.tmp 4) = .pointer (some ⟨w.heap.size + 1 + 1, 0, none⟩) ∧ a.eval (.tmp 5) = .pointer (some ⟨w.heap.size + 1 + 1 + 1, 0, none⟩) ∧
    Blk w' bq 67 (du (dg 10 q)) ∧ Blk w' w.heap.size 67 (du (dg 10 r)) ∧ Blk w' (w.heap.size + 1 + 1) 67 (du (if L 2 = true then dg 10 q else z10)) ∧ Blk w' (w.heap.size + 1 + 1 + 1) 67 (du (if L 3 = true then dg 10 r else z10)) ∧ Below w.heap.size w w' ∧
    (L 0 = true → a.eval (.tmp 58) = .agg (ds (dg 10 q))) ∧ (L 1 = true → a.eval (.tmp 59) = .agg (ds (dg 10 r)))
/-- What stands while the test of the first loop runs. -/
def DivInv (w : World) (A C c o : Int) (s : Nat) (k : Int) (g h : Bool) (L : Nat → Bool) (a : Act) (w' : World) : Prop :=
  ∃ u12 u13 u14 u15 u16 u17 u18 u19 u20 u21 u22 u23 u24 u25 u26 : Value, a = ⟨#[.agg (ds (dg 10 A)), .agg (ds (dg 10 C)), .pointer (some ⟨w.heap.size, 0, none⟩), .pointer (some ⟨w.heap.size + 1, 0, none⟩), .pointer (some ⟨w.heap.size + 1 + 1, 0, none⟩), .pointer (some ⟨w.heap.size + 1 + 1 + 1, 0, none⟩), .pointer (some ⟨w.heap.size + 1 + 1 + 1 + 1, 0, none⟩), .int .i64 (s : Int), undef, undef, undef, .agg #[.int .u64 1, .int .u64 0, .int .u64 0, .int .u64 0, .int .u64 0, .int .u64 0, .int .u64 0, .int .u64 0, .int .u64 0, .int .u64 0], u12, u13, u14, u15, u16, u17, u18, u19, u20, u21, u22, u23, u24, u25, u26, undef, undef, undef, undef, undef, undef, undef, undef, undef, undef, undef, undef, undef, undef, undef, undef, undef, undef, undef, undef, undef, undef, undef, undef, undef, undef, undef, undef, undef, undef, undef, undef, undef], []⟩ ∧
    Blk w' w.heap.size 67 (du (dg 10 A)) ∧ Blk w' (w.heap.size + 1) 67 (du (dg 10 c)) ∧ Blk w' (w.heap.size + 1 + 1) 67 (du z10) ∧ Blk w' (w.heap.size + 1 + 1 + 1) 67 (du z10) ∧ Blk w' (w.heap.size + 1 + 1 + 1 + 1) 67 (du (dg 10 o)) ∧
    Below w.heap.size w w' ∧
    (L 0 = true → u12 = .agg (ds (dg 10 c))) ∧ (L 1 = true → u13 = .agg (ds (dg 10 (c + c)))) ∧ (L 2 = true → u14 = .agg (ds (dg 10 A))) ∧ (L 3 = true → u15 = .int .i64 k) ∧ (L 4 = true → u16 = .bool g) ∧ (L 5 = true → u17 = .bool g) ∧ (L 6 = true → g = true → u18 = .int .i64 (s : Int)) ∧ (L 7 = true → g = true → u19 = .bool h) ∧ (L 8 = true → u20 = .bool (g && h))

attribute [local irreducible] N nl dg
attribute [local go_sem] heap_size_setCells
end Go.Proofs.Yteghjdmalbcdfaa
