/-
  The walk of the reference's Divide: quotient and rest.
-/
import Derived.Test.YtikfclioplploaaTimes
set_option linter.unusedVariables false
set_option linter.unusedSimpArgs false
namespace Go.Proofs.Ytikfclioplploaa
open Go.RowKit Dg

theorem info_du (n : Int) : (Try.prog.info? 103).map (·.size) = some (du (dg 10 n)).length := by rw [du_len, len10]; exact info_arr
theorem ds_size10 (n : Int) : (ds (dg 10 n)).size = 10 := by rw [ds_size, len10]
/-- In numbers: 'less', 'shifted', 'minus', 'half', 'carry'. -/
theorem less_num (m n : Int) (hm : 0 ≤ m) (hm2 : m < TOP) (hn : 0 ≤ n) (hn2 : n < TOP) (w : World) :
    Calls Try.prog 68 #[.agg (ds (dg 10 m)), .agg (ds (dg 10 n))] w fun e w' => e = .returned (.int .i64 (cmpI m n)) ∧ Below w.heap.size w w' := by
  have := less_any (dg 10 m) (dg 10 n) (norm10 _) (norm10 _) (len10 _) (len10 _) w
  rwa [val10 hm hm2, val10 hn hn2] at this
theorem shifted_num (m : Int) (hm : 0 ≤ m) (hm2 : m + m < TOP) (w : World) :
    Calls Try.prog 69 #[.agg (ds (dg 10 m))] w fun e w' => e = .returned (.agg (ds (dg 10 (m + m)))) ∧ Below w.heap.size w w' := by
  have := shifted_any (dg 10 m) (norm10 _) (len10 _) (by rw [val10 hm (by omega)]; exact hm2) w
  rwa [val10 hm (by omega)] at this
theorem minus_num (m n : Int) (hn : 0 ≤ n) (hnm : n ≤ m) (hm2 : m < TOP) (w : World) :
    Calls Try.prog 78 #[.agg (ds (dg 10 m)), .agg (ds (dg 10 n))] w fun e w' => e = .returned (.agg (ds (dg 10 (m - n)))) ∧ Below w.heap.size w w' := by
  have := minus_any (dg 10 m) (dg 10 n) (norm10 _) (norm10 _) (len10 _) (len10 _) (by rw [val10 (n := m) (by omega) hm2, val10 hn (by omega)]; exact hnm) w
  rwa [val10 (n := m) (by omega) hm2, val10 hn (by omega)] at this
theorem half_num (m : Int) (hm : 0 ≤ m) (hm2 : m < TOP) (w : World) :
    Calls Try.prog 79 #[.agg (ds (dg 10 m))] w fun e w' => e = .returned (.agg (ds (dg 10 (m / 2)))) ∧ Below w.heap.size w w' := by
  have := half_any (dg 10 m) (norm10 _) (len10 _) w
  rwa [val10 hm hm2] at this
theorem st_D {ops : Array Oper} {rest : List Oper} {op : Oper} {a : Act} {w : World} {Q : Exit → Act → World → Prop} (hgd : op.guard = none) (x y : Operand) (ho : op.op = .store 103 x y) (b : Nat) (hx : a.eval x = .pointer (some ⟨b, 0, none⟩)) (z : Int) (hy : a.eval y = .agg (ds (dg 10 z))) (hc : w.there b 0 10)
    (h : wpList Try.prog ops Q rest (a.put op.dst undef) (w.setCells b 0 (du (dg 10 z)))) : wpList Try.prog ops Q (op :: rest) a w :=
  st_arr hgd x y ho b 0 hx _ hy (len10 _) hc h
theorem ld_D {ops : Array Oper} {rest : List Oper} {op : Oper} {a : Act} {w : World} {Q : Exit → Act → World → Prop} (hgd : op.guard = none) (x : Operand) (ho : op.op = .load 103 x) (b : Nat) (hx : a.eval x = .pointer (some ⟨b, 0, none⟩)) (z : Int) (hc : w.rangeAt b 0 (du (dg 10 z)))
    (h : wpList Try.prog ops Q rest (a.put op.dst (.agg (ds (dg 10 z)))) w) : wpList Try.prog ops Q (op :: rest) a w :=
  ld_arr hgd x ho b 0 hx _ (len10 _) hc h
theorem Blk.thereD {w : World} {b : Nat} {z : Int} (h : Blk w b 103 (du (dg 10 z))) : w.there b 0 10 := h.thereMid 0 10 (by rw [du_len, len10]; decide)
theorem Blk.thereZ {w : World} {b : Nat} (h : Blk w b 103 (du z10)) : w.there b 0 10 := h.thereMid 0 10 (by decide)
theorem Blk.setD {w : World} {b : Nat} {z : Int} (h : Blk w b 103 (du (dg 10 z))) (y : Int) : Blk (w.setCells b 0 (du (dg 10 y))) b 103 (du (dg 10 y)) := h.setAll _ (by rw [du_len, du_len, len10, len10])
theorem Blk.setZ {w : World} {b : Nat} (h : Blk w b 103 (du z10)) (y : Int) : Blk (w.setCells b 0 (du (dg 10 y))) b 103 (du (dg 10 y)) := h.setAll _ (by rw [du_len, du_len, len10]; rfl)
theorem Blk.newD (w : World) (z : Int) : Blk (w.alloc (.cells (ds (dg 10 z)) 103)) w.heap.size 103 (du (dg 10 z)) := Blk.new w _ _
theorem Blk.new2D (w : World) (o : Obj) (z : Int) : Blk ((w.alloc o).alloc (.cells (ds (dg 10 z)) 103)) (w.heap.size + 1) 103 (du (dg 10 z)) := Blk.new2 w o _ _

theorem dg_one : dg 10 1 = [1, 0, 0, 0, 0, 0, 0, 0, 0, 0] := by decide
/-! ### the plain law -/
/-- Behind s doublings: c is C, o is 1, both doubled so often. -/
structure Up (A C : Int) (s : Nat) (c o : Int) : Prop where
  o_eq : o = 2 ^ s
  c_eq : c = C * o
  le : s = 0 ∨ c ≤ A
theorem pow2_pos (s : Nat) : (0 : Int) < 2 ^ s := Int.pow_pos (by decide)
theorem Up.start (A C : Int) : Up A C 0 C 1 := ⟨rfl, by omega, .inl rfl⟩
theorem Up.bounds {A C : Int} {s : Nat} {c o : Int} (h : Up A C s c o) (hC : 0 < C) (hC2 : C < 65536 ^ 9) (hA : A ≤ 65536 ^ 8) : 1 ≤ o ∧ o ≤ c ∧ 0 < c ∧ c < 65536 ^ 9 := by
  have h1 := pow2_pos s
  rw [← h.o_eq] at h1
  have h2 : o * 1 ≤ o * C := Int.mul_le_mul_of_nonneg_left (by omega) (by omega)
  have h3 := h.c_eq
  rw [Int.mul_comm] at h3
  rcases h.le with h4 | h4
  · have : o = 1 := by rw [h.o_eq, h4]; rfl
    subst this
    omega
  · omega
theorem Up.step {A C : Int} {s : Nat} {c o : Int} (h : Up A C s c o) (hle : c + c ≤ A) : Up A C (s + 1) (c + c) (o + o) :=
  ⟨by rw [Int.pow_succ, ← h.o_eq]; omega, by rw [h.c_eq, Int.mul_add], .inr hle⟩
theorem Up.few {A C : Int} {s : Nat} {c o : Int} (h : Up A C s c o) (hC : 0 < C) (hA : A ≤ 65536 ^ 8) : s < 140 := by
  refine Nat.lt_of_not_le (fun hs => ?_)
  rcases h.le with h4 | h4
  · omega
  · have h1 : (2 : Int) ^ 140 ≤ 2 ^ s := by
      have := Nat.pow_le_pow_right (show 0 < 2 by decide) hs
      exact_mod_cast this
    have h2 : o * 1 ≤ o * C := Int.mul_le_mul_of_nonneg_left (by omega) (by have := pow2_pos s; rw [h.o_eq]; omega)
    have h3 := h.c_eq
    rw [Int.mul_comm] at h3
    have h5 := h.o_eq
    have h6 : (65536 : Int) ^ 8 < 2 ^ 140 := by decide
    omega
/-- Behind k steps down. -/
structure Down (A C : Int) (s : Nat) (k : Nat) (c o r q : Int) : Prop where
  r0 : 0 ≤ r
  q0 : 0 ≤ q
  all : r + q * C = A
  mid : k ≤ s → o = 2 ^ (s - k) ∧ c = C * o ∧ r < c + c
  fin : k = s + 1 → r < C
  c0 : 0 ≤ c ∧ c < 65536 ^ 9
  o0 : 0 ≤ o ∧ o < 65536 ^ 9
theorem Down.start {A C : Int} {s : Nat} {c o : Int} (h : Up A C s c o) (hC : 0 < C) (hC2 : C < 65536 ^ 9) (hA0 : 0 ≤ A) (hA : A ≤ 65536 ^ 8) (hlt : A < c + c) : Down A C s 0 c o A 0 := by
  have hb := h.bounds hC hC2 hA
  exact ⟨hA0, by omega, by omega, fun _ => ⟨by rw [Nat.sub_zero]; exact h.o_eq, h.c_eq, hlt⟩, fun h => by omega, by omega, by omega⟩
theorem Down.q_le {A C : Int} {s k : Nat} {c o r q : Int} (h : Down A C s k c o r q) (hC : 0 < C) : q ≤ A := by
  have h1 : q * 1 ≤ q * C := Int.mul_le_mul_of_nonneg_left (by omega) h.q0
  have := h.all; have := h.r0
  omega
theorem halves {s k : Nat} {C c o : Int} (hk : k ≤ s) (ho : o = 2 ^ (s - k)) (hc : c = C * o) : (k + 1 ≤ s → o / 2 = 2 ^ (s - (k + 1)) ∧ c / 2 = C * (o / 2) ∧ c / 2 + c / 2 = c) ∧ (k + 1 = s + 1 → c = C) := by
  refine ⟨fun h => ?_, fun h => ?_⟩
  · have e : s - k = s - (k + 1) + 1 := by omega
    rw [e, Int.pow_succ] at ho
    generalize (2 : Int) ^ (s - (k + 1)) = p at *
    have e1 : o / 2 = p := by omega
    rw [e1]
    have e2 : c = 2 * (C * p) := by rw [hc, ho, ← Int.mul_assoc, Int.mul_comm]
    refine ⟨rfl, by omega, by omega⟩
  · have : s - k = 0 := by omega
    rw [this] at ho
    rw [hc, ho]; simp
theorem Down.take {A C : Int} {s k : Nat} {c o r q : Int} (h : Down A C s k c o r q) (hk : k ≤ s) (hle : c ≤ r) : Down A C s (k + 1) (c / 2) (o / 2) (r - c) (q + o) := by
  obtain ⟨h1, h2, h3⟩ := h.mid hk
  obtain ⟨h4, h5⟩ := halves hk h1 h2
  have hc := h.c0; have ho := h.o0
  refine ⟨by omega, by have := h.q0; omega, ?_, fun hk1 => ?_, fun hk1 => ?_, by omega, by omega⟩
  · have := h.all
    rw [Int.add_mul, Int.mul_comm o C, ← h2]; omega
  · obtain ⟨e1, e2, e3⟩ := h4 hk1
    exact ⟨e1, e2, by omega⟩
  · have := h5 hk1; omega
theorem Down.skip {A C : Int} {s k : Nat} {c o r q : Int} (h : Down A C s k c o r q) (hk : k ≤ s) (hlt : r < c) : Down A C s (k + 1) (c / 2) (o / 2) r q := by
  obtain ⟨h1, h2, h3⟩ := h.mid hk
  obtain ⟨h4, h5⟩ := halves hk h1 h2
  have hc := h.c0; have ho := h.o0
  refine ⟨h.r0, h.q0, h.all, fun hk1 => ?_, fun hk1 => ?_, by omega, by omega⟩
  · obtain ⟨e1, e2, e3⟩ := h4 hk1
    exact ⟨e1, e2, by omega⟩
  · have := h5 hk1; omega
theorem Down.done {A C : Int} {s : Nat} {c o r q : Int} (h : Down A C s (s + 1) c o r q) (hC : 0 < C) : q = A / C ∧ r = A % C := by
  have h1 := h.all
  have h2 := h.fin rfl
  have h3 := h.r0
  have e : A = r + C * q := by rw [← h1, Int.mul_comm]
  constructor
  · rw [e, Int.add_mul_ediv_left _ _ (by omega), Int.ediv_eq_zero_of_lt h3 h2]; omega
  · rw [e, Int.add_mul_emod_self_left, Int.emod_eq_of_lt h3 h2]

theorem put_size (a : Act) (d : Nat) (v : Value) {n : Nat} (h : a.tmps.size = n) : (a.put (some d) v).tmps.size = n := by simp [Act.put, h]
theorem put_other (a : Act) (d i : Nat) (v : Value) {x : Value} (h : a.eval (.tmp i) = x) (hn : d ≠ i) : (a.put (some d) v).eval (.tmp i) = x := by
  rw [← h]; simp [Act.put, Act.eval, Array.getElem?_setIfInBounds_ne hn]
theorem put_same (a : Act) (d : Nat) (v : Value) (h : d < a.tmps.size) : (a.put (some d) v).eval (.tmp d) = v := by simp [Act.put, Act.eval, h]
theorem info_ds (n : Int) : (Try.prog.info? 103).map (·.size) = some (ds (dg 10 n)).size := by rw [ds_size10]; exact info_arr
theorem res_two (q r : Int) (tmps : Array Value) (w : World) (b1 b2 : Nat) (h1 : (⟨tmps, []⟩ : Act).eval (.tmp 4) = .pointer (some ⟨b1, 0, none⟩)) (h2 : (⟨tmps, []⟩ : Act).eval (.tmp 5) = .pointer (some ⟨b2, 0, none⟩)) (hb1 : Blk w b1 103 (du (dg 10 q))) (hb2 : Blk w b2 103 (du (dg 10 r))) :
    (results Try.f67 tmps).run Try.prog w = .ok (.tuple #[.agg (ds (dg 10 q)), .agg (ds (dg 10 r))]) w := by
  have l1 := run_loadVar_mid w b1 0 103 (du (dg 10 q)) _ hb1.range Try.underlying103 rfl (info_du q)
  have l2 := run_loadVar_mid w b2 0 103 (du (dg 10 r)) _ hb2.range Try.underlying103 rfl (info_du r)
  have e1 : tmps[4]?.getD undef = .pointer (some ⟨b1, 0, none⟩) := by simpa [Act.eval] using h1
  have e2 : tmps[5]?.getD undef = .pointer (some ⟨b2, 0, none⟩) := by simpa [Act.eval] using h2
  simp [results, Try.results67, e1, e2, asAddr, l1, l2, ds]
/-- What stands while the results are laid. -/
def DivEnd (w : World) (bq : Nat) (q r : Int) (L : Nat → Bool) (a : Act) (w' : World) : Prop :=
  a.tmps.size = 60 ∧ a.defers = [] ∧ a.eval (.tmp 2) = .pointer (some ⟨w.heap.size, 0, none⟩) ∧ a.eval (.tmp 8) = .pointer (some ⟨bq, 0, none⟩) ∧ a.eval (.tmp 4) = .pointer (some ⟨w.heap.size + 1 + 1, 0, none⟩) ∧ a.eval (.tmp 5) = .pointer (some ⟨w.heap.size + 1 + 1 + 1, 0, none⟩) ∧
    Blk w' bq 103 (du (dg 10 q)) ∧ Blk w' w.heap.size 103 (du (dg 10 r)) ∧ Blk w' (w.heap.size + 1 + 1) 103 (du (if L 2 = true then dg 10 q else z10)) ∧ Blk w' (w.heap.size + 1 + 1 + 1) 103 (du (if L 3 = true then dg 10 r else z10)) ∧ Below w.heap.size w w' ∧
    (L 0 = true → a.eval (.tmp 58) = .agg (ds (dg 10 q))) ∧ (L 1 = true → a.eval (.tmp 59) = .agg (ds (dg 10 r)))
/-- What stands while the test of the first loop runs. -/
def DivInv (w : World) (A C c o : Int) (s : Nat) (k : Int) (g h : Bool) (L : Nat → Bool) (a : Act) (w' : World) : Prop :=
  ∃ u12 u13 u14 u15 u16 u17 u18 u19 u20 u21 u22 u23 u24 u25 u26 : Value, a = ⟨#[.agg (ds (dg 10 A)), .agg (ds (dg 10 C)), .pointer (some ⟨w.heap.size, 0, none⟩), .pointer (some ⟨w.heap.size + 1, 0, none⟩), .pointer (some ⟨w.heap.size + 1 + 1, 0, none⟩), .pointer (some ⟨w.heap.size + 1 + 1 + 1, 0, none⟩), .pointer (some ⟨w.heap.size + 1 + 1 + 1 + 1, 0, none⟩), .int .i64 (s : Int), undef, undef, undef, .agg #[.int .u64 1, .int .u64 0, .int .u64 0, .int .u64 0, .int .u64 0, .int .u64 0, .int .u64 0, .int .u64 0, .int .u64 0, .int .u64 0], u12, u13, u14, u15, u16, u17, u18, u19, u20, u21, u22, u23, u24, u25, u26, undef, undef, undef, undef, undef, undef, undef, undef, undef, undef, undef, undef, undef, undef, undef, undef, undef, undef, undef, undef, undef, undef, undef, undef, undef, undef, undef, undef, undef, undef, undef, undef, undef], []⟩ ∧
    Blk w' w.heap.size 103 (du (dg 10 A)) ∧ Blk w' (w.heap.size + 1) 103 (du (dg 10 c)) ∧ Blk w' (w.heap.size + 1 + 1) 103 (du z10) ∧ Blk w' (w.heap.size + 1 + 1 + 1) 103 (du z10) ∧ Blk w' (w.heap.size + 1 + 1 + 1 + 1) 103 (du (dg 10 o)) ∧
    Below w.heap.size w w' ∧
    (L 0 = true → u12 = .agg (ds (dg 10 c))) ∧ (L 1 = true → u13 = .agg (ds (dg 10 (c + c)))) ∧ (L 2 = true → u14 = .agg (ds (dg 10 A))) ∧ (L 3 = true → u15 = .int .i64 k) ∧ (L 4 = true → u16 = .bool g) ∧ (L 5 = true → u17 = .bool g) ∧ (L 6 = true → g = true → u18 = .int .i64 (s : Int)) ∧ (L 7 = true → g = true → u19 = .bool h) ∧ (L 8 = true → u20 = .bool (g && h))

attribute [local irreducible] N nl dg
attribute [local go_sem] heap_size_setCells
set_option maxRecDepth 100000 in
set_option maxHeartbeats 1000000 in
theorem divide_any (A C : Int) (hA0 : 0 ≤ A) (hA : A ≤ 65536 ^ 8) (hC : 0 < C) (hC2 : C < 65536 ^ 9) (w : World) :
    Calls Try.prog 67 #[.agg (ds (dg 10 A)), .agg (ds (dg 10 C))] w fun e w' => e = .returned (.tuple #[.agg (ds (dg 10 (A / C))), .agg (ds (dg 10 (A % C)))]) ∧ Below w.heap.size w w' := by
  have hsa := ds_size10 A
  have hsb := ds_size10 C
  have HA0 := Lib.hid hA0; have HAL := Lib.hid hA; have HC0 := Lib.hid hC; have HCL := Lib.hid hC2
  clear hA0 hA hC hC2
  go_enter Try.func67, Try.ntmps67
  go_wp2
  go_loopw [7] (fun i wr => ∃ (s : Nat) (c o : Int), i = .int .i64 s ∧ Hid (Up A C s c o) ∧ Blk wr w.heap.size 103 (du (dg 10 A)) ∧ Blk wr (w.heap.size + 1) 103 (du (dg 10 c)) ∧ Blk wr (w.heap.size + 1 + 1) 103 (du z10) ∧ Blk wr (w.heap.size + 1 + 1 + 1) 103 (du z10) ∧ Blk wr (w.heap.size + 1 + 1 + 1 + 1) 103 (du (dg 10 o)) ∧ Below w.heap.size w wr) (fun i _ => 200 - (intOf i).toNat)
  case atStart =>
    refine ⟨0, C, 1, rfl, Up.start A C, ((((Blk.newD w A).alloc _).alloc _).alloc _).alloc _, (((Blk.new2D w _ C).alloc _).alloc _).alloc _, ((Blk.new3 w _ _ 103 (du z10)).alloc _).alloc _, (Blk.new4 w _ _ _ 103 (du z10)).alloc _, ?_, below_new5 _ _ _ _ _ _⟩
    rw [dg_one]
    exact Blk.new5 w _ _ _ _ 103 (du [1, 0, 0, 0, 0, 0, 0, 0, 0, 0])
  case round =>
    obtain ⟨s, c, o, rfl, HU, hA, hC, hR1, hR2, hO, hBe⟩ := hrel
    obtain ⟨b1, b2, b3, b4⟩ := HU.out.bounds HC0.out HCL.out HAL.out
    have hfew := HU.out.few HC0.out HAL.out
    have HS := Lib.hid (fun W => shifted_num c (by omega) (by unfold TOP; omega) W)
    have hl := fun W => less_num (c + c) A (by omega) (by unfold TOP; omega) HA0.out (by have := HAL.out; unfold TOP; omega) W
    have hg : decide (cmpI (c + c) A ≤ 0) = decide (c + c ≤ A) := by rw [decide_eq_decide]; unfold cmpI; split <;> (try split) <;> omega
    generalize cmpI (c + c) A = k at *
    have HL := Lib.hid hl
    generalize hgg : decide (c + c ≤ A) = g at *
    have HG := Lib.hid hg
    have HGG := Lib.hid hgg
    obtain ⟨h, hh⟩ : ∃ h : Bool, h = true := ⟨true, rfl⟩
    have HH : Hid (decide ((s : Int) < 140) = h) := by rw [hh]; exact decide_eq_true (by omega)
    have HHT := Lib.hid hh
    clear hl hg hgg hh
    go_wp2
    refine region_inv ?_ ?_ (DivInv w A C c o s k g h) ?_ ?_ ?_
    · kernel_rfl
    · kernel_rfl
    · exact ⟨_, _, _, _, _, _, _, _, _, _, _, _, _, _, _, rfl, hA.drew, hC.drew, hR1.drew, hR2.drew, hO.drew, hBe.drew, nofun, nofun, nofun, nofun, nofun, nofun, nofun, nofun, nofun⟩
    · intro i o L a w' hi hL hd hI K hK
      clear hBe hA hC hR1 hR2 hO
      obtain ⟨u12, u13, u14, u15, u16, u17, u18, u19, u20, u21, u22, u23, u24, u25, u26, rfl, hA, hC, hR1, hR2, hO, hBe, h0, h1, h2, h3, h4, h5, h6, h7, h8⟩ := hI
      have hlt : i < 9 := (Array.getElem?_eq_some_iff.1 hi).1
      rcases i with _ | _ | _ | _ | _ | _ | _ | _ | _ | i
      · obtain rfl := Option.some.inj (show some _ = some o from hi)
        rw [if_pos (by rfl)]
        exact wp_load_mid _ _ rfl (w.heap.size + 1) 0 rfl (du (dg 10 c)) _ hC.range Try.underlying103 rfl (info_du c) (hK _ _ ⟨_, _, _, _, _, _, _, _, _, _, _, _, _, _, _, rfl, hA, hC, hR1, hR2, hO, hBe, fun _ => rfl, h1, h2, h3, h4, h5, h6, h7, h8⟩)
      · obtain rfl := Option.some.inj (show some _ = some o from hi)
        rw [if_pos (by rfl)]
        obtain rfl := h0 (hd ⟨0, .data⟩ (by simp) rfl)
        go_simp
        refine (HS.out _).mono ?_
        rintro e w1 ⟨rfl, hb⟩
        exact hK _ _ ⟨_, _, _, _, _, _, _, _, _, _, _, _, _, _, _, rfl, hA.keeps hb, hC.keeps hb, hR1.keeps hb, hR2.keeps hb, hO.keeps hb, below_on hBe hBe.size hb, h0, fun _ => rfl, h2, h3, h4, h5, h6, h7, h8⟩
      · obtain rfl := Option.some.inj (show some _ = some o from hi)
        rw [if_pos (by rfl)]
        exact wp_load_mid _ _ rfl (w.heap.size) 0 rfl (du (dg 10 A)) _ hA.range Try.underlying103 rfl (info_du A) (hK _ _ ⟨_, _, _, _, _, _, _, _, _, _, _, _, _, _, _, rfl, hA, hC, hR1, hR2, hO, hBe, h0, h1, fun _ => rfl, h3, h4, h5, h6, h7, h8⟩)
      · obtain rfl := Option.some.inj (show some _ = some o from hi)
        rw [if_pos (by rfl)]
        obtain rfl := h1 (hd ⟨1, .data⟩ (by simp) rfl)
        obtain rfl := h2 (hd ⟨2, .data⟩ (by simp) rfl)
        go_simp
        refine (HL.out _).mono ?_
        rintro e w1 ⟨rfl, hb⟩
        exact hK _ _ ⟨_, _, _, _, _, _, _, _, _, _, _, _, _, _, _, rfl, hA.keeps hb, hC.keeps hb, hR1.keeps hb, hR2.keeps hb, hO.keeps hb, below_on hBe hBe.size hb, h0, h1, h2, fun _ => rfl, h4, h5, h6, h7, h8⟩
      · obtain rfl := Option.some.inj (show some _ = some o from hi)
        rw [if_pos (by rfl)]
        obtain rfl := h3 (hd ⟨3, .data⟩ (by simp) rfl)
        go_simp
        rw [HG.out]
        exact hK _ _ ⟨_, _, _, _, _, _, _, _, _, _, _, _, _, _, _, rfl, hA, hC, hR1, hR2, hO, hBe, h0, h1, h2, h3, fun _ => rfl, h5, h6, h7, h8⟩
      · obtain rfl := Option.some.inj (show some _ = some o from hi)
        rw [if_pos (by rfl)]
        obtain rfl := h4 (hd ⟨4, .data⟩ (by simp) rfl)
        go_simp
        exact hK _ _ ⟨_, _, _, _, _, _, _, _, _, _, _, _, _, _, _, rfl, hA, hC, hR1, hR2, hO, hBe, h0, h1, h2, h3, h4, fun _ => rfl, h6, h7, h8⟩
      · obtain rfl := Option.some.inj (show some _ = some o from hi)
        obtain rfl := h5 (hd ⟨5, .guard⟩ (by simp) rfl)
        cases g
        · rw [if_neg (by intro hc; cases (show false = true from hc))]
          exact hK _ _ ⟨_, _, _, _, _, _, _, _, _, _, _, _, _, _, _, rfl, hA, hC, hR1, hR2, hO, hBe, h0, h1, h2, h3, h4, h5, nofun, h7, h8⟩
        · rw [if_pos (by rfl)]
          go_simp
          exact hK _ _ ⟨_, _, _, _, _, _, _, _, _, _, _, _, _, _, _, rfl, hA, hC, hR1, hR2, hO, hBe, h0, h1, h2, h3, h4, h5, fun _ _ => rfl, h7, h8⟩
      · obtain rfl := Option.some.inj (show some _ = some o from hi)
        obtain rfl := h5 (hd ⟨5, .guard⟩ (by simp) rfl)
        cases g
        · rw [if_neg (by intro hc; cases (show false = true from hc))]
          exact hK _ _ ⟨_, _, _, _, _, _, _, _, _, _, _, _, _, _, _, rfl, hA, hC, hR1, hR2, hO, hBe, h0, h1, h2, h3, h4, h5, h6, nofun, h8⟩
        · rw [if_pos (by rfl)]
          obtain rfl := h6 (hd ⟨6, .data⟩ (by simp) rfl) rfl
          go_simp
          rw [HH.out]
          exact hK _ _ ⟨_, _, _, _, _, _, _, _, _, _, _, _, _, _, _, rfl, hA, hC, hR1, hR2, hO, hBe, h0, h1, h2, h3, h4, h5, h6, fun _ _ => rfl, h8⟩
      · obtain rfl := Option.some.inj (show some _ = some o from hi)
        rw [if_pos (by rfl)]
        obtain rfl := h5 (hd ⟨5, .data⟩ (by simp) rfl)
        cases g
        · go_simp
          exact hK _ _ ⟨_, _, _, _, _, _, _, _, _, _, _, _, _, _, _, rfl, hA, hC, hR1, hR2, hO, hBe, h0, h1, h2, h3, h4, h5, h6, h7, fun _ => rfl⟩
        · obtain rfl := h7 (hd ⟨7, .data⟩ (by simp) rfl) rfl
          go_simp
          exact hK _ _ ⟨_, _, _, _, _, _, _, _, _, _, _, _, _, _, _, rfl, hA, hC, hR1, hR2, hO, hBe, h0, h1, h2, h3, h4, h5, h6, h7, fun _ => rfl⟩
      · omega
    · intro L a w' hall hI
      clear hBe hA hC hR1 hR2 hO
      obtain ⟨u12, u13, u14, u15, u16, u17, u18, u19, u20, u21, u22, u23, u24, u25, u26, rfl, hA, hC, hR1, hR2, hO, hBe, h0, h1, h2, h3, h4, h5, h6, h7, h8⟩ := hI
      obtain rfl := h0 (hall 0 (by decide))
      obtain rfl := h1 (hall 1 (by decide))
      obtain rfl := h2 (hall 2 (by decide))
      obtain rfl := h3 (hall 3 (by decide))
      obtain rfl := h4 (hall 4 (by decide))
      obtain rfl := h5 (hall 5 (by decide))
      obtain rfl := h8 (hall 8 (by decide))
      clear h0 h1 h2 h3 h4 h5 h6 h7 h8 hall HS HL HG HH
      obtain rfl : h = true := HHT.out
      cases g
      · have HLT : Hid (A < c + c) := by have := of_decide_eq_false HGG.out; show A < c + c; omega
        clear HGG HHT
        rw [show (false && true) = false from rfl]
        have HD0 := Lib.hid (Down.start HU.out HC0.out HCL.out HA0.out HAL.out HLT.out)
        clear HU HLT
        have hq0 := hA.lt
        have hq1 := hO.lt
        go_wp2
        have HQ0 : Hid (Blk (w'.alloc (.cells (du z10).toArray 103)) w'.heap.size 103 (du (dg 10 0))) := by
          show Blk _ _ _ _
          rw [(dg_zero_iff 0 (by decide) (by decide)).2 rfl]; exact Blk.new w' 103 (du z10)
        obtain ⟨wq, bq, hwq, hbq⟩ : ∃ (wq : World) (bq : Nat), wq = w' ∧ bq = w'.heap.size := ⟨_, _, rfl, rfl⟩
        have HBQ : Hid (bq = w'.heap.size) := hbq
        have hbq1 : w.heap.size + 1 + 1 + 1 + 1 < bq := by omega
        clear hwq wq
        rw [← hbq]
        clear hbq hq0 hq1
        go_loopw [9] (fun i wr => ∃ (k : Nat) (c o r q : Int), k ≤ s + 1 ∧ i = .int .i64 k ∧ Hid (Down A C s k c o r q) ∧ Blk wr w.heap.size 103 (du (dg 10 r)) ∧ Blk wr (w.heap.size + 1) 103 (du (dg 10 c)) ∧ Blk wr (w.heap.size + 1 + 1) 103 (du z10) ∧ Blk wr (w.heap.size + 1 + 1 + 1) 103 (du z10) ∧ Blk wr (w.heap.size + 1 + 1 + 1 + 1) 103 (du (dg 10 o)) ∧ Blk wr bq 103 (du (dg 10 q)) ∧ Below w.heap.size w wr) (fun i _ => s + 1 - (intOf i).toNat)
        case atStart => exact ⟨0, c, o, A, 0, by omega, rfl, HD0.out, hA.alloc _, hC.alloc _, hR1.alloc _, hR2.alloc _, hO.alloc _, by rw [HBQ.out]; exact HQ0.out, hBe.alloc hBe.size _⟩
        case round =>
          clear hA hC hR1 hR2 hO hBe HD0 HQ0 HBQ b1 b2 b3 b4
          obtain ⟨k, c, o, r, q, hk, rfl, HD, hA, hC, hR1, hR2, hO, hQ, hBe⟩ := hrel
          by_cases hks : k ≤ s
          · obtain ⟨c0, c1⟩ := HD.out.c0
            obtain ⟨o0, o1⟩ := HD.out.o0
            have r0 := HD.out.r0
            have r1 : r ≤ A := by have h1 := HD.out.all; have h2 := Int.mul_nonneg HD.out.q0 (Int.le_of_lt HC0.out); omega
            have q0 := HD.out.q0
            have q1 := HD.out.q_le HC0.out
            have HLS := Lib.hid (fun W => less_num c r c0 (by unfold TOP; omega) r0 (by have := HAL.out; unfold TOP; omega) W)
            have HHC := Lib.hid (fun W => half_num c c0 (by unfold TOP; omega) W)
            have HHO := Lib.hid (fun W => half_num o o0 (by unfold TOP; omega) W)
            go_wp2_with (first | (refine ld_D rfl _ rfl (w.heap.size + 1) rfl c ?_ ?_; exact hC.range) | (refine ld_D rfl _ rfl w.heap.size rfl r ?_ ?_; exact hA.range) | fail)
            refine (HLS.out _).mono ?_
            rintro e w1 ⟨rfl, hb1⟩
            have hA1 := hA.keeps hb1; have hC1 := hC.keeps hb1; have hR11 := hR1.keeps hb1; have hR21 := hR2.keeps hb1; have hO1 := hO.keeps hb1; have hQ1 := hQ.keeps hb1
            have hB1 := below_on hBe hBe.size hb1
            clear hA hC hR1 hR2 hO hQ hBe hb1 HLS
            by_cases hle : c ≤ r
            · have hk0 : cmpI c r ≤ 0 := by unfold cmpI; split <;> (try split) <;> omega
              have HDN := Lib.hid (HD.out.take hks hle)
              have HM := Lib.hid (fun W => minus_num r c c0 hle (by have := HAL.out; unfold TOP; omega) W)
              have HADS : Hid (val (dg 10 q) = q) := val10 q0 (by have := HAL.out; unfold TOP; omega)
              have HADO : Hid (val (dg 10 o) = o) := val10 o0 (by unfold TOP; omega)
              have HSUM : Hid (q + o < 65536 ^ 10) := by show q + o < 65536 ^ 10; have := HAL.out; omega
              generalize cmpI c r = cc at *
              clear hle HD
              go_wp2_with (first | (refine ld_D rfl _ rfl (w.heap.size + 1) rfl c ?_ ?_; exact hC1.range) | (refine ld_D rfl _ rfl w.heap.size rfl r ?_ ?_; exact hA1.range) | fail)
              refine (HM.out _).mono ?_
              rintro e w2 ⟨rfl, hb2⟩
              have hA2 := hA1.keeps hb2; have hC2 := hC1.keeps hb2; have hR12 := hR11.keeps hb2; have hR22 := hR21.keeps hb2; have hO2 := hO1.keeps hb2; have hQ2 := hQ1.keeps hb2
              have hB2 := below_on hB1 hB1.size hb2
              have HT2 := Lib.hid hA2.thereD
              have hA3 := hA2.setD (r - c)
              have hC3 := hC2.otherCells (b' := w.heap.size) (du (dg 10 (r - c))) 0 (by omega)
              have hR13 := hR12.otherCells (b' := w.heap.size) (du (dg 10 (r - c))) 0 (by omega)
              have hR23 := hR22.otherCells (b' := w.heap.size) (du (dg 10 (r - c))) 0 (by omega)
              have hO3 := hO2.otherCells (b' := w.heap.size) (du (dg 10 (r - c))) 0 (by omega)
              have hQ3 := hQ2.otherCells (b' := w.heap.size) (du (dg 10 (r - c))) 0 (by omega)
              have hB3 := below_setCells (b := w.heap.size) (du (dg 10 (r - c))) 0 hB2 (by omega)
              clear hA1 hC1 hR11 hR21 hO1 hQ1 hB1 hb2 hA2 hC2 hR12 hR22 hO2 hQ2 hB2 HM
              go_wp2_with (first | (refine st_D rfl _ _ rfl w.heap.size rfl (r - c) rfl ?_ ?_; exact HT2.out) | fail)
              go_loopw [40] (fun i wr => ∃ (j : Nat) (M : List Int), j ≤ 10 ∧ i = .int .i64 j ∧ Hid (Added (dg 10 q) (dg 10 o) j M) ∧ Blk wr w.heap.size 103 (du (dg 10 (r - c))) ∧ Blk wr (w.heap.size + 1) 103 (du (dg 10 c)) ∧ Blk wr (w.heap.size + 1 + 1) 103 (du z10) ∧ Blk wr (w.heap.size + 1 + 1 + 1) 103 (du z10) ∧ Blk wr (w.heap.size + 1 + 1 + 1 + 1) 103 (du (dg 10 o)) ∧ Blk wr bq 103 (du M) ∧ Below w.heap.size w wr) (fun i _ => 10 - (intOf i).toNat)
              case atStart => exact ⟨0, _, by omega, rfl, Added.start (len10 q), hA3, hC3, hR13, hR23, hO3, hQ3, hB3⟩
              case round =>
                clear hA3 hC3 hR13 hR23 hO3 hQ3 hB3 HT2
                obtain ⟨j, M, hj, rfl, HAD, hA, hC, hR1, hR2, hO, hQ, hBe⟩ := hrel
                have hlen := HAD.out.len
                by_cases hj10 : j < 10
                · have cq := hQ.cell j _ (du_at M j (by omega))
                  have fq := hQ.frozen j
                  have co := hO.cell j _ (du_at (dg 10 o) j (by rw [len10]; omega))
                  have HS := Lib.hid (HAD.out.step (len10 o) hj10)
                  have h1 := HAD.out.high j (by omega)
                  obtain ⟨m0, m1⟩ := norm_all (norm10 q) j
                  rw [← h1] at m0 m1
                  obtain ⟨n0, n1⟩ := norm_all (norm10 o) j
                  clear h1
                  go_wp2
                  go_region
                  go_wp2
                  exact ⟨⟨j + 1, _, by omega, by go_num, HS, (hA.other _ _ (by simp; omega)).drew, (hC.other _ _ (by simp; omega)).drew, (hR1.other _ _ (by simp; omega)).drew, (hR2.other _ _ (by simp; omega)).drew, (hO.other _ _ (by simp; omega)).drew, (hQ.du_set j _).drew, (hBe.setCell (by simp; omega) _).drew⟩, by simp only [intOf]; omega⟩
                · obtain rfl : j = 10 := by omega
                  have HL := Lib.hid hlen
                  have HC := Lib.hid (HAD.out.small (norm10 q) (norm10 o) (len10 q) (len10 o) (by rw [HADS.out, HADO.out]; exact HSUM.out))
                  have hv := HAD.out.done (len10 o)
                  rw [HADS.out, HADO.out] at hv
                  have HV := Lib.hid hv
                  clear hv hlen HAD HADS HADO
                  go_wp2_with (first | (refine ld_arr rfl _ rfl bq 0 rfl _ HL.out ?_ ?_; exact hQ.range) | fail)
                  refine (carry_any M HC.out wr).mono ?_
                  rintro e w3 ⟨rfl, hb3⟩
                  rw [HV.out]
                  have hA1 := hA.keeps hb3; have hC1 := hC.keeps hb3; have hR11 := hR1.keeps hb3; have hR21 := hR2.keeps hb3; have hO1 := hO.keeps hb3; have hQ1 := hQ.keeps hb3
                  have hB1 := below_on hBe hBe.size hb3
                  have HT3 := Lib.hid (hQ1.thereMid 0 10 (by rw [du_len, HL.out]; decide))
                  have hQ2 := hQ1.setAll (du (dg 10 (q + o))) (by rw [du_len, du_len, HL.out, len10])
                  have hA2 := hA1.otherCells (b' := bq) (du (dg 10 (q + o))) 0 (by omega)
                  have hC2 := hC1.otherCells (b' := bq) (du (dg 10 (q + o))) 0 (by omega)
                  have hR12 := hR11.otherCells (b' := bq) (du (dg 10 (q + o))) 0 (by omega)
                  have hR22 := hR21.otherCells (b' := bq) (du (dg 10 (q + o))) 0 (by omega)
                  have hO2 := hO1.otherCells (b' := bq) (du (dg 10 (q + o))) 0 (by omega)
                  have hB2 := below_setCells (b := bq) (du (dg 10 (q + o))) 0 hB1 (by omega)
                  clear hA hC hR1 hR2 hO hQ hBe hb3 hA1 hC1 hR11 hR21 hO1 hQ1 hB1 HC HV
                  go_wp2_with (first | (refine st_D rfl _ _ rfl bq rfl (q + o) rfl ?_ ?_; exact HT3.out) | (refine ld_D rfl _ rfl (w.heap.size + 1) rfl c ?_ ?_; exact hC2.range) | fail)
                  refine (HHC.out _).mono ?_
                  rintro e w4 ⟨rfl, hb4⟩
                  have hA4 := hA2.keeps hb4; have hC4 := hC2.keeps hb4; have hR14 := hR12.keeps hb4; have hR24 := hR22.keeps hb4; have hO4 := hO2.keeps hb4; have hQ4 := hQ2.keeps hb4
                  have hB4 := below_on hB2 hB2.size hb4
                  have HT4 := Lib.hid hC4.thereD
                  have hC5 := hC4.setD (c / 2)
                  have hA5 := hA4.otherCells (b' := w.heap.size + 1) (du (dg 10 (c / 2))) 0 (by omega)
                  have hR15 := hR14.otherCells (b' := w.heap.size + 1) (du (dg 10 (c / 2))) 0 (by omega)
                  have hR25 := hR24.otherCells (b' := w.heap.size + 1) (du (dg 10 (c / 2))) 0 (by omega)
                  have hO5 := hO4.otherCells (b' := w.heap.size + 1) (du (dg 10 (c / 2))) 0 (by omega)
                  have hQ5 := hQ4.otherCells (b' := w.heap.size + 1) (du (dg 10 (c / 2))) 0 (by omega)
                  have hB5 := below_setCells (b := w.heap.size + 1) (du (dg 10 (c / 2))) 0 hB4 (by omega)
                  clear hA2 hC2 hR12 hR22 hO2 hQ2 hB2 hb4 hA4 hC4 hR14 hR24 hO4 hQ4 hB4 HHC
                  go_wp2_with (first | (refine st_D rfl _ _ rfl (w.heap.size + 1) rfl (c / 2) rfl ?_ ?_; exact HT4.out) | (refine ld_D rfl _ rfl (w.heap.size + 1 + 1 + 1 + 1) rfl o ?_ ?_; exact hO5.range) | fail)
                  refine (HHO.out _).mono ?_
                  rintro e w6 ⟨rfl, hb6⟩
                  have hA6 := hA5.keeps hb6; have hC6 := hC5.keeps hb6; have hR16 := hR15.keeps hb6; have hR26 := hR25.keeps hb6; have hO6 := hO5.keeps hb6; have hQ6 := hQ5.keeps hb6
                  have hB6 := below_on hB5 hB5.size hb6
                  have HT6 := Lib.hid hO6.thereD
                  have hO7 := hO6.setD (o / 2)
                  have hA7 := hA6.otherCells (b' := w.heap.size + 1 + 1 + 1 + 1) (du (dg 10 (o / 2))) 0 (by omega)
                  have hR17 := hR16.otherCells (b' := w.heap.size + 1 + 1 + 1 + 1) (du (dg 10 (o / 2))) 0 (by omega)
                  have hR27 := hR26.otherCells (b' := w.heap.size + 1 + 1 + 1 + 1) (du (dg 10 (o / 2))) 0 (by omega)
                  have hC7 := hC6.otherCells (b' := w.heap.size + 1 + 1 + 1 + 1) (du (dg 10 (o / 2))) 0 (by omega)
                  have hQ7 := hQ6.otherCells (b' := w.heap.size + 1 + 1 + 1 + 1) (du (dg 10 (o / 2))) 0 (by omega)
                  have hB7 := below_setCells (b := w.heap.size + 1 + 1 + 1 + 1) (du (dg 10 (o / 2))) 0 hB6 (by omega)
                  clear hA5 hC5 hR15 hR25 hO5 hQ5 hB5 hb6 hA6 hC6 hR16 hR26 hO6 hQ6 hB6 HHO HT4
                  go_wp2_with (first | (refine st_D rfl _ _ rfl (w.heap.size + 1 + 1 + 1 + 1) rfl (o / 2) rfl ?_ ?_; exact HT6.out) | fail)
                  exact ⟨⟨k + 1, _, _, _, _, by omega, by go_num, HDN, hA7, hC7, hR17, hR27, hO7, hQ7, hB7⟩, by simp only [intOf]; omega⟩
            · have hk0 : ¬ cmpI c r ≤ 0 := by unfold cmpI; split <;> (try split) <;> omega
              have HDN := Lib.hid (HD.out.skip hks (by omega))
              have hA2 := hA1; have hC2 := hC1; have hR12 := hR11; have hR22 := hR21; have hO2 := hO1; have hQ2 := hQ1; have hB2 := hB1
              generalize cmpI c r = cc at *
              clear hle HD hA1 hC1 hR11 hR21 hO1 hQ1 hB1
              go_wp2_with (first | (refine ld_D rfl _ rfl (w.heap.size + 1) rfl c ?_ ?_; exact hC2.range) | fail)
              refine (HHC.out _).mono ?_
              rintro e w4 ⟨rfl, hb4⟩
              have hA4 := hA2.keeps hb4; have hC4 := hC2.keeps hb4; have hR14 := hR12.keeps hb4; have hR24 := hR22.keeps hb4; have hO4 := hO2.keeps hb4; have hQ4 := hQ2.keeps hb4
              have hB4 := below_on hB2 hB2.size hb4
              have HT4 := Lib.hid hC4.thereD
              have hC5 := hC4.setD (c / 2)
              have hA5 := hA4.otherCells (b' := w.heap.size + 1) (du (dg 10 (c / 2))) 0 (by omega)
              have hR15 := hR14.otherCells (b' := w.heap.size + 1) (du (dg 10 (c / 2))) 0 (by omega)
              have hR25 := hR24.otherCells (b' := w.heap.size + 1) (du (dg 10 (c / 2))) 0 (by omega)
              have hO5 := hO4.otherCells (b' := w.heap.size + 1) (du (dg 10 (c / 2))) 0 (by omega)
              have hQ5 := hQ4.otherCells (b' := w.heap.size + 1) (du (dg 10 (c / 2))) 0 (by omega)
              have hB5 := below_setCells (b := w.heap.size + 1) (du (dg 10 (c / 2))) 0 hB4 (by omega)
              clear hA2 hC2 hR12 hR22 hO2 hQ2 hB2 hb4 hA4 hC4 hR14 hR24 hO4 hQ4 hB4 HHC
              go_wp2_with (first | (refine st_D rfl _ _ rfl (w.heap.size + 1) rfl (c / 2) rfl ?_ ?_; exact HT4.out) | (refine ld_D rfl _ rfl (w.heap.size + 1 + 1 + 1 + 1) rfl o ?_ ?_; exact hO5.range) | fail)
              refine (HHO.out _).mono ?_
              rintro e w6 ⟨rfl, hb6⟩
              have hA6 := hA5.keeps hb6; have hC6 := hC5.keeps hb6; have hR16 := hR15.keeps hb6; have hR26 := hR25.keeps hb6; have hO6 := hO5.keeps hb6; have hQ6 := hQ5.keeps hb6
              have hB6 := below_on hB5 hB5.size hb6
              have HT6 := Lib.hid hO6.thereD
              have hO7 := hO6.setD (o / 2)
              have hA7 := hA6.otherCells (b' := w.heap.size + 1 + 1 + 1 + 1) (du (dg 10 (o / 2))) 0 (by omega)
              have hR17 := hR16.otherCells (b' := w.heap.size + 1 + 1 + 1 + 1) (du (dg 10 (o / 2))) 0 (by omega)
              have hR27 := hR26.otherCells (b' := w.heap.size + 1 + 1 + 1 + 1) (du (dg 10 (o / 2))) 0 (by omega)
              have hC7 := hC6.otherCells (b' := w.heap.size + 1 + 1 + 1 + 1) (du (dg 10 (o / 2))) 0 (by omega)
              have hQ7 := hQ6.otherCells (b' := w.heap.size + 1 + 1 + 1 + 1) (du (dg 10 (o / 2))) 0 (by omega)
              have hB7 := below_setCells (b := w.heap.size + 1 + 1 + 1 + 1) (du (dg 10 (o / 2))) 0 hB6 (by omega)
              clear hA5 hC5 hR15 hR25 hO5 hQ5 hB5 hb6 hA6 hC6 hR16 hR26 hO6 hQ6 hB6 HHO HT4
              go_wp2_with (first | (refine st_D rfl _ _ rfl (w.heap.size + 1 + 1 + 1 + 1) rfl (o / 2) rfl ?_ ?_; exact HT6.out) | fail)
              exact ⟨⟨k + 1, _, _, _, _, by omega, by go_num, HDN, hA7, hC7, hR17, hR27, hO7, hQ7, hB7⟩, by simp only [intOf]; omega⟩
          · obtain rfl : k = s + 1 := by omega
            obtain ⟨eq, er⟩ := HD.out.done HC0.out
            have HEQ := Lib.hid eq; have HER := Lib.hid er
            clear HD eq er
            go_wp2
            refine region_inv ?_ ?_ (DivEnd w bq q r) ?_ ?_ ?_
            · kernel_rfl
            · kernel_rfl
            · exact ⟨rfl, rfl, rfl, rfl, rfl, rfl, hQ.drew, hA.drew, hR1.drew, hR2.drew, hBe.drew, nofun, nofun⟩
            · intro i o' L a w'' hi hL hd hI K hK
              clear hQ hA hC hR1 hR2 hO hBe
              obtain ⟨hz, hdf, t2, t8, t4, t5, hQ, hA, hR1, hR2, hBe, h0, h1⟩ := hI
              have hlt : i < 4 := (Array.getElem?_eq_some_iff.1 hi).1
              rcases i with _ | _ | _ | _ | i
              · obtain rfl := Option.some.inj (show some _ = some o' from hi)
                rw [if_pos (by rfl)]
                exact wp_load_mid _ _ rfl bq 0 t8 (du (dg 10 q)) _ hQ.range Try.underlying103 rfl (info_du q) (hK _ _ ⟨put_size _ _ _ hz, hdf, put_other _ _ _ _ t2 (by decide), put_other _ _ _ _ t8 (by decide), put_other _ _ _ _ t4 (by decide), put_other _ _ _ _ t5 (by decide), hQ, hA, hR1, hR2, hBe, fun _ => put_same _ _ _ (by omega), fun h => put_other _ _ _ _ (h1 h) (by decide)⟩)
              · obtain rfl := Option.some.inj (show some _ = some o' from hi)
                rw [if_pos (by rfl)]
                exact wp_load_mid _ _ rfl w.heap.size 0 t2 (du (dg 10 r)) _ hA.range Try.underlying103 rfl (info_du r) (hK _ _ ⟨put_size _ _ _ hz, hdf, put_other _ _ _ _ t2 (by decide), put_other _ _ _ _ t8 (by decide), put_other _ _ _ _ t4 (by decide), put_other _ _ _ _ t5 (by decide), hQ, hA, hR1, hR2, hBe, fun h => put_other _ _ _ _ (h0 h) (by decide), fun _ => put_same _ _ _ (by omega)⟩)
              · obtain rfl := Option.some.inj (show some _ = some o' from hi)
                rw [if_pos (by rfl)]
                rw [hL] at hR1
                exact wp_store_mid _ _ _ rfl (w.heap.size + 1 + 1) 0 (ds (dg 10 q)) t4 (h0 (hd ⟨0, .data⟩ (by simp) rfl)) (by rw [ds_size10]; exact hR1.thereZ) (info_ds q) (ds_all _) (hK _ _ ⟨hz, hdf, t2, t8, t4, t5, hQ.otherCells _ _ (by omega), hA.otherCells _ _ (by omega), hR1.setZ q, hR2.otherCells _ _ (by omega), below_setCells _ _ hBe (by omega), h0, h1⟩)
              · obtain rfl := Option.some.inj (show some _ = some o' from hi)
                rw [if_pos (by rfl)]
                rw [hL] at hR2
                exact wp_store_mid _ _ _ rfl (w.heap.size + 1 + 1 + 1) 0 (ds (dg 10 r)) t5 (h1 (hd ⟨1, .data⟩ (by simp) rfl)) (by rw [ds_size10]; exact hR2.thereZ) (info_ds r) (ds_all _) (hK _ _ ⟨hz, hdf, t2, t8, t4, t5, hQ.otherCells _ _ (by omega), hA.otherCells _ _ (by omega), hR1.otherCells _ _ (by omega), hR2.setZ r, below_setCells _ _ hBe (by omega), h0, h1⟩)
              · omega
            · intro L a w'' hall hI
              clear hQ hA hC hR1 hR2 hO hBe
              obtain ⟨hz, hdf, t2, t8, t4, t5, hQ, hA, hR1, hR2, hBe, h0, h1⟩ := hI
              rw [hall 2 (by decide)] at hR1
              rw [hall 3 (by decide)] at hR2
              have hA1 : Blk w'' (w.heap.size + 1 + 1) 103 (du (dg 10 q)) := hR1
              have hA2 : Blk w'' (w.heap.size + 1 + 1 + 1) 103 (du (dg 10 r)) := hR2
              have HR := Lib.hid (res_two q r a.tmps w'' _ _ t4 t5 hA1 hA2)
              have HD := Lib.hid hdf
              clear hz hdf t2 t8 t4 t5 hQ hA hR1 hR2 hA1 hA2 h0 h1 hall
              go_wp2
              exact bodyPost_ret HR.out HD.out ⟨by rw [HEQ.out, HER.out], hBe⟩
      · have hle := of_decide_eq_true HGG.out
        have HUN := Lib.hid (HU.out.step hle)
        have HSC := Lib.hid (fun W => shifted_num c (by omega) (by unfold TOP; omega) W)
        have HSO := Lib.hid (fun W => shifted_num o (by omega) (by unfold TOP; omega) W)
        clear HGG HHT HU hle
        go_wp2_with (first | (refine ld_D rfl _ rfl (w.heap.size + 1) rfl c ?_ ?_; exact hC.range) | fail)
        refine (HSC.out _).mono ?_
        rintro e w1 ⟨rfl, hb1⟩
        have hA1 := hA.keeps hb1; have hC1 := hC.keeps hb1; have hR11 := hR1.keeps hb1; have hR21 := hR2.keeps hb1; have hO1 := hO.keeps hb1
        have hB1 := below_on hBe hBe.size hb1
        have HT := Lib.hid hC1.thereD
        have hC2 := hC1.setD (c + c)
        have hA2 := hA1.otherCells (b' := w.heap.size + 1) (du (dg 10 (c + c))) 0 (by omega)
        have hR12 := hR11.otherCells (b' := w.heap.size + 1) (du (dg 10 (c + c))) 0 (by omega)
        have hR22 := hR21.otherCells (b' := w.heap.size + 1) (du (dg 10 (c + c))) 0 (by omega)
        have hO2 := hO1.otherCells (b' := w.heap.size + 1) (du (dg 10 (c + c))) 0 (by omega)
        have hB2 := below_setCells (b := w.heap.size + 1) (du (dg 10 (c + c))) 0 hB1 (by omega)
        clear hA hC hR1 hR2 hO hBe hb1 hA1 hC1 hR11 hR21 hO1 hB1 HSC
        go_wp2_with (first | (refine st_D rfl _ _ rfl (w.heap.size + 1) rfl (c + c) rfl ?_ ?_; exact HT.out) | (refine ld_D rfl _ rfl (w.heap.size + 1 + 1 + 1 + 1) rfl o ?_ ?_; exact hO2.range) | fail)
        refine (HSO.out _).mono ?_
        rintro e w3 ⟨rfl, hb3⟩
        have hA3 := hA2.keeps hb3; have hC3 := hC2.keeps hb3; have hR13 := hR12.keeps hb3; have hR23 := hR22.keeps hb3; have hO3 := hO2.keeps hb3
        have hB3 := below_on hB2 hB2.size hb3
        have HT3 := Lib.hid hO3.thereD
        have hO4 := hO3.setD (o + o)
        have hA4 := hA3.otherCells (b' := w.heap.size + 1 + 1 + 1 + 1) (du (dg 10 (o + o))) 0 (by omega)
        have hR14 := hR13.otherCells (b' := w.heap.size + 1 + 1 + 1 + 1) (du (dg 10 (o + o))) 0 (by omega)
        have hR24 := hR23.otherCells (b' := w.heap.size + 1 + 1 + 1 + 1) (du (dg 10 (o + o))) 0 (by omega)
        have hC4 := hC3.otherCells (b' := w.heap.size + 1 + 1 + 1 + 1) (du (dg 10 (o + o))) 0 (by omega)
        have hB4 := below_setCells (b := w.heap.size + 1 + 1 + 1 + 1) (du (dg 10 (o + o))) 0 hB3 (by omega)
        clear hA2 hC2 hR12 hR22 hO2 hB2 hb3 hA3 hC3 hR13 hR23 hO3 hB3 HSO HT
        go_wp2_with (first | (refine st_D rfl _ _ rfl (w.heap.size + 1 + 1 + 1 + 1) rfl (o + o) rfl ?_ ?_; exact HT3.out) | fail)
        exact ⟨⟨s + 1, _, _, by go_num, HUN, hA4, hC4, hR14, hR24, hO4, hB4⟩, by simp only [intOf]; omega⟩
end Go.Proofs.Ytikfclioplploaa
