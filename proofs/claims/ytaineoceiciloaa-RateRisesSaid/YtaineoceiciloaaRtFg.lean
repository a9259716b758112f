/-
  Binary digits, plain: a hundred times them, carried.
-/
import Derived.Test.YtaineoceiciloaaRtFc
import Derived.Test.YtaineoceiciloaaSlI
set_option linter.unusedVariables false
set_option linter.unusedSimpArgs false
namespace Go.Proofs.Ytaineoceiciloaa

/-- Binary digits as one number, the highest first. -/
def dv : List Int → Int
  | [] => 0
  | d :: l => d * 2 ^ l.length + dv l
theorem dv_snoc (L : List Int) (d : Int) : dv (L ++ [d]) = 2 * dv L + d := by
  induction L with
  | nil => simp [dv]
  | cons x l ih =>
    simp only [List.cons_append, dv, ih, List.length_append, List.length_cons, List.length_nil]
    rw [Int.pow_succ, Int.mul_add, ← Int.mul_assoc, Int.mul_comm 2 (x * 2 ^ l.length)]
    omega
def Bits (L : List Int) : Prop := ∀ d ∈ L, d = 0 ∨ d = 1
theorem Bits.snoc {L : List Int} (h : Bits L) {d : Int} (hd : d = 0 ∨ d = 1) : Bits (L ++ [d]) := by
  intro x hx
  rcases List.mem_append.1 hx with h1 | h1
  · exact h x h1
  · simp at h1; subst h1; exact hd
theorem Bits.cons {L : List Int} (h : Bits L) {d : Int} (hd : d = 0 ∨ d = 1) : Bits (d :: L) := by
  intro x hx
  rcases List.mem_cons.1 hx with h1 | h1
  · subst h1; exact hd
  · exact h x h1
theorem two_pos (n : Nat) : 0 < (2 : Int) ^ n := Int.pow_pos (by decide)
theorem dv_range {L : List Int} (h : Bits L) : 0 ≤ dv L ∧ dv L < 2 ^ L.length := by
  induction L with
  | nil => simp [dv]
  | cons x l ih =>
    obtain ⟨h1, h2⟩ := ih (fun d hd => h d (by simp [hd]))
    have hp := two_pos l.length
    simp only [dv, List.length_cons, Int.pow_succ]
    generalize (2 : Int) ^ l.length = S at *
    generalize dv l = V at *
    rcases h x (by simp) with rfl | rfl <;> omega
/-- Any one of them. -/
def any1 (L : List Int) : Bool := L.any (fun d => decide (d = 1))
theorem any1_pos {L : List Int} (h : Bits L) : any1 L = true ↔ 0 < dv L := by
  induction L with
  | nil => simp [any1, dv]
  | cons x l ih =>
    have hb : Bits l := fun d hd => h d (by simp [hd])
    have h2 := ih hb
    obtain ⟨r1, r2⟩ := dv_range hb
    have hp := two_pos l.length
    have e : any1 (x :: l) = (decide (x = 1) || any1 l) := rfl
    rw [e]
    simp only [dv]
    generalize (2 : Int) ^ l.length = S at *
    generalize dv l = V at *
    rcases h x (by simp) with rfl | rfl
    · simp [h2]
    · simp; omega
/-- What stands when some digits have come out. -/
def Dg (P0 : Nat) (L : List Int) (P : Nat) : Prop := Bits L ∧ (P0 : Int) * 2 ^ L.length = dv L * ((2 ^ T74 : Nat) : Int) + P ∧ P < 2 ^ T74 ∧ Rep P ∧ ∃ q : Nat, P = q * 2 ^ L.length
theorem Dg.zero {P0 : Nat} (h : P0 < 2 ^ T74) (hr : Rep P0) : Dg P0 [] P0 := ⟨fun _ h => by simp at h, by simp [dv], h, hr, P0, by simp⟩
theorem Dg.lt {P0 : Nat} {L : List Int} {P : Nat} (h : Dg P0 L P) (hP : P ≠ 0) : L.length < 1074 := by
  obtain ⟨_, _, h1, _, q, hq⟩ := h
  have hq0 : q ≠ 0 := by rintro rfl; simp at hq; exact hP hq
  have h2 : 2 ^ L.length ≤ P := by rw [hq]; exact Nat.le_mul_of_pos_left _ (Nat.pos_of_ne_zero hq0)
  have h3 : 2 ^ L.length < 2 ^ T74 := Nat.lt_of_le_of_lt h2 h1
  have := (Nat.pow_lt_pow_iff_right (by decide : 1 < 2)).1 h3
  rw [t74] at this; exact this
theorem Dg.step0 {P0 : Nat} {L : List Int} {P : Nat} (h : Dg P0 L P) (hl : 2 * P < 2 ^ T74) : Dg P0 (L ++ [0]) (2 * P) := by
  obtain ⟨hb, he, h1, hr, q, hq⟩ := h
  refine ⟨hb.snoc (.inl rfl), ?_, hl, rep_dbl hr, q, ?_⟩
  · rw [dv_snoc, List.length_append, List.length_singleton, Int.pow_succ, ← Int.mul_assoc, he]
    generalize ((2 ^ T74 : Nat) : Int) = T
    rw [Int.add_mul, Int.add_zero, Int.mul_comm 2 (dv L), Int.mul_assoc, Int.mul_comm T 2, ← Int.mul_assoc]
    omega
  · rw [List.length_append, List.length_singleton, Nat.pow_succ, ← Nat.mul_assoc, ← hq]; omega
theorem Dg.step1 {P0 : Nat} {L : List Int} {P : Nat} (h : Dg P0 L P) (hl : 2 ^ T74 ≤ 2 * P) : Dg P0 (L ++ [1]) (2 * P - 2 ^ T74) ∧ Rep (2 * P - 2 ^ T74) := by
  have hP : P ≠ 0 := by
    rintro rfl
    have := Nat.two_pow_pos T74
    omega
  have hlt := h.lt hP
  obtain ⟨hb, he, h1, hr, q, hq⟩ := h
  have hrep : Rep (2 * P - 2 ^ T74) := by
    have h3 := rep_mod (rep_dbl hr) T74
    have e : 2 * P % 2 ^ T74 = 2 * P - 2 ^ T74 := by
      rw [Nat.mod_eq_sub_mod hl, Nat.mod_eq_of_lt (by omega)]
    rw [e] at h3; exact h3
  refine ⟨⟨hb.snoc (.inr rfl), ?_, by omega, hrep, q - 2 ^ (T74 - (L.length + 1)), ?_⟩, hrep⟩
  · rw [dv_snoc, List.length_append, List.length_singleton, Int.pow_succ, ← Int.mul_assoc, he]
    rw [Int.natCast_sub hl, Int.natCast_mul]
    generalize ((2 ^ T74 : Nat) : Int) = T
    rw [Int.add_mul, Int.add_mul, Int.mul_comm 2 (dv L), Int.mul_assoc, Int.mul_comm T 2, ← Int.mul_assoc]
    simp
    omega
  · have e : (2 : Nat) ^ T74 = 2 ^ (T74 - (L.length + 1)) * 2 ^ (L.length + 1) := by rw [← Nat.pow_add, Nat.sub_add_cancel (by rw [t74]; omega)]
    rw [List.length_append, List.length_singleton, Nat.sub_mul, ← e, Nat.pow_succ, ← Nat.mul_assoc, ← hq]; omega
/-- What stands when k digits, from the last on, have been taken a hundred times. -/
def Cy (L : List Int) (k : Nat) (c : Int) (S : List Int) : Prop := Bits S ∧ S.length = k ∧ 0 ≤ c ∧ c ≤ 99 ∧ 100 * dv (L.drop (L.length - k)) = c * 2 ^ k + dv S
theorem Cy.zero (L : List Int) : Cy L 0 0 [] := ⟨fun _ h => by simp at h, rfl, by decide, by decide, by simp [dv]⟩
theorem Cy.step {L : List Int} (hL : Bits L) {k : Nat} {c : Int} {S : List Int} (h : Cy L k c S) {d : Int} (hd : L[L.length - (k + 1)]? = some d) (hk : k < L.length) : (d = 0 ∨ d = 1) ∧ 0 ≤ 100 * d + c ∧ 100 * d + c ≤ 199 ∧ Cy L (k + 1) ((100 * d + c) / 2) ((100 * d + c) % 2 :: S) := by
  obtain ⟨hb, hl, h0, h1, he⟩ := h
  have hd01 := hL d (List.mem_of_getElem? hd)
  refine ⟨hd01, by omega, by omega, hb.cons (by omega), by simp [hl], by omega, by omega, ?_⟩
  obtain ⟨hj, hd'⟩ := List.getElem?_eq_some_iff.1 hd
  have e1 : L.drop (L.length - (k + 1)) = d :: L.drop (L.length - k) := by
    rw [List.drop_eq_getElem_cons hj, hd', show L.length - (k + 1) + 1 = L.length - k by omega]
  rw [e1]
  simp only [dv, hl, List.length_drop]
  rw [show L.length - (L.length - k) = k by omega, Int.pow_succ, Int.mul_add, he]
  have hp := two_pos k
  generalize (2 : Int) ^ k = S2 at *
  generalize hn : 100 * d + c = n at *
  have hn2 : n = 2 * (n / 2) + n % 2 := by omega
  have e2 : 100 * (d * S2) + c * S2 = n * S2 := by rw [← hn, Int.add_mul, Int.mul_assoc]
  have e3 : n * S2 = n / 2 * (S2 * 2) + n % 2 * S2 := by
    conv => lhs; rw [hn2]
    rw [Int.add_mul, Int.mul_comm 2 (n / 2), Int.mul_assoc, Int.mul_comm 2 S2]
  omega
/-- The answer by digits. -/
def refP (A : Int) (O : List Int) : Int := if O = [] ∨ O.head? = some 0 then A else if any1 (O.drop 1) then A + 1 else A + A % 2
theorem cmp_mul {a b s : Nat} (hs : 0 < s) : (a * s < b * s ↔ a < b) := ⟨fun h => Nat.lt_of_mul_lt_mul_right h, fun h => Nat.mul_lt_mul_of_pos_right h hs⟩
theorem digits_alg {W C D P N T M : Int} (hN : P * M = N * T) (hc : 100 * N = C * M + D) : 100 * (W * T + P) * M = ((100 * W + C) * M + D) * T := by
  have e1 : 100 * (W * T + P) * M = 100 * (W * T) * M + 100 * (P * M) := by rw [Int.mul_add, Int.add_mul, Int.mul_assoc 100 P]
  have e2 : 100 * (N * T) = (C * M + D) * T := by rw [← Int.mul_assoc, hc]
  have e3 : 100 * (W * T) * M = 100 * W * M * T := by rw [← Int.mul_assoc 100 W, Int.mul_assoc, Int.mul_assoc _ M, Int.mul_comm T M]
  rw [e1, hN, e2, e3, Int.add_mul (100 * W), Int.add_mul _ D, Int.add_mul _ D, Int.add_mul _ (C * M), ← Int.add_assoc]
theorem cast_two (n : Nat) : (2 : Int) ^ n = ((2 ^ n : Nat) : Int) := (Int.natCast_pow 2 n).symm
theorem digits_nat {W C D P T M : Nat} {N : Int} (hN : (P : Int) * (M : Int) = N * (T : Int)) (hc : 100 * N = (C : Int) * (M : Int) + (D : Int)) : 100 * (W * T + P) * M = ((100 * W + C) * M + D) * T := by
  have := digits_alg (W := W) hN hc
  exact_mod_cast this
theorem refP_rhe {V W P0 m : Nat} {N c : Int} {O : List Int} (hV : V = W * 2 ^ T74 + P0) (hN : (P0 : Int) * 2 ^ m = N * ((2 ^ T74 : Nat) : Int)) (hc : 100 * N = c * 2 ^ m + dv O) (c0 : 0 ≤ c) (hO : Bits O) (hm : O.length = m) :
    refP (100 * W + c) O = (rhe (100 * V) T74 : Nat) := by
  obtain ⟨r0, r1⟩ := dv_range hO
  obtain ⟨C, rfl⟩ : ∃ C : Nat, c = C := ⟨c.toNat, by omega⟩
  obtain ⟨D, hD⟩ : ∃ D : Nat, dv O = D := ⟨(dv O).toNat, by omega⟩
  rw [hm] at r1
  have hpm := two_pos m
  have hpN := Nat.two_pow_pos m
  have hT : (2 : Nat) ^ T74 = 2 * 2 ^ (T74 - 1) := by rw [t74]; decide +kernel
  have hTp := Nat.two_pow_pos T74
  -- the whole
  have hDlt : D < 2 ^ m := by
    rw [hD] at r1
    have : ((D : Nat) : Int) < ((2 ^ m : Nat) : Int) := by rw [Int.natCast_pow]; exact r1
    omega
  have hmain : 100 * V * 2 ^ m = ((100 * W + C) * 2 ^ m + D) * 2 ^ T74 := by
    rw [hV]
    rw [hD] at hc
    rw [cast_two] at hN hc
    exact digits_nat hN hc
  obtain ⟨T, hTT⟩ : ∃ T, (2 : Nat) ^ T74 = T := ⟨_, rfl⟩
  obtain ⟨H, hH⟩ : ∃ H, (2 : Nat) ^ (T74 - 1) = H := ⟨_, rfl⟩
  obtain ⟨M, hM⟩ : ∃ M, (2 : Nat) ^ m = M := ⟨_, rfl⟩
  rw [hH, hTT] at hT
  rw [hTT] at hTp hmain
  rw [hM] at hmain hDlt hpN
  have hq : 100 * V / T = 100 * W + C := by
    have e : 100 * V / T = 100 * V * M / (T * M) := (Nat.mul_div_mul_right _ _ hpN).symm
    rw [e, hmain, Nat.mul_comm T M, Nat.mul_div_mul_right _ _ hTp, Nat.mul_comm _ M, Nat.mul_add_div hpN, Nat.div_eq_of_lt hDlt, Nat.add_zero]
  have hr : 100 * V % T * M = D * T := by
    have e : 100 * V % T * M = 100 * V * M % (T * M) := (Nat.mul_mod_mul_right _ _ _).symm
    rw [e, hmain, Nat.mul_comm T M, Nat.mul_mod_mul_right, Nat.mul_comm _ M, Nat.mul_add_mod, Nat.mod_eq_of_lt hDlt]
  unfold rhe
  rw [hH, hTT, hq]
  generalize 100 * V % T = r at hr
  generalize hA : 100 * W + C = A
  have hA' : (100 * (W : Int) + (C : Int)) = (A : Int) := by omega
  rw [hA']
  have hlt : H < r ↔ M < 2 * D := by
    rw [← cmp_mul (s := 2 * M) (by omega), show r * (2 * M) = 2 * D * T by rw [Nat.mul_comm r, Nat.mul_assoc, Nat.mul_comm M, hr, Nat.mul_assoc], show H * (2 * M) = M * T by rw [hT, Nat.mul_comm H, Nat.mul_comm 2 M, Nat.mul_assoc]]
    exact cmp_mul hTp
  have hgt : r < H ↔ 2 * D < M := by
    rw [← cmp_mul (s := 2 * M) (by omega), show r * (2 * M) = 2 * D * T by rw [Nat.mul_comm r, Nat.mul_assoc, Nat.mul_comm M, hr, Nat.mul_assoc], show H * (2 * M) = M * T by rw [hT, Nat.mul_comm H, Nat.mul_comm 2 M, Nat.mul_assoc]]
    exact cmp_mul hTp
  unfold refP
  cases O with
  | nil =>
    have hD0 : D = 0 := by simp [dv] at hD; omega
    rw [if_pos (.inl rfl), if_neg]
    omega
  | cons o l =>
    have hbl : Bits l := fun d hd => hO d (by simp [hd])
    have ha := any1_pos hbl
    obtain ⟨q0, q1⟩ := dv_range hbl
    obtain ⟨L2, hL2⟩ : ∃ L2 : Nat, dv l = L2 := ⟨(dv l).toNat, by omega⟩
    obtain ⟨K, hK⟩ : ∃ K, (2 : Nat) ^ l.length = K := ⟨_, rfl⟩
    have hMK : M = 2 * K := by rw [← hM, ← hm, List.length_cons, Nat.pow_succ, hK, Nat.mul_comm]
    have hKi : (2 : Int) ^ l.length = (K : Int) := by rw [← hK, Int.natCast_pow]; rfl
    have hDe : (D : Int) = o * K + L2 := by rw [← hD]; simp only [dv]; rw [hKi, hL2]
    rw [hKi, hL2] at q1
    rw [hL2] at ha
    have ho := hO o (by simp)
    rcases ho with rfl | rfl
    · rw [if_pos (.inr rfl), if_neg]
      omega
    · rw [if_neg (by simp), List.drop_one, List.tail_cons]
      by_cases hl : any1 l = true
      · have := ha.1 hl
        rw [if_pos hl, if_pos (by omega)]
        omega
      · rw [if_neg hl]
        have h0 : L2 = 0 := by
          have : ¬ (0 : Int) < (L2 : Int) := fun h => hl (ha.2 h)
          omega
        by_cases h2 : A % 2 = 1
        · rw [if_pos (by omega)]; omega
        · rw [if_neg (by omega)]; omega
end Go.Proofs.Ytaineoceiciloaa
