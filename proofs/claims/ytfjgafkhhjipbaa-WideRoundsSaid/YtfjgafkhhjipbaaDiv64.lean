/-
  The walk of math/bits.Div64.
-/
import Derived.Test.YtfjgafkhhjipbaaWideQ
import Derived.Test.YtfjgafkhhjipbaaDivP
import Derived.Shelf.Strconv.Itoa0
set_option linter.unusedVariables false
set_option linter.unusedSimpArgs false
namespace Go.Proofs.Ytfjgafkhhjipbaa
open Go.RowKit Dg Go.Shelf

def renL : Go.Shelf.Ren := { f := fun k => if k = 129 then 48 else 0, t := fun k => if k = 3 then 3 else if k = 4 then 4 else if k = 5 then 5 else if k = 9 then 9 else if k = 46 then 72 else 35, g := fun k => k }
theorem layL : Lays.n129 Try.prog renL where
  mixed := by kernel_rfl
  f129 := by kernel_rfl
  t3 := by kernel_rfl
  a3 := fun w => by rfl
  z3 := fun w => by rfl
  v3 := fun w => by rfl
  t4 := by kernel_rfl
  a4 := fun w => by rfl
  z4 := fun w => by rfl
  v4 := fun w => by rfl
  t5 := by kernel_rfl
  a5 := fun w => by rfl
  z5 := fun w => by rfl
  v5 := fun w => by rfl
  t9 := by kernel_rfl
  a9 := fun w => by rfl
  z9 := fun w => by rfl
  v9 := fun w => by rfl
  t46 := by kernel_rfl
  a46 := fun w => by rfl
  z46 := fun w => by rfl
  v46 := fun w => by rfl
  t53 := by kernel_rfl
  a53 := fun w => by rfl
  z53 := fun w => by rfl
  v53 := fun w => by rfl
theorem lz64_any (y : Nat) (hy : y < 18446744073709551616) (s : Nat) (hs : 64 - Lib.bitLen y = s) (hb : Lib.bitLen y ≤ 64) (w : World) : Calls Try.prog 46 #[.int .u64 y] w fun e w' => e = .returned (.int .i64 s) ∧ w' = w := by
  have h := fun W => Any.bits_Len64 layL (y : Int) W (by omega) (by omega)
  rw [Int.toNat_natCast] at h
  obtain ⟨b, hb'⟩ : ∃ b, Lib.bitLen y = b := ⟨_, rfl⟩
  rw [hb'] at h hs hb
  have H : Hid (∀ W, Calls Try.prog 48 #[.int .u64 y] W fun e w' => e = .returned (.int .i64 b) ∧ w' = W) := h
  have HS : Hid ((64 : Int) - b = s) := by show _ = _; omega
  clear hb' h hs
  go_enter Try.func46, Try.ntmps46
  go_wp2_with fail
  refine (H.out _).mono ?_
  rintro e w1 ⟨rfl, rfl⟩
  go_wp2
  go_ret
  exact ⟨ret_int (by exact HS.out), rfl⟩
theorem ret_two64 {a b c d : Int} (h : a = b) (k : c = d) : Ending.returned (.tuple #[.int .u64 a, .int .u64 c]) = .returned (.tuple #[.int .u64 b, .int .u64 d]) := by rw [h, k]
set_option maxRecDepth 100000 in
set_option maxHeartbeats 6400000 in
theorem div64_core (h l c : Int) (s : Nat) (Y Y1 Y0 HS LS U T U1 U0 QT U21 QT2 rr re Q1 R1 QY1 Q2 R2 QY2 : Int) (hh : 0 < h) (hhc : h < c) (hl0 : 0 ≤ l) (hl : l < 18446744073709551616) (hc : c < 9223372036854775808) (hs0 : 1 ≤ s) (hs1 : s ≤ 63)
    (HLZ : Hid (∀ W, Calls Try.prog 46 #[.int .u64 c] W fun e w' => e = .returned (.int .i64 s) ∧ w' = W))
    (e1 : IntKind.u64.wrap (c * 2 ^ s) = Y) (e2 : Y / 4294967296 = Y1) (e3 : bits .and .u64 Y 4294967295 = Y0)
    (e4 : IntKind.u64.wrap (h * 2 ^ s) = HS) (e5 : l / 2 ^ (64 - s) = LS) (e6 : bits .or .u64 HS LS = U)
    (e7 : IntKind.u64.wrap (l * 2 ^ s) = T) (e8 : T / 4294967296 = U1) (e9 : bits .and .u64 T 4294967295 = U0)
    (hY1 : 2147483648 ≤ Y1) (hY1' : Y1 < 4294967296) (nY0 : 0 ≤ Y0) (hY0 : Y0 < 4294967296) (HY : Hid (Y = Y1 * 4294967296 + Y0)) (nY : 0 < Y) (hY : Y < 18446744073709551616) (nU : 0 ≤ U) (hU : U < Y) (nT : 0 ≤ T) (nU1 : 0 ≤ U1) (hU1 : U1 < 4294967296) (nU0 : 0 ≤ U0) (hU0 : U0 < 4294967296)
    (nQT : 0 ≤ QT) (HQT : Hid ((U.toNat * 4294967296 + U1.toNat) / (Y1.toNat * 4294967296 + Y0.toNat) = QT.toNat)) (nU21 : 0 ≤ U21) (hU21 : U21 < Y)
    (nQT2 : 0 ≤ QT2) (HQT2 : Hid ((U21.toNat * 4294967296 + U0.toNat) / (Y1.toNat * 4294967296 + Y0.toNat) = QT2.toNat))
    (HdQ1 : Hid (U / Y1 = Q1)) (f2' : IntKind.u64.wrap (U / Y1 * Y1) = QY1) (f3 : IntKind.u64.wrap (U - QY1) = R1) (nQ1 : 0 ≤ Q1) (nR1 : 0 ≤ R1) (HRQ1 : Hid (R1 < 4294967296)) (HGQ1 : Hid (QG Y1.toNat Y0.toNat U.toNat U1.toNat Q1.toNat R1.toNat))
    (f4 : IntKind.u64.wrap (IntKind.u64.wrap (IntKind.u64.wrap (U * 4294967296) + U1) - IntKind.u64.wrap (QT * Y)) = U21)
    (HdQ2 : Hid (U21 / Y1 = Q2)) (f6' : IntKind.u64.wrap (U21 / Y1 * Y1) = QY2) (f7 : IntKind.u64.wrap (U21 - QY2) = R2) (nQ2 : 0 ≤ Q2) (nR2 : 0 ≤ R2) (HRQ2 : Hid (R2 < 4294967296)) (HGQ2 : Hid (QG Y1.toNat Y0.toNat U21.toNat U0.toNat Q2.toNat R2.toNat))
    (f8 : IntKind.u64.wrap (IntKind.u64.wrap (IntKind.u64.wrap (U21 * 4294967296) + U0) - IntKind.u64.wrap (QT2 * Y)) = rr) (nrr : 0 ≤ rr) (f9 : rr / 2 ^ s = re) (qo : Int) (HQO : Hid (QT * 4294967296 + QT2 = qo ∧ qo < 18446744073709551616)) (w : World) :
    Calls Try.prog 40 #[.int .u64 h, .int .u64 l, .int .u64 c] w fun e w' => e = .returned (.tuple #[.int .u64 qo, .int .u64 re]) ∧ w' = w := by
  go_enter Try.func40, Try.ntmps40
  go_wp2_with fail
  refine (HLZ.out _).mono ?_
  rintro e w1 ⟨rfl, rfl⟩
  go_wp2_with fail
  go_loop [15, 16] (fun x y => ∃ a b : Int, x = .int .u64 a ∧ y = .int .u64 b ∧ 0 ≤ a ∧ a ≤ 4294967297 ∧ 0 ≤ b ∧ b < 4294967296 ∧ Hid (QG Y1.toNat Y0.toNat U.toNat U1.toNat a.toNat b.toNat)) (fun a _ => (intOf a).toNat)
  case atStart => exact ⟨Q1, R1, congrArg (Value.int IntKind.u64) HdQ1.out, rfl, nQ1, by have := HGQ1.out.le; omega, nR1, HRQ1.out, HGQ1.out⟩
  case round =>
    obtain ⟨a, b, rfl, rfl, a0, a1, b0, b1, HQ⟩ := hrel
    have hA0 := HQ.out.prod (by omega)
    have hAn : ((a.toNat * Y0.toNat : Nat) : Int) = a * Y0 := by rw [Int.natCast_mul, Int.toNat_of_nonneg a0, Int.toNat_of_nonneg nY0]
    have A0 : 0 ≤ a * Y0 := Int.mul_nonneg a0 nY0
    have A1 : a * Y0 < 18446744073709551616 := by omega
    obtain ⟨A, hA⟩ : ∃ A, a * Y0 = A := ⟨_, rfl⟩
    rw [hA] at hAn A0 A1
    have HAn := Lib.hid hAn
    clear hAn hA0
    have HEND : Hid (∀ x : Int, 0 ≤ x → x.toNat = (U.toNat * 4294967296 + U1.toNat) / (Y1.toNat * 4294967296 + Y0.toNat) → x = QT) := by
      show ∀ _, _
      intro x hx h; rw [HQT.out] at h; omega
    have hcases : (4294967296 ≤ a ∨ (a < 4294967296 ∧ 4294967296 * b + U1 < A)) ∨ (a < 4294967296 ∧ A ≤ 4294967296 * b + U1) := by omega
    rcases hcases with h1 | ⟨h1, h2⟩
    · have hd := HQ.out.down (by omega) (by omega) (by have := HY.out; omega) (h1.imp (fun h => by omega) (fun h => by have := HAn.out; omega))
      obtain ⟨hq1, hd⟩ := hd
      rw [show a.toNat - 1 = (a - 1).toNat from by omega, show b.toNat + Y1.toNat = (b + Y1).toNat from by omega] at hd
      have HD := Lib.hid hd
      have a2 : 1 ≤ a := by omega
      clear hd hq1 HQ
      by_cases hr : 4294967296 ≤ b + Y1
      · have hpq : a - 1 = QT := HEND.out (a - 1) (by omega) (HD.out.far (by omega) (by omega) (by omega) (by omega))
        clear HD HEND HAn
        rcases h1 with h1 | ⟨h1, h2⟩
        all_goals
          go_wp2_with fail
          go_loop [18, 16] (fun x y => ∃ a b : Int, x = .int .u64 a ∧ y = .int .u64 b ∧ 0 ≤ a ∧ a ≤ 4294967297 ∧ 0 ≤ b ∧ b < 4294967296 ∧ Hid (QG Y1.toNat Y0.toNat U21.toNat U0.toNat a.toNat b.toNat)) (fun a _ => (intOf a).toNat)
          case atStart => exact ⟨Q2, R2, congrArg (Value.int IntKind.u64) HdQ2.out, rfl, nQ2, by have := HGQ2.out.le; omega, nR2, HRQ2.out, HGQ2.out⟩
          case round =>
            obtain ⟨a, b, rfl, rfl, a0, a1, b0, b1, HQ⟩ := hrel
            have hA0 := HQ.out.prod (by omega)
            have hAn : ((a.toNat * Y0.toNat : Nat) : Int) = a * Y0 := by rw [Int.natCast_mul, Int.toNat_of_nonneg a0, Int.toNat_of_nonneg nY0]
            have A0 : 0 ≤ a * Y0 := Int.mul_nonneg a0 nY0
            have A1 : a * Y0 < 18446744073709551616 := by omega
            obtain ⟨A, hA⟩ : ∃ A, a * Y0 = A := ⟨_, rfl⟩
            rw [hA] at hAn A0 A1
            have HAn := Lib.hid hAn
            clear hAn hA0
            have HEND : Hid (∀ x : Int, 0 ≤ x → x.toNat = (U21.toNat * 4294967296 + U0.toNat) / (Y1.toNat * 4294967296 + Y0.toNat) → x = QT2) := by
              show ∀ _, _
              intro x hx h; rw [HQT2.out] at h; omega
            have hcases : (4294967296 ≤ a ∨ (a < 4294967296 ∧ 4294967296 * b + U0 < A)) ∨ (a < 4294967296 ∧ A ≤ 4294967296 * b + U0) := by omega
            rcases hcases with h1 | ⟨h1, h2⟩
            · have hd := HQ.out.down (by omega) (by omega) (by have := HY.out; omega) (h1.imp (fun h => by omega) (fun h => by have := HAn.out; omega))
              obtain ⟨hq1, hd⟩ := hd
              rw [show a.toNat - 1 = (a - 1).toNat from by omega, show b.toNat + Y1.toNat = (b + Y1).toNat from by omega] at hd
              have HD := Lib.hid hd
              have a2 : 1 ≤ a := by omega
              clear hd hq1 HQ
              by_cases hr : 4294967296 ≤ b + Y1
              · have hpq : a - 1 = QT2 := HEND.out (a - 1) (by omega) (HD.out.far (by omega) (by omega) (by omega) (by omega))
                clear HD HEND HAn
                rcases h1 with h1 | ⟨h1, h2⟩
                all_goals
                  go_wp2_with fail
                  go_ret2
                  exact ⟨ret_two64 (by have h1 := HQO.out.1; have h2 := HQO.out.2; first | exact h1 | (simp only [IntKind.wrap_u64]; omega)) rfl, rfl⟩
              · clear HEND HAn
                rcases h1 with h1 | ⟨h1, h2⟩
                all_goals
                  go_wp2
                  go_round
                  case rel => exact ⟨a - 1, b + Y1, rfl, rfl, by omega, by omega, by omega, by omega, HD⟩
                  case measure => simp [intOf]; omega
            · have hpq : a = QT2 := HEND.out a a0 (HQ.out.fit (by omega) (by have := HAn.out; omega))
              subst hpq
              clear HQ HEND HAn
              go_wp2_with fail
              go_ret2
              exact ⟨ret_two64 (by have h1 := HQO.out.1; have h2 := HQO.out.2; first | exact h1 | (simp only [IntKind.wrap_u64]; omega)) rfl, rfl⟩
      · clear HEND HAn
        rcases h1 with h1 | ⟨h1, h2⟩
        all_goals
          go_wp2
          go_round
          case rel => exact ⟨a - 1, b + Y1, rfl, rfl, by omega, by omega, by omega, by omega, HD⟩
          case measure => simp [intOf]; omega
    · have hpq : a = QT := HEND.out a a0 (HQ.out.fit (by omega) (by have := HAn.out; omega))
      subst hpq
      clear HQ HEND HAn
      go_wp2_with fail
      go_loop [18, 16] (fun x y => ∃ a b : Int, x = .int .u64 a ∧ y = .int .u64 b ∧ 0 ≤ a ∧ a ≤ 4294967297 ∧ 0 ≤ b ∧ b < 4294967296 ∧ Hid (QG Y1.toNat Y0.toNat U21.toNat U0.toNat a.toNat b.toNat)) (fun a _ => (intOf a).toNat)
      case atStart => exact ⟨Q2, R2, congrArg (Value.int IntKind.u64) HdQ2.out, rfl, nQ2, by have := HGQ2.out.le; omega, nR2, HRQ2.out, HGQ2.out⟩
      case round =>
        obtain ⟨a, b, rfl, rfl, a0, a1, b0, b1, HQ⟩ := hrel
        have hA0 := HQ.out.prod (by omega)
        have hAn : ((a.toNat * Y0.toNat : Nat) : Int) = a * Y0 := by rw [Int.natCast_mul, Int.toNat_of_nonneg a0, Int.toNat_of_nonneg nY0]
        have A0 : 0 ≤ a * Y0 := Int.mul_nonneg a0 nY0
        have A1 : a * Y0 < 18446744073709551616 := by omega
        obtain ⟨A, hA⟩ : ∃ A, a * Y0 = A := ⟨_, rfl⟩
        rw [hA] at hAn A0 A1
        have HAn := Lib.hid hAn
        clear hAn hA0
        have HEND : Hid (∀ x : Int, 0 ≤ x → x.toNat = (U21.toNat * 4294967296 + U0.toNat) / (Y1.toNat * 4294967296 + Y0.toNat) → x = QT2) := by
          show ∀ _, _
          intro x hx h; rw [HQT2.out] at h; omega
        have hcases : (4294967296 ≤ a ∨ (a < 4294967296 ∧ 4294967296 * b + U0 < A)) ∨ (a < 4294967296 ∧ A ≤ 4294967296 * b + U0) := by omega
        rcases hcases with h1 | ⟨h1, h2⟩
        · have hd := HQ.out.down (by omega) (by omega) (by have := HY.out; omega) (h1.imp (fun h => by omega) (fun h => by have := HAn.out; omega))
          obtain ⟨hq1, hd⟩ := hd
          rw [show a.toNat - 1 = (a - 1).toNat from by omega, show b.toNat + Y1.toNat = (b + Y1).toNat from by omega] at hd
          have HD := Lib.hid hd
          have a2 : 1 ≤ a := by omega
          clear hd hq1 HQ
          by_cases hr : 4294967296 ≤ b + Y1
          · have hpq : a - 1 = QT2 := HEND.out (a - 1) (by omega) (HD.out.far (by omega) (by omega) (by omega) (by omega))
            clear HD HEND HAn
            rcases h1 with h1 | ⟨h1, h2⟩
            all_goals
              go_wp2_with fail
              go_ret2
              exact ⟨ret_two64 (by have h1 := HQO.out.1; have h2 := HQO.out.2; first | exact h1 | (simp only [IntKind.wrap_u64]; omega)) rfl, rfl⟩
          · clear HEND HAn
            rcases h1 with h1 | ⟨h1, h2⟩
            all_goals
              go_wp2
              go_round
              case rel => exact ⟨a - 1, b + Y1, rfl, rfl, by omega, by omega, by omega, by omega, HD⟩
              case measure => simp [intOf]; omega
        · have hpq : a = QT2 := HEND.out a a0 (HQ.out.fit (by omega) (by have := HAn.out; omega))
          subst hpq
          clear HQ HEND HAn
          go_wp2_with fail
          go_ret2
          exact ⟨ret_two64 (by have h1 := HQO.out.1; have h2 := HQO.out.2; first | exact h1 | (simp only [IntKind.wrap_u64]; omega)) rfl, rfl⟩
end Go.Proofs.Ytfjgafkhhjipbaa
