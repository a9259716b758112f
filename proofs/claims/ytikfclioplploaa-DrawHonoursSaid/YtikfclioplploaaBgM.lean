/-
  Lines of a budget: the walk of budget.Move; the example.
-/
import Derived.Test.YtikfclioplploaaBgO
set_option linter.unusedVariables false
set_option linter.unusedSimpArgs false
namespace Go.Proofs.Ytikfclioplploaa
open Go.RowKit Dg

theorem rc_setB : ∀ (M : List Ln) (k : Nat) (t : Ln) (z : Int), M[k]? = some t → (rc lnc M).set (k * 4) (.int .i64 z) = rc lnc (M.set k (z, t.2))
  | [], k, t, z, h => by simp at h
  | u :: M, 0, t, z, h => by
    have e : u = t := by simpa using h
    subst e
    rfl
  | u :: M, k + 1, t, z, h => by
    have := rc_setB M k t z (by simpa using h)
    show (Value.int .i64 u.1 :: Value.int .i64 u.2.1 :: Value.int .i64 u.2.2.1 :: Value.int .i64 u.2.2.2 :: rc lnc M).set ((k + 1) * 4) _ = Value.int .i64 u.1 :: Value.int .i64 u.2.1 :: Value.int .i64 u.2.2.1 :: Value.int .i64 u.2.2.2 :: rc lnc (M.set k (z, t.2))
    rw [show (k + 1) * 4 = k * 4 + 1 + 1 + 1 + 1 by omega, List.set_cons_succ, List.set_cons_succ, List.set_cons_succ, List.set_cons_succ, this]
theorem sl_k2 (w : World) (x y : Int) : Sl (w.alloc (.cells #[.int .i64 x, .int .i64 y] 3)) (some ⟨w.heap.size, 0, none⟩) 2 2 (ic [x, y]) :=
  ⟨rfl, Nat.le_refl _, by simp, fun _ => ⟨_, _, rfl, fun j u hu => by
    rw [Nat.zero_add]
    exact (Blk.new w 3 [.int .i64 x, .int .i64 y]).cell j u hu⟩⟩
theorem thereS_two {L : List Ln} {f t : Int} : thereS L [f, t] = true → thereS L [f] = true ∧ ∃ m : Nat, m < L.length ∧ t = m := by
  intro h
  simp only [thereS, inN, List.all_cons, List.all_nil, Bool.and_true, Bool.and_eq_true, decide_eq_true_eq] at h ⊢
  obtain ⟨h1, ⟨h2, h3⟩, h4, h5⟩ := h
  obtain ⟨m, rfl⟩ := Int.eq_ofNat_of_zero_le h4
  exact ⟨⟨h1, h2, h3⟩, m, by omega, rfl⟩
/-- What Cut says when it does. -/
theorem cutS_ok {L : List Ln} {f a : Int} (h : (cutS L f a).2 = 0) : 1 ≤ a ∧ a ≤ 1000000000000 ∧ rightL L = true ∧ ∃ n : Nat, n < L.length ∧ f = n ∧ okLn ((atL L f).1 - a, (atL L f).2) = true ∧ (cutS L f a).1 = L.set n ((atL L f).1 - a, (atL L f).2) := by
  unfold cutS at h ⊢
  split at h
  · rename_i h1
    rw [if_pos h1]
    obtain ⟨hr, n, hn, rfl⟩ := thereS_one h1
    split at h
    · rename_i h2
      rw [if_pos h2]
      unfold turnS at h ⊢
      split at h
      · rename_i h3
        rw [if_pos h3]
        exact ⟨h2.1, h2.2, hr, n, hn, rfl, h3, by rw [Int.toNat_natCast]⟩
      · simp at h
    · simp at h
  · simp at h
def moveS (L : List Ln) (f t a : Int) : List Ln × Int :=
  if thereS L [f, t] = true then
    if (cutS L f a).2 = 142 then ([], 142) else if f = t then ([], 141) else if (cutS L f a).2 = 0 then
      (if (atL (cutS L f a).1 t).1 + a ≤ 1000000000000 then ((cutS L f a).1.set t.toNat ((atL (cutS L f a).1 t).1 + a, (atL (cutS L f a).1 t).2), 0) else ([], 142))
    else ([], (cutS L f a).2)
  else ([], 141)
end Go.Proofs.Ytikfclioplploaa
