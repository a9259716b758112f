/-
  Commands, plain: what is read is what is written; command.Asks.
-/
import Derived.Test.YtdkcccigmejikaaCmW
import Derived.Test.YtdkcccigmejikaaCmM
set_option linter.unusedVariables false
set_option linter.unusedSimpArgs false
set_option maxRecDepth 20000
namespace Go.Proofs.Ytdkcccigmejikaa
open Go.RowKit

theorem in64_0 : in64 0 := by unfold in64; omega
theorem nth_in {L : List Int} (h : ∀ x ∈ L, in64 x) (k : Nat) : in64 (nth L k) := by
  unfold nth
  cases e : L[k]? with
  | none => exact in64_0
  | some x => exact h x (List.mem_of_getElem? e)
theorem five_of (l : List Int) (h : l.length = 5) : ∃ a b c d e, l = [a, b, c, d, e] := by
  match l, h with
  | [a, b, c, d, e], _ => exact ⟨a, b, c, d, e, rfl⟩
theorem three_of (l : List Int) (h : l.length = 3) : ∃ a b c, l = [a, b, c] := by
  match l, h with
  | [a, b, c], _ => exact ⟨a, b, c, rfl⟩
theorem wN_N (c : Cm) (l : List Int) (h : l.length = 11) : (c.wN l).N = l := by
  match l, h with
  | [a, b, c, d, e, f, g, h, i, j, k], _ => rfl
theorem wN_in (c : Cm) {l : List Int} (h : ∀ x ∈ l, in64 x) : ∀ x ∈ (c.wN l).N, in64 x := by
  intro x hx
  simp only [Cm.wN, Cm.N, List.mem_cons, List.not_mem_nil, or_false] at hx
  rcases hx with rfl | rfl | rfl | rfl | rfl | rfl | rfl | rfl | rfl | rfl | rfl <;> exact nth_in h _
/-- The parts of a reading. -/
theorem parse_cases (lim : Nat) (B : List UInt8) : ∃ (kn : Nat) (L0 : List UInt8) (f0 : Bool) (y0 y1 y2 y3 y4 : Int) (L5 : List UInt8) (f5 : Bool), rdSm lim B false = (kn, L0, f0) ∧ rdIs 5 L0 f0 = ([y0, y1, y2, y3, y4], L5, f5) ∧ kn ≤ lim ∧
    ((kn = 1 ∧ ∃ (m : Nat) (L6 : List UInt8) (f6 : Bool) (M : List Int) (L7 : List UInt8) (f7 : Bool) (N : List Int) (L8 : List UInt8) (f8 : Bool), rdSm 16 L5 f5 = (m, L6, f6) ∧ rdIs m L6 f6 = (M, L7, f7) ∧ rdIs 11 L7 f7 = (N, L8, f8) ∧ m ≤ 16 ∧ M.length = m ∧ N.length = 11 ∧
        parseC lim B = ((⟨(1 : Nat), y0, y1, y2, y3, y4, M, 0, 0, 0, 0, 0, 0, 0, 0, 0, 0, 0, 0, 0, 0, 0, 0⟩ : Cm).wN N, L8, f8)) ∨
     (kn = 15 ∧ ∃ (z0 z1 z2 : Int) (L8 : List UInt8) (f8 : Bool), rdIs 3 L5 f5 = ([z0, z1, z2], L8, f8) ∧
        parseC lim B = (⟨(15 : Nat), y0, y1, y2, y3, y4, [], 0, 0, 0, 0, 0, 0, 0, 0, 0, 0, 0, 0, z0, z1, z2, 0⟩, L8, f8)) ∨
     (kn ≠ 1 ∧ kn ≠ 15 ∧ parseC lim B = (⟨kn, y0, y1, y2, y3, y4, [], 0, 0, 0, 0, 0, 0, 0, 0, 0, 0, 0, 0, 0, 0, 0, 0⟩, L5, f5))) := by
  have hk := rdSm_lim lim B false
  obtain ⟨⟨kn, L0, f0⟩, e0⟩ : ∃ q, rdSm lim B false = q := ⟨_, rfl⟩
  have h5 := rdIs_len 5 L0 f0
  obtain ⟨⟨H, L5, f5⟩, e5⟩ : ∃ q, rdIs 5 L0 f0 = q := ⟨_, rfl⟩
  rw [e5] at h5
  rw [e0] at hk
  obtain ⟨y0, y1, y2, y3, y4, rfl⟩ := five_of H h5
  refine ⟨kn, L0, f0, y0, y1, y2, y3, y4, L5, f5, e0, e5, hk, ?_⟩
  by_cases k1 : kn = 1
  · subst k1
    have hm := rdSm_lim 16 L5 f5
    obtain ⟨⟨m, L6, f6⟩, e6⟩ : ∃ q, rdSm 16 L5 f5 = q := ⟨_, rfl⟩
    have h7 := rdIs_len m L6 f6
    obtain ⟨⟨M, L7, f7⟩, e7⟩ : ∃ q, rdIs m L6 f6 = q := ⟨_, rfl⟩
    have h8 := rdIs_len 11 L7 f7
    obtain ⟨⟨N, L8, f8⟩, e8⟩ : ∃ q, rdIs 11 L7 f7 = q := ⟨_, rfl⟩
    rw [e6] at hm
    rw [e7] at h7
    rw [e8] at h8
    exact .inl ⟨rfl, m, L6, f6, M, L7, f7, N, L8, f8, e6, e7, e8, hm, h7, h8, parseC_1 e0 e5 e6 e7 e8⟩
  · by_cases k15 : kn = 15
    · subst k15
      have h8 := rdIs_len 3 L5 f5
      obtain ⟨⟨Z, L8, f8⟩, e8⟩ : ∃ q, rdIs 3 L5 f5 = q := ⟨_, rfl⟩
      rw [e8] at h8
      obtain ⟨z0, z1, z2, rfl⟩ := three_of Z h8
      exact .inr (.inl ⟨rfl, z0, z1, z2, L8, f8, e8, parseC_15 e0 e5 e8⟩)
    · exact .inr (.inr ⟨k1, k15, parseC_other e0 e5 k1 k15⟩)
theorem in_of {m : Nat} {L : List UInt8} {f : Bool} {N : List Int} {R : List UInt8} {g : Bool} (h : rdIs m L f = (N, R, g)) : ∀ x ∈ N, in64 x := by
  have := rdIs_in m L f
  rw [h] at this
  exact this
theorem parseC_wf (lim : Nat) (hlim : lim ≤ 100) (B : List UInt8) : (parseC lim B).1.wf := by
  obtain ⟨kn, L0, f0, y0, y1, y2, y3, y4, L5, f5, e0, e5, hk, h⟩ := parse_cases lim B
  have hk64 : in64 (kn : Int) := by unfold in64; omega
  have h5 := in_of e5
  have hH : ∀ x ∈ [(kn : Int), y0, y1, y2, y3, y4], in64 x := by
    intro x hx
    rcases List.mem_cons.1 hx with rfl | hx
    · exact hk64
    · exact h5 x hx
  rcases h with ⟨rfl, m, L6, f6, M, L7, f7, N, L8, f8, e6, e7, e8, hm, h7, h8, e⟩ | ⟨rfl, z0, z1, z2, L8, f8, e8, e⟩ | ⟨_, _, e⟩
  · rw [e]
    exact ⟨hH, in_of e7, wN_in _ (in_of e8), by intro x hx; simp [Cm.F, Cm.wN] at hx; subst hx; exact in64_0⟩
  · rw [e]
    refine ⟨hH, by simp, by intro x hx; simp [Cm.N] at hx; subst hx; exact in64_0, ?_⟩
    intro x hx
    have hz := in_of e8
    simp only [Cm.F, List.mem_cons, List.not_mem_nil, or_false] at hx
    rcases hx with rfl | rfl | rfl | rfl | rfl
    · exact in64_0
    · exact hz _ (by simp)
    · exact hz _ (by simp)
    · exact hz _ (by simp)
    · exact in64_0
  · rw [e]
    exact ⟨hH, by simp, by intro x hx; simp [Cm.N] at hx; subst hx; exact in64_0, by intro x hx; simp [Cm.F] at hx; subst hx; exact in64_0⟩
theorem encs_one (n : Nat) : encs [n] = Go.Proofs.Ytdkcccigmejikaa.enc n := by simp [encs]
theorem enc_k1 {c : Cm} (h : c.k = ((1 : Nat) : Int)) : c.enc = Go.Proofs.Ytdkcccigmejikaa.enc 1 ++ (encs ([c.lo, c.a, c.b, c.n, c.p].map zig) ++ (Go.Proofs.Ytdkcccigmejikaa.enc c.L.length ++ (encs (c.L.map zig) ++ (encs (c.N.map zig) ++ [])))) := by
  unfold Cm.enc
  rw [h, if_pos (by decide), if_neg (by decide)]
  simp [encs_one]
theorem enc_k15 {c : Cm} (h : c.k = ((15 : Nat) : Int)) : c.enc = Go.Proofs.Ytdkcccigmejikaa.enc 15 ++ (encs ([c.lo, c.a, c.b, c.n, c.p].map zig) ++ (encs ([c.f1, c.f2, c.f3].map zig) ++ [])) := by
  unfold Cm.enc
  rw [h, if_neg (by decide), if_pos (by decide)]
  simp [encs_one]
theorem enc_ko {c : Cm} {kn : Nat} (h : c.k = (kn : Int)) (h1 : kn ≠ 1) (h15 : kn ≠ 15) : c.enc = Go.Proofs.Ytdkcccigmejikaa.enc kn ++ (encs ([c.lo, c.a, c.b, c.n, c.p].map zig) ++ []) := by
  unfold Cm.enc
  rw [h, if_neg (by omega), if_neg (by omega)]
  simp [encs_one]
/-- Bytes read to their end are the command's bytes. -/
theorem parse_enc {lim : Nat} {B : List UInt8} {c : Cm} (h : parseC lim B = (c, [], false)) : c.enc = B := by
  obtain ⟨kn, L0, f0, y0, y1, y2, y3, y4, L5, f5, e0, e5, hk, hc⟩ := parse_cases lim B
  rcases hc with ⟨rfl, m, L6, f6, M, L7, f7, N, L8, f8, e6, e7, e8, hm, h7, h8, e⟩ | ⟨rfl, z0, z1, z2, L8, f8, e8, e⟩ | ⟨k1, k15, e⟩
  · rw [e] at h
    simp only [Prod.mk.injEq] at h
    obtain ⟨rfl, rfl, rfl⟩ := h
    obtain ⟨rfl, i8⟩ := rdIs_inv _ e8
    obtain ⟨rfl, i7⟩ := rdIs_inv _ e7
    obtain ⟨rfl, i6, _⟩ := rdSm_inv e6
    obtain ⟨rfl, i5⟩ := rdIs_inv _ e5
    obtain ⟨_, i0, _⟩ := rdSm_inv e0
    rw [enc_k1 rfl, wN_N _ _ h8, i0, i5, i6, i7, i8]
    simp only [Cm.wN, h7]
  · rw [e] at h
    simp only [Prod.mk.injEq] at h
    obtain ⟨rfl, rfl, rfl⟩ := h
    obtain ⟨rfl, i8⟩ := rdIs_inv _ e8
    obtain ⟨rfl, i5⟩ := rdIs_inv _ e5
    obtain ⟨_, i0, _⟩ := rdSm_inv e0
    rw [enc_k15 rfl, i0, i5, i8]
  · rw [e] at h
    simp only [Prod.mk.injEq] at h
    obtain ⟨rfl, rfl, rfl⟩ := h
    obtain ⟨rfl, i5⟩ := rdIs_inv _ e5
    obtain ⟨_, i0, _⟩ := rdSm_inv e0
    rw [enc_ko rfl k1 k15, i0, i5]
theorem any_nz {N : List Int} (h : N.any isnz = false) : ∀ x ∈ N, x = 0 := by
  intro x hx
  have := List.any_eq_false.1 h x hx
  simpa [isnz] using this
/-- A command that can be is read from its bytes. -/
theorem enc_parse {lim : Nat} (h25 : 25 ≤ lim) {c : Cm} (hr : c.right = true) (hw : c.wf) : parseC lim c.enc = (c, [], false) := by
  obtain ⟨k0, k1, kL⟩ := right_nums hr
  obtain ⟨hH, hL, hN, hF⟩ := hw
  obtain ⟨kn, hk⟩ := Int.eq_ofNat_of_zero_le (show 0 ≤ c.k by omega)
  obtain ⟨k, lo, a, b, n, p, L, x0, x1, x2, x3, x4, x5, x6, x7, x8, x9, x10, g0, g1, g2, g3, g4⟩ := c
  simp only at hk k0 k1 kL
  subst hk
  simp only [Cm.right, Cm.N, Bool.and_eq_true, Bool.or_eq_true, decide_eq_true_eq, emptyS, Bool.not_eq_true'] at hr
  obtain ⟨⟨⟨⟨⟨⟨_, _⟩, _⟩, rfl⟩, rfl⟩, hO⟩, hG⟩ := hr
  have hY : ∀ x ∈ [lo, a, b, n, p], in64 x := fun x hx => hH x (List.mem_cons_of_mem _ hx)
  by_cases k1' : kn = 1
  · subst k1'
    obtain ⟨⟨rfl, rfl⟩, rfl⟩ : (g1 = 0 ∧ g2 = 0) ∧ g3 = 0 := by rcases hG with h | h; exact h; exact absurd h (by decide)
    rw [enc_k1 rfl]
    exact (parseC_1 (rdSm_of (by omega) (by omega) _ _) (rdIs_of _ hY _ _) (rdSm_of kL (by omega) _ _) (rdIs_of _ hL _ _) (rdIs_of _ hN _ _)).trans rfl
  · obtain ⟨hL0, hN0⟩ : L.length = 0 ∧ [x0, x1, x2, x3, x4, x5, x6, x7, x8, x9, x10].any isnz = false := by rcases hO with h | h; exact h; omega
    obtain rfl := List.length_eq_zero_iff.1 hL0
    have hz := any_nz hN0
    obtain rfl : x0 = 0 := hz _ (by simp)
    obtain rfl : x1 = 0 := hz _ (by simp)
    obtain rfl : x2 = 0 := hz _ (by simp)
    obtain rfl : x3 = 0 := hz _ (by simp)
    obtain rfl : x4 = 0 := hz _ (by simp)
    obtain rfl : x5 = 0 := hz _ (by simp)
    obtain rfl : x6 = 0 := hz _ (by simp)
    obtain rfl : x7 = 0 := hz _ (by simp)
    obtain rfl : x8 = 0 := hz _ (by simp)
    obtain rfl : x9 = 0 := hz _ (by simp)
    obtain rfl : x10 = 0 := hz _ (by simp)
    by_cases k15 : kn = 15
    · subst k15
      rw [enc_k15 rfl]
      refine (parseC_15 (rdSm_of (by omega) (by omega) _ _) (rdIs_of _ hY _ _) (rdIs_of [g1, g2, g3] ?_ _ _)).trans rfl
      intro x hx
      apply hF
      simp only [Cm.F, List.mem_cons, List.not_mem_nil, or_false] at hx ⊢
      rcases hx with rfl | rfl | rfl <;> simp
    · obtain ⟨⟨rfl, rfl⟩, rfl⟩ : (g1 = 0 ∧ g2 = 0) ∧ g3 = 0 := by rcases hG with h | h; exact h; omega
      rw [enc_ko rfl k1' k15]
      exact parseC_other (rdSm_of (by omega) (by omega) _ _) (rdIs_of _ hY _ _) k1' k15
theorem readP_enc {c : Cm} (hr : c.right = true) (hw : c.wf) : readP c.enc = (c, 0) := by
  unfold readP
  rw [enc_parse (by decide) hr hw]
  simp [hr]
theorem readP_ok {B : List UInt8} {c : Cm} (h : readP B = (c, 0)) : c.right = true ∧ c.enc = B ∧ c.wf := by
  unfold readP at h
  split at h
  · rename_i hc
    simp only [Bool.and_eq_true, Bool.not_eq_true', List.isEmpty_iff] at hc
    obtain ⟨⟨h1, h2⟩, h3⟩ := hc
    have hwf := parseC_wf 26 (by decide) B
    obtain ⟨⟨c', L, f⟩, e⟩ : ∃ q, parseC 26 B = q := ⟨_, rfl⟩
    rw [e] at h h1 h2 h3 hwf
    simp only at h1 h2 h3 h hwf
    subst h1 h2
    obtain rfl := (Prod.mk.inj h).1
    exact ⟨h3, parse_enc e, hwf⟩
  · simp at h
theorem readP_err (B : List UInt8) : ∃ c, readP B = (c, 0) ∨ readP B = (zC, 221) := by
  unfold readP
  split
  · exact ⟨_, .inl rfl⟩
  · exact ⟨zC, .inr rfl⟩
/-- What the reference's Read answers. -/
def readR (B : List UInt8) : Cm × Int := if (parseC 30 B).1.bytes = (B, 0) then ((parseC 30 B).1, 0) else (zC, 221)
theorem bytes_ok {c : Cm} {B : List UInt8} (h : c.bytes = (B, 0)) : c.right = true ∧ c.enc = B := by
  unfold Cm.bytes at h
  split at h
  · rename_i hr; exact ⟨hr, (Prod.mk.inj h).1⟩
  · simp at h
theorem read_eq (B : List UInt8) : readP B = readR B := by
  unfold readR
  by_cases h : (parseC 30 B).1.bytes = (B, 0)
  · rw [if_pos h]
    obtain ⟨hr, he⟩ := bytes_ok h
    have := readP_enc hr (parseC_wf 30 (by decide) B)
    rw [he] at this
    exact this
  · rw [if_neg h]
    obtain ⟨c, hc | hc⟩ := readP_err B
    · exfalso
      obtain ⟨hr, he, hw⟩ := readP_ok hc
      apply h
      rw [← he, enc_parse (by decide) hr hw]
      simp [Cm.bytes, hr]
    · exact hc
theorem same_iff (c d : Cm) : c.same d = true ↔ c = d := by
  obtain ⟨k, lo, a, b, n, p, L, x0, x1, x2, x3, x4, x5, x6, x7, x8, x9, x10, f0, f1, f2, f3, f4⟩ := c
  obtain ⟨k', lo', a', b', n', p', M, x0', x1', x2', x3', x4', x5', x6', x7', x8', x9', x10', f0', f1', f2', f3', f4'⟩ := d
  simp only [Cm.same, Cm.H, Cm.F, Cm.N, Bool.and_eq_true, decide_eq_true_eq, List.cons.injEq, and_true, Cm.mk.injEq]
  constructor
  · rintro ⟨⟨⟨h0, h1, h2, h3, h4, h5⟩, ⟨g0, g1, g2, g3, g4⟩⟩, hL, ⟨n0, n1, n2, n3, n4, n5, n6, n7, n8, n9, n10⟩⟩
    exact ⟨h0, h1, h2, h3, h4, h5, hL, n0, n1, n2, n3, n4, n5, n6, n7, n8, n9, n10, g0, g1, g2, g3, g4⟩
  · rintro ⟨h0, h1, h2, h3, h4, h5, hL, n0, n1, n2, n3, n4, n5, n6, n7, n8, n9, n10, g0, g1, g2, g3, g4⟩
    exact ⟨⟨⟨h0, h1, h2, h3, h4, h5⟩, ⟨g0, g1, g2, g3, g4⟩⟩, hL, ⟨n0, n1, n2, n3, n4, n5, n6, n7, n8, n9, n10⟩⟩
set_option maxHeartbeats 800000 in
theorem asks_any (k : Int) (w : World) (v : Bool) (hv : decide (20 ≤ k ∧ k < 26) = v) : Calls Try.prog 24 #[.int .i64 k] w fun e w' => e = .returned (.bool v) ∧ Below w.heap.size w w' := by
  have HV := Lib.hid hv
  clear hv
  by_cases h1 : 20 ≤ k
  · go_enter Try.func24, Try.ntmps24
    go_wp2
    go_ret
    exact ⟨by rw [← HV.out]; simp [h1], Below.refl _ _⟩
  · have h2 : ¬ (20 ≤ k ∧ k < 26) := fun h => h1 h.1
    go_enter Try.func24, Try.ntmps24
    go_wp2
    go_ret
    exact ⟨by rw [← HV.out, decide_eq_false h2]; rfl, Below.refl _ _⟩
end Go.Proofs.Ytdkcccigmejikaa
