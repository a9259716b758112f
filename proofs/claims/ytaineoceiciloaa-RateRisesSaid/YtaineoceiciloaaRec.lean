/-
  Words for the walks over slices of records (each of so many one-cell fields): what a slice reads as, append, an element's place, a store into a row of the call's own.
-/
import Derived.Test.YtaineoceiciloaaSl
set_option linter.unusedVariables false
set_option linter.unusedSimpArgs false
namespace Go.Proofs.Ytaineoceiciloaa
open Go.RowKit

/-- A slice of records of S cells reads, in w, as the cells C. -/
structure Rk (w : World) (S : Nat) (ao : Option Addr) (n cap : Nat) (C : List Value) : Prop where
  len : C.length = n * S
  room : n ≤ cap
  nil : ao = none → cap = 0
  cells : C ≠ [] → ∃ b off, ao = some ⟨b, off, none⟩ ∧ ∀ j u, C[j]? = some u → w.cell? ⟨b, off + j, none⟩ = some u
theorem Rk.of_nil (w : World) (S : Nat) : Rk w S none 0 0 [] := ⟨by simp, Nat.le_refl _, fun _ => rfl, fun h => absurd rfl h⟩
theorem Rk.keeps {w w' : World} {S ao n cap C} (h : Rk w S ao n cap C) (hb : Below w.heap.size w w') : Rk w' S ao n cap C :=
  ⟨h.len, h.room, h.nil, fun hne => by
    obtain ⟨b, off, e, hc⟩ := h.cells hne
    exact ⟨b, off, e, fun j u hu => (hb.cell (cell_lt (hc j u hu))).trans (hc j u hu)⟩⟩
theorem Rk.alloc {w : World} {S ao n cap C} (h : Rk w S ao n cap C) (o : Obj) : Rk (w.alloc o) S ao n cap C := h.keeps (below_new1 w o)
/-- A call's own slice. -/
theorem Rk.own {w : World} {base e S n : Nat} {v : Value} {C : List Value} (h : w.ownsRow base e S v n C) : ∃ ao cap, v = .slice ao n cap ∧ Rk w S ao n cap C ∧ (∀ g, v.ownBlock = some g → base ≤ g ∧ g < w.heap.size) := by
  have hlt := h.lt
  rcases h.2 with ⟨rfl, hn⟩ | ⟨g, cap, cur, rfl, hb, hg, hnc, _, hs, ht⟩
  · have : C = [] := List.eq_nil_of_length_eq_zero (by rw [h.1, hn]; simp)
    subst this; subst hn
    exact ⟨none, 0, rfl, Rk.of_nil w S, by simp [Value.ownBlock]⟩
  · refine ⟨_, _, rfl, ⟨h.1, hnc, by simp, fun hne => ⟨g, 0, rfl, fun j u hu => ?_⟩⟩, hlt⟩
    rw [Nat.zero_add, cell_of_row w g j _ _ _ hg]
    rw [← ht] at hu
    have hj := (List.getElem?_eq_some_iff.1 hu).1
    rw [List.length_take] at hj
    rw [List.getElem?_take_of_lt (by omega)] at hu
    simpa using hu

section
variable {P : Program} {ops : Array Oper} {rest : List Oper} {o : Oper} {a : Act} {w : World} {Q : Exit → Act → World → Prop}

/-- append of whatever is read, onto a slice of the call's own. -/
theorem run_append_rec (w : World) (base : Nat) (t tx ty e : TypeId) (i : TypeInfo) (z : Value) (bytes S : Nat) (ht : P.underlying t = some (.slice e)) (hi : P.info? e = some i) (hz : i.zero = some z)
    (hsize : i.size = S) (hby : i.bytes = bytes) (hzs : z.cells.size = S) (v : Value) (n : Nat) (xs : List Value) (hown : w.ownsRow base e S v n xs)
    (x : Value) (m : Nat) (news : List Value) (hs : Src P S tx x m news w) (h63 : n + m ≤ maxLen) (hbytes : (n + m) * bytes ≤ 140737488355328) (hbase : base ≤ w.heap.size) :
    ∃ v' w', (Builtin.append_ #[t, tx] ty #[v, x]).run P w = .ok v' w' ∧ w'.ownsRow base e S v' (n + m) (xs ++ news) ∧ w.grownBy w' v.ownBlock ∧ (∀ g, v'.ownBlock = some g → v.ownBlock = some g ∨ w.heap.size ≤ g) := by
  subst hby
  have hl := hs.newsLen
  have hlen : (xs ++ news).length = (n + m) * S := by rw [List.length_append, hown.1, hl, Nat.add_mul]
  have grown : ∀ (old : Nat), old < n + m → ∀ (row : Option Nat),
      (w.drew.alloc (.cells ((xs ++ news).toArray ++ Builtin.zeroCells z.cells (grownCap w (n + m) old e - (n + m))) e)).ownsRow base e S
        (.slice (some ⟨w.heap.size, 0, none⟩) (n + m) (grownCap w (n + m) old e)) (n + m) (xs ++ news) ∧
      w.grownBy (w.drew.alloc (.cells ((xs ++ news).toArray ++ Builtin.zeroCells z.cells (grownCap w (n + m) old e - (n + m))) e)) row := by
    intro old ho row
    have hge := grownCap_ge w (n + m) old e
    have hcm : grownCap w (n + m) old e ≤ maxLen := grownCap_le_maxLen w (n + m) old e h63
    refine ⟨⟨hlen, .inr ⟨w.heap.size, _, _, rfl, hbase, heap_alloc_new w.drew _, hge, hcm, ?_, ?_⟩⟩, ⟨rfl, rfl, rfl, by simp, fun k hk _ => heap_alloc_old w.drew _ hk⟩⟩
    · simp only [Array.size_append, List.size_toArray, size_zeroCells, hzs, hlen]
      rw [← Nat.add_mul, Nat.add_sub_cancel' hge]
    · simp only [Array.toList_append]
      rw [← hlen]
      exact List.take_left
  have h63' : ((n + m : Nat) : Int) ≤ 9223372036854775807 := by simp only [maxLen] at h63; omega
  rcases hown.2 with ⟨rfl, rfl⟩ | ⟨g, cap, cur, rfl, hbg, hg, hnc, hcm, hcs, htake⟩
  · have hx : xs = [] := List.eq_nil_of_length_eq_zero (by simpa using hown.1)
    subst hx
    by_cases hm : m = 0
    · subst hm
      have hn : news = [] := List.eq_nil_of_length_eq_zero (by simpa using hl)
      subst hn
      refine ⟨.slice none 0 0, w, ?_, World.ownsRow_nil w base e S, ⟨rfl, rfl, rfl, Nat.le_refl _, fun _ _ _ => rfl⟩, by simp [Value.ownBlock]⟩
      have hlen0 := hs.len
      have hc0 := hs.cells
      rcases hs.kind with ⟨e', hk⟩ | hk <;> simp [Builtin.append_, run_underlying ht, run_underlying hk, sizeOf, typeInfo, hi, hlen0, hsize, hc0]
    · have hr := run_append_grow_src (P := P) w t tx ty e i z ht hi hz none 0 0 [] (by rw [hsize]; exact run_firstCells_none w.drew S 0 0 0) x m news (by rw [hsize]; exact hs) (by omega) (by simpa using h63') (growslice_fits (by omega) hbytes)
      have hgr := grown 0 (by omega) (Value.ownBlock (.slice none 0 0))
      simp only [Nat.zero_add, List.nil_append] at hgr hr ⊢
      exact ⟨_, _, hr, hgr.1, hgr.2, by simp [Value.ownBlock]⟩
  · by_cases hroom : n + m ≤ cap
    · have hB : Blk w g e cur.toList := ⟨by simpa using hg⟩
      have hcl : cur.toList.length = cap * S := by simpa using hcs
      have hx1 : xs.length = n * S := hown.1
      have hfit : n * S + news.length ≤ cap * S := by rw [hl, ← Nat.add_mul]; exact Nat.mul_le_mul_right _ hroom
      have hr := run_append_room_src (P := P) w t tx ty e i ht hi g 0 n cap x m news (by rw [hsize]; exact hs) hroom
        (fun j hj => by rw [hsize, hB.cell (0 + n * S + j) _ (List.getElem?_eq_getElem (by omega))]; rfl) (fun j hj => by rw [hsize]; exact hB.frozen _)
      rw [hsize] at hr
      simp only [Nat.zero_add] at hr
      have hB2 := hB.setCells news (n * S) (by omega)
      obtain ⟨o1, o2, o3⟩ := setCells_os g news (n * S) w
      refine ⟨_, _, hr, ⟨hlen, .inr ⟨g, cap, _, rfl, hbg, hB2.at_, hroom, hcm, ?_, ?_⟩⟩, ⟨o1, o2, o3, by rw [heap_size_setCells]; exact Nat.le_refl _, fun k _ hk => ?_⟩, fun g' h => .inl h⟩
      · simp only [List.size_toArray, List.length_append, List.length_take, List.length_drop]
        omega
      · have e1 : cur.toList.take (n * S) = xs := htake
        show List.take ((n + m) * S) _ = _
        rw [e1, ← hlen, List.take_left]
      · exact heap_setCells_other g k news (n * S) w (fun e => hk (by rw [e]; rfl))
    · have holds : ∀ j u, xs[j]? = some u → w.drew.cell? ((⟨g, 0, none⟩ : Addr).add j) = some u := hown.cells (g := g) rfl
      have hr := run_append_grow_src (P := P) w t tx ty e i z ht hi hz (some ⟨g, 0, none⟩) n cap xs (by rw [hsize]; exact run_firstCells_some w.drew S n ⟨g, 0, none⟩ n cap xs hown.1 holds) x m news (by rw [hsize]; exact hs) (by omega) h63' (growslice_fits (by omega) hbytes)
      have hgr := grown cap (by omega) (Value.ownBlock (.slice (some ⟨g, 0, none⟩) n cap))
      exact ⟨_, _, hr, hgr.1, hgr.2, fun g' h => .inr (by simp [Value.ownBlock] at h; omega)⟩
theorem wpList_append_rec (hw : Region.wanted o (yielded ops a.tmps) = true) (s x : Operand) (t tx : TypeId) (ho : o.op = .call { callee := .builtin .append, args := #[s, x], argTypes := #[t, tx] })
    (base : Nat) (e : TypeId) (z : Value) (bytes S : Nat) (ht : P.underlying t = some (.slice e)) (hi : (P.info? e).map (fun i => (i.zero, i.size, i.bytes)) = some (some z, S, bytes))
    (hzs : z.cells.size = S) (v : Value) (hv : a.eval s = v) (n : Nat) (xs : List Value) (hown : w.ownsRow base e S v n xs)
    (vx : Value) (hx : a.eval x = vx) (m : Nat) (news : List Value) (hs : Src P S tx vx m news w) (hbytes : (n + m) * bytes ≤ 140737488355328) (hb0 : 0 < bytes) (hbase : base ≤ w.heap.size)
    (h : ∀ v' w', w'.ownsRow base e S v' (n + m) (xs ++ news) → w.grownBy w' v.ownBlock → (∀ g, v'.ownBlock = some g → v.ownBlock = some g ∨ w.heap.size ≤ g) → wpList P ops Q rest (a.put o.dst v') w') : wpList P ops Q (o :: rest) a w :=
  wpList_step fun _ hK => by
    rw [if_pos hw]
    obtain ⟨i, hi, hz, hsize, hby⟩ := info_parts hi
    have hm : n + m ≤ maxLen := by
      have := Nat.le_mul_of_pos_right (n + m) hb0
      simp only [maxLen]; omega
    obtain ⟨v', w', hrun, h1, h2, h3⟩ := run_append_rec (P := P) w base t tx o.type e i z bytes S ht hi hz hsize hby hzs v n xs hown vx m news hs hm hbytes hbase
    unfold Oper.wp
    simp [execOp, ho, resolve, invoke, builtin, hv, hx, hrun, Result.andThen]
    exact hK _ _ (h v' w' h1 h2 h3)
theorem Rk.src {tx e' : TypeId} (hk : P.underlying tx = some (.slice e')) {S ao n cap C} (hS : 0 < S) (h : Rk w S ao n cap C) (h1 : ∀ u ∈ C, u.oneCell' = true) : Src P S tx (.slice ao n cap) n C w := by
  have hl := h.len
  by_cases hne : C = []
  · subst hne
    have hn : n = 0 := by
      rcases Nat.eq_zero_or_pos n with h0 | h0
      · exact h0
      · have := Nat.mul_pos h0 hS
        simp at hl; omega
    subst hn
    cases ao with
    | none =>
      have : cap = 0 := h.nil rfl
      subst this
      exact Src.ofNil w hk 0
    | some ad => exact Src.ofSlice w hk ad 0 cap [] (by simp) (by simp) (by simp)
  · obtain ⟨b, off, rfl, hc⟩ := h.cells hne
    refine Src.ofSlice w hk ⟨b, off, none⟩ n cap C hl (fun j u hu => ?_) h1
    have := hc j u hu
    by_cases hj : j = 0
    · subst hj; exact this
    · simpa [Addr.add, hj] using this
/-- An element's place. -/
theorem wpList_ix_rec (hw : Region.wanted o (yielded ops a.tmps) = true) (t e : TypeId) (s x : Operand) (ho : o.op = .indexAddr t s x) (ht : P.underlying t = some (.slice e)) (S : Nat) (hS : 0 < S) (hz : ∀ w, (sizeOf e).run P w = .ok S w)
    (ao : Option Addr) (n cap : Nat) (hs : a.eval s = .slice ao n cap) (C : List Value) (hc : Rk w S ao n cap C) (k : Nat) (hk : k < n) (hx : a.eval x = .int .i64 k)
    (h : ∀ b off, ao = some ⟨b, off, none⟩ → (∀ j u, C[j]? = some u → w.cell? ⟨b, off + j, none⟩ = some u) → wpList P ops Q rest (a.put o.dst (.pointer (some ⟨b, off + k * S, none⟩))) w) : wpList P ops Q (o :: rest) a w :=
  wpList_step fun _ hK => by
    rw [if_pos hw]
    have hl := hc.len
    have hne : C ≠ [] := by
      rintro rfl
      have := Nat.mul_pos (Nat.lt_of_le_of_lt (Nat.zero_le _) hk) hS
      simp at hl; omega
    obtain ⟨b, off, rfl, hcell⟩ := hc.cells hne
    have hrun : (Instr.indexAt t (.slice (some ⟨b, off, none⟩) n cap) (.int .i64 k)).run P w = .ok (.pointer (some ⟨b, off + k * S, none⟩)) w := by
      have hkn : (k : Int) < n := by omega
      by_cases h0 : k * S = 0
      · simp [Instr.indexAt, asIntOf, run_underlying ht, hz, hkn, Addr.add, h0]
        intro h; omega
      · simp [Instr.indexAt, asIntOf, run_underlying ht, hz, hkn, Addr.add, h0]
        intro h; omega
    unfold Oper.wp
    simp [execOp, ho, hs, hx, hrun, Result.andThen]
    exact hK _ _ (h b off rfl hcell)
end
/-- Records as cells. -/
def rc {α : Type} (f : α → List Value) (L : List α) : List Value := L.flatMap f
section
variable {α : Type} {f : α → List Value} {S : Nat}
theorem rc_len (hf : ∀ x, (f x).length = S) (L : List α) : (rc f L).length = L.length * S := by
  induction L with
  | nil => simp [rc]
  | cons x r ih => simp only [rc, List.flatMap_cons, List.length_append, hf, List.length_cons] at ih ⊢; rw [ih, Nat.add_mul]; omega
theorem rc_app (L M : List α) : rc f (L ++ M) = rc f L ++ rc f M := by simp [rc]
theorem rc_one (x : α) : rc f [x] = f x := by simp [rc]
theorem rc_at (hf : ∀ x, (f x).length = S) {L : List α} {k : Nat} {x : α} (h : L[k]? = some x) (j : Nat) (u : Value) (hu : (f x)[j]? = some u) : (rc f L)[k * S + j]? = some u := by
  induction L generalizing k with
  | nil => simp at h
  | cons y r ih =>
    cases k with
    | zero =>
      obtain rfl := Option.some.inj h
      have hj := (List.getElem?_eq_some_iff.1 hu).1
      rw [Nat.zero_mul, Nat.zero_add]
      show (f y ++ rc f r)[j]? = _
      rw [List.getElem?_append_left hj]; exact hu
    | succ k =>
      have := ih (by simpa using h)
      show (f y ++ rc f r)[(k + 1) * S + j]? = _
      rw [List.getElem?_append_right (by rw [hf, Nat.add_mul]; omega), hf, show (k + 1) * S + j - S = k * S + j from by rw [Nat.add_mul]; omega]
      exact this
theorem rc_cell (h1 : ∀ x, ∀ u ∈ f x, u.oneCell' = true) (L : List α) : ∀ u ∈ rc f L, u.oneCell' = true := by
  intro u hu
  obtain ⟨x, _, hx⟩ := List.mem_flatMap.1 hu
  exact h1 x u hx
theorem rc_set (hf : ∀ x, (f x).length = S) {L : List α} {k : Nat} {x : α} (h : L[k]? = some x) (y : α) : rc f (L.set k y) = (rc f L).take (k * S) ++ f y ++ (rc f L).drop (k * S + S) := by
  induction L generalizing k with
  | nil => simp at h
  | cons z r ih =>
    cases k with
    | zero =>
      simp only [List.set_cons_zero, Nat.zero_mul, Nat.zero_add, List.take_zero, List.nil_append]
      show f y ++ rc f r = f y ++ (f z ++ rc f r).drop S
      rw [List.drop_append_of_le_length (by rw [hf]; exact Nat.le_refl _), List.drop_of_length_le (by rw [hf]; exact Nat.le_refl _)]; rfl
    | succ k =>
      have := ih (by simpa using h)
      simp only [List.set_cons_succ]
      show f z ++ rc f (r.set k y) = List.take ((k + 1) * S) (f z ++ rc f r) ++ f y ++ List.drop ((k + 1) * S + S) (f z ++ rc f r)
      have e1 : (f z).length ≤ (k + 1) * S := by rw [hf, Nat.add_mul]; omega
      have e2 : (f z).length ≤ (k + 1) * S + S := by rw [hf, Nat.add_mul]; omega
      have e3 : (k + 1) * S - S = k * S := by rw [Nat.add_mul]; omega
      have e4 : (k + 1) * S + S - S = k * S + S := by rw [Nat.add_mul]; omega
      rw [this, List.take_append, List.drop_append, List.take_of_length_le e1, List.drop_of_length_le e2, hf, e3, e4]
      simp
end
end Go.Proofs.Ytaineoceiciloaa
