/-
  Words for the walks over slices: what a slice reads as, what a call's own slice holds, append of whatever is read, an element, a part, a text.
-/
import Derived.Test.YtaineoceiciloaaBlk
import Derived.Deep.AppendSrc
import Derived.OwnWalk
import Derived.Laws.OwnMore
import Derived.Laws.BytesArg
import Derived.Lib.SlBytesRow
set_option linter.unusedVariables false
set_option linter.unusedSimpArgs false
namespace Go.Proofs.Ytaineoceiciloaa
open Go.RowKit

/-- A slice of one-cell elements reads, in w, as the cells C. -/
structure Sl (w : World) (ao : Option Addr) (n cap : Nat) (C : List Value) : Prop where
  len : C.length = n
  room : n ≤ cap
  nil : ao = none → cap = 0
  cells : C ≠ [] → ∃ b off, ao = some ⟨b, off, none⟩ ∧ ∀ j u, C[j]? = some u → w.cell? ⟨b, off + j, none⟩ = some u
theorem Sl.of_nil (w : World) : Sl w none 0 0 [] := ⟨rfl, Nat.le_refl _, fun _ => rfl, fun h => absurd rfl h⟩
theorem Sl.drew {w : World} {ao n cap C} (h : Sl w ao n cap C) : Sl w.drew ao n cap C := ⟨h.len, h.room, h.nil, h.cells⟩
theorem Sl.at_ {w : World} {ao n cap C} (h : Sl w ao n cap C) (k : Nat) (u : Value) (hu : C[k]? = some u) : ∃ b off, ao = some ⟨b, off, none⟩ ∧ w.cell? ⟨b, off + k, none⟩ = some u := by
  have hne : C ≠ [] := by rintro rfl; simp at hu
  obtain ⟨b, off, e, hc⟩ := h.cells hne
  exact ⟨b, off, e, hc k u hu⟩
theorem cell_lt {w : World} {b o : Nat} {u : Value} (h : w.cell? ⟨b, o, none⟩ = some u) : b < w.heap.size := by
  by_cases hb : b < w.heap.size
  · exact hb
  · rw [World.cell?, show w.heap[(⟨b, o, none⟩ : Addr).block]? = none from Array.getElem?_eq_none (by simpa using hb)] at h; simp at h
theorem Sl.keeps {w w' : World} {ao n cap C} (h : Sl w ao n cap C) (hb : Below w.heap.size w w') : Sl w' ao n cap C :=
  ⟨h.len, h.room, h.nil, fun hne => by
    obtain ⟨b, off, e, hc⟩ := h.cells hne
    exact ⟨b, off, e, fun j u hu => (hb.cell (cell_lt (hc j u hu))).trans (hc j u hu)⟩⟩
/-- A part of it. -/
theorem Sl.cut {w : World} {ao n cap C} (h : Sl w ao n cap C) (l k : Nat) (h1 : l ≤ k) (h2 : k ≤ n) :
    Sl w (if cap = l then ao else ao.map (·.add (l * 1))) (k - l) (cap - l) ((C.drop l).take (k - l)) := by
  have hl := h.len; have hr := h.room
  refine ⟨by rw [List.length_take, List.length_drop]; omega, by omega, ?_, fun hne => ?_⟩
  · intro hn
    by_cases hc : cap = l
    · omega
    · rw [if_neg hc, Option.map_eq_none_iff] at hn
      have := h.nil hn
      omega
  · have hlk : l < k := by
      apply Nat.lt_of_not_le; intro hle
      apply hne; rw [show k - l = 0 from by omega]; rfl
    have hCn : C ≠ [] := by rintro rfl; simp at hl; omega
    obtain ⟨b, off, e, hc⟩ := h.cells hCn
    refine ⟨b, off + l, ?_, ?_⟩
    · rw [if_neg (by omega), e]
      by_cases h0 : l = 0
      · subst h0; rfl
      · simp [Addr.add, h0]
    · intro j u hu
      have hj : j < k - l := by
        have := (List.getElem?_eq_some_iff.1 hu).1
        rw [List.length_take] at this; omega
      rw [List.getElem?_take_of_lt hj, List.getElem?_drop] at hu
      rw [Nat.add_assoc]
      exact hc (l + j) u hu
/-- A call's own slice. -/
theorem Sl.own {w : World} {base e : Nat} {v : Value} {C : List Value} (h : w.ownsRow base e 1 v C.length C) : ∃ ao cap, v = .slice ao C.length cap ∧ Sl w ao C.length cap C ∧ (∀ g, v.ownBlock = some g → base ≤ g ∧ g < w.heap.size) := by
  have hlt := h.lt
  rcases h.2 with ⟨rfl, hn⟩ | ⟨g, cap, cur, rfl, hb, hg, hnc, _, hs, ht⟩
  · have : C = [] := List.eq_nil_of_length_eq_zero hn
    subst this
    exact ⟨none, 0, rfl, Sl.of_nil w, by simp [Value.ownBlock]⟩
  · refine ⟨_, _, rfl, ⟨rfl, hnc, by simp, fun hne => ⟨g, 0, rfl, fun j u hu => ?_⟩⟩, hlt⟩
    rw [Nat.zero_add, cell_of_row w g j _ _ _ hg]
    rw [← ht] at hu
    have hj := (List.getElem?_eq_some_iff.1 hu).1
    rw [List.length_take] at hj
    rw [List.getElem?_take_of_lt (by omega)] at hu
    simpa using hu

section
variable {P : Program} {ops : Array Oper} {rest : List Oper} {o : Oper} {a : Act} {w : World} {Q : Exit → Act → World → Prop}

theorem heap_setCells_other (b b' : Nat) (vs : List Value) (off : Nat) (w : World) (hn : b' ≠ b) : (w.setCells b off vs).heap[b']? = w.heap[b']? := by
  induction vs generalizing off w with
  | nil => rfl
  | cons v r ih => rw [World.setCells, ih, heap_setCell_other w ⟨b, off, none⟩ b' v hn]
theorem setCells_os (b : Nat) (vs : List Value) (off : Nat) (w : World) : (w.setCells b off vs).os = w.os ∧ (w.setCells b off vs).tape = w.tape ∧ (w.setCells b off vs).output = w.output := by
  induction vs generalizing off w with
  | nil => exact ⟨rfl, rfl, rfl⟩
  | cons v r ih => obtain ⟨h1, h2, h3⟩ := ih (off + 1) (w.setCell ⟨b, off, none⟩ v); exact ⟨h1.trans rfl, h2.trans rfl, h3.trans rfl⟩

/-- append of whatever is read, onto a slice of the call's own. -/
theorem run_append_own_src (w : World) (base : Nat) (t tx ty e : TypeId) (i : TypeInfo) (z : Value) (bytes : Nat) (ht : P.underlying t = some (.slice e)) (hi : P.info? e = some i) (hz : i.zero = some z)
    (hsize : i.size = 1) (hby : i.bytes = bytes) (hzs : z.cells.size = 1) (v : Value) (n : Nat) (xs : List Value) (hown : w.ownsRow base e 1 v n xs)
    (x : Value) (m : Nat) (news : List Value) (hs : Src P 1 tx x m news w) (h63 : n + m ≤ maxLen) (hbytes : (n + m) * bytes ≤ 140737488355328) (hbase : base ≤ w.heap.size) :
    ∃ v' w', (Builtin.append_ #[t, tx] ty #[v, x]).run P w = .ok v' w' ∧ w'.ownsRow base e 1 v' (n + m) (xs ++ news) ∧ w.grownBy w' v.ownBlock ∧ (∀ g, v'.ownBlock = some g → v.ownBlock = some g ∨ w.heap.size ≤ g) := by
  subst hby
  have hl := hs.newsLen
  have hlen : (xs ++ news).length = (n + m) * 1 := by rw [List.length_append, hown.1, hl, Nat.add_mul]
  have grown : ∀ (old : Nat), old < n + m → ∀ (row : Option Nat),
      (w.drew.alloc (.cells ((xs ++ news).toArray ++ Builtin.zeroCells z.cells (grownCap w (n + m) old e - (n + m))) e)).ownsRow base e 1
        (.slice (some ⟨w.heap.size, 0, none⟩) (n + m) (grownCap w (n + m) old e)) (n + m) (xs ++ news) ∧
      w.grownBy (w.drew.alloc (.cells ((xs ++ news).toArray ++ Builtin.zeroCells z.cells (grownCap w (n + m) old e - (n + m))) e)) row := by
    intro old ho row
    have hge := grownCap_ge w (n + m) old e
    have hcm : grownCap w (n + m) old e ≤ maxLen := grownCap_le_maxLen w (n + m) old e h63
    refine ⟨⟨hlen, .inr ⟨w.heap.size, _, _, rfl, hbase, heap_alloc_new w.drew _, hge, hcm, ?_, ?_⟩⟩, ⟨rfl, rfl, rfl, by simp, fun k hk _ => heap_alloc_old w.drew _ hk⟩⟩
    · simp only [Array.size_append, List.size_toArray, size_zeroCells, hzs, hlen]
      omega
    · simp only [Array.toList_append]
      rw [← hlen]
      exact List.take_left
  have h63' : ((n + m : Nat) : Int) ≤ 9223372036854775807 := by simp only [maxLen] at h63; omega
  rcases hown.2 with ⟨rfl, rfl⟩ | ⟨g, cap, cur, rfl, hbg, hg, hnc, hcm, hcs, htake⟩
  · have hx : xs = [] := List.eq_nil_of_length_eq_zero (by simpa using hown.1)
    subst hx
    by_cases hm : m = 0
    · subst hm
      have hn : news = [] := List.eq_nil_of_length_eq_zero (by simpa using hl)
      subst hn
      refine ⟨.slice none 0 0, w, ?_, World.ownsRow_nil w base e 1, ⟨rfl, rfl, rfl, Nat.le_refl _, fun _ _ _ => rfl⟩, by simp [Value.ownBlock]⟩
      have hlen0 := hs.len
      have hc0 := hs.cells
      rcases hs.kind with ⟨e', hk⟩ | hk <;> simp [Builtin.append_, run_underlying ht, run_underlying hk, sizeOf, typeInfo, hi, hlen0, hsize, hc0]
    · have hr := run_append_grow_src (P := P) w t tx ty e i z ht hi hz none 0 0 [] (by rw [hsize]; exact run_firstCells_none w.drew 1 0 0 0) x m news (by rw [hsize]; exact hs) (by omega) (by simpa using h63') (growslice_fits (by omega) hbytes)
      have hgr := grown 0 (by omega) (Value.ownBlock (.slice none 0 0))
      simp only [Nat.zero_add, List.nil_append] at hgr hr ⊢
      exact ⟨_, _, hr, hgr.1, hgr.2, by simp [Value.ownBlock]⟩
  · by_cases hroom : n + m ≤ cap
    · have hB : Blk w g e cur.toList := ⟨by simpa using hg⟩
      have hcl : cur.toList.length = cap := by simpa using hcs
      have hl1 : news.length = m := by simpa using hl
      have hx1 : xs.length = n := by simpa using hown.1
      have hr := run_append_room_src (P := P) w t tx ty e i ht hi g 0 n cap x m news (by rw [hsize]; exact hs) hroom
        (fun j hj => by rw [hsize, hB.cell (0 + n * 1 + j) _ (List.getElem?_eq_getElem (by omega))]; rfl) (fun j hj => by rw [hsize]; exact hB.frozen _)
      rw [hsize] at hr
      simp only [Nat.zero_add, Nat.mul_one] at hr
      have hB2 := hB.setCells news n (by omega)
      obtain ⟨o1, o2, o3⟩ := setCells_os g news n w
      refine ⟨_, _, hr, ⟨hlen, .inr ⟨g, cap, _, rfl, hbg, hB2.at_, hroom, hcm, ?_, ?_⟩⟩, ⟨o1, o2, o3, by rw [heap_size_setCells]; exact Nat.le_refl _, fun k _ hk => ?_⟩, fun g' h => .inl h⟩
      · simp only [List.size_toArray, List.length_append, List.length_take, List.length_drop]
        omega
      · have e1 : cur.toList.take n = xs := by rw [← htake, Nat.mul_one]
        show List.take ((n + m) * 1) _ = _
        rw [e1, List.take_append_of_le_length (by rw [List.length_append]; omega), List.take_of_length_le (by rw [List.length_append]; omega)]
      · exact heap_setCells_other g k news n w (fun e => hk (by rw [e]; rfl))
    · have holds : ∀ j u, xs[j]? = some u → w.drew.cell? ((⟨g, 0, none⟩ : Addr).add j) = some u := hown.cells (g := g) rfl
      have hr := run_append_grow_src (P := P) w t tx ty e i z ht hi hz (some ⟨g, 0, none⟩) n cap xs (by rw [hsize]; exact run_firstCells_some w.drew 1 n ⟨g, 0, none⟩ n cap xs hown.1 holds) x m news (by rw [hsize]; exact hs) (by omega) h63' (growslice_fits (by omega) hbytes)
      have hgr := grown cap (by omega) (Value.ownBlock (.slice (some ⟨g, 0, none⟩) n cap))
      exact ⟨_, _, hr, hgr.1, hgr.2, fun g' h => .inr (by simp [Value.ownBlock] at h; omega)⟩
theorem wpList_append_src (hw : Region.wanted o (yielded ops a.tmps) = true) (s x : Operand) (t tx : TypeId) (ho : o.op = .call { callee := .builtin .append, args := #[s, x], argTypes := #[t, tx] })
    (base : Nat) (e : TypeId) (i : TypeInfo) (z : Value) (bytes : Nat) (ht : P.underlying t = some (.slice e)) (hi : P.info? e = some i) (hz : i.zero = some z)
    (hsize : i.size = 1) (hby : i.bytes = bytes) (hzs : z.cells.size = 1) (v : Value) (hv : a.eval s = v) (xs : List Value) (hown : w.ownsRow base e 1 v xs.length xs)
    (vx : Value) (hx : a.eval x = vx) (news : List Value) (hs : Src P 1 tx vx news.length news w) (hbytes : (xs.length + news.length) * bytes ≤ 140737488355328) (hb0 : 0 < bytes) (hbase : base ≤ w.heap.size)
    (h : ∀ v' w', w'.ownsRow base e 1 v' (xs ++ news).length (xs ++ news) → w.grownBy w' v.ownBlock → (∀ g, v'.ownBlock = some g → v.ownBlock = some g ∨ w.heap.size ≤ g) → wpList P ops Q rest (a.put o.dst v') w') : wpList P ops Q (o :: rest) a w :=
  wpList_step fun _ hK => by
    rw [if_pos hw]
    have hm : xs.length + news.length ≤ maxLen := by
      have := Nat.le_mul_of_pos_right (xs.length + news.length) hb0
      simp only [maxLen]; omega
    obtain ⟨v', w', hrun, h1, h2, h3⟩ := run_append_own_src (P := P) w base t tx o.type e i z bytes ht hi hz hsize hby hzs v xs.length xs hown vx news.length news hs hm hbytes hbase
    unfold Oper.wp
    simp [execOp, ho, resolve, invoke, builtin, hv, hx, hrun, Result.andThen]
    exact hK _ _ (h v' w' (by rw [List.length_append]; exact h1) h2 h3)
theorem Sl.src {tx e' : TypeId} (hk : P.underlying tx = some (.slice e')) {ao n cap C} (h : Sl w ao n cap C) (h1 : ∀ u ∈ C, u.oneCell' = true) : Src P 1 tx (.slice ao n cap) C.length C w := by
  have hl := h.len
  by_cases hne : C = []
  · subst hne
    cases ao with
    | none =>
      have : cap = 0 := h.nil rfl
      subst this
      simp at hl; subst hl
      exact Src.ofNil w hk 0
    | some ad =>
      simp at hl; subst hl
      exact Src.ofSlice w hk ad 0 cap [] rfl (by simp) (by simp)
  · obtain ⟨b, off, rfl, hc⟩ := h.cells hne
    rw [hl]
    refine Src.ofSlice w hk ⟨b, off, none⟩ n cap C (by omega) (fun j u hu => ?_) h1
    have := hc j u hu
    by_cases hj : j = 0
    · subst hj; exact this
    · simpa [Addr.add, hj] using this
/-- An element's place. -/
theorem wpList_ix_sl (hw : Region.wanted o (yielded ops a.tmps) = true) (t e : TypeId) (s x : Operand) (ho : o.op = .indexAddr t s x) (ht : P.underlying t = some (.slice e)) (hz : ∀ w, (sizeOf e).run P w = .ok 1 w)
    (ao : Option Addr) (n cap : Nat) (hs : a.eval s = .slice ao n cap) (C : List Value) (hc : Sl w ao n cap C) (k : Nat) (hk : k < n) (hx : a.eval x = .int .i64 k)
    (h : ∀ b off u, C[k]? = some u → w.cell? ⟨b, off + k, none⟩ = some u → wpList P ops Q rest (a.put o.dst (.pointer (some ⟨b, off + k, none⟩))) w) : wpList P ops Q (o :: rest) a w :=
  wpList_step fun _ hK => by
    rw [if_pos hw]
    have hkl : k < C.length := by rw [hc.len]; exact hk
    obtain ⟨b, off, rfl, hcell⟩ := hc.at_ k _ (List.getElem?_eq_getElem hkl)
    have hrun : (Instr.indexAt t (.slice (some ⟨b, off, none⟩) n cap) (.int .i64 k)).run P w = .ok (.pointer (some ⟨b, off + k, none⟩)) w := by
      have hkn : (k : Int) < n := by omega
      by_cases h0 : k = 0
      · subst h0
        simp [Instr.indexAt, asIntOf, run_underlying ht, hz, hkn, Addr.add]
        intro h; omega
      · simp [Instr.indexAt, asIntOf, run_underlying ht, hz, hkn, Addr.add, h0]
        intro h; omega
    unfold Oper.wp
    simp [execOp, ho, hs, hx, hrun, Result.andThen]
    exact hK _ _ (h b off _ (List.getElem?_eq_getElem hkl) hcell)
end
end Go.Proofs.Ytaineoceiciloaa
