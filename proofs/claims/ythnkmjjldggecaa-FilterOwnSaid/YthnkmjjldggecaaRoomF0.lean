/- Filters with room behind their lists: what memory holds. No walk here. -/
import Derived.Test.YthnkmjjldggecaaSpoil0
import Derived.Test.YthnkmjjldggecaaMFilterP
namespace Go.Proofs.Ythnkmjjldggecaa
open Go.RowKit
def spB : List Value := (List.replicate 3 [Value.int .i64 77, .int .i64 0, .slice none 0 0]).flatten
def spS : List Value := (List.replicate 3 [Value.int .i64 78, .int .i64 0]).flatten
/-- A filter with room behind its lists, all of it the call's own. -/
def RoomF (w : World) (base : Nat) (v : Value) (l : Bxs) : Prop :=
  ∃ us : List Value, us.length = l.length ∧ Roomy w base 125 3 v l.length (bxCells l us) spB ∧ ∀ i (h : i < l.length) (h' : i < us.length), Roomy w base 50 2 us[i] l[i].sp.length (spansCells l[i].sp) spS
theorem RoomF.below {w w' : World} {base : Nat} {v : Value} {l : Bxs} (h : RoomF w base v l) (hb : Below w.heap.size w w') : RoomF w' base v l := by
  obtain ⟨us, h1, h2, h3⟩ := h
  exact ⟨us, h1, h2.below hb, fun i hi hi' => (h3 i hi hi').below hb⟩
theorem RoomF.mono {w : World} {base base' : Nat} {v : Value} {l : Bxs} (h : RoomF w base v l) (hb : base' ≤ base) : RoomF w base' v l := by
  obtain ⟨us, h1, h2, h3⟩ := h
  exact ⟨us, h1, h2.mono hb, fun i hi hi' => (h3 i hi hi').mono hb⟩
theorem RoomF.own {w : World} {base : Nat} {v : Value} {l : Bxs} (h : RoomF w base v l) : BxsOwn w base 125 50 v l := by
  obtain ⟨us, h1, h2, h3⟩ := h
  exact ⟨us, h1, h2.owns, fun i hi hi' => (h3 i hi hi').owns⟩
theorem RoomF.at_ {w : World} {base : Nat} {v : Value} {l : Bxs} (h : RoomF w base v l) (hl : l.length ≤ 140737488355328) (hs : ∀ b ∈ l, b.sp.length ≤ 140737488355328) : BxsAt w v l := by
  obtain ⟨us, h1, h2, h3⟩ := h
  exact ⟨us, h1, CellsAt.of_owns h2.owns hl, fun i hi hi' => CellsAt.of_owns (h3 i hi hi').owns (hs _ (List.getElem_mem hi))⟩
/-- Sizes that came in. -/
structure SzF (l : Bxs) : Prop where
  len : l.length * 40 ≤ 140737488355328
  sp : ∀ b ∈ l, b.sp.length * 16 ≤ 140737488355328
theorem SzF.l {l : Bxs} (h : SzF l) : l.length ≤ 140737488355328 := by have := h.len; omega
theorem SzF.s {l : Bxs} (h : SzF l) : ∀ b ∈ l, b.sp.length ≤ 140737488355328 := fun b hb => by have := h.sp b hb; omega
theorem bxCells_at {l : Bxs} {us : List Value} (hu : us.length = l.length) {k : Nat} (hk : k < l.length) : (bxCells l us)[k * 3]? = some (.int .i64 l[k].y) ∧ (bxCells l us)[k * 3 + 1]? = some (.int .i64 l[k].n) ∧ (bxCells l us)[k * 3 + 2]? = us[k]? := by
  induction l generalizing us k with
  | nil => simp at hk
  | cons b l ih =>
    cases us with
    | nil => simp at hu
    | cons u us =>
      cases k with
      | zero => exact ⟨rfl, rfl, rfl⟩
      | succ k =>
        obtain ⟨a1, a2, a3⟩ := ih (us := us) (by simpa using hu) (k := k) (by simpa using hk)
        rw [show (k + 1) * 3 = k * 3 + 3 by omega]
        exact ⟨a1, a2, a3⟩
theorem bxCells_set {l : Bxs} {us : List Value} (hu : us.length = l.length) {k : Nat} (hk : k < l.length) (u : Value) : bxCells l (us.set k u) = (bxCells l us).set (k * 3 + 2) u := by
  induction l generalizing us k with
  | nil => simp at hk
  | cons b l ih =>
    cases us with
    | nil => simp at hu
    | cons u' us =>
      cases k with
      | zero => rfl
      | succ k =>
        have := ih (us := us) (by simpa using hu) (k := k) (by simpa using hk)
        rw [show (k + 1) * 3 + 2 = (k * 3 + 2) + 3 by omega]
        show Value.int .i64 b.y :: .int .i64 b.n :: u' :: bxCells l (us.set k u) = _
        rw [this]; rfl
/-- While the lists of the boxes are copied: k of them are. -/
structure RmSt (w0 w : World) (v : Value) (l : Bxs) (us0 : List Value) (k : Nat) (us : List Value) : Prop where
  bel : Below w0.heap.size w0 w
  len : us.length = l.length
  row : Roomy w w0.heap.size 125 3 v l.length (bxCells l us) spB
  new : ∀ i (h : i < l.length) (h' : i < us.length), i < k → Roomy w w0.heap.size 50 2 us[i] l[i].sp.length (spansCells l[i].sp) spS
  old : ∀ i, k ≤ i → us[i]? = us0[i]?
theorem RmSt.step {w0 w w2 : World} {l : Bxs} {us0 us : List Value} {k g c : Nat} {u : Value} (h : RmSt w0 w (.slice (some ⟨g, 0, none⟩) l.length c) l us0 k us) (hk : k < l.length) (hb : Below w.heap.size w w2) (hu : Roomy w2 w.heap.size 50 2 u l[k].sp.length (spansCells l[k].sp) spS) : RmSt w0 (w2.setCell ⟨g, k * 3 + 2, none⟩ u) (.slice (some ⟨g, 0, none⟩) l.length c) l us0 (k + 1) (us.set k u) := by
  obtain ⟨g', h1, h2, h3⟩ := (h.row.below hb).row
  have h1' := h1
  simp only [Value.slice.injEq, Option.some.injEq, Addr.mk.injEq, and_true] at h1'
  obtain ⟨rfl, hc⟩ := h1'
  refine ⟨(bstep h.bel hb).setCell h2 _, by rw [List.length_set]; exact h.len, ?_, ?_, ?_⟩
  · refine ⟨by rw [bxCells_length _ _ (by rw [List.length_set]; exact h.len)], h.row.ls, h.row.mx, g, h1, h2, ?_⟩
    rw [heap_set_same h3, List.setIfInBounds_toArray, List.set_append, if_pos (by rw [bxCells_length _ _ h.len]; omega), bxCells_set h.len hk]
  · intro i hi hi' hik
    rw [List.length_set] at hi'
    by_cases he : i = k
    · subst he
      simp only [List.getElem_set_self]
      exact (hu.mono (h.bel.size)).setOther h3 (by decide)
    · rw [List.getElem_set_ne (by omega)]
      exact ((h.new i hi hi' (by omega)).below hb).setOther h3 (by decide)
  · intro i hi
    rw [List.getElem?_set_ne (by omega)]
    exact h.old i (by omega)
theorem RmSt.done {w0 w : World} {v : Value} {l : Bxs} {us0 us : List Value} (h : RmSt w0 w v l us0 l.length us) : RoomF w w0.heap.size v l := ⟨us, h.len, h.row, fun i hi hi' => h.new i hi hi' hi⟩
/-- A filter whose memory lies between two marks. -/
structure OwnF (w : World) (lo hi : Nat) (v : Value) (l : Bxs) : Prop where
  own : ∃ us : List Value, us.length = l.length ∧ w.ownsRow lo 125 3 v l.length (bxCells l us) ∧ (∀ i (h : i < l.length) (h' : i < us.length), w.ownsRow lo 50 2 us[i] l[i].sp.length (spansCells l[i].sp)) ∧ InR lo hi v ∧ ∀ u ∈ us, InR lo hi u
theorem OwnF.of_own {w : World} {base : Nat} {v : Value} {l : Bxs} (h : BxsOwn w base 125 50 v l) : OwnF w base w.heap.size v l := by
  obtain ⟨us, h1, h2, h3⟩ := h
  refine ⟨us, h1, h2, h3, inR_owns h2, fun u hu => ?_⟩
  obtain ⟨i, hi, rfl⟩ := List.mem_iff_getElem.1 hu
  exact inR_owns (h3 i (by omega) hi)
theorem OwnF.nil (w : World) (lo hi : Nat) : OwnF w lo hi (.slice none 0 0) [] := ⟨[], rfl, World.ownsRow_nil _ _ _ _, fun i h => by simp at h, fun k hk => by simp [Value.ownBlock] at hk, by simp⟩
theorem OwnF.sp {S : Nat → Prop} {w w' : World} {lo hi : Nat} {v : Value} {l : Bxs} (h : OwnF w lo hi v l) (hs : Sp S w w') (hd : ∀ k, lo ≤ k → k < hi → ¬ S k) : OwnF w' lo hi v l := by
  obtain ⟨us, h1, h2, h3, h4, h5⟩ := h
  exact ⟨us, h1, owns_sp h2 hs fun k hk => hd k (h4 k hk).1 (h4 k hk).2, fun i hi hi' => owns_sp (h3 i hi hi') hs fun k hk => hd k (h5 _ (List.getElem_mem hi') k hk).1 (h5 _ (List.getElem_mem hi') k hk).2, h4, h5⟩
theorem OwnF.below {w w' : World} {lo hi : Nat} {v : Value} {l : Bxs} (h : OwnF w lo hi v l) (hb : Below w.heap.size w w') : OwnF w' lo hi v l := h.sp (S := fun _ => False) (Sp.of_below hb) fun _ _ _ h => h
theorem OwnF.at_ {w : World} {lo hi : Nat} {v : Value} {l : Bxs} (h : OwnF w lo hi v l) (hz : SzF l) : BxsAt w v l := by
  obtain ⟨us, h1, h2, h3, -⟩ := h
  exact ⟨us, h1, CellsAt.of_owns h2 hz.l, fun i hi hi' => CellsAt.of_owns (h3 i hi hi') (hz.s _ (List.getElem_mem hi))⟩
end Go.Proofs.Ythnkmjjldggecaa
