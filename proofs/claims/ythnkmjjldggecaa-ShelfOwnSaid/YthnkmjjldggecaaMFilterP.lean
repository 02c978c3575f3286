/- Filters as lists of boxes: the plain functions that package filter computes. No program in sight. Cubes of four tags, small facts by counting; the state of filter.boxes. No program in sight. -/
import Derived.Test.YthnkmjjldggecaaMSpan
import Derived.Test.YthnkmjjldggecaaBase2
import Derived.Test.YthnkmjjldggecaaMForm
import Derived.Laws.BitsAllLaws
namespace Go.Proofs.Ythnkmjjldggecaa
open Go.RowKit

structure Bx where
  y : Int
  n : Int
  sp : Spans
abbrev Bxs := List Bx
def bxCells : Bxs → List Value → List Value
  | b :: l, u :: us => .int .i64 b.y :: .int .i64 b.n :: u :: bxCells l us
  | _, _ => []
theorem bxCells_length (l : Bxs) (us : List Value) (h : us.length = l.length) : (bxCells l us).length = l.length * 3 := by
  induction l generalizing us with
  | nil => simp [bxCells]
  | cons b l ih => cases us with
    | nil => simp at h
    | cons u us => have := ih us (by simpa using h); simp only [bxCells, List.length_cons, this]; omega
theorem bxCells_get (l : Bxs) (us : List Value) (h : us.length = l.length) (i : Nat) (hi : i < l.length) : (bxCells l us)[i * 3]? = some (.int .i64 l[i].y) ∧ (bxCells l us)[i * 3 + 1]? = some (.int .i64 l[i].n) ∧ (bxCells l us)[i * 3 + 2]? = some (us[i]'(by omega)) := by
  induction l generalizing us i with
  | nil => simp at hi
  | cons b l ih => cases us with
    | nil => simp at h
    | cons u us =>
      cases i with
      | zero => simp [bxCells]
      | succ i =>
        have := ih us (by simpa using h) i (by simpa using hi)
        rw [show (i + 1) * 3 = i * 3 + 1 + 1 + 1 from by omega]
        simpa [bxCells] using this
theorem bxCells_append (l m : Bxs) (us vs : List Value) (h : us.length = l.length) : bxCells (l ++ m) (us ++ vs) = bxCells l us ++ bxCells m vs := by
  induction l generalizing us with
  | nil => simp only [List.length_nil, List.length_eq_zero_iff] at h; subst h; simp [bxCells]
  | cons b l ih => cases us with
    | nil => simp at h
    | cons u us => simp only [List.cons_append, bxCells]; rw [ih us (by simpa using h)]
/-- v holds the boxes l. -/
def BxsAt (w : World) (v : Value) (l : Bxs) : Prop :=
  ∃ us : List Value, us.length = l.length ∧ CellsAt w v l.length (bxCells l us) ∧ ∀ i (h : i < l.length) (h' : i < us.length), SpansAt w us[i] l[i].sp
theorem BxsAt.below {w w' : World} {v : Value} {l : Bxs} (h : BxsAt w v l) (hb : Below w.heap.size w w') : BxsAt w' v l := by
  obtain ⟨us, h1, h2, h3⟩ := h
  exact ⟨us, h1, h2.below hb, fun i hi hi' => (h3 i hi hi').below hb⟩
theorem BxsAt.shape {w : World} {v : Value} {l : Bxs} (h : BxsAt w v l) : ∃ a cap, v = .slice a l.length cap := by
  obtain ⟨us, -, h, -⟩ := h; exact h.shape
theorem BxsAt.nil (w : World) : BxsAt w (.slice none 0 0) [] := ⟨[], rfl, CellsAt.nil w, fun i h => by simp at h⟩
theorem BxsAt.open_ {w : World} {v : Value} {l : Bxs} (h : BxsAt w v l) : ∃ a cap, v = .slice a l.length cap ∧ l.length ≤ cap ∧ l.length ≤ 140737488355328 ∧ (a = none → cap = 0) ∧
    (l = [] ∨ ∃ b off, a = some ⟨b, off, none⟩ ∧ b < w.heap.size ∧ ∀ i (h : i < l.length), ∃ u, w.cell? ⟨b, off + i * 3, none⟩ = some (.int .i64 l[i].y) ∧ w.cell? ⟨b, off + i * 3 + 1, none⟩ = some (.int .i64 l[i].n) ∧ w.cell? ⟨b, off + i * 3 + 2, none⟩ = some u ∧ SpansAt w u l[i].sp) := by
  obtain ⟨us, hu, ⟨a, cap, hv, hn, hm, h0, h⟩, hs⟩ := h
  refine ⟨a, cap, hv, hn, hm, h0, ?_⟩
  rcases h with h | ⟨b, off, ha, hlt, hc⟩
  · left
    have := bxCells_length l us hu
    rw [h] at this
    exact List.eq_nil_of_length_eq_zero (by simp at this; omega)
  · refine .inr ⟨b, off, ha, hlt, fun i hi => ⟨us[i]'(by omega), ?_⟩⟩
    obtain ⟨g1, g2, g3⟩ := bxCells_get l us hu i hi
    exact ⟨hc _ _ g1, by rw [Nat.add_assoc]; exact hc _ _ g2, by rw [Nat.add_assoc]; exact hc _ _ g3, hs i hi (by omega)⟩

/-- filter.Check at one box, at all. -/
def bxChk (b : Bx) : Int := if cubeChk b.y b.n = 0 then spansChk b.sp else cubeChk b.y b.n
def bxsFrom : Bxs → Int
  | [] => 0
  | b :: l => if bxChk b = 0 then bxsFrom l else bxChk b
def fChk (l : Bxs) : Int := if 40 < l.length then 2 else bxsFrom l
theorem bxsFrom_ok (l : Bxs) (k : Nat) (hk : k < l.length) (h : bxChk l[k] = 0) : bxsFrom (l.drop k) = bxsFrom (l.drop (k + 1)) := by
  rw [List.drop_eq_getElem_cons hk]; simp only [bxsFrom]; rw [if_pos h]
theorem bxsFrom_bad (l : Bxs) (k : Nat) (hk : k < l.length) (h : bxChk l[k] ≠ 0) : bxsFrom (l.drop k) = bxChk l[k] := by
  rw [List.drop_eq_getElem_cons hk]; simp only [bxsFrom]; rw [if_neg h]
theorem bxsFrom_all {l : Bxs} (h : bxsFrom l = 0) : ∀ b ∈ l, bxChk b = 0 := by
  induction l with
  | nil => intro b hb; simp at hb
  | cons x l ih =>
    simp only [bxsFrom] at h
    by_cases hx : bxChk x = 0
    · rw [if_pos hx] at h
      intro b hb
      rcases List.mem_cons.1 hb with rfl | hb
      · exact hx
      · exact ih h b hb
    · rw [if_neg hx] at h; exact absurd h hx
theorem bxsFrom_of {l : Bxs} (h : ∀ b ∈ l, bxChk b = 0) : bxsFrom l = 0 := by
  induction l with
  | nil => rfl
  | cons x l ih => simp only [bxsFrom]; rw [if_pos (h x List.mem_cons_self)]; exact ih fun b hb => h b (List.mem_cons_of_mem _ hb)
theorem fChk_zero {l : Bxs} : fChk l = 0 ↔ l.length ≤ 40 ∧ ∀ b ∈ l, bxChk b = 0 := by
  unfold fChk
  split
  · constructor
    · intro h; simp at h
    · intro ⟨h, _⟩; omega
  · exact ⟨fun h => ⟨by omega, bxsFrom_all h⟩, fun h => bxsFrom_of h.2⟩
theorem bxChk_zero {b : Bx} : bxChk b = 0 ↔ cubeChk b.y b.n = 0 ∧ spansChk b.sp = 0 := by
  unfold bxChk; split <;> simp_all

end Go.Proofs.Ythnkmjjldggecaa
namespace Go.Proofs.Ythnkmjjldggecaa
open Go.RowKit

/-- The boxes' rows in memory. -/
def BxsOwn (w : World) (base eB eS : Nat) (v : Value) (l : Bxs) : Prop :=
  ∃ us : List Value, us.length = l.length ∧ w.ownsRow base eB 3 v l.length (bxCells l us) ∧ ∀ i (h : i < l.length) (h' : i < us.length), w.ownsRow base eS 2 us[i] l[i].sp.length (spansCells l[i].sp)
theorem BxsOwn.nil (w : World) (base eB eS : Nat) : BxsOwn w base eB eS (.slice none 0 0) [] := ⟨[], rfl, World.ownsRow_nil _ _ _ _, fun i h => by simp at h⟩
theorem BxsOwn.below {w w' : World} {base eB eS : Nat} {v : Value} {l : Bxs} (h : BxsOwn w base eB eS v l) (hb : Below w.heap.size w w') : BxsOwn w' base eB eS v l := by
  obtain ⟨us, h1, h2, h3⟩ := h
  exact ⟨us, h1, owns_below h2 hb, fun i hi hi' => owns_below (h3 i hi hi') hb⟩
theorem BxsOwn.at_ {w : World} {base eB eS : Nat} {v : Value} {l : Bxs} (h : BxsOwn w base eB eS v l) (hl : l.length ≤ 1000) (hok : ∀ b ∈ l, bxChk b = 0) : BxsAt w v l := by
  obtain ⟨us, h1, h2, h3⟩ := h
  refine ⟨us, h1, CellsAt.of_owns h2 (by omega), fun i hi hi' => CellsAt.of_owns (h3 i hi hi') ?_⟩
  have := (spansChk_bounds (bxChk_zero.1 (hok _ (List.getElem_mem hi))).2).1
  omega
theorem BxsOwn.shape {w : World} {base eB eS : Nat} {v : Value} {l : Bxs} (h : BxsOwn w base eB eS v l) : ∃ a cap, v = .slice a l.length cap := by
  obtain ⟨us, -, h, -⟩ := h; exact owns_slice h
end Go.Proofs.Ythnkmjjldggecaa
