/- Sentences as lists of nodes: the plain functions that package formula computes. No program in sight. -/
import Derived.Test.YtippljiicnpieaaBase2
namespace Go.Proofs.Ytippljiicnpieaa
open Go.RowKit

/-- A node: its kind, and two numbers. -/
structure Nd where
  k : Int
  a : Int
  b : Int
  deriving DecidableEq
abbrev Nds := List Nd
def ndCells (l : Nds) : List Value := l.flatMap fun n => [.int .i64 n.k, .int .i64 n.a, .int .i64 n.b]
theorem ndCells_length (l : Nds) : (ndCells l).length = l.length * 3 := by
  induction l with
  | nil => rfl
  | cons s l ih => simp only [ndCells, List.flatMap_cons, List.length_append, List.length_cons, List.length_nil] at *; omega
theorem ndCells_one (l : Nds) : ∀ u ∈ ndCells l, u.oneCell' = true := by
  intro u hu; simp only [ndCells, List.mem_flatMap, List.mem_cons, List.not_mem_nil, or_false] at hu
  obtain ⟨s, -, rfl | rfl | rfl⟩ := hu <;> rfl
theorem ndCells_append (l m : Nds) : ndCells (l ++ m) = ndCells l ++ ndCells m := by simp [ndCells]
theorem ndCells_get (l : Nds) (i : Nat) (h : i < l.length) : (ndCells l)[i * 3]? = some (.int .i64 l[i].k) ∧ (ndCells l)[i * 3 + 1]? = some (.int .i64 l[i].a) ∧ (ndCells l)[i * 3 + 2]? = some (.int .i64 l[i].b) := by
  induction l generalizing i with
  | nil => simp at h
  | cons s l ih =>
    cases i with
    | zero => simp [ndCells]
    | succ i =>
      have := ih i (by simpa using h)
      have e : ndCells (s :: l) = .int .i64 s.k :: .int .i64 s.a :: .int .i64 s.b :: ndCells l := rfl
      rw [e, show (i + 1) * 3 = i * 3 + 1 + 1 + 1 from by omega]
      simpa using this
def NdsAt (w : World) (v : Value) (l : Nds) : Prop := CellsAt w v l.length (ndCells l)
theorem NdsAt.below {w w' : World} {v : Value} {l : Nds} (h : NdsAt w v l) (hb : Below w.heap.size w w') : NdsAt w' v l := CellsAt.below h hb
theorem NdsAt.open_ {w : World} {v : Value} {l : Nds} (h : NdsAt w v l) : ∃ a cap, v = .slice a l.length cap ∧ l.length ≤ cap ∧ l.length ≤ 140737488355328 ∧ (a = none → cap = 0) ∧
    (l = [] ∨ ∃ b off, a = some ⟨b, off, none⟩ ∧ b < w.heap.size ∧ ∀ i (h : i < l.length), w.cell? ⟨b, off + i * 3, none⟩ = some (.int .i64 l[i].k) ∧ w.cell? ⟨b, off + i * 3 + 1, none⟩ = some (.int .i64 l[i].a) ∧ w.cell? ⟨b, off + i * 3 + 2, none⟩ = some (.int .i64 l[i].b)) := by
  obtain ⟨a, cap, hv, hn, hm, h0, h⟩ := h
  refine ⟨a, cap, hv, hn, hm, h0, ?_⟩
  rcases h with h | ⟨b, off, ha, hlt, hc⟩
  · left
    cases l with
    | nil => rfl
    | cons s l => simp [ndCells] at h
  · refine .inr ⟨b, off, ha, hlt, fun i hi => ?_⟩
    obtain ⟨g1, g2, g3⟩ := ndCells_get l i hi
    exact ⟨hc _ _ g1, by rw [Nat.add_assoc]; exact hc _ _ g2, by rw [Nat.add_assoc]; exact hc _ _ g3⟩

/-- formula.Check at one node, the i-th. -/
def ndChk (i : Nat) (n : Nd) : Int :=
  if n.k = 1 then 0
  else if n.k = 2 then (if n.a < 0 ∨ 4 ≤ n.a then 1 else 0)
  else if n.k = 3 then (if n.a < 0 ∨ 32 < n.b ∨ n.b ≤ n.a then 1 else 0)
  else if n.k = 4 then (if n.a < 0 ∨ (i : Int) ≤ n.a then 1 else 0)
  else if n.k = 5 ∨ n.k = 6 then (if n.a < 0 ∨ (i : Int) ≤ n.a ∨ n.b < 0 ∨ (i : Int) ≤ n.b then 1 else 0)
  else 3
/-- .. of all from the i-th on. -/
def ndsFrom : Nat → Nds → Int
  | _, [] => 0
  | i, n :: l => if ndChk i n = 0 then ndsFrom (i + 1) l else ndChk i n
def formChk (l : Nds) : Int := if l.length = 0 ∨ 30 < l.length then 2 else ndsFrom 0 l

theorem ndsFrom_ok (l : Nds) (k : Nat) (hk : k < l.length) (h : ndChk k l[k] = 0) : ndsFrom k (l.drop k) = ndsFrom (k + 1) (l.drop (k + 1)) := by
  rw [List.drop_eq_getElem_cons hk]; simp only [ndsFrom]; rw [if_pos h]
theorem ndsFrom_bad (l : Nds) (k : Nat) (hk : k < l.length) (h : ndChk k l[k] ≠ 0) : ndsFrom k (l.drop k) = ndChk k l[k] := by
  rw [List.drop_eq_getElem_cons hk]; simp only [ndsFrom]; rw [if_neg h]
theorem ndsFrom_all (l : Nds) (i : Nat) (h : ndsFrom i l = 0) : ∀ k (hk : k < l.length), ndChk (i + k) l[k] = 0 := by
  induction l generalizing i with
  | nil => intro k hk; simp at hk
  | cons n l ih =>
    simp only [ndsFrom] at h
    by_cases h1 : ndChk i n = 0
    · rw [if_pos h1] at h
      intro k hk
      cases k with
      | zero => simpa using h1
      | succ k =>
        have := ih (i + 1) h k (by simpa using hk)
        rw [show i + (k + 1) = i + 1 + k from by omega]; simpa using this
    · rw [if_neg h1] at h; exact absurd h h1
theorem formChk_all {l : Nds} (h : formChk l = 0) : 0 < l.length ∧ l.length ≤ 30 ∧ ∀ k (hk : k < l.length), ndChk k l[k] = 0 := by
  unfold formChk at h
  split at h
  · simp at h
  · refine ⟨by omega, by omega, fun k hk => ?_⟩
    have := ndsFrom_all l 0 h k hk
    simpa using this
/-- What a node may be. -/
theorem ndChk_zero {i : Nat} {x : Nd} (h : ndChk i x = 0) : x.k = 1 ∨ (x.k = 2 ∧ 0 ≤ x.a ∧ x.a < 4) ∨ (x.k = 3 ∧ 0 ≤ x.a ∧ x.a < x.b ∧ x.b ≤ 32) ∨ (x.k = 4 ∧ 0 ≤ x.a ∧ x.a < i) ∨ ((x.k = 5 ∨ x.k = 6) ∧ 0 ≤ x.a ∧ x.a < i ∧ 0 ≤ x.b ∧ x.b < i) := by
  unfold ndChk at h
  repeat' split at h
  all_goals first | omega | (simp at h)
end Go.Proofs.Ytippljiicnpieaa
