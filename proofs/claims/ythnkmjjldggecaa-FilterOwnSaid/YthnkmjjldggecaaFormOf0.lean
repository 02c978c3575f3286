/- The sentence of a filter, as formula.Of makes it: the plain functions, and what it says. No program in sight. -/
import Derived.Test.YthnkmjjldggecaaFormLaw0
import Derived.Test.YthnkmjjldggecaaMFilterP
namespace Go.Proofs.Ythnkmjjldggecaa
open Go.RowKit
def tagNone (y n : Int) (t : Nat) : Bool := bits .and .i64 (bits .or .i64 y n / 2 ^ t) 1 == 0
def tagNo (n : Int) (t : Nat) : Bool := bits .and .i64 (n / 2 ^ t) 1 == 1
def ofTag (y n : Int) (st : Nds × Nat) (t : Nat) : Nds × Nat :=
  if tagNone y n t then st
  else if tagNo n t then (((st.1 ++ [⟨2, t, 0⟩]) ++ [⟨4, st.1.length, 0⟩]) ++ [⟨5, st.2, (st.1.length + 1 : Nat)⟩], st.1.length + 2)
  else ((st.1 ++ [⟨2, t, 0⟩]) ++ [⟨5, st.2, st.1.length⟩], st.1.length + 1)
def ofTags (y n : Int) (st : Nds × Nat) (k : Nat) : Nds × Nat := (List.range k).foldl (ofTag y n) st
theorem ofTags_succ (y n : Int) (st : Nds × Nat) (k : Nat) : ofTags y n st (k + 1) = ofTag y n (ofTags y n st k) k := by simp [ofTags, List.range_succ]
def ofSpan (st : Nds × Nat) (s : Int × Int) : Nds × Nat := ((st.1 ++ [⟨3, s.1, s.2⟩]) ++ [⟨6, st.2, st.1.length⟩], st.1.length + 1)
def ofSpans (st : Nds × Nat) (l : Spans) : Nds × Nat := l.foldl ofSpan st
theorem ofSpans_snoc (st : Nds × Nat) (l : Spans) (s : Int × Int) : ofSpans st (l ++ [s]) = ofSpan (ofSpans st l) s := by simp [ofSpans]
def ofBox (st : Nds × Nat) (b : Bx) : Nds × Nat :=
  let a := ofTags b.y b.n (st.1, 0) 4
  let i := ofSpans (a.1, 1) b.sp
  ((i.1 ++ [⟨5, a.2, i.2⟩]) ++ [⟨6, st.2, i.1.length⟩], i.1.length + 1)
def ofAll (f : Bxs) : Nds × Nat := f.foldl ofBox ([⟨1, 0, 0⟩, ⟨4, 0, 0⟩], 1)
theorem ofAll_snoc (f : Bxs) (b : Bx) : ofAll (f ++ [b]) = ofBox (ofAll f) b := by simp [ofAll]
def ofE (f : Bxs) : Int := if fChk f = 0 then (if 30 < (ofAll f).1.length then 2 else 0) else fChk f
def ofL (f : Bxs) : Nds := if ofE f = 0 then (ofAll f).1 else []

theorem ofTag_len (y n : Int) (st : Nds × Nat) (t : Nat) : st.1.length ≤ (ofTag y n st t).1.length ∧ (ofTag y n st t).1.length ≤ st.1.length + 3 := by
  unfold ofTag; split
  · omega
  split <;> simp
theorem ofTags_len (y n : Int) (st : Nds × Nat) (k : Nat) : st.1.length ≤ (ofTags y n st k).1.length ∧ (ofTags y n st k).1.length ≤ st.1.length + 3 * k := by
  induction k with
  | zero => simp [ofTags]
  | succ k ih => rw [ofTags_succ]; have := ofTag_len y n (ofTags y n st k) k; omega
theorem ofSpans_len (st : Nds × Nat) (l : Spans) : (ofSpans st l).1.length = st.1.length + 2 * l.length := by
  induction l generalizing st with
  | nil => simp [ofSpans]
  | cons s l ih => have := ih (ofSpan st s); simp only [ofSpans, List.foldl_cons, List.length_cons] at *; rw [this]; simp [ofSpan]; omega
theorem ofBox_len (st : Nds × Nat) (b : Bx) (h : b.sp.length ≤ 16) : (ofBox st b).1.length ≤ st.1.length + 46 := by
  have h1 := ofTags_len b.y b.n (st.1, 0) 4
  have h2 := ofSpans_len ((ofTags b.y b.n (st.1, 0) 4).1, 1) b.sp
  simp only [ofBox, List.length_append, List.length_singleton] at *
  omega
theorem ofAll_len (f : Bxs) : (∀ b ∈ f, bxChk b = 0) → (ofAll f).1.length ≤ 2 + 46 * f.length := by
  refine snoc_ind (p := fun f => (∀ b ∈ f, bxChk b = 0) → (ofAll f).1.length ≤ 2 + 46 * f.length) ?_ ?_ f
  · intro _; simp [ofAll]
  · intro l b ih h
    have := ih fun x hx => h x (List.mem_append_left _ hx)
    have hb := (spansChk_bounds (bxChk_zero.1 (h b (by simp))).2).1
    rw [ofAll_snoc]
    have := ofBox_len (ofAll l) b hb
    simp; omega

end Go.Proofs.Ythnkmjjldggecaa
