/- Parts of what is known: of which points which dots; what package part computes, plainly. No program in sight. -/
import Derived.Test.YtboakoipdfmpcaaMFilterP
import Derived.Test.YtboakoipdfmpcaaMKnow7
namespace Go.Proofs.Ytboakoipdfmpcaa
open Go.RowKit
/-- A part as it stands in memory. -/
structure Pt where
  f : Bxs
  k : Kn
/-- What a part says. -/
structure SP where
  p : Nat → Nat → Bool
  k : Kn
def ptsOf (f : Bxs) : Nat → Nat → Bool := fun t n => decide (t < 16) && decide (n < 32) && inF f t n
theorem ptsOf_in {f : Bxs} {t n : Nat} (ht : t < 16) (hn : n < 32) : ptsOf f t n = inF f t n := by simp [ptsOf, ht, hn]
theorem ptsOf_out {f : Bxs} {t n : Nat} (h : ¬ (t < 16 ∧ n < 32)) : ptsOf f t n = false := by
  unfold ptsOf
  by_cases ht : t < 16
  · have hn : ¬ n < 32 := fun hn => h ⟨ht, hn⟩
    simp [hn]
  · simp [ht]
/-- No point is out of range. -/
def PRng (p : Nat → Nat → Bool) : Prop := ∀ t n, ¬ (t < 16 ∧ n < 32) → p t n = false
theorem ptsOf_rng (f : Bxs) : PRng (ptsOf f) := fun _ _ h => ptsOf_out h
theorem PRng.ext {p q : Nat → Nat → Bool} (hp : PRng p) (hq : PRng q) (h : ∀ t n, t < 16 → n < 32 → p t n = q t n) : p = q := by
  funext t n
  by_cases hr : t < 16 ∧ n < 32
  · exact h t n hr.1 hr.2
  · rw [hp t n hr, hq t n hr]
def sem (x : Pt) : SP := ⟨ptsOf x.f, x.k⟩
def ptChk (x : Pt) : Int := if fChk x.f = 0 then knChk x.k else fChk x.f
def ptsFrom : List Pt → Int
  | [] => 0
  | x :: l => if ptChk x = 0 then ptsFrom l else ptChk x
def ptsChk (l : List Pt) : Int := if 30 < l.length then 2 else ptsFrom l
/-- A part that may be. -/
structure PtOk (x : Pt) : Prop where
  f : fChk x.f = 0
  k : knChk x.k = 0
theorem ptChk_zero {x : Pt} : ptChk x = 0 ↔ PtOk x := by
  unfold ptChk
  constructor
  · intro h
    split at h
    · rename_i hf; exact ⟨hf, h⟩
    · rename_i hf; exact absurd h hf
  · rintro ⟨h1, h2⟩; rw [if_pos h1, h2]
theorem ptsFrom_zero {l : List Pt} : ptsFrom l = 0 ↔ ∀ x ∈ l, PtOk x := by
  induction l with
  | nil => simp [ptsFrom]
  | cons x l ih =>
    simp only [ptsFrom, List.mem_cons, forall_eq_or_imp]
    split
    · rename_i h; rw [ih, ← ptChk_zero]; simp [h]
    · rename_i h
      constructor
      · intro h2; exact absurd h2 h
      · intro h2; exact absurd (ptChk_zero.2 h2.1) h
theorem ptsFrom_ok (l : List Pt) (k : Nat) (hk : k < l.length) (h : ptChk l[k] = 0) : ptsFrom (l.drop k) = ptsFrom (l.drop (k + 1)) := by
  rw [List.drop_eq_getElem_cons hk]; simp only [ptsFrom]; rw [if_pos h]
theorem ptsFrom_bad (l : List Pt) (k : Nat) (hk : k < l.length) (h : ptChk l[k] ≠ 0) : ptsFrom (l.drop k) = ptChk l[k] := by
  rw [List.drop_eq_getElem_cons hk]; simp only [ptsFrom]; rw [if_neg h]
theorem ptsChk_zero {l : List Pt} : ptsChk l = 0 ↔ l.length ≤ 30 ∧ ∀ x ∈ l, PtOk x := by
  unfold ptsChk
  split
  · constructor
    · intro h; exact absurd h (by decide)
    · rintro ⟨h, -⟩; omega
  · rw [ptsFrom_zero]; exact ⟨fun h => ⟨by omega, h⟩, fun h => h.2⟩
/-- What is said may be. -/
structure SPOk (x : SP) : Prop where
  p : PRng x.p
  k : KnOk x.k
  len : x.k.more.length ≤ 60
theorem PtOk.sem {x : Pt} (h : PtOk x) : SPOk (sem x) := ⟨ptsOf_rng _, (knChk_zero.1 h.k).1, (knChk_zero.1 h.k).2⟩
def noneS (x : SP) : Bool := decide (cntF x.p = 0) || decide (knCount x.k = 0)
def underS (a b : SP) : Bool := (allPt fun t n => !a.p t n || b.p t n) && knWithin a.k b.k
def fewStep (out : List SP) (x : SP) : List SP := if noneS x || out.any (fun q => underS x q) then out else (out.filter fun q => !underS q x) ++ [x]
def fewS (l : List SP) : List SP := l.foldl fewStep []
theorem fewS_snoc (l : List SP) (x : SP) : fewS (l ++ [x]) = fewStep (fewS l) x := by simp [fewS]
theorem fewStep_len (out : List SP) (x : SP) : (fewStep out x).length ≤ out.length + 1 := by
  unfold fewStep
  split
  · omega
  · rw [List.length_append]; have := List.length_filter_le (fun q => !underS q x) out; simp; exact this
theorem few_len (l : List SP) : (fewS l).length ≤ l.length := by
  refine snoc_ind (p := fun l => (fewS l).length ≤ l.length) (by simp [fewS]) ?_ l
  intro l x ih
  rw [fewS_snoc, List.length_append]
  have := fewStep_len (fewS l) x
  simp; omega
def narrowS (l : List SP) (q : Nat → Nat → Bool) : List SP := fewS (l.map fun x => ⟨fun t n => x.p t n && q t n, x.k⟩)
end Go.Proofs.Ytboakoipdfmpcaa
