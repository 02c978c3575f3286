/- Parts of what is known: of which points which dots; what package part computes, plainly. No program in sight. -/
import Derived.Test.YthnkmjjldggecaaMFilterP
import Derived.Test.YthnkmjjldggecaaMSpan
import Derived.Test.YthnkmjjldggecaaKnow7
namespace Go.Proofs.Ythnkmjjldggecaa
open Go.RowKit
/-- A part as it stands in memory. -/
structure Pt where
  f : Bxs
  k : Kn
def ptChk (x : Pt) : Int := if fChk x.f = 0 then knChk x.k else fChk x.f
def ptsFrom : List Pt → Int
  | [] => 0
  | x :: l => if ptChk x = 0 then ptsFrom l else ptChk x
def ptsChk (l : List Pt) : Int := if 30 < l.length then 2 else ptsFrom l
/-- A part that may be. -/
structure PtOk (x : Pt) : Prop where
  f : fChk x.f = 0
  k : knChk x.k = 0
theorem ptChk_zero {x : Pt} : ptChk x = 0 ↔ PtOk x := by
  unfold ptChk
  constructor
  · intro h
    split at h
    · rename_i hf; exact ⟨hf, h⟩
    · rename_i hf; exact absurd h hf
  · rintro ⟨h1, h2⟩; rw [if_pos h1, h2]
theorem ptsFrom_zero {l : List Pt} : ptsFrom l = 0 ↔ ∀ x ∈ l, PtOk x := by
  induction l with
  | nil => simp [ptsFrom]
  | cons x l ih =>
    simp only [ptsFrom, List.mem_cons, forall_eq_or_imp]
    split
    · rename_i h; rw [ih, ← ptChk_zero]; simp [h]
    · rename_i h
      constructor
      · intro h2; exact absurd h2 h
      · intro h2; exact absurd (ptChk_zero.2 h2.1) h
theorem ptsFrom_ok (l : List Pt) (k : Nat) (hk : k < l.length) (h : ptChk l[k] = 0) : ptsFrom (l.drop k) = ptsFrom (l.drop (k + 1)) := by
  rw [List.drop_eq_getElem_cons hk]; simp only [ptsFrom]; rw [if_pos h]
theorem ptsFrom_bad (l : List Pt) (k : Nat) (hk : k < l.length) (h : ptChk l[k] ≠ 0) : ptsFrom (l.drop k) = ptChk l[k] := by
  rw [List.drop_eq_getElem_cons hk]; simp only [ptsFrom]; rw [if_neg h]
theorem ptsChk_zero {l : List Pt} : ptsChk l = 0 ↔ l.length ≤ 30 ∧ ∀ x ∈ l, PtOk x := by
  unfold ptsChk
  split
  · constructor
    · intro h; exact absurd h (by decide)
    · rintro ⟨h, -⟩; omega
  · rw [ptsFrom_zero]; exact ⟨fun h => ⟨by omega, h⟩, fun h => h.2⟩
end Go.Proofs.Ythnkmjjldggecaa
