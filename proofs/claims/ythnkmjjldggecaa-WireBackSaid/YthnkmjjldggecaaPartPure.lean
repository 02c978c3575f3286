/- Parts of what is known: of which points which dots; what package part computes, plainly. No program in sight. -/
import Derived.Test.YthnkmjjldggecaaMFilterP
import Derived.Test.YthnkmjjldggecaaKnow7
namespace Go.Proofs.Ythnkmjjldggecaa
open Go.RowKit
/-- A part as it stands in memory. -/
structure Pt where
  f : Bxs
  k : Kn
/-- What a part says. -/
structure SP where
  p : Nat → Nat → Bool
  k : Kn
def ptsOf (f : Bxs) : Nat → Nat → Bool := fun t n => decide (t < 16) && decide (n < 32) && inF f t n
theorem ptsOf_out {f : Bxs} {t n : Nat} (h : ¬ (t < 16 ∧ n < 32)) : ptsOf f t n = false := by
  unfold ptsOf
  by_cases ht : t < 16
  · have hn : ¬ n < 32 := fun hn => h ⟨ht, hn⟩
    simp [hn]
  · simp [ht]
/-- No point is out of range. -/
def PRng (p : Nat → Nat → Bool) : Prop := ∀ t n, ¬ (t < 16 ∧ n < 32) → p t n = false
theorem ptsOf_rng (f : Bxs) : PRng (ptsOf f) := fun _ _ h => ptsOf_out h
theorem PRng.ext {p q : Nat → Nat → Bool} (hp : PRng p) (hq : PRng q) (h : ∀ t n, t < 16 → n < 32 → p t n = q t n) : p = q := by
  funext t n
  by_cases hr : t < 16 ∧ n < 32
  · exact h t n hr.1 hr.2
  · rw [hp t n hr, hq t n hr]
def sem (x : Pt) : SP := ⟨ptsOf x.f, x.k⟩
def ptChk (x : Pt) : Int := if fChk x.f = 0 then knChk x.k else fChk x.f
def ptsFrom : List Pt → Int
  | [] => 0
  | x :: l => if ptChk x = 0 then ptsFrom l else ptChk x
def ptsChk (l : List Pt) : Int := if 30 < l.length then 2 else ptsFrom l
/-- A part that may be. -/
structure PtOk (x : Pt) : Prop where
  f : fChk x.f = 0
  k : knChk x.k = 0
theorem ptChk_zero {x : Pt} : ptChk x = 0 ↔ PtOk x := by
  unfold ptChk
  constructor
  · intro h
    split at h
    · rename_i hf; exact ⟨hf, h⟩
    · rename_i hf; exact absurd h hf
  · rintro ⟨h1, h2⟩; rw [if_pos h1, h2]
theorem ptsFrom_zero {l : List Pt} : ptsFrom l = 0 ↔ ∀ x ∈ l, PtOk x := by
  induction l with
  | nil => simp [ptsFrom]
  | cons x l ih =>
    simp only [ptsFrom, List.mem_cons, forall_eq_or_imp]
    split
    · rename_i h; rw [ih, ← ptChk_zero]; simp [h]
    · rename_i h
      constructor
      · intro h2; exact absurd h2 h
      · intro h2; exact absurd (ptChk_zero.2 h2.1) h
theorem ptsFrom_ok (l : List Pt) (k : Nat) (hk : k < l.length) (h : ptChk l[k] = 0) : ptsFrom (l.drop k) = ptsFrom (l.drop (k + 1)) := by
  rw [List.drop_eq_getElem_cons hk]; simp only [ptsFrom]; rw [if_pos h]
theorem ptsFrom_bad (l : List Pt) (k : Nat) (hk : k < l.length) (h : ptChk l[k] ≠ 0) : ptsFrom (l.drop k) = ptChk l[k] := by
  rw [List.drop_eq_getElem_cons hk]; simp only [ptsFrom]; rw [if_neg h]
theorem ptsChk_zero {l : List Pt} : ptsChk l = 0 ↔ l.length ≤ 30 ∧ ∀ x ∈ l, PtOk x := by
  unfold ptsChk
  split
  · constructor
    · intro h; exact absurd h (by decide)
    · rintro ⟨h, -⟩; omega
  · rw [ptsFrom_zero]; exact ⟨fun h => ⟨by omega, h⟩, fun h => h.2⟩
/-- What is said may be. -/
structure SPOk (x : SP) : Prop where
  p : PRng x.p
  k : KnOk x.k
  len : x.k.more.length ≤ 60
theorem PtOk.sem {x : Pt} (h : PtOk x) : SPOk (sem x) := ⟨ptsOf_rng _, (knChk_zero.1 h.k).1, (knChk_zero.1 h.k).2⟩
/-- All dots of the one are of the other. -/
def KSub (a b : Kn) : Prop := ∀ s c : Int, 0 ≤ s → s < 5 → 1 ≤ c → c ≤ 1000 → knIn a s c = true → knIn b s c = true
theorem KSub.refl (a : Kn) : KSub a a := fun _ _ _ _ _ _ h => h
theorem KSub.trans {a b c : Kn} (h : KSub a b) (k : KSub b c) : KSub a c := fun s d h0 h5 h1 h2 hh => k s d h0 h5 h1 h2 (h s d h0 h5 h1 h2 hh)
def noneS (x : SP) : Bool := decide (cntF x.p = 0) || decide (knCount x.k = 0)
def underS (a b : SP) : Bool := (allPt fun t n => !a.p t n || b.p t n) && knWithin a.k b.k
/-- What is known of a point. -/
def knowsS (l : List SP) (t n : Nat) (s c : Int) : Bool := l.any fun x => x.p t n && knIn x.k s c
/-- Of few parts none says nothing, and none says nothing that another one does not. -/
structure FewS (l : List SP) : Prop where
  some_ : ∀ x ∈ l, noneS x = false
  anti : l.Pairwise fun a b => underS a b = false ∧ underS b a = false
/-- What the one says the other one says. -/
def SubS (a b : List SP) : Prop := ∀ t n : Nat, t < 16 → n < 32 → ∀ s c : Int, 0 ≤ s → s < 5 → 1 ≤ c → c ≤ 1000 → knowsS a t n s c = true → knowsS b t n s c = true
open Classical in
theorem SubS.refl (a : List SP) : SubS a a := fun _ _ _ _ _ _ _ _ _ _ h => h
theorem SubS.trans {a b c : List SP} (h : SubS a b) (k : SubS b c) : SubS a c := fun t n ht hn s d h0 h5 h1 h2 hh => k t n ht hn s d h0 h5 h1 h2 (h t n ht hn s d h0 h5 h1 h2 hh)
end Go.Proofs.Ythnkmjjldggecaa
