/- Sets of dots: a vector and dots behind it, in the one form; what package know computes, plainly. No program in sight. -/
import Derived.Test.YtippljiicnpieaaSpanPure
import Derived.Test.YtippljiicnpieaaBase2
namespace Go.Proofs.Ytippljiicnpieaa
open Go.RowKit

abbrev Dots := List (Int × Int)
structure Kn where
  vec : List Int
  more : Dots
  deriving DecidableEq
/-- Up to which count all dots of a site are there. -/
def vecAt (v : List Int) (s : Int) : Int := v.getD s.toNat 0
def dotOk (d : Int × Int) : Bool := decide (0 ≤ d.1) && decide (d.1 < 5) && decide (1 ≤ d.2) && decide (d.2 ≤ 1000)
def dlt (a b : Int × Int) : Prop := a.1 < b.1 ∨ a.1 = b.1 ∧ a.2 < b.2
instance (a b : Int × Int) : Decidable (dlt a b) := by unfold dlt; infer_instance
/-- know.cmp -/
def dcmp (a b : Int × Int) : Int := if a.1 = b.1 then a.2 - b.2 else a.1 - b.1
theorem dcmp_lt (a b : Int × Int) : dcmp a b < 0 ↔ dlt a b := by unfold dcmp dlt; split <;> omega
theorem dcmp_zero (a b : Int × Int) : dcmp a b = 0 ↔ a = b := by
  unfold dcmp; rw [Prod.ext_iff]; split <;> omega
theorem dlt_irrefl (a : Int × Int) : ¬ dlt a a := by unfold dlt; omega
theorem dlt_trans {a b c : Int × Int} (h : dlt a b) (k : dlt b c) : dlt a c := by unfold dlt at *; omega
theorem dlt_tri (a b : Int × Int) : dlt a b ∨ a = b ∨ dlt b a := by unfold dlt; rw [Prod.ext_iff]; omega

def vecChk : List Int → Int
  | [] => 0
  | n :: l => if n < 0 ∨ 1000 < n then 1 else vecChk l
/-- One dot behind the vector v; last: the one ahead of it. -/
def dotChk (v : List Int) (last : Option (Int × Int)) (d : Int × Int) : Int :=
  if dotOk d = false then 1 else if d.2 ≤ vecAt v d.1 + 1 then 3 else match last with | none => 0 | some x => if dcmp x d < 0 then 0 else 3
def dotsFrom (v : List Int) : Option (Int × Int) → Dots → Int
  | _, [] => 0
  | last, d :: l => if dotChk v last d = 0 then dotsFrom v (some d) l else dotChk v last d
def knChk (k : Kn) : Int :=
  if 5 < k.vec.length ∨ 60 < k.more.length then 2
  else if vecChk k.vec ≠ 0 then 1
  else if k.vec.getLast? = some 0 then 3
  else dotsFrom k.vec none k.more
/-- In the one form. -/
structure KnOk (k : Kn) : Prop where
  len : k.vec.length ≤ 5
  bd : ∀ n ∈ k.vec, 0 ≤ n ∧ n ≤ 1000
  last : k.vec.getLast? ≠ some 0
  dots : ∀ d ∈ k.more, dotOk d = true ∧ vecAt k.vec d.1 + 2 ≤ d.2
  ord : k.more.Pairwise dlt

theorem vecChk_zero {l : List Int} : vecChk l = 0 ↔ ∀ n ∈ l, 0 ≤ n ∧ n ≤ 1000 := by
  induction l with
  | nil => simp [vecChk]
  | cons n l ih =>
    simp only [vecChk, List.mem_cons, forall_eq_or_imp]
    split
    · constructor
      · intro h; exact absurd h (by decide)
      · intro h; omega
    · rw [ih]; constructor
      · intro h; exact ⟨by omega, h⟩
      · intro h; exact h.2
theorem vecChk_one (l : List Int) : vecChk l = 0 ∨ vecChk l = 1 := by
  induction l with
  | nil => exact .inl rfl
  | cons n l ih => simp only [vecChk]; split; exact .inr rfl; exact ih
theorem dotChk_zero {v : List Int} {last : Option (Int × Int)} {d : Int × Int} : dotChk v last d = 0 ↔ dotOk d = true ∧ vecAt v d.1 + 2 ≤ d.2 ∧ ∀ x, last = some x → dlt x d := by
  unfold dotChk
  split
  · rename_i h; simp [h]
  rename_i h
  have h' : dotOk d = true := by simpa using h
  split
  · constructor
    · intro h; exact absurd h (by decide)
    · intro h; omega
  cases last with
  | none => simp [h']; omega
  | some x =>
    simp only [h', true_and, Option.some.injEq, forall_eq']
    rw [← dcmp_lt]
    split <;> rename_i h3
    · simp [h3]; omega
    · simp [h3]
theorem dotsFrom_zero {v : List Int} {last : Option (Int × Int)} {l : Dots} : dotsFrom v last l = 0 ↔ (∀ d ∈ l, dotOk d = true ∧ vecAt v d.1 + 2 ≤ d.2) ∧ l.Pairwise dlt ∧ ∀ x, last = some x → ∀ d ∈ l, dlt x d := by
  induction l generalizing last with
  | nil => simp [dotsFrom]
  | cons d l ih =>
    simp only [dotsFrom]
    by_cases h : dotChk v last d = 0
    · rw [if_pos h, ih]
      obtain ⟨h1, h2, h3⟩ := dotChk_zero.1 h
      constructor
      · rintro ⟨a, b, c⟩
        have c' := c d rfl
        refine ⟨?_, List.pairwise_cons.2 ⟨c', b⟩, ?_⟩
        · intro x hx
          rcases List.mem_cons.1 hx with rfl | hx
          · exact ⟨h1, h2⟩
          · exact a x hx
        · intro x hx y hy
          rcases List.mem_cons.1 hy with rfl | hy
          · exact h3 x hx
          · exact dlt_trans (h3 x hx) (c' y hy)
      · rintro ⟨a, b, c⟩
        obtain ⟨b1, b2⟩ := List.pairwise_cons.1 b
        refine ⟨fun x hx => a x (List.mem_cons_of_mem _ hx), b2, fun x hx y hy => ?_⟩
        obtain rfl : d = x := by simpa using hx
        exact b1 y hy
    · rw [if_neg h]
      constructor
      · intro h0; exact absurd h0 h
      · rintro ⟨a, b, c⟩
        refine absurd (dotChk_zero.2 ⟨(a d List.mem_cons_self).1, (a d List.mem_cons_self).2, fun x hx => c x hx d List.mem_cons_self⟩) h
theorem knChk_zero {k : Kn} : knChk k = 0 ↔ KnOk k ∧ k.more.length ≤ 60 := by
  unfold knChk
  split
  · constructor
    · intro h; exact absurd h (by decide)
    · rintro ⟨h, h2⟩; have := h.len; omega
  split
  · rename_i h
    constructor
    · intro h; exact absurd h (by decide)
    · rintro ⟨h2, -⟩; exact absurd (vecChk_zero.2 h2.bd) h
  rename_i hv
  have hv := vecChk_zero.1 (by simpa using hv)
  split
  · rename_i h
    constructor
    · intro h; exact absurd h (by decide)
    · rintro ⟨h2, -⟩; exact absurd h h2.last
  rename_i h1 h2
  rw [dotsFrom_zero]
  constructor
  · rintro ⟨a, b, -⟩; exact ⟨⟨by omega, hv, h2, a, b⟩, by omega⟩
  · rintro ⟨h, -⟩; exact ⟨h.dots, h.ord, fun x hx => by simp at hx⟩

/-- Is a dot in a set? -/
def knIn (k : Kn) (s c : Int) : Bool := decide (c ≤ vecAt k.vec s) || decide ((s, c) ∈ k.more)
theorem KnOk.vec_bd {k : Kn} (h : KnOk k) (s : Int) : 0 ≤ vecAt k.vec s ∧ vecAt k.vec s ≤ 1000 := by
  unfold vecAt
  by_cases hs : s.toNat < k.vec.length
  · rw [List.getD_eq_getElem?_getD, List.getElem?_eq_getElem hs]; exact h.bd _ (List.getElem_mem hs)
  · rw [List.getD_eq_getElem?_getD, List.getElem?_eq_none (by omega)]; simp
theorem vec_le {a b : Kn} (ha : KnOk a) (hb : KnOk b) (h : ∀ s c : Int, 0 ≤ s → s < 5 → 1 ≤ c → c ≤ 1000 → knIn a s c = true → knIn b s c = true) (s : Int) (h0 : 0 ≤ s) (h5 : s < 5) : vecAt a.vec s ≤ vecAt b.vec s := by
  by_cases hlt : vecAt a.vec s ≤ vecAt b.vec s
  · exact hlt
  exfalso
  have b1 := hb.vec_bd s
  have a1 := ha.vec_bd s
  have h1 := h s (vecAt b.vec s + 1) h0 h5 (by omega) (by omega) (by simp [knIn]; omega)
  simp only [knIn, Bool.or_eq_true, decide_eq_true_eq] at h1
  rcases h1 with h1 | h1
  · omega
  · have := (hb.dots _ h1).2; simp only at this; omega
theorem sorted_ext {a b : Dots} (ha : a.Pairwise dlt) (hb : b.Pairwise dlt) (h : ∀ d, d ∈ a ↔ d ∈ b) : a = b := by
  induction a generalizing b with
  | nil => cases b with
    | nil => rfl
    | cons x b => exact absurd ((h x).2 List.mem_cons_self) (by simp)
  | cons x a ih =>
    cases b with
    | nil => exact absurd ((h x).1 List.mem_cons_self) (by simp)
    | cons y b =>
      obtain ⟨a1, a2⟩ := List.pairwise_cons.1 ha
      obtain ⟨b1, b2⟩ := List.pairwise_cons.1 hb
      have hxy : x = y := by
        rcases List.mem_cons.1 ((h x).1 List.mem_cons_self) with h1 | h1
        · exact h1
        rcases List.mem_cons.1 ((h y).2 List.mem_cons_self) with h2 | h2
        · exact h2.symm
        exact absurd (dlt_trans (b1 x h1) (a1 y h2)) (dlt_irrefl _)
      subst hxy
      congr 1
      refine ih a2 b2 fun d => ⟨fun hd => ?_, fun hd => ?_⟩
      · rcases List.mem_cons.1 ((h d).1 (List.mem_cons_of_mem _ hd)) with rfl | h2
        · exact absurd (a1 d hd) (dlt_irrefl _)
        · exact h2
      · rcases List.mem_cons.1 ((h d).2 (List.mem_cons_of_mem _ hd)) with rfl | h2
        · exact absurd (b1 d hd) (dlt_irrefl _)
        · exact h2
theorem vec_ext {a b : List Int} (la : a.length ≤ 5) (lb : b.length ≤ 5) (za : a.getLast? ≠ some 0) (zb : b.getLast? ≠ some 0) (h : ∀ s : Int, 0 ≤ s → s < 5 → vecAt a s = vecAt b s) : a = b := by
  have key : ∀ (a b : List Int), a.length ≤ 5 → a.getLast? ≠ some 0 → (∀ s : Int, 0 ≤ s → s < 5 → vecAt a s = vecAt b s) → a.length ≤ b.length := by
    intro a b la za h
    by_cases hl : a.length ≤ b.length
    · exact hl
    exfalso
    have h1 := h ((a.length - 1 : Nat) : Int) (by omega) (by omega)
    unfold vecAt at h1
    rw [Int.toNat_natCast, List.getD_eq_getElem?_getD, List.getD_eq_getElem?_getD, List.getElem?_eq_none (l := b) (by omega), ← List.getLast?_eq_getElem?] at h1
    cases hq : a.getLast? with
    | none => have : a = [] := by simpa using hq
              subst this; simp at hl
    | some z => rw [hq] at h1; simp at h1; exact za (by rw [hq, h1])
  have hl : a.length = b.length := Nat.le_antisymm (key a b la za h) (key b a lb zb fun s h0 h5 => (h s h0 h5).symm)
  apply List.ext_getElem hl
  intro i h1 h2
  have := h (i : Int) (by omega) (by omega)
  unfold vecAt at this
  rw [Int.toNat_natCast, List.getD_eq_getElem?_getD, List.getD_eq_getElem?_getD, List.getElem?_eq_getElem h1, List.getElem?_eq_getElem h2] at this
  simpa using this
/-- THE FORM IS THE ONLY ONE. -/
theorem kn_ext {a b : Kn} (ha : KnOk a) (hb : KnOk b) (h : ∀ s c : Int, 0 ≤ s → s < 5 → 1 ≤ c → c ≤ 1000 → knIn a s c = knIn b s c) : a = b := by
  have hv : ∀ s : Int, 0 ≤ s → s < 5 → vecAt a.vec s = vecAt b.vec s := fun s h0 h5 =>
    Int.le_antisymm (vec_le ha hb (fun s c a1 a2 a3 a4 hx => by rw [← h s c a1 a2 a3 a4]; exact hx) s h0 h5) (vec_le hb ha (fun s c a1 a2 a3 a4 hx => by rw [h s c a1 a2 a3 a4]; exact hx) s h0 h5)
  have key : ∀ {a b : Kn}, KnOk a → KnOk b → (∀ s : Int, 0 ≤ s → s < 5 → vecAt a.vec s = vecAt b.vec s) → (∀ s c : Int, 0 ≤ s → s < 5 → 1 ≤ c → c ≤ 1000 → knIn a s c = knIn b s c) → ∀ d, d ∈ a.more → d ∈ b.more := by
    intro a b ha hb hv h d hd
    obtain ⟨h1, h2⟩ := ha.dots d hd
    simp only [dotOk, Bool.and_eq_true, decide_eq_true_eq] at h1
    have h3 := h d.1 d.2 (by omega) (by omega) (by omega) (by omega)
    have h4 : knIn a d.1 d.2 = true := by simp [knIn, hd]
    rw [h4] at h3
    have h5 := h3.symm
    simp only [knIn, Bool.or_eq_true, decide_eq_true_eq] at h5
    rcases h5 with h5 | h5
    · have := hv d.1 (by omega) (by omega); omega
    · exact h5
  have e1 : a.vec = b.vec := vec_ext ha.len hb.len ha.last hb.last hv
  have e2 : a.more = b.more := sorted_ext ha.ord hb.ord fun d => ⟨key ha hb hv h d, key hb ha (fun s h0 h5 => (hv s h0 h5).symm) (fun s c a1 a2 a3 a4 => (h s c a1 a2 a3 a4).symm) d⟩
  cases a; cases b; simp_all
end Go.Proofs.Ytippljiicnpieaa
