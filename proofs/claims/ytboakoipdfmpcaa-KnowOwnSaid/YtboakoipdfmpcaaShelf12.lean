/- What slices.DeleteFunc does to a row of versions of the call's own. -/
import Derived.Test.YtboakoipdfmpcaaShelf3
import Derived.Test.YtboakoipdfmpcaaChecked
import Derived.Test.YtboakoipdfmpcaaMElt
import Derived.Test.YtboakoipdfmpcaaRowOps
import Derived.Lib.Walk
import Derived.Deep.RegionLaw
import Derived.Test.YtboakoipdfmpcaaMClaims
import Derived.Deep.QuietTactic
import Derived.BigQuiet
import Derived.Test.YtboakoipdfmpcaaKnow10
import Derived.Test.YtboakoipdfmpcaaMDots
namespace Go.Proofs.Ytboakoipdfmpcaa
open Go.RowKit
/-- The cells of those that stay. -/
def filtC {α : Type} (p : α → Bool) : List α → List (List Value) → List (List Value)
  | v :: l, c :: cs => if p v = true then c :: filtC p l cs else filtC p l cs
  | _, _ => []
theorem filtC_els {α : Type} {E : Elt α} {w : World} (p : α → Bool) : ∀ {l : List α} {cs : List (List Value)}, Els E w l cs → Els E w (l.filter p) (filtC p l cs)
  | [], [], _ => trivial
  | v :: l, c :: cs, h => by
    unfold filtC
    cases hp : p v
    · rw [List.filter_cons_of_neg (by rw [hp]; decide), if_neg (by decide)]; exact filtC_els p h.2
    · rw [List.filter_cons_of_pos hp, if_pos rfl]; exact ⟨h.1, filtC_els p h.2⟩
  | [], _ :: _, h => h.elim
  | _ :: _, [], h => h.elim
theorem filtC_append {α : Type} (p : α → Bool) : ∀ {l : List α} {cs : List (List Value)} {m : List α} {ds : List (List Value)}, l.length = cs.length → filtC p (l ++ m) (cs ++ ds) = filtC p l cs ++ filtC p m ds
  | [], [], _, _, _ => by simp [filtC]
  | v :: l, c :: cs, m, ds, h => by
    have ih := filtC_append p (l := l) (cs := cs) (m := m) (ds := ds) (by simpa using h)
    simp only [List.cons_append, filtC]
    split
    · rw [ih]; rfl
    · exact ih
  | [], _ :: _, _, _, h => by simp at h
  | _ :: _, [], _, _, h => by simp at h
theorem filtC_all {α : Type} (p : α → Bool) : ∀ {l : List α} {cs : List (List Value)}, l.length = cs.length → (∀ v ∈ l, p v = true) → filtC p l cs = cs
  | [], [], _, _ => rfl
  | v :: l, c :: cs, h, hp => by
    unfold filtC
    rw [if_pos (hp v (by simp)), filtC_all p (by simpa using h) fun x hx => hp x (by simp [hx])]
  | [], _ :: _, h, _ => by simp at h
  | _ :: _, [], h, _ => by simp at h
theorem filtC_step {α : Type} (p : α → Bool) {l : List α} {cs : List (List Value)} {q : Nat} {c : List Value} (hl : l.length = cs.length) (hq : q < l.length) (hc : cs[q]? = some c) :
    filtC p (l.take (q + 1)) (cs.take (q + 1)) = filtC p (l.take q) (cs.take q) ++ if p l[q] = true then [c] else [] := by
  obtain ⟨hq2, rfl⟩ := List.getElem?_eq_some_iff.1 hc
  rw [List.take_succ_eq_append_getElem hq, List.take_succ_eq_append_getElem hq2, filtC_append p (by rw [List.length_take, List.length_take, hl])]
  congr 1
theorem firstI_spec {α : Type} {p : α → Bool} {l : List α} : (firstI p l = -1 ∧ ∀ v ∈ l, p v = false) ∨ ∃ i : Nat, firstI p l = i ∧ ∃ h : i < l.length, p l[i] = true ∧ ∀ j (hj : j < i), p (l[j]'(by omega)) = false := by
  unfold firstI
  cases h : l.findIdx? p with
  | none =>
    rw [List.findIdx?_eq_none_iff] at h
    exact .inl ⟨rfl, h⟩
  | some i =>
    rw [List.findIdx?_eq_some_iff_getElem] at h
    obtain ⟨h1, h2, h3⟩ := h
    exact .inr ⟨i, rfl, h1, h2, fun j hj => by simpa using h3 j hj⟩
theorem splice_take {L C : List Value} {a : Nat} (h : a + C.length ≤ L.length) : (splice L a C).take (a + C.length) = L.take a ++ C := by
  unfold splice
  rw [← List.append_assoc, List.take_append_of_le_length (by rw [List.length_append, List.length_take]; omega), List.take_of_length_le (by rw [List.length_append, List.length_take]; omega)]
theorem splice_drop {L C : List Value} {a b : Nat} (h : a + C.length ≤ b) (hl : a + C.length ≤ L.length) : (splice L a C).drop b = L.drop b := by
  unfold splice
  rw [← List.append_assoc, List.drop_append, List.drop_of_length_le (by rw [List.length_append, List.length_take]; omega), List.nil_append, List.drop_drop, List.length_append, List.length_take]
  congr 1; omega
theorem splice_take0 {L C : List Value} {a : Nat} (h : a ≤ L.length) : (splice L a C).take a = L.take a := by
  unfold splice
  rw [List.take_append_of_le_length (by rw [List.length_take]; omega), List.take_take]; congr 1; omega
theorem get_of_drop {L M : List Value} {a j : Nat} (h : L.drop a = M.drop a) : L[a + j]? = M[a + j]? := by
  have := congrArg (·[j]?) h
  simpa [List.getElem?_drop] using this
end Go.Proofs.Ytboakoipdfmpcaa
