/- Slices of versions: what slices.IndexFunc and slices.ContainsFunc do, and the closure of shelf.Check. -/
import Derived.Test.YtboakoipdfmpcaaChecked
import Derived.Test.YtboakoipdfmpcaaMElt
import Derived.Lib.Bytealg
import Derived.Lib.Walk
import Derived.Test.YtboakoipdfmpcaaMKnow3
import Derived.Test.YtboakoipdfmpcaaMKnow5
import Derived.Test.YtboakoipdfmpcaaBase2
import Derived.Deep.QuietTactic
import Derived.BigQuiet
import Derived.Test.YtboakoipdfmpcaaCube1
import Derived.Laws.OwnMore
namespace Go.Proofs.Ytboakoipdfmpcaa
open Go.RowKit
/-- The first that p is true of. -/
def firstI {α : Type} (p : α → Bool) (l : List α) : Int := match l.findIdx? p with | some i => i | none => -1
theorem firstI_at {α : Type} {p : α → Bool} {l : List α} {k : Nat} (hk : k < l.length) (hp : p l[k] = true) (h : ∀ j (hj : j < k), p (l[j]'(by omega)) = false) : firstI p l = k := by
  unfold firstI
  have : l.findIdx? p = some k := by
    rw [List.findIdx?_eq_some_iff_getElem]
    exact ⟨hk, hp, fun j hj => by rw [h j hj]; decide⟩
  rw [this]
theorem firstI_none {α : Type} {p : α → Bool} {l : List α} (h : ∀ j (hj : j < l.length), p l[j] = false) : firstI p l = -1 := by
  unfold firstI
  have : l.findIdx? p = none := by
    rw [List.findIdx?_eq_none_iff]
    intro x hx
    obtain ⟨j, hj, rfl⟩ := List.getElem_of_mem hx
    exact h j hj
  rw [this]
theorem firstI_any {α : Type} (p : α → Bool) (l : List α) : decide (0 ≤ firstI p l) = l.any p := by
  unfold firstI
  cases h : l.findIdx? p with
  | none =>
    rw [List.findIdx?_eq_none_iff] at h
    rw [show l.any p = false by rw [List.any_eq_false]; intro x hx; rw [h x hx]; decide]
    rfl
  | some i =>
    rw [List.findIdx?_eq_some_iff_getElem] at h
    obtain ⟨h1, h2, -⟩ := h
    rw [show l.any p = true by rw [List.any_eq_true]; exact ⟨_, List.getElem_mem h1, h2⟩]
    simp
end Go.Proofs.Ytboakoipdfmpcaa
