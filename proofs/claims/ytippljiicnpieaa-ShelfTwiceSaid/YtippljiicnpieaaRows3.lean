/- A slice of slices, as rows of cells. No program in sight. -/
import Derived.Test.YtippljiicnpieaaBase2
namespace Go.Proofs.Ytippljiicnpieaa
open Go.RowKit

abbrev Rows3 := List (Value × Nat × List Value)
def RowsAt (w : World) (v : Value) (rs : Rows3) : Prop := CellsAt w v rs.length (rs.map (·.1)) ∧ ∀ r ∈ rs, CellsAt w r.1 r.2.1 r.2.2
def tot (rs : Rows3) : Nat := (rs.map (·.2.1)).sum
def flat (rs : Rows3) : List Value := rs.flatMap (·.2.2)
theorem tot_take (rs : Rows3) (k : Nat) (hk : k < rs.length) : tot (rs.take (k + 1)) = tot (rs.take k) + rs[k].2.1 := by
  rw [List.take_succ_eq_append_getElem hk]; simp only [tot, List.map_append, List.map_cons, List.map_nil, List.sum_append, List.sum_cons, List.sum_nil]; omega
theorem flat_take (rs : Rows3) (k : Nat) (hk : k < rs.length) : flat (rs.take (k + 1)) = flat (rs.take k) ++ rs[k].2.2 := by
  rw [List.take_succ_eq_append_getElem hk]; simp only [flat, List.flatMap_append, List.flatMap_cons, List.flatMap_nil, List.append_nil]
theorem tot_le (rs : Rows3) (k : Nat) : tot (rs.take k) ≤ tot rs := by
  have : tot rs = tot (rs.take k) + tot (rs.drop k) := by
    unfold tot; rw [← List.sum_append, ← List.map_append, List.take_append_drop]
  omega
end Go.Proofs.Ytippljiicnpieaa
