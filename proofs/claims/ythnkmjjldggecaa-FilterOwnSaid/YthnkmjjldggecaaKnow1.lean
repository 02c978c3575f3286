/- What know.Dot, cmp, vec, In and Check do. -/
import Derived.Test.YthnkmjjldggecaaChecked
import Derived.Test.YthnkmjjldggecaaMPure
import Derived.Test.YthnkmjjldggecaaBase2
import Derived.Test.YthnkmjjldggecaaMClaims
import Derived.Deep.QuietTactic
import Derived.BigQuiet
import Derived.WalkSmall
import Derived.Outline
namespace Go.Proofs.Ythnkmjjldggecaa
open Go.RowKit

/-- Slices of integers. -/
def intsC (l : List Int) : List Value := l.map (Value.int .i64)
def IsAt (w : World) (v : Value) (l : List Int) : Prop := CellsAt w v l.length (intsC l)
theorem IsAt.below {w w' : World} {v : Value} {l : List Int} (h : IsAt w v l) (hb : Below w.heap.size w w') : IsAt w' v l := CellsAt.below h hb
theorem IsAt.shape {w : World} {v : Value} {l : List Int} (h : IsAt w v l) : ∃ a cap, v = .slice a l.length cap := CellsAt.shape h
theorem IsAt.open_ {w : World} {v : Value} {l : List Int} (h : IsAt w v l) : ∃ a cap, v = .slice a l.length cap ∧ l.length ≤ cap ∧ l.length ≤ 140737488355328 ∧ (a = none → cap = 0) ∧
    (l = [] ∨ ∃ b off, a = some ⟨b, off, none⟩ ∧ b < w.heap.size ∧ ∀ i (h : i < l.length), w.cell? ⟨b, off + i, none⟩ = some (.int .i64 l[i])) := by
  obtain ⟨a, cap, hv, hn, hm, h0, h⟩ := h
  refine ⟨a, cap, hv, hn, hm, h0, ?_⟩
  rcases h with h | ⟨b, off, ha, hlt, hc⟩
  · left; simpa [intsC] using h
  · exact .inr ⟨b, off, ha, hlt, fun i hi => hc _ _ (by simp [intsC, hi])⟩
theorem intsC_one (l : List Int) : ∀ u ∈ intsC l, u.oneCell' = true := by
  intro u hu; obtain ⟨z, -, rfl⟩ := List.mem_map.1 hu; rfl
theorem intsC_length (l : List Int) : (intsC l).length = l.length := by simp [intsC]
end Go.Proofs.Ythnkmjjldggecaa
