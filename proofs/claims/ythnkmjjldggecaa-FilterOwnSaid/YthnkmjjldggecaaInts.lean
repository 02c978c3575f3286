/- Slices of integers: what slices.Index, slices.Contains and span.Of do to them. -/
import Derived.Test.YthnkmjjldggecaaMSpan
import Derived.Test.YthnkmjjldggecaaBase2
namespace Go.Proofs.Ythnkmjjldggecaa
open Go.RowKit

def intsCells (l : List Int) : List Value := l.map (Value.int .i64)
def IntsAt (w : World) (v : Value) (l : List Int) : Prop := CellsAt w v l.length (intsCells l)
theorem IntsAt.below {w w' : World} {v : Value} {l : List Int} (h : IntsAt w v l) (hb : Below w.heap.size w w') : IntsAt w' v l := CellsAt.below h hb
theorem IntsAt.open_ {w : World} {v : Value} {l : List Int} (h : IntsAt w v l) : ∃ a cap, v = .slice a l.length cap ∧ l.length ≤ cap ∧ l.length ≤ 140737488355328 ∧ (a = none → cap = 0) ∧
    (l = [] ∨ ∃ b off, a = some ⟨b, off, none⟩ ∧ b < w.heap.size ∧ ∀ i (h : i < l.length), w.cell? ⟨b, off + i, none⟩ = some (.int .i64 l[i])) := by
  obtain ⟨a, cap, hv, hn, hm, h0, h⟩ := h
  refine ⟨a, cap, hv, hn, hm, h0, ?_⟩
  rcases h with h | ⟨b, off, ha, hlt, hc⟩
  · left; simpa [intsCells] using h
  · exact .inr ⟨b, off, ha, hlt, fun i hi => hc _ _ (by simp [intsCells, hi])⟩
end Go.Proofs.Ythnkmjjldggecaa
