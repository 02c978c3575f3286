/- Slices of slices of integers that came in, and how long they may be. -/
import Derived.Test.YtliieljmfncmjaaOpenKnow
namespace Go.Proofs.Ytliieljmfncmjaa
open Go.RowKit Go.ChangeShapes Go.WideShapes Go.Deep
variable {H : Type} {enc : TypeId × Value → H} {W : World}
set_option maxRecDepth 100000 in
theorem Rd.vecsB {v : Value} (h : Rd H enc Try.prog W 22 [v]) : ∃ ls : List (List Int), RowAt vecE W v ls ∧ ls.length * 24 ≤ 140737488351232 := by
  obtain ⟨v', css, hv, hc, hb, hcs⟩ := h.slice Try.underlying22 Try.cellsInts (by rw [Try.bytesInts]; decide) (by decide)
  simp only [List.cons.injEq, and_true] at hv
  subst hv
  obtain ⟨ls, h1, h2⟩ := vecs_cells (W := W) css fun c hc => by
    obtain ⟨hl, hr⟩ := hcs c hc
    match c, hl with
    | [u], _ => obtain ⟨l, hu, -⟩ := hr.ints; exact ⟨u, l, rfl, hu⟩
  rw [Try.bytesInts] at hb
  exact ⟨ls, ⟨css, h2, by rw [h1]; exact hc⟩, by rw [h1]; exact hb⟩
end Go.Proofs.Ytliieljmfncmjaa
