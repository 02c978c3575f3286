/- Slices of filters, and slices of slices of slices of integers, that came in. -/
import Derived.Test.YthnkmjjldggecaaMOpenF
import Derived.Test.YthnkmjjldggecaaOpenKnow
import Derived.Test.YthnkmjjldggecaaMPartL
namespace Go.Proofs.Ythnkmjjldggecaa
open Go.RowKit Go.ChangeShapes Go.WideShapes Go.Deep
variable {H : Type} {enc : TypeId × Value → H} {W : World}
set_option maxRecDepth 100000 in
theorem Try.cellsBoxes : Try.prog.cellsOf 22 = 1 := by kernel_rfl
set_option maxRecDepth 100000 in
theorem Try.bytesBoxes : Try.prog.bytesOf 22 = 24 := by kernel_rfl
set_option maxRecDepth 100000 in
theorem Try.cellsVecs : Try.prog.cellsOf 56 = 1 := by kernel_rfl
set_option maxRecDepth 100000 in
theorem Try.bytesVecs : Try.prog.bytesOf 56 = 24 := by kernel_rfl
theorem boxess_cells : ∀ (css : List (List Value)), (∀ c ∈ css, ∃ u l, c = [u] ∧ BxsAt W u l) → ∃ ls : List Bxs, ls.length = css.length ∧ Els bxsE W ls css
  | [], _ => ⟨[], rfl, trivial⟩
  | c :: css, h => by
    obtain ⟨ls, h1, h2⟩ := boxess_cells css fun c hc => h c (List.mem_cons_of_mem _ hc)
    obtain ⟨u, l, rfl, hu⟩ := h c List.mem_cons_self
    exact ⟨l :: ls, by simp [h1], ⟨u, rfl, hu⟩, h2⟩
set_option maxRecDepth 100000 in
theorem Rd.boxess {v : Value} (h : Rd H enc Try.prog W 46 [v]) : ∃ ls : List Bxs, RowAt bxsE W v ls := by
  obtain ⟨v', css, hv, hc, hb, hcs⟩ := h.slice Try.underlying46 Try.cellsBoxes (by rw [Try.bytesBoxes]; decide) (by decide)
  simp only [List.cons.injEq, and_true] at hv
  subst hv
  obtain ⟨ls, h1, h2⟩ := boxess_cells (W := W) css fun c hc => by
    obtain ⟨hl, hr⟩ := hcs c hc
    match c, hl with
    | [u], _ => obtain ⟨l, hu, -⟩ := hr.boxes; exact ⟨u, l, rfl, hu⟩
  exact ⟨ls, css, h2, by rw [h1]; exact hc⟩
theorem vecss_cells : ∀ (css : List (List Value)), (∀ c ∈ css, ∃ u l, c = [u] ∧ RowAt vecE W u l) → ∃ ls : List (List (List Int)), ls.length = css.length ∧ Els vecsE W ls css
  | [], _ => ⟨[], rfl, trivial⟩
  | c :: css, h => by
    obtain ⟨ls, h1, h2⟩ := vecss_cells css fun c hc => h c (List.mem_cons_of_mem _ hc)
    obtain ⟨u, l, rfl, hu⟩ := h c List.mem_cons_self
    exact ⟨l :: ls, by simp [h1], ⟨u, rfl, hu⟩, h2⟩
set_option maxRecDepth 100000 in
theorem Rd.vecss {v : Value} (h : Rd H enc Try.prog W 57 [v]) : ∃ ls : List (List (List Int)), RowAt vecsE W v ls := by
  obtain ⟨v', css, hv, hc, hb, hcs⟩ := h.slice Try.underlying57 Try.cellsVecs (by rw [Try.bytesVecs]; decide) (by decide)
  simp only [List.cons.injEq, and_true] at hv
  subst hv
  obtain ⟨ls, h1, h2⟩ := vecss_cells (W := W) css fun c hc => by
    obtain ⟨hl, hr⟩ := hcs c hc
    match c, hl with
    | [u], _ => obtain ⟨l, hu⟩ := hr.vecs; exact ⟨u, l, rfl, hu⟩
  exact ⟨ls, css, h2, by rw [h1]; exact hc⟩
end Go.Proofs.Ythnkmjjldggecaa
