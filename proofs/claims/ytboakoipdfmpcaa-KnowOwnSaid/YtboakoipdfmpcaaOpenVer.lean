/- Versions that came in. -/
import Derived.Test.YtboakoipdfmpcaaMOpen
import Derived.Test.YtboakoipdfmpcaaChecked
import Derived.Test.YtboakoipdfmpcaaMElt
import Derived.Lib.Bytealg
import Derived.Lib.Walk
import Derived.Test.YtboakoipdfmpcaaMKnow3
import Derived.Test.YtboakoipdfmpcaaMKnow5
import Derived.Test.YtboakoipdfmpcaaBase2
import Derived.Deep.QuietTactic
import Derived.BigQuiet
import Derived.Test.YtboakoipdfmpcaaCube1
import Derived.Laws.OwnMore
namespace Go.Proofs.Ytboakoipdfmpcaa
open Go.RowKit Go.ChangeShapes Go.WideShapes Go.Deep
variable {H : Type} {enc : TypeId × Value → H} {W : World}
set_option maxRecDepth 100000 in
theorem Try.cellsDot : Try.prog.cellsOf 27 = 2 := by kernel_rfl
set_option maxRecDepth 100000 in
theorem Try.bytesDot : Try.prog.bytesOf 27 = 16 := by kernel_rfl
theorem dots_cells : ∀ (css : List (List Value)), (∀ c ∈ css, ∃ x y : Int, c = [.int .i64 x, .int .i64 y]) → ∃ l : Dots, l.length = css.length ∧ css.flatten = spansCells l
  | [], _ => ⟨[], rfl, rfl⟩
  | c :: css, h => by
    obtain ⟨l, h1, h2⟩ := dots_cells css fun c hc => h c (List.mem_cons_of_mem _ hc)
    obtain ⟨x, y, hx⟩ := h c List.mem_cons_self
    exact ⟨(x, y) :: l, by simp [h1], by simp [hx, h2, spansCells]⟩
set_option maxRecDepth 100000 in
theorem Rdo.dots {v : Value} (h : Rdo H enc Try.prog W 23 [v]) : ∃ l : Dots, DsAt W v l := by
  obtain ⟨v', css, hv, hc, hb, hcs⟩ := h.slice Try.underlying23 Try.cellsDot (by rw [Try.bytesDot]; decide) (by decide)
  simp only [List.cons.injEq, and_true] at hv
  subst hv
  obtain ⟨l, h1, h2⟩ := dots_cells css fun c hc => by obtain ⟨s, k, e, -⟩ := (hcs c hc).2.dot; exact ⟨s, k, e⟩
  exact ⟨l, by unfold DsAt; rw [h1, ← h2]; exact hc⟩
end Go.Proofs.Ytboakoipdfmpcaa
