/- Slices of integers, slices of such slices, and dots that came in. -/
import Derived.Test.YthnkmjjldggecaaChecked
import Derived.Test.YthnkmjjldggecaaOpen
import Derived.Test.YthnkmjjldggecaaKnow5
namespace Go.Proofs.Ythnkmjjldggecaa
open Go.RowKit Go.ChangeShapes Go.WideShapes Go.Deep
variable {H : Type} {enc : TypeId × Value → H} {W : World}
set_option maxRecDepth 100000 in
theorem Try.cellsInt : Try.prog.cellsOf 3 = 1 := by kernel_rfl
set_option maxRecDepth 100000 in
theorem Try.bytesInt : Try.prog.bytesOf 3 = 8 := by kernel_rfl
set_option maxRecDepth 100000 in
theorem Try.cellsInts : Try.prog.cellsOf 23 = 1 := by kernel_rfl
set_option maxRecDepth 100000 in
theorem Try.bytesInts : Try.prog.bytesOf 23 = 24 := by kernel_rfl
theorem ints_cells : ∀ (css : List (List Value)), (∀ c ∈ css, ∃ x : Int, c = [.int .i64 x]) → ∃ l : List Int, l.length = css.length ∧ css.flatten = intsC l
  | [], _ => ⟨[], rfl, rfl⟩
  | c :: css, h => by
    obtain ⟨l, h1, h2⟩ := ints_cells css fun c hc => h c (List.mem_cons_of_mem _ hc)
    obtain ⟨x, hx⟩ := h c List.mem_cons_self
    exact ⟨x :: l, by simp [h1], by simp [hx, h2, intsC]⟩
set_option maxRecDepth 100000 in
theorem Rd.ints {v : Value} (h : Rd H enc Try.prog W 23 [v]) : ∃ l : List Int, IsAt W v l ∧ l.length * 8 ≤ reachBytes := by
  obtain ⟨v', css, hv, hc, hb, hcs⟩ := h.slice Try.underlying23 Try.cellsInt (by rw [Try.bytesInt]; decide) (by decide)
  simp only [List.cons.injEq, and_true] at hv
  subst hv
  obtain ⟨l, h1, h2⟩ := ints_cells css fun c hc => by obtain ⟨n, hn, -⟩ := (hcs c hc).2.int Try.underlying3; exact ⟨n, hn⟩
  rw [Try.bytesInt] at hb
  exact ⟨l, by unfold IsAt; rw [h1, ← h2]; exact hc, by rw [h1]; exact hb⟩
theorem vecs_cells : ∀ (css : List (List Value)), (∀ c ∈ css, ∃ u l, c = [u] ∧ IsAt W u l) → ∃ ls : List (List Int), ls.length = css.length ∧ Els vecE W ls css
  | [], _ => ⟨[], rfl, trivial⟩
  | c :: css, h => by
    obtain ⟨ls, h1, h2⟩ := vecs_cells css fun c hc => h c (List.mem_cons_of_mem _ hc)
    obtain ⟨u, l, rfl, hu⟩ := h c List.mem_cons_self
    exact ⟨l :: ls, by simp [h1], ⟨u, rfl, hu⟩, h2⟩
set_option maxRecDepth 100000 in
theorem Rd.vecs {v : Value} (h : Rd H enc Try.prog W 56 [v]) : ∃ ls : List (List Int), RowAt vecE W v ls := by
  obtain ⟨v', css, hv, hc, hb, hcs⟩ := h.slice Try.underlying56 Try.cellsInts (by rw [Try.bytesInts]; decide) (by decide)
  simp only [List.cons.injEq, and_true] at hv
  subst hv
  obtain ⟨ls, h1, h2⟩ := vecs_cells (W := W) css fun c hc => by
    obtain ⟨hl, hr⟩ := hcs c hc
    match c, hl with
    | [u], _ => obtain ⟨l, hu, -⟩ := hr.ints; exact ⟨u, l, rfl, hu⟩
  exact ⟨ls, css, h2, by rw [h1]; exact hc⟩
set_option maxRecDepth 100000 in
theorem Rd.dot {cs : List Value} (h : Rd H enc Try.prog W 92 cs) : ∃ s c : Int, cs = [.int .i64 s, .int .i64 c] ∧ (Lit.int .i64 s).wf = true ∧ (Lit.int .i64 c).wf = true := by
  obtain ⟨hl, hf⟩ := h.field Try.underlying92
  have e2 : Try.prog.cellsOf 92 = 2 := by kernel_rfl
  rw [e2] at hl
  match cs, hl with
  | [c0, c1], _ =>
    obtain ⟨n0, h0, w0⟩ := (hf 0 _ rfl).int Try.underlying3
    obtain ⟨n1, h1, w1⟩ := (hf 1 _ rfl).int Try.underlying3
    have e : Try.prog.cellsOf 3 = 1 := by kernel_rfl
    simp [e] at h0 h1
    exact ⟨n0, n1, by simp [h0, h1], w0, w1⟩
end Go.Proofs.Ythnkmjjldggecaa
