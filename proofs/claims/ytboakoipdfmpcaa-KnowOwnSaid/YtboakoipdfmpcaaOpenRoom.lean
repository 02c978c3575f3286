/- Filters that came in, with their sizes. -/
import Derived.Test.YtboakoipdfmpcaaMOpen
import Derived.Test.YtboakoipdfmpcaaMRoomF
namespace Go.Proofs.Ytboakoipdfmpcaa
open Go.RowKit Go.ChangeShapes Go.WideShapes Go.Deep
variable {H : Type} {enc : TypeId × Value → H} {W : World}
set_option maxRecDepth 100000 in
theorem Rdo.spansZ {v : Value} (h : Rdo H enc Try.prog W 55 [v]) : ∃ l : Spans, SpansAt W v l ∧ l.length * 16 ≤ reachBytes := by
  obtain ⟨v', css, hv, hc, hb, hcs⟩ := h.slice Try.underlying55 Try.cellsSpan (by rw [Try.bytesSpan]; decide) (by decide)
  simp only [List.cons.injEq, and_true] at hv
  subst hv
  obtain ⟨l, h1, h2⟩ := spans_cells css fun c hc => (hcs c hc).2.span
  rw [Try.bytesSpan] at hb
  exact ⟨l, by unfold SpansAt; rw [h1, ← h2]; exact hc, by rw [h1]; exact hb⟩
set_option maxRecDepth 100000 in
theorem Rdo.boxZ {cs : List Value} (h : Rdo H enc Try.prog W 57 cs) : ∃ (b : Bx) (u : Value), cs = [.int .i64 b.y, .int .i64 b.n, u] ∧ SpansAt W u b.sp ∧ b.sp.length * 16 ≤ reachBytes := by
  obtain ⟨hl, hf⟩ := h.field Try.underlying57
  rw [Try.cellsBox] at hl
  match cs, hl with
  | [c0, c1, c2], _ =>
    obtain ⟨y, n, h0⟩ := (hf 0 _ rfl).cube
    have h1 : Rdo H enc Try.prog W 55 [c2] := by have := hf 1 _ rfl; simpa [Try.cellsSpans] using this
    simp [Try.cellsCube] at h0
    obtain ⟨l, h2, h3⟩ := h1.spansZ
    exact ⟨⟨y, n, l⟩, c2, by simp [h0], h2, h3⟩
theorem boxesZ_cells : ∀ (css : List (List Value)), (∀ c ∈ css, ∃ (b : Bx) (u : Value), c = [.int .i64 b.y, .int .i64 b.n, u] ∧ SpansAt W u b.sp ∧ b.sp.length * 16 ≤ reachBytes) → ∃ (l : Bxs) (us : List Value), l.length = css.length ∧ us.length = l.length ∧ css.flatten = bxCells l us ∧ (∀ i (h : i < l.length) (h' : i < us.length), SpansAt W us[i] l[i].sp) ∧ ∀ b ∈ l, b.sp.length * 16 ≤ reachBytes
  | [], _ => ⟨[], [], rfl, rfl, rfl, fun i h => by simp at h, by simp⟩
  | c :: css, h => by
    obtain ⟨l, us, h1, h2, h3, h4, h5⟩ := boxesZ_cells css fun c hc => h c (List.mem_cons_of_mem _ hc)
    obtain ⟨b, u, hx, hu, hz⟩ := h c List.mem_cons_self
    refine ⟨b :: l, u :: us, by simp [h1], by simp [h2], by simp [hx, h3, bxCells], fun i hi hi' => ?_, fun x hx => ?_⟩
    · cases i with
      | zero => exact hu
      | succ i => exact h4 i (by simpa using hi) (by simpa using hi')
    · rcases List.mem_cons.1 hx with rfl | hx
      · exact hz
      · exact h5 x hx
set_option maxRecDepth 100000 in
theorem Rdo.boxesZ {v : Value} (h : Rdo H enc Try.prog W 28 [v]) : ∃ l : Bxs, BxsAt W v l ∧ SzF l := by
  obtain ⟨v', css, hv, hc, hb, hcs⟩ := h.slice Try.underlying28 Try.cellsBox (by rw [Try.bytesBox]; decide) (by decide)
  simp only [List.cons.injEq, and_true] at hv
  subst hv
  obtain ⟨l, us, h1, h2, h3, h4, h5⟩ := boxesZ_cells css fun c hc => (hcs c hc).2.boxZ
  rw [Try.bytesBox] at hb
  have hr : reachBytes ≤ 140737488355328 := by decide
  exact ⟨l, ⟨us, h2, by rw [h1, ← h3]; exact hc, h4⟩, ⟨by rw [h1]; exact Nat.le_trans hb hr, fun b hb => Nat.le_trans (h5 b hb) hr⟩⟩
end Go.Proofs.Ytboakoipdfmpcaa
