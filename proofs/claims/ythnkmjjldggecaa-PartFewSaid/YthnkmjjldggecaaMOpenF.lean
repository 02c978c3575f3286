/- Boxes that came in. Nodes and points that came in. -/
import Derived.Test.YthnkmjjldggecaaChecked
import Derived.Test.YthnkmjjldggecaaOpen
import Derived.Test.YthnkmjjldggecaaMFilterP
import Derived.Test.YthnkmjjldggecaaMForm
namespace Go.Proofs.Ythnkmjjldggecaa
open Go.RowKit Go.ChangeShapes Go.WideShapes Go.Deep
variable {H : Type} {enc : TypeId × Value → H} {W : World}

set_option maxRecDepth 100000 in
theorem Try.cellsI : Try.prog.cellsOf 3 = 1 := by kernel_rfl
set_option maxRecDepth 100000 in
theorem Try.cellsCube : Try.prog.cellsOf 123 = 2 := by kernel_rfl
set_option maxRecDepth 100000 in
theorem Try.cellsSpan : Try.prog.cellsOf 50 = 2 := by kernel_rfl
set_option maxRecDepth 100000 in
theorem Try.bytesSpan : Try.prog.bytesOf 50 = 16 := by kernel_rfl
set_option maxRecDepth 100000 in
theorem Try.cellsSpans : Try.prog.cellsOf 38 = 1 := by kernel_rfl
set_option maxRecDepth 100000 in
theorem Try.cellsBox : Try.prog.cellsOf 125 = 3 := by kernel_rfl
set_option maxRecDepth 100000 in
theorem Try.bytesBox : Try.prog.bytesOf 125 = 40 := by kernel_rfl
set_option maxRecDepth 100000 in
theorem Rd.cube {cs : List Value} (h : Rd H enc Try.prog W 123 cs) : ∃ y n : Int, cs = [.int .i64 y, .int .i64 n] := by
  obtain ⟨hl, hf⟩ := h.field Try.underlying123
  rw [Try.cellsCube] at hl
  match cs, hl with
  | [c0, c1], _ =>
    obtain ⟨n0, h0, -⟩ := (hf 0 _ rfl).int Try.underlying3
    obtain ⟨n1, h1, -⟩ := (hf 1 _ rfl).int Try.underlying3
    simp [Try.cellsI] at h0 h1
    exact ⟨n0, n1, by simp [h0, h1]⟩
set_option maxRecDepth 100000 in
theorem Rd.span {cs : List Value} (h : Rd H enc Try.prog W 50 cs) : ∃ s : Int × Int, cs = [.int .i64 s.1, .int .i64 s.2] := by
  obtain ⟨hl, hf⟩ := h.field Try.underlying50
  rw [Try.cellsSpan] at hl
  match cs, hl with
  | [c0, c1], _ =>
    obtain ⟨n0, h0, -⟩ := (hf 0 _ rfl).int Try.underlying3
    obtain ⟨n1, h1, -⟩ := (hf 1 _ rfl).int Try.underlying3
    simp [Try.cellsI] at h0 h1
    exact ⟨(n0, n1), by simp [h0, h1]⟩
theorem spans_cells : ∀ (css : List (List Value)), (∀ c ∈ css, ∃ s : Int × Int, c = [.int .i64 s.1, .int .i64 s.2]) → ∃ l : Spans, l.length = css.length ∧ css.flatten = spansCells l
  | [], _ => ⟨[], rfl, rfl⟩
  | c :: css, h => by
    obtain ⟨l, h1, h2⟩ := spans_cells css fun c hc => h c (List.mem_cons_of_mem _ hc)
    obtain ⟨x, hx⟩ := h c List.mem_cons_self
    exact ⟨x :: l, by simp [h1], by simp [hx, h2, spansCells]⟩
set_option maxRecDepth 100000 in
theorem Rd.spans {v : Value} (h : Rd H enc Try.prog W 38 [v]) : ∃ l : Spans, SpansAt W v l := by
  obtain ⟨v', css, hv, hc, hb, hcs⟩ := h.slice Try.underlying38 Try.cellsSpan (by rw [Try.bytesSpan]; decide) (by decide)
  simp only [List.cons.injEq, and_true] at hv
  subst hv
  obtain ⟨l, h1, h2⟩ := spans_cells css fun c hc => (hcs c hc).2.span
  exact ⟨l, by unfold SpansAt; rw [h1, ← h2]; exact hc⟩
set_option maxRecDepth 100000 in
theorem Rd.box {cs : List Value} (h : Rd H enc Try.prog W 125 cs) : ∃ (b : Bx) (u : Value), cs = [.int .i64 b.y, .int .i64 b.n, u] ∧ SpansAt W u b.sp := by
  obtain ⟨hl, hf⟩ := h.field Try.underlying125
  rw [Try.cellsBox] at hl
  match cs, hl with
  | [c0, c1, c2], _ =>
    obtain ⟨y, n, h0⟩ := (hf 0 _ rfl).cube
    have h1 : Rd H enc Try.prog W 38 [c2] := by have := hf 1 _ rfl; simpa [Try.cellsSpans] using this
    simp [Try.cellsCube] at h0
    obtain ⟨l, h2⟩ := h1.spans
    exact ⟨⟨y, n, l⟩, c2, by simp [h0], h2⟩
theorem boxes_cells : ∀ (css : List (List Value)), (∀ c ∈ css, ∃ (b : Bx) (u : Value), c = [.int .i64 b.y, .int .i64 b.n, u] ∧ SpansAt W u b.sp) → ∃ (l : Bxs) (us : List Value), l.length = css.length ∧ us.length = l.length ∧ css.flatten = bxCells l us ∧ ∀ i (h : i < l.length) (h' : i < us.length), SpansAt W us[i] l[i].sp
  | [], _ => ⟨[], [], rfl, rfl, rfl, fun i h => by simp at h⟩
  | c :: css, h => by
    obtain ⟨l, us, h1, h2, h3, h4⟩ := boxes_cells css fun c hc => h c (List.mem_cons_of_mem _ hc)
    obtain ⟨b, u, hx, hu⟩ := h c List.mem_cons_self
    refine ⟨b :: l, u :: us, by simp [h1], by simp [h2], by simp [hx, h3, bxCells], fun i hi hi' => ?_⟩
    cases i with
    | zero => exact hu
    | succ i => exact h4 i (by simpa using hi) (by simpa using hi')
set_option maxRecDepth 100000 in
theorem Rd.boxes {v : Value} (h : Rd H enc Try.prog W 22 [v]) : ∃ l : Bxs, BxsAt W v l ∧ l.length * 40 ≤ reachBytes := by
  obtain ⟨v', css, hv, hc, hb, hcs⟩ := h.slice Try.underlying22 Try.cellsBox (by rw [Try.bytesBox]; decide) (by decide)
  simp only [List.cons.injEq, and_true] at hv
  subst hv
  obtain ⟨l, us, h1, h2, h3, h4⟩ := boxes_cells css fun c hc => (hcs c hc).2.box
  rw [Try.bytesBox] at hb
  exact ⟨l, ⟨us, h2, by rw [h1, ← h3]; exact hc, h4⟩, by rw [h1]; exact hb⟩
end Go.Proofs.Ythnkmjjldggecaa
namespace Go.Proofs.Ythnkmjjldggecaa
open Go.RowKit Go.ChangeShapes Go.WideShapes Go.Deep
variable {H : Type} {enc : TypeId × Value → H} {W : World}

set_option maxRecDepth 100000 in
theorem Try.cellsNode : Try.prog.cellsOf 30 = 3 := by kernel_rfl
set_option maxRecDepth 100000 in
theorem Try.bytesNode : Try.prog.bytesOf 30 = 24 := by kernel_rfl
set_option maxRecDepth 100000 in
theorem Rd.node {cs : List Value} (h : Rd H enc Try.prog W 30 cs) : ∃ x : Nd, cs = [.int .i64 x.k, .int .i64 x.a, .int .i64 x.b] := by
  obtain ⟨hl, hf⟩ := h.field Try.underlying30
  rw [Try.cellsNode] at hl
  match cs, hl with
  | [c0, c1, c2], _ =>
    obtain ⟨n0, h0, -⟩ := (hf 0 _ rfl).int Try.underlying3
    obtain ⟨n1, h1, -⟩ := (hf 1 _ rfl).int Try.underlying3
    obtain ⟨n2, h2, -⟩ := (hf 2 _ rfl).int Try.underlying3
    have e : Try.prog.cellsOf 3 = 1 := by kernel_rfl
    simp [e] at h0 h1 h2
    exact ⟨⟨n0, n1, n2⟩, by simp [h0, h1, h2]⟩
theorem nodes_cells : ∀ (css : List (List Value)), (∀ c ∈ css, ∃ x : Nd, c = [.int .i64 x.k, .int .i64 x.a, .int .i64 x.b]) → ∃ l : Nds, l.length = css.length ∧ css.flatten = ndCells l
  | [], _ => ⟨[], rfl, rfl⟩
  | c :: css, h => by
    obtain ⟨l, h1, h2⟩ := nodes_cells css fun c hc => h c (List.mem_cons_of_mem _ hc)
    obtain ⟨x, hx⟩ := h c List.mem_cons_self
    exact ⟨x :: l, by simp [h1], by simp [hx, h2, ndCells]⟩
set_option maxRecDepth 100000 in
theorem Rd.nodes {v : Value} (h : Rd H enc Try.prog W 24 [v]) : ∃ l : Nds, NdsAt W v l ∧ l.length * 24 ≤ reachBytes := by
  obtain ⟨v', css, hv, hc, hb, hcs⟩ := h.slice Try.underlying24 Try.cellsNode (by rw [Try.bytesNode]; decide) (by decide)
  simp only [List.cons.injEq, and_true] at hv
  subst hv
  obtain ⟨l, h1, h2⟩ := nodes_cells css fun c hc => (hcs c hc).2.node
  rw [Try.bytesNode] at hb
  exact ⟨l, by unfold NdsAt; rw [h1, ← h2]; exact hc, by rw [h1]; exact hb⟩
set_option maxRecDepth 100000 in
theorem Rd.point {cs : List Value} (h : Rd H enc Try.prog W 107 cs) : ∃ t n : Int, cs = [.int .i64 t, .int .i64 n] := by
  obtain ⟨hl, hf⟩ := h.field Try.underlying107
  have e2 : Try.prog.cellsOf 107 = 2 := by kernel_rfl
  rw [e2] at hl
  match cs, hl with
  | [c0, c1], _ =>
    obtain ⟨n0, h0, -⟩ := (hf 0 _ rfl).int Try.underlying3
    obtain ⟨n1, h1, -⟩ := (hf 1 _ rfl).int Try.underlying3
    have e : Try.prog.cellsOf 3 = 1 := by kernel_rfl
    simp [e] at h0 h1
    exact ⟨n0, n1, by simp [h0, h1]⟩
end Go.Proofs.Ythnkmjjldggecaa
