/- Nodes and points that came in. -/
import Derived.Test.YtcanefjjpeoikaaChecked
import Derived.Test.YtcanefjjpeoikaaOpen
import Derived.Test.YtcanefjjpeoikaaFormPure
namespace Go.Proofs.Ytcanefjjpeoikaa
open Go.RowKit Go.ChangeShapes Go.WideShapes Go.Deep
variable {H : Type} {enc : TypeId × Value → H} {W : World}

set_option maxRecDepth 100000 in
theorem Try.cellsNode : Try.prog.cellsOf 29 = 3 := by kernel_rfl
set_option maxRecDepth 100000 in
theorem Try.bytesNode : Try.prog.bytesOf 29 = 24 := by kernel_rfl
set_option maxRecDepth 100000 in
theorem Rd.node {cs : List Value} (h : Rd H enc Try.prog W 29 cs) : ∃ x : Nd, cs = [.int .i64 x.k, .int .i64 x.a, .int .i64 x.b] := by
  obtain ⟨hl, hf⟩ := h.field Try.underlying29
  rw [Try.cellsNode] at hl
  match cs, hl with
  | [c0, c1, c2], _ =>
    obtain ⟨n0, h0, -⟩ := (hf 0 _ rfl).int Try.underlying3
    obtain ⟨n1, h1, -⟩ := (hf 1 _ rfl).int Try.underlying3
    obtain ⟨n2, h2, -⟩ := (hf 2 _ rfl).int Try.underlying3
    have e : Try.prog.cellsOf 3 = 1 := by kernel_rfl
    simp [e] at h0 h1 h2
    exact ⟨⟨n0, n1, n2⟩, by simp [h0, h1, h2]⟩
theorem nodes_cells : ∀ (css : List (List Value)), (∀ c ∈ css, ∃ x : Nd, c = [.int .i64 x.k, .int .i64 x.a, .int .i64 x.b]) → ∃ l : Nds, l.length = css.length ∧ css.flatten = ndCells l
  | [], _ => ⟨[], rfl, rfl⟩
  | c :: css, h => by
    obtain ⟨l, h1, h2⟩ := nodes_cells css fun c hc => h c (List.mem_cons_of_mem _ hc)
    obtain ⟨x, hx⟩ := h c List.mem_cons_self
    exact ⟨x :: l, by simp [h1], by simp [hx, h2, ndCells]⟩
set_option maxRecDepth 100000 in
theorem Rd.nodes {v : Value} (h : Rd H enc Try.prog W 22 [v]) : ∃ l : Nds, NdsAt W v l ∧ l.length * 24 ≤ reachBytes := by
  obtain ⟨v', css, hv, hc, hb, hcs⟩ := h.slice Try.underlying22 Try.cellsNode (by rw [Try.bytesNode]; decide) (by decide)
  simp only [List.cons.injEq, and_true] at hv
  subst hv
  obtain ⟨l, h1, h2⟩ := nodes_cells css fun c hc => (hcs c hc).2.node
  rw [Try.bytesNode] at hb
  exact ⟨l, by unfold NdsAt; rw [h1, ← h2]; exact hc, by rw [h1]; exact hb⟩
set_option maxRecDepth 100000 in
theorem Rd.point {cs : List Value} (h : Rd H enc Try.prog W 24 cs) : ∃ t n : Int, cs = [.int .i64 t, .int .i64 n] := by
  obtain ⟨hl, hf⟩ := h.field Try.underlying24
  have e2 : Try.prog.cellsOf 24 = 2 := by kernel_rfl
  rw [e2] at hl
  match cs, hl with
  | [c0, c1], _ =>
    obtain ⟨n0, h0, -⟩ := (hf 0 _ rfl).int Try.underlying3
    obtain ⟨n1, h1, -⟩ := (hf 1 _ rfl).int Try.underlying3
    have e : Try.prog.cellsOf 3 = 1 := by kernel_rfl
    simp [e] at h0 h1
    exact ⟨n0, n1, by simp [h0, h1]⟩
end Go.Proofs.Ytcanefjjpeoikaa
