/- Versions that came in. -/
import Derived.Test.YthnkmjjldggecaaMOpen
import Derived.Test.YthnkmjjldggecaaMShelf1
namespace Go.Proofs.Ythnkmjjldggecaa
open Go.RowKit Go.ChangeShapes Go.WideShapes Go.Deep
variable {H : Type} {enc : TypeId × Value → H} {W : World}
theorem Rdo.str {P : Program} {t : TypeId} {cs : List Value} (ht : P.underlying t = some .string) (h : Rdo H enc P W t cs) : ∃ s : ByteArray, cs = [.string s] := by
  obtain ⟨fuel, d, p, h, -⟩ := h
  obtain ⟨b, h1, -⟩ := DataW.trod_string ht h
  exact ⟨b, h1⟩
set_option maxRecDepth 100000 in
theorem Try.cellsDot : Try.prog.cellsOf 92 = 2 := by kernel_rfl
set_option maxRecDepth 100000 in
theorem Try.bytesDot : Try.prog.bytesOf 92 = 16 := by kernel_rfl
set_option maxRecDepth 100000 in
theorem Try.cellsVer : Try.prog.cellsOf 109 = 8 := by kernel_rfl
set_option maxRecDepth 100000 in
theorem Try.bytesVer : Try.prog.bytesOf 109 = 104 := by kernel_rfl
theorem dots_cells : ∀ (css : List (List Value)), (∀ c ∈ css, ∃ x y : Int, c = [.int .i64 x, .int .i64 y]) → ∃ l : Dots, l.length = css.length ∧ css.flatten = spansCells l
  | [], _ => ⟨[], rfl, rfl⟩
  | c :: css, h => by
    obtain ⟨l, h1, h2⟩ := dots_cells css fun c hc => h c (List.mem_cons_of_mem _ hc)
    obtain ⟨x, y, hx⟩ := h c List.mem_cons_self
    exact ⟨(x, y) :: l, by simp [h1], by simp [hx, h2, spansCells]⟩
set_option maxRecDepth 100000 in
theorem Rdo.dots {v : Value} (h : Rdo H enc Try.prog W 79 [v]) : ∃ l : Dots, DsAt W v l := by
  obtain ⟨v', css, hv, hc, hb, hcs⟩ := h.slice Try.underlying79 Try.cellsDot (by rw [Try.bytesDot]; decide) (by decide)
  simp only [List.cons.injEq, and_true] at hv
  subst hv
  obtain ⟨l, h1, h2⟩ := dots_cells css fun c hc => by obtain ⟨s, k, e, -⟩ := (hcs c hc).2.dot; exact ⟨s, k, e⟩
  exact ⟨l, by unfold DsAt; rw [h1, ← h2]; exact hc⟩
set_option maxRecDepth 100000 in
theorem Rdo.kn {cs : List Value} (h : Rdo H enc Try.prog W 81 cs) : ∃ (u x : Value) (k : Kn), cs = [u, x] ∧ KnAt W u x k := by
  obtain ⟨hl, hf⟩ := h.field Try.underlying81
  have e2 : Try.prog.cellsOf 81 = 2 := by kernel_rfl
  rw [e2] at hl
  match cs, hl with
  | [c0, c1], _ =>
    have r0 := hf 0 _ rfl
    have r1 := hf 1 _ rfl
    have e0 : Try.prog.cellsOf 23 = 1 := by kernel_rfl
    have e1 : Try.prog.cellsOf 79 = 1 := by kernel_rfl
    simp [e0] at r0
    simp [e1] at r1
    obtain ⟨l, h0, -⟩ := r0.ints
    obtain ⟨m, h1⟩ := r1.dots
    exact ⟨c0, c1, ⟨l, m⟩, rfl, ⟨h0, h1⟩⟩
set_option maxRecDepth 100000 in
theorem Rdo.ver {cs : List Value} (h : Rdo H enc Try.prog W 109 cs) : ∃ (u x : Value) (v : Ver), cs = (verC v u x).toList ∧ KnAt W u x v.past := by
  obtain ⟨hl, hf⟩ := h.field Try.underlying109
  rw [Try.cellsVer] at hl
  match cs, hl with
  | [c0, c1, c2, c3, c4, c5, c6, c7], _ =>
    have r0 := hf 0 _ rfl
    have r1 := hf 1 _ rfl
    have r2 := hf 2 _ rfl
    have r3 := hf 3 _ rfl
    have r4 := hf 4 _ rfl
    have es : Try.prog.cellsOf 9 = 1 := by kernel_rfl
    have ei : Try.prog.cellsOf 3 = 1 := by kernel_rfl
    have ep : Try.prog.cellsOf 107 = 2 := by kernel_rfl
    have ek : Try.prog.cellsOf 81 = 2 := by kernel_rfl
    simp [es] at r0
    simp [Try.cellsDot] at r1
    simp [ep] at r2
    simp [ei] at r3
    simp [ek] at r4
    obtain ⟨s, h0⟩ := r0.str Try.underlying9
    obtain ⟨a, b, h1, -⟩ := r1.dot
    obtain ⟨hl2, hf2⟩ := r2.field Try.underlying107
    have q0 := hf2 0 _ rfl
    have q1 := hf2 1 _ rfl
    simp [ei] at q0 q1
    obtain ⟨n0, h2, -⟩ := q0.int Try.underlying3
    obtain ⟨n1, h3, -⟩ := q1.int Try.underlying3
    obtain ⟨n2, h4, -⟩ := r3.int Try.underlying3
    obtain ⟨u, x, k, h5, h6⟩ := r4.kn
    simp only [List.cons.injEq, and_true] at h0 h1 h2 h3 h4 h5
    obtain ⟨rfl, rfl⟩ := h1
    obtain ⟨rfl, rfl⟩ := h5
    subst h0 h2 h3 h4
    exact ⟨c6, c7, ⟨s, a, b, n0, n1, n2, k⟩, rfl, h6⟩
theorem vers_cells : ∀ (css : List (List Value)), (∀ c ∈ css, ∃ u x v, c = (verC v u x).toList ∧ KnAt W u x v.past) → ∃ ls : List Ver, ls.length = css.length ∧ Els verE W ls css
  | [], _ => ⟨[], rfl, trivial⟩
  | c :: css, h => by
    obtain ⟨ls, h1, h2⟩ := vers_cells css fun c hc => h c (List.mem_cons_of_mem _ hc)
    obtain ⟨u, x, v, rfl, hu⟩ := h c List.mem_cons_self
    exact ⟨v :: ls, by simp [h1], ⟨u, x, rfl, hu⟩, h2⟩
set_option maxRecDepth 100000 in
theorem Rdo.vers {v : Value} (h : Rdo H enc Try.prog W 60 [v]) : ∃ ls : List Ver, RowAt verE W v ls := by
  obtain ⟨v', css, hv, hc, hb, hcs⟩ := h.slice Try.underlying60 Try.cellsVer (by rw [Try.bytesVer]; decide) (by decide)
  simp only [List.cons.injEq, and_true] at hv
  subst hv
  obtain ⟨ls, h1, h2⟩ := vers_cells (W := W) css fun c hc => (hcs c hc).2.ver
  exact ⟨ls, css, h2, by rw [h1]; exact hc⟩
end Go.Proofs.Ythnkmjjldggecaa
