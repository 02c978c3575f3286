/- Versions, what is gone, parts and batches that came in, with their sizes. -/
import Derived.Test.YtboakoipdfmpcaaOpenVer
import Derived.Test.YtboakoipdfmpcaaMOpen
import Derived.Test.YtboakoipdfmpcaaMRoomK
import Derived.Test.YtboakoipdfmpcaaMPart1
import Derived.Test.YtboakoipdfmpcaaShelf3
import Derived.Test.YtboakoipdfmpcaaMClaims
import Derived.Deep.QuietTactic
import Derived.BigQuiet
import Derived.Test.YtboakoipdfmpcaaChecked
import Derived.Test.YtboakoipdfmpcaaMElt
import Derived.Lib.Bytealg
import Derived.Lib.Walk
namespace Go.Proofs.Ytboakoipdfmpcaa
open Go.RowKit Go.ChangeShapes Go.WideShapes Go.Deep
variable {H : Type} {enc : TypeId × Value → H} {W : World}
theorem reach_le : reachBytes ≤ 140737488355328 := by decide
set_option maxRecDepth 100000 in
theorem Rdo.dotsZ {v : Value} (h : Rdo H enc Try.prog W 23 [v]) : ∃ l : Dots, DsAt W v l ∧ l.length * 16 ≤ reachBytes := by
  obtain ⟨v', css, hv, hc, hb, hcs⟩ := h.slice Try.underlying23 Try.cellsDot (by rw [Try.bytesDot]; decide) (by decide)
  simp only [List.cons.injEq, and_true] at hv
  subst hv
  obtain ⟨l, h1, h2⟩ := dots_cells css fun c hc => by obtain ⟨s, k, e, -⟩ := (hcs c hc).2.dot; exact ⟨s, k, e⟩
  rw [Try.bytesDot] at hb
  exact ⟨l, by unfold DsAt; rw [h1, ← h2]; exact hc, by rw [h1]; exact hb⟩
set_option maxRecDepth 100000 in
theorem Rdo.knZ {cs : List Value} (h : Rdo H enc Try.prog W 25 cs) : ∃ (u x : Value) (k : Kn), cs = [u, x] ∧ KnAt W u x k ∧ SzK k := by
  obtain ⟨hl, hf⟩ := h.field Try.underlying25
  have e2 : Try.prog.cellsOf 25 = 2 := by kernel_rfl
  rw [e2] at hl
  match cs, hl with
  | [c0, c1], _ =>
    have r0 := hf 0 _ rfl
    have r1 := hf 1 _ rfl
    have e0 : Try.prog.cellsOf 22 = 1 := by kernel_rfl
    have e1 : Try.prog.cellsOf 23 = 1 := by kernel_rfl
    simp [e0] at r0
    simp [e1] at r1
    obtain ⟨l, h0, z0⟩ := r0.ints
    obtain ⟨m, h1, z1⟩ := r1.dotsZ
    exact ⟨c0, c1, ⟨l, m⟩, rfl, ⟨h0, h1⟩, ⟨Nat.le_trans z0 reach_le, Nat.le_trans z1 reach_le⟩⟩
set_option maxRecDepth 100000 in
theorem Try.cellsPart : Try.prog.cellsOf 33 = 3 := by kernel_rfl
set_option maxRecDepth 100000 in
theorem Rdo.part {cs : List Value} (h : Rdo H enc Try.prog W 33 cs) : ∃ (f u x : Value) (p : Pt), cs = [f, u, x] ∧ BxsAt W f p.f ∧ KnAt W u x p.k := by
  obtain ⟨hl, hf⟩ := h.field Try.underlying33
  rw [Try.cellsPart] at hl
  match cs, hl with
  | [c0, c1, c2], _ =>
    have r0 := hf 0 _ rfl
    have r1 := hf 1 _ rfl
    have es : Try.prog.cellsOf 28 = 1 := by kernel_rfl
    have ek : Try.prog.cellsOf 25 = 2 := by kernel_rfl
    simp [es] at r0
    simp [ek] at r1
    obtain ⟨l, h0, -⟩ := r0.boxes
    obtain ⟨u, x, k, h5, h6, -⟩ := r1.knZ
    simp only [List.cons.injEq, and_true] at h5
    obtain ⟨rfl, rfl⟩ := h5
    exact ⟨c0, c1, c2, ⟨l, k⟩, rfl, h0, h6⟩
end Go.Proofs.Ytboakoipdfmpcaa
