/- Versions, what is gone, parts and batches that came in, with their sizes. -/
import Derived.Test.YthnkmjjldggecaaOpenVer
import Derived.Test.YthnkmjjldggecaaMOpen
import Derived.Test.YthnkmjjldggecaaMRoomK
import Derived.Test.YthnkmjjldggecaaMWire3
namespace Go.Proofs.Ythnkmjjldggecaa
open Go.RowKit Go.ChangeShapes Go.WideShapes Go.Deep
variable {H : Type} {enc : TypeId × Value → H} {W : World}
theorem reach_le : reachBytes ≤ 140737488355328 := by decide
set_option maxRecDepth 100000 in
theorem Rdo.dotsZ {v : Value} (h : Rdo H enc Try.prog W 79 [v]) : ∃ l : Dots, DsAt W v l ∧ l.length * 16 ≤ reachBytes := by
  obtain ⟨v', css, hv, hc, hb, hcs⟩ := h.slice Try.underlying79 Try.cellsDot (by rw [Try.bytesDot]; decide) (by decide)
  simp only [List.cons.injEq, and_true] at hv
  subst hv
  obtain ⟨l, h1, h2⟩ := dots_cells css fun c hc => by obtain ⟨s, k, e, -⟩ := (hcs c hc).2.dot; exact ⟨s, k, e⟩
  rw [Try.bytesDot] at hb
  exact ⟨l, by unfold DsAt; rw [h1, ← h2]; exact hc, by rw [h1]; exact hb⟩
set_option maxRecDepth 100000 in
theorem Rdo.knZ {cs : List Value} (h : Rdo H enc Try.prog W 81 cs) : ∃ (u x : Value) (k : Kn), cs = [u, x] ∧ KnAt W u x k ∧ SzK k := by
  obtain ⟨hl, hf⟩ := h.field Try.underlying81
  have e2 : Try.prog.cellsOf 81 = 2 := by kernel_rfl
  rw [e2] at hl
  match cs, hl with
  | [c0, c1], _ =>
    have r0 := hf 0 _ rfl
    have r1 := hf 1 _ rfl
    have e0 : Try.prog.cellsOf 23 = 1 := by kernel_rfl
    have e1 : Try.prog.cellsOf 79 = 1 := by kernel_rfl
    simp [e0] at r0
    simp [e1] at r1
    obtain ⟨l, h0, z0⟩ := r0.ints
    obtain ⟨m, h1, z1⟩ := r1.dotsZ
    exact ⟨c0, c1, ⟨l, m⟩, rfl, ⟨h0, h1⟩, ⟨Nat.le_trans z0 reach_le, Nat.le_trans z1 reach_le⟩⟩
set_option maxRecDepth 100000 in
theorem Rdo.verZ {cs : List Value} (h : Rdo H enc Try.prog W 109 cs) : ∃ (u x : Value) (v : Ver), cs = (verC v u x).toList ∧ KnAt W u x v.past ∧ SzK v.past := by
  obtain ⟨hl, hf⟩ := h.field Try.underlying109
  rw [Try.cellsVer] at hl
  match cs, hl with
  | [c0, c1, c2, c3, c4, c5, c6, c7], _ =>
    have r0 := hf 0 _ rfl
    have r1 := hf 1 _ rfl
    have r2 := hf 2 _ rfl
    have r3 := hf 3 _ rfl
    have r4 := hf 4 _ rfl
    have es : Try.prog.cellsOf 9 = 1 := by kernel_rfl
    have ei : Try.prog.cellsOf 3 = 1 := by kernel_rfl
    have ep : Try.prog.cellsOf 107 = 2 := by kernel_rfl
    have ek : Try.prog.cellsOf 81 = 2 := by kernel_rfl
    simp [es] at r0
    simp [Try.cellsDot] at r1
    simp [ep] at r2
    simp [ei] at r3
    simp [ek] at r4
    obtain ⟨s, h0⟩ := r0.str Try.underlying9
    obtain ⟨a, b, h1, -⟩ := r1.dot
    obtain ⟨hl2, hf2⟩ := r2.field Try.underlying107
    have q0 := hf2 0 _ rfl
    have q1 := hf2 1 _ rfl
    simp [ei] at q0 q1
    obtain ⟨n0, h2, -⟩ := q0.int Try.underlying3
    obtain ⟨n1, h3, -⟩ := q1.int Try.underlying3
    obtain ⟨n2, h4, -⟩ := r3.int Try.underlying3
    obtain ⟨u, x, k, h5, h6, h7⟩ := r4.knZ
    simp only [List.cons.injEq, and_true] at h0 h1 h2 h3 h4 h5
    obtain ⟨rfl, rfl⟩ := h1
    obtain ⟨rfl, rfl⟩ := h5
    subst h0 h2 h3 h4
    exact ⟨c6, c7, ⟨s, a, b, n0, n1, n2, k⟩, rfl, h6, h7⟩
theorem versZ_cells : ∀ (css : List (List Value)), (∀ c ∈ css, ∃ u x v, c = (verC v u x).toList ∧ KnAt W u x v.past ∧ SzK v.past) → ∃ ls : List Ver, ls.length = css.length ∧ Els verE W ls css ∧ ∀ v ∈ ls, SzK v.past
  | [], _ => ⟨[], rfl, trivial, by simp⟩
  | c :: css, h => by
    obtain ⟨ls, h1, h2, h3⟩ := versZ_cells css fun c hc => h c (List.mem_cons_of_mem _ hc)
    obtain ⟨u, x, v, rfl, hu, hz⟩ := h c List.mem_cons_self
    refine ⟨v :: ls, by simp [h1], ⟨⟨u, x, rfl, hu⟩, h2⟩, fun y hy => ?_⟩
    rcases List.mem_cons.1 hy with rfl | hy
    · exact hz
    · exact h3 y hy
set_option maxRecDepth 100000 in
theorem Rdo.versZ {v : Value} (h : Rdo H enc Try.prog W 60 [v]) : ∃ ls : List Ver, RowAt verE W v ls ∧ SzV ls := by
  obtain ⟨v', css, hv, hc, hb, hcs⟩ := h.slice Try.underlying60 Try.cellsVer (by rw [Try.bytesVer]; decide) (by decide)
  simp only [List.cons.injEq, and_true] at hv
  subst hv
  obtain ⟨ls, h1, h2, h3⟩ := versZ_cells (W := W) css fun c hc => (hcs c hc).2.verZ
  rw [Try.bytesVer] at hb
  exact ⟨ls, ⟨css, h2, by rw [h1]; exact hc⟩, ⟨by rw [h1]; exact Nat.le_trans hb reach_le, h3⟩⟩
set_option maxRecDepth 100000 in
theorem Try.cellsGone : Try.prog.cellsOf 111 = 3 := by kernel_rfl
set_option maxRecDepth 100000 in
theorem Try.bytesGone : 1 ≤ Try.prog.bytesOf 111 := by decide +kernel
set_option maxRecDepth 100000 in
theorem Rdo.goneZ {cs : List Value} (h : Rdo H enc Try.prog W 111 cs) : ∃ (u x : Value) (id : ByteArray) (k : Kn), cs = [.string id, u, x] ∧ KnAt W u x k ∧ SzK k := by
  obtain ⟨hl, hf⟩ := h.field Try.underlying111
  rw [Try.cellsGone] at hl
  match cs, hl with
  | [c0, c1, c2], _ =>
    have r0 := hf 0 _ rfl
    have r1 := hf 1 _ rfl
    have es : Try.prog.cellsOf 9 = 1 := by kernel_rfl
    have ek : Try.prog.cellsOf 81 = 2 := by kernel_rfl
    simp [es] at r0
    simp [ek] at r1
    obtain ⟨s, h0⟩ := r0.str Try.underlying9
    obtain ⟨u, x, k, h5, h6, h7⟩ := r1.knZ
    simp only [List.cons.injEq, and_true] at h0 h5
    obtain ⟨rfl, rfl⟩ := h5
    subst h0
    exact ⟨c1, c2, s, k, rfl, h6, h7⟩
theorem gones_cells : ∀ (css : List (List Value)), (∀ c ∈ css, ∃ u x id k, c = [.string id, u, x] ∧ KnAt W u x k) → ∃ ls : List Gn, ls.length = css.length ∧ Els goneE W ls css
  | [], _ => ⟨[], rfl, trivial⟩
  | c :: css, h => by
    obtain ⟨ls, h1, h2⟩ := gones_cells css fun c hc => h c (List.mem_cons_of_mem _ hc)
    obtain ⟨u, x, id, k, rfl, hu⟩ := h c List.mem_cons_self
    exact ⟨⟨id, k⟩ :: ls, by simp [h1], ⟨u, x, rfl, hu⟩, h2⟩
set_option maxRecDepth 100000 in
theorem Rdo.gones {v : Value} (h : Rdo H enc Try.prog W 61 [v]) : ∃ ls : List Gn, RowAt goneE W v ls := by
  obtain ⟨v', css, hv, hc, hb, hcs⟩ := h.slice Try.underlying61 Try.cellsGone Try.bytesGone (by decide)
  simp only [List.cons.injEq, and_true] at hv
  subst hv
  obtain ⟨ls, h1, h2⟩ := gones_cells (W := W) css fun c hc => by obtain ⟨u, x, id, k, e, q, -⟩ := (hcs c hc).2.goneZ; exact ⟨u, x, id, k, e, q⟩
  exact ⟨ls, css, h2, by rw [h1]; exact hc⟩
set_option maxRecDepth 100000 in
theorem Try.cellsPart : Try.prog.cellsOf 83 = 3 := by kernel_rfl
set_option maxRecDepth 100000 in
theorem Try.bytesPart : 1 ≤ Try.prog.bytesOf 83 := by decide +kernel
set_option maxRecDepth 100000 in
theorem Rdo.part {cs : List Value} (h : Rdo H enc Try.prog W 83 cs) : ∃ (f u x : Value) (p : Pt), cs = [f, u, x] ∧ BxsAt W f p.f ∧ KnAt W u x p.k := by
  obtain ⟨hl, hf⟩ := h.field Try.underlying83
  rw [Try.cellsPart] at hl
  match cs, hl with
  | [c0, c1, c2], _ =>
    have r0 := hf 0 _ rfl
    have r1 := hf 1 _ rfl
    have es : Try.prog.cellsOf 22 = 1 := by kernel_rfl
    have ek : Try.prog.cellsOf 81 = 2 := by kernel_rfl
    simp [es] at r0
    simp [ek] at r1
    obtain ⟨l, h0, -⟩ := r0.boxes
    obtain ⟨u, x, k, h5, h6, -⟩ := r1.knZ
    simp only [List.cons.injEq, and_true] at h5
    obtain ⟨rfl, rfl⟩ := h5
    exact ⟨c0, c1, c2, ⟨l, k⟩, rfl, h0, h6⟩
theorem parts_cells : ∀ (css : List (List Value)), (∀ c ∈ css, ∃ f u x p, c = [f, u, x] ∧ BxsAt W f (p : Pt).f ∧ KnAt W u x p.k) → ∃ ls : List Pt, ls.length = css.length ∧ Els partE W ls css
  | [], _ => ⟨[], rfl, trivial⟩
  | c :: css, h => by
    obtain ⟨ls, h1, h2⟩ := parts_cells css fun c hc => h c (List.mem_cons_of_mem _ hc)
    obtain ⟨f, u, x, p, rfl, hf, hu⟩ := h c List.mem_cons_self
    exact ⟨p :: ls, by simp [h1], ⟨f, u, x, rfl, hf, hu⟩, h2⟩
set_option maxRecDepth 100000 in
theorem Rdo.partsR {v : Value} (h : Rdo H enc Try.prog W 62 [v]) : ∃ ls : List Pt, RowAt partE W v ls := by
  obtain ⟨v', css, hv, hc, hb, hcs⟩ := h.slice Try.underlying62 Try.cellsPart Try.bytesPart (by decide)
  simp only [List.cons.injEq, and_true] at hv
  subst hv
  obtain ⟨ls, h1, h2⟩ := parts_cells (W := W) css fun c hc => (hcs c hc).2.part
  exact ⟨ls, css, h2, by rw [h1]; exact hc⟩
set_option maxRecDepth 100000 in
theorem Try.cellsBatch : Try.prog.cellsOf 64 = 5 := by kernel_rfl
set_option maxRecDepth 100000 in
theorem Rdo.batch {cs : List Value} (h : Rdo H enc Try.prog W 64 cs) : ∃ (bv bg bp : Value) (b : Bt), cs = [.int .i64 b.site, .int .i64 b.stamp, bv, bg, bp] ∧ BtAt W bv bg bp b := by
  obtain ⟨hl, hf⟩ := h.field Try.underlying64
  rw [Try.cellsBatch] at hl
  match cs, hl with
  | [c0, c1, c2, c3, c4], _ =>
    have r0 := hf 0 _ rfl
    have r1 := hf 1 _ rfl
    have r2 := hf 2 _ rfl
    have r3 := hf 3 _ rfl
    have r4 := hf 4 _ rfl
    have ei : Try.prog.cellsOf 3 = 1 := by kernel_rfl
    have ev : Try.prog.cellsOf 60 = 1 := by kernel_rfl
    have eg : Try.prog.cellsOf 61 = 1 := by kernel_rfl
    have ep : Try.prog.cellsOf 62 = 1 := by kernel_rfl
    simp [ei] at r0 r1
    simp [ev] at r2
    simp [eg] at r3
    simp [ep] at r4
    obtain ⟨n0, h0, -⟩ := r0.int Try.underlying3
    obtain ⟨n1, h1, -⟩ := r1.int Try.underlying3
    obtain ⟨V, h2⟩ := r2.vers
    obtain ⟨G, h3⟩ := r3.gones
    obtain ⟨P, h4⟩ := r4.partsR
    simp only [List.cons.injEq, and_true] at h0 h1
    subst h0 h1
    exact ⟨c2, c3, c4, ⟨n0, n1, V, G, P⟩, rfl, ⟨h2, h3, h4⟩⟩
end Go.Proofs.Ythnkmjjldggecaa
