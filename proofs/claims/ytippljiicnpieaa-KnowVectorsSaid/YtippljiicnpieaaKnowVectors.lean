/- KnowVectors returns true for every two slices of integers, on every machine state in which its arguments can be read; no condition. -/
import Derived.Test.YtippljiicnpieaaShut
import Derived.Test.YtippljiicnpieaaOpenKnow
import Derived.Test.YtippljiicnpieaaKnowVectorsWalk
namespace Go.Proofs.Ytippljiicnpieaa
open Go.ChangeShapes Go.WideShapes Go.ChangeAt Go.RowKit Go.ChangeMaps
set_option maxRecDepth 100000 in
theorem knowVectors_lifted (os : Os) (started : os.Started) (H : Type) (enc : TypeId × Value → H) :
    ReturnsInHanded {} Try.checked os 12 .any (Rows.knowVectorsSpec.pre6 enc Try.prog Try.f12 Rows.knowVectorsRow.domain false) (Rows.knowVectorsSpec.post enc Try.prog Try.f12 false true false false) := by
  refine law_of_walk started (by kernel_rfl) Try.func12
    (ChangeSpec.witness6 (enc := enc) (C := Try.checked) false ⟨#[], #[.slice none 0 0, .slice none 0 0], []⟩ 8 (by kernel_rfl) (by kernel_rfl) (by kernel_rfl) (by kernel_rfl)) rfl
    (fun ds h => by match ds, h with | [_, _], _ => rfl) (by kernel_rfl) rfl ?_
  intro W base args ds p hR
  obtain ⟨hval, hA, hlt, hsz⟩ := hR
  rw [Try.params12] at hA hval hsz
  obtain ⟨v0, vs0, d0, ds0, p0, q0, hargs, rfl, rfl, h0, r0⟩ := trodAll_cons hA
  obtain ⟨v1, vs1, d1, ds1, p1, q1, rfl, rfl, rfl, h1, r1⟩ := trodAll_cons r0
  obtain ⟨rfl, rfl, rfl⟩ := trodAll_nil r1
  obtain rfl : args = #[v0, v1] := by cases args; simp_all
  obtain ⟨l0, hl0, hb0⟩ := Rd.ints (H := H) (enc := enc) (v := v0) (by have h := Rd.of_arg (j := 0) hsz rfl rfl h0 (fun x hx => hlt x (by simp [hx])); rwa [okWide_slice_cells Try.underlying27 (hval 0 27 v0 rfl rfl)] at h)
  obtain ⟨l1, hl1, hb1⟩ := Rd.ints (H := H) (enc := enc) (v := v1) (by have h := Rd.of_arg (j := 1) hsz rfl rfl h1 (fun x hx => hlt x (by simp [hx])); rwa [okWide_slice_cells Try.underlying27 (hval 1 27 v1 rfl rfl)] at h)
  exact KnowVectors_walk v0 v1 l0 l1 W hl0 hl1
set_option maxRecDepth 100000 in
theorem knowVectors_place : (Rows.knowVectorsRow.inPlace == Try.pinned.checked.prog.inPlace 12) = true := by kernel_rfl
set_option maxRecDepth 100000 in
theorem knowVectors_unfollowed : (Rows.knowVectorsRow.unfollowed == Try.pinned.checked.prog.unfollowed 12) = true := by kernel_rfl
set_option maxRecDepth 100000 in
theorem knowVectors_recurses : (Rows.knowVectorsRow.recurses == Try.pinned.checked.prog.recurses 12) = true := by kernel_rfl
set_option maxRecDepth 100000 in
theorem knowVectors_named : (Rows.knowVectorsRow.named == Try.pinned.checked.prog.varsNamed 12) = true := by kernel_rfl
set_option maxRecDepth 100000 in
theorem knowVectors_joined : joinedFacts Try.pinned.checked.prog 12 Try.f12 Rows.knowVectorsSpec Rows.knowVectorsRow = true :=
  joined_of (by kernel_rfl) shut_laid shut_rowed (by kernel_rfl) (by kernel_rfl) (by kernel_rfl) shut_stops (by kernel_rfl) shut_knobs knowVectors_place knowVectors_unfollowed knowVectors_recurses knowVectors_named (by kernel_rfl) (by kernel_rfl) (by kernel_rfl) (by kernel_rfl) (by kernel_rfl) (by kernel_rfl) (by kernel_rfl) (by kernel_rfl) (by kernel_rfl) shut_keys (by kernel_rfl) shut_heard shut_enter shut_lifts shut_make (by kernel_rfl) (by kernel_rfl) (by kernel_rfl) (by kernel_rfl)
set_option maxRecDepth 100000 in
/-- The statement. -/
theorem knowVectors_proved : Rows.KnowVectorsSaid :=
  OpenClaim.holds_of_wide 12 Try.f12 rfl rfl rfl rfl rfl rfl rfl ⟨rfl, rfl, rfl, rfl, rfl⟩ rfl rfl rfl rfl rfl (by kernel_rfl) Try.func12 knowVectors_joined
    (of_decide_eq_true (by kernel_rfl)) (by unfold Func.isWrapper; first | (rw [if_pos (by decide +kernel)]; kernel_rfl) | (rw [if_neg (by decide +kernel)]; exact ⟨rfl, rfl⟩))
    (fun os started H enc _ => knowVectors_lifted os started H enc)
#print axioms knowVectors_proved
end Go.Proofs.Ytippljiicnpieaa
