/- PartEnds returns true for every slice of filters, slice of slices of slices of integers and two filters, on every machine state in which its arguments can be read; no condition. -/
import Derived.Test.YtliieljmfncmjaaMFrame
import Derived.Test.YtliieljmfncmjaaOpenParts
import Derived.Test.YtliieljmfncmjaaPartEndsWalk
namespace Go.Proofs.Ytliieljmfncmjaa
open Go.ChangeShapes Go.WideShapes Go.ChangeAt Go.RowKit Go.ChangeMaps
set_option maxRecDepth 100000 in
theorem partEnds_lifted (os : Os) (started : os.Started) (H : Type) (enc : TypeId × Value → H) :
    ReturnsInHanded {} Try.checked os 13 .any (Rows.partEndsSpec.pre6 enc Try.prog Try.f13 Rows.partEndsRow.domain false) (Rows.partEndsSpec.post enc Try.prog Try.f13 false true false false) := by
  refine law_of_walk started (by kernel_rfl) Try.func13
    (ChangeSpec.witness6 (enc := enc) (C := Try.checked) false ⟨#[], #[.slice none 0 0, .slice none 0 0, .slice none 0 0, .slice none 0 0], []⟩ 8 (by kernel_rfl) (by kernel_rfl) (by kernel_rfl) (by kernel_rfl)) rfl
    (fun ds h => by match ds, h with | [_, _, _, _], _ => rfl) (by kernel_rfl) rfl ?_
  intro W base args ds p hR
  obtain ⟨hval, hA, hlt, hsz⟩ := hR
  rw [Try.params13] at hA hval hsz
  obtain ⟨v0, vs0, d0, ds0, p0, q0, hargs, rfl, rfl, h0, r0⟩ := trodAll_cons hA
  obtain ⟨v1, vs1, d1, ds1, p1, q1, rfl, rfl, rfl, h1, r1⟩ := trodAll_cons r0
  obtain ⟨v2, vs2, d2, ds2, p2, q2, rfl, rfl, rfl, h2, r2⟩ := trodAll_cons r1
  obtain ⟨v3, vs3, d3, ds3, p3, q3, rfl, rfl, rfl, h3, r3⟩ := trodAll_cons r2
  obtain ⟨rfl, rfl, rfl⟩ := trodAll_nil r3
  obtain rfl : args = #[v0, v1, v2, v3] := by cases args; simp_all
  obtain ⟨l0, hl0⟩ := Rd.boxess (H := H) (enc := enc) (v := v0) (by have h := Rd.of_arg (j := 0) hsz rfl rfl h0 (fun x hx => hlt x (by simp [hx])); rwa [okWide_slice_cells Try.underlying23 (hval 0 23 v0 rfl rfl)] at h)
  obtain ⟨l1, hl1⟩ := Rd.vecss (H := H) (enc := enc) (v := v1) (by have h := Rd.of_arg (j := 1) hsz rfl rfl h1 (fun x hx => hlt x (by simp [hx])); rwa [okWide_slice_cells Try.underlying24 (hval 1 24 v1 rfl rfl)] at h)
  obtain ⟨l2, hl2, hb2⟩ := Rd.boxes (H := H) (enc := enc) (v := v2) (by have h := Rd.of_arg (j := 2) hsz rfl rfl h2 (fun x hx => hlt x (by simp [hx])); rwa [okWide_slice_cells Try.underlying79 (hval 2 79 v2 rfl rfl)] at h)
  obtain ⟨l3, hl3, hb3⟩ := Rd.boxes (H := H) (enc := enc) (v := v3) (by have h := Rd.of_arg (j := 3) hsz rfl rfl h3 (fun x hx => hlt x (by simp [hx])); rwa [okWide_slice_cells Try.underlying79 (hval 3 79 v3 rfl rfl)] at h)
  exact PartEnds_walk v0 v1 v2 v3 l0 l1 l2 l3 W hl0 hl1 hl2 hl3
set_option maxRecDepth 100000 in
theorem partEnds_place : (Rows.partEndsRow.inPlace == Try.pinned.checked.prog.inPlace 13) = true := by kernel_rfl
set_option maxRecDepth 100000 in
theorem partEnds_unfollowed : (Rows.partEndsRow.unfollowed == Try.pinned.checked.prog.unfollowed 13) = true := by kernel_rfl
set_option maxRecDepth 100000 in
theorem partEnds_recurses : (Rows.partEndsRow.recurses == Try.pinned.checked.prog.recurses 13) = true := by kernel_rfl
set_option maxRecDepth 100000 in
theorem partEnds_named : (Rows.partEndsRow.named == Try.pinned.checked.prog.varsNamed 13) = true := by kernel_rfl
set_option maxRecDepth 100000 in
theorem partEnds_joined : joinedFacts Try.pinned.checked.prog 13 Try.f13 Rows.partEndsSpec Rows.partEndsRow = true :=
  joined_of (by kernel_rfl) shut_laid shut_rowed (by kernel_rfl) (by kernel_rfl) (by kernel_rfl) shut_stops (by kernel_rfl) shut_knobs partEnds_place partEnds_unfollowed partEnds_recurses partEnds_named (by kernel_rfl) (by kernel_rfl) (by kernel_rfl) (by kernel_rfl) (by kernel_rfl) (by kernel_rfl) (by kernel_rfl) (by kernel_rfl) (by kernel_rfl) shut_keys (by kernel_rfl) shut_heard shut_enter shut_lifts shut_make (by kernel_rfl) (by kernel_rfl) (by kernel_rfl) (by kernel_rfl)
set_option maxRecDepth 100000 in
/-- The statement. -/
theorem partEnds_proved : Rows.PartEndsSaid :=
  OpenClaim.holds_of_wide 13 Try.f13 rfl rfl rfl rfl rfl rfl rfl ⟨rfl, rfl, rfl, rfl, rfl⟩ rfl rfl rfl rfl rfl (by kernel_rfl) Try.func13 partEnds_joined
    (of_decide_eq_true (by kernel_rfl)) (by unfold Func.isWrapper; first | (rw [if_pos (by decide +kernel)]; kernel_rfl) | (rw [if_neg (by decide +kernel)]; exact ⟨rfl, rfl⟩))
    (fun os started H enc _ => partEnds_lifted os started H enc)
#print axioms partEnds_proved
end Go.Proofs.Ytliieljmfncmjaa
