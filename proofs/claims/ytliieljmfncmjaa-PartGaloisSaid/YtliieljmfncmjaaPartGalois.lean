/- PartGalois returns true for every three slices of filters and three slices of slices of slices of integers, on every machine state in which its arguments can be read; no condition. -/
import Derived.Test.YtliieljmfncmjaaMFrame
import Derived.Test.YtliieljmfncmjaaOpenParts
import Derived.Test.YtliieljmfncmjaaPartGaloisWalk
namespace Go.Proofs.Ytliieljmfncmjaa
open Go.ChangeShapes Go.WideShapes Go.ChangeAt Go.RowKit Go.ChangeMaps
set_option maxRecDepth 100000 in
theorem partGalois_lifted (os : Os) (started : os.Started) (H : Type) (enc : TypeId × Value → H) :
    ReturnsInHanded {} Try.checked os 11 .any (Rows.partGaloisSpec.pre6 enc Try.prog Try.f11 Rows.partGaloisRow.domain false) (Rows.partGaloisSpec.post enc Try.prog Try.f11 false true false false) := by
  refine law_of_walk started (by kernel_rfl) Try.func11
    (ChangeSpec.witness6 (enc := enc) (C := Try.checked) false ⟨#[], #[.slice none 0 0, .slice none 0 0, .slice none 0 0, .slice none 0 0, .slice none 0 0, .slice none 0 0], []⟩ 8 (by kernel_rfl) (by kernel_rfl) (by kernel_rfl) (by kernel_rfl)) rfl
    (fun ds h => by match ds, h with | [_, _, _, _, _, _], _ => rfl) (by kernel_rfl) rfl ?_
  intro W base args ds p hR
  obtain ⟨hval, hA, hlt, hsz⟩ := hR
  rw [Try.params11] at hA hval hsz
  obtain ⟨v0, vs0, d0, ds0, p0, q0, hargs, rfl, rfl, h0, r0⟩ := trodAll_cons hA
  obtain ⟨v1, vs1, d1, ds1, p1, q1, rfl, rfl, rfl, h1, r1⟩ := trodAll_cons r0
  obtain ⟨v2, vs2, d2, ds2, p2, q2, rfl, rfl, rfl, h2, r2⟩ := trodAll_cons r1
  obtain ⟨v3, vs3, d3, ds3, p3, q3, rfl, rfl, rfl, h3, r3⟩ := trodAll_cons r2
  obtain ⟨v4, vs4, d4, ds4, p4, q4, rfl, rfl, rfl, h4, r4⟩ := trodAll_cons r3
  obtain ⟨v5, vs5, d5, ds5, p5, q5, rfl, rfl, rfl, h5, r5⟩ := trodAll_cons r4
  obtain ⟨rfl, rfl, rfl⟩ := trodAll_nil r5
  obtain rfl : args = #[v0, v1, v2, v3, v4, v5] := by cases args; simp_all
  obtain ⟨l0, hl0⟩ := Rd.boxess (H := H) (enc := enc) (v := v0) (by have h := Rd.of_arg (j := 0) hsz rfl rfl h0 (fun x hx => hlt x (by simp [hx])); rwa [okWide_slice_cells Try.underlying23 (hval 0 23 v0 rfl rfl)] at h)
  obtain ⟨l1, hl1⟩ := Rd.boxess (H := H) (enc := enc) (v := v1) (by have h := Rd.of_arg (j := 1) hsz rfl rfl h1 (fun x hx => hlt x (by simp [hx])); rwa [okWide_slice_cells Try.underlying23 (hval 1 23 v1 rfl rfl)] at h)
  obtain ⟨l2, hl2⟩ := Rd.boxess (H := H) (enc := enc) (v := v2) (by have h := Rd.of_arg (j := 2) hsz rfl rfl h2 (fun x hx => hlt x (by simp [hx])); rwa [okWide_slice_cells Try.underlying23 (hval 2 23 v2 rfl rfl)] at h)
  obtain ⟨l3, hl3⟩ := Rd.vecss (H := H) (enc := enc) (v := v3) (by have h := Rd.of_arg (j := 3) hsz rfl rfl h3 (fun x hx => hlt x (by simp [hx])); rwa [okWide_slice_cells Try.underlying24 (hval 3 24 v3 rfl rfl)] at h)
  obtain ⟨l4, hl4⟩ := Rd.vecss (H := H) (enc := enc) (v := v4) (by have h := Rd.of_arg (j := 4) hsz rfl rfl h4 (fun x hx => hlt x (by simp [hx])); rwa [okWide_slice_cells Try.underlying24 (hval 4 24 v4 rfl rfl)] at h)
  obtain ⟨l5, hl5⟩ := Rd.vecss (H := H) (enc := enc) (v := v5) (by have h := Rd.of_arg (j := 5) hsz rfl rfl h5 (fun x hx => hlt x (by simp [hx])); rwa [okWide_slice_cells Try.underlying24 (hval 5 24 v5 rfl rfl)] at h)
  exact PartGalois_walk v0 v1 v2 v3 v4 v5 l0 l1 l2 l3 l4 l5 W hl0 hl1 hl2 hl3 hl4 hl5
set_option maxRecDepth 100000 in
theorem partGalois_place : (Rows.partGaloisRow.inPlace == Try.pinned.checked.prog.inPlace 11) = true := by kernel_rfl
set_option maxRecDepth 100000 in
theorem partGalois_unfollowed : (Rows.partGaloisRow.unfollowed == Try.pinned.checked.prog.unfollowed 11) = true := by kernel_rfl
set_option maxRecDepth 100000 in
theorem partGalois_recurses : (Rows.partGaloisRow.recurses == Try.pinned.checked.prog.recurses 11) = true := by kernel_rfl
set_option maxRecDepth 100000 in
theorem partGalois_named : (Rows.partGaloisRow.named == Try.pinned.checked.prog.varsNamed 11) = true := by kernel_rfl
set_option maxRecDepth 100000 in
theorem partGalois_joined : joinedFacts Try.pinned.checked.prog 11 Try.f11 Rows.partGaloisSpec Rows.partGaloisRow = true :=
  joined_of (by kernel_rfl) shut_laid shut_rowed (by kernel_rfl) (by kernel_rfl) (by kernel_rfl) shut_stops (by kernel_rfl) shut_knobs partGalois_place partGalois_unfollowed partGalois_recurses partGalois_named (by kernel_rfl) (by kernel_rfl) (by kernel_rfl) (by kernel_rfl) (by kernel_rfl) (by kernel_rfl) (by kernel_rfl) (by kernel_rfl) (by kernel_rfl) shut_keys (by kernel_rfl) shut_heard shut_enter shut_lifts shut_make (by kernel_rfl) (by kernel_rfl) (by kernel_rfl) (by kernel_rfl)
set_option maxRecDepth 100000 in
/-- The statement. -/
theorem partGalois_proved : Rows.PartGaloisSaid :=
  OpenClaim.holds_of_wide 11 Try.f11 rfl rfl rfl rfl rfl rfl rfl ⟨rfl, rfl, rfl, rfl, rfl⟩ rfl rfl rfl rfl rfl (by kernel_rfl) Try.func11 partGalois_joined
    (of_decide_eq_true (by kernel_rfl)) (by unfold Func.isWrapper; first | (rw [if_pos (by decide +kernel)]; kernel_rfl) | (rw [if_neg (by decide +kernel)]; exact ⟨rfl, rfl⟩))
    (fun os started H enc _ => partGalois_lifted os started H enc)
#print axioms partGalois_proved
end Go.Proofs.Ytliieljmfncmjaa
