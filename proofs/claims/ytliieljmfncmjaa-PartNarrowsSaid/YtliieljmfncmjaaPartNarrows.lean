/- PartNarrows returns true for every slice of filters, slice of slices of slices of integers, two filters, a point and a dot, on every machine state in which its arguments can be read; no condition. -/
import Derived.Test.YtliieljmfncmjaaMFrame
import Derived.Test.YtliieljmfncmjaaOpenParts
import Derived.Test.YtliieljmfncmjaaPartNarrowsWalk
namespace Go.Proofs.Ytliieljmfncmjaa
open Go.ChangeShapes Go.WideShapes Go.ChangeAt Go.RowKit Go.ChangeMaps
set_option maxRecDepth 100000 in
theorem partNarrows_lifted (os : Os) (started : os.Started) (H : Type) (enc : TypeId × Value → H) :
    ReturnsInHanded {} Try.checked os 16 .any (Rows.partNarrowsSpec.pre6 enc Try.prog Try.f16 Rows.partNarrowsRow.domain false) (Rows.partNarrowsSpec.post enc Try.prog Try.f16 false true false false) := by
  refine law_of_walk started (by kernel_rfl) Try.func16
    (ChangeSpec.witness6 (enc := enc) (C := Try.checked) false ⟨#[], #[.slice none 0 0, .slice none 0 0, .slice none 0 0, .slice none 0 0, .agg #[.int .i64 0, .int .i64 0], .agg #[.int .i64 0, .int .i64 0]], []⟩ 8 (by kernel_rfl) (by kernel_rfl) (by kernel_rfl) (by kernel_rfl)) rfl
    (fun ds h => by match ds, h with | [_, _, _, _, _, _], _ => rfl) (by kernel_rfl) rfl ?_
  intro W base args ds p hR
  obtain ⟨hval, hA, hlt, hsz⟩ := hR
  rw [Try.params16] at hA hval hsz
  obtain ⟨v0, vs0, d0, ds0, p0, q0, hargs, rfl, rfl, h0, r0⟩ := trodAll_cons hA
  obtain ⟨v1, vs1, d1, ds1, p1, q1, rfl, rfl, rfl, h1, r1⟩ := trodAll_cons r0
  obtain ⟨v2, vs2, d2, ds2, p2, q2, rfl, rfl, rfl, h2, r2⟩ := trodAll_cons r1
  obtain ⟨v3, vs3, d3, ds3, p3, q3, rfl, rfl, rfl, h3, r3⟩ := trodAll_cons r2
  obtain ⟨v4, vs4, d4, ds4, p4, q4, rfl, rfl, rfl, h4, r4⟩ := trodAll_cons r3
  obtain ⟨v5, vs5, d5, ds5, p5, q5, rfl, rfl, rfl, h5, r5⟩ := trodAll_cons r4
  obtain ⟨rfl, rfl, rfl⟩ := trodAll_nil r5
  obtain rfl : args = #[v0, v1, v2, v3, v4, v5] := by cases args; simp_all
  obtain ⟨l0, hl0⟩ := Rd.boxess (H := H) (enc := enc) (v := v0) (by have h := Rd.of_arg (j := 0) hsz rfl rfl h0 (fun x hx => hlt x (by simp [hx])); rwa [okWide_slice_cells Try.underlying23 (hval 0 23 v0 rfl rfl)] at h)
  obtain ⟨l1, hl1⟩ := Rd.vecss (H := H) (enc := enc) (v := v1) (by have h := Rd.of_arg (j := 1) hsz rfl rfl h1 (fun x hx => hlt x (by simp [hx])); rwa [okWide_slice_cells Try.underlying24 (hval 1 24 v1 rfl rfl)] at h)
  obtain ⟨l2, hl2, hb2⟩ := Rd.boxes (H := H) (enc := enc) (v := v2) (by have h := Rd.of_arg (j := 2) hsz rfl rfl h2 (fun x hx => hlt x (by simp [hx])); rwa [okWide_slice_cells Try.underlying79 (hval 2 79 v2 rfl rfl)] at h)
  obtain ⟨l3, hl3, hb3⟩ := Rd.boxes (H := H) (enc := enc) (v := v3) (by have h := Rd.of_arg (j := 3) hsz rfl rfl h3 (fun x hx => hlt x (by simp [hx])); rwa [okWide_slice_cells Try.underlying79 (hval 3 79 v3 rfl rfl)] at h)
  obtain ⟨pt4, pn4, hp4⟩ := Rd.point (H := H) (enc := enc) (Rd.of_arg (j := 4) hsz rfl rfl h4 (fun x hx => hlt x (by simp [hx])))
  have hv4 := okWide_struct_cells Try.underlying51 (hval 4 51 v4 rfl rfl)
  rw [hp4] at hv4
  subst hv4
  obtain ⟨ds5, dc5, hp5, dw5, dx5⟩ := Rd.dot (H := H) (enc := enc) (Rd.of_arg (j := 5) hsz rfl rfl h5 (fun x hx => hlt x (by simp [hx])))
  have hv5 := okWide_struct_cells Try.underlying49 (hval 5 49 v5 rfl rfl)
  rw [hp5] at hv5
  subst hv5
  exact PartNarrows_walk v0 v1 v2 v3 l0 l1 l2 l3 pt4 pn4 ds5 dc5 W hl0 hl1 hl2 hl3
set_option maxRecDepth 100000 in
theorem partNarrows_place : (Rows.partNarrowsRow.inPlace == Try.pinned.checked.prog.inPlace 16) = true := by kernel_rfl
set_option maxRecDepth 100000 in
theorem partNarrows_unfollowed : (Rows.partNarrowsRow.unfollowed == Try.pinned.checked.prog.unfollowed 16) = true := by kernel_rfl
set_option maxRecDepth 100000 in
theorem partNarrows_recurses : (Rows.partNarrowsRow.recurses == Try.pinned.checked.prog.recurses 16) = true := by kernel_rfl
set_option maxRecDepth 100000 in
theorem partNarrows_named : (Rows.partNarrowsRow.named == Try.pinned.checked.prog.varsNamed 16) = true := by kernel_rfl
set_option maxRecDepth 100000 in
theorem partNarrows_joined : joinedFacts Try.pinned.checked.prog 16 Try.f16 Rows.partNarrowsSpec Rows.partNarrowsRow = true :=
  joined_of (by kernel_rfl) shut_laid shut_rowed (by kernel_rfl) (by kernel_rfl) (by kernel_rfl) shut_stops (by kernel_rfl) shut_knobs partNarrows_place partNarrows_unfollowed partNarrows_recurses partNarrows_named (by kernel_rfl) (by kernel_rfl) (by kernel_rfl) (by kernel_rfl) (by kernel_rfl) (by kernel_rfl) (by kernel_rfl) (by kernel_rfl) (by kernel_rfl) shut_keys (by kernel_rfl) shut_heard shut_enter shut_lifts shut_make (by kernel_rfl) (by kernel_rfl) (by kernel_rfl) (by kernel_rfl)
set_option maxRecDepth 100000 in
/-- The statement. -/
theorem partNarrows_proved : Rows.PartNarrowsSaid :=
  OpenClaim.holds_of_wide 16 Try.f16 rfl rfl rfl rfl rfl rfl rfl ⟨rfl, rfl, rfl, rfl, rfl⟩ rfl rfl rfl rfl rfl (by kernel_rfl) Try.func16 partNarrows_joined
    (of_decide_eq_true (by kernel_rfl)) (by unfold Func.isWrapper; first | (rw [if_pos (by decide +kernel)]; kernel_rfl) | (rw [if_neg (by decide +kernel)]; exact ⟨rfl, rfl⟩))
    (fun os started H enc _ => partNarrows_lifted os started H enc)
#print axioms partNarrows_proved
end Go.Proofs.Ytliieljmfncmjaa
