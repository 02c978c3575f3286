/- KnowCounts returns true for every two slices of slices of integers, every integer and every dot, on every machine state in which its arguments can be read; no condition. -/
import Derived.Test.YtippljiicnpieaaShut
import Derived.Test.YtippljiicnpieaaOpenKnow
import Derived.Test.YtippljiicnpieaaKnowCountsWalk
namespace Go.Proofs.Ytippljiicnpieaa
open Go.ChangeShapes Go.WideShapes Go.ChangeAt Go.RowKit Go.ChangeMaps
set_option maxRecDepth 100000 in
theorem knowCounts_lifted (os : Os) (started : os.Started) (H : Type) (enc : TypeId × Value → H) :
    ReturnsInHanded {} Try.checked os 13 .any (Rows.knowCountsSpec.pre6 enc Try.prog Try.f13 Rows.knowCountsRow.domain false) (Rows.knowCountsSpec.post enc Try.prog Try.f13 false true false false) := by
  refine law_of_walk started (by kernel_rfl) Try.func13
    (ChangeSpec.witness6 (enc := enc) (C := Try.checked) false ⟨#[], #[.slice none 0 0, .slice none 0 0, .int .i64 0, .agg #[.int .i64 0, .int .i64 0]], []⟩ 8 (by kernel_rfl) (by kernel_rfl) (by kernel_rfl) (by kernel_rfl)) rfl
    (fun ds h => by match ds, h with | [_, _, _, _], _ => rfl) (by kernel_rfl) rfl ?_
  intro W base args ds p hR
  obtain ⟨hval, hA, hlt, hsz⟩ := hR
  rw [Try.params13] at hA hval hsz
  obtain ⟨v0, vs0, d0, ds0, p0, q0, hargs, rfl, rfl, h0, r0⟩ := trodAll_cons hA
  obtain ⟨v1, vs1, d1, ds1, p1, q1, rfl, rfl, rfl, h1, r1⟩ := trodAll_cons r0
  obtain ⟨v2, vs2, d2, ds2, p2, q2, rfl, rfl, rfl, h2, r2⟩ := trodAll_cons r1
  obtain ⟨v3, vs3, d3, ds3, p3, q3, rfl, rfl, rfl, h3, r3⟩ := trodAll_cons r2
  obtain ⟨rfl, rfl, rfl⟩ := trodAll_nil r3
  obtain rfl : args = #[v0, v1, v2, v3] := by cases args; simp_all
  obtain ⟨l0, hl0⟩ := Rd.vecs (H := H) (enc := enc) (v := v0) (by have h := Rd.of_arg (j := 0) hsz rfl rfl h0 (fun x hx => hlt x (by simp [hx])); rwa [okWide_slice_cells Try.underlying40 (hval 0 40 v0 rfl rfl)] at h)
  obtain ⟨l1, hl1⟩ := Rd.vecs (H := H) (enc := enc) (v := v1) (by have h := Rd.of_arg (j := 1) hsz rfl rfl h1 (fun x hx => hlt x (by simp [hx])); rwa [okWide_slice_cells Try.underlying40 (hval 1 40 v1 rfl rfl)] at h)
  obtain ⟨a2, rfl, rfl, rfl, wf2⟩ := open_int Try.underlying3 (hval 2 3 v2 rfl rfl) h2
  obtain ⟨ds3, dc3, hp3, dw3, dx3⟩ := Rd.dot (H := H) (enc := enc) (Rd.of_arg (j := 3) hsz rfl rfl h3 (fun x hx => hlt x (by simp [hx])))
  have hv3 := okWide_struct_cells Try.underlying24 (hval 3 24 v3 rfl rfl)
  rw [hp3] at hv3
  subst hv3
  exact KnowCounts_walk v0 v1 l0 l1 a2 ds3 dc3 W hl0 hl1
set_option maxRecDepth 100000 in
theorem knowCounts_place : (Rows.knowCountsRow.inPlace == Try.pinned.checked.prog.inPlace 13) = true := by kernel_rfl
set_option maxRecDepth 100000 in
theorem knowCounts_unfollowed : (Rows.knowCountsRow.unfollowed == Try.pinned.checked.prog.unfollowed 13) = true := by kernel_rfl
set_option maxRecDepth 100000 in
theorem knowCounts_recurses : (Rows.knowCountsRow.recurses == Try.pinned.checked.prog.recurses 13) = true := by kernel_rfl
set_option maxRecDepth 100000 in
theorem knowCounts_named : (Rows.knowCountsRow.named == Try.pinned.checked.prog.varsNamed 13) = true := by kernel_rfl
set_option maxRecDepth 100000 in
theorem knowCounts_joined : joinedFacts Try.pinned.checked.prog 13 Try.f13 Rows.knowCountsSpec Rows.knowCountsRow = true :=
  joined_of (by kernel_rfl) shut_laid shut_rowed (by kernel_rfl) (by kernel_rfl) (by kernel_rfl) shut_stops (by kernel_rfl) shut_knobs knowCounts_place knowCounts_unfollowed knowCounts_recurses knowCounts_named (by kernel_rfl) (by kernel_rfl) (by kernel_rfl) (by kernel_rfl) (by kernel_rfl) (by kernel_rfl) (by kernel_rfl) (by kernel_rfl) (by kernel_rfl) shut_keys (by kernel_rfl) shut_heard shut_enter shut_lifts shut_make (by kernel_rfl) (by kernel_rfl) (by kernel_rfl) (by kernel_rfl)
set_option maxRecDepth 100000 in
/-- The statement. -/
theorem knowCounts_proved : Rows.KnowCountsSaid :=
  OpenClaim.holds_of_wide 13 Try.f13 rfl rfl rfl rfl rfl rfl rfl ⟨rfl, rfl, rfl, rfl, rfl⟩ rfl rfl rfl rfl rfl (by kernel_rfl) Try.func13 knowCounts_joined
    (of_decide_eq_true (by kernel_rfl)) (by unfold Func.isWrapper; first | (rw [if_pos (by decide +kernel)]; kernel_rfl) | (rw [if_neg (by decide +kernel)]; exact ⟨rfl, rfl⟩))
    (fun os started H enc _ => knowCounts_lifted os started H enc)
#print axioms knowCounts_proved
end Go.Proofs.Ytippljiicnpieaa
