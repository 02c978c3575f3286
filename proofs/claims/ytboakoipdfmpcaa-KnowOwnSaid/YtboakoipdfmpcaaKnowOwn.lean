/- KnowOwn returns true for all two sets of dots, dot and slice of boxes, on every machine state in which its arguments can be read; no condition. -/
import Derived.Test.YtboakoipdfmpcaaShutK
import Derived.Test.YtboakoipdfmpcaaOpenBatch
import Derived.Test.YtboakoipdfmpcaaOpenRoom
import Derived.Test.YtboakoipdfmpcaaMOpen
import Derived.Test.YtboakoipdfmpcaaKnowOwnWalk
namespace Go.Proofs.Ytboakoipdfmpcaa
open Go.ChangeShapes Go.WideShapes Go.ChangeAt Go.RowKit Go.ChangeMaps
set_option maxRecDepth 100000 in
theorem knowOwn_lifted (os : Os) (started : os.Started) (H : Type) (enc : TypeId × Value → H) :
    ReturnsInHanded {} Try.checked os 3 .any (Rows.knowOwnSpec.pre6 enc Try.prog Try.f3 Rows.knowOwnRow.domain false) (Rows.knowOwnSpec.post enc Try.prog Try.f3 false true false false) := by
  refine law_of_walk started (by kernel_rfl) Try.func3
    (ChangeSpec.witness6 (enc := enc) (C := Try.checked) false ⟨#[], #[.agg #[.slice none 0 0, .slice none 0 0], .agg #[.slice none 0 0, .slice none 0 0], .agg #[.int .i64 0, .int .i64 0], .slice none 0 0], []⟩ 8 (by kernel_rfl) (by kernel_rfl) (by kernel_rfl) (by kernel_rfl)) rfl
    (fun ds h => by match ds, h with | [_, _, _, _], _ => rfl) (by kernel_rfl) rfl ?_
  intro W base args ds p hR
  obtain ⟨hval, hA, hlt, hsz⟩ := hR
  rw [Try.params3] at hA hval hsz
  obtain ⟨v0, vs0, d0, ds0, p0, q0, hargs, rfl, rfl, h0, r0⟩ := trodAll_cons hA
  obtain ⟨v1, vs1, d1, ds1, p1, q1, rfl, rfl, rfl, h1, r1⟩ := trodAll_cons r0
  obtain ⟨v2, vs2, d2, ds2, p2, q2, rfl, rfl, rfl, h2, r2⟩ := trodAll_cons r1
  obtain ⟨v3, vs3, d3, ds3, p3, q3, rfl, rfl, rfl, h3, r3⟩ := trodAll_cons r2
  obtain ⟨rfl, rfl, rfl⟩ := trodAll_nil r3
  obtain rfl : args = #[v0, v1, v2, v3] := by cases args; simp_all
  obtain ⟨u0, x0, k0, hp0, hk0, hz0⟩ := Rdo.knZ (H := H) (enc := enc) (Rdo.of_arg (j := 0) hsz rfl rfl h0 (fun x hx => hlt x (by simp [hx])))
  have hv0 := okWide_struct_cells Try.underlying25 (hval 0 25 v0 rfl rfl)
  rw [hp0] at hv0
  subst hv0
  obtain ⟨u1, x1, k1, hp1, hk1, hz1⟩ := Rdo.knZ (H := H) (enc := enc) (Rdo.of_arg (j := 1) hsz rfl rfl h1 (fun x hx => hlt x (by simp [hx])))
  have hv1 := okWide_struct_cells Try.underlying25 (hval 1 25 v1 rfl rfl)
  rw [hp1] at hv1
  subst hv1
  obtain ⟨ds2, dc2, hp2, dw2, dx2⟩ := Rdo.dot (H := H) (enc := enc) (Rdo.of_arg (j := 2) hsz rfl rfl h2 (fun x hx => hlt x (by simp [hx])))
  have hv2 := okWide_struct_cells Try.underlying27 (hval 2 27 v2 rfl rfl)
  rw [hp2] at hv2
  subst hv2
  obtain ⟨l3, hl3, hz3⟩ := Rdo.boxesZ (H := H) (enc := enc) (v := v3) (by have h := Rdo.of_arg (j := 3) hsz rfl rfl h3 (fun x hx => hlt x (by simp [hx])); rwa [okWide_slice_cells Try.underlying28 (hval 3 28 v3 rfl rfl)] at h)
  exact KnowOwn_walk u0 x0 u1 x1 v3 k0 k1 ds2 dc2 l3 W hk0 hk1 hl3 hz0 hz1 hz3
set_option maxRecDepth 100000 in
theorem knowOwn_place : (Rows.knowOwnRow.inPlace == Try.pinned.checked.prog.inPlace 3) = true := by kernel_rfl
set_option maxRecDepth 100000 in
theorem knowOwn_unfollowed : (Rows.knowOwnRow.unfollowed == Try.pinned.checked.prog.unfollowed 3) = true := by kernel_rfl
set_option maxRecDepth 100000 in
theorem knowOwn_recurses : (Rows.knowOwnRow.recurses == Try.pinned.checked.prog.recurses 3) = true := by kernel_rfl
set_option maxRecDepth 100000 in
theorem knowOwn_named : (Rows.knowOwnRow.named == Try.pinned.checked.prog.varsNamed 3) = true := by kernel_rfl
set_option maxRecDepth 100000 in
theorem knowOwn_joined : joinedFacts Try.pinned.checked.prog 3 Try.f3 Rows.knowOwnSpec Rows.knowOwnRow = true :=
  joined_of (by kernel_rfl) shut_laid shut_rowed (by kernel_rfl) (by kernel_rfl) (by kernel_rfl) shut_stops (by kernel_rfl) shut_knobs knowOwn_place knowOwn_unfollowed knowOwn_recurses knowOwn_named (by kernel_rfl) (by kernel_rfl) (by kernel_rfl) (by kernel_rfl) (by kernel_rfl) (by kernel_rfl) (by kernel_rfl) (by kernel_rfl) (by kernel_rfl) shut_keys (by kernel_rfl) shut_heard shut_enter shut_lifts shut_make (by kernel_rfl) (by kernel_rfl) (by kernel_rfl) (by kernel_rfl)
set_option maxRecDepth 100000 in
/-- The statement. -/
theorem knowOwn_proved : Rows.KnowOwnSaid :=
  OpenClaim.holds_of_wide 3 Try.f3 rfl rfl rfl rfl rfl rfl rfl ⟨rfl, rfl, rfl, rfl, rfl⟩ rfl rfl rfl rfl rfl (by kernel_rfl) Try.func3 knowOwn_joined
    (of_decide_eq_true (by kernel_rfl)) (by unfold Func.isWrapper; first | (rw [if_pos (by decide +kernel)]; kernel_rfl) | (rw [if_neg (by decide +kernel)]; exact ⟨rfl, rfl⟩))
    (fun os started H enc _ => knowOwn_lifted os started H enc)
#print axioms knowOwn_proved
end Go.Proofs.Ytboakoipdfmpcaa
