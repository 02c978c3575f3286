/- FilterOwn returns true for all two slices of boxes, slice of integers and slice of nodes, on every machine state in which its arguments can be read; no condition. -/
import Derived.Test.YthnkmjjldggecaaMFrame
import Derived.Test.YthnkmjjldggecaaOpenRoom
import Derived.Test.YthnkmjjldggecaaMOpen
import Derived.Test.YthnkmjjldggecaaFilterOwnWalk
namespace Go.Proofs.Ythnkmjjldggecaa
open Go.ChangeShapes Go.WideShapes Go.ChangeAt Go.RowKit Go.ChangeMaps
set_option maxRecDepth 100000 in
theorem filterOwn_lifted (os : Os) (started : os.Started) (H : Type) (enc : TypeId × Value → H) :
    ReturnsInHanded {} Try.checked os 3 .any (Rows.filterOwnSpec.pre6 enc Try.prog Try.f3 Rows.filterOwnRow.domain false) (Rows.filterOwnSpec.post enc Try.prog Try.f3 false true false false) := by
  refine law_of_walk started (by kernel_rfl) Try.func3
    (ChangeSpec.witness6 (enc := enc) (C := Try.checked) false ⟨#[], #[.slice none 0 0, .slice none 0 0, .slice none 0 0, .slice none 0 0], []⟩ 8 (by kernel_rfl) (by kernel_rfl) (by kernel_rfl) (by kernel_rfl)) rfl
    (fun ds h => by match ds, h with | [_, _, _, _], _ => rfl) (by kernel_rfl) rfl ?_
  intro W base args ds p hR
  obtain ⟨hval, hA, hlt, hsz⟩ := hR
  rw [Try.params3] at hA hval hsz
  obtain ⟨v0, vs0, d0, ds0, p0, q0, hargs, rfl, rfl, h0, r0⟩ := trodAll_cons hA
  obtain ⟨v1, vs1, d1, ds1, p1, q1, rfl, rfl, rfl, h1, r1⟩ := trodAll_cons r0
  obtain ⟨v2, vs2, d2, ds2, p2, q2, rfl, rfl, rfl, h2, r2⟩ := trodAll_cons r1
  obtain ⟨v3, vs3, d3, ds3, p3, q3, rfl, rfl, rfl, h3, r3⟩ := trodAll_cons r2
  obtain ⟨rfl, rfl, rfl⟩ := trodAll_nil r3
  obtain rfl : args = #[v0, v1, v2, v3] := by cases args; simp_all
  obtain ⟨l0, hl0, hz0⟩ := Rdo.boxesZ (H := H) (enc := enc) (v := v0) (by have h := Rdo.of_arg (j := 0) hsz rfl rfl h0 (fun x hx => hlt x (by simp [hx])); rwa [okWide_slice_cells Try.underlying22 (hval 0 22 v0 rfl rfl)] at h)
  obtain ⟨l1, hl1, hz1⟩ := Rdo.boxesZ (H := H) (enc := enc) (v := v1) (by have h := Rdo.of_arg (j := 1) hsz rfl rfl h1 (fun x hx => hlt x (by simp [hx])); rwa [okWide_slice_cells Try.underlying22 (hval 1 22 v1 rfl rfl)] at h)
  obtain ⟨l2, hl2, hb2⟩ := Rdo.ints (H := H) (enc := enc) (v := v2) (by have h := Rdo.of_arg (j := 2) hsz rfl rfl h2 (fun x hx => hlt x (by simp [hx])); rwa [okWide_slice_cells Try.underlying23 (hval 2 23 v2 rfl rfl)] at h)
  obtain ⟨l3, hl3, hb3⟩ := Rdo.nodes (H := H) (enc := enc) (v := v3) (by have h := Rdo.of_arg (j := 3) hsz rfl rfl h3 (fun x hx => hlt x (by simp [hx])); rwa [okWide_slice_cells Try.underlying24 (hval 3 24 v3 rfl rfl)] at h)
  have hr : reachBytes ≤ 140737488355328 := by decide
  exact FilterOwn_walk v0 v1 v2 v3 l0 l1 l2 l3 W hl0 hl1 hl2 hl3 hz0 hz1 (Nat.le_trans hb2 hr) (Nat.le_trans hb3 hr)
set_option maxRecDepth 100000 in
theorem filterOwn_place : (Rows.filterOwnRow.inPlace == Try.pinned.checked.prog.inPlace 3) = true := by kernel_rfl
set_option maxRecDepth 100000 in
theorem filterOwn_unfollowed : (Rows.filterOwnRow.unfollowed == Try.pinned.checked.prog.unfollowed 3) = true := by kernel_rfl
set_option maxRecDepth 100000 in
theorem filterOwn_recurses : (Rows.filterOwnRow.recurses == Try.pinned.checked.prog.recurses 3) = true := by kernel_rfl
set_option maxRecDepth 100000 in
theorem filterOwn_named : (Rows.filterOwnRow.named == Try.pinned.checked.prog.varsNamed 3) = true := by kernel_rfl
set_option maxRecDepth 100000 in
theorem filterOwn_joined : joinedFacts Try.pinned.checked.prog 3 Try.f3 Rows.filterOwnSpec Rows.filterOwnRow = true :=
  joined_of (by kernel_rfl) shut_laid shut_rowed (by kernel_rfl) (by kernel_rfl) (by kernel_rfl) shut_stops (by kernel_rfl) shut_knobs filterOwn_place filterOwn_unfollowed filterOwn_recurses filterOwn_named (by kernel_rfl) (by kernel_rfl) (by kernel_rfl) (by kernel_rfl) (by kernel_rfl) (by kernel_rfl) (by kernel_rfl) (by kernel_rfl) (by kernel_rfl) shut_keys (by kernel_rfl) shut_heard shut_enter shut_lifts shut_make (by kernel_rfl) (by kernel_rfl) (by kernel_rfl) (by kernel_rfl)
set_option maxRecDepth 100000 in
/-- The statement. -/
theorem filterOwn_proved : Rows.FilterOwnSaid :=
  OpenClaim.holds_of_wide 3 Try.f3 rfl rfl rfl rfl rfl rfl rfl ⟨rfl, rfl, rfl, rfl, rfl⟩ rfl rfl rfl rfl rfl (by kernel_rfl) Try.func3 filterOwn_joined
    (of_decide_eq_true (by kernel_rfl)) (by unfold Func.isWrapper; first | (rw [if_pos (by decide +kernel)]; kernel_rfl) | (rw [if_neg (by decide +kernel)]; exact ⟨rfl, rfl⟩))
    (fun os started H enc _ => filterOwn_lifted os started H enc)
#print axioms filterOwn_proved
end Go.Proofs.Ythnkmjjldggecaa
