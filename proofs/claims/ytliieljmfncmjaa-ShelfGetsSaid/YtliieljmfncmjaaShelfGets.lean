/- ShelfGets returns true for every slice of slices of integers, on every machine state in which its arguments can be read; no condition. -/
import Derived.Test.YtliieljmfncmjaaMFrame
import Derived.Test.YtliieljmfncmjaaOpenKnow
import Derived.Test.YtliieljmfncmjaaShelfGetsWalk
namespace Go.Proofs.Ytliieljmfncmjaa
open Go.ChangeShapes Go.WideShapes Go.ChangeAt Go.RowKit Go.ChangeMaps
set_option maxRecDepth 100000 in
theorem shelfGets_lifted (os : Os) (started : os.Started) (H : Type) (enc : TypeId × Value → H) :
    ReturnsInHanded {} Try.checked os 12 .any (Rows.shelfGetsSpec.pre6 enc Try.prog Try.f12 Rows.shelfGetsRow.domain false) (Rows.shelfGetsSpec.post enc Try.prog Try.f12 false true false false) := by
  refine law_of_walk started (by kernel_rfl) Try.func12
    (ChangeSpec.witness6 (enc := enc) (C := Try.checked) false ⟨#[], #[.slice none 0 0], []⟩ 8 (by kernel_rfl) (by kernel_rfl) (by kernel_rfl) (by kernel_rfl)) rfl
    (fun ds h => by match ds, h with | [_], _ => rfl) (by kernel_rfl) rfl ?_
  intro W base args ds p hR
  obtain ⟨hval, hA, hlt, hsz⟩ := hR
  rw [Try.params12] at hA hval hsz
  obtain ⟨v0, vs0, d0, ds0, p0, q0, hargs, rfl, rfl, h0, r0⟩ := trodAll_cons hA
  obtain ⟨rfl, rfl, rfl⟩ := trodAll_nil r0
  obtain rfl : args = #[v0] := by cases args; simp_all
  obtain ⟨l0, hl0⟩ := Rd.vecs (H := H) (enc := enc) (v := v0) (by have h := Rd.of_arg (j := 0) hsz rfl rfl h0 (fun x hx => hlt x (by simp [hx])); rwa [okWide_slice_cells Try.underlying22 (hval 0 22 v0 rfl rfl)] at h)
  exact ShelfGets_walk v0 l0 W hl0
set_option maxRecDepth 100000 in
theorem shelfGets_place : (Rows.shelfGetsRow.inPlace == Try.pinned.checked.prog.inPlace 12) = true := by kernel_rfl
set_option maxRecDepth 100000 in
theorem shelfGets_unfollowed : (Rows.shelfGetsRow.unfollowed == Try.pinned.checked.prog.unfollowed 12) = true := by kernel_rfl
set_option maxRecDepth 100000 in
theorem shelfGets_recurses : (Rows.shelfGetsRow.recurses == Try.pinned.checked.prog.recurses 12) = true := by kernel_rfl
set_option maxRecDepth 100000 in
theorem shelfGets_named : (Rows.shelfGetsRow.named == Try.pinned.checked.prog.varsNamed 12) = true := by kernel_rfl
set_option maxRecDepth 100000 in
theorem shelfGets_joined : joinedFacts Try.pinned.checked.prog 12 Try.f12 Rows.shelfGetsSpec Rows.shelfGetsRow = true :=
  joined_of (by kernel_rfl) shut_laid shut_rowed (by kernel_rfl) (by kernel_rfl) (by kernel_rfl) shut_stops (by kernel_rfl) shut_knobs shelfGets_place shelfGets_unfollowed shelfGets_recurses shelfGets_named (by kernel_rfl) (by kernel_rfl) (by kernel_rfl) (by kernel_rfl) (by kernel_rfl) (by kernel_rfl) (by kernel_rfl) (by kernel_rfl) (by kernel_rfl) shut_keys (by kernel_rfl) shut_heard shut_enter shut_lifts shut_make (by kernel_rfl) (by kernel_rfl) (by kernel_rfl) (by kernel_rfl)
set_option maxRecDepth 100000 in
/-- The statement. -/
theorem shelfGets_proved : Rows.ShelfGetsSaid :=
  OpenClaim.holds_of_wide 12 Try.f12 rfl rfl rfl rfl rfl rfl rfl ⟨rfl, rfl, rfl, rfl, rfl⟩ rfl rfl rfl rfl rfl (by kernel_rfl) Try.func12 shelfGets_joined
    (of_decide_eq_true (by kernel_rfl)) (by unfold Func.isWrapper; first | (rw [if_pos (by decide +kernel)]; kernel_rfl) | (rw [if_neg (by decide +kernel)]; exact ⟨rfl, rfl⟩))
    (fun os started H enc _ => shelfGets_lifted os started H enc)
#print axioms shelfGets_proved
end Go.Proofs.Ytliieljmfncmjaa
