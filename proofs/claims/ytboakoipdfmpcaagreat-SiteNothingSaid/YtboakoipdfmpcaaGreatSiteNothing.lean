/- SiteNothing returns true for every slice of slices of integers, on every machine state in which its arguments can be read; no condition. -/
import Derived.Test.YtboakoipdfmpcaaGreatMFrame
import Derived.Test.YtboakoipdfmpcaaGreatChecked
import Derived.Test.YtboakoipdfmpcaaGreatMOpen
import Derived.Test.YtboakoipdfmpcaaGreatMFilterP
import Derived.Test.YtboakoipdfmpcaaGreatBase2
import Derived.Test.YtboakoipdfmpcaaGreatPartOwn
import Derived.Test.YtboakoipdfmpcaaGreatMDots
import Derived.Test.YtboakoipdfmpcaaGreatMKnow5
import Derived.Test.YtboakoipdfmpcaaGreatMElt
import Derived.Test.YtboakoipdfmpcaaGreatMKnow3
import Derived.Test.YtboakoipdfmpcaaGreatMFilter4
import Derived.Test.YtboakoipdfmpcaaGreatSiteNothingWalk
namespace Go.Proofs.YtboakoipdfmpcaaGreat
open Go.ChangeShapes Go.WideShapes Go.ChangeAt Go.RowKit Go.ChangeMaps
set_option maxRecDepth 100000 in
theorem siteNothing_lifted (os : Os) (started : os.Started) (H : Type) (enc : TypeId × Value → H) :
    ReturnsInHanded {} Tryz.checked os 7 .any (Rows.siteNothingSpec.pre6 enc Tryz.prog Tryz.f7 Rows.siteNothingRow.domain false) (Rows.siteNothingSpec.post enc Tryz.prog Tryz.f7 false true false false) := by
  refine law_of_walk started (by kernel_rfl) Tryz.func7
    (ChangeSpec.witness6 (enc := enc) (C := Tryz.checked) false ⟨#[], #[.slice none 0 0], []⟩ 8 (by kernel_rfl) (by kernel_rfl) (by kernel_rfl) (by kernel_rfl)) rfl
    (fun ds h => by match ds, h with | [_], _ => rfl) (by kernel_rfl) rfl ?_
  intro W base args ds p hR
  obtain ⟨hval, hA, hlt, hsz⟩ := hR
  rw [Tryz.params7] at hA hval hsz
  obtain ⟨v0, vs0, d0, ds0, p0, q0, hargs, rfl, rfl, h0, r0⟩ := trodAll_cons hA
  obtain ⟨rfl, rfl, rfl⟩ := trodAll_nil r0
  obtain rfl : args = #[v0] := by cases args; simp_all
  obtain ⟨l0, hl0⟩ := Rdo.vecs (H := H) (enc := enc) (v := v0) (by have h := Rdo.of_arg (j := 0) hsz rfl rfl h0 (fun x hx => hlt x (by simp [hx])); rwa [okWide_slice_cells Tryz.underlying23 (hval 0 23 v0 rfl rfl)] at h)
  exact SiteNothing_walk v0 l0 W hl0
set_option maxRecDepth 100000 in
theorem siteNothing_place : (Rows.siteNothingRow.inPlace == Tryz.pinned.checked.prog.inPlace 7) = true := by kernel_rfl
set_option maxRecDepth 100000 in
theorem siteNothing_unfollowed : (Rows.siteNothingRow.unfollowed == Tryz.pinned.checked.prog.unfollowed 7) = true := by kernel_rfl
set_option maxRecDepth 100000 in
theorem siteNothing_recurses : (Rows.siteNothingRow.recurses == Tryz.pinned.checked.prog.recurses 7) = true := by kernel_rfl
set_option maxRecDepth 100000 in
theorem siteNothing_named : (Rows.siteNothingRow.named == Tryz.pinned.checked.prog.varsNamed 7) = true := by kernel_rfl
set_option maxRecDepth 100000 in
theorem siteNothing_joined : joinedFacts Tryz.pinned.checked.prog 7 Tryz.f7 Rows.siteNothingSpec Rows.siteNothingRow = true :=
  joined_of (by kernel_rfl) shut_laid shut_rowed (by kernel_rfl) (by kernel_rfl) (by kernel_rfl) shut_stops (by kernel_rfl) shut_knobs siteNothing_place siteNothing_unfollowed siteNothing_recurses siteNothing_named (by kernel_rfl) (by kernel_rfl) (by kernel_rfl) (by kernel_rfl) (by kernel_rfl) (by kernel_rfl) (by kernel_rfl) (by kernel_rfl) (by kernel_rfl) shut_keys (by kernel_rfl) shut_heard shut_enter shut_lifts shut_make (by kernel_rfl) (by kernel_rfl) (by kernel_rfl) (by kernel_rfl)
set_option maxRecDepth 100000 in
/-- The statement. -/
theorem siteNothing_proved : Rows.SiteNothingSaid :=
  OpenClaim.holds_of_wide 7 Tryz.f7 rfl rfl rfl rfl rfl rfl rfl ⟨rfl, rfl, rfl, rfl, rfl⟩ rfl rfl rfl rfl rfl (by kernel_rfl) Tryz.func7 siteNothing_joined
    (of_decide_eq_true (by kernel_rfl)) (by unfold Func.isWrapper; first | (rw [if_pos (by decide +kernel)]; kernel_rfl) | (rw [if_neg (by decide +kernel)]; exact ⟨rfl, rfl⟩))
    (fun os started H enc _ => siteNothing_lifted os started H enc)
#print axioms siteNothing_proved
end Go.Proofs.YtboakoipdfmpcaaGreat
