/- SiteWider returns true for all two slices of boxes, slice of slices of integers and point, on every machine state in which its arguments can be read; no condition. -/
import Derived.Test.YtboakoipdfmpcaaGreatMFrame
import Derived.Test.YtboakoipdfmpcaaGreatMOpen
import Derived.Test.YtboakoipdfmpcaaGreatPartOwn
import Derived.Test.YtboakoipdfmpcaaGreatMDots
import Derived.Test.YtboakoipdfmpcaaGreatMKnow5
import Derived.Test.YtboakoipdfmpcaaGreatMElt
import Derived.Test.YtboakoipdfmpcaaGreatMKnow3
import Derived.Test.YtboakoipdfmpcaaGreatMFilter4
import Derived.Test.YtboakoipdfmpcaaGreatSiteWiderWalk
namespace Go.Proofs.YtboakoipdfmpcaaGreat
open Go.ChangeShapes Go.WideShapes Go.ChangeAt Go.RowKit Go.ChangeMaps
set_option maxRecDepth 100000 in
theorem siteWider_lifted (os : Os) (started : os.Started) (H : Type) (enc : TypeId × Value → H) :
    ReturnsInHanded {} Tryz.checked os 15 .any (Rows.siteWiderSpec.pre6 enc Tryz.prog Tryz.f15 Rows.siteWiderRow.domain false) (Rows.siteWiderSpec.post enc Tryz.prog Tryz.f15 false true false false) := by
  refine law_of_walk started (by kernel_rfl) Tryz.func15
    (ChangeSpec.witness6 (enc := enc) (C := Tryz.checked) false ⟨#[], #[.slice none 0 0, .slice none 0 0, .slice none 0 0, .agg #[.int .i64 0, .int .i64 0]], []⟩ 8 (by kernel_rfl) (by kernel_rfl) (by kernel_rfl) (by kernel_rfl)) rfl
    (fun ds h => by match ds, h with | [_, _, _, _], _ => rfl) (by kernel_rfl) rfl ?_
  intro W base args ds p hR
  obtain ⟨hval, hA, hlt, hsz⟩ := hR
  rw [Tryz.params15] at hA hval hsz
  obtain ⟨v0, vs0, d0, ds0, p0, q0, hargs, rfl, rfl, h0, r0⟩ := trodAll_cons hA
  obtain ⟨v1, vs1, d1, ds1, p1, q1, rfl, rfl, rfl, h1, r1⟩ := trodAll_cons r0
  obtain ⟨v2, vs2, d2, ds2, p2, q2, rfl, rfl, rfl, h2, r2⟩ := trodAll_cons r1
  obtain ⟨v3, vs3, d3, ds3, p3, q3, rfl, rfl, rfl, h3, r3⟩ := trodAll_cons r2
  obtain ⟨rfl, rfl, rfl⟩ := trodAll_nil r3
  obtain rfl : args = #[v0, v1, v2, v3] := by cases args; simp_all
  obtain ⟨l0, hl0, hb0⟩ := Rdo.boxes (H := H) (enc := enc) (v := v0) (by have h := Rdo.of_arg (j := 0) hsz rfl rfl h0 (fun x hx => hlt x (by simp [hx])); rwa [okWide_slice_cells Tryz.underlying33 (hval 0 33 v0 rfl rfl)] at h)
  obtain ⟨l1, hl1, hb1⟩ := Rdo.boxes (H := H) (enc := enc) (v := v1) (by have h := Rdo.of_arg (j := 1) hsz rfl rfl h1 (fun x hx => hlt x (by simp [hx])); rwa [okWide_slice_cells Tryz.underlying33 (hval 1 33 v1 rfl rfl)] at h)
  obtain ⟨l2, hl2⟩ := Rdo.vecs (H := H) (enc := enc) (v := v2) (by have h := Rdo.of_arg (j := 2) hsz rfl rfl h2 (fun x hx => hlt x (by simp [hx])); rwa [okWide_slice_cells Tryz.underlying23 (hval 2 23 v2 rfl rfl)] at h)
  obtain ⟨pt3, pn3, hp3⟩ := Rdo.point (H := H) (enc := enc) (Rdo.of_arg (j := 3) hsz rfl rfl h3 (fun x hx => hlt x (by simp [hx])))
  have hv3 := okWide_struct_cells Tryz.underlying39 (hval 3 39 v3 rfl rfl)
  rw [hp3] at hv3
  subst hv3
  exact SiteWider_walk v0 v1 v2 l0 l1 l2 pt3 pn3 W hl0 hl1 hl2
set_option maxRecDepth 100000 in
theorem siteWider_place : (Rows.siteWiderRow.inPlace == Tryz.pinned.checked.prog.inPlace 15) = true := by kernel_rfl
set_option maxRecDepth 100000 in
theorem siteWider_unfollowed : (Rows.siteWiderRow.unfollowed == Tryz.pinned.checked.prog.unfollowed 15) = true := by kernel_rfl
set_option maxRecDepth 100000 in
theorem siteWider_recurses : (Rows.siteWiderRow.recurses == Tryz.pinned.checked.prog.recurses 15) = true := by kernel_rfl
set_option maxRecDepth 100000 in
theorem siteWider_named : (Rows.siteWiderRow.named == Tryz.pinned.checked.prog.varsNamed 15) = true := by kernel_rfl
set_option maxRecDepth 100000 in
theorem siteWider_joined : joinedFacts Tryz.pinned.checked.prog 15 Tryz.f15 Rows.siteWiderSpec Rows.siteWiderRow = true :=
  joined_of (by kernel_rfl) shut_laid shut_rowed (by kernel_rfl) (by kernel_rfl) (by kernel_rfl) shut_stops (by kernel_rfl) shut_knobs siteWider_place siteWider_unfollowed siteWider_recurses siteWider_named (by kernel_rfl) (by kernel_rfl) (by kernel_rfl) (by kernel_rfl) (by kernel_rfl) (by kernel_rfl) (by kernel_rfl) (by kernel_rfl) (by kernel_rfl) shut_keys (by kernel_rfl) shut_heard shut_enter shut_lifts shut_make (by kernel_rfl) (by kernel_rfl) (by kernel_rfl) (by kernel_rfl)
set_option maxRecDepth 100000 in
/-- The statement. -/
theorem siteWider_proved : Rows.SiteWiderSaid :=
  OpenClaim.holds_of_wide 15 Tryz.f15 rfl rfl rfl rfl rfl rfl rfl ⟨rfl, rfl, rfl, rfl, rfl⟩ rfl rfl rfl rfl rfl (by kernel_rfl) Tryz.func15 siteWider_joined
    (of_decide_eq_true (by kernel_rfl)) (by unfold Func.isWrapper; first | (rw [if_pos (by decide +kernel)]; kernel_rfl) | (rw [if_neg (by decide +kernel)]; exact ⟨rfl, rfl⟩))
    (fun os started H enc _ => siteWider_lifted os started H enc)
#print axioms siteWider_proved
end Go.Proofs.YtboakoipdfmpcaaGreat
