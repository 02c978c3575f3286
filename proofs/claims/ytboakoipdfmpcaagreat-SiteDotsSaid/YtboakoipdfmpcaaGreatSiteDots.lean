/- SiteDots returns true for every integer, slice of slices of integers and point, on every machine state in which its arguments can be read; no condition. -/
import Derived.Test.YtboakoipdfmpcaaGreatMFrame
import Derived.Test.YtboakoipdfmpcaaGreatChecked
import Derived.Test.YtboakoipdfmpcaaGreatMOpen
import Derived.Test.YtboakoipdfmpcaaGreatMFilterP
import Derived.Test.YtboakoipdfmpcaaGreatPartOwn
import Derived.Test.YtboakoipdfmpcaaGreatMDots
import Derived.Test.YtboakoipdfmpcaaGreatMKnow5
import Derived.Test.YtboakoipdfmpcaaGreatMElt
import Derived.Test.YtboakoipdfmpcaaGreatMKnow3
import Derived.Test.YtboakoipdfmpcaaGreatMFilter4
import Derived.Test.YtboakoipdfmpcaaGreatSiteDotsWalk
namespace Go.Proofs.YtboakoipdfmpcaaGreat
open Go.ChangeShapes Go.WideShapes Go.ChangeAt Go.RowKit Go.ChangeMaps
set_option maxRecDepth 100000 in
theorem siteDots_lifted (os : Os) (started : os.Started) (H : Type) (enc : TypeId × Value → H) :
    ReturnsInHanded {} Tryz.checked os 6 .any (Rows.siteDotsSpec.pre6 enc Tryz.prog Tryz.f6 Rows.siteDotsRow.domain false) (Rows.siteDotsSpec.post enc Tryz.prog Tryz.f6 false true false false) := by
  refine law_of_walk started (by kernel_rfl) Tryz.func6
    (ChangeSpec.witness6 (enc := enc) (C := Tryz.checked) false ⟨#[], #[.int .i64 0, .slice none 0 0, .agg #[.int .i64 0, .int .i64 0]], []⟩ 8 (by kernel_rfl) (by kernel_rfl) (by kernel_rfl) (by kernel_rfl)) rfl
    (fun ds h => by match ds, h with | [_, _, _], _ => rfl) (by kernel_rfl) rfl ?_
  intro W base args ds p hR
  obtain ⟨hval, hA, hlt, hsz⟩ := hR
  rw [Tryz.params6] at hA hval hsz
  obtain ⟨v0, vs0, d0, ds0, p0, q0, hargs, rfl, rfl, h0, r0⟩ := trodAll_cons hA
  obtain ⟨v1, vs1, d1, ds1, p1, q1, rfl, rfl, rfl, h1, r1⟩ := trodAll_cons r0
  obtain ⟨v2, vs2, d2, ds2, p2, q2, rfl, rfl, rfl, h2, r2⟩ := trodAll_cons r1
  obtain ⟨rfl, rfl, rfl⟩ := trodAll_nil r2
  obtain rfl : args = #[v0, v1, v2] := by cases args; simp_all
  obtain ⟨a0, rfl, rfl, rfl, wf0⟩ := open_int Tryz.underlying3 (hval 0 3 v0 rfl rfl) h0
  obtain ⟨l1, hl1⟩ := Rdo.vecs (H := H) (enc := enc) (v := v1) (by have h := Rdo.of_arg (j := 1) hsz rfl rfl h1 (fun x hx => hlt x (by simp [hx])); rwa [okWide_slice_cells Tryz.underlying23 (hval 1 23 v1 rfl rfl)] at h)
  obtain ⟨pt2, pn2, hp2⟩ := Rdo.point (H := H) (enc := enc) (Rdo.of_arg (j := 2) hsz rfl rfl h2 (fun x hx => hlt x (by simp [hx])))
  have hv2 := okWide_struct_cells Tryz.underlying39 (hval 2 39 v2 rfl rfl)
  rw [hp2] at hv2
  subst hv2
  exact SiteDots_walk a0 v1 l1 pt2 pn2 W hl1
set_option maxRecDepth 100000 in
theorem siteDots_place : (Rows.siteDotsRow.inPlace == Tryz.pinned.checked.prog.inPlace 6) = true := by kernel_rfl
set_option maxRecDepth 100000 in
theorem siteDots_unfollowed : (Rows.siteDotsRow.unfollowed == Tryz.pinned.checked.prog.unfollowed 6) = true := by kernel_rfl
set_option maxRecDepth 100000 in
theorem siteDots_recurses : (Rows.siteDotsRow.recurses == Tryz.pinned.checked.prog.recurses 6) = true := by kernel_rfl
set_option maxRecDepth 100000 in
theorem siteDots_named : (Rows.siteDotsRow.named == Tryz.pinned.checked.prog.varsNamed 6) = true := by kernel_rfl
set_option maxRecDepth 100000 in
theorem siteDots_joined : joinedFacts Tryz.pinned.checked.prog 6 Tryz.f6 Rows.siteDotsSpec Rows.siteDotsRow = true :=
  joined_of (by kernel_rfl) shut_laid shut_rowed (by kernel_rfl) (by kernel_rfl) (by kernel_rfl) shut_stops (by kernel_rfl) shut_knobs siteDots_place siteDots_unfollowed siteDots_recurses siteDots_named (by kernel_rfl) (by kernel_rfl) (by kernel_rfl) (by kernel_rfl) (by kernel_rfl) (by kernel_rfl) (by kernel_rfl) (by kernel_rfl) (by kernel_rfl) shut_keys (by kernel_rfl) shut_heard shut_enter shut_lifts shut_make (by kernel_rfl) (by kernel_rfl) (by kernel_rfl) (by kernel_rfl)
set_option maxRecDepth 100000 in
/-- The statement. -/
theorem siteDots_proved : Rows.SiteDotsSaid :=
  OpenClaim.holds_of_wide 6 Tryz.f6 rfl rfl rfl rfl rfl rfl rfl ⟨rfl, rfl, rfl, rfl, rfl⟩ rfl rfl rfl rfl rfl (by kernel_rfl) Tryz.func6 siteDots_joined
    (of_decide_eq_true (by kernel_rfl)) (by unfold Func.isWrapper; first | (rw [if_pos (by decide +kernel)]; kernel_rfl) | (rw [if_neg (by decide +kernel)]; exact ⟨rfl, rfl⟩))
    (fun os started H enc _ => siteDots_lifted os started H enc)
#print axioms siteDots_proved
end Go.Proofs.YtboakoipdfmpcaaGreat
