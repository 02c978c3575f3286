/- FilterWithin returns true for every three slices of boxes and every point, on every machine state in which its arguments can be read; no condition. -/
import Derived.Test.YtcanefjjpeoikaaFrame
import Derived.Test.YtcanefjjpeoikaaOpenFilter
import Derived.Test.YtcanefjjpeoikaaOpenForm
import Derived.Test.YtcanefjjpeoikaaFilterWithinWalk
namespace Go.Proofs.Ytcanefjjpeoikaa
open Go.ChangeShapes Go.WideShapes Go.ChangeAt Go.RowKit Go.ChangeMaps
set_option maxRecDepth 100000 in
theorem filterWithin_lifted (os : Os) (started : os.Started) (H : Type) (enc : TypeId × Value → H) :
    ReturnsInHanded {} Try.checked os 10 .any (Rows.filterWithinSpec.pre6 enc Try.prog Try.f10 Rows.filterWithinRow.domain false) (Rows.filterWithinSpec.post enc Try.prog Try.f10 false true false false) := by
  refine law_of_walk started (by kernel_rfl) Try.func10
    (ChangeSpec.witness6 (enc := enc) (C := Try.checked) false ⟨#[], #[.slice none 0 0, .slice none 0 0, .slice none 0 0, .agg #[.int .i64 0, .int .i64 0]], []⟩ 8 (by kernel_rfl) (by kernel_rfl) (by kernel_rfl) (by kernel_rfl)) rfl
    (fun ds h => by match ds, h with | [_, _, _, _], _ => rfl) (by kernel_rfl) rfl ?_
  intro W base args ds p hR
  obtain ⟨hval, hA, hlt, hsz⟩ := hR
  rw [Try.params10] at hA hval hsz
  obtain ⟨v0, vs0, d0, ds0, p0, q0, hargs, rfl, rfl, h0, r0⟩ := trodAll_cons hA
  obtain ⟨v1, vs1, d1, ds1, p1, q1, rfl, rfl, rfl, h1, r1⟩ := trodAll_cons r0
  obtain ⟨v2, vs2, d2, ds2, p2, q2, rfl, rfl, rfl, h2, r2⟩ := trodAll_cons r1
  obtain ⟨v3, vs3, d3, ds3, p3, q3, rfl, rfl, rfl, h3, r3⟩ := trodAll_cons r2
  obtain ⟨rfl, rfl, rfl⟩ := trodAll_nil r3
  obtain rfl : args = #[v0, v1, v2, v3] := by cases args; simp_all
  obtain ⟨l0, hl0, hb0⟩ := Rd.boxes (H := H) (enc := enc) (v := v0) (by have h := Rd.of_arg (j := 0) hsz rfl rfl h0 (fun x hx => hlt x (by simp [hx])); rwa [okWide_slice_cells Try.underlying36 (hval 0 36 v0 rfl rfl)] at h)
  obtain ⟨l1, hl1, hb1⟩ := Rd.boxes (H := H) (enc := enc) (v := v1) (by have h := Rd.of_arg (j := 1) hsz rfl rfl h1 (fun x hx => hlt x (by simp [hx])); rwa [okWide_slice_cells Try.underlying36 (hval 1 36 v1 rfl rfl)] at h)
  obtain ⟨l2, hl2, hb2⟩ := Rd.boxes (H := H) (enc := enc) (v := v2) (by have h := Rd.of_arg (j := 2) hsz rfl rfl h2 (fun x hx => hlt x (by simp [hx])); rwa [okWide_slice_cells Try.underlying36 (hval 2 36 v2 rfl rfl)] at h)
  obtain ⟨pt3, pn3, hp3⟩ := Rd.point (H := H) (enc := enc) (Rd.of_arg (j := 3) hsz rfl rfl h3 (fun x hx => hlt x (by simp [hx])))
  have hv3 := okWide_struct_cells Try.underlying24 (hval 3 24 v3 rfl rfl)
  rw [hp3] at hv3
  subst hv3
  exact FilterWithin_walk v0 v1 v2 l0 l1 l2 pt3 pn3 W hl0 hl1 hl2
set_option maxRecDepth 100000 in
/-- The statement. -/
theorem filterWithin_proved : Rows.FilterWithinSaid :=
  OpenClaim.holds_of_wide 10 Try.f10 rfl rfl rfl rfl rfl rfl rfl ⟨rfl, rfl, rfl, rfl, rfl⟩ rfl rfl rfl rfl rfl (by kernel_rfl) Try.func10 (by kernel_rfl)
    (of_decide_eq_true (by kernel_rfl)) (by unfold Func.isWrapper; first | (rw [if_pos (by decide +kernel)]; kernel_rfl) | (rw [if_neg (by decide +kernel)]; exact ⟨rfl, rfl⟩))
    (fun os started H enc _ => filterWithin_lifted os started H enc)
#print axioms filterWithin_proved
end Go.Proofs.Ytcanefjjpeoikaa
