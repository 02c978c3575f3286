/- FormBack returns true for every slice of boxes and every point, on every machine state in which its arguments can be read; no condition. -/
import Derived.Test.YtcanefjjpeoikaaFrame
import Derived.Test.YtcanefjjpeoikaaOpenFilter
import Derived.Test.YtcanefjjpeoikaaOpenForm
import Derived.Test.YtcanefjjpeoikaaFormBackWalk
namespace Go.Proofs.Ytcanefjjpeoikaa
open Go.ChangeShapes Go.WideShapes Go.ChangeAt Go.RowKit Go.ChangeMaps
set_option maxRecDepth 100000 in
theorem formBack_lifted (os : Os) (started : os.Started) (H : Type) (enc : TypeId × Value → H) :
    ReturnsInHanded {} Try.checked os 14 .any (Rows.formBackSpec.pre6 enc Try.prog Try.f14 Rows.formBackRow.domain false) (Rows.formBackSpec.post enc Try.prog Try.f14 false true false false) := by
  refine law_of_walk started (by kernel_rfl) Try.func14
    (ChangeSpec.witness6 (enc := enc) (C := Try.checked) false ⟨#[], #[.slice none 0 0, .agg #[.int .i64 0, .int .i64 0]], []⟩ 8 (by kernel_rfl) (by kernel_rfl) (by kernel_rfl) (by kernel_rfl)) rfl
    (fun ds h => by match ds, h with | [_, _], _ => rfl) (by kernel_rfl) rfl ?_
  intro W base args ds p hR
  obtain ⟨hval, hA, hlt, hsz⟩ := hR
  rw [Try.params14] at hA hval hsz
  obtain ⟨v0, vs0, d0, ds0, p0, q0, hargs, rfl, rfl, h0, r0⟩ := trodAll_cons hA
  obtain ⟨v1, vs1, d1, ds1, p1, q1, rfl, rfl, rfl, h1, r1⟩ := trodAll_cons r0
  obtain ⟨rfl, rfl, rfl⟩ := trodAll_nil r1
  obtain rfl : args = #[v0, v1] := by cases args; simp_all
  obtain ⟨l0, hl0, hb0⟩ := Rd.boxes (H := H) (enc := enc) (v := v0) (by have h := Rd.of_arg (j := 0) hsz rfl rfl h0 (fun x hx => hlt x (by simp [hx])); rwa [okWide_slice_cells Try.underlying36 (hval 0 36 v0 rfl rfl)] at h)
  obtain ⟨pt1, pn1, hp1⟩ := Rd.point (H := H) (enc := enc) (Rd.of_arg (j := 1) hsz rfl rfl h1 (fun x hx => hlt x (by simp [hx])))
  have hv1 := okWide_struct_cells Try.underlying24 (hval 1 24 v1 rfl rfl)
  rw [hp1] at hv1
  subst hv1
  exact FormBack_walk v0 l0 pt1 pn1 W hl0
set_option maxRecDepth 100000 in
/-- The statement. -/
theorem formBack_proved : Rows.FormBackSaid :=
  OpenClaim.holds_of_wide 14 Try.f14 rfl rfl rfl rfl rfl rfl rfl ⟨rfl, rfl, rfl, rfl, rfl⟩ rfl rfl rfl rfl rfl (by kernel_rfl) Try.func14 (by kernel_rfl)
    (of_decide_eq_true (by kernel_rfl)) (by unfold Func.isWrapper; first | (rw [if_pos (by decide +kernel)]; kernel_rfl) | (rw [if_neg (by decide +kernel)]; exact ⟨rfl, rfl⟩))
    (fun os started H enc _ => formBack_lifted os started H enc)
#print axioms formBack_proved
end Go.Proofs.Ytcanefjjpeoikaa
