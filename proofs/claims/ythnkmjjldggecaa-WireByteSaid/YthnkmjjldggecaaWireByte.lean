/- WireByte returns true for every slice of slices of integers, slice of filters, slice of slices of slices of integers, integer and byte, on every machine state in which its arguments can be read; no condition. -/
import Derived.Test.YthnkmjjldggecaaMFrame
import Derived.Test.YthnkmjjldggecaaMOpen
import Derived.Test.YthnkmjjldggecaaMTold2
namespace Go.Proofs.Ythnkmjjldggecaa
open Go.ChangeShapes Go.WideShapes Go.ChangeAt Go.RowKit Go.ChangeMaps
set_option maxRecDepth 100000 in
theorem wireByte_lifted (os : Os) (started : os.Started) (H : Type) (enc : TypeId × Value → H) :
    ReturnsInHanded {} Try.checked os 4 .any (Rows.wireByteSpec.pre6 enc Try.prog Try.f4 Rows.wireByteRow.domain false) (Rows.wireByteSpec.post enc Try.prog Try.f4 false true false false) := by
  refine law_of_walk started (by kernel_rfl) Try.func4
    (ChangeSpec.witness6 (enc := enc) (C := Try.checked) false ⟨#[], #[.slice none 0 0, .slice none 0 0, .slice none 0 0, .int .i64 0, .int .u8 0], []⟩ 8 (by kernel_rfl) (by kernel_rfl) (by kernel_rfl) (by kernel_rfl)) rfl
    (fun ds h => by match ds, h with | [_, _, _, _, _], _ => rfl) (by kernel_rfl) rfl ?_
  intro W base args ds p hR
  obtain ⟨hval, hA, hlt, hsz⟩ := hR
  rw [Try.params4] at hA hval hsz
  obtain ⟨v0, vs0, d0, ds0, p0, q0, hargs, rfl, rfl, h0, r0⟩ := trodAll_cons hA
  obtain ⟨v1, vs1, d1, ds1, p1, q1, rfl, rfl, rfl, h1, r1⟩ := trodAll_cons r0
  obtain ⟨v2, vs2, d2, ds2, p2, q2, rfl, rfl, rfl, h2, r2⟩ := trodAll_cons r1
  obtain ⟨v3, vs3, d3, ds3, p3, q3, rfl, rfl, rfl, h3, r3⟩ := trodAll_cons r2
  obtain ⟨v4, vs4, d4, ds4, p4, q4, rfl, rfl, rfl, h4, r4⟩ := trodAll_cons r3
  obtain ⟨rfl, rfl, rfl⟩ := trodAll_nil r4
  obtain rfl : args = #[v0, v1, v2, v3, v4] := by cases args; simp_all
  obtain ⟨l0, hl0⟩ := Rdo.vecs (H := H) (enc := enc) (v := v0) (by have h := Rdo.of_arg (j := 0) hsz rfl rfl h0 (fun x hx => hlt x (by simp [hx])); rwa [okWide_slice_cells Try.underlying56 (hval 0 56 v0 rfl rfl)] at h)
  obtain ⟨l1, hl1⟩ := Rdo.boxess (H := H) (enc := enc) (v := v1) (by have h := Rdo.of_arg (j := 1) hsz rfl rfl h1 (fun x hx => hlt x (by simp [hx])); rwa [okWide_slice_cells Try.underlying46 (hval 1 46 v1 rfl rfl)] at h)
  obtain ⟨l2, hl2⟩ := Rdo.vecss (H := H) (enc := enc) (v := v2) (by have h := Rdo.of_arg (j := 2) hsz rfl rfl h2 (fun x hx => hlt x (by simp [hx])); rwa [okWide_slice_cells Try.underlying57 (hval 2 57 v2 rfl rfl)] at h)
  obtain ⟨a3, rfl, rfl, rfl, wf3⟩ := open_int Try.underlying3 (hval 3 3 v3 rfl rfl) h3
  obtain ⟨a4, rfl, rfl, rfl, wf4⟩ := open_int Try.underlying5 (hval 4 5 v4 rfl rfl) h4
  exact WireByte_walk v0 v1 v2 l0 l1 l2 a3 a4 wf4 W hl0 hl1 hl2
set_option maxRecDepth 100000 in
theorem wireByte_place : (Rows.wireByteRow.inPlace == Try.pinned.checked.prog.inPlace 4) = true := by kernel_rfl
set_option maxRecDepth 100000 in
theorem wireByte_unfollowed : (Rows.wireByteRow.unfollowed == Try.pinned.checked.prog.unfollowed 4) = true := by kernel_rfl
set_option maxRecDepth 100000 in
theorem wireByte_recurses : (Rows.wireByteRow.recurses == Try.pinned.checked.prog.recurses 4) = true := by kernel_rfl
set_option maxRecDepth 100000 in
theorem wireByte_named : (Rows.wireByteRow.named == Try.pinned.checked.prog.varsNamed 4) = true := by kernel_rfl
set_option maxRecDepth 100000 in
theorem wireByte_joined : joinedFacts Try.pinned.checked.prog 4 Try.f4 Rows.wireByteSpec Rows.wireByteRow = true :=
  joined_of (by kernel_rfl) shut_laid shut_rowed (by kernel_rfl) (by kernel_rfl) (by kernel_rfl) shut_stops (by kernel_rfl) shut_knobs wireByte_place wireByte_unfollowed wireByte_recurses wireByte_named (by kernel_rfl) (by kernel_rfl) (by kernel_rfl) (by kernel_rfl) (by kernel_rfl) (by kernel_rfl) (by kernel_rfl) (by kernel_rfl) (by kernel_rfl) shut_keys (by kernel_rfl) shut_heard shut_enter shut_lifts shut_make (by kernel_rfl) (by kernel_rfl) (by kernel_rfl) (by kernel_rfl)
set_option maxRecDepth 100000 in
/-- The statement. -/
theorem wireByte_proved : Rows.WireByteSaid :=
  OpenClaim.holds_of_wide 4 Try.f4 rfl rfl rfl rfl rfl rfl rfl ⟨rfl, rfl, rfl, rfl, rfl⟩ rfl rfl rfl rfl rfl (by kernel_rfl) Try.func4 wireByte_joined
    (of_decide_eq_true (by kernel_rfl)) (by unfold Func.isWrapper; first | (rw [if_pos (by decide +kernel)]; kernel_rfl) | (rw [if_neg (by decide +kernel)]; exact ⟨rfl, rfl⟩))
    (fun os started H enc _ => wireByte_lifted os started H enc)
#print axioms wireByte_proved
end Go.Proofs.Ythnkmjjldggecaa
