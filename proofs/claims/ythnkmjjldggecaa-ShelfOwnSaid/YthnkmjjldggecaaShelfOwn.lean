/- ShelfOwn returns true for every slice of versions, version, Gone, string and batch, on every machine state in which its arguments can be read; no condition. -/
import Derived.Test.YthnkmjjldggecaaMFrame
import Derived.Test.YthnkmjjldggecaaOpenBatch
import Derived.Test.YthnkmjjldggecaaShelfOwnWalk
namespace Go.Proofs.Ythnkmjjldggecaa
open Go.ChangeShapes Go.WideShapes Go.ChangeAt Go.RowKit Go.ChangeMaps
set_option maxRecDepth 100000 in
theorem shelfOwn_lifted (os : Os) (started : os.Started) (H : Type) (enc : TypeId × Value → H) :
    ReturnsInHanded {} Try.checked os 10 .any (Rows.shelfOwnSpec.pre6 enc Try.prog Try.f10 Rows.shelfOwnRow.domain false) (Rows.shelfOwnSpec.post enc Try.prog Try.f10 false true false false) := by
  refine law_of_walk started (by kernel_rfl) Try.func10
    (ChangeSpec.witness6 (enc := enc) (C := Try.checked) false ⟨#[], #[.slice none 0 0, .agg #[.string ByteArray.empty, .int .i64 0, .int .i64 0, .int .i64 0, .int .i64 0, .int .i64 0, .slice none 0 0, .slice none 0 0], .agg #[.string ByteArray.empty, .slice none 0 0, .slice none 0 0], .string ByteArray.empty, .agg #[.int .i64 0, .int .i64 0, .slice none 0 0, .slice none 0 0, .slice none 0 0]], []⟩ 8 (by kernel_rfl) (by kernel_rfl) (by kernel_rfl) (by kernel_rfl)) rfl
    (fun ds h => by match ds, h with | [_, _, _, _, _], _ => rfl) (by kernel_rfl) rfl ?_
  intro W base args ds p hR
  obtain ⟨hval, hA, hlt, hsz⟩ := hR
  rw [Try.params10] at hA hval hsz
  obtain ⟨v0, vs0, d0, ds0, p0, q0, hargs, rfl, rfl, h0, r0⟩ := trodAll_cons hA
  obtain ⟨v1, vs1, d1, ds1, p1, q1, rfl, rfl, rfl, h1, r1⟩ := trodAll_cons r0
  obtain ⟨v2, vs2, d2, ds2, p2, q2, rfl, rfl, rfl, h2, r2⟩ := trodAll_cons r1
  obtain ⟨v3, vs3, d3, ds3, p3, q3, rfl, rfl, rfl, h3, r3⟩ := trodAll_cons r2
  obtain ⟨v4, vs4, d4, ds4, p4, q4, rfl, rfl, rfl, h4, r4⟩ := trodAll_cons r3
  obtain ⟨rfl, rfl, rfl⟩ := trodAll_nil r4
  obtain rfl : args = #[v0, v1, v2, v3, v4] := by cases args; simp_all
  obtain ⟨l0, hl0, hz0⟩ := Rdo.versZ (H := H) (enc := enc) (v := v0) (by have h := Rdo.of_arg (j := 0) hsz rfl rfl h0 (fun x hx => hlt x (by simp [hx])); rwa [okWide_slice_cells Try.underlying60 (hval 0 60 v0 rfl rfl)] at h)
  obtain ⟨u1, x1, vr1, hp1, hk1, hz1⟩ := Rdo.verZ (H := H) (enc := enc) (Rdo.of_arg (j := 1) hsz rfl rfl h1 (fun x hx => hlt x (by simp [hx])))
  have hv1 := okWide_struct_cells Try.underlying109 (hval 1 109 v1 rfl rfl)
  rw [hp1, Array.toArray_toList] at hv1
  subst hv1
  obtain ⟨u2, x2, id2, k2, hp2, hk2, hz2⟩ := Rdo.goneZ (H := H) (enc := enc) (Rdo.of_arg (j := 2) hsz rfl rfl h2 (fun x hx => hlt x (by simp [hx])))
  have hv2 := okWide_struct_cells Try.underlying111 (hval 2 111 v2 rfl rfl)
  rw [hp2] at hv2
  subst hv2
  obtain ⟨a3, rfl, rfl, rfl, wf3⟩ := open_string Try.underlying9 (hval 3 9 v3 rfl rfl) h3
  obtain ⟨bv4, bg4, bp4, b4, hp4, hb4⟩ := Rdo.batch (H := H) (enc := enc) (Rdo.of_arg (j := 4) hsz rfl rfl h4 (fun x hx => hlt x (by simp [hx])))
  have hv4 := okWide_struct_cells Try.underlying64 (hval 4 64 v4 rfl rfl)
  rw [hp4] at hv4
  subst hv4
  exact ShelfOwn_walk v0 l0 vr1 u1 x1 id2 k2 u2 x2 a3 b4 bv4 bg4 bp4 W hl0 hk1 hk2 hb4 hz0 hz1 hz2
set_option maxRecDepth 100000 in
theorem shelfOwn_place : (Rows.shelfOwnRow.inPlace == Try.pinned.checked.prog.inPlace 10) = true := by kernel_rfl
set_option maxRecDepth 100000 in
theorem shelfOwn_unfollowed : (Rows.shelfOwnRow.unfollowed == Try.pinned.checked.prog.unfollowed 10) = true := by kernel_rfl
set_option maxRecDepth 100000 in
theorem shelfOwn_recurses : (Rows.shelfOwnRow.recurses == Try.pinned.checked.prog.recurses 10) = true := by kernel_rfl
set_option maxRecDepth 100000 in
theorem shelfOwn_named : (Rows.shelfOwnRow.named == Try.pinned.checked.prog.varsNamed 10) = true := by kernel_rfl
set_option maxRecDepth 100000 in
theorem shelfOwn_joined : joinedFacts Try.pinned.checked.prog 10 Try.f10 Rows.shelfOwnSpec Rows.shelfOwnRow = true :=
  joined_of (by kernel_rfl) shut_laid shut_rowed (by kernel_rfl) (by kernel_rfl) (by kernel_rfl) shut_stops (by kernel_rfl) shut_knobs shelfOwn_place shelfOwn_unfollowed shelfOwn_recurses shelfOwn_named (by kernel_rfl) (by kernel_rfl) (by kernel_rfl) (by kernel_rfl) (by kernel_rfl) (by kernel_rfl) (by kernel_rfl) (by kernel_rfl) (by kernel_rfl) shut_keys (by kernel_rfl) shut_heard shut_enter shut_lifts shut_make (by kernel_rfl) (by kernel_rfl) (by kernel_rfl) (by kernel_rfl)
set_option maxRecDepth 100000 in
/-- The statement. -/
theorem shelfOwn_proved : Rows.ShelfOwnSaid :=
  OpenClaim.holds_of_wide 10 Try.f10 rfl rfl rfl rfl rfl rfl rfl ⟨rfl, rfl, rfl, rfl, rfl⟩ rfl rfl rfl rfl rfl (by kernel_rfl) Try.func10 shelfOwn_joined
    (of_decide_eq_true (by kernel_rfl)) (by unfold Func.isWrapper; first | (rw [if_pos (by decide +kernel)]; kernel_rfl) | (rw [if_neg (by decide +kernel)]; exact ⟨rfl, rfl⟩))
    (fun os started H enc _ => shelfOwn_lifted os started H enc)
#print axioms shelfOwn_proved
end Go.Proofs.Ythnkmjjldggecaa
